/- Terms for the program's functions, and that they are right: part 4 of 9. -/
import Derived.Test.YtacfmplofkjonaaRf3
import Derived.Deep.Upon
import Derived.Laws.MakeOwn
set_option linter.unusedSimpArgs false
set_option linter.unusedVariables false
set_option linter.unnecessarySimpa false
set_option linter.unusedSectionVars false
/- append: the machine's side. -/
namespace Go.Proofs.Ytacfmplofkjonaa.Rf
set_option linter.unusedVariables false
set_option linter.unusedSimpArgs false

/-- The cells of rows, one behind the other. -/
def cellsL (vs : Nat → Nat → Value) (n sz : Nat) : List Value := (List.range (n * sz)).map fun k => vs (k / sz) (k % sz)
theorem cellsL_len (vs : Nat → Nat → Value) (n sz : Nat) : (cellsL vs n sz).length = n * sz := by simp [cellsL]
theorem cellsL_get (vs : Nat → Nat → Value) {n sz i j : Nat} (hi : i < n) (hj : j < sz) : (cellsL vs n sz)[i * sz + j]? = some (vs i j) := by
  have hlt : i * sz + j < n * sz := by
    have := Nat.mul_le_mul_right sz (show i + 1 ≤ n by omega)
    rw [Nat.add_mul] at this
    omega
  unfold cellsL
  rw [List.getElem?_map, List.getElem?_range hlt, Option.map_some]
  rw [Nat.mul_comm i sz, Nat.mul_add_div (by omega), Nat.div_eq_of_lt hj, Nat.mul_add_mod, Nat.mod_eq_of_lt hj, Nat.add_zero]
theorem cellsL_idx {vs : Nat → Nat → Value} {n sz k : Nat} {u : Value} (h : (cellsL vs n sz)[k]? = some u) : k / sz < n ∧ k % sz < sz ∧ k = k / sz * sz + k % sz ∧ u = vs (k / sz) (k % sz) := by
  have hlt : k < n * sz := by
    have := (List.getElem?_eq_some_iff.1 h).1
    rwa [cellsL_len] at this
  have hsz : 0 < sz := by
    rcases Nat.eq_zero_or_pos sz with e | e
    · rw [e] at hlt; simp at hlt
    · exact e
  refine ⟨(Nat.div_lt_iff_lt_mul hsz).2 hlt, Nat.mod_lt _ hsz, ?_, ?_⟩
  · rw [Nat.mul_comm]; exact (Nat.div_add_mod k sz).symm
  · unfold cellsL at h
    rw [List.getElem?_map, List.getElem?_range hlt, Option.map_some] at h
    exact (Option.some.inj h).symm

section
variable {P : Program} {E : Env} {F : Frame0} {n : Nat} {σ : Nat → Option Cont} {ρ : List D} {a : Act} {w w' : World} {G G' : Gh} {g : Option (Atom × Bool)} {o : Oper} {cf : Nat → List D → Option (List D)} {Q : Exit → Act → World → Prop} {next : Act → World → Prop}

/-- Rows in memory: their cells, one by one. -/
theorem rows_cells {rs : List (List D)} {sz : Nat} {b : Addr} {vs : Nat → Nat → Value} (hsz : ∀ r ∈ rs, r.length = sz)
    (hcell : ∀ i row, rs[i]? = some row → ∀ j d, row[j]? = some d → w.cell? (b.add (i * sz + j)) = some (vs i j)) : ∀ k u, (cellsL vs rs.length sz)[k]? = some u → w.cell? (b.add k) = some u := by
  intro k u h
  obtain ⟨h1, h2, h3, rfl⟩ := cellsL_idx h
  have hr : rs[k / sz]? = some rs[k / sz] := List.getElem?_eq_getElem h1
  have hl := hsz _ (List.mem_of_getElem? hr)
  have hd : rs[k / sz][k % sz]? = some (rs[k / sz][k % sz]'(by omega)) := List.getElem?_eq_getElem (by omega)
  have := hcell _ _ hr _ _ hd
  rwa [← h3] at this

theorem drew_cell (w : World) (b : Addr) : w.drew.cell? b = w.cell? b := rfl

/-- What append does: the cells behind, in place or in a new row. -/
structure AppOk (w w1 : World) (G : Gh) (A : Option Addr) (n n' cap sz : Nat) (olds news : List Value) (v : Value) (A' : Option Addr) (cb : Addr) (cap' : Nat) (grow : Bool) : Prop where
  val : v = .slice A' (n + n') cap'
  aval : A' = some cb ∨ (A' = none ∧ cap' = 0)
  le : n + n' ≤ cap'
  os : w1.os = w.os ∧ w1.tape = w.tape ∧ w1.output = w.output
  size : w1.heap.size = w.heap.size + (if grow = true then 1 else 0)
  heap : ∀ b, b < w.heap.size → (grow = true ∨ A' = none ∨ b ≠ cb.block) → w1.heap[b]? = w.heap[b]?
  cell : ∀ k u, (olds ++ news)[k]? = some u → w1.cell? (cb.add k) = some u
  all : ∀ k, k < cap' * sz → ∃ u, w1.cell? (cb.add k) = some u ∧ w1.frozen? (cb.add k) = false
  spot : cb.spot = none
  base : (grow = true ∧ A' = some cb ∧ cb.block = w.heap.size) ∨ (grow = false ∧ A' = some cb ∧ A = some cb) ∨ (grow = false ∧ A' = none)

theorem run_append_op {t tx e : TypeId} {ti : TI} {info : TypeInfo} {u u' : TypeDesc} {x y : Operand} {args : Array Operand} {argTypes : Array TypeId} (ho : o.op = .call { callee := .builtin .append, args, argTypes })
    (hargs : args.toList = [x, y]) (hat : argTypes = #[t, tx]) (hu : P.underlying t = some (.slice e)) (f : TiFacts P e ti info u) (hx : P.underlying tx = some u') (hx' : ∃ e', u' = .slice e')
    {A : Option Addr} {n cap n' : Nat} {b : Addr} {olds news : List Value} (hxv : a.eval x = .slice A n cap) (hnc : n ≤ cap) (hA : (A = some b ∧ b.spot = none) ∨ (A = none ∧ cap = 0))
    (hol : olds.length = n * ti.size) (hocell : ∀ k u, olds[k]? = some u → w.cell? (b.add k) = some u) (hall : A = some b → ∀ k, k < cap * ti.size → ∃ u, w.cell? (b.add k) = some u ∧ w.frozen? (b.add k) = false)
    {By : Option Addr} {by' : Addr} {capy : Nat} (hyv : a.eval y = .slice By n' capy) (hBy : n' = 0 ∨ By = some by') (hnl : news.length = n' * ti.size) (hncell : ∀ k u, news[k]? = some u → w.cell? (by'.add k) = some u) (hn1 : ∀ u ∈ news, u.oneCell' = true)
    (hb0 : 0 < ti.bytes) (hs0 : 0 < ti.size) (hfit : (n + n') * ti.bytes ≤ boundB) :
    ∃ v w1 A' cb cap' grow, (execOp a.eval o).run P w = .ok (.value v) w1 ∧ AppOk w w1 G A n n' cap ti.size olds news v A' cb cap' grow := by
  obtain ⟨e', rfl⟩ := hx'
  have hsrc : Src P ti.size tx (.slice By n' capy) n' news w := by
    rcases hBy with rfl | rfl
    · have : news = [] := List.eq_nil_of_length_eq_zero (by simpa using hnl)
      subst this
      cases By with
      | none => exact Src.ofNil w hx capy
      | some b1 => exact Src.ofSlice w hx b1 0 capy [] (by simp) (by simp) (by simp)
    · exact Src.ofSlice w hx by' n' capy news hnl hncell hn1
  have hop : ∀ {v : Value} {w1 : World}, (Builtin.append_ #[t, tx] o.type #[.slice A n cap, .slice By n' capy]).run P w = .ok v w1 → (execOp a.eval o).run P w = .ok (.value v) w1 := by
    intro v w1 h
    refine run_builtin ho (s := Builtin.append_ argTypes o.type (args.map a.eval)) (fun _ => rfl) ?_
    rw [args_two hargs, map_two, hxv, hyv, hat]
    exact h
  have hsz : info.size = ti.size := f.size.symm
  have hby : info.bytes = ti.bytes := f.bytes.symm
  by_cases hroom : n + n' ≤ cap
  · rcases hA with ⟨rfl, hsp⟩ | ⟨rfl, h0⟩
    · -- in place
      have hbb : b = ⟨b.block, b.off, none⟩ := by cases b; simp only at hsp; subst hsp; rfl
      have hcells : ∀ j, j < news.length → ∃ u, w.cell? ⟨b.block, b.off + n * ti.size + j, none⟩ = some u ∧ w.frozen? ⟨b.block, b.off + n * ti.size + j, none⟩ = false := fun j hj => by
        have := hall rfl (n * ti.size + j) (by
          have := Nat.mul_le_mul_right ti.size hroom
          rw [Nat.add_mul] at this
          omega)
        rw [add_plain hsp, ← Nat.add_assoc] at this
        exact this
      have hrun := run_append_room_src (P := P) w t tx o.type e info hu f.info_ b.block b.off n cap (.slice By n' capy) n' news (by rw [hsz]; exact hsrc) hroom
        (fun j hj => by rw [hsz]; obtain ⟨u, h1, -⟩ := hcells j hj; rw [h1]; rfl) (fun j hj => by rw [hsz]; exact (hcells j hj).choose_spec.2)
      rw [← hbb, hsz] at hrun
      refine ⟨_, _, some b, b, cap, false, hop hrun, rfl, .inl rfl, hroom, setCells_rest _ _ _ _, by rw [setCells_size]; simp, fun b' _ hb' => ?_, fun k u hk => ?_, fun k hk => ?_, hsp, .inr (.inl ⟨rfl, rfl, rfl⟩)⟩
      · rcases hb' with hb' | hb' | hb'
        · cases hb'
        · cases hb'
        · exact setCells_other _ _ _ _ _ hb'
      · by_cases hlt : k < olds.length
        · rw [List.getElem?_append_left hlt] at hk
          rw [add_plain hsp, World.cell?_setCells_out _ _ _ _ _ (fun _ _ => .inl (by dsimp only; omega)), ← add_plain hsp]
          exact hocell k u hk
        · rw [List.getElem?_append_right (by omega)] at hk
          have hkl := (List.getElem?_eq_some_iff.1 hk).1
          have := World.cell?_setCells_in b.block news (b.off + n * ti.size) w (fun j hj => by obtain ⟨u, h1, -⟩ := hcells j hj; rw [h1]; rfl) (k - olds.length) hkl
          rw [show b.off + n * ti.size + (k - olds.length) = b.off + k by omega] at this
          rw [add_plain hsp, this, ← hk, List.getElem?_eq_getElem]
      · obtain ⟨u0, hu0, hf0⟩ := hall rfl k hk
        rw [World.frozen?_setCells]
        obtain ⟨u1, hu1⟩ := setCells_cell (B := b.block) (o := b.off + n * ti.size) (vs := news) (b := b.add k) (fun _ => by rw [add_plain hsp]) (fun j hj => by obtain ⟨u, h1, -⟩ := hcells j hj; rw [h1]; rfl) hu0
        exact ⟨u1, hu1, hf0⟩
    · -- nothing
      have hn0 : n = 0 := by omega
      have hn0' : n' = 0 := by omega
      subst hn0 hn0' h0
      have : news = [] := List.eq_nil_of_length_eq_zero (by simpa using hnl)
      subst this
      have : olds = [] := List.eq_nil_of_length_eq_zero (by simpa using hol)
      subst this
      refine ⟨_, _, none, ⟨0, 0, none⟩, 0, false, hop (run_append_nothing w t tx o.type e info hu f.info_ none 0 0 (Nat.le_refl _) _ (by rw [hsz]; exact hsrc)), rfl, .inr ⟨rfl, rfl⟩, Nat.le_refl _, ⟨rfl, rfl, rfl⟩, by simp, fun _ _ _ => rfl, by simp, by simp, rfl, .inr (.inr ⟨rfl, rfl⟩)⟩
  · -- a new row
    obtain ⟨z, hz1, hz2, -, -⟩ := f.zeros (σ := fun _ => none) (ρ := []) (G := G) (w := w)
    have hzl : z.cells.size = ti.size := by rw [← Array.length_toList, hz2.len, List.length_map, f.len]
    have hold : (Builtin.firstCells info.size n (.slice A n cap)).run P w.drew = .ok olds.toArray w.drew := by
      rcases hA with ⟨rfl, hsp⟩ | ⟨rfl, h0⟩
      · exact run_firstCells_some w.drew info.size n b n cap olds (by rw [hsz]; exact hol) (fun j u hj => hocell j u hj)
      · have hn0 : n = 0 := by omega
        subst hn0
        have : olds = [] := List.eq_nil_of_length_eq_zero (by simpa using hol)
        subst this
        rfl
    have h1 : (n + n') * 1 ≤ (n + n') * ti.bytes := Nat.mul_le_mul_left _ hb0
    have hns := nextslicecap_le (show cap < n + n' by omega)
    have hfit2 : Builtin.nextslicecap (n + n') cap * info.bytes ≤ 281474976710656 := by
      rw [hby]
      have h2 := Nat.mul_le_mul_right ti.bytes hns
      rw [Nat.mul_assoc] at h2
      unfold boundB at hfit
      omega
    have hrun := run_append_grow_src (P := P) w t tx o.type e info z hu f.info_ hz1 A n cap olds hold (.slice By n' capy) n' news (by rw [hsz]; exact hsrc) (by omega) (by unfold boundB at hfit; omega) hfit2
    have hge := grownCap_ge w (n + n') cap e
    generalize hgc : grownCap w (n + n') cap e = gc at hrun hge
    have hnb : ∀ b', b' ≠ w.heap.size → (w.drew.alloc (.cells ((olds ++ news).toArray ++ Builtin.zeroCells z.cells (gc - (n + n'))) e)).heap[b']? = w.heap[b']? := fun b' hb' => by
      show (w.heap.push _)[b']? = _
      rw [Array.getElem?_push, if_neg hb']
    have hnew : (w.drew.alloc (.cells ((olds ++ news).toArray ++ Builtin.zeroCells z.cells (gc - (n + n'))) e)).heap[w.heap.size]? = some (.cells ((olds ++ news).toArray ++ Builtin.zeroCells z.cells (gc - (n + n'))) e (0, 0)) := by
      show (w.heap.push _)[w.heap.size]? = _
      rw [Array.getElem?_push, if_pos rfl]
    have hcell : ∀ k, (w.drew.alloc (.cells ((olds ++ news).toArray ++ Builtin.zeroCells z.cells (gc - (n + n'))) e)).cell? ((⟨w.heap.size, 0, none⟩ : Addr).add k) = ((olds ++ news).toArray ++ Builtin.zeroCells z.cells (gc - (n + n')))[k]? := fun k => by
      unfold World.cell?
      rw [add_block, hnew]
      simp [Addr.add]
      split <;> simp_all
    refine ⟨_, _, some ⟨w.heap.size, 0, none⟩, ⟨w.heap.size, 0, none⟩, gc, true, hop hrun, rfl, .inl rfl, hge, ⟨rfl, rfl, rfl⟩, by show (w.heap.push _).size = _; rw [Array.size_push, if_pos rfl], fun b' hlt _ => hnb b' (by omega), fun k u hk => ?_, fun k hk => ?_, rfl, .inl ⟨rfl, rfl, rfl⟩⟩
    · have hlt := (List.getElem?_eq_some_iff.1 hk).1
      rw [hcell, Array.getElem?_append_left (by simpa using hlt)]
      simpa using hk
    · have hsize : ((olds ++ news).toArray ++ Builtin.zeroCells z.cells (gc - (n + n'))).size = gc * ti.size := by
        simp only [Array.size_append, List.size_toArray, List.length_append, Builtin.zeroCells, Array.size_map, Array.size_range]
        rw [hol, hnl, hzl, ← Nat.add_mul, ← Nat.add_mul]
        congr 1
        omega
      rw [hcell]
      refine ⟨_, Array.getElem?_eq_getElem (by omega), ?_⟩
      unfold World.frozen?
      rw [add_block, hnew]
      simp
end
end Go.Proofs.Ytacfmplofkjonaa.Rf

/- append: what each side is. -/
namespace Go.Proofs.Ytacfmplofkjonaa.Rf
set_option linter.unusedVariables false
set_option linter.unusedSimpArgs false

section
variable {P : Program} {E : Env} {F : Frame0} {n : Nat} {σ : Nat → Option Cont} {ρ : List D} {a : Act} {w w' : World} {G G' : Gh} {g : Option (Atom × Bool)} {o : Oper} {cf : Nat → List D → Option (List D)} {Q : Exit → Act → World → Prop} {next : Act → World → Prop}

structure Side (w : World) (v : Value) (rs : List (List D)) (sz : Nat) (A : Option Addr) (b : Addr) (n cap : Nat) (vs : Nat → Nat → Value) : Prop where
  val : v = .slice A n cap
  len : rs.length = n
  le : n ≤ cap
  rows : ∀ r ∈ rs, r.length = sz
  cell : ∀ i row, rs[i]? = some row → ∀ j d, row[j]? = some d → w.cell? (b.add (i * sz + j)) = some (vs i j)

/-- A cell of what is appended. -/
def ChY (G : Gh) (w : World) (fzl : List Nat) (mvY : Option Nat) (dy : Nat) (v : Value) (d : D) (idx : Nat) : Prop :=
  Sc v d ∨ (∃ s, mvY = some s ∧ 2 ≤ dy ∧ Rp G.own w s [idx] (dy - 1) v d) ∨ (dy = 1 ∧ Rd (fun b => G.own b = .frz ∨ ∃ r p, r ∈ fzl ∧ G.own b = .slc r p) w v d)

structure YOk (σ : Nat → Option Cont) (G : Gh) (w : World) (fl : Bool) (v : Value) (rb : List (List D)) (sz dy : Nat) (updY : List (Nat × Cont)) (ry : List Nat) (fzl : List Nat) (mvY : Option Nat) : Prop where
  side : ∃ A b n cap vs, Side w v rb sz A b n cap vs ∧ (n = 0 ∨ A = some b) ∧ ∀ i row, rb[i]? = some row → ∀ j d, row[j]? = some d → ChY G w fzl mvY dy (vs i j) d (i * sz + j)
  upd : ∀ k c, (k, c) ∈ updY → ∃ s, k = kR s ∧ s ∈ ry ∧ ((mvY = some s ∧ c = .root (.c .hole) 0 0 .gone ∧ ∃ x m ver, σ (kR s) = some (.root x m ver .live)) ∨ (s ∈ fzl ∧ ∃ x m ver, c = .root x m ver .frozen ∧ σ (kR s) = some (.root x m ver .live)))
  fz : ∀ s ∈ fzl, s ∈ ry ∧ ((∃ c, (kR s, c) ∈ updY) ∨ ∃ x m ver, σ (kR s) = some (.root x m ver .frozen))
  mv : ∀ s, mvY = some s → s ∈ ry ∧ (∃ c, (kR s, c) ∈ updY) ∧ s ∉ fzl
  dy : 1 ≤ dy
  flat : fl = true → updY = [] ∧ fzl = [] ∧ mvY = none

theorem Rd.side {ok : Nat → Prop} {v : Value} {sz : Nat} {rs : List (List D)} (h : Rd ok w v (.rows sz rs)) : ∃ A b n cap vs, Side w v rs sz A b n cap vs ∧ (n = 0 ∨ A = some b) ∧ ∀ i row, rs[i]? = some row → ∀ j d, row[j]? = some d → Rd ok w (vs i j) d := by
  obtain ⟨A, b, n, c, vs, e1, e2, e3, e4, e5, e6, e7⟩ := h.inv
  exact ⟨A, b, n, c, vs, ⟨e1, e2, e3, e5, fun i row hi j d hj => (e6 i row hi j d hj).2⟩, e4, e7⟩

theorem ySide (hR : R E.ntmps F σ ρ a w G) {fl : Bool} {y : SlR} {v : Value} (hy : SlRep σ ρ G w y v) {sz : Nat} {rb : List (List D)} (hx : y.x.val ρ = .rows sz rb) (hfl : fl = true → ∀ r ∈ rb, ∀ d ∈ r, d.isSc = true)
    {dy : Nat} {updY : List (Nat × Cont)} {ry : List Nat} (h : (sxAppY fl y).eval σ = some (dy, updY, ry)) : ∃ fzl mvY, YOk σ G w fl v rb sz dy updY ry fzl mvY := by
  have hrd := hy.rd
  rw [hx] at hrd
  unfold sxAppY at h
  cases fl with
  | true =>
    simp only [cond_true, eval_ret, Option.some.injEq, Prod.mk.injEq] at h
    obtain ⟨rfl, rfl, rfl⟩ := h
    refine ⟨[], none, ?_, by simp, by simp, by simp, by decide, fun _ => ⟨rfl, rfl, rfl⟩⟩
    obtain ⟨A, b, n, c, vs, h1, h2, h3⟩ := hrd.side
    exact ⟨A, b, n, c, vs, h1, h2, fun i row hi j d hj => .inl ((h3 i row hi j d hj).sc_inv (hfl rfl row (List.mem_of_getElem? hi) d (List.mem_of_getElem? hj)))⟩
  | false =>
    simp only [cond_false] at h
    have hown := hy.own
    unfold OwnRep at hown
    -- frozen roots
    have frozen : ∀ rs fr, (freezeAll rs).eval σ = some fr → Rd (fun b => G.own b = .frz ∨ ∃ r p, r ∈ rs ∧ G.own b = .slc r p) w v (.rows sz rb) → YOk σ G w false v rb sz 1 fr rs rs none := by
      intro rs fr hfr hrd
      obtain ⟨h1, h2⟩ := freezeAll_rep hfr
      refine ⟨?_, fun k c hc => ?_, fun s hs => ⟨hs, ?_⟩, by simp, Nat.le_refl _, by simp⟩
      · obtain ⟨A, b, n, c, vs, h3, h4, h5⟩ := hrd.side
        exact ⟨A, b, n, c, vs, h3, h4, fun i row hi j d hj => .inr (.inr ⟨rfl, h5 i row hi j d hj⟩)⟩
      · obtain ⟨s, hs, x, m, ver, e1, e2, e3⟩ := h2 k c hc
        exact ⟨s, e1, hs, .inr ⟨hs, x, m, ver, e2, e3⟩⟩
      · rcases h1 s hs with ⟨x, m, ver, e1, e2⟩ | h3
        · exact .inl ⟨_, e2⟩
        · exact .inr h3
    split at h
    · rename_i r k m ho
      rw [ho] at hown
      obtain ⟨h1, ⟨x, h2⟩, h3, h4, h5⟩ := hown
      simp only [pathVal, List.map_nil, List.length_nil, Nat.sub_zero] at h4
      rw [hx] at h4
      cases hb : Nat.ble 2 m with
      | true =>
        rw [hb] at h
        simp only [cond_true, eval_ret, Option.some.injEq, Prod.mk.injEq] at h
        obtain ⟨rfl, rfl, rfl⟩ := h
        simp only [Nat.ble_eq] at hb
        obtain ⟨m', rfl⟩ : ∃ m', m = m' + 1 := ⟨m - 1, by omega⟩
        obtain ⟨A, b, n, c, vs, e1, e2, e3, e4, e5, e6, e7, e8⟩ := h4.sl_inv
        refine ⟨[], some r, ⟨A, b, n, c, vs, ⟨e1, e2, e3, e5, e7⟩, ?_, fun i row hi j d hj => .inr (.inl ⟨r, rfl, hb, by simpa using e8 i row hi j d hj⟩)⟩, fun k' c' hc => ?_, by simp, fun s hs => ?_, by omega, by simp⟩
        · rcases e4 with e4 | ⟨e4, e4'⟩
          · exact .inr e4
          · exact .inl (by omega)
        · simp only [List.mem_singleton, Prod.mk.injEq] at hc
          exact ⟨r, hc.1, by simp, .inl ⟨rfl, hc.2, x, _, k, h2⟩⟩
        · obtain rfl := Option.some.inj hs
          exact ⟨by simp, ⟨_, List.mem_singleton.2 rfl⟩, by simp⟩
      | false =>
        rw [hb] at h
        simp only [cond_false, eval_ret, Option.some.injEq, Prod.mk.injEq] at h
        obtain ⟨rfl, rfl, rfl⟩ := h
        have hm : m ≤ 1 := by
          have : ¬ 2 ≤ m := by rw [← Nat.ble_eq, hb]; simp
          omega
        refine ⟨[], none, ?_, by simp, by simp, by simp, Nat.le_refl _, by simp⟩
        rcases Nat.eq_zero_or_pos m with rfl | hpos
        · obtain ⟨A, b, n, c, vs, h6, h7, h8⟩ := h4.zero.side
          exact ⟨A, b, n, c, vs, h6, h7, fun i row hi j d hj => .inr (.inr ⟨rfl, (h8 i row hi j d hj).mono fun b hb => ⟨.inl hb, rfl⟩⟩)⟩
        · obtain rfl : m = 0 + 1 := by omega
          obtain ⟨A, b, n, c, vs, e1, e2, e3, e4, e5, e6, e7, e8⟩ := h4.sl_inv
          refine ⟨A, b, n, c, vs, ⟨e1, e2, e3, e5, e7⟩, ?_, fun i row hi j d hj => .inr (.inr ⟨rfl, (e8 i row hi j d hj).zero.mono fun b hb => ⟨.inl hb, rfl⟩⟩)⟩
          rcases e4 with e4 | ⟨e4, e4'⟩
          · exact .inr e4
          · exact .inl (by omega)
    · rename_i r k m p hne ho
      rw [ho] at hown
      simp only [eval_bind, Option.bind_eq_some_iff, eval_ret, Option.some.injEq, Prod.mk.injEq] at h
      obtain ⟨fr, h6, rfl, rfl, rfl⟩ := h
      refine ⟨[r], none, frozen _ _ h6 ?_⟩
      refine hrd.mono fun b hb => ⟨hb.imp id fun ⟨r', k', p', h7, h8⟩ => ?_, rfl⟩
      rw [hown.1] at h7
      simp only [List.mem_singleton, Prod.mk.injEq] at h7
      exact ⟨r, p', by simp, h7.1 ▸ h8⟩
    · split at h
      · rename_i z hz
        simp only [eval_ret, Option.some.injEq, Prod.mk.injEq] at h
        obtain ⟨rfl, rfl, rfl⟩ := h
        rw [hz] at hx
        simp only [Atom.val, D.rows.injEq] at hx
        obtain ⟨rfl, rfl⟩ := hx
        refine ⟨[], none, ?_, by simp, by simp, by simp, by decide, by simp⟩
        obtain ⟨A, b, n, c, vs, h1, h2, h3⟩ := hrd.side
        exact ⟨A, b, n, c, vs, h1, h2, by simp⟩
      · simp only [eval_bind, Option.bind_eq_some_iff, eval_ret, Option.some.injEq, Prod.mk.injEq] at h
        obtain ⟨fr, h6, rfl, rfl, rfl⟩ := h
        refine ⟨y.deps.map (·.1), none, frozen _ _ h6 ?_⟩
        exact hrd.mono fun b hb => ⟨hb.imp id fun ⟨r', k', p', h7, h8⟩ => ⟨r', p', List.mem_map_of_mem (f := fun x : Nat × Nat => x.1) h7, h8⟩, rfl⟩
end
end Go.Proofs.Ytacfmplofkjonaa.Rf

/- append: the state behind it. -/
namespace Go.Proofs.Ytacfmplofkjonaa.Rf
set_option linter.unusedVariables false
set_option linter.unusedSimpArgs false

def appF (fzl : List Nat) (mvY : Option Nat) (nsz : Nat) (src : Option (Nat × List Nat × Nat)) (nr M : Nat) (s : Nat) (p : List Nat) : Ow :=
  if s ∈ fzl then .frz else if mvY = some s then (match p with
    | k :: t => cutP nr M ((nsz + k) :: t)
    | [] => .frz) else
  match src with
  | some (r, pq, mr) => if s = r then (if pq <+: p then cutP nr M (p.drop pq.length) else cutP r mr p) else .slc s p
  | none => .slc s p

section
variable {P : Program} {E : Env} {F : Frame0} {n : Nat} {σ : Nat → Option Cont} {ρ : List D} {a : Act} {w w' : World} {G G' : Gh} {g : Option (Atom × Bool)} {o : Oper} {cf : Nat → List D → Option (List D)} {Q : Exit → Act → World → Prop} {next : Act → World → Prop}

/-- What is appended to. -/
structure XOk (σ : Nat → Option Cont) (ρ : List D) (G : Gh) (w : World) (v : Value) (ra : List (List D)) (sz m : Nat) (updX : List (Nat × Cont)) (src : Option (Nat × List Nat × Nat)) (A : Option Addr) (b : Addr) (n cap : Nat) (vs : Nat → Nat → Value) : Prop where
  side : Side w v ra sz A b n cap vs
  base : (A = some b ∧ b.spot = none) ∨ (A = none ∧ cap = 0)
  own : A = some b → ∃ r pq mr, src = some (r, pq, mr) ∧ G.own b.block = .slc r pq
  all : A = some b → ∀ k, k < cap * sz → ∃ u, w.cell? (b.add k) = some u ∧ w.frozen? (b.add k) = false
  ch : ∀ i row, ra[i]? = some row → ∀ j d, row[j]? = some d → ∃ r pq mr, src = some (r, pq, mr) ∧ Rp G.own w r (pq ++ [i * sz + j]) (m - 1) (vs i j) d
  m : 1 ≤ m
  upd : (src = none ∧ updX = []) ∨ ∃ r pq mr X k, src = some (r, pq, mr) ∧ σ (kR r) = some (.root X mr k .live) ∧
    ((pq = [] ∧ updX = [(kR r, .root (.c .hole) 0 0 .gone)]) ∨ (∃ X', updX = [(kR r, .root X' mr (k + 1) .live)] ∧ Upd pq (X.val ρ) .hole (X'.val ρ) ∧ Nest G.own w r [] (G.hdr r) pq v ∧ pq.length < mr))

theorem app_core (hR : R E.ntmps F σ ρ a w G) (hd : DstOk E.ntmps o) {nb nr : Nat} (hf : Fresh σ nb nr) {fl : Bool} {vx vy v : Value} {ra rb : List (List D)} {sz m dy M : Nat} {updX updY : List (Nat × Cont)} {src : Option (Nat × List Nat × Nat)} {ry fzl : List Nat} {mvY : Option Nat}
    {A By : Option Addr} {b by' : Addr} {n n' cap capy : Nat} {vs vsy : Nat → Nat → Value}
    (hX : XOk σ ρ G w vx ra sz m updX src A b n cap vs) (hY : YOk σ G w fl vy rb sz dy updY ry fzl mvY)
    (hYs : Side w vy rb sz By by' n' capy vsy) (hYc : ∀ i row, rb[i]? = some row → ∀ j d, row[j]? = some d → ChY G w fzl mvY dy (vsy i j) d (i * sz + j))
    {w1 : World} {A' : Option Addr} {cb : Addr} {cap' : Nat} {grow : Bool} (hA : AppOk w w1 G A n n' cap sz (cellsL vs n sz) (cellsL vsy n' sz) v A' cb cap' grow)
    (hsc : fl = true → ∀ r ∈ ra ++ rb, ∀ d ∈ r, d.isSc = true) (hM1 : 1 ≤ M) (hM : fl = false → M ≤ m ∧ M ≤ dy)
    (hdisj : ∀ r pq mr, src = some (r, pq, mr) → r ∉ ry ∨ fl = true) {y : Atom} (hy : y.val ρ = .rows sz (ra ++ rb)) :
    ∃ G', R E.ntmps F (upds σ (dstUpd o none (.one (.ex nr)) ++ ((kR nr, .root y M 0 .live) :: updX ++ updY))) ρ (a.put o.dst v) w1 G' := by
  obtain ⟨M, rfl⟩ : ∃ M', M = M' + 1 := ⟨M - 1, by omega⟩
  have hnrσ : σ (kR nr) = none := hf.nr nr (Nat.le_refl _) (by unfold maxRoots; omega)
  have hslt : ∀ b, G.own b ≠ .frz → b < w.heap.size := fun b hb => by
    rcases Nat.lt_or_ge b w.heap.size with h | h
    · exact h
    · exact absurd (hR.frame.fresh b h) hb
  -- the source's root is none of y's
  have hsrcY : ∀ r pq mr, src = some (r, pq, mr) → r ∉ fzl ∧ mvY ≠ some r := by
    intro r pq mr e
    rcases hdisj r pq mr e with h | h
    · exact ⟨fun hh => h (hY.fz r hh).1, fun hh => h (hY.mv r hh).1⟩
    · obtain ⟨-, h2, h3⟩ := hY.flat h
      rw [h2, h3]
      simp
  have hsrcσ : ∀ r pq mr, src = some (r, pq, mr) → ∃ X k, σ (kR r) = some (.root X mr k .live) ∧ ∃ c, (kR r, c) ∈ updX := by
    intro r pq mr e
    rcases hX.upd with ⟨h1, -⟩ | ⟨r', pq', mr', X, k, h1, h2, h3⟩
    · rw [h1] at e; cases e
    · rw [h1] at e
      obtain ⟨rfl, rfl, rfl⟩ : r' = r ∧ pq' = pq ∧ mr' = mr := by injection e with e; injection e with e1 e; injection e with e2 e3; exact ⟨e1, e2, e3⟩
      refine ⟨X, k, h2, ?_⟩
      rcases h3 with ⟨-, h3⟩ | ⟨X', h3, -⟩ <;> exact ⟨_, by rw [h3]; exact List.mem_singleton.2 rfl⟩
  -- the written block
  have hcbo : grow = false → A' ≠ none → ∃ r pq mr, src = some (r, pq, mr) ∧ G.own cb.block = .slc r pq := by
    intro hg hne
    rcases hA.base with ⟨h1, -⟩ | ⟨-, -, h2⟩ | ⟨-, h2⟩
    · rw [hg] at h1; cases h1
    · rcases hX.base with ⟨h3, h4⟩ | ⟨h3, -⟩
      · rw [h2] at h3
        obtain rfl := Option.some.inj h3
        exact hX.own h2
      · rw [h2] at h3; cases h3
    · exact absurd h2 hne
  have hheap : ∀ b, b < w.heap.size → (∀ r pq mr, src = some (r, pq, mr) → G.own b ≠ .slc r pq) → w1.heap[b]? = w.heap[b]? := by
    intro b' hlt hb'
    refine hA.heap b' hlt ?_
    cases hg : grow with
    | true => exact .inl rfl
    | false =>
      by_cases hne : A' = none
      · exact .inr (.inl hne)
      · obtain ⟨r, pq, mr, h1, h2⟩ := hcbo hg hne
        exact .inr (.inr fun e => hb' r pq mr h1 (e ▸ h2))
  generalize hown : (fun b' => if b' = w.heap.size then (if grow = true then Ow.slc nr [] else .frz) else renB (appF fzl mvY (n * sz) src nr (M + 1)) (G.own b')) = own'
  have hown' : ∀ b' s p, G.own b' = .slc s p → own' b' = appF fzl mvY (n * sz) src nr (M + 1) s p := fun b' s p hb => by
    have := hslt b' (by rw [hb]; simp)
    rw [← hown]
    dsimp only
    rw [if_neg (by omega), hb]
    rfl
  have hz : ∀ b', G.own b' = .frz → b' < w.heap.size → own' b' = .frz ∧ w1.heap[b']? = w.heap[b']? := fun b' hb hlt => by
    refine ⟨?_, hheap b' hlt fun _ _ _ _ => by rw [hb]; simp⟩
    rw [← hown]
    dsimp only
    rw [if_neg (by omega), hb]
    rfl
  have hFfz : ∀ s ∈ fzl, ∀ p, appF fzl mvY (n * sz) src nr (M + 1) s p = .frz := fun s hs p => by
    unfold appF; rw [if_pos hs]
  have hFsrc : ∀ r pq mr, src = some (r, pq, mr) → ∀ p, appF fzl mvY (n * sz) src nr (M + 1) r p = if pq <+: p then cutP nr (M + 1) (p.drop pq.length) else cutP r mr p := fun r pq mr e p => by
    obtain ⟨h1, h2⟩ := hsrcY r pq mr e
    unfold appF
    rw [if_neg h1, if_neg h2, e]
    simp
  have hneY : ∀ s, s ∈ ry → fl = false → ∀ r pq mr, src = some (r, pq, mr) → s ≠ r := fun s hs hfl r pq mr e h => by
    rcases hdisj r pq mr e with h1 | h1
    · exact h1 (h ▸ hs)
    · rw [hfl] at h1; cases h1
  -- the cells of the new whole
  have hold : ∀ i row, ra[i]? = some row → ∀ j d, row[j]? = some d → w1.cell? (cb.add (i * sz + j)) = some (vs i j) ∧ Rp own' w1 nr [i * sz + j] M (vs i j) d := by
    intro i row hi j d hj
    have hil : i < n := by rw [← hX.side.len]; exact (List.getElem?_eq_some_iff.1 hi).1
    have hjl : j < sz := by
      have := (List.getElem?_eq_some_iff.1 hj).1
      rwa [hX.side.rows row (List.mem_of_getElem? hi)] at this
    refine ⟨hA.cell _ _ (by rw [List.getElem?_append_left]; exact cellsL_get vs hil hjl; exact (List.getElem?_eq_some_iff.1 (cellsL_get vs hil hjl)).1), ?_⟩
    obtain ⟨r, pq, mr, e, h1⟩ := hX.ch i row hi j d hj
    cases hfl : fl with
    | true => exact .sc (h1.sc_inv (hsc hfl row (List.mem_append_left _ (List.mem_of_getElem? hi)) d (List.mem_of_getElem? hj)))
    | false =>
      obtain ⟨h2, h3⟩ := hM hfl
      refine h1.move hz _ M (by omega) fun b' t hb => ⟨?_, hheap b' (hslt b' (by rw [hb]; simp)) fun r' pq' mr' e' hh => ?_⟩
      · rw [hown' b' _ _ hb, hFsrc r pq mr e, if_pos (by rw [List.append_assoc]; exact List.prefix_append _ _), List.append_assoc, List.drop_left, cutP]
        simp only [List.length_append, List.length_singleton]
        by_cases ht : t.length < M
        · rw [if_pos ht, if_pos (by omega)]
        · rw [if_neg ht, if_neg (by omega)]
      · rw [e] at e'
        obtain ⟨rfl, rfl, rfl⟩ : r = r' ∧ pq = pq' ∧ mr = mr' := by injection e' with e; injection e with e1 e; injection e with e2 e3; exact ⟨e1, e2, e3⟩
        rw [hb] at hh
        injection hh with _ hh
        have := congrArg List.length hh
        simp at this
  have hnew : ∀ i row, rb[i]? = some row → ∀ j d, row[j]? = some d → w1.cell? (cb.add ((n + i) * sz + j)) = some (vsy i j) ∧ Rp own' w1 nr [(n + i) * sz + j] M (vsy i j) d := by
    intro i row hi j d hj
    have hil : i < n' := by rw [← hYs.len]; exact (List.getElem?_eq_some_iff.1 hi).1
    have hjl : j < sz := by
      have := (List.getElem?_eq_some_iff.1 hj).1
      rwa [hYs.rows row (List.mem_of_getElem? hi)] at this
    have hidx : (n + i) * sz + j = n * sz + (i * sz + j) := by rw [Nat.add_mul]; omega
    refine ⟨hA.cell _ _ (by rw [hidx, List.getElem?_append_right (by rw [cellsL_len]; omega), cellsL_len, Nat.add_sub_cancel_left]; exact cellsL_get vsy hil hjl), ?_⟩
    have hd' : fl = true → d.isSc = true := fun hfl => hsc hfl row (List.mem_append_right _ (List.mem_of_getElem? hi)) d (List.mem_of_getElem? hj)
    rcases hYc i row hi j d hj with h1 | ⟨s, h1, h2, h3⟩ | ⟨h1, h2⟩
    · exact .sc h1
    · cases hfl : fl with
      | true => exact .sc (h3.sc_inv (hd' hfl))
      | false =>
        obtain ⟨h4, h5⟩ := hM hfl
        obtain ⟨h6, -, h7⟩ := hY.mv s h1
        refine h3.move hz _ M (by omega) fun b' t hb => ⟨?_, hheap b' (hslt b' (by rw [hb]; simp)) fun r' pq' mr' e' hh => ?_⟩
        · rw [hown' b' _ _ hb]
          unfold appF
          rw [if_neg h7, if_pos h1]
          simp only [List.singleton_append]
          rw [cutP, hidx]
          simp only [List.length_cons]
          by_cases ht : t.length < M
          · rw [if_pos ht, if_pos (by omega)]
          · rw [if_neg ht, if_neg (by omega)]
        · rw [hb] at hh
          injection hh with hh _
          exact hneY s h6 hfl r' pq' mr' e' hh
    · cases hfl : fl with
      | true => exact .sc (h2.sc_inv (hd' hfl))
      | false =>
        obtain ⟨h4, h5⟩ := hM hfl
        obtain rfl : M = 0 := by omega
        refine .fz (h2.mono' fun b' hb hlt => ?_)
        rcases hb with hb | ⟨r', p', h6, hb⟩
        · exact hz b' hb hlt
        · refine ⟨by rw [hown' b' _ _ hb, hFfz r' h6], hheap b' hlt fun r'' pq' mr' e' hh => ?_⟩
          rw [hb] at hh
          injection hh with hh _
          exact hneY r' (hY.fz r' h6).1 hfl r'' pq' mr' e' hh
  have hmem : ∀ {s : Nat} {c : Cont}, (kR s, c) ∈ (kR nr, Cont.root y (M + 1) 0 .live) :: updX ++ updY →
      (s = nr ∧ c = .root y (M + 1) 0 .live) ∨
      (∃ pq mr X k, src = some (s, pq, mr) ∧ σ (kR s) = some (.root X mr k .live) ∧ (c = .root (.c .hole) 0 0 .gone ∨ ∃ X', c = .root X' mr (k + 1) .live ∧ Upd pq (X.val ρ) .hole (X'.val ρ) ∧ Nest G.own w s [] (G.hdr s) pq vx ∧ pq.length < mr)) ∨
      (mvY = some s ∧ s ∈ ry ∧ c = .root (.c .hole) 0 0 .gone) ∨
      (s ∈ fzl ∧ s ∈ ry ∧ ∃ x m v, c = .root x m v .frozen ∧ σ (kR s) = some (.root x m v .live)) := by
    intro s c hc
    rcases List.mem_append.1 hc with hc | hc
    · rcases List.mem_cons.1 hc with hc | hc
      · obtain ⟨e1, e2⟩ := Prod.mk.inj hc
        exact .inl ⟨kR_inj e1, e2⟩
      · rcases hX.upd with ⟨-, h2⟩ | ⟨r, pq, mr, X, k, h1, h2, h3⟩
        · rw [h2] at hc; simp at hc
        · rcases h3 with ⟨h4, h5⟩ | ⟨X', h5, h6⟩
          · rw [h5] at hc
            simp only [List.mem_singleton, Prod.mk.injEq] at hc
            obtain ⟨e1, e2⟩ := hc
            obtain rfl := kR_inj e1
            exact .inr (.inl ⟨pq, mr, X, k, h1, h2, .inl e2⟩)
          · rw [h5] at hc
            simp only [List.mem_singleton, Prod.mk.injEq] at hc
            obtain ⟨e1, e2⟩ := hc
            obtain rfl := kR_inj e1
            exact .inr (.inl ⟨pq, mr, X, k, h1, h2, .inr ⟨X', e2, h6⟩⟩)
    · obtain ⟨s', e1, h1, h2⟩ := hY.upd _ _ hc
      obtain rfl := kR_inj e1
      rcases h2 with ⟨h2, h3, -⟩ | ⟨h2, x, m, ver, h3, h4⟩
      · exact .inr (.inr (.inl ⟨h2, h1, h3⟩))
      · exact .inr (.inr (.inr ⟨h2, h1, x, m, ver, h3, h4⟩))
  have hnr : ∀ r, (σ (kR r)).isSome → r ≠ nr := fun r hr e => by rw [e, hnrσ] at hr; cases hr
  have hfzfl : ∀ s, s ∈ fzl → fl = false := fun s hs => by
    cases hfl : fl with
    | false => rfl
    | true => rw [(hY.flat hfl).2.1] at hs; simp at hs
  refine ⟨{ G with own := own', hdr := fun r => if r = nr then v else G.hdr r }, hR.own hd (f := appF fzl mvY (n * sz) src nr (M + 1)) (wr := fun b' => b' = cb.block ∧ grow = false ∧ A' ≠ none) ?_ ?_ ?_ ?_ ?_ ?_ ?_ ?_ ?_ ?_ ?_ rfl ?_ ?_⟩
  · intro k c hc
    rcases List.mem_append.1 hc with hc | hc
    · rcases List.mem_cons.1 hc with hc | hc
      · exact ⟨nr, (Prod.mk.inj hc).1⟩
      · rcases hX.upd with ⟨-, h2⟩ | ⟨r, pq, mr, X, k', h1, h2, h3⟩
        · rw [h2] at hc; simp at hc
        · rcases h3 with ⟨h4, h5⟩ | ⟨X', h5, h6⟩ <;> (rw [h5] at hc; simp only [List.mem_singleton, Prod.mk.injEq] at hc; exact ⟨r, hc.1⟩)
    · obtain ⟨s', e1, -⟩ := hY.upd _ _ hc
      exact ⟨s', e1⟩
  · intro b' hlt
    show own' b' = _
    rw [← hown]
    dsimp only
    rw [if_neg (by omega)]
  · intro b' hb
    rw [hA.size] at hb
    show own' b' = .frz
    rw [← hown]
    dsimp only
    by_cases e : b' = w.heap.size
    · rw [if_pos e]
      cases hg : grow with
      | true => rw [hg] at hb; simp at hb; omega
      | false => simp
    · rw [if_neg e, hR.frame.fresh b' (by split at hb <;> omega)]; rfl
  · exact ⟨hA.os.1, hA.os.2.1, hA.os.2.2, by rw [hA.size]; omega⟩
  · intro b' hb
    show own' b' = .frz ∨ ∃ r p, own' b' = .slc r p ∧ _
    rw [← hown]
    dsimp only
    by_cases e : b' = w.heap.size
    · rw [if_pos e]
      cases hg : grow with
      | true => exact .inr ⟨nr, [], by simp, hnrσ⟩
      | false => exact .inl (by simp)
    · rw [if_neg e, hR.frame.fresh b' hb]; exact .inl rfl
  · intro b' hlt hnw
    refine hA.heap b' hlt ?_
    cases hg : grow with
    | true => exact .inl rfl
    | false =>
      by_cases hne : A' = none
      · exact .inr (.inl hne)
      · exact .inr (.inr fun e => hnw ⟨e, hg, hne⟩)
  · rintro b' ⟨rfl, hg, hne⟩
    obtain ⟨r, pq, mr, h1, h2⟩ := hcbo hg hne
    obtain ⟨X, k, -, c, hc⟩ := hsrcσ r pq mr h1
    exact ⟨r, pq, h2, c, List.mem_append_left _ (List.mem_cons_of_mem _ hc)⟩
  · intro b' s p hb hnot
    have h1 : s ∉ fzl := fun hs => by
      rcases (hY.fz s hs).2 with ⟨c, hc⟩ | ⟨x, m, ver, h⟩
      · exact hnot c (List.mem_append_right _ hc)
      · exact (hR.root h).2 b' p hb
    have h2 : mvY ≠ some s := fun hs => by
      obtain ⟨c, hc⟩ := (hY.mv s hs).2.1
      exact hnot c (List.mem_append_right _ hc)
    unfold appF
    rw [if_neg h1, if_neg h2]
    cases hsrc : src with
    | none => rfl
    | some x =>
      obtain ⟨r, pq, mr⟩ := x
      dsimp only
      rw [if_neg]
      intro e
      obtain ⟨X, k, -, c, hc⟩ := hsrcσ r pq mr hsrc
      exact hnot c (List.mem_append_left _ (List.mem_cons_of_mem _ (e ▸ hc)))
  · intro s c hc _
    rcases hmem hc with ⟨rfl, rfl⟩ | ⟨pq, mr, X, k, h1, h2, h3⟩ | ⟨h1, h2, rfl⟩ | ⟨h1, h2, x, m', ver, rfl, h4⟩
    · exact .inl ⟨hnrσ, _, _, _, _, rfl⟩
    · rcases h3 with rfl | ⟨X', rfl, -⟩
      · exact .inr (.inr (.inl ⟨_, _, _, _, rfl, by simp, by simp⟩))
      · exact .inr (.inl ⟨_, _, _, _, _, h2, rfl⟩)
    · exact .inr (.inr (.inl ⟨_, _, _, _, rfl, by simp, by simp⟩))
    · refine .inr (.inr (.inr ⟨x, m', ver, h4, rfl, fun b' p hb => ⟨?_, hheap b' (hslt b' (by rw [hb]; simp)) fun r pq mr e hh => ?_⟩⟩))
      · show own' b' = .frz
        rw [hown' b' _ _ hb, hFfz s h1]
      · rw [hb] at hh
        injection hh with hh _
        exact hneY s h2 (hfzfl s h1) r pq mr e hh
  · intro r0 x0 m0 k0 hfz s p q hF
    have hr0 := hnr r0 (by rw [hfz]; rfl)
    have hcut : ∀ R M' q', cutP R M' q' = .slc r0 q → R = r0 := by
      intro R M' q' h
      unfold cutP at h
      split at h
      · injection h
      · cases h
    unfold appF at hF
    split at hF
    · cases hF
    · split at hF
      · split at hF
        · exact absurd (hcut _ _ _ hF).symm hr0
        · cases hF
      · split at hF
        · rename_i _ r pq mr
          split at hF
          · split at hF
            · exact absurd (hcut _ _ _ hF).symm hr0
            · have := hcut _ _ _ hF
              subst this
              obtain ⟨X, k, h, -⟩ := hsrcσ r pq mr rfl
              rw [h] at hfz
              injection hfz with e; injection e with _ _ _ e; cases e
          · injection hF with h1 h2; exact ⟨h1, h2⟩
        · injection hF with h1 h2; exact ⟨h1, h2⟩
  · intro r hr
    show (if r = nr then _ else _) = _
    rw [if_neg (hnr r hr)]
  · intro _ _
    simp only [SVRep, LeafRep, if_true]
    refine ⟨trivial, upds_some _ _ _ (.inr ⟨_, List.mem_append_right _ (List.mem_append_left _ List.mem_cons_self)⟩), by rw [hA.val]; rfl⟩
  · intro _ s c hc _
    rcases hmem hc with ⟨rfl, rfl⟩ | ⟨pq, mr, X, k, h1, h2, h3⟩ | ⟨h1, h2, rfl⟩ | ⟨h1, h2, x, m', ver, rfl, h4⟩
    · refine ⟨_, _, _, _, rfl, ?_⟩
      simp only [RootRep, if_true]
      rw [hy, hA.val]
      have hcase : ∀ i row, (ra ++ rb)[i]? = some row → (i < n ∧ ra[i]? = some row) ∨ (n ≤ i ∧ rb[i - n]? = some row) := by
        intro i row hi
        by_cases hlt : i < ra.length
        · rw [List.getElem?_append_left hlt] at hi
          exact .inl ⟨by rw [← hX.side.len]; exact hlt, hi⟩
        · rw [List.getElem?_append_right (by omega), hX.side.len] at hi
          exact .inr ⟨by rw [← hX.side.len]; omega, hi⟩
      refine .sl _ cb (n + n') cap' sz _ (fun i j => if i < n then vs i j else vsy (i - n) j) (by simp [hX.side.len, hYs.len]) hA.le hA.aval (fun row hr => ?_) (fun hsome => ⟨hA.spot, ?_, fun k hk => hA.all k hk⟩) (fun i row hi j d hj => ?_) (fun i row hi j d hj => ?_)
      · rcases List.mem_append.1 hr with hr | hr
        · exact hX.side.rows _ hr
        · exact hYs.rows _ hr
      · rcases hA.base with ⟨h1, -, h2⟩ | ⟨h1, -⟩ | ⟨-, h2⟩
        · rw [← hown]
          dsimp only
          rw [if_pos h2, if_pos h1]
        rotate_left
        · rw [h2] at hsome; cases hsome
        · obtain ⟨r, pq, mr, h2, h3⟩ := hcbo h1 (by rw [hsome]; simp)
          rw [hown' _ _ _ h3, hFsrc r pq mr h2, if_pos List.prefix_rfl]
          simp [cutP]
      · rcases hcase i row hi with ⟨h1, h2⟩ | ⟨h1, h2⟩
        · rw [if_pos h1]; exact (hold i row h2 j d hj).1
        · rw [if_neg (by omega)]
          have := (hnew _ row h2 j d hj).1
          rwa [show n + (i - n) = i by omega] at this
      · rcases hcase i row hi with ⟨h1, h2⟩ | ⟨h1, h2⟩
        · rw [if_pos h1]; exact (hold i row h2 j d hj).2
        · rw [if_neg (by omega)]
          have := (hnew _ row h2 j d hj).2
          rwa [show n + (i - n) = i by omega] at this
    · rcases h3 with rfl | ⟨X', rfl, h4, h5, h6⟩
      · exact ⟨_, _, _, _, rfl, trivial⟩
      · refine ⟨_, _, _, _, rfl, ?_⟩
        simp only [RootRep]
        rw [if_neg (hnr s (by rw [h2]; rfl))]
        have hr := hR.root h2
        simp only [RootRep] at hr
        have := Rp.upd (own' := own') (w' := w1) (r := s) (M' := mr) (full := pq) hz (fun b' t hb ht => ⟨?_, hheap b' (hslt b' (by rw [hb]; simp)) fun r' pq' mr' e' hh => ?_⟩) (by omega) (.hole _ (by rw [hX.side.val]; rfl)) pq [] mr (G.hdr s) _ _ rfl (Nat.le_refl _) (by simpa using hr) h5 h4
        · simpa using this
        · rw [hown' b' _ _ hb, hFsrc s pq mr h1, if_neg ht]
          rfl
        · rw [h1] at e'
          obtain ⟨-, rfl, -⟩ : s = r' ∧ pq = pq' ∧ mr = mr' := by injection e' with e; injection e with e1 e; injection e with e2 e3; exact ⟨e1, e2, e3⟩
          rw [hb] at hh
          injection hh with _ hh
          exact ht (hh ▸ List.prefix_rfl)
    · exact ⟨_, _, _, _, rfl, trivial⟩
    · refine ⟨x, m', ver, .frozen, rfl, ?_, fun b' p hb => ?_⟩
      · have := hR.root h4
        simp only [RootRep] at this ⊢
        rw [if_neg (hnr s (by rw [h4]; rfl))]
        refine this.rd.mono' fun b' hb hlt => ?_
        rcases hb with hb | ⟨p, hb⟩
        · exact hz b' hb hlt
        · refine ⟨by rw [hown' b' _ _ hb, hFfz s h1], hheap b' hlt fun r pq mr e hh => ?_⟩
          rw [hb] at hh
          injection hh with hh _
          exact hneY s h2 (hfzfl s h1) r pq mr e hh
      · have hb' : own' b' = .slc s p := hb
        have hsn := hnr s (by rw [h4]; rfl)
        have hcut : ∀ R M' q', R ≠ s → cutP R M' q' ≠ .slc s p := by
          intro R M' q' hR' h
          unfold cutP at h
          split at h
          · injection h with h _; exact hR' h
          · cases h
        rcases Nat.lt_or_ge b' w.heap.size with hlt | hge
        · rw [← hown] at hb'
          dsimp only at hb'
          rw [if_neg (by omega)] at hb'
          cases e : G.own b' with
          | slc s' p' =>
            rw [e] at hb'
            have hF : appF fzl mvY (n * sz) src nr (M + 1) s' p' = .slc s p := hb'
            unfold appF at hF
            split at hF
            · cases hF
            · rename_i hs'
              split at hF
              · split at hF
                · exact hcut _ _ _ hsn.symm hF
                · cases hF
              · split at hF
                · rename_i _ r pq mr
                  split at hF
                  · split at hF
                    · exact hcut _ _ _ hsn.symm hF
                    · exact hcut _ _ _ (hneY s h2 (hfzfl s h1) r pq mr rfl).symm hF
                  · injection hF with h5 _; exact hs' (h5 ▸ h1)
                · injection hF with h5 _; exact hs' (h5 ▸ h1)
          | _ => rw [e] at hb'; cases hb'
        · rw [← hown] at hb'
          dsimp only at hb'
          by_cases e : b' = w.heap.size
          · rw [if_pos e] at hb'
            split at hb'
            · injection hb' with h5 _; exact hsn h5.symm
            · cases hb'
          · rw [if_neg e, hR.frame.fresh b' hge] at hb'
            cases hb'
end
end Go.Proofs.Ytacfmplofkjonaa.Rf

/- append, whole; makeSlice. -/
namespace Go.Proofs.Ytacfmplofkjonaa.Rf
set_option linter.unusedVariables false
set_option linter.unusedSimpArgs false

section
variable {P : Program} {E : Env} {F : Frame0} {n : Nat} {σ : Nat → Option Cont} {ρ : List D} {a : Act} {w w' : World} {G G' : Gh} {g : Option (Atom × Bool)} {o : Oper} {cf : Nat → List D → Option (List D)} {Q : Exit → Act → World → Prop} {next : Act → World → Prop}

theorem app_run {sz bytes : Nat} {fl : Bool} {x y : D} {ds : List D} (h : (Prim.app sz bytes fl).run [x, y] = some ds) :
    ∃ ra rb, x = .rows sz ra ∧ y = .rows sz rb ∧ (fl = true → ∀ r ∈ ra ++ rb, ∀ d ∈ r, d.isSc = true) ∧ (ra.length + rb.length) * bytes ≤ boundB ∧ ds = [.rows sz (ra ++ rb)] := by
  cases x <;> cases y <;> simp only [Prim.run] at h <;> first | cases h | skip
  rename_i s1 ra s2 rb
  split at h
  · rename_i h1
    obtain ⟨rfl, rfl, h2, h3⟩ := h1
    simp only [Option.some.injEq] at h
    refine ⟨ra, rb, rfl, rfl, fun hf => ?_, h3, h.symm⟩
    rw [hf] at h2
    simp only [Bool.not_true, Bool.false_or, List.all_eq_true] at h2
    exact fun r hr d hd => h2 r hr d hd
  · cases h

theorem XOk.ofRp {v : Value} {ra : List (List D)} {sz md r mr : Nat} {pq : List Nat} {updX : List (Nat × Cont)} (h : Rp G.own w r pq md v (.rows sz ra)) (h1 : 1 ≤ md) {X : Atom} {k : Nat} (hk : σ (kR r) = some (.root X mr k .live))
    (hu : (pq = [] ∧ updX = [(kR r, .root (.c .hole) 0 0 .gone)]) ∨ (∃ X', updX = [(kR r, .root X' mr (k + 1) .live)] ∧ Upd pq (X.val ρ) .hole (X'.val ρ) ∧ Nest G.own w r [] (G.hdr r) pq v ∧ pq.length < mr)) :
    ∃ A b n cap vs, XOk σ ρ G w v ra sz md updX (some (r, pq, mr)) A b n cap vs := by
  obtain ⟨m', rfl⟩ : ∃ m', md = m' + 1 := ⟨md - 1, by omega⟩
  obtain ⟨A, b, n, c, vs, e1, e2, e3, e4, e5, e6, e7, e8⟩ := h.sl_inv
  refine ⟨A, b, n, c, vs, ⟨e1, e2, e3, e5, e7⟩, ?_, fun hA => ⟨r, pq, mr, rfl, (e6 hA).2.1⟩, fun hA => (e6 hA).2.2, fun i row hi j d hj => ⟨r, pq, mr, rfl, e8 i row hi j d hj⟩, h1, .inr ⟨r, pq, mr, X, k, rfl, hk, hu⟩⟩
  rcases e4 with e4 | e4
  · exact .inl ⟨e4, (e6 e4).1⟩
  · exact .inr e4

theorem app_fin (hR : R E.ntmps F σ ρ a w G) (hd : DstOk E.ntmps o) {nb nr nv : Nat} (hf : Fresh σ nb nr) {t tx e : TypeId} {ti : TI} {info : TypeInfo} {u u' : TypeDesc} {x y : Operand} {args : Array Operand} {argTypes : Array TypeId}
    (ho : o.op = .call { callee := .builtin .append, args, argTypes }) (hargs : args.toList = [x, y]) (hat : argTypes = #[t, tx]) (hu : P.underlying t = some (.slice e)) (f : TiFacts P e ti info u) (hx : P.underlying tx = some u') (hx' : ∃ e', u' = .slice e')
    (hb0 : 0 < ti.bytes) (hs0 : 0 < ti.size) {ys : SlR} (hys : SlRep σ ρ G w ys (a.eval y)) {dy : Nat} {updY : List (Nat × Cont)} {ry : List Nat} (hY : (sxAppY (nosc ti.cells) ys).eval σ = some (dy, updY, ry))
    {sx : Atom} {m : Nat} {pre : List Step} {updX : List (Nat × Cont)} (hst : StepsOk cf ρ none nv (pre ++ [.prim (.app ti.size ti.bytes (nosc ti.cells)) [sx, ys.x] 1]))
    (hXs : ∀ ra, sx.val ρ = .rows ti.size ra → ∃ src A b n cap vs, XOk σ ρ G w (a.eval x) ra ti.size m updX src A b n cap vs ∧ ∀ r pq mr, src = some (r, pq, mr) → r ∉ ry ∨ nosc ti.cells = true) :
    o.wp P a w (Nx E.ntmps F σ ρ (dstUpd o none (.one (.ex nr)) ++ ((kR nr, .root (.v (nv + stepsN pre)) (bif nosc ti.cells then big else min m dy) 0 .live) :: updX ++ updY))) Q := by
  obtain ⟨-, hst2⟩ := StepsOk.append hst
  obtain ⟨d, h1, h2⟩ := one_of hst2.1 (show gOn ρ none = true from rfl)
  simp only [List.map_cons, List.map_nil] at h1
  obtain ⟨ra, rb, e1, e2, e3, e4, e5⟩ := app_run h1
  simp only [List.cons.injEq, and_true] at e5
  obtain ⟨src, A, b, n, cap, vs, hX, hdis⟩ := hXs ra e1
  obtain ⟨fzl, mvY, hYo⟩ := ySide hR hys e2 (fun hfl r hr d hd => e3 hfl r (List.mem_append_right _ hr) d hd) hY
  obtain ⟨By, by', n', capy, vsy, hYs, hYb, hYc⟩ := hYo.side
  have hl1 : (cellsL vs n ti.size).length = n * ti.size := cellsL_len _ _ _
  have hl2 : (cellsL vsy n' ti.size).length = n' * ti.size := cellsL_len _ _ _
  have hc1 := rows_cells hX.side.rows hX.side.cell
  have hc2 := rows_cells hYs.rows hYs.cell
  rw [hX.side.len] at hc1
  rw [hYs.len] at hc2
  have hones : ∀ u ∈ cellsL vsy n' ti.size, u.oneCell' = true := by
    intro u hu
    obtain ⟨k, hk⟩ := List.mem_iff_getElem?.1 hu
    obtain ⟨k1, k2, k3, rfl⟩ := cellsL_idx hk
    have hr : rb[k / ti.size]? = some (rb[k / ti.size]'(by rw [hYs.len]; exact k1)) := List.getElem?_eq_getElem _
    have hrl := hYs.rows _ (List.mem_of_getElem? hr)
    have hd' : (rb[k / ti.size]'(by rw [hYs.len]; exact k1))[k % ti.size]? = some _ := List.getElem?_eq_getElem (by rw [hrl]; exact k2)
    rcases hYc _ _ hr _ _ hd' with h | ⟨_, _, _, h⟩ | ⟨_, h⟩
    · exact h.one
    · exact h.one
    · exact h.one
  have hM1 : 1 ≤ (bif nosc ti.cells then big else min m dy) := by
    have := hX.m
    have := hYo.dy
    cases nosc ti.cells with
    | true => simp only [cond_true]; unfold big; omega
    | false => simp only [cond_false]; omega
  have hM : nosc ti.cells = false → (bif nosc ti.cells then big else min m dy) ≤ m ∧ (bif nosc ti.cells then big else min m dy) ≤ dy := fun h => by
    rw [h, cond_false]; omega
  have hyv : (Atom.v (nv + stepsN pre)).val ρ = .rows ti.size (ra ++ rb) := h2.trans e5
  obtain ⟨v, w1, A', cb, cap', grow, hrun, hA⟩ := run_append_op (P := P) (w := w) (G := G) (a := a) (o := o) ho hargs hat hu f hx hx' (A := A) (n := n) (cap := cap) (n' := n') (b := b) (olds := cellsL vs n ti.size) (news := cellsL vsy n' ti.size) hX.side.val hX.side.le hX.base hl1 hc1 hX.all hYs.val hYb hl2 hc2 hones hb0 hs0 (by rw [← hX.side.len, ← hYs.len]; exact e4)
  exact wp_value hrun (app_core hR hd hf hX hYo hYs hYc hA e3 hM1 hM hdis hyv)

theorem sound_append (hR : R E.ntmps F σ ρ a w G) (hd : DstOk E.ntmps o) (hti : TiOk P E.ti) {nv nb nr : Nat} {mv mvs : Bool} (hf : Fresh σ nb nr) {args : Array Operand} {argTypes : Array TypeId} (ho : o.op = .call { callee := .builtin .append, args, argTypes })
    {x y : Operand} (hargs : args.toList = [x, y]) {t ty : TypeId} {ti ei yi : TI} {e : Nat} (ht : argTypes[0]? = some t) (hty : argTypes[1]? = some ty) (hi : E.ti t = some ti) (he : ti.elem = some e) (hei : E.ti e = some ei) (hyi : E.ti ty = some yi)
    (hgd : (yi.elem.isSome && Nat.blt 0 ei.size && noG g && Nat.blt 0 ei.bytes && Nat.beq argTypes.size 2) = true) {lx ly : Leaf} (h1 : (rdL E g t x).eval σ = some lx) (h2 : (rdL E g ty y).eval σ = some ly) {res : OpRes}
    (h : (sxAppend nv nr mv mvs o ei lx ly).eval σ = some res) (hst : StepsOk cf ρ g nv res.lets) : Sound P E F σ ρ a w g o Q res.upd := by
  simp only [Bool.and_eq_true, Nat.blt_eq, Nat.beq_eq] at hgd
  obtain ⟨⟨⟨⟨hyel, hsz⟩, hg0⟩, hby⟩, hsize⟩ := hgd
  obtain rfl := noG_eq hg0
  refine ⟨fun hg => ?_, fun hg => by simp [gOn] at hg⟩
  have hat : argTypes = #[t, ty] := by
    apply Array.ext'
    apply List.ext_getElem?
    intro k
    match k with
    | 0 => simpa using ht
    | 1 => simpa using hty
    | k + 2 => simp [hsize]
  obtain ⟨i1, u1, f1⟩ := tiOf_facts (hti.ok _ _ hi)
  obtain rfl := elem_und f1 he
  obtain ⟨i2, u2, f2⟩ := tiOf_facts (hti.ok _ _ hei)
  obtain ⟨i3, u3, f3⟩ := tiOf_facts (hti.ok _ _ hyi)
  have hu3 := elem_und' f3 hyel
  have hlx := rdL_rep hR hg h1
  have hly := rdL_rep hR hg h2
  simp only [sxAppend, eval_bind, Option.bind_eq_some_iff] at h
  obtain ⟨ys, h3, ⟨dy, updY, ry⟩, h4, h⟩ := h
  have hys := rdSl_rep hR h3 hly
  have fin : ∀ {sx : Atom} {m : Nat} {pre : List Step} {updX : List (Nat × Cont)}, (sxAppFin nv nr o ei ys dy updY sx m pre updX).eval σ = some res →
      (StepsOk cf ρ none nv pre → ∀ ra, sx.val ρ = .rows ei.size ra → ∃ src A b n cap vs, XOk σ ρ G w (a.eval x) ra ei.size m updX src A b n cap vs ∧ ∀ r pq mr, src = some (r, pq, mr) → r ∉ ry ∨ nosc ei.cells = true) →
      o.wp P a w (Nx E.ntmps F σ ρ res.upd) Q := by
    intro sx m pre updX hfin hXs
    simp only [sxAppFin, out1, eval_ret, Option.some.injEq] at hfin
    subst hfin
    simp only [dst_eq]
    exact app_fin hR hd hf ho hargs hat f1.und f2 f3.und hu3 hby hsz hys h4 hst (hXs (StepsOk.append hst).1)
  dsimp only at h
  split at h
  · rename_i p z
    refine fin h fun _ ra hra => ?_
    simp only [Atom.val, D.rows.injEq] at hra
    obtain ⟨rfl, rfl⟩ := hra
    simp only [LeafRep] at hlx
    have hv := (hlx.2 (by simp)).2.1 trivial _ rfl
    exact ⟨none, none, ⟨0, 0, none⟩, 0, 0, fun _ _ => undef, ⟨⟨hv, rfl, Nat.le_refl _, by simp, by simp⟩, .inr ⟨rfl, rfl⟩, by simp, by simp, by simp, by decide, .inl ⟨rfl, rfl⟩⟩, by simp⟩
  · simp only [eval_bind, Option.bind_eq_some_iff] at h
    obtain ⟨s, h5, h⟩ := h
    have hs := rdSl_rep hR h5 hlx
    split at h
    · rename_i r k m q hown
      simp only [eval_bind, eval_guardR, Option.bind_eq_some_iff] at h
      obtain ⟨_, h6, h⟩ := h
      split at h6
      case isFalse => cases h6
      rename_i hb6
      simp only [Bool.and_eq_true, Bool.or_eq_true, Bool.not_eq_true', Nat.ble_eq] at hb6
      have hor := hs.own
      unfold OwnRep at hor
      rw [hown] at hor
      obtain ⟨-, ⟨X, hk⟩, hor⟩ := hor
      have hdis : r ∉ ry ∨ nosc ei.cells = true := hb6.1.imp (fun h => has_not.1 h) id
      split at h
      · refine fin h fun _ ra hra => ?_
        obtain ⟨-, hrp, -⟩ := hor
        simp only [pathVal, List.map_nil, List.length_nil, Nat.sub_zero] at hrp
        rw [hra] at hrp
        obtain ⟨A, b, n, cap, vs, hX⟩ := XOk.ofRp (ρ := ρ) hrp hb6.2 hk (updX := [(kR r, .root (.c .hole) 0 0 .gone)]) (.inl ⟨rfl, rfl⟩)
        exact ⟨_, A, b, n, cap, vs, hX, fun r' pq mr e => by obtain rfl : r = r' := by injection e with e; injection e
                                                             exact hdis⟩
      · rw [eval_bif] at h
        split at h
        · refine fin h fun _ ra hra => ?_
          have hrp : Rp G.own w r [] m (a.eval x) (s.x.val ρ) := hor
          rw [hra] at hrp
          obtain ⟨A, b, n, cap, vs, hX⟩ := XOk.ofRp (ρ := ρ) hrp hb6.2 hk (updX := [(kR r, .root (.c .hole) 0 0 .gone)]) (.inl ⟨rfl, rfl⟩)
          exact ⟨_, A, b, n, cap, vs, hX, fun r' pq mr e => by obtain rfl : r = r' := by injection e with e; injection e
                                                               exact hdis⟩
        · cases h
      · rename_i q hne
        simp only [eval_bind, eval_guardR, Option.bind_eq_some_iff, eval_rdK, Option.bind_some] at h
        obtain ⟨_, h7, h⟩ := h
        split at h7
        case isFalse => cases h7
        rename_i hb7
        simp only [Bool.and_eq_true, Nat.ble_eq, Bool.not_eq_true'] at hb7
        rw [hk] at h
        dsimp only at h
        refine fin h fun hpre ra hra => ?_
        obtain ⟨hqm, hrp, hnest⟩ := hor
        rw [hra] at hrp
        have hupd := nest_upd hg q nv X (.c .hole) hpre
        obtain ⟨A, b, n, cap, vs, hX⟩ := XOk.ofRp (ρ := ρ) hrp (by omega) hk (.inr ⟨_, rfl, hupd, hnest, by simp [pathVal]; omega⟩)
        exact ⟨_, A, b, n, cap, vs, hX, fun r' pq mr e => by obtain rfl : r = r' := by injection e with e; injection e
                                                             exact hdis⟩
      · cases h
    · cases h
end
end Go.Proofs.Ytacfmplofkjonaa.Rf

/- makeSlice. -/
namespace Go.Proofs.Ytacfmplofkjonaa.Rf
set_option linter.unusedVariables false
set_option linter.unusedSimpArgs false

section
variable {P : Program} {E : Env} {F : Frame0} {n : Nat} {σ : Nat → Option Cont} {ρ : List D} {a : Act} {w w' : World} {G G' : Gh} {g : Option (Atom × Bool)} {o : Oper} {cf : Nat → List D → Option (List D)} {Q : Exit → Act → World → Prop} {next : Act → World → Prop}

theorem zeroDs_get : ∀ {cs : List CK} {zs : List D}, zeroDs cs = some zs → zs.length = cs.length ∧ ∀ (j : Nat) (c : CK) (d : D), cs[j]? = some c → zs[j]? = some d → ∀ (v : Value), zeroCell v c = true → ∀ (own : Nat → Ow) (r : Nat) (p : List Nat) (m : Nat), Rp own w r p m v d
  | [], zs, h => by
    simp only [zeroDs, Option.some.injEq] at h
    subst h
    simp
  | c :: cs, zs, h => by
    have main : ∀ (d0 : D), (zeroDs cs).map (d0 :: ·) = some zs → (∀ v, zeroCell v c = true → ∀ (own : Nat → Ow) (r : Nat) (p : List Nat) (m : Nat), Rp own w r p m v d0) →
        zs.length = (c :: cs).length ∧ ∀ (j : Nat) (c' : CK) (d : D), (c :: cs)[j]? = some c' → zs[j]? = some d → ∀ (v : Value), zeroCell v c' = true → ∀ (own : Nat → Ow) (r : Nat) (p : List Nat) (m : Nat), Rp own w r p m v d := by
      intro d0 h0 hd0
      simp only [Option.map_eq_some_iff] at h0
      obtain ⟨zs', h1, rfl⟩ := h0
      obtain ⟨h2, h3⟩ := zeroDs_get h1
      refine ⟨by simp [h2], fun j c' d hc hd v hv own r p m => ?_⟩
      cases j with
      | zero =>
        simp only [List.getElem?_cons_zero, Option.some.injEq] at hc hd
        subst hc hd
        exact hd0 v hv own r p m
      | succ j => exact h3 j c' d (by simpa using hc) (by simpa using hd) v hv own r p m
    have hz : ∀ v, zeroCell v c = true → LeafRep (fun _ => none) [] ⟨fun _ => .frz, fun _ => undef, fun _ => ⟨0, 0, none⟩⟩ w (zeroLeaf c) v := fun v hv => zero_one hv
    cases c with
    | sc z =>
      refine main z h fun v hv own r p m => ?_
      have := hz v hv
      simp only [zeroLeaf, LeafRep, Atom.val] at this
      exact .sc this
    | sl sz =>
      refine main (.rows sz []) h fun v hv own r p m => ?_
      have := hz v hv
      simp only [zeroLeaf, LeafRep, Atom.val] at this
      rw [(this.2 (by simp)).2.1 trivial sz rfl]
      exact Rp.nil
    | pn => cases h
    | ot => cases h

theorem pushB_alloc {c : Array Value} {e : TypeId} : w.alloc (.cells c e) = pushB w c e := rfl

theorem sound_makeSlice (hR : R E.ntmps F σ ρ a w G) (hd : DstOk E.ntmps o) (hti : TiOk P E.ti) {nv nb nr : Nat} {mv mvs : Bool} (hf : Fresh σ nb nr) {t : TypeId} {l c : Operand} (ho : o.op = .makeSlice t l c) {res : OpRes}
    (h : (sxOp E mv mvs nv nb nr g o).eval σ = some res) (hst : StepsOk cf ρ g nv res.lets) : Sound P E F σ ρ a w g o Q res.upd := by
  simp only [sxOp, ho, eval_bind, Option.bind_eq_some_iff, tiR, eval_ofOpt, eval_guardR] at h
  obtain ⟨st, h1, e, h2, ti, h3, _, h4, xl, h5, xc, h6, _, h7, zs, h8, h⟩ := h
  split at h4
  case isFalse => cases h4
  rename_i hg0
  obtain rfl := noG_eq hg0
  split at h7
  case isFalse => cases h7
  rename_i hb7
  simp only [Bool.and_eq_true, Nat.blt_eq] at hb7
  obtain ⟨⟨hxx, hsz⟩, hby⟩ := hb7
  obtain rfl := Atom.beq0_eq hxx
  obtain ⟨info, u, f⟩ := tiOf_facts (hti.ok _ _ h1)
  obtain rfl := elem_und f h2
  obtain ⟨info', u', f'⟩ := tiOf_facts (hti.ok _ _ h3)
  simp only [out1, eval_ret, Option.some.injEq] at h
  subst h
  simp only [dst_eq]
  refine ⟨fun hg => ?_, fun hg => by simp [gOn] at hg⟩
  obtain ⟨d, hd1, hd2⟩ := step1_one hst hg
  have hl := rdA_rep hR hg h5
  have hc := rdA_rep hR hg h6
  simp only [List.map_cons, List.map_nil] at hd1
  generalize hxv : xl.val ρ = xv at hd1 hl hc
  cases xv <;> simp only [Prim.run] at hd1 <;> first | cases hd1 | skip
  rename_i k len
  split at hd1
  case isFalse => cases hd1
  rename_i hlen
  obtain ⟨h0, hbound⟩ := hlen
  simp only [Option.some.injEq, List.cons.injEq, and_true] at hd1
  obtain ⟨z, hz1, hz2, -, hz3⟩ := f'.zeros (σ := σ) (ρ := ρ) (G := G) (w := w)
  obtain ⟨hzl, hzs⟩ := zeroDs_get (w := pushB w (madeCells z.cells (len.toNat * info'.size)) e) h8
  have hcl := f'.len
  have hzc : z.cells.size = ti.size := by rw [← Array.length_toList, hz2.len, List.length_map, hcl]
  have hlt : len.toNat * 1 ≤ len.toNat * ti.bytes := Nat.mul_le_mul_left _ hby
  unfold boundB at hbound
  have hrun : (execOp a.eval o).run P w = .ok (.value (.slice (some ⟨w.heap.size, 0, none⟩) len.toNat len.toNat)) (pushB w (madeCells z.cells (len.toNat * info'.size)) e) := by
    unfold execOp
    simp only [ho]
    refine run_val ?_
    rw [hl.int_inv, hc.int_inv]
    have hb1 : (info'.bytes : Int) * len ≤ 281474976710656 := by
      rw [← f'.bytes]
      have : ((ti.bytes * len.toNat : Nat) : Int) ≤ 281474976710656 := by rw [Nat.mul_comm] at hbound; omega
      rw [Int.natCast_mul] at this
      rwa [show ((len.toNat : Nat) : Int) = len by omega] at this
    exact run_make w t e info' z f.und f'.info_ hz1 k k len len h0 (Int.le_refl _) hb1 (by omega)
  have hnrσ : σ (kR nr) = none := hf.nr nr (Nat.le_refl _) (by unfold maxRoots; omega)
  have hnr : ∀ r, (σ (kR r)).isSome → r ≠ nr := fun r hr e => by rw [e, hnrσ] at hr; cases hr
  have hslt : ∀ b, G.own b ≠ .frz → b < w.heap.size := fun b hb => by
    rcases Nat.lt_or_ge b w.heap.size with h | h
    · exact h
    · exact absurd (hR.frame.fresh b h) hb
  refine wp_value hrun ⟨{ G with own := fun b => if b = w.heap.size then .slc nr [] else G.own b, hdr := fun r => if r = nr then .slice (some ⟨w.heap.size, 0, none⟩) len.toNat len.toNat else G.hdr r }, ?_⟩
  refine hR.own hd (wr := fun _ => False) (f := fun s p => .slc s p) ?_ ?_ ?_ ?_ ?_ (fun b hlt _ => pushB_old (by omega)) (fun _ h => h.elim) (fun _ _ _ _ _ => rfl) ?_ (fun _ _ _ _ _ s p q h => by injection h with h1 h2; exact ⟨h1, h2⟩) ?_ rfl ?_ ?_
  · intro k c hc
    simp only [List.mem_singleton, Prod.mk.injEq] at hc
    exact ⟨nr, hc.1⟩
  · intro b hlt
    show (if b = w.heap.size then Ow.slc nr [] else _) = _
    rw [if_neg (by omega)]
    cases hb : G.own b <;> rfl
  · intro b hb
    rw [pushB_size] at hb
    show (if b = w.heap.size then Ow.slc nr [] else G.own b) = .frz
    rw [if_neg (by omega)]
    exact hR.frame.fresh b (by omega)
  · exact ⟨rfl, rfl, rfl, by rw [pushB_size]; omega⟩
  · intro b hb
    show (if b = w.heap.size then Ow.slc nr [] else G.own b) = .frz ∨ ∃ r p, (if b = w.heap.size then Ow.slc nr [] else G.own b) = .slc r p ∧ _
    by_cases e : b = w.heap.size
    · rw [if_pos e]; exact .inr ⟨nr, [], rfl, hnrσ⟩
    · rw [if_neg e]; exact .inl (hR.frame.fresh b hb)
  · intro s c hc _
    simp only [List.mem_singleton, Prod.mk.injEq] at hc
    obtain ⟨e1, rfl⟩ := hc
    obtain rfl := kR_inj e1
    exact .inl ⟨hnrσ, _, _, _, _, rfl⟩
  · intro r hr
    show (if r = nr then _ else _) = _
    rw [if_neg (hnr r hr)]
  · intro _ _
    simp only [SVRep, LeafRep, if_true]
    exact ⟨trivial, upds_some _ _ _ (.inr ⟨_, List.mem_append_right _ (List.mem_singleton.2 rfl)⟩), rfl⟩
  · intro _ s c hc _
    simp only [List.mem_singleton, Prod.mk.injEq] at hc
    obtain ⟨e1, rfl⟩ := hc
    obtain rfl := kR_inj e1
    refine ⟨_, _, _, _, rfl, ?_⟩
    simp only [RootRep, if_true]
    rw [hd2, ← hd1]
    have hzz : zs.length = ti.size := by rw [hzl, hcl]
    have hget : ∀ k, k < len.toNat * ti.size → (madeCells z.cells (len.toNat * info'.size))[k]? = z.cells[k % ti.size]? := by
      intro k hk
      unfold madeCells
      rw [modGet _ (by omega) _ _ (by rw [← f'.size]; exact hk), hzc]
    have hidx : ∀ i row, (List.replicate len.toNat zs)[i]? = some row → ∀ j d, row[j]? = some d → i < len.toNat ∧ row = zs ∧ j < ti.size ∧ i * ti.size + j < len.toNat * ti.size ∧ (i * ti.size + j) % ti.size = j := by
      intro i row hi j d hj
      rw [List.getElem?_replicate] at hi
      split at hi
      case isFalse => cases hi
      rename_i hil
      obtain rfl := Option.some.inj hi
      have hjl : j < ti.size := by rw [← hzz]; exact (List.getElem?_eq_some_iff.1 hj).1
      have := Nat.mul_le_mul_right ti.size (show i + 1 ≤ len.toNat by omega)
      rw [Nat.add_mul] at this
      exact ⟨hil, rfl, hjl, by omega, by rw [Nat.mul_comm, Nat.mul_add_mod, Nat.mod_eq_of_lt hjl]⟩
    refine .sl _ ⟨w.heap.size, 0, none⟩ len.toNat len.toNat zs.length _ (fun i j => z.cells[j]!) (by simp) (Nat.le_refl _) (.inl rfl) (fun row hr => ?_) (fun _ => ⟨rfl, by simp, fun k hk => ?_⟩) (fun i row hi j d hj => ?_) (fun i row hi j d hj => ?_)
    · rw [List.eq_of_mem_replicate hr]
    · rw [hzz] at hk
      rw [pushB_cell, pushB_frozen, hget k hk]
      have hk2 : k % ti.size < z.cells.size := by rw [hzc]; exact Nat.mod_lt _ hsz
      exact ⟨_, Array.getElem?_eq_getElem hk2, rfl⟩
    · obtain ⟨i1, rfl, i3, i4, i5⟩ := hidx i row hi j d hj
      rw [pushB_cell, hzz, hget _ i4, i5, getElem!_pos z.cells j (by omega), Array.getElem?_eq_getElem]
    · obtain ⟨i1, rfl, i3, i4, i5⟩ := hidx i row hi j d hj
      have hc' : ti.cells[j]? = some ti.cells[j] := List.getElem?_eq_getElem (by omega)
      exact hzs j _ d hc' hj _ (hz3 j _ _ (by rw [getElem!_pos z.cells j (by omega), Array.getElem?_eq_getElem]) hc') _ _ _ _
end
end Go.Proofs.Ytacfmplofkjonaa.Rf

/- Every operation but calls of functions. -/
namespace Go.Proofs.Ytacfmplofkjonaa.Rf
set_option linter.unusedVariables false
set_option linter.unusedSimpArgs false

section
variable {P : Program} {E : Env} {F : Frame0} {n : Nat} {σ : Nat → Option Cont} {ρ : List D} {a : Act} {w w' : World} {G G' : Gh} {g : Option (Atom × Bool)} {o : Oper} {cf : Nat → List D → Option (List D)} {Q : Exit → Act → World → Prop} {next : Act → World → Prop}

theorem sound_store (hR : R E.ntmps F σ ρ a w G) (hti : TiOk P E.ti) {nv nb nr : Nat} {mv mvs : Bool} {t : TypeId} {x y : Operand} (ho : o.op = .store t x y) {res : OpRes}
    (h : (sxOp E mv mvs nv nb nr g o).eval σ = some res) (hst : StepsOk cf ρ g nv res.lets) : Sound P E F σ ρ a w g o Q res.upd := by
  simp only [sxOp, ho, eval_bind, Option.bind_eq_some_iff, tiR, eval_ofOpt] at h
  obtain ⟨ti, h1, p, h2, sv, h3, h⟩ := h
  split at h
  case h_2 => cases h
  rename_i ls hls
  have hx : gOn ρ g = true → LeafRep σ ρ G w p (a.eval x) := fun hg => rdL_rep hR hg h2
  have hy : gOn ρ g = true → SVRep σ ρ G w sv (a.eval y) := fun hg => rdSV_rep hR hg h3
  cases p with
  | px b off => exact sound_store_px hR hti ho h1 hx hy hls h
  | pe l sz i off => exact sound_store_pe hR hti ho h1 hx hy hls h hst
  | _ =>
    simp only [sxStore, eval_bind, eval_guardR, Option.bind_eq_some_iff, eval_no] at h
    obtain ⟨_, _, h⟩ := h
    cases h

theorem sound_op (hR : R E.ntmps F σ ρ a w G) (hd : DstOk E.ntmps o) (hti : TiOk P E.ti) {nv nb nr : Nat} {mv mvs : Bool} (hf : Fresh σ nb nr) {res : OpRes}
    (h : (sxOp E mv mvs nv nb nr g o).eval σ = some res) (hst : StepsOk cf ρ g nv res.lets)
    (hcall : ∀ f args argTypes, o.op = .call { callee := .value f, args, argTypes } → Sound P E F σ ρ a w g o Q res.upd) : Sound P E F σ ρ a w g o Q res.upd := by
  have h0 := h
  cases ho : o.op with
  | move x =>
    simp only [sxOp, ho] at h
    exact sound_move hR hd (.inl ho) h hst
  | assign x =>
    simp only [sxOp, ho] at h
    exact sound_move hR hd (.inr ho) h hst
  | pick c x y =>
    simp only [sxOp, ho] at h
    exact sound_pick hR hd ho h hst
  | alloc e => exact sound_alloc hR hd hti hf ho h hst
  | box e x => exact sound_box hR hd hti hf ho h hst
  | build t parts => exact sound_build hR hd hti ho h hst
  | buildSlice t len parts => exact sound_buildSlice hR hd hti hf ho h hst
  | load t x =>
    simp only [sxOp, ho, eval_bind, Option.bind_eq_some_iff, tiR, eval_ofOpt] at h
    obtain ⟨ti, h1, p, h2, h⟩ := h
    exact sound_load hR hd hti ho h1 (fun hg => rdL_rep hR hg h2) h hst
  | store t x y => exact sound_store hR hti ho h hst
  | nilCheck x =>
    simp only [sxOp, ho] at h
    exact sound_nilCheck hR hd ho h hst
  | binOp op t x y ty =>
    by_cases h1 : op = .eql
    · subst h1
      simp only [sxOp, ho] at h
      exact sound_eq hR hd hti ho rfl h hst
    · by_cases h2 : op = .neq
      · subst h2
        simp only [sxOp, ho] at h
        exact sound_eq hR hd hti ho rfl h hst
      · have h' : (do
            let a ← rdA E g t x
            let b ← rdA E g ty y
            outS o g nv (.bin op) [a, b] : RdM OpRes).eval σ = some res := by
          simp only [sxOp, ho] at h
          cases op <;> first | exact h | (exact absurd rfl h1) | (exact absurd rfl h2)
        simp only [eval_bind, Option.bind_eq_some_iff] at h'
        obtain ⟨x', h3, y', h4, h5⟩ := h'
        exact sound_bin hR hd ho (fun hg => rdA_rep hR hg h3) (fun hg => rdA_rep hR hg h4) h5 hst
  | unOp op t x =>
    simp only [sxOp, ho] at h
    exact sound_un hR hd ho h hst
  | convert src dst x =>
    simp only [sxOp, ho, eval_bind, Option.bind_eq_some_iff, tiR, eval_ofOpt] at h
    obtain ⟨s, h1, d, h2, h⟩ := h
    split at h
    · rename_i k hk
      simp only [eval_bind, Option.bind_eq_some_iff, eval_guardR] at h
      obtain ⟨_, h3, x', h4, h⟩ := h
      split at h3
      case isFalse => cases h3
      rename_i hs
      exact sound_conv hR hd hti ho h1 hs h2 hk h4 h hst
    · rw [eval_bif] at h
      split at h
      case isFalse => cases h
      rename_i hdS
      rw [eval_bif] at h
      split at h
      · rename_i hsS
        simp only [eval_bind, Option.bind_eq_some_iff] at h
        obtain ⟨x', h4, h⟩ := h
        exact sound_strstr hR hd hti ho h1 hsS h2 hdS h4 h hst
      · simp only [eval_bind, Option.bind_eq_some_iff, eval_guardR, eval_ofOpt] at h
        obtain ⟨e, h3, ei, h4, _, h5, l, h6, r, h7, h⟩ := h
        split at h5
        case isFalse => cases h5
        rename_i hk
        exact sound_bstr hR hd hti ho h1 h3 h4 hk h2 hdS h6 h7 h hst
  | makeFunc fn first caps =>
    cases fn with
    | func fn =>
      simp only [sxOp, ho] at h
      exact sound_makeFunc hR hd ho h hst
    | _ => simp only [sxOp, ho] at h; cases h
  | makeSlice t l c => exact sound_makeSlice hR hd hti hf ho h hst
  | slice t x lo hi mx => exact sound_slice hR hd hti ho h hst
  | fieldAddr t x k =>
    simp only [sxOp, ho, eval_bind, Option.bind_eq_some_iff, tiR, eval_ofOpt] at h
    obtain ⟨ti, h1, h⟩ := h
    split at h
    case h_2 => cases h
    rename_i off ft hfl
    simp only [eval_bind, Option.bind_eq_some_iff, eval_guardR, eval_ofOpt] at h
    obtain ⟨fi, h2, _, h3, p, h4, h⟩ := h
    split at h3
    case isFalse => cases h3
    rename_i hpos
    exact sound_fieldAddr hR hd hti ho h1 hfl h2 (by simpa using hpos) (by simp only [eval_bind, Option.bind_eq_some_iff]; exact ⟨p, h4, h⟩) hst
  | field t x k =>
    simp only [sxOp, ho, eval_bind, Option.bind_eq_some_iff, tiR, eval_ofOpt] at h
    obtain ⟨ti, h1, h⟩ := h
    split at h
    case h_2 => cases h
    rename_i off ft hfl
    simp only [eval_bind, Option.bind_eq_some_iff, eval_ofOpt] at h
    obtain ⟨fi, h2, sv, h3, h⟩ := h
    exact sound_field hR hd hti ho h1 hfl h2 (by simp only [eval_bind, Option.bind_eq_some_iff]; exact ⟨sv, h3, h⟩) hst
  | indexAddr t x i =>
    simp only [sxOp, ho, eval_bind, Option.bind_eq_some_iff, tiR, eval_ofOpt] at h
    obtain ⟨ti, h1, e, h2, ei, h3, l, h4, s, h5, y, h6, u, h7, h⟩ := h
    exact sound_indexAddr hR hd hti ho h1 h2 h3 (by simp only [eval_bind, Option.bind_eq_some_iff]; exact ⟨l, h4, s, h5, y, h6, u, h7, h⟩) hst
  | index t x i =>
    simp only [sxOp, ho, eval_bind, Option.bind_eq_some_iff, tiR, eval_ofOpt] at h
    obtain ⟨ti, h1, h⟩ := h
    exact sound_index hR hd hti ho h1 (by simp only [eval_bind, Option.bind_eq_some_iff]; exact h) hst
  | extract x i =>
    simp only [sxOp, ho] at h
    exact sound_extract hR hd ho h hst
  | call c =>
    obtain ⟨callee, args, argTypes⟩ := c
    cases callee with
    | value f => exact hcall f args argTypes ho
    | invoke recv name => simp only [sxOp, ho] at h; cases h
    | builtin b =>
      simp only [sxOp, ho] at h
      cases hargs : args.toList with
      | nil =>
        rw [hargs] at h
        cases b <;> first | (cases h; done) | skip
        all_goals
          simp only [eval_bind, Option.bind_eq_some_iff, eval_ofOpt] at h
          obtain ⟨svs, h1, as, h2, h⟩ := h
          obtain ⟨ls, h3, h4⟩ := h2
          first
          | exact sound_minmax hR hd (.inl ⟨rfl, rfl, rfl⟩) ho (by rw [hargs]; exact h1) h3 h4 h hst
          | exact sound_minmax hR hd (.inr ⟨rfl, rfl, rfl⟩) ho (by rw [hargs]; exact h1) h3 h4 h hst
      | cons x xs =>
        rw [hargs] at h
        cases xs with
        | nil =>
          cases b <;> first | (cases h; done) | skip
          · simp only [eval_bind, Option.bind_eq_some_iff, eval_ofOpt, tiR] at h
            obtain ⟨t, h1, ti, h2, h⟩ := h
            exact sound_len hR hd hti ho hargs h1 h2 (by simp only [eval_bind, Option.bind_eq_some_iff]; exact h) hst
          all_goals
            simp only [eval_bind, Option.bind_eq_some_iff, eval_ofOpt] at h
            obtain ⟨svs, h1, as, h2, h⟩ := h
            obtain ⟨ls, h3, h4⟩ := h2
            first
            | exact sound_minmax hR hd (.inl ⟨rfl, rfl, rfl⟩) ho (by rw [hargs]; exact h1) h3 h4 h hst
            | exact sound_minmax hR hd (.inr ⟨rfl, rfl, rfl⟩) ho (by rw [hargs]; exact h1) h3 h4 h hst
        | cons y ys =>
          cases ys with
          | nil =>
            cases b <;> first | (cases h; done) | skip
            · simp only [eval_bind, Option.bind_eq_some_iff, eval_ofOpt, tiR, eval_guardR] at h
              obtain ⟨t, h1, ty, h2, ti, h3, e, h4, ei, h5, yi, h6, _, h7, lx, h8, ly, h9, h⟩ := h
              split at h7
              case isFalse => cases h7
              rename_i hgd
              exact sound_append hR hd hti hf ho hargs h1 h2 h3 h4 h5 h6 hgd h8 h9 h hst
            all_goals
              simp only [eval_bind, Option.bind_eq_some_iff, eval_ofOpt] at h
              obtain ⟨svs, h1, as, h2, h⟩ := h
              obtain ⟨ls, h3, h4⟩ := h2
              first
              | exact sound_minmax hR hd (.inl ⟨rfl, rfl, rfl⟩) ho (by rw [hargs]; exact h1) h3 h4 h hst
              | exact sound_minmax hR hd (.inr ⟨rfl, rfl, rfl⟩) ho (by rw [hargs]; exact h1) h3 h4 h hst
          | cons z zs =>
            cases b <;> first | (cases h; done) | skip
            all_goals
              simp only [eval_bind, Option.bind_eq_some_iff, eval_ofOpt] at h
              obtain ⟨svs, h1, as, h2, h⟩ := h
              obtain ⟨ls, h3, h4⟩ := h2
              first
              | exact sound_minmax hR hd (.inl ⟨rfl, rfl, rfl⟩) ho (by rw [hargs]; exact h1) h3 h4 h hst
              | exact sound_minmax hR hd (.inr ⟨rfl, rfl, rfl⟩) ho (by rw [hargs]; exact h1) h3 h4 h hst
  | _ => simp only [sxOp, ho] at h; cases h
end
end Go.Proofs.Ytacfmplofkjonaa.Rf

/- The map of places. -/
namespace Go.Proofs.Ytacfmplofkjonaa.Rf
set_option linter.unusedVariables false
set_option linter.unusedSimpArgs false

theorem Tr.get_set {α : Type} : ∀ (d : Nat) (t : Tr α) (n m : Nat) (x : Option α), (Tr.set d t n x).get m = if m = n then x else t.get m
  | 0, t, n, m, x => by
    simp only [Tr.set, Tr.get]
    by_cases h : m = n
    · subst h; simp
    · have : Nat.beq m n = false := by
        cases e : Nat.beq m n with
        | false => rfl
        | true => simp only [Nat.beq_eq] at e; exact absurd e h
      rw [this, cond_false, if_neg h]
  | d + 1, .over k y t, n, m, x => by
    simp only [Tr.set]
    by_cases h : m = n
    · subst h; simp [Tr.get]
    · have : Nat.beq m n = false := by
        cases e : Nat.beq m n with
        | false => rfl
        | true => simp only [Nat.beq_eq] at e; exact absurd e h
      rw [if_neg h]
      show (bif Nat.beq m n then x else _) = _
      rw [this, cond_false]
  | d + 1, .nil, n, m, x => by
    have ih := fun t n m => Tr.get_set (α := α) d t n m x
    simp only [Tr.set]
    have b0 : ∀ k, Nat.beq k 0 = decide (k = 0) := fun k => by cases k <;> simp [Nat.beq]
    have b1 : ∀ k, Nat.beq (k % 2) 1 = decide (k % 2 = 1) := fun k => by
      rcases Nat.mod_two_eq_zero_or_one k with h | h <;> rw [h] <;> rfl
    rw [b0, b1]
    by_cases h0 : n = 0
    · simp only [h0, decide_true, cond_true, Tr.get]
      rw [b0, b1]
      by_cases hm : m = 0
      · simp [hm]
      · simp [hm, Tr.get]
    · by_cases h1 : n % 2 = 1
      · simp only [h0, decide_false, cond_false, h1, decide_true, cond_true, Tr.get]
        rw [b0, b1]
        by_cases hm : m = 0
        · subst hm; simp [Ne.symm h0]
        · by_cases hm1 : m % 2 = 1
          · simp only [hm, decide_false, cond_false, hm1, decide_true, cond_true, ih, Tr.get]
            by_cases e : m = n
            · rw [if_pos e, if_pos (by rw [e])]
            · rw [if_neg e, if_neg (by omega)]
          · have e : m ≠ n := fun e => hm1 (e ▸ h1)
            simp [hm, hm1, e, Tr.get]
      · simp only [h0, decide_false, cond_false, h1, Tr.get]
        rw [b0, b1]
        by_cases hm : m = 0
        · subst hm; simp [Ne.symm h0]
        · by_cases hm1 : m % 2 = 1
          · have e : m ≠ n := fun e => h1 (e ▸ hm1)
            simp [hm, hm1, e, Tr.get]
          · simp only [hm, decide_false, cond_false, hm1, ih, Tr.get]
            by_cases e : m = n
            · rw [if_pos e, if_pos (by rw [e])]
            · rw [if_neg e, if_neg (by omega)]
  | d + 1, .node y l r, n, m, x => by
    have ih := fun t n m => Tr.get_set (α := α) d t n m x
    simp only [Tr.set]
    have b0 : ∀ k, Nat.beq k 0 = decide (k = 0) := fun k => by cases k <;> simp [Nat.beq]
    have b1 : ∀ k, Nat.beq (k % 2) 1 = decide (k % 2 = 1) := fun k => by
      rcases Nat.mod_two_eq_zero_or_one k with h | h <;> rw [h] <;> rfl
    rw [b0, b1]
    by_cases h0 : n = 0
    · simp only [h0, decide_true, cond_true, Tr.get]
      rw [b0, b1]
      by_cases hm : m = 0
      · simp [hm]
      · simp [hm, Tr.get]
    · by_cases h1 : n % 2 = 1
      · simp only [h0, decide_false, cond_false, h1, decide_true, cond_true, Tr.get]
        rw [b0, b1]
        by_cases hm : m = 0
        · subst hm; simp [Ne.symm h0]
        · by_cases hm1 : m % 2 = 1
          · simp only [hm, decide_false, cond_false, hm1, decide_true, cond_true, ih, Tr.get]
            by_cases e : m = n
            · rw [if_pos e, if_pos (by rw [e])]
            · rw [if_neg e, if_neg (by omega)]
          · have e : m ≠ n := fun e => hm1 (e ▸ h1)
            simp [hm, hm1, e, Tr.get]
      · simp only [h0, decide_false, cond_false, h1, Tr.get]
        rw [b0, b1]
        by_cases hm : m = 0
        · subst hm; simp [Ne.symm h0]
        · by_cases hm1 : m % 2 = 1
          · have e : m ≠ n := fun e => h1 (e ▸ hm1)
            simp [hm, hm1, e, Tr.get]
          · simp only [hm, decide_false, cond_false, hm1, ih, Tr.get]
            by_cases e : m = n
            · rw [if_pos e, if_pos (by rw [e])]
            · rw [if_neg e, if_neg (by omega)]
end Go.Proofs.Ytacfmplofkjonaa.Rf

/- Guards. -/
namespace Go.Proofs.Ytacfmplofkjonaa.Rf
set_option linter.unusedVariables false
set_option linter.unusedSimpArgs false

section
variable {P : Program} {E : Env} {F : Frame0} {n : Nat} {σ : Nat → Option Cont} {ρ : List D} {a : Act} {w w' : World} {G G' : Gh} {g : Option (Atom × Bool)} {o : Oper}

def vbool : Value → Option Bool
  | .bool b => some b
  | _ => none
theorem gOn_some {x : Atom} {want : Bool} {v : Value} (h : Sc v (x.val ρ) ∨ (v = undef ∧ x.val ρ = .undef)) : gOn ρ (some (x, want)) = (vbool v == some want) := by
  have key : ∀ d : D, x.val ρ = d → gOn ρ (some (x, want)) = (match d with | .bool b => b == want | _ => false) := by
    intro d hd
    simp only [gOn, hd]
    cases d <;> rfl
  rcases h with h | ⟨rfl, h⟩
  · rw [key _ rfl]
    generalize x.val ρ = d at h
    cases h with
    | int k n => rfl
    | bool b => cases b <;> cases want <;> rfl
    | str l => rfl
  · rw [key _ h]
    rfl

theorem rdGuard_rep (hR : R E.ntmps F σ ρ a w G) {ops : Array Oper} (hd : ∀ o ∈ ops.toList, DstOk E.ntmps o) (h : (rdGuard ops.toList o).eval σ = some g) : Region.wanted o (yielded ops a.tmps) = gOn ρ g := by
  unfold rdGuard at h
  unfold Region.wanted
  split at h
  · rename_i ho
    simp only [eval_ret, Option.some.injEq] at h
    subst h
    simp [ho, gOn]
  · rename_i j want ho
    simp only [ho]
    split at h
    · rename_i d hj
      have hdn : d < E.ntmps := by
        cases hoj : ops.toList[j]? with
        | none => rw [hoj] at hj; cases hj
        | some oj =>
          rw [hoj, Option.bind_some] at hj
          exact hd oj (List.mem_of_getElem? hoj) d hj
      have hy : yielded ops a.tmps j = vbool (tval E.ntmps a F.gh d) := by
        unfold yielded tval
        have : (ops[j]?).bind (·.dst) = some d := by rw [← hj, Array.getElem?_toList]
        rw [this, Option.bind_some, if_pos hdn]
        have hlt : d < a.tmps.size := by rw [hR.tmps]; exact hdn
        rw [Array.getElem?_eq_getElem hlt, Array.getD_eq_getD_getElem?, Array.getElem?_eq_getElem hlt, Option.getD_some]
        cases a.tmps[d] <;> rfl
      rw [hy]
      simp only [eval_rd] at h
      split at h
      · rename_i x hk
        simp only [eval_ret, Option.some.injEq] at h
        subst h
        have := hR.slot hk rfl
        simp only [SVRep, LeafRep] at this
        exact (gOn_some (.inl this)).symm
      · rename_i g' x hk
        simp only [eval_ret, Option.some.injEq] at h
        subst h
        have := hR.slot hk rfl
        simp only [SVRep, LeafRep] at this
        exact (gOn_some this.1).symm
      · cases h
    · cases h
end
end Go.Proofs.Ytacfmplofkjonaa.Rf

/- What a term's steps bind. -/
namespace Go.Proofs.Ytacfmplofkjonaa.Rf
set_option linter.unusedVariables false
set_option linter.unusedSimpArgs false

theorem atomScoped_val {n : Nat} {ρ ext : List D} {x : Atom} (h : atomScoped n x = true) (hn : n ≤ ρ.length) : x.val (ρ ++ ext) = x.val ρ := by
  refine Atom.val_append (n := n) ?_
  cases x with
  | v i =>
    simp only [atomScoped, Nat.blt_eq] at h
    simp only [Atom.ok]
    omega
  | c d => trivial
theorem atoms_val {n : Nat} {ρ ext : List D} {xs : List Atom} (h : xs.all (atomScoped n) = true) (hn : n ≤ ρ.length) : xs.map (·.val (ρ ++ ext)) = xs.map (·.val ρ) := by
  apply List.map_congr_left
  intro x hx
  rw [List.all_eq_true] at h
  exact atomScoped_val (h x hx) hn
theorem gScoped_on {n : Nat} {ρ ext : List D} {g : Option (Atom × Bool)} (h : gScoped n g = true) (hn : n ≤ ρ.length) : gOn (ρ ++ ext) g = gOn ρ g := by
  cases g with
  | none => rfl
  | some z =>
    obtain ⟨x, w⟩ := z
    simp only [gScoped] at h
    simp only [gOn, atomScoped_val h hn]
theorem bound_val {ρ ds ext : List D} {j : Nat} {d : D} (h : ds[j]? = some d) : (Atom.v (ρ.length + j)).val (ρ ++ ds ++ ext) = d := by
  have hlt := (List.getElem?_eq_some_iff.1 h).1
  simp only [Atom.val, List.getD_eq_getElem?_getD]
  rw [List.append_assoc, List.getElem?_append_right (by omega), List.getElem?_append_left (by omega), Nat.add_sub_cancel_left, h]
  rfl

theorem gScoped_mono {n m : Nat} {g : Option (Atom × Bool)} (h : gScoped n g = true) (hm : n ≤ m) : gScoped m g = true := by
  cases g with
  | none => rfl
  | some z =>
    obtain ⟨x, w⟩ := z
    cases x with
    | v i => simp only [gScoped, atomScoped, Nat.blt_eq] at h ⊢; omega
    | c d => rfl


/-! ### What a term comes to, the calls being given -/
section
variable {cf : Nat → List D → Option (List D)}
noncomputable def Ec {β : Type} (cf : Nat → List D → Option (List D)) (t : Tm β) (ρ : List D) : Option (Out β) := lim fun n => runT cf n t ρ
noncomputable def Lc {β : Type} (cf : Nat → List D → Option (List D)) (body : Tm β) (ρ vs : List D) : Option (Out β) := lim fun n => iter n (fun vs => runT cf n body (ρ ++ vs)) vs
theorem Ec_m {β : Type} (t : Tm β) (ρ : List D) : Mono fun n => runT cf n t ρ := fun n _ h => runT_mono (fun f _ _ h => h) (Nat.le_succ n) t _ _ h
theorem Lc_m {β : Type} (body : Tm β) (ρ vs : List D) : Mono fun n => iter n (fun vs => runT cf n body (ρ ++ vs)) vs :=
  fun n _ h => iter_mono (fun vs r hr => Ec_m body _ n r hr) (Nat.le_succ n) _ _ h
theorem Ec_some {β : Type} {t : Tm β} {ρ : List D} {o : Out β} : Ec cf t ρ = some o ↔ ∃ n, runT cf n t ρ = some o := lim_some (Ec_m t ρ)
theorem Ec_leaf {β : Type} (k : Kind) (xs : List Atom) (e : β) (ρ : List D) : Ec cf (.leaf k xs e) ρ = some ⟨k, xs, e, ρ⟩ := lim_const _
theorem Ec_stuck {β : Type} (ρ : List D) : Ec cf (.stuck : Tm β) ρ = none := lim_const _
theorem Ec_lt {β : Type} (g : Option (Atom × Bool)) (p : Prim) (xs : List Atom) (n : Nat) (k : Tm β) (ρ : List D) :
    Ec cf (.lt g p xs n k) ρ = if gOn ρ g then (p.run (xs.map (·.val ρ))).bind fun ds => if ds.length = n then Ec cf k (ρ ++ ds) else none
      else Ec cf k (ρ ++ List.replicate n .undef) := by
  unfold Ec
  simp only [runT]
  split
  · cases p.run (xs.map (·.val ρ)) with
    | none => exact lim_const _
    | some ds =>
      simp only [Option.bind_some]
      split
      · rfl
      · exact lim_const _
  · rfl
theorem Ec_call {β : Type} (g : Option (Atom × Bool)) (f : Nat) (xs : List Atom) (n : Nat) (olds : List Atom) (k : Tm β) (ρ : List D) :
    Ec cf (.call g f xs n olds k) ρ = if gOn ρ g then (cf f (xs.map (·.val ρ))).bind fun ds => if ds.length = n then Ec cf k (ρ ++ ds) else none
      else Ec cf k (ρ ++ (List.replicate (n - olds.length) .undef ++ olds.map (·.val ρ))) := by
  unfold Ec
  simp only [runT]
  split
  · cases cf f (xs.map (·.val ρ)) with
    | none => exact lim_const _
    | some ds =>
      simp only [Option.bind_some]
      split
      · rfl
      · exact lim_const _
  · rfl
theorem Ec_ite {β : Type} (c : Atom) (t e : Tm β) (ρ : List D) :
    Ec cf (.ite c t e) ρ = match c.val ρ with
      | .bool true => Ec cf t ρ
      | .bool false => Ec cf e ρ
      | _ => none := by
  unfold Ec
  simp only [runT]
  cases c.val ρ with
  | bool b => cases b <;> rfl
  | _ => exact lim_const _
theorem Ec_bind {β : Type} (i : Nat) (t k : Tm β) (ρ : List D) :
    Ec cf (.bind i t k) ρ = (Ec cf t ρ).bind fun o => if o.kind = .yield i then Ec cf k (ρ ++ o.vals) else some o := by
  unfold Ec
  simp only [runT]
  rw [lim_bind (a := fun n => runT cf n t ρ) (Ec_m t ρ) (fun o => by split; exact Ec_m k _; exact fun _ _ h => h)]
  congr 1
  funext o
  split
  · rfl
  · exact lim_const _
theorem Ec_loop {β : Type} (init : List Atom) (body : Tm β) (ρ : List D) : Ec cf (.loop init body) ρ = Lc cf body ρ (init.map (·.val ρ)) := rfl
theorem Lc_eq {β : Type} (body : Tm β) (ρ vs : List D) :
    Lc cf body ρ vs = (Ec cf body (ρ ++ vs)).bind fun o => if o.kind = .cont then Lc cf body ρ o.vals else some o := by
  have hm : ∀ vs, Mono fun n => iter n (fun vs => runT cf n body (ρ ++ vs)) vs := fun vs => Lc_m body ρ vs
  unfold Lc
  have e : ∀ vs r, (lim fun n => iter n (fun vs => runT cf n body (ρ ++ vs)) vs) = some r ↔ ((Ec cf body (ρ ++ vs)).bind fun o => if o.kind = .cont then (lim fun n => iter n (fun vs => runT cf n body (ρ ++ vs)) o.vals) else some o) = some r := by
    intro vs r
    rw [lim_some (hm vs)]
    simp only [Option.bind_eq_some_iff]
    constructor
    · rintro ⟨n, hn⟩
      cases n with
      | zero => cases hn
      | succ n =>
        simp only [iter, Option.bind_eq_some_iff] at hn
        obtain ⟨o, ho, hr⟩ := hn
        refine ⟨o, Ec_some.2 ⟨n + 1, ho⟩, ?_⟩
        split at hr
        · rename_i hk
          rw [if_pos hk, lim_some (hm _)]
          exact ⟨n + 1, iter_mono (fun _ _ h => h) (Nat.le_succ n) _ _ hr⟩
        · rename_i hk
          rw [if_neg hk]; exact hr
    · rintro ⟨o, ho, hr⟩
      obtain ⟨n, hn⟩ := Ec_some.1 ho
      split at hr
      · rename_i hk
        obtain ⟨m, hm'⟩ := (lim_some (hm _)).1 hr
        refine ⟨max n m + 1, ?_⟩
        simp only [iter, Option.bind_eq_some_iff]
        refine ⟨o, (Ec_m body (ρ ++ vs)).le (by omega) hn, ?_⟩
        rw [if_pos hk]
        exact iter_mono (fun vs r h => (Ec_m body (ρ ++ vs)).le (by omega) h) (by omega) _ _ hm'
      · rename_i hk
        refine ⟨n + 1, ?_⟩
        simp only [iter, Option.bind_eq_some_iff]
        exact ⟨o, Ec_m body _ _ _ hn, by rw [if_neg hk]; exact hr⟩
  exact Option.ext (e vs)
end

section
variable {cf : Nat → List D → Option (List D)}
theorem stepTm_ev {g : Option (Atom × Bool)} {k : Tm St} : ∀ {lets : List Step} {ρ : List D} {o : Out St}, gScoped ρ.length g = true → stepsScoped ρ.length lets = true → Ec cf (stepTm g k lets) ρ = some o →
    ∃ ds, ds.length = stepsN lets ∧ Ec cf k (ρ ++ ds) = some o ∧ ∀ ext, StepsOk cf (ρ ++ ds ++ ext) g ρ.length lets
  | [], ρ, o, _, _, h => ⟨[], rfl, by simpa [stepTm] using h, fun _ => trivial⟩
  | .prim p xs n :: r, ρ, o, hg, hs, h => by
    simp only [stepsScoped, stepScoped, Bool.and_eq_true] at hs
    obtain ⟨hxs, hs⟩ := hs
    simp only [stepTm, Ec_lt] at h
    have main : ∀ ds : List D, ds.length = n → Ec cf (stepTm g k r) (ρ ++ ds) = some o → (∀ ext, StepOk cf (ρ ++ ds ++ ext) g ρ.length (.prim p xs n)) →
        ∃ ds, ds.length = stepsN (.prim p xs n :: r) ∧ Ec cf k (ρ ++ ds) = some o ∧ ∀ ext, StepsOk cf (ρ ++ ds ++ ext) g ρ.length (.prim p xs n :: r) := by
      intro ds hl h1 h2
      obtain ⟨es, h3, h4, h5⟩ := stepTm_ev (lets := r) (ρ := ρ ++ ds) (gScoped_mono hg (by simp)) (by simp only [List.length_append, hl]; exact hs) h1
      refine ⟨ds ++ es, by rw [stepsN_cons]; simp [hl, h3, Step.n], by rw [← List.append_assoc]; exact h4, fun ext => ⟨?_, ?_⟩⟩
      · have := h2 (es ++ ext)
        simpa [List.append_assoc] using this
      · have := h5 ext
        simp only [List.length_append, hl] at this
        simpa [List.append_assoc, Step.n] using this
    by_cases hgo : gOn ρ g = true
    · rw [if_pos hgo] at h
      simp only [Option.bind_eq_some_iff] at h
      obtain ⟨ds, h1, h2⟩ := h
      split at h2
      case isFalse => cases h2
      rename_i hl
      refine main ds hl h2 fun ext => ⟨fun _ => ⟨ds, ?_, hl, fun j d hj => bound_val hj⟩, fun hoff => ?_⟩
      · rw [List.append_assoc, atoms_val hxs (Nat.le_refl _)]; exact h1
      · rw [List.append_assoc, gScoped_on hg (Nat.le_refl _), hgo] at hoff; cases hoff
    · rw [if_neg hgo] at h
      refine main (List.replicate n .undef) (by simp) h fun ext => ⟨fun hon => ?_, fun _ j hj => bound_val (by simp [hj])⟩
      rw [List.append_assoc, gScoped_on hg (Nat.le_refl _)] at hon
      exact absurd hon hgo
  | .call f xs n olds :: r, ρ, o, hg, hs, h => by
    simp only [stepsScoped, stepScoped, Bool.and_eq_true] at hs
    obtain ⟨⟨⟨hxs, hos⟩, hle⟩, hs⟩ := hs
    simp only [Nat.ble_eq] at hle
    simp only [stepTm, Ec_call] at h
    have main : ∀ ds : List D, ds.length = n → Ec cf (stepTm g k r) (ρ ++ ds) = some o → (∀ ext, StepOk cf (ρ ++ ds ++ ext) g ρ.length (.call f xs n olds)) →
        ∃ ds, ds.length = stepsN (.call f xs n olds :: r) ∧ Ec cf k (ρ ++ ds) = some o ∧ ∀ ext, StepsOk cf (ρ ++ ds ++ ext) g ρ.length (.call f xs n olds :: r) := by
      intro ds hl h1 h2
      obtain ⟨es, h3, h4, h5⟩ := stepTm_ev (lets := r) (ρ := ρ ++ ds) (gScoped_mono hg (by simp)) (by simp only [List.length_append, hl]; exact hs) h1
      refine ⟨ds ++ es, by rw [stepsN_cons]; simp [hl, h3, Step.n], by rw [← List.append_assoc]; exact h4, fun ext => ⟨?_, ?_⟩⟩
      · have := h2 (es ++ ext)
        simpa [List.append_assoc] using this
      · have := h5 ext
        simp only [List.length_append, hl] at this
        simpa [List.append_assoc, Step.n] using this
    by_cases hgo : gOn ρ g = true
    · rw [if_pos hgo] at h
      simp only [Option.bind_eq_some_iff] at h
      obtain ⟨ds, h1, h2⟩ := h
      split at h2
      case isFalse => cases h2
      rename_i hl
      refine main ds hl h2 fun ext => ⟨fun _ => ⟨ds, ?_, hl, fun j d hj => bound_val hj⟩, fun hoff => ?_⟩
      · rw [List.append_assoc, atoms_val hxs (Nat.le_refl _)]; exact h1
      · rw [List.append_assoc, gScoped_on hg (Nat.le_refl _), hgo] at hoff; cases hoff
    · rw [if_neg hgo] at h
      refine main _ (by simp; omega) h fun ext => ⟨fun hon => ?_, fun _ j d hd => ?_⟩
      · rw [List.append_assoc, gScoped_on hg (Nat.le_refl _)] at hon
        exact absurd hon hgo
      · rw [List.append_assoc, atoms_val hos (Nat.le_refl _)] at hd
        exact bound_val hd
end
end Go.Proofs.Ytacfmplofkjonaa.Rf

/- A region: its operations one behind the other. -/
namespace Go.Proofs.Ytacfmplofkjonaa.Rf
set_option linter.unusedVariables false
set_option linter.unusedSimpArgs false

theorem upds_congr : ∀ (u : List (Nat × Cont)) (f g : Nat → Option Cont) (k : Nat), f k = g k → upds f u k = upds g u k
  | [], f, g, k, h => h
  | (k', c) :: r, f, g, k, h => by
    refine upds_congr r _ _ k ?_
    unfold setK
    split
    · rfl
    · exact h
theorem puts_tr : ∀ (u : List (Nat × Cont)) (s : St) (k : Nat), (s.puts u).tr.get k = upds s.tr.get u k
  | [], s, k => rfl
  | (k', c) :: r, s, k => by
    rw [St.puts, puts_tr r _ k, upds]
    refine upds_congr r _ _ k ?_
    simp only [St.put, Tr.get_set, setK]
theorem puts_rest : ∀ (u : List (Nat × Cont)) (s : St), (s.puts u).nv = s.nv ∧ (s.puts u).nb = s.nb ∧ (s.puts u).nr = s.nr ∧ (s.puts u).nt = s.nt
  | [], s => ⟨rfl, rfl, rfl, rfl⟩
  | (k', c) :: r, s => by rw [St.puts]; exact puts_rest r _
theorem upds_mem : ∀ (u : List (Nat × Cont)) (f g : Nat → Option Cont) (k : Nat), (∃ c, (k, c) ∈ u) → upds f u k = upds g u k
  | [], f, g, k, h => by obtain ⟨c, hc⟩ := h; simp at hc
  | (k', c) :: r, f, g, k, h => by
    by_cases hk : k = k'
    · exact upds_congr r _ _ k (by unfold setK; rw [if_pos hk, if_pos hk])
    · refine upds_mem r _ _ k ?_
      obtain ⟨c', hc'⟩ := h
      rcases List.mem_cons.1 hc' with h1 | h1
      · exact absurd (Prod.mk.inj h1).1 hk
      · exact ⟨c', h1⟩

theorem freshR_get {t : Tr Cont} : ∀ {n r : Nat}, freshR t r n = true → ∀ j, r ≤ j → j < r + n → t.get (kR j) = none
  | 0, r, _, j, h1, h2 => by omega
  | n + 1, r, h, j, h1, h2 => by
    simp only [freshR, Bool.and_eq_true, Option.isNone_iff_eq_none] at h
    by_cases e : j = r
    · rw [e]; exact h.1
    · exact freshR_get h.2 j (by omega) (by omega)

theorem opOk_get {s : St} {g : Option (Atom × Bool)} {r : OpRes} {n : Nat} (h : opOk s g r = true) (hn : n ≤ s.nt) (hk : r.upd.all (fun x => keyIn n s.nb s.nr x.1) = true) (nv : Nat) (k : Nat) :
    ({ (s.puts r.upd) with nv := nv, nb := s.nb + 1, nr := s.nr + maxRoots } : St).get k = upds s.get r.upd k := by
  simp only [opOk, Bool.and_eq_true, Option.isNone_iff_eq_none] at h
  obtain ⟨⟨⟨⟨h1, h2⟩, -⟩, -⟩, -⟩ := h
  have e : ({ (s.puts r.upd) with nv := nv, nb := s.nb + 1, nr := s.nr + maxRoots } : St).get k = bif keyB s.nt (s.nb + 1) (s.nr + maxRoots) k then upds s.tr.get r.upd k else none := by
    unfold St.get
    dsimp only
    rw [puts_tr, (puts_rest r.upd s).2.2.2]
  rw [e]
  by_cases hm : ∃ c, (k, c) ∈ r.upd
  · obtain ⟨c, hc⟩ := hm
    have hin : keyB s.nt (s.nb + 1) (s.nr + maxRoots) k = true := by
      rw [List.all_eq_true] at hk
      have := hk _ hc
      unfold keyIn at this
      unfold keyB
      dsimp only at this
      cases b0 : Nat.beq (k % 3) 0 with
      | true => rw [b0, cond_true] at this; rw [cond_true]; simp only [Nat.blt_eq] at this ⊢; omega
      | false =>
        rw [b0, cond_false] at this
        rw [cond_false]
        cases b1 : Nat.beq (k % 3) 1 with
        | true => rw [b1, cond_true] at this; rw [cond_true]; simp only [Nat.ble_eq] at this; simp only [Nat.blt_eq]; omega
        | false => rw [b1, cond_false] at this; rw [cond_false]; exact this
    rw [hin, cond_true]
    exact upds_mem _ _ _ _ ⟨c, hc⟩
  · have hnone : ∀ c, (k, c) ∉ r.upd := fun c hc => hm ⟨c, hc⟩
    rw [upds_none _ _ _ hnone, upds_none _ _ _ hnone]
    unfold St.get
    cases ho : keyB s.nt s.nb s.nr k with
    | true =>
      have : keyB s.nt (s.nb + 1) (s.nr + maxRoots) k = true := by
        unfold keyB at ho ⊢
        cases b0 : Nat.beq (k % 3) 0 with
        | true => rw [b0] at ho; exact ho
        | false =>
          rw [b0, cond_false] at ho
          rw [cond_false]
          cases b1 : Nat.beq (k % 3) 1 with
          | true => rw [b1, cond_true] at ho; rw [cond_true]; simp only [Nat.blt_eq] at ho ⊢; omega
          | false => rw [b1, cond_false] at ho; rw [cond_false]; simp only [Nat.blt_eq] at ho ⊢; omega
      rw [this]
    | false =>
      rw [cond_false]
      cases hw : keyB s.nt (s.nb + 1) (s.nr + maxRoots) k with
      | false => rfl
      | true =>
        rw [cond_true]
        unfold keyB at ho hw
        cases b0 : Nat.beq (k % 3) 0 with
        | true => rw [b0, cond_true] at ho hw; rw [ho] at hw; cases hw
        | false =>
          rw [b0, cond_false] at ho hw
          have n0 : k % 3 ≠ 0 := fun e => by rw [e] at b0; cases b0
          cases b1 : Nat.beq (k % 3) 1 with
          | true =>
            rw [b1, cond_true] at ho hw
            simp only [Nat.beq_eq] at b1
            simp only [Nat.blt_eq] at hw
            have ho' : ¬ k / 3 < s.nb := fun e => by rw [← Nat.blt_eq, ho] at e; cases e
            have : k = kB s.nb := by unfold kB; omega
            rw [this]; exact h1
          | false =>
            rw [b1, cond_false] at ho hw
            have n1 : k % 3 ≠ 1 := fun e => by rw [e] at b1; cases b1
            simp only [Nat.blt_eq] at hw
            have ho' : ¬ k / 3 < s.nr := fun e => by rw [← Nat.blt_eq, ho] at e; cases e
            have : k = kR (k / 3) := by unfold kR; omega
            rw [this]
            exact freshR_get h2 _ (by omega) hw

theorem fresh_get {s : St} : Fresh s.get s.nb s.nr := by
  refine ⟨?_, fun j h1 h2 => ?_⟩
  · unfold St.get keyB kB
    have e : (3 * s.nb + 1) % 3 = 1 := by omega
    have e2 : (3 * s.nb + 1) / 3 = s.nb := by omega
    rw [e, e2]
    have : Nat.blt s.nb s.nb = false := by
      cases hb : Nat.blt s.nb s.nb with
      | false => rfl
      | true => simp at hb
    rw [this]; rfl
  · unfold St.get keyB kR
    have e : (3 * j + 2) % 3 = 2 := by omega
    have e2 : (3 * j + 2) / 3 = j := by omega
    rw [e, e2]
    have : Nat.blt j s.nr = false := by
      cases hb : Nat.blt j s.nr with
      | false => rfl
      | true => simp only [Nat.blt_eq] at hb; omega
    rw [this]; rfl
end Go.Proofs.Ytacfmplofkjonaa.Rf

/- An operation under its guard. -/
namespace Go.Proofs.Ytacfmplofkjonaa.Rf
set_option linter.unusedVariables false
set_option linter.unusedSimpArgs false

section
variable {P : Program} {E : Env} {F : Frame0} {n : Nat} {σ : Nat → Option Cont} {ρ : List D} {a : Act} {w w' : World} {G G' : Gh} {g : Option (Atom × Bool)} {o : Oper} {cf : Nat → List D → Option (List D)} {Q : Exit → Act → World → Prop}

theorem sxGuarded_inv {ops : List Oper} {mv mvs : Bool} {nv nb nr : Nat} {res : OpRes} (h : (sxGuarded E ops mv mvs nv nb nr o).eval σ = some (g, res)) :
    (rdGuard ops o).eval σ = some g ∧ DstOk E.ntmps o ∧ (sxOp E mv mvs nv nb nr g o).eval σ = some res ∧ res.upd.all (fun x => keyIn E.ntmps nb nr x.1) = true := by
  simp only [sxGuarded, eval_bind, Option.bind_eq_some_iff, eval_guardR, eval_ret, Option.some.injEq, Prod.mk.injEq] at h
  obtain ⟨g', h1, _, h2, res', h3, _, h4, rfl, rfl⟩ := h
  refine ⟨h1, fun d hd => ?_, h3, ?_⟩
  · rw [hd] at h2
    dsimp only at h2
    split at h2
    · rename_i hb; simpa using hb
    · cases h2
  · split at h4
    · rename_i hb; exact hb
    · cases h4

/-- One operation of a region, as the machine goes about it. -/
def OpGo (P : Program) (E : Env) (F : Frame0) (σ : Nat → Option Cont) (ρ : List D) (ops : Array Oper) (o : Oper) (Q : Exit → Act → World → Prop) (u : List (Nat × Cont)) (a : Act) (w : World) : Prop :=
  if Region.wanted o (yielded ops a.tmps) then o.wp P a w (Nx E.ntmps F σ ρ u) Q else Nx E.ntmps F σ ρ u (a.put o.dst undef) w

theorem sound_guarded (hR : R E.ntmps F σ ρ a w G) (hti : TiOk P E.ti) {ops : Array Oper} (hds : ∀ o ∈ ops.toList, DstOk E.ntmps o) {mv mvs : Bool} {nv nb nr : Nat} (hf : Fresh σ nb nr) {res : OpRes}
    (h : (sxGuarded E ops.toList mv mvs nv nb nr o).eval σ = some (g, res)) (hst : StepsOk cf ρ g nv res.lets)
    (hcall : ∀ f args argTypes, o.op = .call { callee := .value f, args, argTypes } → Sound P E F σ ρ a w g o Q res.upd) : OpGo P E F σ ρ ops o Q res.upd a w := by
  obtain ⟨h1, h2, h3, -⟩ := sxGuarded_inv h
  have hs := sound_op hR h2 hti hf h3 hst hcall
  unfold OpGo
  rw [rdGuard_rep hR hds h1]
  split
  · rename_i hg; exact hs.1 hg
  · rename_i hg; exact hs.2 (by simpa using hg)
end
end Go.Proofs.Ytacfmplofkjonaa.Rf

/- Terms that are put together: what they come to. -/
namespace Go.Proofs.Ytacfmplofkjonaa.Rf
set_option linter.unusedVariables false
set_option linter.unusedSimpArgs false

section
variable {cf : Nat → List D → Option (List D)}

theorem isYield_iff {i : Nat} {k : Kind} : isYield i k = true ↔ k = .yield i := by
  cases k <;> simp [isYield]
  exact eq_comm
theorem isCont_iff {k : Kind} : isCont k = true ↔ k = .cont := by cases k <;> simp [isCont]

/-- A loop that comes to something does so in finitely many turns. -/
theorem Lc_ind {β : Type} {body : Tm β} {ρ : List D} {C : List D → Out β → Prop}
    (hstop : ∀ vs o, Ec cf body (ρ ++ vs) = some o → o.kind ≠ .cont → C vs o)
    (hgo : ∀ vs o o', Ec cf body (ρ ++ vs) = some o → o.kind = .cont → C o.vals o' → Lc cf body ρ o.vals = some o' → C vs o') :
    ∀ {vs : List D} {o : Out β}, Lc cf body ρ vs = some o → C vs o := by
  intro vs o h
  have h' := (lim_some (Lc_m (cf := cf) body ρ vs)).1 h
  obtain ⟨n, hn⟩ := h'
  have key : ∀ m vs, iter m (fun vs => runT cf n body (ρ ++ vs)) vs = some o → C vs o ∧ Lc cf body ρ vs = some o := by
    intro m
    induction m with
    | zero => intro vs h; cases h
    | succ m ih =>
      intro vs h
      simp only [iter, Option.bind_eq_some_iff] at h
      obtain ⟨o1, h1, h2⟩ := h
      have e1 : Ec cf body (ρ ++ vs) = some o1 := Ec_some.2 ⟨n, h1⟩
      split at h2
      · rename_i hk
        obtain ⟨h3, h4⟩ := ih _ h2
        exact ⟨hgo vs o1 o e1 hk h3 h4, by rw [Lc_eq, e1, Option.bind_some, if_pos hk]; exact h4⟩
      · rename_i hk
        obtain rfl := Option.some.inj h2
        exact ⟨hstop vs o1 e1 hk, by rw [Lc_eq, e1, Option.bind_some, if_neg hk]⟩
  exact (key n vs hn).1

theorem no_ev {β : Type} {f : Kind → Bool} : ∀ {t : Tm β} {ρ : List D} {o : Out β}, t.no f = true → Ec cf t ρ = some o → f o.kind = false
  | .leaf k xs e, ρ, o, hn, h => by
    rw [Ec_leaf] at h
    obtain rfl := Option.some.inj h
    simpa [Tm.no] using hn
  | .stuck, ρ, o, hn, h => by rw [Ec_stuck] at h; cases h
  | .lt g p xs n k, ρ, o, hn, h => by
    rw [Ec_lt] at h
    split at h
    · simp only [Option.bind_eq_some_iff] at h
      obtain ⟨ds, -, h⟩ := h
      split at h
      · exact no_ev (t := k) hn h
      · cases h
    · exact no_ev (t := k) hn h
  | .call g c xs n os k, ρ, o, hn, h => by
    rw [Ec_call] at h
    split at h
    · simp only [Option.bind_eq_some_iff] at h
      obtain ⟨ds, -, h⟩ := h
      split at h
      · exact no_ev (t := k) hn h
      · cases h
    · exact no_ev (t := k) hn h
  | .ite c t e, ρ, o, hn, h => by
    simp only [Tm.no, Bool.and_eq_true] at hn
    rw [Ec_ite] at h
    split at h
    · exact no_ev hn.1 h
    · exact no_ev hn.2 h
    · cases h
  | .bind i t k, ρ, o, hn, h => by
    simp only [Tm.no, Bool.and_eq_true] at hn
    simp only [Ec_bind, Option.bind_eq_some_iff] at h
    obtain ⟨o1, h1, h2⟩ := h
    split at h2
    · exact no_ev hn.2 h2
    · obtain rfl := Option.some.inj h2
      exact no_ev hn.1 h1
  | .loop init b, ρ, o, hn, h => by
    rw [Ec_loop] at h
    simp only [Tm.no] at hn
    exact Lc_ind (C := fun _ o => f o.kind = false) (fun vs o h1 _ => no_ev hn h1) (fun _ _ _ _ _ h3 _ => h3) h

theorem graft_ev {f : St → Option (Tm St)} : ∀ {t t' : Tm St} {ρ : List D} {o' : Out St}, t.graft f = some t' → Ec cf t' ρ = some o' →
    ∃ o, Ec cf t ρ = some o ∧ ((o.kind = .fall ∧ ∃ r, f o.ext = some r ∧ Ec cf r o.env = some o') ∨ (o.kind ≠ .fall ∧ o' = o))
  | .leaf k xs s, t', ρ, o', hg, h => by
    cases k with
    | fall => exact ⟨_, Ec_leaf .., .inl ⟨rfl, t', hg, h⟩⟩
    | _ =>
      simp only [Tm.graft, Option.some.injEq] at hg
      subst hg
      rw [Ec_leaf] at h
      obtain rfl := Option.some.inj h
      exact ⟨_, Ec_leaf .., .inr ⟨by simp, rfl⟩⟩
  | .stuck, t', ρ, o', hg, h => by
    simp only [Tm.graft, Option.some.injEq] at hg
    subst hg
    rw [Ec_stuck] at h; cases h
  | .lt g p xs n k, t', ρ, o', hg, h => by
    simp only [Tm.graft, Option.map_eq_some_iff] at hg
    obtain ⟨k', hk, rfl⟩ := hg
    rw [Ec_lt] at h
    simp only [Ec_lt]
    split at h
    · rename_i hgo
      simp only [Option.bind_eq_some_iff] at h
      obtain ⟨ds, h1, h⟩ := h
      split at h
      · rename_i hl
        obtain ⟨o, h2, h3⟩ := graft_ev hk h
        exact ⟨o, by rw [if_pos hgo, h1, Option.bind_some, if_pos hl]; exact h2, h3⟩
      · cases h
    · rename_i hgo
      obtain ⟨o, h2, h3⟩ := graft_ev hk h
      exact ⟨o, by rw [if_neg hgo]; exact h2, h3⟩
  | .call g c xs n os k, t', ρ, o', hg, h => by
    simp only [Tm.graft, Option.map_eq_some_iff] at hg
    obtain ⟨k', hk, rfl⟩ := hg
    rw [Ec_call] at h
    simp only [Ec_call]
    split at h
    · rename_i hgo
      simp only [Option.bind_eq_some_iff] at h
      obtain ⟨ds, h1, h⟩ := h
      split at h
      · rename_i hl
        obtain ⟨o, h2, h3⟩ := graft_ev hk h
        exact ⟨o, by rw [if_pos hgo, h1, Option.bind_some, if_pos hl]; exact h2, h3⟩
      · cases h
    · rename_i hgo
      obtain ⟨o, h2, h3⟩ := graft_ev hk h
      exact ⟨o, by rw [if_neg hgo]; exact h2, h3⟩
  | .ite c t e, t', ρ, o', hg, h => by
    simp only [Tm.graft, Option.bind_eq_some_iff, Option.map_eq_some_iff] at hg
    obtain ⟨t1, ht, e1, he, rfl⟩ := hg
    rw [Ec_ite] at h
    simp only [Ec_ite]
    split at h
    · exact graft_ev ht h
    · exact graft_ev he h
    · cases h
  | .bind i t k, t', ρ, o', hg, h => by
    simp only [Tm.graft] at hg
    cases hn : t.no atFall with
    | false => rw [hn] at hg; cases hg
    | true =>
      rw [hn, cond_true, Option.map_eq_some_iff] at hg
      obtain ⟨k', hk, rfl⟩ := hg
      simp only [Ec_bind, Option.bind_eq_some_iff] at h
      obtain ⟨o1, h1, h2⟩ := h
      simp only [Ec_bind, h1, Option.bind_some]
      split at h2
      · rename_i hy
        rw [if_pos hy]
        exact graft_ev hk h2
      · rename_i hy
        rw [if_neg hy]
        obtain rfl := Option.some.inj h2
        refine ⟨o1, rfl, .inr ⟨fun e => ?_, rfl⟩⟩
        have := no_ev hn h1
        rw [e] at this
        cases this
  | .loop init b, t', ρ, o', hg, h => by
    simp only [Tm.graft] at hg
    cases hn : b.no atFall with
    | false => rw [hn] at hg; cases hg
    | true =>
      rw [hn, cond_true, Option.some.injEq] at hg
      subst hg
      refine ⟨o', h, .inr ⟨fun e => ?_, rfl⟩⟩
      have := no_ev (t := .loop init b) (f := atFall) hn h
      rw [e] at this
      cases this

theorem exitFall_ev {id : Nat} : ∀ {t t' : Tm St} {ρ : List D} {o' : Out St}, t.exitFall id = some t' → Ec cf t' ρ = some o' →
    ∃ o, Ec cf t ρ = some o ∧ ((isExit id o.kind = true ∧ o' = ⟨.fall, [], o.ext, o.env⟩) ∨ (isExit id o.kind = false ∧ o' = o))
  | .leaf k xs s, t', ρ, o', hg, h => by
    cases k with
    | exit j =>
      simp only [Tm.exitFall, Option.some.injEq] at hg
      cases hb : Nat.beq id j with
      | true =>
        rw [hb, cond_true] at hg
        subst hg
        rw [Ec_leaf] at h
        obtain rfl := Option.some.inj h
        exact ⟨_, Ec_leaf .., .inl ⟨by simpa [isExit] using hb, rfl⟩⟩
      | false =>
        rw [hb, cond_false] at hg
        subst hg
        rw [Ec_leaf] at h
        obtain rfl := Option.some.inj h
        exact ⟨_, Ec_leaf .., .inr ⟨by simpa [isExit] using hb, rfl⟩⟩
    | _ =>
      simp only [Tm.exitFall, Option.some.injEq] at hg
      subst hg
      rw [Ec_leaf] at h
      obtain rfl := Option.some.inj h
      exact ⟨_, Ec_leaf .., .inr ⟨rfl, rfl⟩⟩
  | .stuck, t', ρ, o', hg, h => by
    simp only [Tm.exitFall, Option.some.injEq] at hg
    subst hg
    rw [Ec_stuck] at h; cases h
  | .lt g p xs n k, t', ρ, o', hg, h => by
    simp only [Tm.exitFall, Option.map_eq_some_iff] at hg
    obtain ⟨k', hk, rfl⟩ := hg
    rw [Ec_lt] at h
    simp only [Ec_lt]
    split at h
    · rename_i hgo
      simp only [Option.bind_eq_some_iff] at h
      obtain ⟨ds, h1, h⟩ := h
      split at h
      · rename_i hl
        obtain ⟨o, h2, h3⟩ := exitFall_ev hk h
        exact ⟨o, by rw [if_pos hgo, h1, Option.bind_some, if_pos hl]; exact h2, h3⟩
      · cases h
    · rename_i hgo
      obtain ⟨o, h2, h3⟩ := exitFall_ev hk h
      exact ⟨o, by rw [if_neg hgo]; exact h2, h3⟩
  | .call g c xs n os k, t', ρ, o', hg, h => by
    simp only [Tm.exitFall, Option.map_eq_some_iff] at hg
    obtain ⟨k', hk, rfl⟩ := hg
    rw [Ec_call] at h
    simp only [Ec_call]
    split at h
    · rename_i hgo
      simp only [Option.bind_eq_some_iff] at h
      obtain ⟨ds, h1, h⟩ := h
      split at h
      · rename_i hl
        obtain ⟨o, h2, h3⟩ := exitFall_ev hk h
        exact ⟨o, by rw [if_pos hgo, h1, Option.bind_some, if_pos hl]; exact h2, h3⟩
      · cases h
    · rename_i hgo
      obtain ⟨o, h2, h3⟩ := exitFall_ev hk h
      exact ⟨o, by rw [if_neg hgo]; exact h2, h3⟩
  | .ite c t e, t', ρ, o', hg, h => by
    simp only [Tm.exitFall, Option.bind_eq_some_iff, Option.map_eq_some_iff] at hg
    obtain ⟨t1, ht, e1, he, rfl⟩ := hg
    rw [Ec_ite] at h
    simp only [Ec_ite]
    split at h
    · exact exitFall_ev ht h
    · exact exitFall_ev he h
    · cases h
  | .bind i t k, t', ρ, o', hg, h => by
    simp only [Tm.exitFall] at hg
    cases hn : t.no (isExit id) with
    | false => rw [hn] at hg; cases hg
    | true =>
      rw [hn, cond_true, Option.map_eq_some_iff] at hg
      obtain ⟨k', hk, rfl⟩ := hg
      simp only [Ec_bind, Option.bind_eq_some_iff] at h
      obtain ⟨o1, h1, h2⟩ := h
      simp only [Ec_bind, h1, Option.bind_some]
      split at h2
      · rename_i hy
        rw [if_pos hy]
        exact exitFall_ev hk h2
      · rename_i hy
        rw [if_neg hy]
        obtain rfl := Option.some.inj h2
        exact ⟨o1, rfl, .inr ⟨no_ev hn h1, rfl⟩⟩
  | .loop init b, t', ρ, o', hg, h => by
    simp only [Tm.exitFall] at hg
    cases hn : b.no (isExit id) with
    | false => rw [hn] at hg; cases hg
    | true =>
      rw [hn, cond_true, Option.some.injEq] at hg
      subst hg
      exact ⟨o', h, .inr ⟨no_ev (t := .loop init b) (f := isExit id) hn h, rfl⟩⟩

theorem turn_ev {out : Kind} {sel : Kind → Bool} {f : St → Option (Tm St)} (hf : ∀ s r, f s = some r → ∀ ρ o, Ec cf r ρ = some o → o.kind = out)
    (hc : sel .cont = false) (hy : ∀ i, sel (.yield i) = false) : ∀ {t t' : Tm St} {ρ : List D} {o' : Out St}, t.turn out sel f = some t' → Ec cf t' ρ = some o' →
    ∃ o, Ec cf t ρ = some o ∧ ((sel o.kind = true ∧ o'.kind = out ∧ ∃ r, f o.ext = some r ∧ Ec cf r o.env = some o') ∨ (sel o.kind = false ∧ o' = o))
  | .leaf k xs s, t', ρ, o', hg, h => by
    simp only [Tm.turn] at hg
    cases hs : sel k with
    | true =>
      rw [hs, cond_true] at hg
      exact ⟨_, Ec_leaf .., .inl ⟨hs, hf _ _ hg _ _ h, t', hg, h⟩⟩
    | false =>
      rw [hs, cond_false, Option.some.injEq] at hg
      subst hg
      rw [Ec_leaf] at h
      obtain rfl := Option.some.inj h
      exact ⟨_, Ec_leaf .., .inr ⟨hs, rfl⟩⟩
  | .stuck, t', ρ, o', hg, h => by
    simp only [Tm.turn, Option.some.injEq] at hg
    subst hg
    rw [Ec_stuck] at h; cases h
  | .lt g p xs n k, t', ρ, o', hg, h => by
    simp only [Tm.turn, Option.map_eq_some_iff] at hg
    obtain ⟨k', hk, rfl⟩ := hg
    rw [Ec_lt] at h
    simp only [Ec_lt]
    split at h
    · rename_i hgo
      simp only [Option.bind_eq_some_iff] at h
      obtain ⟨ds, h1, h⟩ := h
      split at h
      · rename_i hl
        obtain ⟨o, h2, h3⟩ := turn_ev hf hc hy hk h
        exact ⟨o, by rw [if_pos hgo, h1, Option.bind_some, if_pos hl]; exact h2, h3⟩
      · cases h
    · rename_i hgo
      obtain ⟨o, h2, h3⟩ := turn_ev hf hc hy hk h
      exact ⟨o, by rw [if_neg hgo]; exact h2, h3⟩
  | .call g c xs n os k, t', ρ, o', hg, h => by
    simp only [Tm.turn, Option.map_eq_some_iff] at hg
    obtain ⟨k', hk, rfl⟩ := hg
    rw [Ec_call] at h
    simp only [Ec_call]
    split at h
    · rename_i hgo
      simp only [Option.bind_eq_some_iff] at h
      obtain ⟨ds, h1, h⟩ := h
      split at h
      · rename_i hl
        obtain ⟨o, h2, h3⟩ := turn_ev hf hc hy hk h
        exact ⟨o, by rw [if_pos hgo, h1, Option.bind_some, if_pos hl]; exact h2, h3⟩
      · cases h
    · rename_i hgo
      obtain ⟨o, h2, h3⟩ := turn_ev hf hc hy hk h
      exact ⟨o, by rw [if_neg hgo]; exact h2, h3⟩
  | .ite c t e, t', ρ, o', hg, h => by
    simp only [Tm.turn, Option.bind_eq_some_iff, Option.map_eq_some_iff] at hg
    obtain ⟨t1, ht, e1, he, rfl⟩ := hg
    rw [Ec_ite] at h
    simp only [Ec_ite]
    split at h
    · exact turn_ev hf hc hy ht h
    · exact turn_ev hf hc hy he h
    · cases h
  | .bind i t k, t', ρ, o', hg, h => by
    simp only [Tm.turn] at hg
    cases hiy : isYield i out with
    | true =>
      rw [hiy, cond_true] at hg
      cases hn : t.no sel with
      | false => rw [hn] at hg; cases hg
      | true =>
        rw [hn, cond_true, Option.map_eq_some_iff] at hg
        obtain ⟨k', hk, rfl⟩ := hg
        simp only [Ec_bind, Option.bind_eq_some_iff] at h
        obtain ⟨o1, h1, h2⟩ := h
        simp only [Ec_bind, h1, Option.bind_some]
        split at h2
        · rename_i hy'
          rw [if_pos hy']
          exact turn_ev hf hc hy hk h2
        · rename_i hy'
          rw [if_neg hy']
          obtain rfl := Option.some.inj h2
          exact ⟨o1, rfl, .inr ⟨no_ev hn h1, rfl⟩⟩
    | false =>
      rw [hiy, cond_false] at hg
      simp only [Option.bind_eq_some_iff, Option.map_eq_some_iff] at hg
      obtain ⟨t1, ht, k', hk, rfl⟩ := hg
      have hne : out ≠ .yield i := fun e => by rw [isYield_iff.2 e] at hiy; cases hiy
      simp only [Ec_bind, Option.bind_eq_some_iff] at h
      obtain ⟨o1', h1, h2⟩ := h
      obtain ⟨o1, h3, h4⟩ := turn_ev hf hc hy ht h1
      simp only [Ec_bind, h3, Option.bind_some]
      rcases h4 with ⟨h5, h6, h7⟩ | ⟨h5, h6⟩
      · rw [if_neg (by rw [h6]; exact hne)] at h2
        obtain rfl := Option.some.inj h2
        have : o1.kind ≠ .yield i := fun e => by rw [e, hy] at h5; cases h5
        rw [if_neg this]
        exact ⟨o1, rfl, .inl ⟨h5, h6, h7⟩⟩
      · subst h6
        split at h2
        · rename_i hy'
          rw [if_pos hy']
          exact turn_ev hf hc hy hk h2
        · rename_i hy'
          rw [if_neg hy']
          obtain rfl := Option.some.inj h2
          exact ⟨_, rfl, .inr ⟨h5, rfl⟩⟩
  | .loop init b, t', ρ, o', hg, h => by
    simp only [Tm.turn] at hg
    cases hic : isCont out with
    | true =>
      rw [hic, cond_true] at hg
      cases hn : b.no sel with
      | false => rw [hn] at hg; cases hg
      | true =>
        rw [hn, cond_true, Option.some.injEq] at hg
        subst hg
        exact ⟨o', h, .inr ⟨no_ev (t := .loop init b) (f := sel) hn h, rfl⟩⟩
    | false =>
      rw [hic, cond_false, Option.map_eq_some_iff] at hg
      obtain ⟨b', hb, rfl⟩ := hg
      have hne : out ≠ .cont := fun e => by rw [isCont_iff.2 e] at hic; cases hic
      rw [Ec_loop] at h
      simp only [Ec_loop]
      refine Lc_ind (C := fun vs o' => ∃ o, Lc cf b ρ vs = some o ∧ ((sel o.kind = true ∧ o'.kind = out ∧ ∃ r, f o.ext = some r ∧ Ec cf r o.env = some o') ∨ (sel o.kind = false ∧ o' = o)))
        (fun vs o1' h1 hk => ?_) (fun vs o1' o2 h1 hk h2 h2' => ?_) h
      · obtain ⟨o1, h3, h4⟩ := turn_ev hf hc hy hb h1
        rcases h4 with ⟨h5, h6, h7⟩ | ⟨h5, h6⟩
        · have : o1.kind ≠ .cont := fun e => by rw [e, hc] at h5; cases h5
          exact ⟨o1, by rw [Lc_eq, h3, Option.bind_some, if_neg this], .inl ⟨h5, h6, h7⟩⟩
        · subst h6
          exact ⟨o1', by rw [Lc_eq, h3, Option.bind_some, if_neg hk], .inr ⟨h5, rfl⟩⟩
      · obtain ⟨o1, h3, h4⟩ := turn_ev hf hc hy hb h1
        rcases h4 with ⟨h5, h6, h7⟩ | ⟨h5, h6⟩
        · exact absurd (h6.symm.trans hk) hne
        · subst h6
          obtain ⟨o, h8, h9⟩ := h2
          exact ⟨o, by rw [Lc_eq, h3, Option.bind_some, if_pos hk]; exact h8, h9⟩
end
end Go.Proofs.Ytacfmplofkjonaa.Rf

/- A state's meaning where more is bound. -/
namespace Go.Proofs.Ytacfmplofkjonaa.Rf
set_option linter.unusedVariables false
set_option linter.unusedSimpArgs false

def Scoped (σ : Nat → Option Cont) (N : Nat) : Prop := ∀ k c, σ k = some c → contScoped N c = true
def SameAt (N : Nat) (ρ ρ' : List D) : Prop := ∀ x, atomScoped N x = true → x.val ρ' = x.val ρ
theorem SameAt.ext {N : Nat} {ρ : List D} (h : N ≤ ρ.length) (e : List D) : SameAt N ρ (ρ ++ e) := fun x hx => atomScoped_val hx h

section
variable {n : Nat} {F : Frame0} {σ : Nat → Option Cont} {ρ ρ' : List D} {a : Act} {w : World} {G : Gh} {N : Nat}

theorem SameAt.gOn (h : SameAt N ρ ρ') {g : Option (Atom × Bool)} (hg : gScoped N g = true) : Go.Proofs.Ytacfmplofkjonaa.Rf.gOn ρ' g = Go.Proofs.Ytacfmplofkjonaa.Rf.gOn ρ g := by
  cases g with
  | none => rfl
  | some z =>
    obtain ⟨x, w⟩ := z
    simp only [gScoped] at hg
    simp only [Go.Proofs.Ytacfmplofkjonaa.Rf.gOn, h x hg]
theorem SameAt.path (h : SameAt N ρ ρ') {p : List (Atom × Nat × Nat)} (hp : (p.all fun x => atomScoped N x.1) = true) : pathVal ρ' p = pathVal ρ p := by
  unfold pathVal
  apply List.map_congr_left
  intro x hx
  rw [List.all_eq_true] at hp
  unfold idxVal
  rw [h x.1 (hp x hx)]

mutual
theorem LeafRep.same (h : SameAt N ρ ρ') : ∀ (l : Leaf) (v : Value), l.inScope N = true → LeafRep σ ρ G w l v → LeafRep σ ρ' G w l v
  | .dead, _, _, hl => by simpa [LeafRep] using hl
  | .sc x, v, hs, hl => by
    simp only [Leaf.inScope] at hs
    simp only [LeafRep, h x hs] at hl ⊢
    exact hl
  | .su g x, v, hs, hl => by
    simp only [Leaf.inScope, Bool.and_eq_true] at hs
    have hg : Go.Proofs.Ytacfmplofkjonaa.Rf.gOn ρ' (some g) = Go.Proofs.Ytacfmplofkjonaa.Rf.gOn ρ (some g) := h.gOn (by obtain ⟨y, b⟩ := g; exact hs.2)
    simp only [LeafRep, h x hs.1, hg] at hl ⊢
    exact hl
  | .ex r, v, _, hl => by simpa [LeafRep] using hl
  | .sn deps p nie x, v, hs, hl => by
    simp only [Leaf.inScope, Bool.and_eq_true] at hs
    simp only [LeafRep, h x hs.1] at hl ⊢
    refine ⟨hl.1, fun hv => ?_⟩
    obtain ⟨h1, h2, h3⟩ := hl.2 hv
    refine ⟨h1, h2, ?_⟩
    cases p with
    | no => trivial
    | view => exact h3
    | path p =>
      simp only [PthRep] at h3 ⊢
      rw [h.path hs.2]
      exact h3
  | .px b off, v, _, hl => by simpa [LeafRep] using hl
  | .pe l sz i off, v, hs, hl => by
    simp only [Leaf.inScope, Bool.and_eq_true] at hs
    simp only [LeafRep, h i hs.2] at hl ⊢
    obtain ⟨a, n, c, k, iv, h1, h2⟩ := hl
    exact ⟨a, n, c, k, iv, LeafRep.same h l _ hs.1 h1, h2⟩
  | .rp deps sz x, v, hs, hl => by
    simp only [Leaf.inScope] at hs
    simp only [LeafRep, h x hs] at hl ⊢
    exact hl
  | .pn, v, _, hl => by simpa [LeafRep] using hl
  | .clo f caps, v, hs, hl => by
    simp only [Leaf.inScope] at hs
    simp only [LeafRep] at hl ⊢
    obtain ⟨vs, h1, h2⟩ := hl
    exact ⟨vs, h1, LeavesRep.same h caps vs hs h2⟩
theorem LeavesRep.same (h : SameAt N ρ ρ') : ∀ (ls : List Leaf) (vs : List Value), leavesScoped N ls = true → LeavesRep σ ρ G w ls vs → LeavesRep σ ρ' G w ls vs
  | [], vs, _, hl => by simpa [LeavesRep] using hl
  | l :: ls, vs, hs, hl => by
    simp only [leavesScoped, Bool.and_eq_true] at hs
    simp only [LeavesRep] at hl ⊢
    obtain ⟨u, us, e, h1, h2⟩ := hl
    exact ⟨u, us, e, LeafRep.same h l u hs.1 h1, LeavesRep.same h ls us hs.2 h2⟩
end
theorem TupRep.same (h : SameAt N ρ ρ') : ∀ (ts : List (Bool × List Leaf)) (us : List Value), (ts.all fun v => leavesScoped N v.2) = true → TupRep σ ρ G w ts us → TupRep σ ρ' G w ts us
  | [], _, _, ht => ht
  | (a, ls) :: r, us, hs, ht => by
    simp only [List.all_cons, Bool.and_eq_true] at hs
    obtain ⟨u, us', vs, e, h1, h2, h3⟩ := ht
    exact ⟨u, us', vs, e, LeavesRep.same h ls vs hs.1 h1, h2, TupRep.same h r us' hs.2 h3⟩
theorem SVRep.same (h : SameAt N ρ ρ') {v : SV} {u : Value} (hs : svScoped N v = true) (hv : SVRep σ ρ G w v u) : SVRep σ ρ' G w v u := by
  cases v with
  | dead => trivial
  | one l => exact LeafRep.same h l u hs hv
  | agg ls => obtain ⟨vs, e, h1⟩ := hv; exact ⟨vs, e, LeavesRep.same h ls vs hs h1⟩
  | tup ts => obtain ⟨us, e, h1⟩ := hv; exact ⟨us, e, TupRep.same h ts us hs h1⟩
theorem leavesScoped_get : ∀ {ls : List Leaf} {j : Nat} {l : Leaf}, leavesScoped N ls = true → ls[j]? = some l → l.inScope N = true
  | [], j, l, _, h => by simp at h
  | m :: ls, 0, l, hs, h => by
    simp only [leavesScoped, Bool.and_eq_true] at hs
    simp only [List.getElem?_cons_zero, Option.some.injEq] at h
    rw [← h]; exact hs.1
  | m :: ls, j + 1, l, hs, h => by
    simp only [leavesScoped, Bool.and_eq_true] at hs
    exact leavesScoped_get hs.2 (by simpa using h)

theorem R.same (h : R n F σ ρ a w G) (hs : Scoped σ N) (hv : SameAt N ρ ρ') : R n F σ ρ' a w G := by
  refine ⟨h.tmps, h.defers, fun k c hk => ?_, h.frame, h.rng⟩
  have hsc := hs k c hk
  cases c with
  | slot g v =>
    simp only [contScoped, Bool.and_eq_true] at hsc
    obtain ⟨t, e, h1⟩ := h.cont k _ hk
    exact ⟨t, e, fun hg => (h1 (by rw [← hv.gOn hsc.1]; exact hg)).same hv hsc.2⟩
  | box ro ls =>
    simp only [contScoped] at hsc
    obtain ⟨b, e, h1, h2, h3⟩ := h.cont k _ hk
    refine ⟨b, e, h1, h2, fun j l hj => ?_⟩
    obtain ⟨v, h4, h5, h6⟩ := h3 j l hj
    exact ⟨v, h4, h5, LeafRep.same hv l v (leavesScoped_get hsc hj) h6⟩
  | root x m ver st =>
    simp only [contScoped] at hsc
    obtain ⟨r, e, h0, h1⟩ := h.cont k _ hk
    refine ⟨r, e, h0, ?_⟩
    cases st with
    | live => simp only [RootRep] at h1 ⊢; rw [hv x hsc]; exact h1
    | frozen => simp only [RootRep] at h1 ⊢; rw [hv x hsc]; exact h1
    | gone => trivial
    | fwd r' => exact h1
theorem R.ext (h : R n F σ ρ a w G) (hs : Scoped σ N) (hn : N ≤ ρ.length) (e : List D) : R n F σ (ρ ++ e) a w G := h.same hs (.ext hn e)

/-! Scoped contents stay so. -/
theorem atomScoped_mono {M : Nat} (h : N ≤ M) {x : Atom} (hx : atomScoped N x = true) : atomScoped M x = true := by
  cases x with
  | c d => rfl
  | v i => simp only [atomScoped, Nat.blt_eq] at hx ⊢; omega
theorem pathScoped_mono {M : Nat} (h : N ≤ M) {p : Pth} (hx : pthScoped N p = true) : pthScoped M p = true := by
  cases p with
  | no => rfl
  | view => rfl
  | path p =>
    simp only [pthScoped, List.all_eq_true] at hx ⊢
    exact fun x hm => atomScoped_mono h (hx x hm)
mutual
theorem leafScoped_mono {M : Nat} (h : N ≤ M) : ∀ (l : Leaf), l.inScope N = true → l.inScope M = true
  | .dead, _ => rfl
  | .sc x, hs => by simp only [Leaf.inScope] at hs ⊢; exact atomScoped_mono h hs
  | .su g x, hs => by simp only [Leaf.inScope, Bool.and_eq_true] at hs ⊢; exact ⟨atomScoped_mono h hs.1, atomScoped_mono h hs.2⟩
  | .ex r, _ => rfl
  | .sn deps p nie x, hs => by simp only [Leaf.inScope, Bool.and_eq_true] at hs ⊢; exact ⟨atomScoped_mono h hs.1, pathScoped_mono h hs.2⟩
  | .px b off, _ => rfl
  | .pe l sz i off, hs => by simp only [Leaf.inScope, Bool.and_eq_true] at hs ⊢; exact ⟨leafScoped_mono h l hs.1, atomScoped_mono h hs.2⟩
  | .rp deps sz x, hs => by simp only [Leaf.inScope] at hs ⊢; exact atomScoped_mono h hs
  | .pn, _ => rfl
  | .clo f caps, hs => by simp only [Leaf.inScope] at hs ⊢; exact leavesScoped_mono h caps hs
theorem leavesScoped_mono {M : Nat} (h : N ≤ M) : ∀ (ls : List Leaf), leavesScoped N ls = true → leavesScoped M ls = true
  | [], _ => rfl
  | l :: ls, hs => by simp only [leavesScoped, Bool.and_eq_true] at hs ⊢; exact ⟨leafScoped_mono h l hs.1, leavesScoped_mono h ls hs.2⟩
end
theorem contScoped_mono {M : Nat} (h : N ≤ M) {c : Cont} (hs : contScoped N c = true) : contScoped M c = true := by
  cases c with
  | slot g v =>
    simp only [contScoped, Bool.and_eq_true] at hs ⊢
    refine ⟨gScoped_mono hs.1 h, ?_⟩
    cases v with
    | dead => rfl
    | one l => exact leafScoped_mono h l hs.2
    | agg ls => exact leavesScoped_mono h ls hs.2
    | tup ts =>
      have h2 := hs.2
      simp only [svScoped, List.all_eq_true] at h2 ⊢
      exact fun x hx => leavesScoped_mono h x.2 (h2 x hx)
  | box ro ls => exact leavesScoped_mono h ls hs
  | root x m ver st => exact atomScoped_mono h hs
theorem Scoped.mono {M : Nat} (hs : Scoped σ N) (h : N ≤ M) : Scoped σ M := fun k c hk => contScoped_mono h (hs k c hk)
theorem Scoped.upds {M : Nat} (hs : Scoped σ N) (h : N ≤ M) {u : List (Nat × Cont)} (hu : u.all (fun x => contScoped M x.2) = true) : Scoped (upds σ u) M := by
  intro k c hk
  rcases upds_get u σ k c hk with h1 | ⟨-, h1⟩
  · rw [List.all_eq_true] at hu
    exact hu _ h1
  · exact contScoped_mono h (hs k c h1)
end
end Go.Proofs.Ytacfmplofkjonaa.Rf
