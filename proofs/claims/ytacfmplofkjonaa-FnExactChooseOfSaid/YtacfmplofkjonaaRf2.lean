/- Terms for the program's functions, and that they are right: part 2 of 9. -/
import Derived.Test.YtacfmplofkjonaaRf1
import Derived.Laws.Sem
import Derived.WalkKit
import Derived.Laws.StructEq
import Derived.Laws.BytesArg
set_option linter.unusedSimpArgs false
set_option linter.unusedVariables false
set_option linter.unnecessarySimpa false
set_option linter.unusedSectionVars false
/- What a symbolic state says of a machine's state, and how that lives on. -/
namespace Go.Proofs.Ytacfmplofkjonaa.Rf
set_option linter.unusedVariables false

/-! ### Data in memory -/
inductive Sc : Value → D → Prop
  | int (k : IntKind) (n : Int) : Sc (.int k n) (.int k n)
  | bool (b : Bool) : Sc (.bool b) (.bool b)
  | str (l : List UInt8) : Sc (.string ⟨l.toArray⟩) (.str l)

inductive Rd (ok : Nat → Prop) (w : World) : Value → D → Prop
  | sc {v : Value} {d : D} (h : Sc v d) : Rd ok w v d
  | hole (v : Value) (h1 : v.oneCell' = true) : Rd ok w v .hole
  | rows (A : Option Addr) (a : Addr) (n c sz : Nat) (rs : List (List D)) (vs : Nat → Nat → Value)
      (hn : rs.length = n) (hc : n ≤ c) (hA : n = 0 ∨ A = some a) (hsz : ∀ r ∈ rs, r.length = sz)
      (hcell : ∀ i r, rs[i]? = some r → ∀ j d, r[j]? = some d → ok a.block ∧ w.cell? (a.add (i * sz + j)) = some (vs i j))
      (hrec : ∀ i r, rs[i]? = some r → ∀ j d, r[j]? = some d → Rd ok w (vs i j) d) :
      Rd ok w (.slice A n c) (.rows sz rs)

inductive Ow where
  | frz
  | slc (r : Nat) (p : List Nat)
  | box (b : Nat)
  | oth
  deriving DecidableEq

inductive Rp (own : Nat → Ow) (w : World) (r : Nat) : List Nat → Nat → Value → D → Prop
  | sc {p : List Nat} {m : Nat} {v : Value} {d : D} (h : Sc v d) : Rp own w r p m v d
  | hole {p : List Nat} {m : Nat} (v : Value) (h1 : v.oneCell' = true) : Rp own w r p m v .hole
  | fz {p : List Nat} {v : Value} {d : D} (h : Rd (fun b => own b = .frz) w v d) : Rp own w r p 0 v d
  | sl {p : List Nat} {m : Nat} (A : Option Addr) (a : Addr) (n c sz : Nat) (rs : List (List D)) (vs : Nat → Nat → Value)
      (hn : rs.length = n) (hc : n ≤ c) (hA : A = some a ∨ (A = none ∧ c = 0)) (hsz : ∀ r ∈ rs, r.length = sz)
      (hown : A = some a → a.spot = none ∧ own a.block = .slc r p ∧ ∀ k, k < c * sz → ∃ u, w.cell? (a.add k) = some u ∧ w.frozen? (a.add k) = false)
      (hcell : ∀ i row, rs[i]? = some row → ∀ j d, row[j]? = some d → w.cell? (a.add (i * sz + j)) = some (vs i j))
      (hrec : ∀ i row, rs[i]? = some row → ∀ j d, row[j]? = some d → Rp own w r (p ++ [i * sz + j]) m (vs i j) d) :
      Rp own w r p (m + 1) (.slice A n c) (.rows sz rs)

/-- The cell at a path below a slice's header. -/
def Nest (own : Nat → Ow) (w : World) (r : Nat) : List Nat → Value → List Nat → Value → Prop
  | _, v, [], u => u = v
  | q, v, k :: p, u => ∃ a n c u', v = .slice (some a) n c ∧ own a.block = .slc r q ∧ w.cell? (a.add k) = some u' ∧ Nest own w r (q ++ [k]) u' p u

theorem heap_cell {w w' : World} {a : Addr} (h : w'.heap[a.block]? = w.heap[a.block]?) : w'.cell? a = w.cell? a := by
  unfold World.cell?; rw [h]
theorem heap_frozen {w w' : World} {a : Addr} (h : w'.heap[a.block]? = w.heap[a.block]?) : w'.frozen? a = w.frozen? a := by
  unfold World.frozen?; rw [h]
theorem add_block (a : Addr) (k : Nat) : (a.add k).block = a.block := by unfold Addr.add; split <;> rfl
theorem add_add (a : Addr) (j k : Nat) : (a.add j).add k = a.add (j + k) := by
  unfold Addr.add
  by_cases hj : j = 0 <;> by_cases hk : k = 0 <;> simp_all <;> omega

theorem Rd.mono {ok ok' : Nat → Prop} {w w' : World} {v : Value} {d : D} (h : Rd ok w v d)
    (hf : ∀ b, ok b → ok' b ∧ w'.heap[b]? = w.heap[b]?) : Rd ok' w' v d := by
  induction h with
  | sc h => exact .sc h
  | hole v h1 => exact .hole v h1
  | rows A a n c sz rs vs hn hc hA hsz hcell hrec ih =>
    refine .rows A a n c sz rs vs hn hc hA hsz (fun i r hi j d hj => ?_) (fun i r hi j d hj => ih i r hi j d hj)
    obtain ⟨h1, h2⟩ := hcell i r hi j d hj
    obtain ⟨h3, h4⟩ := hf _ h1
    exact ⟨h3, (heap_cell (w := w) (w' := w') (by rw [add_block]; exact h4)).trans h2⟩

theorem Rp.mono {own own' : Nat → Ow} {w w' : World} {r r' : Nat} {q q' : List Nat} {p : List Nat} {m : Nat} {v : Value} {d : D} (h : Rp own w r p m v d)
    (hz : ∀ b, own b = .frz → own' b = .frz ∧ w'.heap[b]? = w.heap[b]?) :
    ∀ s, p = q ++ s → (∀ b t, own b = .slc r (q ++ t) → own' b = .slc r' (q' ++ t) ∧ w'.heap[b]? = w.heap[b]?) → Rp own' w' r' (q' ++ s) m v d := by
  induction h with
  | sc h => exact fun _ _ _ => .sc h
  | hole v h1 => exact fun _ _ _ => .hole v h1
  | fz h => exact fun _ _ _ => .fz (h.mono hz)
  | sl A a n c sz rs vs hn hc hA hsz hown hcell hrec ih =>
    rename_i p m
    intro s hp hs
    refine .sl A a n c sz rs vs hn hc hA hsz (fun e => ?_) (fun i row hi j d hj => ?_) (fun i row hi j d hj => ?_)
    · obtain ⟨h1, h2, h3⟩ := hown e
      rw [hp] at h2
      obtain ⟨h4, h5⟩ := hs _ _ h2
      refine ⟨h1, h4, fun k hk => ?_⟩
      obtain ⟨u, hu, hf⟩ := h3 k hk
      exact ⟨u, (heap_cell (w := w) (w' := w') (by rw [add_block]; exact h5)).trans hu, (heap_frozen (w := w) (w' := w') (by rw [add_block]; exact h5)).trans hf⟩
    · rcases hA with e | ⟨e, e'⟩
      · obtain ⟨h1, h2, h3⟩ := hown e
        rw [hp] at h2
        obtain ⟨h4, h5⟩ := hs _ _ h2
        exact (heap_cell (w := w) (w' := w') (by rw [add_block]; exact h5)).trans (hcell i row hi j d hj)
      · exfalso
        have : i < rs.length := by
          rcases Nat.lt_or_ge i rs.length with h | h
          · exact h
          · simp [List.getElem?_eq_none h] at hi
        omega
    · have := ih i row hi j d hj (s ++ [i * sz + j]) (by rw [hp, List.append_assoc]) hs
      rwa [← List.append_assoc] at this

/-- What is owned can be read. -/
theorem Rp.rd {own : Nat → Ow} {w : World} {r : Nat} {p : List Nat} {m : Nat} {v : Value} {d : D} (h : Rp own w r p m v d) :
    Rd (fun b => own b = .frz ∨ ∃ q, own b = .slc r q) w v d := by
  induction h with
  | sc h => exact .sc h
  | hole v h1 => exact .hole v h1
  | fz h => exact h.mono fun b hb => ⟨.inl hb, rfl⟩
  | sl A a n c sz rs vs hn hc hA hsz hown hcell hrec ih =>
    refine .rows A a n c sz rs vs hn hc ?_ hsz (fun i row hi j d hj => ?_) ih
    · rcases hA with e | ⟨e, e'⟩
      · exact .inr e
      · exact .inl (by omega)
    · refine ⟨?_, hcell i row hi j d hj⟩
      rcases hA with e | ⟨e, e'⟩
      · exact .inr ⟨_, (hown e).2.1⟩
      · exfalso
        have : i < rs.length := by
          rcases Nat.lt_or_ge i rs.length with h | h
          · exact h
          · simp [List.getElem?_eq_none h] at hi
        omega
/-- A lesser depth: what lies deeper is frozen then. -/
theorem Rp.weaken {own own' : Nat → Ow} {w : World} {r : Nat} {p : List Nat} {m : Nat} {v : Value} {d : D} (h : Rp own w r p m v d)
    (hz : ∀ b, own b = .frz → own' b = .frz) : ∀ (m' : Nat), m' ≤ m →
    (∀ b t, own b = .slc r (p ++ t) → own' b = (if t.length < m' then .slc r (p ++ t) else .frz)) → Rp own' w r p m' v d := by
  induction h with
  | sc h => exact fun _ _ _ => .sc h
  | hole v h1 => exact fun _ _ _ => .hole v h1
  | fz h =>
    intro m' hm hs
    obtain rfl : m' = 0 := by omega
    exact .fz (h.mono fun b hb => ⟨hz b hb, rfl⟩)
  | sl A a n c sz rs vs hn hc hA hsz hown hcell hrec ih =>
    rename_i p m
    intro m' hm hs
    cases m' with
    | zero =>
      refine .fz (.rows A a n c sz rs vs hn hc ?_ hsz (fun i row hi j d hj => ?_) (fun i row hi j d hj => ?_))
      · rcases hA with e | ⟨e, e'⟩
        · exact .inr e
        · exact .inl (by omega)
      · refine ⟨?_, hcell i row hi j d hj⟩
        rcases hA with e | ⟨e, e'⟩
        · have := hs a.block [] (by simpa using (hown e).2.1)
          simpa using this
        · exfalso
          have : i < rs.length := by
            rcases Nat.lt_or_ge i rs.length with h | h
            · exact h
            · simp [List.getElem?_eq_none h] at hi
          omega
      · have h1 := ih i row hi j d hj 0 (Nat.zero_le _) (fun b t hb => by
          have := hs b ([i * sz + j] ++ t) (by rw [← List.append_assoc]; exact hb)
          simpa using this)
        generalize vs i j = u at h1
        cases h1 with
        | sc h => exact .sc h
        | hole _ h1 => exact .hole _ h1
        | fz h => exact h
    | succ m' =>
      refine .sl A a n c sz rs vs hn hc hA hsz (fun e => ?_) hcell (fun i row hi j d hj => ?_)
      · obtain ⟨h1, h2, h3⟩ := hown e
        refine ⟨h1, ?_, h3⟩
        have := hs a.block [] (by simpa using h2)
        simpa using this
      · refine ih i row hi j d hj m' (by omega) (fun b t hb => ?_)
        have := hs b ([i * sz + j] ++ t) (by rw [← List.append_assoc]; exact hb)
        simp only [List.length_append, List.length_singleton] at this
        rw [this, ← List.append_assoc]
        by_cases ht : t.length < m'
        · rw [if_pos ht, if_pos (by omega)]
        · rw [if_neg ht, if_neg (by omega)]

theorem Sc.one {v : Value} {d : D} (h : Sc v d) : v.oneCell' = true := by cases h <;> rfl
theorem Rd.one {ok : Nat → Prop} {w : World} {v : Value} {d : D} (h : Rd ok w v d) : v.oneCell' = true := by
  cases h with
  | sc h => exact h.one
  | hole _ h1 => exact h1
  | rows => rfl
theorem Rp.one {own : Nat → Ow} {w : World} {r : Nat} {p : List Nat} {m : Nat} {v : Value} {d : D} (h : Rp own w r p m v d) : v.oneCell' = true := by
  cases h with
  | sc h => exact h.one
  | hole _ h1 => exact h1
  | fz h => exact h.one
  | sl => rfl
/-! ### Ghosts -/
structure Gh where
  own : Nat → Ow
  hdr : Nat → Value
  bx : Nat → Addr

/-- Is root r (version k) as it was? -/
def validR (σ : Nat → Option Cont) (r k : Nat) : Prop := ∃ x m st, σ (kR r) = some (.root x m k st) ∧ (st = .live ∨ st = .frozen)
def liveR (σ : Nat → Option Cont) (r k m : Nat) : Prop := ∃ x, σ (kR r) = some (.root x m k .live)
/-- Is (r, k) a root, and k none of its versions to come? -/
def knownR (σ : Nat → Option Cont) (r k : Nat) : Prop := ∃ x m ver st, σ (kR r) = some (.root x m ver st) ∧ (st = .live ∨ st = .frozen → k ≤ ver)
def allow (G : Gh) (deps : List (Nat × Nat)) (b : Nat) : Prop := G.own b = .frz ∨ ∃ r k p, (r, k) ∈ deps ∧ G.own b = .slc r p
def idxVal (ρ : List D) (x : Atom) : Nat := match x.val ρ with
  | .int _ n => n.toNat
  | _ => 0
def pathVal (ρ : List D) (p : List (Atom × Nat × Nat)) : List Nat := p.map fun x => idxVal ρ x.1 * x.2.1 + x.2.2

def PthRep (σ : Nat → Option Cont) (ρ : List D) (G : Gh) (w : World) (deps : List (Nat × Nat)) (v : Value) (d : D) : Pth → Prop
  | .no => True
  | .view => ∀ r k m, deps = [(r, k)] → liveR σ r k m → Rp G.own w r [] m v d
  | .path p => ∀ r k m, deps = [(r, k)] → liveR σ r k m → p.length ≤ m ∧ Rp G.own w r (pathVal ρ p) (m - p.length) v d ∧ Nest G.own w r [] (G.hdr r) (pathVal ρ p) v

mutual
def LeafRep (σ : Nat → Option Cont) (ρ : List D) (G : Gh) (w : World) : Leaf → Value → Prop
  | .dead, v => v.oneCell' = true
  | .sc x, v => Sc v (x.val ρ)
  | .su g x, v => (Sc v (x.val ρ) ∨ (v = undef ∧ x.val ρ = .undef)) ∧ (gOn ρ (some g) = true → Sc v (x.val ρ))
  | .ex r, v => v = G.hdr r ∧ (σ (kR r)).isSome ∧ v.oneCell' = true
  | .sn deps p nie x, v => (v.oneCell' = true ∧ ∀ z ∈ deps, knownR σ z.1 z.2) ∧ ((∀ z ∈ deps, validR σ z.1 z.2) →
      Rd (allow G deps) w v (x.val ρ) ∧ (nie = true → ∀ z, x.val ρ = .rows z [] → v = .slice none 0 0) ∧ PthRep σ ρ G w deps v (x.val ρ) p)
  | .px b off, v => v = .pointer (some ((G.bx b).add off)) ∧ (σ (kB b)).isSome
  | .pe l sz i off, v => ∃ a n c k iv, LeafRep σ ρ G w l (.slice (some a) n c) ∧ i.val ρ = .int k iv ∧ 0 ≤ iv ∧ iv.toNat < n ∧ v = .pointer (some (a.add (iv.toNat * sz + off)))
  | .rp deps sz x, v => (v.oneCell' = true ∧ ∀ z ∈ deps, knownR σ z.1 z.2) ∧ ((∀ z ∈ deps, validR σ z.1 z.2) →
      (v = .pointer none ∧ ∃ z, x.val ρ = .rows z []) ∨
      ∃ a row, v = .pointer (some a) ∧ x.val ρ = .rows row.length [row] ∧ Rd (allow G deps) w (.slice (some a) 1 1) (.rows row.length [row]))
  | .pn, v => v = .pointer none
  | .clo f caps, v => ∃ vs, v = .func (.func f) #[] vs.toArray ∧ LeavesRep σ ρ G w caps vs
def LeavesRep (σ : Nat → Option Cont) (ρ : List D) (G : Gh) (w : World) : List Leaf → List Value → Prop
  | [], vs => vs = []
  | l :: ls, vs => ∃ u us, vs = u :: us ∧ LeafRep σ ρ G w l u ∧ LeavesRep σ ρ G w ls us
end

def TupRep (σ : Nat → Option Cont) (ρ : List D) (G : Gh) (w : World) : List (Bool × List Leaf) → List Value → Prop
  | [], us => us = []
  | (a, ls) :: r, us => ∃ u us' vs, us = u :: us' ∧ LeavesRep σ ρ G w ls vs ∧ (if a = true then u = .agg vs.toArray else vs = [u]) ∧ TupRep σ ρ G w r us'
def SVRep (σ : Nat → Option Cont) (ρ : List D) (G : Gh) (w : World) : SV → Value → Prop
  | .dead, _ => True
  | .one l, v => LeafRep σ ρ G w l v
  | .agg ls, v => ∃ vs, v = .agg vs.toArray ∧ LeavesRep σ ρ G w ls vs
  | .tup ts, v => ∃ us, v = .tuple us.toArray ∧ TupRep σ ρ G w ts us

/-- A slot's value. -/
def tval (n : Nat) (a : Act) (gh : Nat → Value) (t : Nat) : Value := if t < n then a.tmps.getD t undef else gh (t - n)

def RootRep (σ : Nat → Option Cont) (ρ : List D) (G : Gh) (w : World) (r : Nat) (x : Atom) (m : Nat) : RSt → Prop
  | .live => Rp G.own w r [] m (G.hdr r) (x.val ρ)
  | .frozen => Rd (fun b => G.own b = .frz) w (G.hdr r) (x.val ρ) ∧ ∀ b p, G.own b ≠ .slc r p
  | .gone => True
  | .fwd r' => G.hdr r = G.hdr r' ∧ (σ (kR r')).isSome

def BoxRep (σ : Nat → Option Cont) (ρ : List D) (G : Gh) (w : World) (b : Nat) (ro : Bool) (ls : List Leaf) : Prop :=
  (G.bx b).spot = none ∧ G.own (G.bx b).block = (if ro = true then .oth else .box b) ∧
  ∀ j l, ls[j]? = some l → ∃ v, w.cell? ((G.bx b).add j) = some v ∧ w.frozen? ((G.bx b).add j) = false ∧ LeafRep σ ρ G w l v

structure Frame0 where
  w0 : World
  own0 : Nat → Ow
  gh : Nat → Value           -- arguments that are changed in place
  rng : Nat → Nat × Nat      -- of a box that was handed: its first cell, behind its last one (in its block)

/-- What stays of the memory that was there at the beginning. -/
structure FrameOk (F : Frame0) (G : Gh) (w : World) : Prop where
  os : w.os = F.w0.os
  tape : w.tape = F.w0.tape
  output : w.output = F.w0.output
  size : F.w0.heap.size ≤ w.heap.size
  keep : ∀ b, b < F.w0.heap.size → F.own0 b = .frz ∨ F.own0 b = .oth → w.heap[b]? = F.w0.heap[b]? ∧ G.own b = F.own0 b
  boxes : ∀ b j, b < F.w0.heap.size → F.own0 b = .box j → G.own b = .box j ∧ ∃ c0 c1 e fr, F.w0.heap[b]? = some (.cells c0 e fr) ∧ w.heap[b]? = some (.cells c1 e fr) ∧ c1.size = c0.size ∧
    ∀ k, k < (F.rng j).1 ∨ (F.rng j).2 ≤ k → c1[k]? = c0[k]?
  fresh : ∀ b, w.heap.size ≤ b → G.own b = .frz

def ContRep (n : Nat) (gh : Nat → Value) (σ : Nat → Option Cont) (ρ : List D) (G : Gh) (a : Act) (w : World) : Nat → Cont → Prop
  | k, .slot g v => ∃ t, k = kT t ∧ (gOn ρ g = true → SVRep σ ρ G w v (tval n a gh t))
  | k, .box ro ls => ∃ b, k = kB b ∧ BoxRep σ ρ G w b ro ls
  | k, .root x m ver st => ∃ r, k = kR r ∧ (σ (kR r)).isSome ∧ RootRep σ ρ G w r x m st

structure R (n : Nat) (F : Frame0) (σ : Nat → Option Cont) (ρ : List D) (a : Act) (w : World) (G : Gh) : Prop where
  tmps : a.tmps.size = n
  defers : a.defers = []
  cont : ∀ k c, σ k = some c → ContRep n F.gh σ ρ G a w k c
  frame : FrameOk F G w
  rng : ∀ b ls, σ (kB b) = some (.box false ls) → (G.bx b).block < F.w0.heap.size → F.own0 (G.bx b).block = .box b → F.rng b = ((G.bx b).off, (G.bx b).off + ls.length)

theorem kT_inj {a b : Nat} (h : kT a = kT b) : a = b := by unfold kT at h; omega
theorem kB_inj {a b : Nat} (h : kB a = kB b) : a = b := by unfold kB at h; omega
theorem kR_inj {a b : Nat} (h : kR a = kR b) : a = b := by unfold kR at h; omega
theorem kT_ne_kB {a b : Nat} : kT a ≠ kB b := by unfold kT kB; omega
theorem kT_ne_kR {a b : Nat} : kT a ≠ kR b := by unfold kT kR; omega
theorem kB_ne_kR {a b : Nat} : kB a ≠ kR b := by unfold kB kR; omega

section
variable {n : Nat} {F : Frame0} {σ : Nat → Option Cont} {ρ : List D} {a : Act} {w : World} {G : Gh}
theorem R.slot (h : R n F σ ρ a w G) {t : Nat} {g : Option (Atom × Bool)} {v : SV} (hk : σ (kT t) = some (.slot g v)) (hg : gOn ρ g = true) : SVRep σ ρ G w v (tval n a F.gh t) := by
  obtain ⟨t', e, h'⟩ := h.cont _ _ hk
  obtain rfl := kT_inj e
  exact h' hg
theorem R.box (h : R n F σ ρ a w G) {b : Nat} {ro : Bool} {ls : List Leaf} (hk : σ (kB b) = some (.box ro ls)) : BoxRep σ ρ G w b ro ls := by
  obtain ⟨t', e, h'⟩ := h.cont _ _ hk
  obtain rfl := kB_inj e
  exact h'
theorem R.root (h : R n F σ ρ a w G) {r : Nat} {x : Atom} {m ver : Nat} {st : RSt} (hk : σ (kR r) = some (.root x m ver st)) : RootRep σ ρ G w r x m st := by
  obtain ⟨t', e, _, h'⟩ := h.cont _ _ hk
  obtain rfl := kR_inj e
  exact h'
theorem R.slot_kind (h : R n F σ ρ a w G) {t : Nat} {c : Cont} (hk : σ (kT t) = some c) : ∃ g v, c = .slot g v := by
  cases c with
  | slot g v => exact ⟨g, v, rfl⟩
  | box => obtain ⟨_, e, _⟩ := h.cont _ _ hk; exact absurd e kT_ne_kB
  | root => obtain ⟨_, e, _⟩ := h.cont _ _ hk; exact absurd e kT_ne_kR
end

/-! ### What lives on -/
/-- From (σ, G, w) to (σ', G', w'): what is frozen stays; a root that is still as it was has its blocks as they were. -/
structure Fr (σ : Nat → Option Cont) (G : Gh) (w : World) (σ' : Nat → Option Cont) (G' : Gh) (w' : World) : Prop where
  frz : ∀ b, G.own b = .frz → b < w.heap.size → G'.own b = .frz ∧ w'.heap[b]? = w.heap[b]?
  valid : ∀ r k, knownR σ r k → validR σ' r k → validR σ r k
  known : ∀ r k, knownR σ r k → knownR σ' r k
  slc : ∀ r k b p, validR σ r k → validR σ' r k → G.own b = .slc r p → (G'.own b = .slc r p ∨ G'.own b = .frz) ∧ w'.heap[b]? = w.heap[b]?
  live : ∀ r k m, knownR σ r k → liveR σ' r k m → liveR σ r k m ∧ ∀ b p, G.own b = .slc r p → G'.own b = .slc r p
  hdr : ∀ r, (σ (kR r)).isSome → G'.hdr r = G.hdr r
  bx : ∀ b, (σ (kB b)).isSome → G'.bx b = G.bx b
  keep : ∀ k, (σ k).isSome → (σ' k).isSome
  froz : ∀ r x m k, σ (kR r) = some (.root x m k .frozen) → ∀ b p, G'.own b = .slc r p → G.own b = .slc r p

theorem knownR.some {σ : Nat → Option Cont} {r k : Nat} (h : knownR σ r k) : (σ (kR r)).isSome := by
  obtain ⟨x, m, ver, st, e, _⟩ := h
  rw [e]; rfl
theorem validR.known {σ : Nat → Option Cont} {r k : Nat} (h : validR σ r k) : knownR σ r k := by
  obtain ⟨x, m, st, e, _⟩ := h
  exact ⟨x, m, k, st, e, fun _ => Nat.le_refl _⟩
theorem knownR.same {σ σ' : Nat → Option Cont} (h : ∀ r, σ' (kR r) = σ (kR r)) {r k : Nat} (hk : knownR σ r k) : knownR σ' r k := by
  obtain ⟨x, m, ver, st, e, h1⟩ := hk
  exact ⟨x, m, ver, st, by rw [h]; exact e, h1⟩
theorem liveR.valid {σ : Nat → Option Cont} {r k m : Nat} (h : liveR σ r k m) : validR σ r k := by
  obtain ⟨x, e⟩ := h
  exact ⟨x, m, .live, e, .inl rfl⟩

theorem block_lt {w : World} {a : Addr} {v : Value} (h : w.cell? a = some v) : a.block < w.heap.size := by
  rcases Nat.lt_or_ge a.block w.heap.size with h1 | h1
  · exact h1
  · unfold World.cell? at h
    rw [Array.getElem?_eq_none h1] at h
    cases h
theorem cell_lt {w : World} {a : Addr} {v : Value} (h : w.cell? a = some v) : a.block < w.heap.size := block_lt h

/-- A reading whose blocks lie in the heap. -/
theorem Rd.mono' {ok ok' : Nat → Prop} {w w' : World} {v : Value} {d : D} (h : Rd ok w v d)
    (hf : ∀ b, ok b → b < w.heap.size → ok' b ∧ w'.heap[b]? = w.heap[b]?) : Rd ok' w' v d := by
  induction h with
  | sc h => exact .sc h
  | hole v h1 => exact .hole v h1
  | rows A a n c sz rs vs hn hc hA hsz hcell hrec ih =>
    refine .rows A a n c sz rs vs hn hc hA hsz (fun i r hi j d hj => ?_) (fun i r hi j d hj => ih i r hi j d hj)
    obtain ⟨h1, h2⟩ := hcell i r hi j d hj
    have hlt := cell_lt h2
    rw [add_block] at hlt
    obtain ⟨h3, h4⟩ := hf _ h1 hlt
    exact ⟨h3, (heap_cell (w := w) (w' := w') (by rw [add_block]; exact h4)).trans h2⟩
/-- The same for what is owned. -/
theorem Rp.mono' {own own' : Nat → Ow} {w w' : World} {r r' : Nat} {q q' : List Nat} {p : List Nat} {m : Nat} {v : Value} {d : D} (h : Rp own w r p m v d)
    (hz : ∀ b, own b = .frz → b < w.heap.size → own' b = .frz ∧ w'.heap[b]? = w.heap[b]?) :
    ∀ s, p = q ++ s → (∀ b t, own b = .slc r (q ++ t) → own' b = .slc r' (q' ++ t) ∧ w'.heap[b]? = w.heap[b]?) → Rp own' w' r' (q' ++ s) m v d := by
  induction h with
  | sc h => exact fun _ _ _ => .sc h
  | hole v h1 => exact fun _ _ _ => .hole v h1
  | fz h => exact fun _ _ _ => .fz (h.mono' hz)
  | sl A a n c sz rs vs hn hc hA hsz hown hcell hrec ih =>
    rename_i p m
    intro s hp hs
    refine .sl A a n c sz rs vs hn hc hA hsz (fun e => ?_) (fun i row hi j d hj => ?_) (fun i row hi j d hj => ?_)
    · obtain ⟨h1, h2, h3⟩ := hown e
      rw [hp] at h2
      obtain ⟨h4, h5⟩ := hs _ _ h2
      refine ⟨h1, h4, fun k hk => ?_⟩
      obtain ⟨u, hu, hf⟩ := h3 k hk
      exact ⟨u, (heap_cell (w := w) (w' := w') (by rw [add_block]; exact h5)).trans hu, (heap_frozen (w := w) (w' := w') (by rw [add_block]; exact h5)).trans hf⟩
    · rcases hA with e | ⟨e, e'⟩
      · obtain ⟨h1, h2, h3⟩ := hown e
        rw [hp] at h2
        obtain ⟨h4, h5⟩ := hs _ _ h2
        exact (heap_cell (w := w) (w' := w') (by rw [add_block]; exact h5)).trans (hcell i row hi j d hj)
      · exfalso
        have : i < rs.length := by
          rcases Nat.lt_or_ge i rs.length with h | h
          · exact h
          · simp [List.getElem?_eq_none h] at hi
        omega
    · have := ih i row hi j d hj (s ++ [i * sz + j]) (by rw [hp, List.append_assoc]) hs
      rwa [← List.append_assoc] at this
/-- A nested cell lives on where the root's blocks do. -/
theorem Nest.mono {own own' : Nat → Ow} {w w' : World} {r r' : Nat} : ∀ (p q q' : List Nat) (v u : Value),
    (∀ b t, own b = .slc r (q ++ t) → own' b = .slc r' (q' ++ t) ∧ w'.heap[b]? = w.heap[b]?) → Nest own w r q v p u → Nest own' w' r' q' v p u
  | [], _, _, _, _, _, h => h
  | k :: p, q, q', v, u, hs, h => by
    obtain ⟨a, n, c, u', rfl, ho, hc, hn⟩ := h
    obtain ⟨h1, h2⟩ := hs a.block [] (by simpa using ho)
    refine ⟨a, n, c, u', rfl, by simpa using h1, (heap_cell (w := w) (w' := w') (by rw [add_block]; exact h2)).trans hc, ?_⟩
    exact Nest.mono p (q ++ [k]) (q' ++ [k]) u' u (fun b t hb => by
      have := hs b (k :: t) (by simpa using hb)
      simpa using this) hn

/-! ### Leaves live on -/
section
variable {σ σ' : Nat → Option Cont} {ρ : List D} {G G' : Gh} {w w' : World}

theorem PthRep.mono (h : Fr σ G w σ' G' w') {deps : List (Nat × Nat)} (hex : ∀ z ∈ deps, knownR σ z.1 z.2) {v : Value} {d : D} {p : Pth} (hp : PthRep σ ρ G w deps v d p) : PthRep σ' ρ G' w' deps v d p := by
  cases p with
  | no => trivial
  | view =>
    intro r k m e hl
    obtain ⟨hl', ho⟩ := h.live r k m (hex (r, k) (by simp [e])) hl
    have := (hp r k m e hl').mono' (q := []) (q' := []) h.frz [] rfl (fun b t hb => ⟨ho b t hb, (h.slc r k b _ hl'.valid hl.valid hb).2⟩)
    simpa using this
  | path p =>
    intro r k m e hl
    obtain ⟨hl', ho⟩ := h.live r k m (hex (r, k) (by simp [e])) hl
    obtain ⟨h1, h2, h3⟩ := hp r k m e hl'
    have hs : ∀ b t, G.own b = .slc r ([] ++ t) → G'.own b = .slc r ([] ++ t) ∧ w'.heap[b]? = w.heap[b]? := fun b t hb => ⟨ho b t hb, (h.slc r k b _ hl'.valid hl.valid hb).2⟩
    refine ⟨h1, ?_, ?_⟩
    · have := h2.mono' (q := []) (q' := []) h.frz _ rfl hs
      rw [List.nil_append] at this
      exact this
    · rw [h.hdr r (hex (r, k) (by simp [e])).some]
      exact h3.mono _ _ _ _ _ hs

theorem allow.mono (h : Fr σ G w σ' G' w') {deps : List (Nat × Nat)} (hex : ∀ z ∈ deps, knownR σ z.1 z.2) (hv : ∀ z ∈ deps, validR σ' z.1 z.2) {b : Nat} (hb : allow G deps b) (hlt : b < w.heap.size) :
    allow G' deps b ∧ w'.heap[b]? = w.heap[b]? := by
  rcases hb with hb | ⟨r, k, p, hm, hb⟩
  · exact ⟨.inl (h.frz b hb hlt).1, (h.frz b hb hlt).2⟩
  · have hv' := hv (r, k) hm
    have := h.slc r k b p (h.valid r k (hex (r, k) hm) hv') hv' hb
    exact ⟨this.1.elim (fun e => .inr ⟨r, k, p, hm, e⟩) .inl, this.2⟩

mutual
theorem LeafRep.mono (h : Fr σ G w σ' G' w') : ∀ (l : Leaf) (v : Value), LeafRep σ ρ G w l v → LeafRep σ' ρ G' w' l v
  | .dead, _, hl => by simpa [LeafRep] using hl
  | .sc x, v, hl => by simpa [LeafRep] using hl
  | .su g x, v, hl => by simpa [LeafRep] using hl
  | .ex r, v, hl => by
    simp only [LeafRep] at hl ⊢
    exact ⟨by rw [h.hdr r hl.2.1]; exact hl.1, h.keep _ hl.2.1, hl.2.2⟩
  | .sn deps p nie x, v, hl => by
    simp only [LeafRep] at hl ⊢
    refine ⟨⟨hl.1.1, fun z hz => h.known _ _ (hl.1.2 z hz)⟩, fun hv => ?_⟩
    obtain ⟨h1, h2, h3⟩ := hl.2 (fun z hz => h.valid _ _ (hl.1.2 z hz) (hv z hz))
    exact ⟨h1.mono' fun b hb hlt => allow.mono h hl.1.2 hv hb hlt, h2, h3.mono h hl.1.2⟩
  | .px b off, v, hl => by
    simp only [LeafRep] at hl ⊢
    exact ⟨by rw [h.bx b hl.2]; exact hl.1, h.keep _ hl.2⟩
  | .pe l sz i off, v, hl => by
    simp only [LeafRep] at hl ⊢
    obtain ⟨a, n, c, k, iv, h1, h2⟩ := hl
    exact ⟨a, n, c, k, iv, LeafRep.mono h l _ h1, h2⟩
  | .rp deps sz x, v, hl => by
    simp only [LeafRep] at hl ⊢
    refine ⟨⟨hl.1.1, fun z hz => h.known _ _ (hl.1.2 z hz)⟩, fun hv => ?_⟩
    rcases hl.2 (fun z hz => h.valid _ _ (hl.1.2 z hz) (hv z hz)) with h1 | ⟨a, row, h1, h2, h3⟩
    · exact .inl h1
    · exact .inr ⟨a, row, h1, h2, h3.mono' fun b hb hlt => allow.mono h hl.1.2 hv hb hlt⟩
  | .pn, v, hl => by simpa [LeafRep] using hl
  | .clo f caps, v, hl => by
    simp only [LeafRep] at hl ⊢
    obtain ⟨vs, h1, h2⟩ := hl
    exact ⟨vs, h1, LeavesRep.mono h caps vs h2⟩
theorem LeavesRep.mono (h : Fr σ G w σ' G' w') : ∀ (ls : List Leaf) (vs : List Value), LeavesRep σ ρ G w ls vs → LeavesRep σ' ρ G' w' ls vs
  | [], vs, hl => by simpa [LeavesRep] using hl
  | l :: ls, vs, hl => by
    simp only [LeavesRep] at hl ⊢
    obtain ⟨u, us, e, h1, h2⟩ := hl
    exact ⟨u, us, e, LeafRep.mono h l u h1, LeavesRep.mono h ls us h2⟩
end
theorem TupRep.mono (h : Fr σ G w σ' G' w') : ∀ (ts : List (Bool × List Leaf)) (us : List Value), TupRep σ ρ G w ts us → TupRep σ' ρ G' w' ts us
  | [], _, ht => ht
  | (a, ls) :: r, us, ht => by
    obtain ⟨u, us', vs, e, h1, h2, h3⟩ := ht
    exact ⟨u, us', vs, e, LeavesRep.mono h ls vs h1, h2, TupRep.mono h r us' h3⟩
theorem SVRep.mono (h : Fr σ G w σ' G' w') {v : SV} {u : Value} (hv : SVRep σ ρ G w v u) : SVRep σ' ρ G' w' v u := by
  cases v with
  | dead => trivial
  | one l => exact LeafRep.mono h l u hv
  | agg ls => obtain ⟨vs, e, h1⟩ := hv; exact ⟨vs, e, LeavesRep.mono h ls vs h1⟩
  | tup ts => obtain ⟨us, e, h1⟩ := hv; exact ⟨us, e, TupRep.mono h ts us h1⟩
end


/-! ### Changes -/
def setK (σ : Nat → Option Cont) (k : Nat) (c : Cont) : Nat → Option Cont := fun j => if j = k then some c else σ j
def upds (σ : Nat → Option Cont) : List (Nat × Cont) → Nat → Option Cont
  | [] => σ
  | (k, c) :: r => upds (setK σ k c) r
theorem upds_get : ∀ (u : List (Nat × Cont)) (σ : Nat → Option Cont) (k : Nat) (c : Cont), upds σ u k = some c → (k, c) ∈ u ∨ ((∀ c', (k, c') ∉ u) ∧ σ k = some c)
  | [], σ, k, c, h => .inr ⟨by simp, h⟩
  | (k', c') :: r, σ, k, c, h => by
    rcases upds_get r (setK σ k' c') k c h with h1 | ⟨h1, h2⟩
    · exact .inl (List.mem_cons_of_mem _ h1)
    · unfold setK at h2
      split at h2
      · rename_i e
        obtain rfl := Option.some.inj h2
        exact .inl (by rw [e]; exact List.mem_cons_self)
      · rename_i e
        refine .inr ⟨fun c'' hc => ?_, h2⟩
        rcases List.mem_cons.1 hc with h3 | h3
        · exact e (Prod.mk.inj h3).1
        · exact h1 _ h3
theorem upds_none : ∀ (u : List (Nat × Cont)) (σ : Nat → Option Cont) (k : Nat), (∀ c, (k, c) ∉ u) → upds σ u k = σ k
  | [], _, _, _ => rfl
  | (k', c') :: r, σ, k, h => by
    rw [upds, upds_none r _ k fun c hc => h c (List.mem_cons_of_mem _ hc)]
    unfold setK
    rw [if_neg]
    intro e
    exact h c' (by rw [e]; exact List.mem_cons_self)
theorem upds_some : ∀ (u : List (Nat × Cont)) (σ : Nat → Option Cont) (k : Nat), (σ k).isSome ∨ (∃ c, (k, c) ∈ u) → (upds σ u k).isSome
  | [], σ, k, h => by
    rcases h with h | ⟨c, hc⟩
    · exact h
    · simp at hc
  | (k', c') :: r, σ, k, h => by
    refine upds_some r _ k ?_
    unfold setK
    rcases h with h | ⟨c, hc⟩
    · exact .inl (by split <;> simp_all)
    · rcases List.mem_cons.1 hc with h1 | h1
      · exact .inl (by rw [if_pos (Prod.mk.inj h1).1]; rfl)
      · exact .inr ⟨c, h1⟩

section
variable {n : Nat} {F : Frame0} {σ : Nat → Option Cont} {ρ : List D} {a a' : Act} {w w' : World} {G G' : Gh}
theorem R.upd (h : R n F σ ρ a w G) (u : List (Nat × Cont)) (hfr : Fr σ G w (upds σ u) G' w') (hsz : a'.tmps.size = n) (hd : a'.defers = [])
    (hF : FrameOk F G' w')
    (htm : ∀ t, (∀ c, (kT t, c) ∉ u) → tval n a' F.gh t = tval n a F.gh t)
    (hbx : ∀ b ro ls, σ (kB b) = some (.box ro ls) → (∀ c, (kB b, c) ∉ u) → G'.own (G.bx b).block = G.own (G.bx b).block ∧ w'.heap[(G.bx b).block]? = w.heap[(G.bx b).block]?)
    (hrng : ∀ b ls, (kB b, .box false ls) ∈ u → (G'.bx b).block < F.w0.heap.size → F.own0 (G'.bx b).block = .box b → F.rng b = ((G'.bx b).off, (G'.bx b).off + ls.length))
    (hnew : ∀ k c, (k, c) ∈ u → upds σ u k = some c → ContRep n F.gh (upds σ u) ρ G' a' w' k c) : R n F (upds σ u) ρ a' w' G' := by
  refine ⟨hsz, hd, fun k c hk => ?_, hF, fun b ls hk hb ho => ?_⟩
  · rcases upds_get u σ k c hk with h1 | ⟨h1, h2⟩
    · exact hnew k c h1 hk
    · cases c with
      | slot g v =>
        obtain ⟨t, rfl, hv⟩ := h.cont k _ h2
        refine ⟨t, rfl, fun hg => ?_⟩
        rw [htm t h1]
        exact (hv hg).mono hfr
      | box ro ls =>
        obtain ⟨b, rfl, h3, h4, h5⟩ := h.cont k _ h2
        obtain ⟨h6, h7⟩ := hbx b ro ls h2 h1
        have e : G'.bx b = G.bx b := hfr.bx b (by rw [h2]; rfl)
        refine ⟨b, rfl, by rw [e]; exact h3, by rw [e, h6]; exact h4, fun j l hj => ?_⟩
        obtain ⟨v, h8, h9, h10⟩ := h5 j l hj
        rw [e]
        exact ⟨v, (heap_cell (w := w) (w' := w') (by rw [add_block]; exact h7)).trans h8, (heap_frozen (w := w) (w' := w') (by rw [add_block]; exact h7)).trans h9, LeafRep.mono hfr l v h10⟩
      | root x m ver st =>
        obtain ⟨r, rfl, h0, h3⟩ := h.cont k _ h2
        refine ⟨r, rfl, hfr.keep _ h0, ?_⟩
        have e : G'.hdr r = G.hdr r := hfr.hdr r h0
        cases st with
        | live =>
          have hl' : liveR (upds σ u) r ver m := ⟨x, hk⟩
          obtain ⟨hl, ho⟩ := hfr.live r ver m ⟨x, m, ver, .live, h2, fun _ => Nat.le_refl _⟩ hl'
          have := Rp.mono' (q := []) (q' := []) h3 hfr.frz [] rfl (fun b t hb => ⟨ho b t hb, (hfr.slc r ver b _ hl.valid hl'.valid hb).2⟩)
          simp only [RootRep]
          rw [e]
          simpa using this
        | frozen =>
          simp only [RootRep]
          rw [e]
          exact ⟨h3.1.mono' hfr.frz, fun b p hb => h3.2 b p (hfr.froz r x m ver h2 b p hb)⟩
        | gone => trivial
        | fwd r' =>
          obtain ⟨h4, h5⟩ := h3
          exact ⟨by rw [e, hfr.hdr r' h5]; exact h4, hfr.keep _ h5⟩
  · rcases upds_get u σ _ _ hk with h1 | ⟨h1, h2⟩
    · exact hrng b ls h1 hb ho
    · have e : G'.bx b = G.bx b := hfr.bx b (by rw [h2]; rfl)
      rw [e] at hb ho ⊢
      exact h.rng b ls h2 hb ho

theorem put_size (a : Act) (d : Option Tmp) (v : Value) : (a.put d v).tmps.size = a.tmps.size := by
  cases d <;> simp [Act.put]
theorem put_defers (a : Act) (d : Option Tmp) (v : Value) : (a.put d v).defers = a.defers := by
  cases d <;> simp [Act.put]
theorem tval_put_ne (n : Nat) (a : Act) (G : Nat → Value) (d t : Nat) (v : Value) (h : d ≠ t) : tval n (a.put (some d) v) G t = tval n a G t := by
  unfold tval
  split
  · simp [Act.put, Array.getD_eq_getD_getElem?, Array.getElem?_setIfInBounds, h]
  · rfl
theorem tval_put_eq (n : Nat) (a : Act) (G : Nat → Value) (d : Nat) (v : Value) (h : d < n) (hs : a.tmps.size = n) : tval n (a.put (some d) v) G d = v := by
  unfold tval
  rw [if_pos h]
  simp [Act.put, Array.getD_eq_getD_getElem?, hs, h]

/-- Nothing in memory is touched: slots alone. -/
theorem Fr.same (σ : Nat → Option Cont) (G : Gh) (w : World) (u : List (Nat × Cont)) (hu : ∀ k c, (k, c) ∈ u → ∃ t, k = kT t) : Fr σ G w (upds σ u) G w := by
  have hr : ∀ r, upds σ u (kR r) = σ (kR r) := fun r => upds_none _ _ _ fun c hc => by obtain ⟨t, e⟩ := hu _ _ hc; exact kT_ne_kR e.symm
  refine ⟨fun b h _ => ⟨h, rfl⟩, fun r k _ h => ?_, fun r k h => ?_, fun r k b p _ _ h => ⟨.inl h, rfl⟩, fun r k m _ h => ⟨?_, fun b p h => h⟩, fun _ _ => rfl, fun _ _ => rfl, fun k h => upds_some _ _ _ (.inl h), fun _ _ _ _ _ _ _ h => h⟩
  · obtain ⟨x, m, st, e, h⟩ := h
    exact ⟨x, m, st, by rw [← hr]; exact e, h⟩
  · obtain ⟨x, m, ver, st, e, h⟩ := h
    exact ⟨x, m, ver, st, by rw [hr]; exact e, h⟩
  · obtain ⟨x, e⟩ := h
    exact ⟨x, by rw [← hr]; exact e⟩

def dstUpd (o : Oper) (g : Option (Atom × Bool)) (v : SV) : List (Nat × Cont) := match o.dst with | some d => [(kT d, .slot g v)] | none => []
theorem R.pure (h : R n F σ ρ a w G) (o : Oper) (hd : ∀ d, o.dst = some d → d < n) (g : Option (Atom × Bool)) (sv : SV) (v : Value)
    (hv : gOn ρ g = true → SVRep σ ρ G w sv v) : R n F (upds σ (dstUpd o g sv)) ρ (a.put o.dst v) w G := by
  have hfr : Fr σ G w (upds σ (dstUpd o g sv)) G w := Fr.same _ _ _ _ fun k c hk => by
    unfold dstUpd at hk
    split at hk
    · rename_i d e
      simp only [List.mem_singleton, Prod.mk.injEq] at hk
      exact ⟨d, hk.1⟩
    · simp at hk
  refine h.upd _ hfr (by rw [put_size]; exact h.tmps) (by rw [put_defers]; exact h.defers) h.frame (fun t ht => ?_) (fun _ _ _ _ _ => ⟨rfl, rfl⟩) (fun b ls hb => ?_) (fun k c hk hk' => ?_)
  · unfold dstUpd at ht
    cases e : o.dst with
    | none => rfl
    | some d =>
      rw [e] at ht
      exact tval_put_ne _ _ _ _ _ _ fun e' => ht _ (by rw [e']; exact List.mem_singleton.2 rfl)
  · unfold dstUpd at hb
    split at hb
    · simp only [List.mem_singleton, Prod.mk.injEq] at hb
      exact absurd hb.1.symm kT_ne_kB
    · simp at hb
  · have hk0 := hk
    unfold dstUpd at hk
    cases e : o.dst with
    | none => rw [e] at hk; simp at hk
    | some d =>
      rw [e] at hk
      simp only [List.mem_singleton, Prod.mk.injEq] at hk
      obtain ⟨rfl, rfl⟩ := hk
      refine ⟨d, rfl, fun hg => ?_⟩
      rw [tval_put_eq _ _ _ _ _ (hd d e) h.tmps]
      exact (hv hg).mono hfr
end

end Go.Proofs.Ytacfmplofkjonaa.Rf

/- Each operation does what the symbolic executor tells: reading, computing. -/
namespace Go.Proofs.Ytacfmplofkjonaa.Rf
set_option linter.unusedVariables false
set_option linter.unusedSimpArgs false

/-! ### Readers -/
theorem RdM.run_eval {α : Type} {look : Nat → Option Cont} {m : RdM α} {x : α} {log : List Nat} (h : m.run look = some (x, log)) : m.eval look = some x := by
  induction m generalizing log with
  | ret a =>
    simp only [RdM.run, Option.some.injEq, Prod.mk.injEq] at h
    rw [h.1]; rfl
  | no => cases h
  | rd k f ih =>
    simp only [RdM.run, Option.map_eq_some_iff] at h
    obtain ⟨⟨y, l⟩, h1, h2⟩ := h
    simp only [Prod.mk.injEq] at h2
    obtain ⟨rfl, _⟩ := h2
    exact ih _ h1
/-- Where the places that were looked at are the same, the reader tells the same. -/
theorem RdM.run_same {α : Type} {look look' : Nat → Option Cont} {m : RdM α} {x : α} {log : List Nat} (h : m.run look = some (x, log)) (hs : ∀ k ∈ log, look' k = look k) : m.run look' = some (x, log) := by
  induction m generalizing log with
  | ret a => exact h
  | no => cases h
  | rd k f ih =>
    simp only [RdM.run, Option.map_eq_some_iff] at h ⊢
    obtain ⟨⟨y, l⟩, h1, h2⟩ := h
    simp only [Prod.mk.injEq] at h2
    obtain ⟨rfl, rfl⟩ := h2
    refine ⟨(y, l), ?_, rfl⟩
    rw [hs k List.mem_cons_self]
    exact ih _ h1 fun j hj => hs j (List.mem_cons_of_mem _ hj)

section
variable {α γ : Type} {look : Nat → Option Cont}
theorem eval_ret (a : α) : (RdM.ret a).eval look = some a := rfl
theorem eval_pure (a : α) : (Pure.pure a : RdM α).eval look = some a := rfl
theorem eval_no : (RdM.no : RdM α).eval look = none := rfl
theorem eval_rd (k : Nat) (f : Option Cont → RdM α) : (RdM.rd k f).eval look = (f (look k)).eval look := rfl
theorem eval_bind (m : RdM α) (f : α → RdM γ) : (m >>= f).eval look = (m.eval look).bind fun x => (f x).eval look := by
  show (RdM.bind m f).eval look = _
  induction m with
  | ret a => rfl
  | no => rfl
  | rd k g ih => exact ih _
theorem eval_rdK (k : Nat) : (rdK k).eval look = some (look k) := rfl
theorem eval_ofOpt (x : Option α) : (ofOpt x).eval look = x := by cases x <;> rfl
theorem eval_guardR (b : Bool) : (guardR b).eval look = if b = true then some () else none := by cases b <;> rfl
theorem eval_ite (c : Prop) [Decidable c] (x y : RdM α) : (if c then x else y).eval look = if c then x.eval look else y.eval look := by split <;> rfl
theorem eval_bif (c : Bool) (x y : RdM α) : (bif c then x else y).eval look = if c = true then x.eval look else y.eval look := by cases c <;> rfl
end

/-! ### Steps -/
def StepOk (cf : Nat → List D → Option (List D)) (ρ : List D) (g : Option (Atom × Bool)) (nv : Nat) : Step → Prop
  | .prim p xs n => (gOn ρ g = true → ∃ ds, p.run (xs.map (·.val ρ)) = some ds ∧ ds.length = n ∧ ∀ j d, ds[j]? = some d → (Atom.v (nv + j)).val ρ = d) ∧
      (gOn ρ g = false → ∀ j, j < n → (Atom.v (nv + j)).val ρ = .undef)
  | .call f xs n olds => (gOn ρ g = true → ∃ ds, cf f (xs.map (·.val ρ)) = some ds ∧ ds.length = n ∧ ∀ j d, ds[j]? = some d → (Atom.v (nv + j)).val ρ = d) ∧
      (gOn ρ g = false → ∀ j d, (List.replicate (n - olds.length) D.undef ++ olds.map (·.val ρ))[j]? = some d → (Atom.v (nv + j)).val ρ = d)
def StepsOk (cf : Nat → List D → Option (List D)) (ρ : List D) (g : Option (Atom × Bool)) : Nat → List Step → Prop
  | _, [] => True
  | nv, s :: r => StepOk cf ρ g nv s ∧ StepsOk cf ρ g (nv + s.n) r

/-! ### Types -/
structure TiOk (P : Program) (ti : Nat → Option TI) : Prop where
  ok : ∀ t i, ti t = some i → tiOf P t = some i

structure TiFacts (P : Program) (t : TypeId) (i : TI) (info : TypeInfo) (u : TypeDesc) : Prop where
  info_ : P.info? t = some info
  und : P.underlying t = some u
  cells : (flat P 12 t).map (·.map (cellKind P)) = some i.cells
  len : i.cells.length = i.size
  zero : zeroOk i.agg info.zero i.cells = true
  eq : i = tiMk P t info u i.cells
theorem tiOf_facts {P : Program} {t : TypeId} {i : TI} (h : tiOf P t = some i) : ∃ info u, TiFacts P t i info u := by
  unfold tiOf at h
  cases h1 : P.info? t with
  | none => rw [h1] at h; cases h
  | some info =>
    cases h2 : P.underlying t with
    | none => rw [h1, h2] at h; cases h
    | some u =>
      cases h3 : (flat P 12 t).map (·.map (cellKind P)) with
      | none => rw [h1, h2, h3] at h; cases h
      | some cs =>
        rw [h1, h2, h3] at h
        dsimp only at h
        cases hb : (Nat.beq cs.length info.size && zeroOk (aggOf u) info.zero cs) with
        | false => rw [hb] at h; cases h
        | true =>
          rw [hb] at h
          obtain rfl := Option.some.inj h
          simp only [Bool.and_eq_true, Nat.beq_eq] at hb
          exact ⟨info, u, h1, h2, h3, hb.1, hb.2, rfl⟩

section
variable {P : Program} {t : TypeId} {i : TI} {info : TypeInfo} {u : TypeDesc}
theorem TiFacts.agg (h : TiFacts P t i info u) : i.agg = aggOf u := by rw [h.eq]; rfl
theorem TiFacts.size (h : TiFacts P t i info u) : i.size = info.size := by rw [h.eq]; rfl
theorem TiFacts.elem (h : TiFacts P t i info u) : i.elem = elemTy u := by rw [h.eq]; rfl
theorem TiFacts.flds (h : TiFacts P t i info u) : i.flds = fldsOf u := by rw [h.eq]; rfl
theorem TiFacts.bytes (h : TiFacts P t i info u) : i.bytes = info.bytes := by rw [h.eq]; rfl
theorem TiFacts.ik (h : TiFacts P t i info u) : i.ik = ikOf u := by rw [h.eq]; rfl
theorem run_isAgg (h : P.underlying t = some u) (w : World) : (Go.isAgg t).run P w = .ok (aggOf u) w := by
  simp only [Go.isAgg, underlying, program, bind, pure, Sem.bind, Sem.run, h]
  cases u <;> rfl
theorem run_sizeOf (h : P.info? t = some info) (w : World) : (Go.sizeOf t).run P w = .ok info.size w := by
  simp only [Go.sizeOf, typeInfo, program, bind, pure, Sem.bind, Sem.run, h]
theorem run_underlying (h : P.underlying t = some u) (w : World) : (Go.underlying t).run P w = .ok u w := by
  simp only [underlying, program, bind, pure, Sem.bind, Sem.run, h]
theorem TiFacts.isAgg (h : TiFacts P t i info u) (w : World) : (Go.isAgg t).run P w = .ok i.agg w := by rw [run_isAgg h.und, h.agg]
theorem TiFacts.sizeOf (h : TiFacts P t i info u) (w : World) : (Go.sizeOf t).run P w = .ok i.size w := by rw [run_sizeOf h.info_, h.size]
end


/-! ### Operands -/
theorem D.beq0_eq {a b : D} (h : a.beq0 b = true) : a = b := by
  unfold D.beq0 at h
  split at h <;> first | cases h | skip
  · simp only [Bool.and_eq_true, beqK, decide_eq_true_eq] at h
    rw [h.1, h.2]
  · simp only [beq_iff_eq] at h; rw [h]
  · simp only [beq_iff_eq] at h; rw [h]
  · simp only [Nat.beq_eq] at h; rw [h]
  · rfl
  · rfl
theorem Atom.beq0_eq {a b : Atom} (h : a.beq0 b = true) : a = b := by
  unfold Atom.beq0 at h
  split at h
  · simp only [Nat.beq_eq] at h; rw [h]
  · rw [D.beq0_eq h]
  · cases h
theorem gBeq_eq {g h : Option (Atom × Bool)} (e : gBeq g h = true) : g = h := by
  unfold gBeq at e
  split at e
  · rfl
  · simp only [Bool.and_eq_true, beq_iff_eq] at e
    rw [Atom.beq0_eq e.1, e.2]
  · cases e

section
variable {P : Program} {E : Env} {F : Frame0} {σ : Nat → Option Cont} {ρ : List D} {a : Act} {w : World} {G : Gh} {g : Option (Atom × Bool)}
theorem unG_rep (hg : gOn ρ g = true) {v : SV} {u : Value} (h : SVRep σ ρ G w v u) : SVRep σ ρ G w (unG g v) u := by
  unfold unG
  split
  · rename_i h' x
    cases e : gBeq g (some h') with
    | false => exact h
    | true =>
      simp only [SVRep, LeafRep, cond_true] at h ⊢
      exact h.2 (gBeq_eq e ▸ hg)
  · exact h
theorem constSV_rep {ti : Nat → Option TI} {t : TypeId} {v : Value} {sv : SV} (h : constSV ti t v = some sv) : SVRep σ ρ G w sv v := by
  unfold constSV at h
  split at h
  · obtain rfl := Option.some.inj h; exact .int _ _
  · obtain rfl := Option.some.inj h; exact .bool _
  · obtain rfl := Option.some.inj h
    rename_i s
    have := Sc.str s.data.toList
    simpa [SVRep, LeafRep, Atom.val] using this
  · split at h
    · obtain rfl := Option.some.inj h
      simp only [SVRep, LeafRep]
      refine ⟨⟨rfl, by simp⟩, fun _ => ⟨?_, ?_, trivial⟩⟩
      · exact .rows none ⟨0, 0, none⟩ 0 0 _ [] (fun _ _ => undef) rfl (Nat.le_refl _) (.inl rfl) (by simp) (by simp) (by simp)
      · exact fun _ z _ => trivial
    · cases h
  · obtain rfl := Option.some.inj h; rfl
  · cases h
theorem rdSV_rep (hR : R E.ntmps F σ ρ a w G) (hg : gOn ρ g = true) {t : TypeId} {x : Operand} {sv : SV} (h : (rdSV E g t x).eval σ = some sv) : SVRep σ ρ G w sv (a.eval x) := by
  cases x with
  | tmp k =>
    simp only [rdSV, eval_rd] at h
    split at h
    · rename_i g' v hk
      rw [eval_bif] at h
      split at h
      · rename_i hb
        simp only [Bool.and_eq_true] at hb
        simp only [eval_ret, Option.some.injEq] at h
        subst h
        refine unG_rep hg ?_
        have hg' : gOn ρ g' = true := by
          cases g' with
          | none => rfl
          | some z => exact gBeq_eq hb.1 ▸ hg
        have := hR.slot hk hg'
        unfold tval at this
        rw [if_pos (by simpa using hb.2)] at this
        exact this
      · cases h
    · cases h
  | const v =>
    simp only [rdSV, eval_ofOpt] at h
    exact constSV_rep h
  | global _ => cases h
  | func f =>
    simp only [rdSV, eval_ret, Option.some.injEq] at h
    subst h
    simp only [SVRep, LeafRep]
    exact ⟨[], rfl, by simp [LeavesRep]⟩
theorem rdL_rep (hR : R E.ntmps F σ ρ a w G) (hg : gOn ρ g = true) {t : TypeId} {x : Operand} {l : Leaf} (h : (rdL E g t x).eval σ = some l) : LeafRep σ ρ G w l (a.eval x) := by
  simp only [rdL, eval_bind, Option.bind_eq_some_iff] at h
  obtain ⟨sv, h1, h2⟩ := h
  have := rdSV_rep hR hg h1
  unfold one at h2
  split at h2
  · simp only [eval_ret, Option.some.injEq] at h2
    subst h2
    exact this
  · cases h2
theorem scAtom_rep (hg : gOn ρ g = true) {l : Leaf} {x : Atom} {v : Value} (h : scAtom g l = some x) (hl : LeafRep σ ρ G w l v) : Sc v (x.val ρ) := by
  unfold scAtom at h
  split at h
  · obtain rfl := Option.some.inj h
    simpa [LeafRep] using hl
  · rename_i h' y
    cases e : gBeq g (some h') with
    | false => rw [e] at h; cases h
    | true =>
      rw [e] at h
      obtain rfl := Option.some.inj h
      simp only [LeafRep] at hl
      exact hl.2 (gBeq_eq e ▸ hg)
  · cases h
theorem rdA_rep (hR : R E.ntmps F σ ρ a w G) (hg : gOn ρ g = true) {t : TypeId} {x : Operand} {y : Atom} (h : (rdA E g t x).eval σ = some y) : Sc (a.eval x) (y.val ρ) := by
  simp only [rdA, eval_bind, Option.bind_eq_some_iff, eval_ofOpt] at h
  obtain ⟨l, h1, h2⟩ := h
  exact scAtom_rep hg h2 (rdL_rep hR hg h1)
end

end Go.Proofs.Ytacfmplofkjonaa.Rf

/- Each operation does what the symbolic executor tells: plain values. -/
namespace Go.Proofs.Ytacfmplofkjonaa.Rf
set_option linter.unusedVariables false
set_option linter.unusedSimpArgs false

/-- What an operation leaves. -/
def Nx (n : Nat) (F : Frame0) (σ : Nat → Option Cont) (ρ : List D) (u : List (Nat × Cont)) (a : Act) (w : World) : Prop := ∃ G, R n F (upds σ u) ρ a w G
def DstOk (n : Nat) (o : Oper) : Prop := ∀ d, o.dst = some d → d < n

section
variable {P : Program} {E : Env} {F : Frame0} {σ : Nat → Option Cont} {ρ : List D} {a : Act} {w w' : World} {G : Gh} {g : Option (Atom × Bool)} {o : Oper} {cf : Nat → List D → Option (List D)} {Q : Exit → Act → World → Prop} {next : Act → World → Prop}

theorem wp_value {v : Value} (h : (execOp a.eval o).run P w = .ok (.value v) w') (hn : next (a.put o.dst v) w') : o.wp P a w next Q := by
  unfold Oper.wp
  rw [h]
  exact hn
theorem wp_skip' (h : (execOp a.eval o).run P w = .ok .skip w') (hn : next (a.put o.dst undef) w') : o.wp P a w next Q := by
  unfold Oper.wp
  rw [h]
  exact hn

/-- A plain value was bound. -/
theorem sound_S (hR : R E.ntmps F σ ρ a w G) (hd : DstOk E.ntmps o) (hg : gOn ρ g = true) {v : Value} {nv : Nat} (h : (execOp a.eval o).run P w = .ok (.value v) w)
    (hv : Sc v ((Atom.v nv).val ρ)) : o.wp P a w (Nx E.ntmps F σ ρ (dstUpd o none (mkS g (.v nv)))) Q := by
  refine wp_value h ⟨G, hR.pure o hd none _ v fun _ => ?_⟩
  cases g with
  | none => exact hv
  | some z =>
    simp only [mkS, SVRep, LeafRep]
    exact ⟨.inl hv, fun _ => hv⟩
/-- The guard is off. -/
theorem off_S (hR : R E.ntmps F σ ρ a w G) (hd : DstOk E.ntmps o) (hg : gOn ρ g = false) {nv : Nat} (hv : (Atom.v nv).val ρ = .undef) :
    Nx E.ntmps F σ ρ (dstUpd o none (mkS g (.v nv))) (a.put o.dst undef) w := by
  refine ⟨G, hR.pure o hd none _ undef fun _ => ?_⟩
  cases g with
  | none => cases hg
  | some z =>
    simp only [mkS, SVRep, LeafRep]
    exact ⟨.inr ⟨trivial, hv⟩, fun h => by rw [h] at hg; cases hg⟩
theorem off_1 (hR : R E.ntmps F σ ρ a w G) (hd : DstOk E.ntmps o) (hg : gOn ρ g = false) {sv : SV} :
    Nx E.ntmps F σ ρ (dstUpd o g sv) (a.put o.dst undef) w := ⟨G, hR.pure o hd g _ undef fun h => by rw [h] at hg; cases hg⟩

/-- The two ways of a guard. -/
def Sound (P : Program) (E : Env) (F : Frame0) (σ : Nat → Option Cont) (ρ : List D) (a : Act) (w : World) (g : Option (Atom × Bool)) (o : Oper) (Q : Exit → Act → World → Prop) (u : List (Nat × Cont)) : Prop :=
  (gOn ρ g = true → o.wp P a w (Nx E.ntmps F σ ρ u) Q) ∧ (gOn ρ g = false → Nx E.ntmps F σ ρ u (a.put o.dst undef) w)

theorem step1 {p : Prim} {xs : List Atom} {nv n : Nat} (h : StepsOk cf ρ g nv [.prim p xs n]) (hg : gOn ρ g = true) :
    ∃ ds, p.run (xs.map (·.val ρ)) = some ds ∧ ds.length = n ∧ ∀ j d, ds[j]? = some d → (Atom.v (nv + j)).val ρ = d := h.1.1 hg
theorem step1_one {p : Prim} {xs : List Atom} {nv : Nat} (h : StepsOk cf ρ g nv [.prim p xs 1]) (hg : gOn ρ g = true) :
    ∃ d, p.run (xs.map (·.val ρ)) = some [d] ∧ (Atom.v nv).val ρ = d := by
  obtain ⟨ds, h1, h2, h3⟩ := step1 h hg
  match ds, h2 with
  | [d], _ => exact ⟨d, h1, h3 0 d rfl⟩
theorem step1_off {p : Prim} {xs : List Atom} {nv : Nat} (h : StepsOk cf ρ g nv [.prim p xs 1]) (hg : gOn ρ g = false) : (Atom.v nv).val ρ = .undef := h.1.2 hg 0 (by omega)

theorem dst_eq (o : Oper) (g : Option (Atom × Bool)) (v : SV) : (match o.dst with | some d => [(kT d, Cont.slot g v)] | none => []) = dstUpd o g v := rfl

theorem sound_outS (hR : R E.ntmps F σ ρ a w G) (hd : DstOk E.ntmps o) {nv : Nat} {p : Prim} {xs : List Atom} {res : OpRes}
    (h : (outS o g nv p xs).eval σ = some res) (hs : StepsOk cf ρ g nv res.lets)
    (hv : gOn ρ g = true → ∀ d, p.run (xs.map (·.val ρ)) = some [d] → ∃ v, Sc v d ∧ (execOp a.eval o).run P w = .ok (.value v) w) : Sound P E F σ ρ a w g o Q res.upd := by
  simp only [outS, eval_ret, Option.some.injEq] at h
  subst h
  simp only [dst_eq]
  refine ⟨fun hg => ?_, fun hg => off_S hR hd hg (step1_off hs hg)⟩
  obtain ⟨d, h1, h2⟩ := step1_one hs hg
  obtain ⟨v, h3, h4⟩ := hv hg d h1
  exact sound_S hR hd hg h4 (h2 ▸ h3)
theorem sound_out1 (hR : R E.ntmps F σ ρ a w G) (hd : DstOk E.ntmps o) {lets : List Step} {sv : SV} {res : OpRes} {nv : Nat}
    (h : (out1 o g lets sv []).eval σ = some res) (hs : StepsOk cf ρ g nv res.lets)
    (hv : gOn ρ g = true → StepsOk cf ρ g nv lets → ∃ v, SVRep σ ρ G w sv v ∧ (execOp a.eval o).run P w = .ok (.value v) w) : Sound P E F σ ρ a w g o Q res.upd := by
  simp only [out1, eval_ret, Option.some.injEq] at h
  subst h
  simp only [dst_eq, List.append_nil]
  refine ⟨fun hg => ?_, fun hg => off_1 hR hd hg⟩
  obtain ⟨v, h1, h2⟩ := hv hg hs
  exact wp_value h2 ⟨G, hR.pure o hd g _ v fun _ => h1⟩
theorem sound_outC (hR : R E.ntmps F σ ρ a w G) (hd : DstOk E.ntmps o) {sv : SV} {res : OpRes} {nv : Nat}
    (h : (outC o g nv sv).eval σ = some res) (hs : StepsOk cf ρ g nv res.lets)
    (hv : gOn ρ g = true → ∃ v, SVRep σ ρ G w sv v ∧ (execOp a.eval o).run P w = .ok (.value v) w) : Sound P E F σ ρ a w g o Q res.upd := by
  unfold outC at h
  split at h
  · rename_i z l
    split at h
    · rename_i x hx
      refine sound_outS hR hd h hs fun hg d hp => ?_
      obtain ⟨v, h1, h2⟩ := hv hg
      simp only [Prim.run, List.map_cons, List.map_nil, Option.some.injEq, List.cons.injEq, and_true] at hp
      exact ⟨v, hp ▸ scAtom_rep hg hx h1, h2⟩
    · exact sound_out1 hR hd h hs fun hg _ => hv hg
  · exact sound_out1 hR hd h hs fun hg _ => hv hg

theorem run_val {s : Sem Value} {v : Value} (h : s.run P w = .ok v w') : (do pure (Next.value (← s)) : Sem Next).run P w = .ok (.value v) w' := by
  simp only [Sem.run_bind, h, Result.andThen_ok, Sem.run_pure]

/-! ### Plain operations -/
theorem sound_move (hR : R E.ntmps F σ ρ a w G) (hd : DstOk E.ntmps o) {nv : Nat} {x : Operand} (ho : o.op = .move x ∨ o.op = .assign x) {res : OpRes}
    (h : (do outC o g nv (← rdSV E g o.type x) : RdM OpRes).eval σ = some res) (hs : StepsOk cf ρ g nv res.lets) : Sound P E F σ ρ a w g o Q res.upd := by
  simp only [eval_bind, Option.bind_eq_some_iff] at h
  obtain ⟨sv, h1, h2⟩ := h
  refine sound_outC hR hd h2 hs fun hg => ⟨a.eval x, rdSV_rep hR hg h1, ?_⟩
  rcases ho with ho | ho <;> (unfold execOp; rw [ho]; rfl)

theorem Sc.int_inv {v : Value} {k : IntKind} {n : Int} (h : Sc v (.int k n)) : v = .int k n := by cases h; rfl
theorem Sc.bool_inv {v : Value} {b : Bool} (h : Sc v (.bool b)) : v = .bool b := by cases h; rfl
theorem Sc.str_inv {v : Value} {l : List UInt8} (h : Sc v (.str l)) : v = .string ⟨l.toArray⟩ := by cases h; rfl

theorem rdPick_rep (hR : R E.ntmps F σ ρ a w G) (hg : gOn ρ g = true) {z : Atom × Bool} {t : TypeId} {x : Operand} {y : Atom} (h : (rdPick E g z t x).eval σ = some y) (hz : gOn ρ (some z) = true) : Sc (a.eval x) (y.val ρ) := by
  simp only [rdPick, eval_bind, Option.bind_eq_some_iff] at h
  obtain ⟨l, h1, h2⟩ := h
  have hl := rdL_rep hR hg h1
  split at h2
  · rename_i b hb
    simp only [eval_ret, Option.some.injEq] at h2
    subst h2
    exact scAtom_rep hg hb hl
  · simp only [eval_ofOpt] at h2
    exact scAtom_rep hz h2 hl

theorem sound_pick (hR : R E.ntmps F σ ρ a w G) (hd : DstOk E.ntmps o) {nv : Nat} {c x y : Operand} (ho : o.op = .pick c x y) {res : OpRes}
    (h : (do
      let c ← rdA E g 0 c
      let a ← rdPick E g (c, true) o.type x
      let b ← rdPick E g (c, false) o.type y
      outS o g nv .pick [c, a, b] : RdM OpRes).eval σ = some res) (hs : StepsOk cf ρ g nv res.lets) : Sound P E F σ ρ a w g o Q res.upd := by
  simp only [eval_bind, Option.bind_eq_some_iff] at h
  obtain ⟨c', h1, x', h2, y', h3, h4⟩ := h
  refine sound_outS hR hd h4 hs fun hg d hp => ?_
  have hc := rdA_rep hR hg h1
  simp only [List.map_cons, List.map_nil] at hp
  generalize hcv : c'.val ρ = cv at hp hc
  cases cv with
  | bool b =>
    simp only [Prim.run, Option.some.injEq, List.cons.injEq, and_true] at hp
    have e : a.eval c = .bool b := hc.bool_inv
    refine ⟨if b then a.eval x else a.eval y, ?_, ?_⟩
    · cases b with
      | true =>
        rw [if_pos rfl] at hp ⊢
        exact hp ▸ rdPick_rep hR hg h2 (by simp [gOn, hcv])
      | false =>
        simp only [Bool.false_eq_true, if_false] at hp ⊢
        exact hp ▸ rdPick_rep hR hg h3 (by simp [gOn, hcv])
    · unfold execOp
      simp only [ho, e]
      simp only [asBool, Sem.run_bind, Sem.run_pure, Result.andThen_ok]
  | _ => simp [Prim.run] at hp

theorem toList_mk (l : List UInt8) : (⟨l.toArray⟩ : ByteArray).toList = l := by
  rw [ByteArray.toList_eq]
theorem size_mk (l : List UInt8) : (⟨l.toArray⟩ : ByteArray).size = l.length := rfl
theorem append_mk (x y : List UInt8) : (⟨x.toArray⟩ : ByteArray) ++ (⟨y.toArray⟩ : ByteArray) = ⟨(x ++ y).toArray⟩ := by
  apply ByteArray.ext
  rw [ByteArray.data_append]
  simp

theorem run_binInt {op : BinOp} {t : TypeId} {k k' : IntKind} {x y : Int} {d : D} (h : binD op (.int k x) (.int k' y) = some d) :
    ∃ v, Sc v d ∧ (binOp op t (.int k x) (.int k' y)).run P w = .ok v w := by
  unfold binD at h
  dsimp only at h
  cases op <;> dsimp only at h <;> first
    | (simp only [shiftOp] at h
       split at h
       · cases h
       · rename_i hy
         obtain rfl := Option.some.inj h
         exact ⟨_, .int _ _, by simp [binOp, Op.shift, hy]⟩)
    | (split at h
       · rename_i hk
         subst hk
         simp only [intOp] at h
         first
         | (obtain rfl := Option.some.inj h
            first
            | exact ⟨_, .int _ _, by simp [binOp, Op.intArith, Op.intBits]⟩
            | exact ⟨_, .bool _, by simp [binOp, Op.intCmp]⟩)
         | (split at h
            · cases h
            · rename_i hy
              obtain rfl := Option.some.inj h
              exact ⟨_, .int _ _, by simp [binOp, Op.intDiv, hy]⟩)
         | cases h
       · cases h)
theorem run_binStr {op : BinOp} {t : TypeId} {x y : List UInt8} {d : D} (h : binD op (.str x) (.str y) = some d) :
    ∃ v, Sc v d ∧ (binOp op t (.string ⟨x.toArray⟩) (.string ⟨y.toArray⟩)).run P w = .ok v w := by
  simp only [binD, strOp] at h
  have hmax : IntKind.i64.max = 9223372036854775807 := by decide
  cases op <;> dsimp only at h <;> first
    | (obtain rfl := Option.some.inj h
       exact ⟨_, .bool _, by simp [binOp, Op.stringOp, toList_mk]⟩)
    | (split at h
       · rename_i hl
         obtain rfl := Option.some.inj h
         refine ⟨_, .str _, ?_⟩
         simp only [binOp, Op.stringOp, size_mk, append_mk, hmax]
         rw [if_neg (by omega)]
         rfl
       · cases h)
    | cases h
theorem run_bin {op : BinOp} {t : TypeId} {vx vy : Value} {dx dy d : D} (hx : Sc vx dx) (hy : Sc vy dy) (h : binD op dx dy = some d) :
    ∃ v, Sc v d ∧ (binOp op t vx vy).run P w = .ok v w := by
  cases hx <;> cases hy <;> first | exact run_binInt h | exact run_binStr h | (simp [binD] at h)
theorem eqGuard_sc {op : BinOp} {t : TypeId} {x y : Operand} {vx vy : Value} {dx dy : D} (hx : Sc vx dx) (hy : Sc vy dy) : (eqGuard op t x y vx vy).run P w = .ok () w := by
  cases hx <;> cases hy <;> (unfold eqGuard; cases op <;> simp)

theorem sound_bin (hR : R E.ntmps F σ ρ a w G) (hd : DstOk E.ntmps o) {nv : Nat} {op : BinOp} {t ty : TypeId} {x y : Operand} (ho : o.op = .binOp op t x y ty) {res : OpRes}
    {x' y' : Atom} (h1 : gOn ρ g = true → Sc (a.eval x) (x'.val ρ)) (h2 : gOn ρ g = true → Sc (a.eval y) (y'.val ρ))
    (h : (outS o g nv (.bin op) [x', y']).eval σ = some res) (hs : StepsOk cf ρ g nv res.lets) : Sound P E F σ ρ a w g o Q res.upd := by
  refine sound_outS hR hd h hs fun hg d hp => ?_
  simp only [List.map_cons, List.map_nil, Prim.run, Option.map_eq_some_iff, List.cons.injEq, and_true] at hp
  obtain ⟨d', hp, rfl⟩ := hp
  obtain ⟨v, h3, h4⟩ := run_bin (P := P) (w := w) (t := t) (h1 hg) (h2 hg) hp
  refine ⟨v, h3, ?_⟩
  unfold execOp
  simp only [ho]
  refine run_val ?_
  rw [Sem.run_bind, eqGuard_sc (h1 hg) (h2 hg)]
  exact h4

theorem sound_un (hR : R E.ntmps F σ ρ a w G) (hd : DstOk E.ntmps o) {nv : Nat} {op : UnOp} {t : TypeId} {x : Operand} (ho : o.op = .unOp op t x) {res : OpRes}
    (h : (do
      let a ← rdA E g 0 x
      match op with
      | .not => outS o g nv .not [a]
      | .neg => outS o g nv .neg [a]
      | .xor => outS o g nv .inv [a]
      | _ => .no : RdM OpRes).eval σ = some res) (hs : StepsOk cf ρ g nv res.lets) : Sound P E F σ ρ a w g o Q res.upd := by
  simp only [eval_bind, Option.bind_eq_some_iff] at h
  obtain ⟨x', h1, h2⟩ := h
  split at h2
  · refine sound_outS hR hd h2 hs fun hg d hp => ?_
    have hx := rdA_rep hR hg h1
    simp only [List.map_cons, List.map_nil] at hp
    generalize x'.val ρ = xv at hp hx
    cases xv <;> simp only [Prim.run] at hp <;> first | cases hp | skip
    rename_i b
    exact ⟨_, .bool _, by unfold execOp; simp only [ho, hx.bool_inv]; rfl⟩
  · refine sound_outS hR hd h2 hs fun hg d hp => ?_
    have hx := rdA_rep hR hg h1
    simp only [List.map_cons, List.map_nil] at hp
    generalize x'.val ρ = xv at hp hx
    cases xv <;> simp only [Prim.run] at hp <;> first | cases hp | skip
    exact ⟨_, .int _ _, by unfold execOp; simp only [ho, hx.int_inv]; rfl⟩
  · refine sound_outS hR hd h2 hs fun hg d hp => ?_
    have hx := rdA_rep hR hg h1
    simp only [List.map_cons, List.map_nil] at hp
    generalize x'.val ρ = xv at hp hx
    cases xv <;> simp only [Prim.run, intOp, Option.map_some, Option.some.injEq, List.cons.injEq, and_true] at hp <;> first | cases hp | skip
    exact ⟨_, .int _ _, by unfold execOp; simp only [ho, hx.int_inv]; rfl⟩
  · cases h2

theorem sound_conv (hR : R E.ntmps F σ ρ a w G) (hd : DstOk E.ntmps o) (hti : TiOk P E.ti) {nv : Nat} {src dst : TypeId} {x : Operand} (ho : o.op = .convert src dst x) {res : OpRes} {s d : TI} {k : IntKind}
    (hs1 : E.ti src = some s) (hs2 : s.ik.isSome = true) (hd1 : E.ti dst = some d) (hk : d.ik = some k) {x' : Atom} (h1 : (rdA E g src x).eval σ = some x')
    (h : (outS o g nv (.conv k) [x']).eval σ = some res) (hs : StepsOk cf ρ g nv res.lets) : Sound P E F σ ρ a w g o Q res.upd := by
  refine sound_outS hR hd h hs fun hg e hp => ?_
  have hx := rdA_rep hR hg h1
  simp only [List.map_cons, List.map_nil] at hp
  generalize x'.val ρ = xv at hp hx
  cases xv <;> simp only [Prim.run] at hp <;> first | cases hp | skip
  rename_i k0 n
  obtain ⟨i1, u1, f1⟩ := tiOf_facts (hti.ok _ _ hs1)
  obtain ⟨i2, u2, f2⟩ := tiOf_facts (hti.ok _ _ hd1)
  have e2 : u2 = .int k := by
    have := f2.ik.symm.trans hk
    unfold ikOf at this
    split at this
    · rw [Option.some.inj this]
    · cases this
  subst e2
  refine ⟨_, .int _ _, ?_⟩
  unfold execOp
  simp only [ho, hx.int_inv]
  refine run_val ?_
  simp only [convert, Sem.run_bind, run_underlying f1.und, run_underlying f2.und, Result.andThen_ok]
  rfl
end
end Go.Proofs.Ytacfmplofkjonaa.Rf

/- Reading slices; the operations that only read. -/
namespace Go.Proofs.Ytacfmplofkjonaa.Rf
set_option linter.unusedVariables false
set_option linter.unusedSimpArgs false

section
variable {P : Program} {E : Env} {F : Frame0} {σ : Nat → Option Cont} {ρ : List D} {a : Act} {w w' : World} {G : Gh} {g : Option (Atom × Bool)} {o : Oper} {cf : Nat → List D → Option (List D)} {Q : Exit → Act → World → Prop} {next : Act → World → Prop}

def liveS (σ : Nat → Option Cont) (r k : Nat) : Prop := ∃ m, liveR σ r k m

theorem rdDeps_rep : ∀ {deps ds : List (Nat × Nat)}, (rdDeps deps).eval σ = some ds →
    (∀ z ∈ deps, validR σ z.1 z.2) ∧ (∀ z ∈ ds, z ∈ deps ∧ liveS σ z.1 z.2) ∧ ∀ z ∈ deps, z ∈ ds ∨ ∃ x m, σ (kR z.1) = some (.root x m z.2 .frozen)
  | [], ds, h => by
    simp only [rdDeps, eval_ret, Option.some.injEq] at h
    subst h
    simp
  | (r, k) :: rest, ds, h => by
    simp only [rdDeps, eval_bind, eval_rdK, Option.bind_some] at h
    split at h
    · rename_i x m ver st hk
      simp only [eval_bind, Option.bind_eq_some_iff] at h
      obtain ⟨ds', h1, h2⟩ := h
      obtain ⟨h3, h4, h5⟩ := rdDeps_rep h1
      split at h2
      · rw [eval_bif] at h2
        split at h2
        · rename_i e
          simp only [Nat.beq_eq] at e
          simp only [eval_ret, Option.some.injEq] at h2
          subst h2 e
          refine ⟨fun z hz => ?_, fun z hz => ⟨List.mem_cons_of_mem _ (h4 z hz).1, (h4 z hz).2⟩, fun z hz => ?_⟩
          · rcases List.mem_cons.1 hz with rfl | hz
            · exact ⟨x, m, .frozen, hk, .inr rfl⟩
            · exact h3 z hz
          · rcases List.mem_cons.1 hz with rfl | hz
            · exact .inr ⟨x, m, hk⟩
            · exact h5 z hz
        · cases h2
      · rw [eval_bif] at h2
        split at h2
        · rename_i e
          simp only [Nat.beq_eq] at e
          simp only [eval_ret, Option.some.injEq] at h2
          subst h2 e
          refine ⟨fun z hz => ?_, fun z hz => ?_, fun z hz => ?_⟩
          · rcases List.mem_cons.1 hz with rfl | hz
            · exact ⟨x, m, .live, hk, .inl rfl⟩
            · exact h3 z hz
          · rcases List.mem_cons.1 hz with rfl | hz
            · exact ⟨List.mem_cons_self, m, x, hk⟩
            · exact ⟨List.mem_cons_of_mem _ (h4 z hz).1, (h4 z hz).2⟩
          · rcases List.mem_cons.1 hz with rfl | hz
            · exact .inl List.mem_cons_self
            · exact (h5 z hz).imp (List.mem_cons_of_mem _) id
        · cases h2
      · cases h2
    · cases h

/-- What hangs on frozen roots hangs on none. -/
theorem Rd.drop (hR : R E.ntmps F σ ρ a w G) {deps ds : List (Nat × Nat)} (h : ∀ z ∈ deps, z ∈ ds ∨ ∃ x m, σ (kR z.1) = some (.root x m z.2 .frozen)) {v : Value} {d : D}
    (hv : Rd (allow G deps) w v d) : Rd (allow G ds) w v d := by
  refine hv.mono fun b hb => ⟨?_, rfl⟩
  rcases hb with hb | ⟨r, k, p, hm, hb⟩
  · exact .inl hb
  · rcases h (r, k) hm with h1 | ⟨x, m, h1⟩
    · exact .inr ⟨r, k, p, h1, hb⟩
    · exact absurd hb ((hR.root h1).2 b p)

def OwnRep (σ : Nat → Option Cont) (ρ : List D) (G : Gh) (w : World) (s : SlR) (v : Value) : Prop :=
  match s.own with
  | none => True
  | some (r, k, m, p) => s.deps = [(r, k)] ∧ liveR σ r k m ∧ match p with
    | .no => True
    | .view => Rp G.own w r [] m v (s.x.val ρ)
    | .path q => q.length ≤ m ∧ Rp G.own w r (pathVal ρ q) (m - q.length) v (s.x.val ρ) ∧ Nest G.own w r [] (G.hdr r) (pathVal ρ q) v

structure SlRep (σ : Nat → Option Cont) (ρ : List D) (G : Gh) (w : World) (s : SlR) (v : Value) : Prop where
  rd : Rd (allow G s.deps) w v (s.x.val ρ)
  live : ∀ z ∈ s.deps, liveS σ z.1 z.2
  nie : s.nie = true → ∀ z, s.x.val ρ = .rows z [] → v = .slice none 0 0
  own : OwnRep σ ρ G w s v

theorem rdSl_rep (hR : R E.ntmps F σ ρ a w G) {l : Leaf} {s : SlR} (h : (rdSl l).eval σ = some s) {v : Value} (hl : LeafRep σ ρ G w l v) : SlRep σ ρ G w s v := by
  unfold rdSl at h
  split at h
  · rename_i r
    simp only [LeafRep] at hl
    simp only [eval_bind, eval_rdK, Option.bind_some] at h
    split at h
    · rename_i x m ver hk
      simp only [eval_ret, Option.some.injEq] at h
      subst h
      have hr := hR.root hk
      simp only [RootRep] at hr
      rw [← hl.1] at hr
      refine ⟨hr.rd.mono fun b hb => ⟨hb.imp id fun ⟨q, hq⟩ => ⟨r, ver, q, by simp, hq⟩, rfl⟩, ?_, by simp, ?_⟩
      · intro z hz
        simp only [List.mem_singleton] at hz
        subst hz
        exact ⟨m, x, hk⟩
      · refine ⟨rfl, ⟨x, hk⟩, Nat.zero_le _, by simpa [pathVal] using hr, ?_⟩
        simp only [pathVal, List.map_nil, Nest]
        exact hl.1
    · rename_i x m ver hk
      simp only [eval_ret, Option.some.injEq] at h
      subst h
      have hr := (hR.root hk).1
      rw [← hl.1] at hr
      exact ⟨hr.mono fun b hb => ⟨.inl hb, rfl⟩, by simp, by simp, trivial⟩
    · cases h
  · rename_i deps p nie x
    simp only [LeafRep] at hl
    simp only [eval_bind, Option.bind_eq_some_iff] at h
    obtain ⟨ds, h1, h2⟩ := h
    obtain ⟨h3, h4, h5⟩ := rdDeps_rep h1
    obtain ⟨h6, h7, h8⟩ := hl.2 h3
    have h9 := h6.drop hR h5
    split at h2
    · simp only [eval_ret, Option.some.injEq] at h2
      subst h2
      exact ⟨h9, fun z hz => (h4 z hz).2, h7, trivial⟩
    · rename_i r k z hne
      simp only [eval_bind, eval_rdK, Option.bind_some] at h2
      split at h2
      · rename_i x' m ver hk
        simp only [eval_ret, Option.some.injEq] at h2
        subst h2
        have hz := (h4 z (by simp)).1
        simp only [List.mem_singleton] at hz
        subst hz
        have hlv : liveS σ r k := (h4 (r, k) (by simp)).2
        obtain ⟨m', x'', hk'⟩ := hlv
        rw [hk] at hk'
        obtain ⟨rfl, rfl, rfl⟩ : x' = x'' ∧ m = m' ∧ ver = k := by injection hk' with hk'; injection hk' with a b c d; exact ⟨a, b, c⟩
        refine ⟨h9, fun z hz => (h4 z hz).2, h7, rfl, ⟨x', hk⟩, ?_⟩
        cases p with
        | no => trivial
        | view => exact h8 r ver m rfl ⟨x', hk⟩
        | path q => exact h8 r ver m rfl ⟨x', hk⟩
      · cases h2
    · simp only [eval_ret, Option.some.injEq] at h2
      subst h2
      exact ⟨h9, fun z hz => (h4 z hz).2, h7, trivial⟩
  · cases h

theorem Rd.inv {ok : Nat → Prop} {v : Value} {sz : Nat} {rs : List (List D)} (h : Rd ok w v (.rows sz rs)) :
    ∃ (A : Option Addr) (a : Addr) (n c : Nat) (vs : Nat → Nat → Value), v = .slice A n c ∧ rs.length = n ∧ n ≤ c ∧ (n = 0 ∨ A = some a) ∧ (∀ r ∈ rs, r.length = sz) ∧
      (∀ i r, rs[i]? = some r → ∀ j d, r[j]? = some d → ok a.block ∧ w.cell? (a.add (i * sz + j)) = some (vs i j)) ∧
      (∀ i r, rs[i]? = some r → ∀ j d, r[j]? = some d → Rd ok w (vs i j) d) := by
  cases h with
  | sc h => cases h
  | rows A a n c sz rs vs hn hc hA hsz hcell hrec => exact ⟨A, a, n, c, vs, rfl, hn, hc, hA, hsz, hcell, hrec⟩

theorem elem_und {t : TypeId} {i : TI} {info : TypeInfo} {u : TypeDesc} {e : Nat} (f : TiFacts P t i info u) (h : i.elem = some e) : u = .slice e := by
  have := f.elem.symm.trans h
  unfold elemTy at this
  split at this
  · rw [Option.some.inj this]
  · cases this
theorem elem_und' {t : TypeId} {i : TI} {info : TypeInfo} {u : TypeDesc} (f : TiFacts P t i info u) (h : i.elem.isSome = true) : ∃ e, u = .slice e := by
  cases e : i.elem with
  | none => rw [e] at h; cases h
  | some e' => exact ⟨e', elem_und f e⟩
theorem str_und {t : TypeId} {i : TI} {info : TypeInfo} {u : TypeDesc} (f : TiFacts P t i info u) (h : i.isStr = true) : u = .string := by
  have : isStrT u = true := by rw [← h, f.eq]; rfl
  unfold isStrT at this
  split at this
  · rfl
  · cases this
theorem flds_und {t : TypeId} {i : TI} {info : TypeInfo} {u : TypeDesc} (f : TiFacts P t i info u) {k off ft : Nat} (h : i.flds[k]? = some (off, ft)) :
    ∃ fs fd, u = .struct fs ∧ fs[k]? = some fd ∧ fd.offset = off ∧ fd.type = ft := by
  rw [f.flds] at h
  unfold fldsOf at h
  split at h
  · rename_i fs
    simp only [List.getElem?_map, Option.map_eq_some_iff, Prod.mk.injEq] at h
    obtain ⟨fd, h1, h2, h3⟩ := h
    exact ⟨fs, fd, rfl, by simpa using h1, h2, h3⟩
  · simp at h

theorem args_one {α : Type} {as : Array α} {x : α} (h : as.toList = [x]) : as = #[x] := by
  apply Array.ext'
  simpa using h
theorem args_two {α : Type} {as : Array α} {x y : α} (h : as.toList = [x, y]) : as = #[x, y] := by
  apply Array.ext'
  simpa using h
theorem run_builtin {b : Builtin} {args : Array Operand} {argTypes : Array TypeId} {s : Sem Value} {v : Value} (ho : o.op = .call { callee := .builtin b, args, argTypes })
    (hb : ∀ consts, builtin b argTypes o.type consts (args.map a.eval) = (do pure (.value (← s)))) (h : s.run P w = .ok v w') : (execOp a.eval o).run P w = .ok (.value v) w' := by
  unfold execOp
  simp only [ho, resolve, Sem.run_bind, Sem.run_pure, Result.andThen_ok, invoke, hb]
  rw [h]
  rfl
theorem map_one {α γ : Type} (f : α → γ) (x : α) : Array.map f #[x] = #[f x] := by simp
theorem map_two {α γ : Type} (f : α → γ) (x y : α) : Array.map f #[x, y] = #[f x, f y] := by simp
theorem run_len_str {t ty : TypeId} {argTypes : Array TypeId} (ht : argTypes[0]? = some t) (hu : P.underlying t = some .string) (s : ByteArray) :
    (Builtin.len_ argTypes ty #[.string s]).run P w = .ok (.int .i64 s.size) w := by
  simp [Builtin.len_, ht, run_underlying hu, goInt]
theorem run_len_slice {t ty e : TypeId} {argTypes : Array TypeId} (ht : argTypes[0]? = some t) (hu : P.underlying t = some (.slice e)) (A : Option Addr) (n c : Nat) :
    (Builtin.len_ argTypes ty #[.slice A n c]).run P w = .ok (.int .i64 n) w := by
  simp [Builtin.len_, ht, run_underlying hu, goInt]

theorem sound_len (hR : R E.ntmps F σ ρ a w G) (hd : DstOk E.ntmps o) (hti : TiOk P E.ti) {nv : Nat} {args : Array Operand} {argTypes : Array TypeId}
    (ho : o.op = .call { callee := .builtin .len, args, argTypes }) {x : Operand} (hx : args.toList = [x]) {t : TypeId} (ht : argTypes[0]? = some t) {ti : TI} (hi : E.ti t = some ti) {res : OpRes}
    (h : (do
      let l ← rdL E g t x
      match scAtom g l with
      | some a => do
        guardR ti.isStr
        outS o g nv .slen [a]
      | none => do
        guardR ti.elem.isSome
        let s ← rdSl l
        outS o g nv .len [s.x] : RdM OpRes).eval σ = some res) (hs : StepsOk cf ρ g nv res.lets) : Sound P E F σ ρ a w g o Q res.upd := by
  obtain ⟨info, u, f⟩ := tiOf_facts (hti.ok _ _ hi)
  simp only [eval_bind, Option.bind_eq_some_iff] at h
  obtain ⟨l, h1, h2⟩ := h
  split at h2
  · rename_i y hy
    simp only [eval_bind, eval_guardR, Option.bind_eq_some_iff] at h2
    obtain ⟨_, h3, h4⟩ := h2
    split at h3
    · rename_i hstr
      obtain rfl := str_und f hstr
      refine sound_outS hR hd h4 hs fun hg d hp => ?_
      have hv := scAtom_rep hg hy (rdL_rep hR hg h1)
      simp only [List.map_cons, List.map_nil] at hp
      generalize y.val ρ = yv at hp hv
      cases yv <;> simp only [Prim.run] at hp <;> first | cases hp | skip
      rename_i s
      refine ⟨_, .int _ _, run_builtin ho (fun _ => rfl) ?_⟩
      have e := run_len_str (P := P) (w := w) (ty := o.type) ht f.und ⟨s.toArray⟩
      rw [← hv.str_inv] at e
      rw [args_one hx, map_one]
      exact e
    · cases h3
  · rename_i hy
    simp only [eval_bind, eval_guardR, Option.bind_eq_some_iff] at h2
    obtain ⟨_, h3, s, h4, h5⟩ := h2
    split at h3
    · rename_i hel
      obtain ⟨e, rfl⟩ := elem_und' f hel
      refine sound_outS hR hd h5 hs fun hg d hp => ?_
      have hv := (rdSl_rep hR h4 (rdL_rep hR hg h1)).rd
      simp only [List.map_cons, List.map_nil] at hp
      generalize s.x.val ρ = yv at hp hv
      cases yv <;> simp only [Prim.run] at hp <;> first | cases hp | skip
      rename_i sz rs
      obtain ⟨A, b, n, c, vs, e1, e2, -⟩ := hv.inv
      refine ⟨_, .int _ _, run_builtin ho (fun _ => rfl) ?_⟩
      have e := run_len_slice (P := P) (w := w) (ty := o.type) ht f.und A n c
      rw [← e1] at e
      rw [args_one hx, e2, map_one]
      exact e
    · cases h3


/-! ### Struct values, tuples, pointers -/
theorem LeavesRep.len {ls : List Leaf} : ∀ {vs : List Value}, LeavesRep σ ρ G w ls vs → vs.length = ls.length := by
  induction ls with
  | nil => intro vs h; simp only [LeavesRep] at h; simp [h]
  | cons l ls ih =>
    intro vs h
    simp only [LeavesRep] at h
    obtain ⟨u, us, rfl, _, h2⟩ := h
    simp [ih h2]
theorem LeavesRep.get {ls : List Leaf} : ∀ {vs : List Value} {i : Nat} {l : Leaf}, LeavesRep σ ρ G w ls vs → ls[i]? = some l → ∃ v, vs[i]? = some v ∧ LeafRep σ ρ G w l v := by
  induction ls with
  | nil => intro vs i l h hi; simp at hi
  | cons l0 ls ih =>
    intro vs i l h hi
    simp only [LeavesRep] at h
    obtain ⟨u, us, rfl, h1, h2⟩ := h
    cases i with
    | zero =>
      simp only [List.getElem?_cons_zero, Option.some.injEq] at hi
      subst hi
      exact ⟨u, rfl, h1⟩
    | succ i =>
      simp only [List.getElem?_cons_succ] at hi ⊢
      exact ih h2 hi
theorem LeavesRep.of_get {ls : List Leaf} : ∀ {vs : List Value}, vs.length = ls.length → (∀ (i : Nat) (l : Leaf) (v : Value), ls[i]? = some l → vs[i]? = some v → LeafRep σ ρ G w l v) → LeavesRep σ ρ G w ls vs := by
  induction ls with
  | nil => intro vs h _; simp only [LeavesRep]; exact List.eq_nil_of_length_eq_zero h
  | cons l0 ls ih =>
    intro vs h hg
    cases vs with
    | nil => simp at h
    | cons u us =>
      simp only [LeavesRep]
      exact ⟨u, us, rfl, hg 0 l0 u rfl rfl, ih (by simpa using h) fun i l v hi hv => hg (i + 1) l v hi hv⟩
theorem LeavesRep.drop {ls : List Leaf} {vs : List Value} (k : Nat) (h : LeavesRep σ ρ G w ls vs) : LeavesRep σ ρ G w (ls.drop k) (vs.drop k) := by
  refine .of_get (by simp [h.len]) fun i l v hi hv => ?_
  rw [List.getElem?_drop] at hi hv
  obtain ⟨v', h1, h2⟩ := h.get hi
  rw [h1] at hv
  exact Option.some.inj hv ▸ h2
theorem LeavesRep.take {ls : List Leaf} {vs : List Value} (k : Nat) (h : LeavesRep σ ρ G w ls vs) : LeavesRep σ ρ G w (ls.take k) (vs.take k) := by
  refine .of_get (by simp [h.len]) fun i l v hi hv => ?_
  rw [List.getElem?_take] at hi hv
  split at hi
  · rename_i hk
    rw [if_pos hk] at hv
    obtain ⟨v', h1, h2⟩ := h.get hi
    rw [h1] at hv
    exact Option.some.inj hv ▸ h2
  · cases hi

theorem svOf_rep {agg : Bool} {ls : List Leaf} {sv : SV} (h : svOf agg ls = some sv) {vs : List Value} (hl : LeavesRep σ ρ G w ls vs) {v : Value}
    (hv : if agg = true then v = .agg vs.toArray else vs = [v]) : SVRep σ ρ G w sv v := by
  unfold svOf at h
  cases agg with
  | true =>
    simp only [cond_true, Option.some.injEq] at h
    subst h
    exact ⟨vs, by simpa using hv, hl⟩
  | false =>
    simp only [cond_false] at h
    split at h
    · simp only [Option.some.injEq] at h
      subst h
      simp only [Bool.false_eq_true, if_false] at hv
      subst hv
      simp only [LeavesRep] at hl
      obtain ⟨u, us, e, h1, -⟩ := hl
      obtain ⟨rfl, -⟩ := List.cons.inj e
      exact h1
    · cases h

theorem sound_field (hR : R E.ntmps F σ ρ a w G) (hd : DstOk E.ntmps o) (hti : TiOk P E.ti) {nv : Nat} {t : TypeId} {x : Operand} {k : Nat} (ho : o.op = .field t x k) {ti fi : TI} {off ft : Nat}
    (hi : E.ti t = some ti) (hf : ti.flds[k]? = some (off, ft)) (hfi : E.ti ft = some fi) {res : OpRes}
    (h : (do
      match ← rdSV E g t x with
      | .agg ls => do
        guardR (Nat.ble (off + fi.size) ls.length && Nat.beq ls.length ti.size)
        match svOf fi.agg ((ls.drop off).take fi.size) with
        | some v => outC o g nv v
        | none => .no
      | _ => .no : RdM OpRes).eval σ = some res) (hs : StepsOk cf ρ g nv res.lets) : Sound P E F σ ρ a w g o Q res.upd := by
  obtain ⟨info, u, f⟩ := tiOf_facts (hti.ok _ _ hi)
  obtain ⟨info', u', f'⟩ := tiOf_facts (hti.ok _ _ hfi)
  obtain ⟨fs, fd, rfl, h1, rfl, rfl⟩ := flds_und f hf
  simp only [eval_bind, Option.bind_eq_some_iff] at h
  obtain ⟨sv, h2, h3⟩ := h
  split at h3
  · rename_i ls
    simp only [eval_bind, eval_guardR, Option.bind_eq_some_iff] at h3
    obtain ⟨_, h4, h5⟩ := h3
    split at h4
    · rename_i hb
      simp only [Bool.and_eq_true, Nat.ble_eq] at hb
      split at h5
      · rename_i sv' hsv
        refine sound_outC hR hd h5 hs fun hg => ?_
        obtain ⟨vs, e, hl⟩ := rdSV_rep hR hg h2
        have hl' := (hl.drop fd.offset).take fi.size
        have hlen := hl.len
        have hrun : ∀ v, (if fi.agg = true then v = .agg ((vs.drop fd.offset).take fi.size).toArray else (vs.drop fd.offset).take fi.size = [v]) →
            (execOp a.eval o).run P w = .ok (.value v) w := by
          intro v hv
          unfold execOp
          simp only [ho]
          refine run_val ?_
          simp only [Instr.field, Sem.run_bind, run_underlying f.und, Result.andThen_ok, h1, e, asAgg, Sem.run_pure, part, f'.isAgg, f'.sizeOf]
          cases hag : fi.agg with
          | true =>
            rw [hag] at hv
            simp only [if_true] at hv ⊢
            rw [hv]
            simp only [Sem.run_bind, f'.sizeOf, Result.andThen_ok, Sem.run_pure]
            congr 2
            apply Array.ext'
            simp [List.extract_eq_take_drop]
          | false =>
            rw [hag] at hv
            simp only [Bool.false_eq_true, if_false] at hv ⊢
            have : vs[fd.offset]? = some v := by
              have h0 : ((vs.drop fd.offset).take fi.size)[0]? = some v := by rw [hv]; rfl
              rw [List.getElem?_take] at h0
              split at h0
              · rw [List.getElem?_drop] at h0; simpa using h0
              · cases h0
            simp [this]
        cases hag : fi.agg with
        | true =>
          refine ⟨.agg ((vs.drop fd.offset).take fi.size).toArray, svOf_rep hsv hl' (by rw [hag]; rfl), hrun _ (by rw [hag]; rfl)⟩
        | false =>
          have hl1 : ((ls.drop fd.offset).take fi.size).length = 1 := by
            rw [hag] at hsv
            unfold svOf at hsv
            simp only [cond_false] at hsv
            split at hsv
            · rename_i l hl1; rw [hl1]; rfl
            · cases hsv
          have hv1 : ((vs.drop fd.offset).take fi.size).length = 1 := by rw [hl'.len, hl1]
          obtain ⟨v, hv⟩ := List.length_eq_one_iff.1 hv1
          exact ⟨v, svOf_rep hsv hl' (by rw [hag]; exact hv), hrun _ (by rw [hag]; exact hv)⟩
      · cases h5
    · cases h4
  · cases h3

theorem TupRep.get : ∀ {ts : List (Bool × List Leaf)} {us : List Value} {i : Nat} {ag : Bool} {ls : List Leaf}, TupRep σ ρ G w ts us → ts[i]? = some (ag, ls) →
    ∃ u vs, us[i]? = some u ∧ LeavesRep σ ρ G w ls vs ∧ (if ag = true then u = .agg vs.toArray else vs = [u])
  | [], _, _, _, _, _, h => by simp at h
  | (a0, l0) :: r, us, i, ag, ls, ht, h => by
    obtain ⟨u, us', vs, rfl, h1, h2, h3⟩ := ht
    cases i with
    | zero =>
      simp only [List.getElem?_cons_zero, Option.some.injEq, Prod.mk.injEq] at h
      obtain ⟨rfl, rfl⟩ := h
      exact ⟨u, vs, rfl, h1, h2⟩
    | succ i =>
      simp only [List.getElem?_cons_succ] at h ⊢
      exact TupRep.get h3 h
theorem sound_extract (hR : R E.ntmps F σ ρ a w G) (hd : DstOk E.ntmps o) {nv : Nat} {x : Operand} {i : Nat} (ho : o.op = .extract x i) {res : OpRes}
    (h : (do
      match ← rdSV E g 0 x with
      | .tup vs => match vs[i]? with
        | some (a, ls) => match svOf a ls with
          | some v => outC o g nv v
          | none => .no
        | none => .no
      | _ => .no : RdM OpRes).eval σ = some res) (hs : StepsOk cf ρ g nv res.lets) : Sound P E F σ ρ a w g o Q res.upd := by
  simp only [eval_bind, Option.bind_eq_some_iff] at h
  obtain ⟨sv, h2, h3⟩ := h
  split at h3
  · rename_i ts
    split at h3
    · rename_i ag ls hi
      split at h3
      · rename_i v hv
        refine sound_outC hR hd h3 hs fun hg => ?_
        obtain ⟨us, e, ht⟩ := rdSV_rep hR hg h2
        obtain ⟨u, vs, h4, h5, h6⟩ := ht.get hi
        refine ⟨u, svOf_rep hv h5 h6, ?_⟩
        unfold execOp
        simp only [ho]
        refine run_val ?_
        simp [Instr.extract, e, h4]
      · cases h3
    · cases h3
  · cases h3

theorem sound_fieldAddr (hR : R E.ntmps F σ ρ a w G) (hd : DstOk E.ntmps o) (hti : TiOk P E.ti) {nv : Nat} {t : TypeId} {x : Operand} {k : Nat} (ho : o.op = .fieldAddr t x k) {ti fi : TI} {off ft : Nat}
    (hi : E.ti t = some ti) (hf : ti.flds[k]? = some (off, ft)) (hfi : E.ti ft = some fi) (hpos : 0 < fi.size) {res : OpRes}
    (h : (do sxField o g off (← rdL E g 0 x) : RdM OpRes).eval σ = some res) (hs : StepsOk cf ρ g nv res.lets) : Sound P E F σ ρ a w g o Q res.upd := by
  obtain ⟨info, u, f⟩ := tiOf_facts (hti.ok _ _ hi)
  obtain ⟨info', u', f'⟩ := tiOf_facts (hti.ok _ _ hfi)
  obtain ⟨fs, fd, rfl, h1, rfl, rfl⟩ := flds_und f hf
  simp only [eval_bind, Option.bind_eq_some_iff] at h
  obtain ⟨l, h2, h3⟩ := h
  have hrun : ∀ b : Addr, a.eval x = .pointer (some b) → (execOp a.eval o).run P w = .ok (.value (.pointer (some (b.add fd.offset)))) w := by
    intro b hb
    unfold execOp
    simp only [ho]
    refine run_val ?_
    have hne : ¬ fi.size = 0 := by omega
    simp only [Instr.fieldAt, Sem.run_bind, run_underlying f.und, Result.andThen_ok, h1, Instr.sureAddr, hb, Sem.run_pure, fieldPlace, f'.sizeOf, if_neg hne]
  unfold sxField at h3
  split at h3
  · rename_i b off
    refine sound_out1 hR hd h3 hs fun hg _ => ?_
    have hl := rdL_rep hR hg h2
    simp only [LeafRep] at hl
    refine ⟨_, ?_, hrun _ hl.1⟩
    simp only [SVRep, LeafRep]
    exact ⟨by rw [add_add], hl.2⟩
  · rename_i l' sz i off
    refine sound_out1 hR hd h3 hs fun hg _ => ?_
    have hl := rdL_rep hR hg h2
    simp only [LeafRep] at hl
    obtain ⟨b, n, c, k', iv, h4, h5, h6, h7, h8⟩ := hl
    refine ⟨_, ?_, hrun _ h8⟩
    simp only [SVRep, LeafRep]
    exact ⟨b, n, c, k', iv, h4, h5, h6, h7, by rw [add_add, Nat.add_assoc]⟩
  · cases h3

end
end Go.Proofs.Ytacfmplofkjonaa.Rf

/- Indexing, function values, nil checks, comparisons, minima, slicing. -/
namespace Go.Proofs.Ytacfmplofkjonaa.Rf
set_option linter.unusedVariables false
set_option linter.unusedSimpArgs false

section
variable {P : Program} {E : Env} {F : Frame0} {σ : Nat → Option Cont} {ρ : List D} {a : Act} {w w' : World} {G : Gh} {g : Option (Atom × Bool)} {o : Oper} {cf : Nat → List D → Option (List D)} {Q : Exit → Act → World → Prop} {next : Act → World → Prop}

theorem sound_indexAddr (hR : R E.ntmps F σ ρ a w G) (hd : DstOk E.ntmps o) (hti : TiOk P E.ti) {nv : Nat} {t : TypeId} {x i : Operand} (ho : o.op = .indexAddr t x i) {ti ei : TI} {e : Nat}
    (hi : E.ti t = some ti) (he : ti.elem = some e) (hei : E.ti e = some ei) {res : OpRes}
    (h : (do
      let l ← rdL E g t x
      let s ← rdSl l
      let a ← rdA E g 0 i
      guardR (Nat.blt 0 ei.size)
      out1 o g [.prim .inb [s.x, a] 0] (.one (.pe l ei.size a 0)) [] : RdM OpRes).eval σ = some res) (hs : StepsOk cf ρ g nv res.lets) : Sound P E F σ ρ a w g o Q res.upd := by
  obtain ⟨info, u, f⟩ := tiOf_facts (hti.ok _ _ hi)
  obtain ⟨info', u', f'⟩ := tiOf_facts (hti.ok _ _ hei)
  obtain rfl := elem_und f he
  simp only [eval_bind, Option.bind_eq_some_iff, eval_guardR] at h
  obtain ⟨l, h1, s, h2, y, h3, _, h4, h5⟩ := h
  refine sound_out1 hR hd h5 hs fun hg hst => ?_
  obtain ⟨ds, hp, -, -⟩ := step1 hst hg
  have hl := rdL_rep hR hg h1
  have hsl := (rdSl_rep hR h2 hl).rd
  have hy := rdA_rep hR hg h3
  simp only [List.map_cons, List.map_nil] at hp
  generalize hxv : s.x.val ρ = xv at hp hsl
  generalize hyv : y.val ρ = yv at hp hy
  cases xv <;> cases yv <;> simp only [Prim.run] at hp <;> first | cases hp | skip
  rename_i sz rs k iv
  split at hp
  · rename_i hb
    obtain ⟨A, b, n, c, vs, e1, e2, e3, e4, -⟩ := hsl.inv
    have hn : n ≠ 0 := by omega
    have hA : A = some b := e4.resolve_left hn
    subst hA
    refine ⟨.pointer (some (b.add (iv.toNat * ei.size + 0))), ?_, ?_⟩
    · simp only [SVRep, LeafRep]
      exact ⟨b, n, c, k, iv, e1 ▸ hl, hyv, hb.1, by omega, rfl⟩
    · unfold execOp
      simp only [ho]
      refine run_val ?_
      have hlt : (0 : Int) ≤ iv ∧ iv < (n : Int) := ⟨hb.1, by rw [← e2]; exact hb.2⟩
      simp only [Instr.indexAt, hy.int_inv, asIntOf, Sem.run_bind, Sem.run_pure, Result.andThen_ok, run_underlying f.und, e1, if_pos hlt, f'.sizeOf, Nat.add_zero]
  · cases hp

theorem sound_index (hR : R E.ntmps F σ ρ a w G) (hd : DstOk E.ntmps o) (hti : TiOk P E.ti) {nv : Nat} {t : TypeId} {x i : Operand} (ho : o.op = .index t x i) {ti : TI}
    (hi : E.ti t = some ti) {res : OpRes}
    (h : (do
      guardR ti.isStr
      let s ← rdA E g t x
      let a ← rdA E g 0 i
      outS o g nv .sidx [s, a] : RdM OpRes).eval σ = some res) (hs : StepsOk cf ρ g nv res.lets) : Sound P E F σ ρ a w g o Q res.upd := by
  obtain ⟨info, u, f⟩ := tiOf_facts (hti.ok _ _ hi)
  simp only [eval_bind, Option.bind_eq_some_iff, eval_guardR] at h
  obtain ⟨_, h0, x', h1, y, h2, h3⟩ := h
  split at h0
  · rename_i hst
    obtain rfl := str_und f hst
    refine sound_outS hR hd h3 hs fun hg d hp => ?_
    have hx := rdA_rep hR hg h1
    have hy := rdA_rep hR hg h2
    simp only [List.map_cons, List.map_nil] at hp
    generalize x'.val ρ = xv at hp hx
    generalize y.val ρ = yv at hp hy
    cases xv <;> cases yv <;> simp only [Prim.run] at hp <;> first | cases hp | skip
    rename_i s k iv
    split at hp
    · rename_i h0i
      split at hp
      · rename_i b hb
        simp only [Option.some.injEq, List.cons.injEq, and_true] at hp
        subst hp
        refine ⟨_, .int _ _, ?_⟩
        unfold execOp
        simp only [ho]
        refine run_val ?_
        have e : (⟨s.toArray⟩ : ByteArray)[iv.toNat]? = some b := by
          have : iv.toNat < s.length := by
            rcases Nat.lt_or_ge iv.toNat s.length with h | h
            · exact h
            · rw [List.getElem?_eq_none h] at hb; cases hb
          rw [getElem?_pos (⟨s.toArray⟩ : ByteArray) iv.toNat (by simpa [ByteArray.size] using this)]
          rw [List.getElem?_eq_getElem this] at hb
          rw [← hb]
          rfl
        simp only [Instr.index, hy.int_inv, hx.str_inv, asIntOf, Sem.run_bind, Sem.run_pure, Result.andThen_ok, run_underlying f.und, if_pos h0i, e]
      · cases hp
    · cases hp
  · cases h0

theorem rdArgs_rep (hR : R E.ntmps F σ ρ a w G) (hg : gOn ρ g = true) : ∀ {xs : List Operand} {ts : List TypeId} {svs : List SV}, (rdArgs E g xs ts).eval σ = some svs →
    svs.length = xs.length ∧ ∀ (i : Nat) (sv : SV) (x : Operand), svs[i]? = some sv → xs[i]? = some x → SVRep σ ρ G w sv (a.eval x)
  | [], ts, svs, h => by
    simp only [rdArgs, eval_ret, Option.some.injEq] at h
    subst h
    simp
  | x :: xs, ts, svs, h => by
    simp only [rdArgs, eval_bind, Option.bind_eq_some_iff, eval_ret, Option.some.injEq] at h
    obtain ⟨sv, h1, l, h2, rfl⟩ := h
    obtain ⟨h3, h4⟩ := rdArgs_rep hR hg h2
    refine ⟨by simp [h3], fun i sv' x' hi hx => ?_⟩
    cases i with
    | zero =>
      simp only [List.getElem?_cons_zero, Option.some.injEq] at hi hx
      subst hi hx
      exact rdSV_rep hR hg h1
    | succ i =>
      simp only [List.getElem?_cons_succ] at hi hx
      exact h4 i sv' x' hi hx

theorem onesOf_rep : ∀ {svs : List SV} {ls : List Leaf}, onesOf svs = some ls → ls.length = svs.length ∧ ∀ (i : Nat) (l : Leaf), ls[i]? = some l → svs[i]? = some (.one l)
  | [], ls, h => by
    simp only [onesOf, Option.some.injEq] at h
    subst h
    simp
  | .one l :: r, ls, h => by
    simp only [onesOf, Option.map_eq_some_iff] at h
    obtain ⟨m, h1, rfl⟩ := h
    obtain ⟨h2, h3⟩ := onesOf_rep h1
    refine ⟨by simp [h2], fun i l' hi => ?_⟩
    cases i with
    | zero => simp only [List.getElem?_cons_zero, Option.some.injEq] at hi ⊢; rw [hi]
    | succ i => simp only [List.getElem?_cons_succ] at hi ⊢; exact h3 i l' hi
  | .dead :: _, _, h => by simp [onesOf] at h
  | .agg _ :: _, _, h => by simp [onesOf] at h
  | .tup _ :: _, _, h => by simp [onesOf] at h

theorem sound_makeFunc (hR : R E.ntmps F σ ρ a w G) (hd : DstOk E.ntmps o) {nv : Nat} {fn : FuncId} {first caps : Array Operand} (ho : o.op = .makeFunc (.func fn) first caps) {res : OpRes}
    (h : (do
      guardR first.isEmpty
      let vs ← rdArgs E g caps.toList []
      let ls ← ofOpt (onesOf vs)
      out1 o g [] (.one (.clo fn ls)) [] : RdM OpRes).eval σ = some res) (hs : StepsOk cf ρ g nv res.lets) : Sound P E F σ ρ a w g o Q res.upd := by
  simp only [eval_bind, Option.bind_eq_some_iff, eval_guardR, eval_ofOpt] at h
  obtain ⟨_, h0, svs, h1, ls, h1', h2⟩ := h
  split at h0
  · rename_i hf
    refine sound_out1 hR hd h2 hs fun hg _ => ⟨.func (.func fn) #[] (caps.map a.eval), ?_, ?_⟩
    · obtain ⟨h3, h4⟩ := rdArgs_rep hR hg h1
      simp only [SVRep, LeafRep]
      obtain ⟨h5, h6⟩ := onesOf_rep h1'
      refine ⟨caps.toList.map a.eval, by rw [← Array.toList_map, Array.toArray_toList], .of_get (by simp [h3, h5]) fun i l v hi hv => ?_⟩
      simp only [List.getElem?_map, Option.map_eq_some_iff] at hv
      obtain ⟨x, hv, rfl⟩ := hv
      exact h4 i _ x (h6 i l hi) hv
    · unfold execOp
      simp only [ho]
      refine run_val ?_
      have : first = #[] := by simpa using hf
      subst this
      simp [Instr.makeFunc]
  · cases h0

theorem sound_nilCheck (hR : R E.ntmps F σ ρ a w G) (hd : DstOk E.ntmps o) {nv : Nat} {x : Operand} (ho : o.op = .nilCheck x) {res : OpRes}
    (h : (do
      match ← rdL E g 0 x with
      | .rp deps sz y => do
        let ds ← rdDeps deps
        out1 o g [.prim .ne [y] 0] (.one (.pe (.sn ds .no false y) sz (.c (.int .i64 0)) 0)) []
      | .px b off => out1 o g [] (.one (.px b off)) []
      | .pe l sz i off => out1 o g [] (.one (.pe l sz i off)) []
      | .clo f cs => out1 o g [] (.one (.clo f cs)) []
      | .pn => out1 o g [.prim .ne [.c (.rows 0 [])] 0] (.one (.pe (.sn [] .no false (.c (.rows 0 []))) 0 (.c (.int .i64 0)) 0)) []
      | _ => .no : RdM OpRes).eval σ = some res) (hs : StepsOk cf ρ g nv res.lets) : Sound P E F σ ρ a w g o Q res.upd := by
  simp only [eval_bind, Option.bind_eq_some_iff] at h
  obtain ⟨l, h1, h2⟩ := h
  have hptr : ∀ b, a.eval x = .pointer (some b) → (execOp a.eval o).run P w = .ok (.value (.pointer (some b))) w := by
    intro b hb
    unfold execOp
    simp only [ho, hb]
    rfl
  split at h2
  · rename_i deps sz y
    simp only [eval_bind, Option.bind_eq_some_iff] at h2
    obtain ⟨ds, h3, h4⟩ := h2
    refine sound_out1 hR hd h4 hs fun hg hst => ?_
    obtain ⟨zs, hp, -, -⟩ := step1 hst hg
    have hl := rdL_rep hR hg h1
    simp only [LeafRep] at hl
    obtain ⟨hv1, hv2, hv3⟩ := rdDeps_rep h3
    rcases hl.2 hv1 with ⟨e1, z, e2⟩ | ⟨b, row, e1, e2, e3⟩
    · simp only [List.map_cons, List.map_nil, e2, Prim.run] at hp
      simp at hp
    · refine ⟨.pointer (some b), ?_, hptr b e1⟩
      simp only [SVRep, LeafRep]
      refine ⟨b, 1, 1, .i64, 0, ⟨⟨rfl, fun z hz => hl.1.2 z (hv2 z hz).1⟩, fun _ => ⟨?_, by simp, trivial⟩⟩, rfl, by omega, by simp, by simp [Addr.add]⟩
      rw [e2]
      exact e3.drop hR hv3
  · rename_i b off
    refine sound_out1 hR hd h2 hs fun hg _ => ?_
    have hl := rdL_rep hR hg h1
    have hl' := hl
    simp only [LeafRep] at hl'
    exact ⟨_, hl, by rw [hl'.1]; exact hptr _ hl'.1⟩
  · rename_i l' sz i off
    refine sound_out1 hR hd h2 hs fun hg _ => ?_
    have hl := rdL_rep hR hg h1
    have hl' := hl
    simp only [LeafRep] at hl'
    obtain ⟨b, n, c, k, iv, -, -, -, -, e⟩ := hl'
    exact ⟨_, hl, by rw [e]; exact hptr _ e⟩
  · rename_i f cs
    refine sound_out1 hR hd h2 hs fun hg _ => ?_
    have hl := rdL_rep hR hg h1
    have hl' := hl
    simp only [LeafRep] at hl'
    obtain ⟨vs, e, -⟩ := hl'
    refine ⟨_, hl, ?_⟩
    unfold execOp
    simp only [ho, e]
    rfl
  · refine sound_out1 hR hd h2 hs fun hg hst => ?_
    obtain ⟨zs, hp, -, -⟩ := step1 hst hg
    simp [Atom.val, Prim.run] at hp
  · cases h2

/-! ### minima and maxima -/
theorem run_min2 {op : BinOp} {x y : Value} {dx dy d : D} (hx : Sc x dx) (hy : Sc y dy) (h : minD op dx dy = some d) (hop : op = .lss ∨ op = .gtr) :
    ∃ v, Sc v d ∧ (if op = .lss then Builtin.min2 x y else Builtin.max2 x y).run P w = .ok v w := by
  unfold minD at h
  split at h
  · rename_i k x' k' y'
    rw [hx.int_inv, hy.int_inv]
    split at h
    · rename_i hk
      subst hk
      obtain rfl := Option.some.inj h
      refine ⟨_, .int _ _, ?_⟩
      rcases hop with rfl | rfl
      · simp [Builtin.min2]
      · simp [Builtin.max2]
    · cases h
  · cases h
theorem run_fold {op : BinOp} (hop : op = .lss ∨ op = .gtr) : ∀ {vs : List Value} {ds : List D} {x : Value} {dx d : D}, Sc x dx → vs.length = ds.length → (∀ (i : Nat) (v : Value) (e : D), vs[i]? = some v → ds[i]? = some e → Sc v e) →
    foldD op dx ds = some d → ∃ v, Sc v d ∧ (vs.foldlM (fun a b => if op = .lss then Builtin.min2 a b else Builtin.max2 a b) x).run P w = .ok v w
  | [], ds, x, dx, d, hx, hl, _, h => by
    obtain rfl : ds = [] := List.eq_nil_of_length_eq_zero (by simpa using hl.symm)
    simp only [foldD, Option.some.injEq] at h
    subst h
    exact ⟨x, hx, rfl⟩
  | v :: vs, ds, x, dx, d, hx, hl, hg, h => by
    cases ds with
    | nil => simp at hl
    | cons e es =>
      simp only [foldD, Option.bind_eq_some_iff] at h
      obtain ⟨z, h1, h2⟩ := h
      obtain ⟨u, h3, h4⟩ := run_min2 (P := P) (w := w) hx (hg 0 v e rfl rfl) h1 hop
      obtain ⟨r, h5, h6⟩ := run_fold hop (vs := vs) (ds := es) h3 (by simpa using hl) (fun i v' e' hi he => hg (i + 1) v' e' hi he) h2
      refine ⟨r, h5, ?_⟩
      rw [List.foldlM_cons, Sem.run_bind, h4]
      exact h6

theorem atomsG_rep (hg : gOn ρ g = true) : ∀ {ls : List Leaf} {xs : List Atom}, atomsG g ls = some xs → xs.length = ls.length ∧
    ∀ (i : Nat) (l : Leaf) (x : Atom) (v : Value), ls[i]? = some l → xs[i]? = some x → LeafRep σ ρ G w l v → Sc v (x.val ρ)
  | [], xs, h => by
    simp only [atomsG, Option.some.injEq] at h
    subst h
    simp
  | l :: ls, xs, h => by
    simp only [atomsG, Option.bind_eq_some_iff, Option.map_eq_some_iff] at h
    obtain ⟨x, h1, ys, h2, rfl⟩ := h
    obtain ⟨h3, h4⟩ := atomsG_rep hg h2
    refine ⟨by simp [h3], fun i l' x' v hi hx hl => ?_⟩
    cases i with
    | zero =>
      simp only [List.getElem?_cons_zero, Option.some.injEq] at hi hx
      subst hi hx
      exact scAtom_rep hg h1 hl
    | succ i =>
      simp only [List.getElem?_cons_succ] at hi hx
      exact h4 i l' x' v hi hx hl

theorem sound_minmax (hR : R E.ntmps F σ ρ a w G) (hd : DstOk E.ntmps o) {nv : Nat} {args : Array Operand} {argTypes : Array TypeId} {b : Builtin} {p : Prim} {op : BinOp}
    (hb : (b = .min ∧ p = .min ∧ op = .lss) ∨ (b = .max ∧ p = .max ∧ op = .gtr))
    (ho : o.op = .call { callee := .builtin b, args, argTypes }) {svs : List SV} {ts : List TypeId} {ls : List Leaf} {xs : List Atom} {res : OpRes}
    (h1 : (rdArgs E g args.toList ts).eval σ = some svs) (h2 : onesOf svs = some ls) (h3 : atomsG g ls = some xs)
    (h : (outS o g nv p xs).eval σ = some res) (hs : StepsOk cf ρ g nv res.lets) : Sound P E F σ ρ a w g o Q res.upd := by
  refine sound_outS hR hd h hs fun hg d hp => ?_
  obtain ⟨h4, h5⟩ := rdArgs_rep hR hg h1
  obtain ⟨h6, h7⟩ := onesOf_rep h2
  obtain ⟨h8, h9⟩ := atomsG_rep (σ := σ) (ρ := ρ) (G := G) (w := w) hg h3
  -- the values, one by one
  have hall : ∀ (i : Nat) (v : Value) (e : D), (args.toList.map a.eval)[i]? = some v → (xs.map (·.val ρ))[i]? = some e → Sc v e := by
    intro i v e hv he
    simp only [List.getElem?_map, Option.map_eq_some_iff] at hv he
    obtain ⟨x, hx, rfl⟩ := hv
    obtain ⟨y, hy, rfl⟩ := he
    have hlt : i < ls.length := by
      rw [← h8]
      exact (List.getElem?_eq_some_iff.1 hy).1
    have hl : ls[i]? = some ls[i] := List.getElem?_eq_getElem hlt
    exact h9 i _ y _ hl hy (h5 i _ x (h7 i _ hl) hx)
  have hlen : (args.toList.map a.eval).length = (xs.map (·.val ρ)).length := by
    simp only [List.length_map]
    omega
  generalize hvs : args.toList.map a.eval = vs at hall hlen
  generalize hes : xs.map (·.val ρ) = es at hall hlen hp
  have hargs : args.map a.eval = vs.toArray := by
    apply Array.ext'
    simpa using hvs
  cases es with
  | nil => rcases hb with ⟨-, rfl, -⟩ | ⟨-, rfl, -⟩ <;> simp [Prim.run] at hp
  | cons e es =>
    cases vs with
    | nil => simp at hlen
    | cons v vs =>
      have hf : foldD op e es = some d := by
        rcases hb with ⟨-, rfl, rfl⟩ | ⟨-, rfl, rfl⟩ <;> simpa [Prim.run] using hp
      obtain ⟨r, h10, h11⟩ := run_fold (P := P) (w := w) (op := op) (by rcases hb with ⟨-, -, rfl⟩ | ⟨-, -, rfl⟩ <;> simp) (hall 0 v e rfl rfl) (by simpa using hlen)
        (fun i v' e' hi he => hall (i + 1) v' e' hi he) hf
      refine ⟨r, h10, ?_⟩
      rcases hb with ⟨rfl, rfl, rfl⟩ | ⟨rfl, rfl, rfl⟩
      · refine run_builtin ho (s := Builtin.min_ argTypes o.type (args.map a.eval)) (fun _ => rfl) ?_
        rw [hargs]
        simpa [Builtin.min_] using h11
      · refine run_builtin ho (s := Builtin.max_ argTypes o.type (args.map a.eval)) (fun _ => rfl) ?_
        rw [hargs]
        simpa [Builtin.max_] using h11

end
end Go.Proofs.Ytacfmplofkjonaa.Rf

/- Comparisons of structs; conversions; slicing. -/
namespace Go.Proofs.Ytacfmplofkjonaa.Rf
set_option linter.unusedVariables false
set_option linter.unusedSimpArgs false

section
variable {P : Program} {E : Env} {F : Frame0} {σ : Nat → Option Cont} {ρ : List D} {a : Act} {w w' : World} {G : Gh} {g : Option (Atom × Bool)} {o : Oper} {cf : Nat → List D → Option (List D)} {Q : Exit → Act → World → Prop} {next : Act → World → Prop}

/-! ### '==' of structs -/
def Scs (vs : List Value) (ds : List D) : Prop := vs.length = ds.length ∧ ∀ (i : Nat) (v : Value) (d : D), vs[i]? = some v → ds[i]? = some d → Sc v d
theorem Scs.drop {vs : List Value} {ds : List D} (h : Scs vs ds) (k : Nat) : Scs (vs.drop k) (ds.drop k) :=
  ⟨by simp [h.1], fun i v d hv hd => by rw [List.getElem?_drop] at hv hd; exact h.2 _ v d hv hd⟩
theorem Scs.take {vs : List Value} {ds : List D} (h : Scs vs ds) (k : Nat) : Scs (vs.take k) (ds.take k) :=
  ⟨by simp [h.1], fun i v d hv hd => by
    rw [List.getElem?_take] at hv hd
    split at hv
    · rename_i hk
      rw [if_pos hk] at hd
      exact h.2 _ v d hv hd
    · cases hv⟩
theorem eqsD_append : ∀ {ks ls : List Nat} {a b c d : List D}, a.length = ks.length → b.length = ks.length → ∀ {r : Bool}, eqsD (ks ++ ls) (a ++ c) (b ++ d) = some r →
    ∃ r1, eqsD ks a b = some r1 ∧ (r1 = true → eqsD ls c d = some r) ∧ (r1 = false → r = false)
  | [], ls, [], [], c, d, _, _, r, h => ⟨true, rfl, fun _ => h, fun h => by cases h⟩
  | k :: ks, ls, x :: a, y :: b, c, d, h1, h2, r, h => by
    simp only [List.cons_append, eqsD, Option.bind_eq_some_iff] at h
    obtain ⟨e, h3, h4⟩ := h
    cases e with
    | true =>
      simp only [if_true] at h4
      obtain ⟨r1, h5, h6, h7⟩ := eqsD_append (by simpa using h1) (by simpa using h2) h4
      exact ⟨r1, by simp [eqsD, h3, h5], h6, h7⟩
    | false =>
      simp only [Bool.false_eq_true, if_false, Option.some.injEq] at h4
      exact ⟨false, by simp [eqsD, h3], (fun h => by cases h), fun _ => h4.symm⟩
  | [], _, _ :: _, _, _, _, h, _, _, _ => by simp at h
  | [], _, [], _ :: _, _, _, _, h, _, _ => by simp at h
  | _ :: _, _, [], _, _, _, h, _, _, _ => by simp at h
  | _ :: _, _, _ :: _, [], _, _, _, h, _, _ => by simp at h

theorem beq_mk (l m : List UInt8) : ((⟨l.toArray⟩ : ByteArray) == ⟨m.toArray⟩) = (l == m) := by
  have : ((⟨l.toArray⟩ : ByteArray) == ⟨m.toArray⟩) = (l.toArray == m.toArray) := rfl
  rw [this]
  simp
theorem eqD0 {x y : D} {r : Bool} (h : eqD 0 x y = some r) : ∃ k i j, x = .int k i ∧ y = .int k j ∧ r = (i == j) := by
  cases x <;> cases y <;> simp only [eqD] at h <;> first | cases h | skip
  split at h
  · rename_i e
    subst e
    exact ⟨_, _, _, rfl, rfl, (Option.some.inj h).symm⟩
  · cases h
theorem eqD1 {x y : D} {r : Bool} (h : eqD 1 x y = some r) : ∃ i j, x = .bool i ∧ y = .bool j ∧ r = (i == j) := by
  cases x <;> cases y <;> simp only [eqD] at h <;> first | (cases h; done) | skip
  exact ⟨_, _, rfl, rfl, (Option.some.inj h).symm⟩
theorem eqD2 {x y : D} {r : Bool} (h : eqD 2 x y = some r) : ∃ i j, x = .str i ∧ y = .str j ∧ r = (i == j) := by
  cases x <;> cases y <;> simp only [eqD] at h <;> first | (cases h; done) | skip
  exact ⟨_, _, rfl, rfl, (Option.some.inj h).symm⟩
theorem eqD3 {x y : D} {r : Bool} (h : eqD 3 x y = some r) : False := by
  cases x <;> cases y <;> simp [eqD] at h
theorem eq_sc {t : TypeId} {x y : Value} {dx dy : D} {b : Bool} (hx : Sc x dx) (hy : Sc y dy) (h : eqD (eqKind (cellKind P t)) dx dy = some b) (n : Nat) : (Op.equalIn (n + 1) t x y).run P w = .ok b w := by
  unfold cellKind at h
  split at h
  · rename_i k hu
    obtain ⟨k1, i, j, rfl, rfl, rfl⟩ := eqD0 h
    simp [Op.equalIn, run_underlying hu, hx.int_inv, hy.int_inv]
  · rename_i hu
    obtain ⟨i, j, rfl, rfl, rfl⟩ := eqD1 h
    simp [Op.equalIn, run_underlying hu, hx.bool_inv, hy.bool_inv]
  · rename_i hu
    obtain ⟨l, m, rfl, rfl, rfl⟩ := eqD2 h
    simp only [Op.equalIn, run_underlying hu, hx.str_inv, hy.str_inv, Sem.run_bind, Result.andThen_ok, Sem.run_pure]
    rw [beq_mk]
  · exact (eqD3 h).elim
  · exact (eqD3 h).elim
  · exact (eqD3 h).elim

/-- A type's value out of its cells. -/
def ofCells (P : Program) (t : TypeId) (vs : List Value) (v : Value) : Prop := match P.underlying t with
  | some (.struct _) => v = .agg vs.toArray
  | _ => vs = [v]

theorem flat_fold (P : Program) (d : Nat) : ∀ (fs : List Field) (acc l : List TypeId), fs.foldl (fun acc f => acc.bind fun l => (flat P d f.type).bind fun m => bif Nat.beq f.offset l.length then some (l ++ m) else none) (some acc) = some l →
    ∃ ls, l = acc ++ ls ∧ (∀ f r, fs = f :: r → ∃ m, flat P d f.type = some m ∧ f.offset = acc.length ∧ ∃ ls', ls = m ++ ls' ∧ r.foldl (fun acc f => acc.bind fun l => (flat P d f.type).bind fun m => bif Nat.beq f.offset l.length then some (l ++ m) else none) (some (acc ++ m)) = some l) ∧ (fs = [] → ls = [])
  | [], acc, l, h => by
    simp only [List.foldl_nil, Option.some.injEq] at h
    exact ⟨[], by simp [h], by simp, fun _ => rfl⟩
  | f :: r, acc, l, h => by
    simp only [List.foldl_cons, Option.bind_some] at h
    cases hm : flat P d f.type with
    | none =>
      rw [hm] at h
      simp only [Option.bind_none] at h
      have : ∀ (r : List Field), r.foldl (fun acc f => acc.bind fun l => (flat P d f.type).bind fun m => bif Nat.beq f.offset l.length then some (l ++ m) else none) (none : Option (List TypeId)) = none := by
        intro r
        induction r with
        | nil => rfl
        | cons _ _ ih => simpa using ih
      rw [this] at h
      cases h
    | some m =>
      rw [hm] at h
      simp only [Option.bind_some] at h
      cases ho : Nat.beq f.offset acc.length with
      | false =>
        rw [ho] at h
        simp only [cond_false] at h
        have : ∀ (r : List Field), r.foldl (fun acc f => acc.bind fun l => (flat P d f.type).bind fun m => bif Nat.beq f.offset l.length then some (l ++ m) else none) (none : Option (List TypeId)) = none := by
          intro r
          induction r with
          | nil => rfl
          | cons _ _ ih => simpa using ih
        rw [this] at h
        cases h
      | true =>
        rw [ho] at h
        simp only [cond_true] at h
        obtain ⟨ls, h1, -, -⟩ := flat_fold P d r (acc ++ m) l h
        refine ⟨m ++ ls, by rw [h1, List.append_assoc], fun f' r' e => ?_, by simp⟩
        obtain ⟨rfl, rfl⟩ := List.cons.inj e
        exact ⟨m, hm, by simpa using ho, ls, rfl, h⟩

theorem take_drop_append {α : Type} (l : List α) (k m : Nat) : (l.drop k).take m ++ l.drop (k + m) = l.drop k := by
  rw [← List.drop_drop, List.take_append_drop]

theorem cells_of_part {t : TypeId} {d : Nat} {m : List TypeId} (hm : flat P d t = some m) (hs : szOk P d t = true) (hc : cmpOk P d t = true) {vs : List Value} {off : Nat} (hl : off + m.length ≤ vs.length) :
    ∃ v, ofCells P t ((vs.drop off).take m.length) v ∧ (part t vs.toArray off).run P w = .ok v w := by
  unfold szOk at hs
  rw [hm] at hs
  cases hi : P.info? t with
  | none => rw [hi] at hs; cases hs
  | some i =>
    rw [hi] at hs
    simp only [Nat.beq_eq] at hs
    cases d with
    | zero => cases hc
    | succ d =>
      simp only [cmpOk] at hc
      simp only [flat] at hm
      cases hu : P.underlying t with
      | none => rw [hu] at hm; cases hm
      | some u =>
        unfold ofCells
        rw [hu] at hc hm ⊢
        simp only [part, Sem.run_bind, run_isAgg hu, Result.andThen_ok, run_sizeOf hi, Sem.run_ite]
        cases u <;> first | (cases hc; done) | skip
        case struct fs =>
          refine ⟨_, rfl, ?_⟩
          simp only [aggOf, if_true, Sem.run_bind, run_sizeOf hi, Result.andThen_ok, Sem.run_pure, ← hs]
          congr 2
          apply Array.ext'
          simp [List.extract_eq_take_drop]
        all_goals
          simp only [Option.some.injEq] at hm
          subst hm
          have hlt : off < vs.length := by simp only [List.length_singleton] at hl; omega
          refine ⟨vs[off], ?_, ?_⟩
          · simp only [List.length_singleton]
            rw [List.drop_eq_getElem_cons hlt]
            rfl
          · simp [aggOf, List.getElem?_eq_getElem hlt]

theorem equalIn_cmp (P : Program) (w : World) : ∀ (d : Nat) (t : TypeId) (l : List TypeId), cmpOk P d t = true → flat P d t = some l → ∀ (xs ys : List Value) (dx dy : List D) (b : Bool) (x y : Value),
    Scs xs dx → Scs ys dy → xs.length = l.length → ys.length = l.length → ofCells P t xs x → ofCells P t ys y → eqsD (l.map fun t => eqKind (cellKind P t)) dx dy = some b →
    ∀ n, d ≤ n → (Op.equalIn n t x y).run P w = .ok b w
  | 0, t, l, hc, _ => by cases hc
  | d + 1, t, l, hc, hf => by
    intro xs ys dx dy b x y hx hy hlx hly hox hoy he n hn
    obtain ⟨n, rfl⟩ : ∃ m, n = m + 1 := ⟨n - 1, by omega⟩
    have hsingle : (∀ fs, P.underlying t ≠ some (.struct fs)) → flat P (d + 1) t = some [t] → (Op.equalIn (n + 1) t x y).run P w = .ok b w := by
      intro hns hft
      rw [hf] at hft
      obtain rfl := Option.some.inj hft
      have h1 : xs = [x] := by
        unfold ofCells at hox
        split at hox
        · rename_i fs hu; exact absurd hu (hns fs)
        · exact hox
      have h2 : ys = [y] := by
        unfold ofCells at hoy
        split at hoy
        · rename_i fs hu; exact absurd hu (hns fs)
        · exact hoy
      subst h1 h2
      match dx, dy, hx.1, hy.1 with
      | [dx], [dy], _, _ =>
        simp only [List.map_cons, List.map_nil, eqsD, Option.bind_eq_some_iff] at he
        obtain ⟨e, h3, h4⟩ := he
        have : e = b := by cases e <;> simpa using h4
        subst this
        exact eq_sc (hx.2 0 x dx rfl rfl) (hy.2 0 y dy rfl rfl) h3 n
    simp only [cmpOk] at hc
    simp only [flat] at hf
    cases hu : P.underlying t with
    | none => rw [hu] at hc; cases hc
    | some u =>
      rw [hu] at hc hf
      cases u <;> first | (cases hc; done) | skip
      case struct fs =>
        simp only [Bool.and_eq_true, Bool.not_eq_true', List.all_eq_true] at hc
        obtain ⟨hstood, hall⟩ := hc
        have hx' : x = .agg xs.toArray := by unfold ofCells at hox; rw [hu] at hox; exact hox
        have hy' : y = .agg ys.toArray := by unfold ofCells at hoy; rw [hu] at hoy; exact hoy
        subst hx' hy'
        have hfs : P.fieldsOf t = fs := by simp [Program.fieldsOf, hu]
        rw [run_equalIn_struct (P := P) w n t _ _ (by rw [hfs]; exact hu) hstood, hfs]
        dsimp only at hf
        generalize hgl : fs.toList = gs at hf hall
        -- field by field
        have key : ∀ (gs : List Field) (acc : List TypeId) (b : Bool), (∀ f ∈ gs, (f.name != "_") = true ∧ cmpOk P d f.type = true ∧ szOk P d f.type = true) →
            gs.foldl (fun acc f => acc.bind fun l => (flat P d f.type).bind fun m => bif Nat.beq f.offset l.length then some (l ++ m) else none) (some acc) = some l →
            eqsD ((l.drop acc.length).map fun t => eqKind (cellKind P t)) (dx.drop acc.length) (dy.drop acc.length) = some b →
            (Op.eqFields n xs.toArray ys.toArray gs).run P w = .ok b w := by
          intro gs
          induction gs with
          | nil =>
            intro acc b _ hfold hq
            simp only [List.foldl_nil, Option.some.injEq] at hfold
            subst hfold
            have e1 : dx.drop acc.length = [] := List.drop_of_length_le (by rw [← hx.1]; omega)
            have e2 : dy.drop acc.length = [] := List.drop_of_length_le (by rw [← hy.1]; omega)
            simp only [List.drop_length, List.map_nil, e1, e2, eqsD, Option.some.injEq] at hq
            subst hq
            simp [Op.eqFields]
          | cons f r ih =>
            intro acc b hok hfold hq
            obtain ⟨ls, e1, h1, -⟩ := flat_fold P d (f :: r) acc l hfold
            obtain ⟨m, hm, hoff, ls', e2, hfold'⟩ := h1 f r rfl
            obtain ⟨hname, hcm, hsz⟩ := hok f List.mem_cons_self
            have hlen : acc.length + m.length ≤ l.length := by rw [e1, e2]; simp
            have hdl : l.drop acc.length = m ++ ls' := by rw [e1, e2]; simp
            rw [hdl, List.map_append] at hq
            rw [← take_drop_append dx acc.length m.length, ← take_drop_append dy acc.length m.length] at hq
            have hl1 : ((dx.drop acc.length).take m.length).length = (m.map fun t => eqKind (cellKind P t)).length := by
              simp only [List.length_take, List.length_drop, List.length_map, ← hx.1]; omega
            have hl2 : ((dy.drop acc.length).take m.length).length = (m.map fun t => eqKind (cellKind P t)).length := by
              simp only [List.length_take, List.length_drop, List.length_map, ← hy.1]; omega
            obtain ⟨r1, h2, h3, h4⟩ := eqsD_append hl1 hl2 hq
            obtain ⟨vx, hvx, hpx⟩ := cells_of_part (w := w) hm hsz hcm (vs := xs) (off := acc.length) (by omega)
            obtain ⟨vy, hvy, hpy⟩ := cells_of_part (w := w) hm hsz hcm (vs := ys) (off := acc.length) (by omega)
            have heq := equalIn_cmp P w d f.type m hcm hm _ _ _ _ r1 vx vy ((hx.drop _).take _) ((hy.drop _).take _) (by simp only [List.length_take, List.length_drop]; omega)
              (by simp only [List.length_take, List.length_drop]; omega) hvx hvy h2 n (by omega)
            have hname' : f.name ≠ "_" := by simpa using hname
            rw [Op.eqFields]
            simp only [if_pos hname', Sem.run_bind, hoff, hpx, hpy, heq, Result.andThen_ok]
            cases r1 with
            | false =>
              obtain rfl := h4 rfl
              simp
            | true =>
              have := ih (acc ++ m) b (fun f' hf' => hok f' (List.mem_cons_of_mem _ hf')) hfold' (by
                rw [List.length_append, ← List.drop_drop, hdl]
                simpa using h3 rfl)
              simpa using this
        exact key gs [] b (fun f hf' => by
          have := hall f hf'
          exact ⟨this.1.1, this.1.2, this.2⟩) hf (by simpa using he)
      all_goals exact hsingle (by intro fs e; rw [hu] at e; cases e) (by simp [flat, hu])

theorem atoms_rep : ∀ {ls : List Leaf} {xs : List Atom} {vs : List Value}, atoms ls = some xs → LeavesRep σ ρ G w ls vs → Scs vs (xs.map (·.val ρ)) ∧ xs.length = ls.length
  | [], xs, vs, h, hl => by
    simp only [atoms, Option.some.injEq] at h
    simp only [LeavesRep] at hl
    subst h hl
    exact ⟨⟨rfl, by simp⟩, rfl⟩
  | l :: ls, xs, vs, h, hl => by
    cases l <;> simp only [atoms] at h <;> first | (cases h; done) | skip
    simp only [Option.map_eq_some_iff] at h
    obtain ⟨ys, h1, rfl⟩ := h
    simp only [LeavesRep] at hl
    obtain ⟨u, us, rfl, h2, h3⟩ := hl
    obtain ⟨⟨h4, h5⟩, h6⟩ := atoms_rep h1 h3
    refine ⟨⟨by simpa using h4, fun i v d hv hd => ?_⟩, by simp [h6]⟩
    cases i with
    | zero =>
      simp only [List.getElem?_cons_zero, List.map_cons, Option.some.injEq] at hv hd
      subst hv hd
      simpa [LeafRep] using h2
    | succ i =>
      simp only [List.map_cons, List.getElem?_cons_succ] at hv hd
      exact h5 i v d hv hd

/-- The outcome of a comparison, '!=' being its opposite. -/
theorem sound_cmp (hR : R E.ntmps F σ ρ a w G) (hd : DstOk E.ntmps o) {nv : Nat} {p : Prim} {xs : List Atom} {neg : Bool} {op : BinOp} {t ty : TypeId} {x y : Operand}
    (ho : o.op = .binOp op t x y ty) (hop : op = if neg then .neq else .eql) {res : OpRes}
    (h : (RdM.ret ⟨[.prim p xs 1] ++ (bif neg then [.prim .not [.v nv] 1] else []), match o.dst with | some d => [(kT d, Cont.slot none (mkS g (.v (bif neg then nv + 1 else nv))))] | none => []⟩ : RdM OpRes).eval σ = some res)
    (hs : StepsOk cf ρ g nv res.lets)
    (hv : gOn ρ g = true → ∀ d, p.run (xs.map (·.val ρ)) = some [d] → ∃ b, d = .bool b ∧ (eqGuard op t x y (a.eval x) (a.eval y)).run P w = .ok () w ∧
      (binOp op t (a.eval x) (a.eval y)).run P w = .ok (.bool (if neg then !b else b)) w) : Sound P E F σ ρ a w g o Q res.upd := by
  simp only [eval_ret, Option.some.injEq] at h
  subst h
  simp only [dst_eq]
  cases neg with
  | false =>
    simp only [cond_false, List.append_nil] at hs ⊢
    refine ⟨fun hg => ?_, fun hg => off_S hR hd hg (step1_off hs hg)⟩
    obtain ⟨d, h1, h2⟩ := step1_one hs hg
    obtain ⟨b, rfl, h3, h4⟩ := hv hg d h1
    refine sound_S hR hd hg (v := .bool b) ?_ (by rw [h2]; exact .bool _)
    unfold execOp
    simp only [ho]
    refine run_val ?_
    rw [Sem.run_bind, h3]
    exact h4
  | true =>
    simp only [cond_true] at hs ⊢
    have hs1 : StepsOk cf ρ g nv [.prim p xs 1] := ⟨hs.1, trivial⟩
    have hs2 : StepsOk cf ρ g (nv + 1) [.prim .not [.v nv] 1] := ⟨hs.2.1, trivial⟩
    refine ⟨fun hg => ?_, fun hg => off_S hR hd hg (step1_off hs2 hg)⟩
    obtain ⟨d, h1, h2⟩ := step1_one hs1 hg
    obtain ⟨e, h5, h6⟩ := step1_one hs2 hg
    obtain ⟨b, rfl, h3, h4⟩ := hv hg d h1
    simp only [List.map_cons, List.map_nil, h2, Prim.run, Option.some.injEq, List.cons.injEq, and_true] at h5
    subst h5
    refine sound_S hR hd hg (v := .bool (!b)) ?_ (by rw [h6]; exact .bool _)
    unfold execOp
    simp only [ho]
    refine run_val ?_
    rw [Sem.run_bind, h3]
    exact h4

theorem run_eqneq {neg : Bool} {op : BinOp} (hop : op = if neg then .neq else .eql) {t : TypeId} {x y : Value} {b : Bool} (h : (Op.equal t x y).run P w = .ok b w)
    (hx : ∀ k n, x ≠ .int k n) (hs : ∀ s, x ≠ .string s) (hf : ∀ k b, x ≠ .float k b) (hc : ∀ k r i, x ≠ .complex k r i) : (binOp op t x y).run P w = .ok (.bool (if neg then !b else b)) w := by
  cases neg with
  | false =>
    simp only [Bool.false_eq_true, if_false] at hop
    subst hop
    unfold binOp
    cases x <;> first
      | exact absurd rfl (hx _ _)
      | exact absurd rfl (hs _)
      | exact absurd rfl (hf _ _)
      | exact absurd rfl (hc _ _ _)
      | (cases y <;> simp [h])
  | true =>
    simp only [if_true] at hop
    subst hop
    unfold binOp
    cases x <;> first
      | exact absurd rfl (hx _ _)
      | exact absurd rfl (hs _)
      | exact absurd rfl (hf _ _)
      | exact absurd rfl (hc _ _ _)
      | (cases y <;> simp [h])

theorem eqGuard_plain {op : BinOp} {t : TypeId} {x y : Operand} {u v : Value} (h1 : u ≠ .nilIface) (h2 : (∀ c, u ≠ .agg c) ∨ P.eqGuardType P.depth t = false) : (eqGuard op t x y u v).run P w = .ok () w := by
  unfold eqGuard
  rcases h2 with h2 | h2
  · cases op <;> cases u <;> cases v <;> first | rfl | exact absurd rfl h1 | exact absurd rfl (h2 _)
  · cases op <;> cases u <;> cases v <;> first | rfl | exact absurd rfl h1 | simp [h2]

theorem bool_und {t : TypeId} {i : TI} {info : TypeInfo} {u : TypeDesc} (f : TiFacts P t i info u) (h : i.isBool = true) : u = .bool := by
  have : isBoolT u = true := by rw [← h, f.eq]; rfl
  unfold isBoolT at this
  split at this
  · rfl
  · cases this
theorem ptr_und {t : TypeId} {i : TI} {info : TypeInfo} {u : TypeDesc} (f : TiFacts P t i info u) (h : i.isPtr = true) : ∃ e, u = .pointer e := by
  have : isPtrT u = true := by rw [← h, f.eq]; rfl
  unfold isPtrT at this
  split at this
  · exact ⟨_, rfl⟩
  · cases this
theorem op_of_neg {neg : Bool} {op : BinOp} (h : op = if neg then .neq else .eql) : (bif neg then BinOp.neq else .eql) = op := by cases neg <;> simp [h]

theorem run_equal_agg {t : TypeId} {ti : TI} {info : TypeInfo} {u : TypeDesc} (f : TiFacts P t ti info u) (hcmp : ti.cmp = true) {xs ys : List Value} {dx dy : List D} {b : Bool} (hx : Scs xs dx) (hy : Scs ys dy)
    (hlx : xs.length = ti.size) (hly : ys.length = ti.size) (h : eqsD (ti.cells.map eqKind) dx dy = some b) :
    (Op.equal t (.agg xs.toArray) (.agg ys.toArray)).run P w = .ok b w ∧ P.eqGuardType P.depth t = false := by
  have hc : ti.cmp = (aggOf u && cmpOk P 12 t && !(P.eqGuardType P.depth t)) := by rw [f.eq]; rfl
  rw [hc] at hcmp
  simp only [Bool.and_eq_true, Bool.not_eq_true'] at hcmp
  obtain ⟨⟨hagg, hok⟩, hguard⟩ := hcmp
  have hfl := f.cells
  simp only [Option.map_eq_some_iff] at hfl
  obtain ⟨l, hl1, hl2⟩ := hfl
  have hlen := f.len
  rw [← hl2] at hlen h
  simp only [List.length_map] at hlen
  rw [List.map_map] at h
  have hst : ∃ fs, u = .struct fs := by
    have hu := f.und
    simp only [cmpOk, hu] at hok
    cases u <;> first | (cases hagg; done) | (cases hok; done) | exact ⟨_, rfl⟩
  obtain ⟨fs, rfl⟩ := hst
  refine ⟨?_, hguard⟩
  exact equalIn_cmp P w 12 t l hok hl1 xs ys dx dy b _ _ hx hy (by omega) (by omega) (by unfold ofCells; rw [f.und]) (by unfold ofCells; rw [f.und]) h 10000 (by omega)

theorem eqIn_bool {t : TypeId} (hu : P.underlying t = some .bool) (b c : Bool) (n : Nat) : (Op.equalIn (n + 1) t (.bool b) (.bool c)).run P w = .ok (b == c) w := by
  simp [Op.equalIn, run_underlying hu]
theorem eqIn_nil {t e : TypeId} (hu : P.underlying t = some (.slice e)) (x y p q : Nat) (n : Nat) : (Op.equalIn (n + 1) t (.slice none x y) (.slice none p q)).run P w = .ok true w := by
  simp [Op.equalIn, run_underlying hu]
theorem eqIn_some {t e : TypeId} (hu : P.underlying t = some (.slice e)) (a : Addr) (x y p q : Nat) (n : Nat) : (Op.equalIn (n + 1) t (.slice (some a) x y) (.slice none p q)).run P w = .ok false w := by
  simp [Op.equalIn, run_underlying hu]
theorem eqIn_ptr {t e : TypeId} (hu : P.underlying t = some (.pointer e)) (A : Option Addr) (n : Nat) : (Op.equalIn (n + 1) t (.pointer A) (.pointer none)).run P w = .ok A.isNone w := by
  cases A <;> simp [Op.equalIn, run_underlying hu]

theorem sound_eq (hR : R E.ntmps F σ ρ a w G) (hd : DstOk E.ntmps o) (hti : TiOk P E.ti) {nv : Nat} {neg : Bool} {op : BinOp} {t ty : TypeId} {x y : Operand}
    (ho : o.op = .binOp op t x y ty) (hop : op = if neg then .neq else .eql) {res : OpRes}
    (h : (sxEq E nv o g neg t x y).eval σ = some res) (hs : StepsOk cf ρ g nv res.lets) : Sound P E F σ ρ a w g o Q res.upd := by
  unfold sxEq at h
  simp only [eval_bind, Option.bind_eq_some_iff] at h
  obtain ⟨va, h1, vb, h2, h3⟩ := h
  split at h3
  · -- structs
    rename_i ls ms
    simp only [eval_bind, Option.bind_eq_some_iff, tiR, eval_ofOpt] at h3
    obtain ⟨ti, hi, h4⟩ := h3
    obtain ⟨info, u, f⟩ := tiOf_facts (hti.ok _ _ hi)
    split at h4
    · rename_i xs ys hxs hys
      simp only [eval_bind, Option.bind_eq_some_iff, eval_guardR] at h4
      obtain ⟨_, h5, h6⟩ := h4
      split at h5
      · rename_i hb
        simp only [Bool.and_eq_true, Nat.beq_eq] at hb
        obtain ⟨⟨hcmp, hlx⟩, hly⟩ := hb
        refine sound_cmp hR hd ho hop h6 hs fun hg d hp => ?_
        obtain ⟨vx, ex, hlx'⟩ := rdSV_rep hR hg h1
        obtain ⟨vy, ey, hly'⟩ := rdSV_rep hR hg h2
        obtain ⟨hx1, hx2⟩ := atoms_rep hxs hlx'
        obtain ⟨hy1, hy2⟩ := atoms_rep hys hly'
        have hcl : (ti.cells.map eqKind).length = xs.length := by rw [List.length_map, f.len]; omega
        simp only [Prim.run, hcl, List.map_append, List.length_map, Option.map_eq_some_iff, List.cons.injEq, and_true] at hp
        obtain ⟨b, hp, rfl⟩ := hp
        rw [List.take_left' (by simp), List.drop_left' (by simp)] at hp
        have hlx2 := hx1.1
        have hly2 := hy1.1
        simp only [List.length_map] at hlx2 hly2
        obtain ⟨h7, h8⟩ := run_equal_agg (w := w) f hcmp hx1 hy1 (by omega) (by omega) hp
        refine ⟨b, rfl, ?_, ?_⟩
        · rw [ex]; exact eqGuard_plain (by simp) (.inr h8)
        · rw [ex, ey]; exact run_eqneq hop h7 (by simp) (by simp) (by simp) (by simp)
      · cases h5
    · cases h4
  · rename_i l m
    simp only [eval_bind, Option.bind_eq_some_iff, tiR, eval_ofOpt] at h3
    obtain ⟨ti, hi, h4⟩ := h3
    obtain ⟨info, u, f⟩ := tiOf_facts (hti.ok _ _ hi)
    split at h4
    · -- plain values
      rename_i p q hp hq
      rw [eval_bif] at h4
      have hx : gOn ρ g = true → Sc (a.eval x) (p.val ρ) := fun hg => scAtom_rep hg hp (rdSV_rep hR hg h1)
      have hy : gOn ρ g = true → Sc (a.eval y) (q.val ρ) := fun hg => scAtom_rep hg hq (rdSV_rep hR hg h2)
      split at h4
      · rename_i hbool
        obtain rfl := bool_und f hbool
        refine sound_outS hR hd h4 hs fun hg d hp' => ?_
        have hx := hx hg
        have hy := hy hg
        simp only [List.map_cons, List.map_nil] at hp'
        generalize p.val ρ = pv at hx hp'
        generalize q.val ρ = qv at hy hp'
        cases pv <;> cases qv <;> simp only [Prim.run] at hp' <;> first | (cases hp'; done) | skip
        rename_i b c
        simp only [Option.some.injEq, List.cons.injEq, and_true] at hp'
        subst hp'
        refine ⟨.bool (if neg then !(b == c) else b == c), .bool _, ?_⟩
        unfold execOp
        simp only [ho, hx.bool_inv, hy.bool_inv]
        refine run_val ?_
        rw [Sem.run_bind, eqGuard_plain (by simp) (.inl (by simp))]
        have he : (Op.equal t (.bool b) (.bool c)).run P w = .ok (b == c) w := by
          unfold Op.equal Op.maxDepth
          exact eqIn_bool f.und b c 9999
        exact run_eqneq hop he (by simp) (by simp) (by simp) (by simp)
      · rw [op_of_neg hop] at h4
        exact sound_bin hR hd ho hx hy h4 hs
    · rw [eval_bif] at h4
      split at h4
      · -- a slice against nil
        rename_i hnil
        simp only [eval_bind, Option.bind_eq_some_iff, eval_guardR] at h4
        obtain ⟨_, h5, s, h6, r0, h8, h7⟩ := h4
        split at h5
        · rename_i hel
          obtain ⟨e, rfl⟩ := elem_und' f hel
          have hcore : StepsOk cf ρ g nv r0.lets → (gOn ρ g = true → ∀ z, s.x.val ρ = .rows z [] → s.nie = true) → Sound P E F σ ρ a w g o Q r0.upd := by
            intro hs hne
            refine sound_cmp hR hd ho hop h8 hs fun hg d hp => ?_
            have hsl := rdSl_rep hR h6 (rdSV_rep hR hg h1)
            simp only [List.map_cons, List.map_nil] at hp
            have hrd := hsl.rd
            have hni : ∀ z, s.x.val ρ = .rows z [] → a.eval x = .slice none 0 0 := fun z hz => hsl.nie (hne hg z hz) z hz
            generalize s.x.val ρ = sv at hp hrd hni
            cases sv <;> simp only [Prim.run] at hp <;> first | (cases hp; done) | skip
            rename_i sz rs
            simp only [Option.some.injEq, List.cons.injEq, and_true] at hp
            subst hp
            obtain ⟨A, b, n, c, vs, e1, e2, e3, e4, -⟩ := hrd.inv
            have hy : ∃ n' c', a.eval y = .slice none n' c' := by
              unfold isNilSlice at hnil
              split at hnil
              · rename_i n' c'; exact ⟨n', c', rfl⟩
              · cases hnil
            obtain ⟨n', c', hy⟩ := hy
            refine ⟨rs.isEmpty, rfl, ?_, ?_⟩
            · rw [e1]; exact eqGuard_plain (by simp) (.inl (by simp))
            · have he : (Op.equal t (a.eval x) (a.eval y)).run P w = .ok rs.isEmpty w := by
                unfold Op.equal Op.maxDepth
                cases hrs : rs with
                | nil =>
                  rw [hni sz (by rw [hrs]), hy]
                  exact eqIn_nil f.und _ _ _ _ 9999
                | cons r rs' =>
                  have : A = some b := e4.resolve_left (by rw [← e2, hrs]; simp)
                  rw [e1, hy, this]
                  exact eqIn_some f.und _ _ _ _ _ 9999
              rw [e1] at he ⊢
              exact run_eqneq hop he (by simp) (by simp) (by simp) (by simp)
          simp only [eval_ret, Option.some.injEq] at h7
          subst h7
          cases hnie : s.nie with
          | true =>
            rw [hnie] at hs
            exact hcore hs fun _ _ _ => hnie
          | false =>
            rw [hnie] at hs
            refine hcore hs.2 fun hg z hz => ?_
            obtain ⟨ds, h9, -⟩ := hs.1.1 hg
            simp only [List.map_cons, List.map_nil] at h9
            rw [hz] at h9
            simp [Prim.run] at h9
        · cases h5
      · rw [eval_bif] at h4
        split at h4
        · -- a pointer against nil
          rename_i hnil
          simp only [eval_bind, Option.bind_eq_some_iff, eval_guardR] at h4
          obtain ⟨_, h5, h6⟩ := h4
          split at h5
          · rename_i hpt
            obtain ⟨e, rfl⟩ := ptr_und f hpt
            have hy : a.eval y = .pointer none := by
              unfold isNilPtr at hnil
              split at hnil
              · rfl
              · cases hnil
            have heq : ∀ A, a.eval x = .pointer A → (Op.equal t (a.eval x) (a.eval y)).run P w = .ok A.isNone w := by
              intro A hA
              unfold Op.equal Op.maxDepth
              rw [hA, hy]
              exact eqIn_ptr f.und A 9999
            have hrun : ∀ A, a.eval x = .pointer A → (eqGuard op t x y (a.eval x) (a.eval y)).run P w = .ok () w ∧ (binOp op t (a.eval x) (a.eval y)).run P w = .ok (.bool (if neg then !A.isNone else A.isNone)) w := by
              intro A hA
              refine ⟨by rw [hA]; exact eqGuard_plain (by simp) (.inl (by simp)), ?_⟩
              have := heq A hA
              rw [hA] at this ⊢
              exact run_eqneq hop this (by simp) (by simp) (by simp) (by simp)
            have hconst : ∀ (c : Bool) (nvx : Nat), (outS o g nv .id [.c (.bool c)]).eval σ = some res → (gOn ρ g = true → ∃ A, a.eval x = .pointer A ∧ c = (if neg then !A.isNone else A.isNone)) → Sound P E F σ ρ a w g o Q res.upd := by
              intro c _ h7 hc
              refine sound_outS hR hd h7 hs fun hg d hp => ?_
              simp only [List.map_cons, List.map_nil, Atom.val, Prim.run, Option.some.injEq, List.cons.injEq, and_true] at hp
              subst hp
              obtain ⟨A, hA, rfl⟩ := hc hg
              refine ⟨_, .bool _, ?_⟩
              unfold execOp
              simp only [ho]
              refine run_val ?_
              rw [Sem.run_bind, (hrun A hA).1]
              exact (hrun A hA).2
            split at h6
            · rename_i deps sz z
              simp only [eval_bind, Option.bind_eq_some_iff] at h6
              obtain ⟨ds, h7, h8⟩ := h6
              refine sound_cmp hR hd ho hop h8 hs fun hg d hp => ?_
              have hl := rdSV_rep hR hg h1
              simp only [SVRep, LeafRep] at hl
              simp only [List.map_cons, List.map_nil] at hp
              rcases hl.2 (rdDeps_rep h7).1 with ⟨e1, z', e2⟩ | ⟨b, row, e1, e2, -⟩
              · rw [e2] at hp
                simp only [Prim.run, List.isEmpty_nil, Option.some.injEq, List.cons.injEq, and_true] at hp
                exact ⟨true, hp.symm, hrun none e1⟩
              · rw [e2] at hp
                simp only [Prim.run, List.isEmpty_cons, Option.some.injEq, List.cons.injEq, and_true] at hp
                exact ⟨false, hp.symm, hrun (some b) e1⟩
            · refine hconst _ 0 h6 fun hg => ?_
              have hl := rdSV_rep hR hg h1
              simp only [SVRep, LeafRep] at hl
              exact ⟨none, hl, by cases neg <;> rfl⟩
            · refine hconst _ 0 h6 fun hg => ?_
              have hl := rdSV_rep hR hg h1
              simp only [SVRep, LeafRep] at hl
              exact ⟨_, hl.1, by cases neg <;> rfl⟩
            · refine hconst _ 0 h6 fun hg => ?_
              have hl := rdSV_rep hR hg h1
              simp only [SVRep, LeafRep] at hl
              obtain ⟨_, _, _, _, _, _, _, _, _, e⟩ := hl
              exact ⟨_, e, by cases neg <;> rfl⟩
            · cases h6
          · cases h5
        · cases h4
  · cases h3

end
end Go.Proofs.Ytacfmplofkjonaa.Rf

/- Conversions, slicing, reading from memory. -/
namespace Go.Proofs.Ytacfmplofkjonaa.Rf
set_option linter.unusedVariables false
set_option linter.unusedSimpArgs false

section
variable {P : Program} {E : Env} {F : Frame0} {σ : Nat → Option Cont} {ρ : List D} {a : Act} {w w' : World} {G : Gh} {g : Option (Atom × Bool)} {o : Oper} {cf : Nat → List D → Option (List D)} {Q : Exit → Act → World → Prop} {next : Act → World → Prop}

/-! ### Reading a variable -/
theorem run_loadVar_list {t : TypeId} {i : TI} {info : TypeInfo} {u : TypeDesc} (f : TiFacts P t i info u) (b : Addr) (cs : List Value) (hl : cs.length = i.size)
    (h : ∀ j v, cs[j]? = some v → w.cell? (b.add j) = some v) {v : Value} (hv : if i.agg = true then v = .agg cs.toArray else cs = [v]) : (loadVar t b).run P w = .ok v w := by
  unfold loadVar
  rw [Sem.run_bind, f.isAgg]
  simp only [Result.andThen_ok]
  split at hv
  · rename_i hagg
    rw [if_pos hagg, Sem.run_bind, f.sizeOf]
    simp only [Result.andThen_ok]
    rw [Sem.run_bind, ← hl, run_loadCells_list w b cs h]
    simp only [Result.andThen_ok, Sem.run_pure, hv]
  · rename_i hagg
    rw [if_neg hagg, run_load]
    have := h 0 v (by rw [hv]; rfl)
    simp only [Addr.add, if_true] at this
    rw [this]

theorem leaves_of_cells (b : Addr) : ∀ (ls : List Leaf) (k : Nat), (∀ j l, ls[j]? = some l → ∃ v, w.cell? (b.add (k + j)) = some v ∧ LeafRep σ ρ G w l v) →
    ∃ vs, LeavesRep σ ρ G w ls vs ∧ ∀ j v, vs[j]? = some v → w.cell? (b.add (k + j)) = some v
  | [], k, _ => ⟨[], by simp [LeavesRep], by simp⟩
  | l :: ls, k, h => by
    obtain ⟨u, h1, h2⟩ := h 0 l rfl
    obtain ⟨us, h3, h4⟩ := leaves_of_cells b ls (k + 1) fun j l' hj => by
      have := h (j + 1) l' (by simpa using hj)
      rwa [show k + 1 + j = k + (j + 1) by omega]
    refine ⟨u :: us, by simp only [LeavesRep]; exact ⟨u, us, rfl, h2, h3⟩, fun j v hj => ?_⟩
    cases j with
    | zero =>
      simp only [List.getElem?_cons_zero, Option.some.injEq] at hj
      exact hj ▸ h1
    | succ j =>
      have := h4 j v (by simpa using hj)
      rwa [show k + (j + 1) = k + 1 + j by omega]

theorem Nest.snoc {own : Nat → Ow} {r k : Nat} {c : Addr} {n m : Nat} {u' : Value} : ∀ (p q : List Nat) (v : Value), Nest own w r q v p (.slice (some c) n m) → own c.block = .slc r (q ++ p) → w.cell? (c.add k) = some u' → Nest own w r q v (p ++ [k]) u'
  | [], q, v, h, ho, hc => by
    simp only [Nest] at h
    simp only [List.nil_append, Nest]
    exact ⟨c, n, m, u', h.symm, by simpa using ho, hc, rfl⟩
  | j :: p, q, v, h, ho, hc => by
    obtain ⟨a', n', c', u1, rfl, h1, h2, h3⟩ := h
    simp only [List.cons_append, Nest]
    exact ⟨a', n', c', u1, rfl, h1, h2, Nest.snoc p (q ++ [j]) u1 h3 (by simpa using ho) hc⟩

theorem Rd.sc_inv {ok : Nat → Prop} {v : Value} {d : D} (h : Rd ok w v d) (hd : d.isSc = true) : Sc v d := by
  cases h with
  | sc h => exact h
  | hole => simp [D.isSc] at hd
  | rows => simp [D.isSc] at hd
theorem Rp.zero {own : Nat → Ow} {r : Nat} {p : List Nat} {v : Value} {d : D} (h : Rp own w r p 0 v d) : Rd (fun b => own b = .frz) w v d := by
  generalize hm : 0 = m at h
  cases h with
  | sc h => exact .sc h
  | hole _ h1 => exact .hole _ h1
  | fz h => exact h
  | sl => omega

/-- A cell of a slice's row. -/
theorem child_rep {s : SlR} {c : Addr} {n cap : Nat} (h : SlRep σ ρ G w s (.slice (some c) n cap)) {sz : Nat} {rs : List (List D)} (hx : s.x.val ρ = .rows sz rs) {i : Atom} {k : IntKind} {iv : Int} (hi : i.val ρ = .int k iv)
    {row : List D} (hr : rs[iv.toNat]? = some row) {off : Nat} {d : D} (hd : row[off]? = some d) (ck : CK) (hk : isScK ck = true → d.isSc = true) {y : Atom} (hy : y.val ρ = d) :
    ∃ v, w.cell? (c.add (iv.toNat * sz + off)) = some v ∧ LeafRep σ ρ G w (childLeaf s i sz off ck y) v := by
  have hrd := h.rd
  rw [hx] at hrd
  obtain ⟨A, c', n', cap', vs, e1, e2, e3, e4, e5, e6, e7⟩ := hrd.inv
  obtain ⟨rfl, rfl, rfl⟩ : some c = A ∧ n = n' ∧ cap = cap' := by injection e1 with a b c; exact ⟨a, b, c⟩
  have hlt : iv.toNat < rs.length := by
    rcases Nat.lt_or_ge iv.toNat rs.length with h | h
    · exact h
    · rw [List.getElem?_eq_none h] at hr; cases hr
  have hc : c = c' := by
    rcases e4 with e4 | e4
    · omega
    · exact Option.some.inj e4
  subst hc
  obtain ⟨-, hcell⟩ := e6 _ _ hr _ _ hd
  have hrec := e7 _ _ hr _ _ hd
  refine ⟨_, hcell, ?_⟩
  cases ck with
  | sc z =>
    simp only [childLeaf, LeafRep]
    rw [hy]
    exact hrec.sc_inv (hk rfl)
  | pn => simpa only [childLeaf, LeafRep] using hrec.one
  | ot => simpa only [childLeaf, LeafRep] using hrec.one
  | sl z =>
    have hex : ∀ z ∈ s.deps, knownR σ z.1 z.2 := fun z hz => by
      obtain ⟨m, hl⟩ := h.live z hz
      exact hl.valid.known
    have hdef : LeafRep σ ρ G w (.sn s.deps .no false y) (vs iv.toNat off) := by
      simp only [LeafRep]
      exact ⟨⟨hrec.one, hex⟩, fun _ => ⟨by rw [hy]; exact hrec, by simp, trivial⟩⟩
    simp only [childLeaf]
    have hown := h.own
    unfold OwnRep at hown
    split
    · rename_i r k' m p ho
      rw [ho] at hown
      obtain ⟨h1, h2, h3, h4, h5⟩ := hown
      rw [hx] at h4
      -- the parent's depth
      cases hm : m - p.length with
      | zero =>
        have : Nat.ble (p.length + 2) m = false := by
          cases hb : Nat.ble (p.length + 2) m with
          | false => rfl
          | true => simp only [Nat.ble_eq] at hb; omega
        rw [this, cond_false]
        rw [hm] at h4
        obtain ⟨A', c'', n'', cap'', vs', e1', e2', e3', e4', e5', e6', e7'⟩ := h4.zero.inv
        obtain ⟨rfl, rfl, rfl⟩ : some c = A' ∧ n = n'' ∧ cap = cap'' := by injection e1' with a b c; exact ⟨a, b, c⟩
        have hc : c = c'' := by
          rcases e4' with e4' | e4'
          · omega
          · exact Option.some.inj e4'
        subst hc
        obtain ⟨-, hcell'⟩ := e6' _ _ hr _ _ hd
        rw [hcell] at hcell'
        simp only [LeafRep]
        refine ⟨⟨hrec.one, by simp⟩, fun _ => ⟨?_, by simp, trivial⟩⟩
        rw [hy, Option.some.inj hcell']
        exact (e7' _ _ hr _ _ hd).mono fun b hb => ⟨.inl hb, rfl⟩
      | succ m' =>
        rw [hm] at h4
        cases h4 with
        | sc h => cases h
        | sl A' c'' n'' cap'' _ _ vs' e2' e3' e4' e5' e6' e7' e8' =>
          have hc : c = c'' := by
            rcases e4' with e4' | ⟨e4', -⟩
            · exact Option.some.inj e4'
            · cases e4'
          subst hc
          obtain ⟨-, hob, -⟩ := e6' rfl
          have hcell' := e7' _ _ hr _ _ hd
          have hrec' := e8' _ _ hr _ _ hd
          rw [hcell] at hcell'
          rw [← Option.some.inj hcell'] at hrec'
          cases hb : Nat.ble (p.length + 2) m with
          | false =>
            rw [cond_false]
            have : m' = 0 := by
              have : ¬ p.length + 2 ≤ m := by rw [← Nat.ble_eq, hb]; simp
              omega
            subst this
            simp only [LeafRep]
            refine ⟨⟨hrec.one, by simp⟩, fun _ => ⟨?_, by simp, trivial⟩⟩
            rw [hy]
            exact hrec'.zero.mono fun b hb => ⟨.inl hb, rfl⟩
          | true =>
            rw [cond_true]
            simp only [Nat.ble_eq] at hb
            have hpv : pathVal ρ (p ++ [(i, sz, off)]) = pathVal ρ p ++ [iv.toNat * sz + off] := by
              simp [pathVal, idxVal, hi]
            simp only [LeafRep]
            refine ⟨⟨hrec.one, fun z hz => ?_⟩, fun _ => ⟨?_, by simp, ?_⟩⟩
            · simp only [List.mem_singleton] at hz
              subst hz
              exact h2.valid.known
            · rw [hy]
              rw [h1] at hrec
              exact hrec
            · simp only [PthRep]
              intro r2 k2 m2 e2 hl2
              obtain ⟨rfl, rfl⟩ : r = r2 ∧ k' = k2 := by simpa using e2
              obtain ⟨x1, ex1⟩ := h2
              obtain ⟨x2, ex2⟩ := hl2
              rw [ex1] at ex2
              obtain rfl : m = m2 := by injection ex2 with ex2; injection ex2
              refine ⟨by simp; omega, ?_, ?_⟩
              · rw [hpv, hy, show m - (p ++ [(i, sz, off)]).length = m' by simp; omega]
                exact hrec'
              · rw [hpv]
                exact h5.snoc _ _ _ (by simpa using hob) hcell
    · exact hdef

theorem kindsOk_get : ∀ {ks : List Bool} {ds : List D}, kindsOk ks ds = true → ∀ (j : Nat) (d : D), ks[j]? = some true → ds[j]? = some d → d.isSc = true
  | [], ds, _, j, d, hk, _ => by simp at hk
  | k :: ks, [], h, j, d, hk, hd => by simp at hd
  | k :: ks, e :: ds, h, j, d, hk, hd => by
    simp only [kindsOk, Bool.and_eq_true, Bool.or_eq_true, Bool.not_eq_true'] at h
    cases j with
    | zero =>
      simp only [List.getElem?_cons_zero, Option.some.injEq] at hk hd
      subst hk hd
      simpa using h.1
    | succ j => exact kindsOk_get h.2 j d (by simpa using hk) (by simpa using hd)

theorem run_loadAt {t : TypeId} {b : Addr} {v : Value} (h : (loadVar t b).run P w = .ok v w) : (Instr.loadAt t (.pointer (some b))).run P w = .ok v w := by
  simp only [Instr.loadAt, Instr.sureAddr, Sem.run_bind, Sem.run_pure, Result.andThen_ok, h]

theorem childLeaves_get (s : SlR) (i : Atom) (sz : Nat) : ∀ (cs : List CK) (off y j : Nat) (l : Leaf), (childLeaves s i sz off cs y)[j]? = some l → ∃ c, cs[j]? = some c ∧ l = childLeaf s i sz (off + j) c (.v (y + j))
  | [], off, y, j, l, h => by simp [childLeaves] at h
  | c :: cs, off, y, j, l, h => by
    simp only [childLeaves] at h
    cases j with
    | zero =>
      simp only [List.getElem?_cons_zero, Option.some.injEq] at h
      exact ⟨c, rfl, h.symm⟩
    | succ j =>
      obtain ⟨c', h1, h2⟩ := childLeaves_get s i sz cs (off + 1) (y + 1) j l (by simpa using h)
      exact ⟨c', by simpa using h1, by rw [h2]; congr 1 <;> first | omega | (congr 1; omega)⟩
theorem childLeaves_len (s : SlR) (i : Atom) (sz : Nat) : ∀ (cs : List CK) (off y : Nat), (childLeaves s i sz off cs y).length = cs.length
  | [], _, _ => rfl
  | c :: cs, off, y => by simp [childLeaves, childLeaves_len s i sz cs (off + 1) (y + 1)]

theorem svOf_shape {agg : Bool} {ls : List Leaf} {sv : SV} (h : svOf agg ls = some sv) {vs : List Value} (hl : vs.length = ls.length) : ∃ v, if agg = true then v = .agg vs.toArray else vs = [v] := by
  cases agg with
  | true => exact ⟨_, rfl⟩
  | false =>
    simp only [svOf, cond_false] at h
    split at h
    · match vs, hl with
      | [v], _ => exact ⟨v, rfl⟩
    · cases h

theorem row_run {sz off : Nat} {ks : List Bool} {x i : D} {ds : List D} (h : (Prim.row sz off ks).run [x, i] = some ds) :
    ∃ rs k iv row, x = .rows sz rs ∧ i = .int k iv ∧ 0 ≤ iv ∧ rs[iv.toNat]? = some row ∧ off + ks.length ≤ row.length ∧ kindsOk ks (row.drop off) = true ∧ ds = (row.drop off).take ks.length := by
  cases x <;> cases i <;> simp only [Prim.run] at h <;> first | cases h | skip
  rename_i sz' rs k iv
  split at h
  · rename_i h1
    obtain ⟨rfl, h1⟩ := h1
    split at h
    · rename_i row hr
      split at h
      · rename_i h2
        simp only [Option.some.injEq] at h
        exact ⟨rs, k, iv, row, rfl, rfl, h1, hr, h2.1, h2.2, h.symm⟩
      · cases h
    · cases h
  · cases h

theorem sound_load (hR : R E.ntmps F σ ρ a w G) (hd : DstOk E.ntmps o) (hti : TiOk P E.ti) {nv : Nat} {t : TypeId} {x : Operand} (ho : o.op = .load t x) {ti : TI}
    (hi : E.ti t = some ti) {p : Leaf} (hp : gOn ρ g = true → LeafRep σ ρ G w p (a.eval x)) {res : OpRes}
    (h : (sxLoad nv o g ti p).eval σ = some res) (hs : StepsOk cf ρ g nv res.lets) : Sound P E F σ ρ a w g o Q res.upd := by
  obtain ⟨info, u, f⟩ := tiOf_facts (hti.ok _ _ hi)
  have hex : ∀ {v : Value}, (Instr.loadAt t (a.eval x)).run P w = .ok v w → (execOp a.eval o).run P w = .ok (.value v) w := by
    intro v hv
    unfold execOp
    simp only [ho]
    exact run_val hv
  unfold sxLoad at h
  split at h
  · rename_i b off
    simp only [eval_bind, eval_rdK, Option.bind_some] at h
    split at h
    · rename_i ro bs hk
      simp only [eval_bind, Option.bind_eq_some_iff, eval_guardR] at h
      obtain ⟨_, hgd, h⟩ := h
      split at hgd
      · rename_i hle
        simp only [Nat.ble_eq] at hle
        split at h
        · rename_i sv hsv
          refine sound_outC hR hd h hs fun hg => ?_
          have hl := hp hg
          simp only [LeafRep] at hl
          obtain ⟨h1, h2, h3⟩ := hR.box hk
          obtain ⟨vs, h4, h5⟩ := leaves_of_cells (σ := σ) (ρ := ρ) (G := G) (w := w) ((G.bx b).add off) ((bs.drop off).take ti.size) 0 fun j l hj => by
            rw [List.getElem?_take] at hj
            split at hj
            · rw [List.getElem?_drop] at hj
              obtain ⟨v, h6, -, h7⟩ := h3 _ _ hj
              refine ⟨v, ?_, h7⟩
              rw [Nat.zero_add, add_add]
              exact h6
            · cases hj
          have hlen : vs.length = ti.size := by
            rw [h4.len]
            simp
            omega
          obtain ⟨v, hv⟩ := svOf_shape hsv h4.len
          refine ⟨v, svOf_rep hsv h4 hv, hex ?_⟩
          rw [hl.1]
          exact run_loadAt (run_loadVar_list f _ vs hlen (fun j v hj => by simpa using h5 j v hj) hv)
        · cases h
      · cases hgd
    · cases h
  · rename_i l sz i off
    simp only [eval_bind, Option.bind_eq_some_iff] at h
    obtain ⟨s, hsl, h⟩ := h
    -- what is read
    have main : ∀ (ks : List Bool) (ds : List D), (∀ (j : Nat) (c : CK), ti.cells[j]? = some c → isScK c = true → ks[j]? = some true) → ks.length = ti.cells.length → gOn ρ g = true →
        (Prim.row sz off ks).run [s.x.val ρ, i.val ρ] = some ds → (∀ j d, ds[j]? = some d → (Atom.v (nv + j)).val ρ = d) →
        ∃ vs, LeavesRep σ ρ G w (childLeaves s i sz off ti.cells nv) vs ∧ vs.length = ti.size ∧ ∃ b, a.eval x = .pointer (some b) ∧ ∀ j v, vs[j]? = some v → w.cell? (b.add j) = some v := by
      intro ks ds hks hkl hg hrun hat
      have hl := hp hg
      simp only [LeafRep] at hl
      obtain ⟨b, n, c, k, iv, h1, h2, h3, h4, h5⟩ := hl
      have hslr := rdSl_rep hR hsl h1
      obtain ⟨rs, k', iv', row, e1, e2, e3, e4, e5, e6, rfl⟩ := row_run hrun
      rw [h2] at e2
      obtain ⟨rfl, rfl⟩ : k = k' ∧ iv = iv' := by injection e2 with a b; exact ⟨a, b⟩
      obtain ⟨vs, h6, h7⟩ := leaves_of_cells (σ := σ) (ρ := ρ) (G := G) (w := w) (b.add (iv.toNat * sz + off)) (childLeaves s i sz off ti.cells nv) 0 fun j l' hj => by
        obtain ⟨c', hc', rfl⟩ := childLeaves_get _ _ _ _ _ _ _ _ hj
        have hjl : j < ti.cells.length := (List.getElem?_eq_some_iff.1 hc').1
        have hrow : row[off + j]? = some row[off + j] := List.getElem?_eq_getElem (by omega)
        obtain ⟨v, hv1, hv2⟩ := child_rep hslr e1 h2 e4 (off := off + j) (d := row[off + j]) hrow c' (fun hsc => kindsOk_get e6 j _ (hks j c' hc' hsc) (by rw [List.getElem?_drop]; exact hrow)) (y := .v (nv + j))
          (hat j _ (by rw [List.getElem?_take, if_pos (by omega), List.getElem?_drop]; exact hrow))
        refine ⟨v, ?_, hv2⟩
        rw [add_add, Nat.zero_add, Nat.add_assoc]
        exact hv1
      exact ⟨vs, h6, by rw [h6.len, childLeaves_len, f.len], _, h5, fun j v hj => by simpa using h7 j v hj⟩
    split at h
    · rename_i x' hsv
      -- one plain cell
      have hx' : x' = .v nv ∧ ti.agg = false ∧ ∃ z, ti.cells = [.sc z] := by
        unfold svOf at hsv
        cases hagg : ti.agg with
        | true => rw [hagg] at hsv; simp at hsv
        | false =>
          rw [hagg] at hsv
          simp only [cond_false] at hsv
          cases hc : ti.cells with
          | nil => rw [hc] at hsv; simp [childLeaves] at hsv
          | cons c cs =>
            cases cs with
            | nil =>
              rw [hc] at hsv
              simp only [childLeaves, Option.some.injEq, SV.one.injEq] at hsv
              cases c with
              | sc z => simp only [childLeaf, Leaf.sc.injEq] at hsv; exact ⟨hsv.symm, rfl, z, rfl⟩
              | sl z =>
                simp only [childLeaf] at hsv
                split at hsv
                · cases hb : Nat.ble _ _ <;> (rw [hb] at hsv; cases hsv)
                · cases hsv
              | pn => simp [childLeaf] at hsv
              | ot => simp [childLeaf] at hsv
            | cons c' cs' => rw [hc] at hsv; simp [childLeaves] at hsv
      obtain ⟨rfl, hagg, z, hcs⟩ := hx'
      have hst : StepsOk cf ρ g nv [.prim (.row sz off [true]) [s.x, i] 1] := by
        simp only [outS, eval_ret, Option.some.injEq] at h
        subst h
        exact hs
      refine sound_outS hR hd h hs fun hg d hpr => ?_
      obtain ⟨d', h1, h2⟩ := step1_one hst hg
      simp only [List.map_cons, List.map_nil] at hpr h1
      obtain ⟨vs, h3, h4, b, h5, h6⟩ := main [true] [d'] (fun j c hc _ => by
        rw [hcs] at hc
        cases j with
        | zero => rfl
        | succ j => simp at hc) (by rw [hcs]; rfl) hg h1 (fun j d hj => by
          cases j with
          | zero => simp only [List.getElem?_cons_zero, Option.some.injEq] at hj; rw [← hj]; exact h2
          | succ j => simp at hj)
      obtain ⟨v, hv⟩ := svOf_shape hsv h3.len
      have h7 := svOf_rep hsv h3 hv
      simp only [SVRep, LeafRep] at h7
      refine ⟨v, ?_, hex ?_⟩
      · rw [h2] at h7
        rw [h1] at hpr
        simp only [Option.some.injEq, List.cons.injEq, and_true] at hpr
        exact hpr ▸ h7
      · rw [h5]
        exact run_loadAt (run_loadVar_list f b vs h4 h6 hv)
    · rename_i sv _ hsv
      refine sound_out1 hR hd h hs fun hg hst => ?_
      obtain ⟨ds, h1, h2, h3⟩ := step1 hst hg
      simp only [List.map_cons, List.map_nil] at h1
      obtain ⟨vs, h4, h5, b, h6, h7⟩ := main _ ds (fun j c hc hsc => by rw [List.getElem?_map, hc]; simp [hsc]) (by simp) hg h1 h3
      obtain ⟨v, hv⟩ := svOf_shape hsv h4.len
      refine ⟨v, svOf_rep hsv h4 hv, hex ?_⟩
      rw [h6]
      exact run_loadAt (run_loadVar_list f b vs h5 h7 hv)
    · cases h
  · cases h
end
end Go.Proofs.Ytacfmplofkjonaa.Rf
