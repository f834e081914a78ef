/- Terms for the program's functions, and that they are right: part 3 of 9. -/
import Derived.Test.YtacfmplofkjonaaRf2
import Derived.Laws.IdiomCopy
set_option linter.unusedSimpArgs false
set_option linter.unusedVariables false
set_option linter.unnecessarySimpa false
set_option linter.unusedSectionVars false
/- Conversions to text; slicing. -/
namespace Go.Proofs.Ytacfmplofkjonaa.Rf
set_option linter.unusedVariables false
set_option linter.unusedSimpArgs false

section
variable {P : Program} {E : Env} {F : Frame0} {σ : Nat → Option Cont} {ρ : List D} {a : Act} {w w' : World} {G : Gh} {g : Option (Atom × Bool)} {o : Oper} {cf : Nat → List D → Option (List D)} {Q : Exit → Act → World → Prop} {next : Act → World → Prop}

/-! ### Bytes to text -/
theorem bytesOf_get : ∀ {rs : List (List D)} {l : List UInt8}, bytesOf rs = some l → ∃ ns : List Int, rs = ns.map (fun n => [D.int .u8 n]) ∧ l = ns.map fun n => UInt8.ofNat n.toNat
  | [], l, h => by
    simp only [bytesOf, Option.some.injEq] at h
    exact ⟨[], rfl, h.symm⟩
  | r :: rs, l, h => by
    unfold bytesOf at h
    split at h
    · rename_i hh; cases hh
    · rename_i n r' hh
      obtain ⟨rfl, rfl⟩ := List.cons.inj hh
      simp only [Option.map_eq_some_iff] at h
      obtain ⟨l', h1, rfl⟩ := h
      obtain ⟨ns, rfl, rfl⟩ := bytesOf_get h1
      exact ⟨n :: ns, rfl, rfl⟩
    · cases h

theorem sound_bstr (hR : R E.ntmps F σ ρ a w G) (hd : DstOk E.ntmps o) (hti : TiOk P E.ti) {nv : Nat} {src dst : TypeId} {x : Operand} (ho : o.op = .convert src dst x) {res : OpRes} {s d ei : TI} {e : Nat}
    (hs1 : E.ti src = some s) (he : s.elem = some e) (hei : E.ti e = some ei) (hk : isU8 ei.ik = true) (hd1 : E.ti dst = some d) (hdS : d.isStr = true)
    {l : Leaf} {r : SlR} (h1 : (rdL E g src x).eval σ = some l) (h2 : (rdSl l).eval σ = some r)
    (h : (outS o g nv .bstr [r.x]).eval σ = some res) (hs : StepsOk cf ρ g nv res.lets) : Sound P E F σ ρ a w g o Q res.upd := by
  refine sound_outS hR hd h hs fun hg z hp => ?_
  obtain ⟨i1, u1, f1⟩ := tiOf_facts (hti.ok _ _ hs1)
  obtain ⟨i2, u2, f2⟩ := tiOf_facts (hti.ok _ _ hd1)
  obtain ⟨i3, u3, f3⟩ := tiOf_facts (hti.ok _ _ hei)
  obtain rfl := elem_und f1 he
  obtain rfl := str_und f2 hdS
  have e3 : u3 = .int .u8 := by
    unfold isU8 at hk
    split at hk
    · rename_i k hk'
      simp only [beqK, decide_eq_true_eq] at hk
      have := f3.ik.symm.trans hk'
      unfold ikOf at this
      split at this
      · rw [Option.some.inj this, hk]
      · cases this
    · cases hk
  subst e3
  have hl := (rdSl_rep hR h2 (rdL_rep hR hg h1)).rd
  simp only [List.map_cons, List.map_nil] at hp
  generalize r.x.val ρ = xv at hp hl
  cases xv <;> simp only [Prim.run] at hp <;> first | cases hp | skip
  rename_i sz rs
  simp only [Option.map_eq_some_iff, List.cons.injEq, and_true] at hp
  obtain ⟨bs, hb, rfl⟩ := hp
  obtain ⟨ns, rfl, rfl⟩ := bytesOf_get hb
  obtain ⟨A, b, n, c, vs, e1, e2, e3, e4, e5, e6, e7⟩ := hl.inv
  refine ⟨_, .str _, ?_⟩
  unfold execOp
  simp only [ho]
  refine run_val ?_
  rw [e1, run_convert_bytes_string w src dst e A n c f1.und f3.und f2.und]
  cases A with
  | none =>
    have : n = 0 := by
      rcases e4 with e4 | e4
      · exact e4
      · cases e4
    subst this
    simp only [List.length_map] at e2
    obtain rfl := List.eq_nil_of_length_eq_zero e2
    simp [Conv.bytesToString]
    rfl
  | some b' =>
    have hload : (loadCells b' n).run P w = .ok (ns.map (Value.int .u8)).toArray w := by
      simp only [List.length_map] at e2
      have := run_loadCells_list (P := P) w b' (ns.map (Value.int .u8)) (fun j v hj => by
        simp only [List.getElem?_map, Option.map_eq_some_iff] at hj
        obtain ⟨m, hm, rfl⟩ := hj
        have hr : (ns.map fun n => [D.int .u8 n])[j]? = some [D.int .u8 m] := by rw [List.getElem?_map, hm]; rfl
        have h9 := e6 j _ hr 0 _ rfl
        have h10 := (e7 j _ hr 0 _ rfl).sc_inv rfl
        have hsz : sz = 1 := by
          have := e5 _ (List.mem_of_getElem? hr)
          simpa using this.symm
        have hj' : j < ns.length := (List.getElem?_eq_some_iff.1 hm).1
        have hb' : b' = b := by
          rcases e4 with e4 | e4
          · omega
          · exact Option.some.inj e4
        subst hb' hsz
        rw [h10.int_inv] at h9
        simpa using h9.2)
      simpa [e2] using this
    rw [run_bytesToString w b' n c ns hload, foldl_push_bytes]
    simp [ByteArray.empty, ByteArray.emptyWithCapacity]
    rfl

theorem sound_strstr (hR : R E.ntmps F σ ρ a w G) (hd : DstOk E.ntmps o) (hti : TiOk P E.ti) {nv : Nat} {src dst : TypeId} {x : Operand} (ho : o.op = .convert src dst x) {res : OpRes} {s d : TI}
    (hs1 : E.ti src = some s) (hsS : s.isStr = true) (hd1 : E.ti dst = some d) (hdS : d.isStr = true) {x' : Atom} (h1 : (rdA E g src x).eval σ = some x')
    (h : (outS o g nv .sid [x']).eval σ = some res) (hs : StepsOk cf ρ g nv res.lets) : Sound P E F σ ρ a w g o Q res.upd := by
  refine sound_outS hR hd h hs fun hg z hp => ?_
  obtain ⟨i1, u1, f1⟩ := tiOf_facts (hti.ok _ _ hs1)
  obtain ⟨i2, u2, f2⟩ := tiOf_facts (hti.ok _ _ hd1)
  obtain rfl := str_und f1 hsS
  obtain rfl := str_und f2 hdS
  have hl := rdA_rep hR hg h1
  simp only [List.map_cons, List.map_nil] at hp
  generalize x'.val ρ = xv at hp hl
  cases xv <;> simp only [Prim.run] at hp <;> first | cases hp | skip
  refine ⟨_, .str _, ?_⟩
  unfold execOp
  simp only [ho, hl.str_inv]
  refine run_val ?_
  simp only [convert, Sem.run_bind, run_underlying f1.und, run_underlying f2.und, Result.andThen_ok]
  rfl

/-! ### Slicing -/
theorem run_bounds {is : Bool} {len cap : Nat} {lo hi : Option Value} {kl kh : IntKind} {l h : Int} (hlo : (lo = none ∧ l = 0) ∨ lo = some (.int kl l)) (hhi : (hi = none ∧ h = len) ∨ (hi = some (.int kh h) ∧ h ≤ cap)) (h0 : 0 ≤ l) (h1 : l ≤ h) :
    (Instr.sliceBounds is len cap lo hi none).run P w = .ok (l.toNat, h.toNat, cap) w := by
  rcases hhi with ⟨rfl, rfl⟩ | ⟨rfl, hc⟩ <;> rcases hlo with ⟨rfl, rfl⟩ | rfl
  · simp [Instr.sliceBounds]
  · have e2 : 0 ≤ l ∧ l ≤ (len : Int) := ⟨h0, by omega⟩
    simp [Instr.sliceBounds, Instr.sliceBound, asIntOf, e2]
  · have e1 : 0 ≤ h ∧ h ≤ (cap : Int) := ⟨by omega, hc⟩
    simp [Instr.sliceBounds, Instr.sliceBound, asIntOf, e1]
  · have e1 : 0 ≤ h ∧ h ≤ (cap : Int) := ⟨by omega, hc⟩
    have e2 : 0 ≤ l ∧ l ≤ (h.toNat : Int) := ⟨h0, by omega⟩
    have e3 : 0 ≤ l ∧ l ≤ max h 0 := ⟨h0, by omega⟩
    simp [Instr.sliceBounds, Instr.sliceBound, asIntOf, e1, e2, e3]

theorem viewOf_own {ei : TI} {lo fl : Bool} {s : SlR} {p : Pth} (h : viewOf ei lo s = (p, fl)) : (p = .no) ∨
    (p = .view ∧ ∃ r k m q, s.own = some (r, k, m, q) ∧ (q = .path [] ∨ q = .view) ∧ (m = 1 ∨ lo = false ∨ fl = true)) := by
  unfold viewOf at h
  have one : ∀ m : Nat, (bif Nat.beq m 1 || !lo then (Pth.view, false) else bif nosc ei.cells then (Pth.view, true) else (Pth.no, false)) = (p, fl) → p = .no ∨ (p = .view ∧ (m = 1 ∨ lo = false ∨ fl = true)) := by
    intro m h
    cases hb : (Nat.beq m 1 || !lo) with
    | true =>
      rw [hb] at h
      simp only [cond_true, Prod.mk.injEq] at h
      simp only [Bool.or_eq_true, Nat.beq_eq, Bool.not_eq_true'] at hb
      exact .inr ⟨h.1.symm, hb.imp id .inl⟩
    | false =>
      rw [hb] at h
      cases hn : nosc ei.cells with
      | true =>
        rw [hn] at h
        simp only [cond_false, cond_true, Prod.mk.injEq] at h
        exact .inr ⟨h.1.symm, .inr (.inr h.2.symm)⟩
      | false =>
        rw [hn] at h
        simp only [cond_false, Prod.mk.injEq] at h
        exact .inl h.1.symm
  split at h
  · rename_i r k m ho
    exact (one _ h).imp id fun ⟨h1, h2⟩ => ⟨h1, _, _, _, _, ho, .inl rfl, h2⟩
  · rename_i r k m ho
    exact (one _ h).imp id fun ⟨h1, h2⟩ => ⟨h1, _, _, _, _, ho, .inr rfl, h2⟩
  · simp only [Prod.mk.injEq] at h
    exact .inl h.1.symm

theorem sub_run {sz : Nat} {fl : Bool} {x i j : D} {ds : List D} (h : (Prim.sub sz fl).run [x, i, j] = some ds) :
    ∃ rs ki kj lo hi, x = .rows sz rs ∧ i = .int ki lo ∧ j = .int kj hi ∧ (fl = true → ∀ r ∈ rs, ∀ d ∈ r, d.isSc = true) ∧ 0 ≤ lo ∧ lo ≤ hi ∧ hi ≤ rs.length ∧ ds = [.rows sz ((rs.take hi.toNat).drop lo.toNat)] := by
  cases x <;> cases i <;> cases j <;> simp only [Prim.run] at h <;> first | cases h | skip
  split at h
  · rename_i h1
    obtain ⟨rfl, h1, h2, h3, h4⟩ := h1
    simp only [Option.some.injEq] at h
    refine ⟨_, _, _, _, _, rfl, rfl, rfl, fun hf => ?_, h2, h3, h4, h.symm⟩
    rw [hf] at h1
    simp only [Bool.not_true, Bool.false_or, List.all_eq_true] at h1
    exact fun r hr d hd => h1 r hr d hd
  · cases h

theorem sub_get {rs : List (List D)} {lo hi i : Nat} {r : List D} (h : ((rs.take hi).drop lo)[i]? = some r) : rs[lo + i]? = some r ∧ lo + i < hi := by
  rw [List.getElem?_drop, List.getElem?_take] at h
  split at h
  · rename_i hl; exact ⟨h, hl⟩
  · cases h

/-- A part of a slice that can be read. -/
theorem Rd.part {ok : Nat → Prop} {A : Option Addr} {n c sz : Nat} {rs : List (List D)} (h : Rd ok w (.slice A n c) (.rows sz rs)) {lo hi : Nat} (h1 : lo ≤ hi) (h2 : hi ≤ n) :
    Rd ok w (.slice (if c = lo then A else A.map (·.add (lo * sz))) (hi - lo) (c - lo)) (.rows sz ((rs.take hi).drop lo)) := by
  obtain ⟨A', b, n', c', vs, e1, e2, e3, e4, e5, e6, e7⟩ := h.inv
  obtain ⟨rfl, rfl, rfl⟩ : A = A' ∧ n = n' ∧ c = c' := by injection e1 with a b c; exact ⟨a, b, c⟩
  refine .rows _ (b.add (lo * sz)) _ _ sz _ (fun i j => vs (lo + i) j) (by simp; omega) (by omega) ?_ (fun r hr => ?_) (fun i r hi' j d hj => ?_) (fun i r hi' j d hj => ?_)
  · by_cases hz : hi - lo = 0
    · exact .inl hz
    · refine .inr ?_
      have hA : A = some b := e4.resolve_left (by omega)
      rw [if_neg (by omega), hA]
      rfl
  · exact e5 r (List.mem_of_mem_take (List.mem_of_mem_drop hr))
  · obtain ⟨h3, h4⟩ := sub_get hi'
    obtain ⟨h5, h6⟩ := e6 _ _ h3 _ _ hj
    refine ⟨by rw [add_block]; exact h5, ?_⟩
    rw [add_add, show lo * sz + (i * sz + j) = (lo + i) * sz + j by rw [Nat.add_mul, Nat.add_assoc]]
    exact h6
  · obtain ⟨h3, h4⟩ := sub_get hi'
    exact e7 _ _ h3 _ _ hj

theorem Rp.sc_inv {own : Nat → Ow} {r m : Nat} {p : List Nat} {v : Value} {d : D} (h : Rp own w r p m v d) (hd : d.isSc = true) : Sc v d := by
  cases h with
  | sc h => exact h
  | hole => simp [D.isSc] at hd
  | fz h => exact h.sc_inv hd
  | sl => simp [D.isSc] at hd

/-- A part of a slice that is owned. -/
theorem Rp.part {own : Nat → Ow} {r m : Nat} {p : List Nat} {A : Option Addr} {n c sz : Nat} {rs : List (List D)} (h : Rp own w r p m (.slice A n c) (.rows sz rs)) {lo hi : Nat} (h1 : lo ≤ hi) (h2 : hi ≤ n)
    (hc : m = 1 ∨ lo = 0 ∨ ∀ r ∈ rs, ∀ d ∈ r, d.isSc = true) :
    Rp own w r p m (.slice (if c = lo then A else A.map (·.add (lo * sz))) (hi - lo) (c - lo)) (.rows sz ((rs.take hi).drop lo)) := by
  generalize hv : Value.slice A n c = v at h
  generalize hx : D.rows sz rs = x at h
  cases h with
  | sc h => subst hx; cases h
  | hole => cases hx
  | fz h => subst hv hx; exact .fz (h.part h1 h2)
  | sl A' b n' c' sz' rs' vs hn hc' hA hsz hown hcell hrec =>
    obtain ⟨rfl, rfl, rfl⟩ : A = A' ∧ n = n' ∧ c = c' := by injection hv with a b c; exact ⟨a, b, c⟩
    obtain ⟨rfl, rfl⟩ : sz = sz' ∧ rs = rs' := by injection hx with a b; exact ⟨a, b⟩
    rename_i m'
    refine .sl _ (if c = lo then b else b.add (lo * sz)) _ _ sz _ (fun i j => vs (lo + i) j) (by simp; omega) (by omega) ?_ (fun r hr => ?_) (fun e => ?_) (fun i r' hi' j d hj => ?_) (fun i r' hi' j d hj => ?_)
    · rcases hA with hA | ⟨hA, h0⟩
      · refine .inl ?_
        rw [hA]
        by_cases h : c = lo
        · rw [if_pos h, if_pos h]
        · rw [if_neg h, if_neg h]; rfl
      · refine .inr ⟨?_, by omega⟩
        rw [hA]
        split <;> rfl
    · exact hsz r (List.mem_of_mem_take (List.mem_of_mem_drop hr))
    · have hA' : A = some b := by
        rcases hA with hA | ⟨hA, h0⟩
        · exact hA
        · rw [hA] at e
          split at e <;> cases e
      obtain ⟨h3, h4, h5⟩ := hown hA'
      by_cases h : c = lo
      · rw [if_pos h]
        exact ⟨h3, h4, fun k hk => by rw [h, Nat.sub_self, Nat.zero_mul] at hk; omega⟩
      · rw [if_neg h]
        refine ⟨?_, by rw [add_block]; exact h4, fun k hk => ?_⟩
        · unfold Addr.add; split
          · exact h3
          · rfl
        · rw [add_add]
          refine h5 _ ?_
          rw [Nat.sub_mul] at hk
          omega
    · obtain ⟨h3, h4⟩ := sub_get hi'
      rw [if_neg (by omega), add_add, show lo * sz + (i * sz + j) = (lo + i) * sz + j by rw [Nat.add_mul, Nat.add_assoc]]
      exact hcell _ _ h3 _ _ hj
    · obtain ⟨h3, h4⟩ := sub_get hi'
      have := hrec _ _ h3 _ _ hj
      rcases hc with hc | hc | hc
      · obtain rfl : m' = 0 := by omega
        exact .fz this.zero
      · subst hc
        simpa using this
      · exact .sc (this.sc_inv (hc r' (List.mem_of_getElem? h3) d (List.mem_of_getElem? hj)))

theorem run_slice_op {t e : TypeId} {x : Operand} {lo hi : Option Operand} (ho : o.op = .slice t x lo hi none) (hu : P.underlying t = some (.slice e)) {size : Nat} (hsz : (sizeOf e).run P w = .ok size w)
    {A : Option Addr} {n c : Nat} (hx : a.eval x = .slice A n c) {kl kh : IntKind} {l h : Int} (hlo : (lo = none ∧ l = 0) ∨ lo.map a.eval = some (.int kl l)) (hhi : (hi = none ∧ h = n) ∨ (hi.map a.eval = some (.int kh h) ∧ h ≤ c)) (h0 : 0 ≤ l) (h1 : l ≤ h) :
    (execOp a.eval o).run P w = .ok (.value (.slice (if c = l.toNat then A else A.map (·.add (l.toNat * size))) (h.toNat - l.toNat) (c - l.toNat))) w := by
  unfold execOp
  simp only [ho]
  refine run_val ?_
  have hb := run_bounds (P := P) (w := w) (is := true) (len := n) (cap := c) (lo := lo.map a.eval) (hi := hi.map a.eval) (kl := kl) (kh := kh) (l := l) (h := h) (hlo.imp (fun ⟨h1, h2⟩ => ⟨by rw [h1]; rfl, h2⟩) id) (hhi.imp (fun ⟨h1, h2⟩ => ⟨by rw [h1]; rfl, h2⟩) id) h0 h1
  simp only [Instr.sliceAt, Instr.slice, Sem.run_bind, run_underlying hu, Result.andThen_ok, hx, Option.map_none, hb, hsz, Sem.run_pure]

end
end Go.Proofs.Ytacfmplofkjonaa.Rf

/- Slicing, whole. -/
namespace Go.Proofs.Ytacfmplofkjonaa.Rf
set_option linter.unusedVariables false
set_option linter.unusedSimpArgs false

section
variable {P : Program} {E : Env} {F : Frame0} {σ : Nat → Option Cont} {ρ : List D} {a : Act} {w w' : World} {G : Gh} {g : Option (Atom × Bool)} {o : Oper} {cf : Nat → List D → Option (List D)} {Q : Exit → Act → World → Prop} {next : Act → World → Prop}

theorem noG_eq {g : Option (Atom × Bool)} (h : noG g = true) : g = none := by
  cases g with
  | none => rfl
  | some _ => cases h
theorem one_of {p : Prim} {xs : List Atom} {nv : Nat} (h : StepOk cf ρ g nv (.prim p xs 1)) (hg : gOn ρ g = true) :
    ∃ d, p.run (xs.map (·.val ρ)) = some [d] ∧ (Atom.v nv).val ρ = d := step1_one (cf := cf) (nv := nv) ⟨h, trivial⟩ hg

theorem run_slice_str {t : TypeId} {x : Operand} {lo hi : Option Operand} (ho : o.op = .slice t x lo hi none) (hu : P.underlying t = some .string) 
    {s : List UInt8} (hx : a.eval x = .string ⟨s.toArray⟩) {kl kh : IntKind} {l h : Int} (hlo : (lo = none ∧ l = 0) ∨ lo.map a.eval = some (.int kl l)) (hhi : (hi = none ∧ h = s.length) ∨ (hi.map a.eval = some (.int kh h) ∧ h ≤ s.length)) (h0 : 0 ≤ l) (h1 : l ≤ h) :
    (execOp a.eval o).run P w = .ok (.value (.string ⟨((s.take h.toNat).drop l.toNat).toArray⟩)) w := by
  unfold execOp
  simp only [ho]
  refine run_val ?_
  have hb := run_bounds (P := P) (w := w) (is := false) (len := s.length) (cap := s.length) (lo := lo.map a.eval) (hi := hi.map a.eval) (kl := kl) (kh := kh) (l := l) (h := h) (hlo.imp (fun ⟨h1, h2⟩ => ⟨by rw [h1]; rfl, h2⟩) id) (hhi.imp (fun ⟨h1, h2⟩ => ⟨by rw [h1]; rfl, h2⟩) id) h0 h1
  have hlen : (⟨s.toArray⟩ : ByteArray).size = s.length := rfl
  simp only [Instr.sliceAt, Instr.slice, Sem.run_bind, run_underlying hu, Result.andThen_ok, hx, Option.map_none, Option.isSome_none, Bool.false_eq_true, if_false, hlen, hb, Sem.run_pure]
  congr 2
  apply ByteArray.ext
  rw [ByteArray.data_extract]
  apply Array.ext'
  simp [List.drop_take, List.extract]

theorem ssub_run {x i j : D} {ds : List D} (h : Prim.ssub.run [x, i, j] = some ds) :
    ∃ s ki kj lo hi, x = .str s ∧ i = .int ki lo ∧ j = .int kj hi ∧ 0 ≤ lo ∧ lo ≤ hi ∧ hi ≤ s.length ∧ ds = [.str ((s.take hi.toNat).drop lo.toNat)] := by
  cases x <;> cases i <;> cases j <;> simp only [Prim.run] at h <;> first | cases h | skip
  split at h
  · rename_i h1
    simp only [Option.some.injEq] at h
    exact ⟨_, _, _, _, _, rfl, rfl, rfl, h1.1, h1.2.1, h1.2.2, h.symm⟩
  · cases h

/-- What slicing tells of its result. -/
theorem part_rep {lo : Bool} {s : SlR} {ei : TI} {p : Pth} {fl : Bool} (hvw : viewOf ei lo s = (p, fl)) {A : Option Addr} {n c sz : Nat} (hsl : SlRep σ ρ G w s (.slice A n c)) {rs : List (List D)} (hx : s.x.val ρ = .rows sz rs)
    {l h : Nat} (h1 : l ≤ h) (h2 : h ≤ n) (hlo : lo = false → l = 0) (hfl : fl = true → ∀ r ∈ rs, ∀ d ∈ r, d.isSc = true) {y : Atom} (hy : y.val ρ = .rows sz ((rs.take h).drop l)) :
    LeafRep σ ρ G w (.sn s.deps p false y) (.slice (if c = l then A else A.map (·.add (l * sz))) (h - l) (c - l)) := by
  simp only [LeafRep]
  refine ⟨⟨rfl, fun z hz => ?_⟩, fun _ => ⟨?_, by simp, ?_⟩⟩
  · obtain ⟨m, hl⟩ := hsl.live z hz
    exact hl.valid.known
  · rw [hy]
    exact Rd.part (hx ▸ hsl.rd) h1 h2
  · rcases viewOf_own hvw with rfl | ⟨rfl, r, k, m, q, ho, hq, hc⟩
    · trivial
    · intro r2 k2 m2 e2 hl2
      have hown := hsl.own
      unfold OwnRep at hown
      rw [ho] at hown
      obtain ⟨h3, ⟨x1, h4⟩, h5⟩ := hown
      rw [h3] at e2
      obtain ⟨rfl, rfl⟩ : r = r2 ∧ k = k2 := by simpa using e2
      obtain ⟨x2, ex2⟩ := hl2
      rw [h4] at ex2
      obtain rfl : m = m2 := by injection ex2 with ex2; injection ex2
      have hrp : Rp G.own w r [] m (.slice A n c) (.rows sz rs) := by
        rw [← hx]
        rcases hq with rfl | rfl
        · simpa [pathVal] using h5.2.1
        · exact h5
      rw [hy]
      refine hrp.part h1 h2 ?_
      rcases hc with hc | hc | hc
      · exact .inl hc
      · exact .inr (.inl (hlo hc))
      · exact .inr (.inr (hfl hc))

theorem rdLo_rep (hR : R E.ntmps F σ ρ a w G) (hg : gOn ρ g = true) {lo : Option Operand} {y : Atom}
    (h : (match lo with | some a => rdA E g 0 a | none => RdM.ret (.c (.int .i64 0)) : RdM Atom).eval σ = some y) {k : IntKind} {l : Int} (hy : y.val ρ = .int k l) :
    (lo = none ∧ l = 0) ∨ lo.map a.eval = some (.int k l) := by
  split at h
  · rename_i x
    have := rdA_rep hR hg h
    rw [hy] at this
    exact .inr (by rw [Option.map_some, this.int_inv])
  · simp only [eval_ret, Option.some.injEq] at h
    subst h
    simp only [Atom.val, D.int.injEq] at hy
    exact .inl ⟨rfl, hy.2.symm⟩

theorem sound_slice (hR : R E.ntmps F σ ρ a w G) (hd : DstOk E.ntmps o) (hti : TiOk P E.ti) {nv nb nr : Nat} {mv mvs : Bool} {t : TypeId} {x : Operand} {lo hi mx : Option Operand} (ho : o.op = .slice t x lo hi mx) {res : OpRes}
    (h : (sxOp E mv mvs nv nb nr g o).eval σ = some res) (hs : StepsOk cf ρ g nv res.lets) : Sound P E F σ ρ a w g o Q res.upd := by
  simp only [sxOp, ho] at h
  cases mx with
  | some _ =>
    simp only [eval_bind, Option.bind_eq_some_iff] at h
    obtain ⟨_, _, h⟩ := h
    cases h
  | none =>
  simp only [eval_bind, Option.bind_eq_some_iff, tiR, eval_ofOpt] at h
  obtain ⟨ti, hi1, l, h1, lo', h2, h⟩ := h
  obtain ⟨info, u, f⟩ := tiOf_facts (hti.ok _ _ hi1)
  split at h
  · rename_i s
    simp only [eval_bind, Option.bind_eq_some_iff, eval_guardR] at h
    obtain ⟨_, hgd, h⟩ := h
    split at hgd
    · rename_i hb
      simp only [Bool.and_eq_true] at hb
      obtain rfl := str_und f hb.1
      obtain rfl : g = none := noG_eq hb.2
      split at h
      · rename_i h'
        simp only [eval_bind, Option.bind_eq_some_iff] at h
        obtain ⟨hA, h3, h⟩ := h
        refine sound_outS hR hd h hs fun hg d hp => ?_
        simp only [List.map_cons, List.map_nil] at hp
        obtain ⟨s', ki, kj, li, hi', e1, e2, e3, e4, e5, e6, e7⟩ := ssub_run hp
        simp only [List.cons.injEq, and_true] at e7
        have hx := rdL_rep hR hg h1
        simp only [LeafRep, e1] at hx
        have hh := rdA_rep hR hg h3
        rw [e3] at hh
        refine ⟨_, e7 ▸ .str _, run_slice_str ho f.und hx.str_inv (rdLo_rep hR hg h2 e2) (.inr ⟨by rw [Option.map_some, hh.int_inv], e6⟩) e4 e5⟩
      · simp only [eval_ret, Option.some.injEq] at h
        subst h
        simp only [dst_eq]
        refine ⟨fun hg => ?_, fun hg => by simp [gOn] at hg⟩
        obtain ⟨d1, h4, h5⟩ := one_of hs.1 hg
        obtain ⟨d2, h6, h7⟩ := one_of hs.2.1 hg
        simp only [List.map_cons, List.map_nil, Step.n] at h4 h6 h7
        obtain ⟨s', ki, kj, li, hi', e1, e2, e3, e4, e5, e6, e7⟩ := ssub_run h6
        rw [e1] at h4
        simp only [Prim.run, Option.some.injEq, List.cons.injEq, and_true] at h4
        rw [h5, ← h4] at e3
        obtain ⟨-, rfl⟩ : IntKind.i64 = kj ∧ (s'.length : Int) = hi' := by injection e3 with a b; exact ⟨a, b⟩
        have hx := rdL_rep hR hg h1
        simp only [LeafRep, e1] at hx
        refine sound_S hR hd hg (run_slice_str (kh := .i64) ho f.und hx.str_inv (rdLo_rep hR hg h2 e2) (.inl ⟨rfl, rfl⟩) e4 e5) ?_
        rw [h7]
        simp only [List.cons.injEq, and_true] at e7
        rw [e7]
        exact .str _
    · cases hgd
  · simp only [eval_bind, Option.bind_eq_some_iff, eval_guardR] at h
    obtain ⟨_, hgd, s, h3, ei, h4, h⟩ := h
    split at hgd
    · rename_i hel
      cases hel' : ti.elem with
      | none => rw [hel'] at hel; cases hel
      | some e =>
      obtain rfl := elem_und f hel'
      rw [hel', Option.getD_some, eval_ofOpt] at h4
      obtain ⟨info', u', f'⟩ := tiOf_facts (hti.ok _ _ h4)
      generalize hvw : viewOf ei lo.isSome s = pf at h
      obtain ⟨p, fl⟩ := pf
      dsimp only at h
      split at h
      · rename_i h'
        simp only [eval_bind, Option.bind_eq_some_iff] at h
        obtain ⟨hA, h5, h⟩ := h
        split at h
        · rename_i dp pp z _
          refine sound_out1 hR hd h hs fun hg hst => ?_
          obtain ⟨d, h6, h7⟩ := step1_one hst hg
          simp only [List.map_cons, List.map_nil] at h6
          obtain ⟨rs, ki, kj, li, hi', e1, e2, e3, e4, e5, e6, e7, e8⟩ := sub_run h6
          have hl := rdL_rep hR hg h1
          have hh := rdA_rep hR hg h5
          rw [e3] at hh
          -- the slice is nil
          have hz : s.x = .c (.rows z []) := by
            unfold rdSl at h3
            simp only [eval_bind, Option.bind_eq_some_iff] at h3
            obtain ⟨ds, -, h3⟩ := h3
            split at h3
            · simp only [eval_ret, Option.some.injEq] at h3; rw [← h3]
            · simp only [eval_bind, eval_rdK, Option.bind_some] at h3
              split at h3
              · simp only [eval_ret, Option.some.injEq] at h3; rw [← h3]
              · cases h3
            · simp only [eval_ret, Option.some.injEq] at h3; rw [← h3]
          have hnil : a.eval x = .slice none 0 0 := by
            unfold rdSl at h3
            simp only [eval_bind, Option.bind_eq_some_iff] at h3
            obtain ⟨ds, h3, -⟩ := h3
            have hl' := hl
            simp only [LeafRep] at hl'
            exact (hl'.2 (rdDeps_rep h3).1).2.1 trivial z rfl
          rw [hz] at e1
          obtain ⟨-, rfl⟩ : z = ei.size ∧ [] = rs := by
            simp only [Atom.val] at e1
            injection e1 with a b; exact ⟨a, b⟩
          have hli : li = 0 := by simp at e7; omega
          have hhi : hi' = 0 := by simp at e7; omega
          subst hli hhi
          refine ⟨a.eval x, hl, ?_⟩
          rw [run_slice_op (kh := kj) (kl := ki) (l := 0) (h := 0) ho f.und (f'.sizeOf w) hnil (rdLo_rep hR hg h2 e2) (.inr ⟨by rw [Option.map_some, hh.int_inv], by simp⟩) (by omega) (by omega), hnil]
          rfl
        · refine sound_out1 hR hd h hs fun hg hst => ?_
          obtain ⟨d, h6, h7⟩ := step1_one hst hg
          simp only [List.map_cons, List.map_nil] at h6
          obtain ⟨rs, ki, kj, li, hi', e1, e2, e3, e4, e5, e6, e7, e8⟩ := sub_run h6
          have hh := rdA_rep hR hg h5
          rw [e3] at hh
          have hsl := rdSl_rep hR h3 (rdL_rep hR hg h1)
          have hrd := hsl.rd
          rw [e1] at hrd
          obtain ⟨A, b, n, c, vs, i1, i2, i3, -⟩ := hrd.inv
          rw [i1] at hsl
          have hlo := rdLo_rep hR hg h2 e2
          refine ⟨_, ?_, run_slice_op (kh := kj) ho f.und (f'.sizeOf w) i1 hlo (.inr ⟨by rw [Option.map_some, hh.int_inv], by omega⟩) e5 e6⟩
          refine part_rep hvw hsl e1 (by omega) (by omega) (fun hf => ?_) e4 ?_
          · rcases hlo with ⟨-, hl0⟩ | hl0
            · rw [hl0]; rfl
            · cases lo with
              | none => simp at hl0
              | some _ => simp at hf
          · rw [h7]
            simpa using e8
      · refine sound_out1 hR hd h hs fun hg hst => ?_
        obtain ⟨d1, h4', h5⟩ := one_of hst.1 hg
        obtain ⟨d2, h6, h7⟩ := one_of hst.2.1 hg
        simp only [List.map_cons, List.map_nil, Step.n] at h4' h6 h7
        obtain ⟨rs, ki, kj, li, hi', e1, e2, e3, e4, e5, e6, e7, e8⟩ := sub_run h6
        rw [e1] at h4'
        simp only [Prim.run, Option.some.injEq, List.cons.injEq, and_true] at h4'
        rw [h5, ← h4'] at e3
        obtain ⟨-, rfl⟩ : IntKind.i64 = kj ∧ (rs.length : Int) = hi' := by injection e3 with a b; exact ⟨a, b⟩
        have hsl := rdSl_rep hR h3 (rdL_rep hR hg h1)
        have hrd := hsl.rd
        rw [e1] at hrd
        obtain ⟨A, b, n, c, vs, i1, i2, i3, -⟩ := hrd.inv
        rw [i1] at hsl
        have hlo := rdLo_rep hR hg h2 e2
        refine ⟨_, ?_, run_slice_op (kh := .i64) ho f.und (f'.sizeOf w) i1 hlo (.inl ⟨rfl, by rw [i2]⟩) e5 e6⟩
        refine part_rep hvw hsl e1 (by omega) (by omega) (fun hf => ?_) e4 ?_
        · rcases hlo with ⟨-, hl0⟩ | hl0
          · rw [hl0]; rfl
          · cases lo with
            | none => simp at hl0
            | some _ => simp at hf
        · rw [h7]
          simpa using e8
    · cases hgd
end
end Go.Proofs.Ytacfmplofkjonaa.Rf

/- Memory changes: new blocks, cells written. -/
namespace Go.Proofs.Ytacfmplofkjonaa.Rf
set_option linter.unusedVariables false
set_option linter.unusedSimpArgs false

/-! ### Cells written -/
theorem setCells_other (b : Nat) : ∀ (vs : List Value) (o : Nat) (w : World) (k : Nat), k ≠ b → (w.setCells b o vs).heap[k]? = w.heap[k]?
  | [], _, _, _, _ => rfl
  | v :: r, o, w, k, h => by
    rw [World.setCells, setCells_other b r _ _ k h]
    exact heap_setCell_other w _ k v h
theorem setCells_size (b : Nat) : ∀ (vs : List Value) (o : Nat) (w : World), (w.setCells b o vs).heap.size = w.heap.size
  | [], _, _ => rfl
  | v :: r, o, w => by rw [World.setCells, setCells_size b r]; exact World.size_setCell ..
theorem setCells_rest (b : Nat) : ∀ (vs : List Value) (o : Nat) (w : World), (w.setCells b o vs).os = w.os ∧ (w.setCells b o vs).tape = w.tape ∧ (w.setCells b o vs).output = w.output
  | [], _, _ => ⟨rfl, rfl, rfl⟩
  | v :: r, o, w => by rw [World.setCells]; exact setCells_rest b r (o + 1) _
theorem setCells_same (b : Nat) : ∀ (vs : List Value) (o : Nat) (w : World) (c : Array Value) (e : TypeId) (fr : Nat × Nat), w.heap[b]? = some (.cells c e fr) →
    ∃ c', (w.setCells b o vs).heap[b]? = some (.cells c' e fr) ∧ c'.size = c.size ∧ ∀ k, k < o ∨ o + vs.length ≤ k → c'[k]? = c[k]?
  | [], o, w, c, e, fr, h => ⟨c, h, rfl, fun _ _ => rfl⟩
  | v :: r, o, w, c, e, fr, h => by
    have h1 : (w.setCell ⟨b, o, none⟩ v).heap[b]? = some (.cells (c.setIfInBounds o v) e fr) := by
      simp [World.setCell, Array.getElem?_modify, h]
    obtain ⟨c', h2, h3, h4⟩ := setCells_same b r (o + 1) _ _ e fr h1
    refine ⟨c', h2, by simpa using h3, fun k hk => ?_⟩
    simp only [List.length_cons] at hk
    rw [h4 k (by omega), Array.getElem?_setIfInBounds_ne (by omega)]

section
variable {P : Program} {E : Env} {F : Frame0} {σ : Nat → Option Cont} {ρ : List D} {a : Act} {w w' : World} {G : Gh} {g : Option (Atom × Bool)} {o : Oper} {cf : Nat → List D → Option (List D)} {Q : Exit → Act → World → Prop} {next : Act → World → Prop}

theorem run_storeVar {t : TypeId} {i : TI} {info : TypeInfo} {u : TypeDesc} (f : TiFacts P t i info u) {b off : Nat} {v : Value} (hl : v.cells.toList.length = i.size)
    (hc : ∀ j, j < i.size → ∃ u, w.cell? ⟨b, off + j, none⟩ = some u) (hf : ∀ j, j < i.size → w.frozen? ⟨b, off + j, none⟩ = false) (h1 : ∀ x ∈ v.cells.toList, x.oneCell' = true) :
    (storeVar t ⟨b, off, none⟩ v).run P w = .ok () (w.setCells b off v.cells.toList) := by
  unfold storeVar
  rw [Sem.run_bind, f.sizeOf]
  simp only [Result.andThen_ok]
  have : ¬ v.cells.size ≠ i.size := by simpa using hl
  rw [if_neg this]
  have h2 := run_storeCells_cells (P := P) b off v.cells.toList 0 w (fun j hj => by
    obtain ⟨u, hu⟩ := hc j (by omega)
    rw [Nat.add_zero, hu]; rfl) (fun j hj => by rw [Nat.add_zero]; exact hf j (by omega)) h1
  rw [Nat.add_zero] at h2
  simpa using h2

/-- The cells of a value. -/
theorem LeafRep.one {l : Leaf} {v : Value} (h : LeafRep σ ρ G w l v) (hs : stOk l = true) : v.oneCell' = true := by
  cases l with
  | dead => simpa [LeafRep] using h
  | sc x => simp only [LeafRep] at h; exact h.one
  | su g x => simp [stOk] at hs
  | ex r => simp only [LeafRep] at h; exact h.2.2
  | sn deps p nie x => simp only [LeafRep] at h; exact h.1.1
  | px b off => simp only [LeafRep] at h; rw [h.1]; rfl
  | pe l sz i off => simp only [LeafRep] at h; obtain ⟨_, _, _, _, _, _, _, _, _, e⟩ := h; rw [e]; rfl
  | rp deps sz x => simp only [LeafRep] at h; exact h.1.1
  | pn => simp only [LeafRep] at h; rw [h]; rfl
  | clo f caps => simp only [LeafRep] at h; obtain ⟨_, e, _⟩ := h; rw [e]; rfl
theorem LeavesRep.ones {ls : List Leaf} {vs : List Value} (h : LeavesRep σ ρ G w ls vs) (hs : ls.all stOk = true) : ∀ v ∈ vs, v.oneCell' = true := by
  intro v hv
  obtain ⟨i, hi⟩ := List.mem_iff_getElem?.1 hv
  have hlt : i < ls.length := by
    rw [← h.len]
    exact (List.getElem?_eq_some_iff.1 hi).1
  have hl : ls[i]? = some ls[i] := List.getElem?_eq_getElem hlt
  obtain ⟨v', h1, h2⟩ := h.get hl
  rw [hi] at h1
  obtain rfl := Option.some.inj h1
  rw [List.all_eq_true] at hs
  exact h2.one (hs _ (List.mem_of_getElem? hl))
theorem one_cells {v : Value} (h : v.oneCell' = true) : v.cells = #[v] := by cases v <;> first | rfl | (simp [Value.oneCell'] at h)
theorem LeafRep.cells {l : Leaf} {v : Value} (h : LeafRep σ ρ G w l v) : v.cells = #[v] := by
  by_cases hs : stOk l = true
  · exact one_cells (h.one hs)
  · cases l <;> first | (simp [stOk] at hs; done) | skip
    simp only [LeafRep] at h
    rcases h.1 with h1 | ⟨rfl, -⟩
    · exact one_cells h1.one
    · rfl
theorem leavesOf_rep {agg : Bool} {sv : SV} {ls : List Leaf} {v : Value} (h : leavesOf agg sv = some ls) (hv : SVRep σ ρ G w sv v) : LeavesRep σ ρ G w ls v.cells.toList := by
  unfold leavesOf at h
  split at h
  · rename_i l
    cases agg with
    | true => cases h
    | false =>
      obtain rfl := Option.some.inj h
      rw [LeafRep.cells hv]
      simp only [LeavesRep]
      exact ⟨v, [], rfl, hv, rfl⟩
  · rename_i ms
    cases agg with
    | false => cases h
    | true =>
      obtain rfl := Option.some.inj h
      obtain ⟨vs, rfl, h1⟩ := hv
      simpa [Value.cells] using h1
  · cases h

/-! ### A new block -/
def pushB (w : World) (c : Array Value) (e : TypeId) : World := { w with heap := w.heap.push (.cells c e (0, 0)) }
theorem pushB_old {c : Array Value} {e : TypeId} {b : Nat} (h : b ≠ w.heap.size) : (pushB w c e).heap[b]? = w.heap[b]? := by
  unfold pushB
  rw [Array.getElem?_push, if_neg h]
theorem pushB_new {c : Array Value} {e : TypeId} : (pushB w c e).heap[w.heap.size]? = some (.cells c e (0, 0)) := by
  unfold pushB
  rw [Array.getElem?_push, if_pos rfl]
theorem pushB_size {c : Array Value} {e : TypeId} : (pushB w c e).heap.size = w.heap.size + 1 := by
  unfold pushB
  simp
theorem pushB_cell {c : Array Value} {e : TypeId} (j : Nat) : (pushB w c e).cell? ((⟨w.heap.size, 0, none⟩ : Addr).add j) = c[j]? := by
  unfold World.cell?
  rw [add_block, pushB_new]
  simp [Addr.add]
  split <;> simp_all
theorem pushB_frozen {c : Array Value} {e : TypeId} (j : Nat) : (pushB w c e).frozen? ((⟨w.heap.size, 0, none⟩ : Addr).add j) = false := by
  unfold World.frozen?
  rw [add_block, pushB_new]
  simp

theorem FrameOk.push (h : FrameOk F G w) (c : Array Value) (e : TypeId) {G' : Gh} (ho : ∀ b, b ≠ w.heap.size → G'.own b = G.own b ∨ ((∃ r p, G.own b = .slc r p))) : FrameOk F G' (pushB w c e) := by
  refine ⟨h.os, h.tape, h.output, by rw [pushB_size]; have := h.size; omega, fun b hb hf => ?_, fun b j hb hj => ?_, fun b hb => ?_⟩
  · have hne : b ≠ w.heap.size := by have := h.size; omega
    obtain ⟨h1, h2⟩ := h.keep b hb hf
    refine ⟨by rw [pushB_old hne]; exact h1, ?_⟩
    rcases ho b hne with h3 | ⟨r, p, h3⟩
    · rw [h3]; exact h2
    · rw [h3] at h2
      rw [← h2] at hf
      rcases hf with hf | hf <;> cases hf
  · have hne : b ≠ w.heap.size := by have := h.size; omega
    obtain ⟨h1, c0, c1, e', fr, h2, h3, h4⟩ := h.boxes b j hb hj
    refine ⟨?_, c0, c1, e', fr, h2, by rw [pushB_old hne]; exact h3, h4⟩
    rcases ho b hne with h5 | ⟨r, p, h5⟩
    · rw [h5]; exact h1
    · rw [h5] at h1; cases h1
  · rw [pushB_size] at hb
    have hne : b ≠ w.heap.size := by omega
    rcases ho b hne with h5 | ⟨r, p, h5⟩
    · rw [h5]; exact h.fresh b (by omega)
    · rw [h.fresh b (by omega)] at h5; cases h5

/-- Slots and a new variable. -/
def boxGh (G : Gh) (w : World) (nb : Nat) : Gh := { G with own := fun b => if b = w.heap.size then .box nb else G.own b, bx := fun b => if b = nb then ⟨w.heap.size, 0, none⟩ else G.bx b }

structure Fresh (σ : Nat → Option Cont) (nb nr : Nat) : Prop where
  nb : σ (kB nb) = none
  nr : ∀ j, nr ≤ j → j < nr + maxRoots → σ (kR j) = none

theorem run_newVar {e : TypeId} {v : Value} : (newVar e v).run P w = .ok ⟨w.heap.size, 0, none⟩ (pushB w v.cells e) := by
  simp [newVar, newRow, pushB]

theorem boxUpd_R {u0 : List (Nat × Cont)} {nb : Nat} {ls : List Leaf} (r : Nat) (h : ∀ k c, (k, c) ∈ u0 → ∃ t, k = kT t) : upds σ (u0 ++ [(kB nb, Cont.box false ls)]) (kR r) = σ (kR r) := by
  refine upds_none _ _ _ fun c hc => ?_
  rcases List.mem_append.1 hc with hc | hc
  · obtain ⟨t, e⟩ := h _ _ hc
    exact kT_ne_kR e.symm
  · simp only [List.mem_singleton, Prod.mk.injEq] at hc
    exact kB_ne_kR hc.1.symm

theorem dstUpd_keys (o : Oper) (g : Option (Atom × Bool)) (v : SV) : ∀ k c, (k, c) ∈ dstUpd o g v → ∃ t, k = kT t := by
  intro k c h
  unfold dstUpd at h
  split at h
  · rename_i d _
    simp only [List.mem_singleton, Prod.mk.injEq] at h
    exact ⟨d, h.1⟩
  · simp at h
theorem dstUpd_mem {o : Oper} {g : Option (Atom × Bool)} {v : SV} {k : Nat} {c : Cont} (h : (k, c) ∈ dstUpd o g v) : ∃ d, o.dst = some d ∧ k = kT d ∧ c = .slot g v := by
  unfold dstUpd at h
  split at h
  · rename_i d hd
    simp only [List.mem_singleton, Prod.mk.injEq] at h
    exact ⟨d, hd, h.1, h.2⟩
  · simp at h
/-- A slot that is not written stands as it did. -/
theorem tval_dst {n : Nat} {gh : Nat → Value} {v : Value} {g : Option (Atom × Bool)} {sv : SV} {u1 : List (Nat × Cont)} {t : Nat} (h : ∀ c, (kT t, c) ∉ dstUpd o g sv ++ u1) : tval n (a.put o.dst v) gh t = tval n a gh t := by
  cases e : o.dst with
  | none => rfl
  | some d =>
    refine tval_put_ne _ _ _ _ _ _ fun e' => h (.slot g sv) ?_
    refine List.mem_append_left _ ?_
    unfold dstUpd
    rw [e, e']
    exact List.mem_singleton.2 rfl

/-- A new variable. -/
theorem R.newBox (h : R E.ntmps F σ ρ a w G) (hd : DstOk E.ntmps o) {nb : Nat} (hf : σ (kB nb) = none) {cs : Array Value} {ty : TypeId} {ls : List Leaf} (hl : LeavesRep σ ρ G w ls cs.toList) :
    R E.ntmps F (upds σ (dstUpd o none (.one (.px nb 0)) ++ [(kB nb, .box false ls)])) ρ (a.put o.dst (.pointer (some ⟨w.heap.size, 0, none⟩))) (pushB w cs ty) (boxGh G w nb) := by
  have hne : ∀ b, G.own b ≠ .frz → b ≠ w.heap.size := fun b hb e => hb (h.frame.fresh b (by omega))
  have hkeys := dstUpd_keys o none (.one (.px nb 0))
  have hR : ∀ r, upds σ (dstUpd o none (.one (.px nb 0)) ++ [(kB nb, Cont.box false ls)]) (kR r) = σ (kR r) := fun r => boxUpd_R r hkeys
  have hfr : Fr σ G w (upds σ (dstUpd o none (.one (.px nb 0)) ++ [(kB nb, .box false ls)])) (boxGh G w nb) (pushB w cs ty) := by
    refine ⟨fun b hb hlt => ?_, fun r k _ hv => ?_, fun r k hk => hk.same hR, fun r k b p _ _ hb => ?_, fun r k m _ hv => ⟨?_, fun b p hb => ?_⟩, fun _ _ => rfl, fun b hb => ?_, fun k hk => upds_some _ _ _ (.inl hk), fun r x m k _ b p hb => ?_⟩
    · have hn : b ≠ w.heap.size := by omega
      exact ⟨by simp only [boxGh, if_neg hn]; exact hb, pushB_old hn⟩
    · obtain ⟨x, m, st, e, hs⟩ := hv
      exact ⟨x, m, st, by rw [← hR]; exact e, hs⟩
    · have hn := hne b (by rw [hb]; simp)
      exact ⟨.inl (by simp only [boxGh, if_neg hn]; exact hb), pushB_old hn⟩
    · obtain ⟨x, e⟩ := hv
      exact ⟨x, by rw [← hR]; exact e⟩
    · have hn := hne b (by rw [hb]; simp)
      simp only [boxGh, if_neg hn]; exact hb
    · have : b ≠ nb := fun e => by rw [e, hf] at hb; cases hb
      simp only [boxGh, if_neg this]
    · by_cases hn : b = w.heap.size
      · simp only [boxGh, if_pos hn] at hb; cases hb
      · simp only [boxGh, if_neg hn] at hb; exact hb
  refine h.upd _ hfr (by rw [put_size]; exact h.tmps) (by rw [put_defers]; exact h.defers) (h.frame.push cs ty fun b hb => .inl (by simp only [boxGh, if_neg hb])) (fun t ht => tval_dst ht) (fun b ro bs hb _ => ?_) (fun b bs hb hlt ho => ?_) (fun k c hk hk' => ?_)
  · obtain ⟨_, h2, _⟩ := h.box hb
    have hn := hne (G.bx b).block (by rw [h2]; split <;> simp)
    exact ⟨by simp only [boxGh, if_neg hn], pushB_old hn⟩
  · rcases List.mem_append.1 hb with hb | hb
    · obtain ⟨t, e⟩ := hkeys _ _ hb
      exact absurd e.symm kT_ne_kB
    · simp only [List.mem_singleton, Prod.mk.injEq] at hb
      obtain rfl := kB_inj hb.1
      simp only [boxGh, if_true] at hlt
      have := h.frame.size
      omega
  · rcases List.mem_append.1 hk with hk | hk
    · obtain ⟨d, hd', rfl, rfl⟩ := dstUpd_mem hk
      refine ⟨d, rfl, fun _ => ?_⟩
      rw [hd', tval_put_eq _ _ _ _ _ (hd d hd') h.tmps]
      simp only [SVRep, LeafRep, boxGh, if_true]
      exact ⟨by simp [Addr.add], upds_some _ _ _ (.inr ⟨_, List.mem_append_right _ (List.mem_singleton.2 rfl)⟩)⟩
    · simp only [List.mem_singleton, Prod.mk.injEq] at hk
      obtain ⟨rfl, rfl⟩ := hk
      refine ⟨nb, rfl, by simp [boxGh], by simp [boxGh], fun j l hj => ?_⟩
      obtain ⟨v, h1, h2⟩ := hl.get hj
      refine ⟨v, ?_, ?_, LeafRep.mono hfr l v h2⟩
      · simp only [boxGh, if_true]
        rw [pushB_cell]
        simpa using h1
      · simp only [boxGh, if_true]
        exact pushB_frozen j

theorem sound_box (hR : R E.ntmps F σ ρ a w G) (hd : DstOk E.ntmps o) (hti : TiOk P E.ti) {nv nb nr : Nat} {mv mvs : Bool} (hf : Fresh σ nb nr) {e : TypeId} {x : Operand} (ho : o.op = .box e x) {res : OpRes}
    (h : (sxOp E mv mvs nv nb nr g o).eval σ = some res) (hs : StepsOk cf ρ g nv res.lets) : Sound P E F σ ρ a w g o Q res.upd := by
  simp only [sxOp, ho, eval_bind, Option.bind_eq_some_iff, tiR, eval_ofOpt] at h
  obtain ⟨ti, h1, sv, h2, h⟩ := h
  split at h
  · rename_i ls hls
    simp only [eval_bind, Option.bind_eq_some_iff, eval_guardR] at h
    obtain ⟨_, h3, h⟩ := h
    split at h3
    · rename_i hb
      simp only [Bool.and_eq_true] at hb
      obtain rfl := noG_eq hb.1.2
      simp only [out1, eval_ret, Option.some.injEq] at h
      subst h
      refine ⟨fun hg => ?_, fun hg => by simp [gOn] at hg⟩
      have h4 := leavesOf_rep hls (rdSV_rep hR hg h2)
      refine wp_value (v := .pointer (some ⟨w.heap.size, 0, none⟩)) (w' := pushB w (a.eval x).cells e) ?_ ⟨_, hR.newBox hd hf.nb h4⟩
      unfold execOp
      simp only [ho]
      refine run_val ?_
      simp only [Instr.box, Sem.run_bind, run_newVar, Result.andThen_ok, Sem.run_pure]
    · cases h3
  · cases h

/-! ### Zero values -/
theorem zero_one {v : Value} {c : CK} (h : zeroCell v c = true) : LeafRep σ ρ G w (zeroLeaf c) v := by
  unfold zeroCell at h
  split at h
  · simp only [Bool.and_eq_true, decide_eq_true_eq] at h
    obtain ⟨⟨rfl, rfl⟩, rfl⟩ := h
    simp only [zeroLeaf, LeafRep, Atom.val]
    exact .int _ _
  · simp only [Bool.and_eq_true, decide_eq_true_eq] at h
    obtain ⟨rfl, rfl⟩ := h
    simp only [zeroLeaf, LeafRep, Atom.val]
    exact .bool _
  · rename_i s l
    simp only [Bool.and_eq_true, decide_eq_true_eq] at h
    obtain ⟨h1, rfl⟩ := h
    simp only [zeroLeaf, LeafRep, Atom.val]
    have := Sc.str s.data.toList
    rw [h1] at this
    have e : s = ⟨[].toArray⟩ := by
      apply ByteArray.ext
      apply Array.ext'
      simpa using h1
    rw [e]
    exact this
  · simp only [zeroLeaf, LeafRep]
    refine ⟨⟨rfl, by simp⟩, fun _ => ⟨?_, fun _ z _ => trivial, trivial⟩⟩
    exact .rows none ⟨0, 0, none⟩ 0 0 _ [] (fun _ _ => undef) rfl (Nat.le_refl _) (.inl rfl) (by simp) (by simp) (by simp)
  · simp only [zeroLeaf, LeafRep]
  · cases h
theorem zeroCell_one {v : Value} {c : CK} (h : zeroCell v c = true) : v.oneCell' = true := by
  unfold zeroCell at h
  split at h <;> first | rfl | cases h
theorem TiFacts.zeros {t : TypeId} {i : TI} {info : TypeInfo} {u : TypeDesc} (f : TiFacts P t i info u) : ∃ z, info.zero = some z ∧ LeavesRep σ ρ G w (i.cells.map zeroLeaf) z.cells.toList ∧
    (∀ x ∈ z.cells.toList, x.oneCell' = true) ∧ (∀ (j : Nat) (x : Value) (c : CK), z.cells[j]? = some x → i.cells[j]? = some c → zeroCell x c = true) := by
  have h := f.zero
  unfold zeroOk at h
  split at h
  · rename_i vs cs heq
    simp only [Bool.and_eq_true, beq_iff_eq, List.all_eq_true] at h
    obtain ⟨h1, h2⟩ := h
    have hz : ∀ (j : Nat) (x : Value) (c : CK), vs[j]? = some x → i.cells[j]? = some c → zeroCell x c = true := by
      intro j x c hx hc
      exact h2 (x, c) (List.mem_of_getElem? (i := j) (by
        rw [List.getElem?_zip_eq_some]
        exact ⟨by simpa using hx, hc⟩))
    refine ⟨_, heq, .of_get (by simpa [Value.cells] using h1) fun j l v hj hv => ?_, fun x hx => ?_, hz⟩
    · simp only [List.getElem?_map, Option.map_eq_some_iff] at hj
      obtain ⟨c, hc, rfl⟩ := hj
      exact zero_one (hz j v c (by simpa [Value.cells] using hv) hc)
    · obtain ⟨j, hj⟩ := List.mem_iff_getElem?.1 hx
      have hlt : j < i.cells.length := by
        rw [← h1]
        simpa [Value.cells] using (List.getElem?_eq_some_iff.1 hj).1
      exact zeroCell_one (hz j x _ (by simpa [Value.cells] using hj) (List.getElem?_eq_getElem hlt))
  · rename_i v c _ hz hcs
    have h1 := zeroCell_one h
    refine ⟨v, hz, ?_, fun x hx => ?_, fun j x c' hx hc => ?_⟩
    · rw [hcs, one_cells h1]
      simp only [List.map_cons, List.map_nil, LeavesRep]
      exact ⟨v, [], rfl, zero_one h, rfl⟩
    · rw [one_cells h1] at hx
      simp only [List.mem_singleton] at hx
      rw [hx]; exact h1
    · rw [one_cells h1] at hx
      rw [hcs] at hc
      cases j with
      | zero =>
        simp only [List.getElem?_cons_zero, Option.some.injEq] at hc
        simp at hx
        rw [← hx, ← hc]; exact h
      | succ j => simp at hc
  · cases h
theorem run_zeroValue {t : TypeId} {info : TypeInfo} {z : Value} (h : P.info? t = some info) (hz : info.zero = some z) : (zeroValue t).run P w = .ok z w := by
  simp [zeroValue, typeInfo, h, hz]

theorem sound_alloc (hR : R E.ntmps F σ ρ a w G) (hd : DstOk E.ntmps o) (hti : TiOk P E.ti) {nv nb nr : Nat} {mv mvs : Bool} (hf : Fresh σ nb nr) {e : TypeId} (ho : o.op = .alloc e) {res : OpRes}
    (h : (sxOp E mv mvs nv nb nr g o).eval σ = some res) (hs : StepsOk cf ρ g nv res.lets) : Sound P E F σ ρ a w g o Q res.upd := by
  simp only [sxOp, ho, eval_bind, Option.bind_eq_some_iff, tiR, eval_ofOpt, eval_guardR] at h
  obtain ⟨ti, h1, _, h2, h⟩ := h
  split at h2
  · rename_i hb
    obtain rfl := noG_eq hb
    simp only [out1, eval_ret, Option.some.injEq] at h
    subst h
    refine ⟨fun hg => ?_, fun hg => by simp [gOn] at hg⟩
    obtain ⟨info, u, f⟩ := tiOf_facts (hti.ok _ _ h1)
    obtain ⟨z, h3, h4, h5, -⟩ := f.zeros (σ := σ) (ρ := ρ) (G := G) (w := w)
    refine wp_value (v := .pointer (some ⟨w.heap.size, 0, none⟩)) (w' := pushB w z.cells e) ?_ ⟨_, hR.newBox hd hf.nb h4⟩
    unfold execOp
    simp only [ho]
    refine run_val ?_
    simp only [Instr.alloc, Sem.run_bind, run_zeroValue f.info_ h3, run_newVar, Result.andThen_ok, Sem.run_pure]
  · cases h2

/-! ### Struct values -/
theorem setRange_len {α : Type} {l : List α} {k : Nat} {r : List α} (h : k + r.length ≤ l.length) : (setRange l k r).length = l.length := by
  simp [setRange]; omega
theorem setRange_get {α : Type} {l : List α} {k : Nat} {r : List α} (h : k + r.length ≤ l.length) (j : Nat) : (setRange l k r)[j]? = if k ≤ j ∧ j < k + r.length then r[j - k]? else l[j]? := by
  unfold setRange
  by_cases h1 : j < k
  · rw [List.append_assoc, List.getElem?_append_left (by simp; omega), List.getElem?_take, if_pos h1, if_neg (by omega)]
  · by_cases h2 : j < k + r.length
    · rw [if_pos ⟨by omega, h2⟩, List.append_assoc, List.getElem?_append_right (by simp; omega), List.getElem?_append_left (by simp; omega)]
      congr 1
      simp; omega
    · rw [if_neg (by omega), List.getElem?_append_right (by simp; omega), List.getElem?_drop]
      congr 1
      simp; omega
theorem setRange_set {α : Type} {l : List α} {k : Nat} {v : α} {r : List α} (h : k + (v :: r).length ≤ l.length) : setRange (l.set k v) (k + 1) r = setRange l k (v :: r) := by
  simp only [List.length_cons] at h
  apply List.ext_getElem?
  intro j
  rw [setRange_get (by simp; omega), setRange_get (by simp; omega)]
  by_cases h1 : k + 1 ≤ j ∧ j < k + 1 + r.length
  · rw [if_pos h1, if_pos (by simp; omega), show j - k = (j - (k + 1)) + 1 by omega, List.getElem?_cons_succ]
  · rw [if_neg h1, List.getElem?_set]
    by_cases h2 : k = j
    · subst h2
      rw [if_pos rfl, if_pos (by omega), if_pos (by simp)]
      simp
    · rw [if_neg h2, if_neg (by simp; omega)]
theorem fold_set (off : Nat) : ∀ (vs : List Value) (k : Nat) (cells : Array Value), off + k + vs.length ≤ cells.size →
    ((vs.zipIdx k).foldl (fun cs x => cs.setIfInBounds (off + x.2) x.1) cells).toList = setRange cells.toList (off + k) vs
  | [], k, cells, h => by simp [setRange]
  | v :: r, k, cells, h => by
    simp only [List.length_cons] at h
    simp only [List.zipIdx_cons, List.foldl_cons]
    rw [fold_set off r (k + 1) _ (by simp; omega), Array.toList_setIfInBounds, ← Nat.add_assoc, setRange_set (by simp; omega)]
theorem LeavesRep.setRange {ls ms : List Leaf} {us xs : List Value} (h : LeavesRep σ ρ G w ls us) (h' : LeavesRep σ ρ G w ms xs) {k : Nat} (hk : k + ms.length ≤ ls.length) : LeavesRep σ ρ G w (setRange ls k ms) (setRange us k xs) := by
  have e1 := h.len
  have e2 := h'.len
  refine .of_get (by rw [setRange_len (by omega), setRange_len hk, e1]) fun i l v hi hv => ?_
  rw [setRange_get hk] at hi
  rw [setRange_get (by omega)] at hv
  rw [e2] at hv
  split at hi
  · rename_i hh
    rw [if_pos hh] at hv
    obtain ⟨v', h1, h2⟩ := h'.get hi
    rw [h1] at hv
    exact Option.some.inj hv ▸ h2
  · rename_i hh
    rw [if_neg hh] at hv
    obtain ⟨v', h1, h2⟩ := h.get hi
    rw [h1] at hv
    exact Option.some.inj hv ▸ h2

theorem fill_step {place : Nat → Option (Nat × Nat)} {cells : Array Value} {i off size : Nat} {v : Value} {rest : List (Nat × Value)} (hp : place i = some (off, size)) (hs : v.cells.toList.length = size) (hb : off + size ≤ cells.size) :
    ∃ cells' : Array Value, Instr.fill place cells ((i, v) :: rest) = Instr.fill place cells' rest ∧ cells'.toList = setRange cells.toList off v.cells.toList := by
  refine ⟨v.cells.zipIdx.foldl (fun cs (x : Value × Nat) => cs.setIfInBounds (off + x.2) x.1) cells, ?_, ?_⟩
  · rw [Instr.fill, hp]
    dsimp only
    have : v.cells.size = size := by simpa using hs
    rw [if_neg]
    simp only [this]
    simp
    omega
  · have := fold_set off v.cells.toList 0 cells (by simpa [hs] using hb)
    rw [Nat.add_zero] at this
    rw [← this, ← Array.foldl_toList, Array.toList_zipIdx]

def PartsRep (σ : Nat → Option Cont) (ρ : List D) (G : Gh) (w : World) (a : Act) : List (Nat × Operand) → List (Nat × SV) → Prop
  | [], ps => ps = []
  | x :: xs, ps => ∃ sv qs, ps = (x.1, sv) :: qs ∧ SVRep σ ρ G w sv (a.eval x.2) ∧ PartsRep σ ρ G w a xs qs
theorem rdParts_rep (hR : R E.ntmps F σ ρ a w G) (hg : gOn ρ g = true) {ty : Nat → TypeId} : ∀ {xs : List (Nat × Operand)} {ps : List (Nat × SV)}, (rdParts E g ty xs).eval σ = some ps →
    PartsRep σ ρ G w a xs ps
  | [], ps, h => by
    simp only [rdParts, eval_ret, Option.some.injEq] at h
    subst h
    exact rfl
  | (i, x) :: xs, ps, h => by
    simp only [rdParts, eval_bind, Option.bind_eq_some_iff, eval_ret, Option.some.injEq] at h
    obtain ⟨sv, h1, l, h2, rfl⟩ := h
    exact ⟨sv, l, rfl, rdSV_rep hR hg h1, rdParts_rep hR hg h2⟩

theorem fillLeaves_rep {flds : List (Nat × Nat)} {place : Nat → Option (Nat × Nat)} (hpl : ∀ i off t f, flds[i]? = some (off, t) → E.ti t = some f → place i = some (off, f.size)) :
    ∀ {xs : List (Nat × Operand)} {ps : List (Nat × SV)}, PartsRep σ ρ G w a xs ps → ∀ {ls ls' : List Leaf} {us : Array Value}, LeavesRep σ ρ G w ls us.toList → fillLeaves flds E.ti ls ps = some ls' →
    ∃ us', Instr.fill place us (xs.map fun x => (x.1, a.eval x.2)) = some us' ∧ LeavesRep σ ρ G w ls' us'.toList
  | [], _, rfl, ls, ls', us, hl, h => by
    simp only [fillLeaves, Option.some.injEq] at h
    subst h
    exact ⟨us, rfl, hl⟩
  | (i, x) :: xs, _, ⟨sv, ps, rfl, h1, hr⟩, ls, ls', us, hl, h => by
    unfold fillLeaves at h
    split at h
    · rename_i off t hfl
      split at h
      · rename_i f hf
        split at h
        · rename_i vs hvs
          cases hb : (Nat.beq vs.length f.size && Nat.ble (off + f.size) ls.length) with
          | false => rw [hb] at h; cases h
          | true =>
            rw [hb, cond_true] at h
            simp only [Bool.and_eq_true, Nat.beq_eq, Nat.ble_eq] at hb
            have h2 := leavesOf_rep hvs h1
            have hlen := hl.len
            obtain ⟨us1, h3, h4⟩ := fill_step (rest := xs.map fun x => (x.1, a.eval x.2)) (hpl _ _ _ _ hfl hf) (by rw [h2.len]; exact hb.1) (by rw [← Array.length_toList, hlen]; exact hb.2)
            obtain ⟨us', h5, h6⟩ := fillLeaves_rep hpl hr (us := us1) (by rw [h4]; exact hl.setRange h2 (by rw [hb.1]; exact hb.2)) h
            exact ⟨us', by rw [List.map_cons, h3]; exact h5, h6⟩
        · cases h
      · cases h
    · cases h

theorem run_mapM_list {α β : Type} (f : α → Sem β) (g : α → β) : ∀ (l : List α), (∀ x ∈ l, (f x).run P w = .ok (g x) w) → (l.mapM f).run P w = .ok (l.map g) w
  | [], _ => by simp
  | x :: l, h => by
    rw [List.mapM_cons, Sem.run_bind, h x (by simp)]
    simp only [Result.andThen_ok]
    rw [Sem.run_bind, run_mapM_list f g l fun y hy => h y (by simp [hy])]
    simp
theorem run_mapM_array {α β : Type} (f : α → Sem β) (g : α → β) (l : Array α) (h : ∀ x ∈ l.toList, (f x).run P w = .ok (g x) w) : (l.mapM f).run P w = .ok (l.map g) w := by
  rw [Array.mapM_eq_mapM_toList, map_eq_pure_bind, Sem.run_bind, run_mapM_list f g _ h]
  simp only [Result.andThen_ok, Sem.run_pure]
  congr 1
  apply Array.ext'
  simp

theorem foldl_bind_none {α β : Type} (f : List β → α → Option (List β)) : ∀ (l : List α), l.foldl (fun acc x => acc.bind fun r => f r x) none = none
  | [] => rfl
  | x :: l => by rw [List.foldl_cons]; exact foldl_bind_none f l
theorem foldl_bind_mem {α β : Type} (f : List β → α → Option (List β)) : ∀ (l : List α) (r0 r : List β), l.foldl (fun acc x => acc.bind fun r => f r x) (some r0) = some r → ∀ x ∈ l, ∃ r1 r2, f r1 x = some r2
  | [], _, _, _, x, hx => by simp at hx
  | y :: l, r0, r, h, x, hx => by
    rw [List.foldl_cons, Option.bind_some] at h
    cases hf : f r0 y with
    | none => rw [hf, foldl_bind_none] at h; cases h
    | some r1 =>
      rcases List.mem_cons.1 hx with rfl | hx
      · exact ⟨r0, r1, hf⟩
      · rw [hf] at h
        exact foldl_bind_mem f l r1 r h x hx
theorem flat_info {d : Nat} {t : TypeId} {l : List TypeId} (h : flat P d t = some l) : ∃ i, P.info? t = some i := by
  cases d with
  | zero => cases h
  | succ d =>
    unfold flat at h
    unfold Program.underlying at h
    cases hi : P.info? t with
    | none => rw [hi] at h; cases h
    | some i => exact ⟨i, rfl⟩
theorem flat_field {d : Nat} {t : TypeId} {l : List TypeId} {fs : Array Field} (h : flat P (d + 1) t = some l) (hu : P.underlying t = some (.struct fs)) : ∀ f ∈ fs.toList, ∃ i, P.info? f.type = some i := by
  unfold flat at h
  rw [hu] at h
  dsimp only at h
  intro f hf
  obtain ⟨r1, r2, h1⟩ := foldl_bind_mem _ _ _ _ h f hf
  cases hm : flat P d f.type with
  | none => rw [hm] at h1; cases h1
  | some m => exact flat_info hm
theorem TiFacts.struct {t : TypeId} {i : TI} {info : TypeInfo} {u : TypeDesc} (f : TiFacts P t i info u) (h : i.agg = true) : ∃ fs, u = .struct fs ∧ ∀ fd ∈ fs.toList, ∃ i, P.info? fd.type = some i := by
  rw [f.agg] at h
  have hc := f.cells
  cases hfl : flat P 12 t with
  | none => rw [hfl] at hc; cases hc
  | some l =>
    unfold aggOf at h
    split at h
    · rename_i fs
      exact ⟨fs, rfl, flat_field hfl f.und⟩
    · unfold flat at hfl
      rw [f.und] at hfl
      cases hfl
    · cases h

theorem sound_build (hR : R E.ntmps F σ ρ a w G) (hd : DstOk E.ntmps o) (hti : TiOk P E.ti) {nv nb nr : Nat} {mv mvs : Bool} {t : TypeId} {parts : Array (Nat × Operand)} (ho : o.op = .build t parts) {res : OpRes}
    (h : (sxOp E mv mvs nv nb nr g o).eval σ = some res) (hs : StepsOk cf ρ g nv res.lets) : Sound P E F σ ρ a w g o Q res.upd := by
  simp only [sxOp, ho, eval_bind, Option.bind_eq_some_iff, tiR, eval_ofOpt, eval_guardR] at h
  obtain ⟨ti, h1, _, h2, ps, h3, h⟩ := h
  split at h2
  · rename_i hagg
    obtain ⟨info, u, f⟩ := tiOf_facts (hti.ok _ _ h1)
    obtain ⟨fs, rfl, hfs⟩ := f.struct hagg
    split at h
    · rename_i ls hls
      refine sound_out1 hR hd h hs fun hg _ => ?_
      obtain ⟨z, h4, h5, -, -⟩ := f.zeros (σ := σ) (ρ := ρ) (G := G) (w := w)
      have hpl : ∀ (i off t' : Nat) (f' : TI), ti.flds[i]? = some (off, t') → E.ti t' = some f' → (fs.map fun fd => (fd.offset, ((P.info? fd.type).map (·.size)).getD 0))[i]? = some (off, f'.size) := by
        intro i off t' f' hfl hf'
        obtain ⟨fs', fd, e1, e2, e3, e4⟩ := flds_und f hfl
        obtain rfl : fs = fs' := by injection e1
        obtain ⟨info', u', ff⟩ := tiOf_facts (hti.ok _ _ hf')
        rw [Array.getElem?_map, e2, Option.map_some, e3, e4, ff.info_]
        simp [ff.size]
      obtain ⟨us', h6, h7⟩ := fillLeaves_rep hpl (rdParts_rep hR hg h3) (us := z.cells) h5 hls
      refine ⟨.agg us', ⟨us'.toList, by simp, h7⟩, ?_⟩
      unfold execOp
      simp only [ho]
      refine run_val ?_
      have hm := run_mapM_array (P := P) (w := w) (fun fd : Field => (do pure (fd.offset, ← sizeOf fd.type) : Sem (Nat × Nat))) (fun fd => (fd.offset, ((P.info? fd.type).map (·.size)).getD 0)) fs (fun fd hfd => by
        obtain ⟨i, hi⟩ := hfs fd hfd
        simp only [Sem.run_bind, run_sizeOf hi, Result.andThen_ok, Sem.run_pure, hi, Option.map_some, Option.getD_some])
      unfold Instr.build
      simp only [Sem.run_bind, run_zeroValue f.info_ h4, Result.andThen_ok, run_underlying f.und]
      rw [hm]
      have e : (parts.map fun x => (x.1, a.eval x.2)).toList = parts.toList.map fun x => (x.1, a.eval x.2) := by simp
      simp only [Result.andThen_ok]
      rw [e, h6]
      rfl
    · cases h
  · cases h2

end
end Go.Proofs.Ytacfmplofkjonaa.Rf

/- Writing into variables; moving what is owned. -/
namespace Go.Proofs.Ytacfmplofkjonaa.Rf
set_option linter.unusedVariables false
set_option linter.unusedSimpArgs false

section
variable {P : Program} {E : Env} {F : Frame0} {σ : Nat → Option Cont} {ρ : List D} {a : Act} {w w' : World} {G : Gh} {g : Option (Atom × Bool)} {o : Oper} {cf : Nat → List D → Option (List D)} {Q : Exit → Act → World → Prop} {next : Act → World → Prop}

theorem add_plain {b : Addr} (h : b.spot = none) (k : Nat) : b.add k = ⟨b.block, b.off + k, none⟩ := by
  cases b
  simp only at h
  subst h
  unfold Addr.add
  split <;> simp_all

theorem FrameOk.write (h : FrameOk F G w) {B off : Nat} {vs : List Value} {ow : Ow} (ho : G.own B = ow) (hz : ow ≠ .frz ∧ ow ≠ .oth)
    (hb : ∀ b, ow = .box b → B < F.w0.heap.size → F.own0 B = .box b → (F.rng b).1 ≤ off ∧ off + vs.length ≤ (F.rng b).2) : FrameOk F G (w.setCells B off vs) := by
  obtain ⟨e1, e2, e3⟩ := setCells_rest B vs off w
  refine ⟨by rw [e1]; exact h.os, by rw [e2]; exact h.tape, by rw [e3]; exact h.output, by rw [setCells_size]; exact h.size, fun b hlt hf => ?_, fun b j hlt hj => ?_, fun b hlt => ?_⟩
  · obtain ⟨h1, h2⟩ := h.keep b hlt hf
    have hne : b ≠ B := by
      rintro rfl
      rw [ho] at h2
      rw [← h2] at hf
      rcases hf with hf | hf
      · exact hz.1 hf
      · exact hz.2 hf
    exact ⟨by rw [setCells_other B vs off w b hne]; exact h1, h2⟩
  · obtain ⟨h1, c0, c1, e, fr, h2, h3, h4, h5⟩ := h.boxes b j hlt hj
    refine ⟨h1, c0, ?_⟩
    by_cases hne : b = B
    · subst hne
      obtain ⟨c', h6, h7, h8⟩ := setCells_same b vs off w c1 e fr h3
      refine ⟨c', e, fr, h2, h6, by rw [h7]; exact h4, fun k hk => ?_⟩
      have hj' : ow = .box j := by rw [← ho]; exact h1
      obtain ⟨h9, h10⟩ := hb j hj' hlt hj
      rw [h8 k (by omega)]
      exact h5 k hk
    · exact ⟨c1, e, fr, h2, by rw [setCells_other B vs off w b hne]; exact h3, h4, h5⟩
  · rw [setCells_size] at hlt
    exact h.fresh b hlt

theorem sound_store_px (hR : R E.ntmps F σ ρ a w G) (hti : TiOk P E.ti) {nv : Nat} {mv mvs : Bool} {t : TypeId} {x y : Operand} (ho : o.op = .store t x y) {ti : TI} (hi : E.ti t = some ti) {b off : Nat} {ls : List Leaf} {sv : SV}
    (hx : gOn ρ g = true → LeafRep σ ρ G w (.px b off) (a.eval x)) (hy : gOn ρ g = true → SVRep σ ρ G w sv (a.eval y)) (hls : leavesOf ti.agg sv = some ls) {res : OpRes}
    (h : (sxStore nv mv mvs o g ti (.px b off) ls).eval σ = some res) : Sound P E F σ ρ a w g o Q res.upd := by
  simp only [sxStore, eval_bind, eval_guardR, Option.bind_eq_some_iff, eval_rdK, Option.bind_some] at h
  obtain ⟨_, h1, h⟩ := h
  split at h1
  · rename_i hb1
    simp only [Bool.and_eq_true, Nat.beq_eq, Option.isNone_iff_eq_none] at hb1
    obtain ⟨hlen, hdst⟩ := hb1
    split at h
    · rename_i bs hk
      simp only [eval_bind, eval_guardR, Option.bind_eq_some_iff] at h
      obtain ⟨_, h2, h⟩ := h
      split at h2
      · rename_i hb2
        simp only [Bool.and_eq_true, Nat.ble_eq] at hb2
        obtain ⟨⟨hle, hg0⟩, hst⟩ := hb2
        obtain rfl := noG_eq hg0
        simp only [eval_ret, Option.some.injEq] at h
        subst h
        refine ⟨fun hg => ?_, fun hg => by simp [gOn] at hg⟩
        obtain ⟨info, u, f⟩ := tiOf_facts (hti.ok _ _ hi)
        have hl := leavesOf_rep hls (hy hg)
        have hl1 := hl.ones hst
        have hll := hl.len
        have hpx := hx hg
        simp only [LeafRep] at hpx
        obtain ⟨h3, h4, h5⟩ := hR.box hk
        have h4 : G.own (G.bx b).block = .box b := by simpa using h4
        generalize hvs : (a.eval y).cells.toList = vs at hl hl1 hll
        have hcell : ∀ j, off ≤ j → j < off + ls.length → ∃ v, w.cell? ⟨(G.bx b).block, (G.bx b).off + j, none⟩ = some v ∧ w.frozen? ⟨(G.bx b).block, (G.bx b).off + j, none⟩ = false := by
          intro j hj1 hj2
          have hbj : bs[j]? = some bs[j] := List.getElem?_eq_getElem (by omega)
          obtain ⟨v, h6, h7, -⟩ := h5 j _ hbj
          rw [add_plain h3] at h6 h7
          exact ⟨v, h6, h7⟩
        have hrun : (execOp a.eval o).run P w = .ok .skip (w.setCells (G.bx b).block ((G.bx b).off + off) vs) := by
          unfold execOp
          simp only [ho]
          have := run_storeVar (P := P) (w := w) f (b := (G.bx b).block) (off := (G.bx b).off + off) (v := a.eval y) (by rw [hvs]; omega)
            (fun j hj => by
              obtain ⟨v, h6, -⟩ := hcell (off + j) (by omega) (by omega)
              exact ⟨v, by rw [Nat.add_assoc]; exact h6⟩)
            (fun j hj => by
              obtain ⟨v, -, h6⟩ := hcell (off + j) (by omega) (by omega)
              rw [Nat.add_assoc]; exact h6) (by rw [hvs]; exact hl1)
          simp only [Instr.storeAt, Instr.sureAddr, Sem.run_bind, hpx.1, Sem.run_pure, Result.andThen_ok, add_plain h3, this, hvs]
        refine wp_skip' hrun ⟨G, ?_⟩
        have hne : ∀ b', G.own b' ≠ .box b → b' ≠ (G.bx b).block := fun b' hb e => hb (by rw [e]; exact h4)
        have hkR : ∀ r, upds σ [(kB b, Cont.box false (setRange bs off ls))] (kR r) = σ (kR r) := fun r => by
          refine upds_none _ _ _ fun c hc => ?_
          simp only [List.mem_singleton, Prod.mk.injEq] at hc
          exact kB_ne_kR hc.1.symm
        have hfr : Fr σ G w (upds σ [(kB b, Cont.box false (setRange bs off ls))]) G (w.setCells (G.bx b).block ((G.bx b).off + off) vs) := by
          refine ⟨fun b' hb hlt => ⟨hb, setCells_other _ _ _ _ _ (hne b' (by rw [hb]; simp))⟩, fun r k _ hv => ?_, fun r k hk => hk.same hkR, fun r k b' p _ _ hb => ⟨.inl hb, setCells_other _ _ _ _ _ (hne b' (by rw [hb]; simp))⟩,
            fun r k m _ hv => ⟨?_, fun b' p hb => hb⟩, fun _ _ => rfl, fun _ _ => rfl, fun k hk => upds_some _ _ _ (.inl hk), fun _ _ _ _ _ _ _ hb => hb⟩
          · obtain ⟨x', m, st, e, hs⟩ := hv
            exact ⟨x', m, st, by rw [← hkR]; exact e, hs⟩
          · obtain ⟨x', e⟩ := hv
            exact ⟨x', by rw [← hkR]; exact e⟩
        have hsl : (setRange bs off ls).length = bs.length := setRange_len hle
        rw [hdst]
        refine hR.upd _ hfr hR.tmps hR.defers (hR.frame.write h4 (by simp) fun b' e hlt ho' => ?_) (fun t _ => rfl) (fun b' ro ls' hb' hnot => ?_) (fun b' ls' hb' hlt ho' => ?_) (fun k c hk1 hk2 => ?_)
        · obtain rfl : b = b' := by injection e
          have := hR.rng b bs hk hlt ho'
          rw [this]
          dsimp only
          omega
        · refine ⟨rfl, setCells_other _ _ _ _ _ (hne _ ?_)⟩
          obtain ⟨_, h6, _⟩ := hR.box hb'
          rw [h6]
          split
          · simp
          · intro e
            obtain rfl : b' = b := by injection e
            exact hnot _ (List.mem_singleton.2 rfl)
        · simp only [List.mem_singleton, Prod.mk.injEq, Cont.box.injEq, true_and] at hb'
          obtain ⟨e, rfl⟩ := hb'
          obtain rfl := kB_inj e
          rw [hsl]
          exact hR.rng b' bs hk hlt ho'
        · simp only [List.mem_singleton, Prod.mk.injEq] at hk1
          obtain ⟨rfl, rfl⟩ := hk1
          refine ⟨b, rfl, h3, by simpa using h4, fun j l hj => ?_⟩
          rw [setRange_get hle] at hj
          rw [World.frozen?_setCells, add_plain h3]
          split at hj
          · rename_i hin
            obtain ⟨v, h6, h7⟩ := hl.get hj
            obtain ⟨u', h8, h9⟩ := hcell j hin.1 hin.2
            refine ⟨v, ?_, h9, LeafRep.mono hfr l v h7⟩
            have := World.cell?_setCells_in (G.bx b).block vs ((G.bx b).off + off) w (fun j' hj' => by
              obtain ⟨v', h10, -⟩ := hcell (off + j') (by omega) (by omega)
              rw [Nat.add_assoc, h10]; rfl) (j - off) (by omega)
            rw [show (G.bx b).off + off + (j - off) = (G.bx b).off + j by omega] at this
            rw [this, ← h6, List.getElem?_eq_getElem]
          · rename_i hout
            obtain ⟨v, h6, h7, h8⟩ := h5 j l hj
            rw [add_plain h3] at h6 h7
            refine ⟨v, ?_, h7, LeafRep.mono hfr l v h8⟩
            rw [World.cell?_setCells_out _ _ _ _ _ (fun _ _ => by dsimp only; omega)]
            exact h6
      · cases h2
    · cases h
  · cases h1

end
end Go.Proofs.Ytacfmplofkjonaa.Rf

/- Moving what is owned; data changed below a path. -/
namespace Go.Proofs.Ytacfmplofkjonaa.Rf
set_option linter.unusedVariables false
set_option linter.unusedSimpArgs false

/-- What is owned goes elsewhere, perhaps less deep. -/
theorem Rp.move {own own' : Nat → Ow} {w w' : World} {r r' : Nat} {p : List Nat} {m : Nat} {v : Value} {d : D} (h : Rp own w r p m v d)
    (hz : ∀ b, own b = .frz → b < w.heap.size → own' b = .frz ∧ w'.heap[b]? = w.heap[b]?) : ∀ (p' : List Nat) (m' : Nat), m' ≤ m →
    (∀ b t, own b = .slc r (p ++ t) → own' b = (if t.length < m' then .slc r' (p' ++ t) else .frz) ∧ w'.heap[b]? = w.heap[b]?) → Rp own' w' r' p' m' v d := by
  induction h with
  | sc h => exact fun _ _ _ _ => .sc h
  | hole v h1 => exact fun _ _ _ _ => .hole v h1
  | fz h =>
    intro p' m' hm hs
    obtain rfl : m' = 0 := by omega
    exact .fz (h.mono' fun b hb hlt => hz b hb hlt)
  | sl A a n c sz rs vs hn hc hA hsz hown hcell hrec ih =>
    rename_i p m
    intro p' m' hm hs
    have hlt : ∀ i row, rs[i]? = some row → i < rs.length := fun i row hi => by
      rcases Nat.lt_or_ge i rs.length with h | h
      · exact h
      · simp [List.getElem?_eq_none h] at hi
    have hA' : ∀ i row, rs[i]? = some row → A = some a := fun i row hi => by
      rcases hA with e | ⟨e, e'⟩
      · exact e
      · have := hlt i row hi; omega
    cases m' with
    | zero =>
      refine .fz (.rows A a n c sz rs vs hn hc ?_ hsz (fun i row hi j d hj => ?_) (fun i row hi j d hj => ?_))
      · rcases hA with e | ⟨e, e'⟩
        · exact .inr e
        · exact .inl (by omega)
      · obtain ⟨h1, h2⟩ := hs a.block [] (by simpa using (hown (hA' i row hi)).2.1)
        refine ⟨by simpa using h1, ?_⟩
        exact (heap_cell (w := w) (w' := w') (by rw [add_block]; exact h2)).trans (hcell i row hi j d hj)
      · exact (ih i row hi j d hj [] 0 (Nat.zero_le _) (fun b t hb => by
          have := hs b ([i * sz + j] ++ t) (by rw [← List.append_assoc]; exact hb)
          simpa using this)).zero
    | succ m' =>
      refine .sl A a n c sz rs vs hn hc hA hsz (fun e => ?_) (fun i row hi j d hj => ?_) (fun i row hi j d hj => ?_)
      · obtain ⟨h1, h2, h3⟩ := hown e
        obtain ⟨h4, h5⟩ := hs a.block [] (by simpa using h2)
        refine ⟨h1, by simpa using h4, fun k hk => ?_⟩
        obtain ⟨u, hu, hf⟩ := h3 k hk
        exact ⟨u, (heap_cell (w := w) (w' := w') (by rw [add_block]; exact h5)).trans hu, (heap_frozen (w := w) (w' := w') (by rw [add_block]; exact h5)).trans hf⟩
      · obtain ⟨h1, h2⟩ := hs a.block [] (by simpa using (hown (hA' i row hi)).2.1)
        exact (heap_cell (w := w) (w' := w') (by rw [add_block]; exact h2)).trans (hcell i row hi j d hj)
      · refine ih i row hi j d hj (p' ++ [i * sz + j]) m' (by omega) (fun b t hb => ?_)
        have := hs b ([i * sz + j] ++ t) (by rw [← List.append_assoc]; exact hb)
        simp only [List.length_append, List.length_singleton] at this
        rw [← List.append_assoc] at this
        refine ⟨?_, this.2⟩
        rw [this.1]
        by_cases ht : t.length < m'
        · rw [if_pos ht, if_pos (by omega)]
        · rw [if_neg ht, if_neg (by omega)]

/-- A new part y at a path: the whole was x, is x'. -/
inductive Upd : List Nat → D → D → D → Prop
  | here (x y : D) : Upd [] x y y
  | down (sz : Nat) (rs : List (List D)) (i j : Nat) (row : List D) (z z' y : D) (p : List Nat) (hi : rs[i]? = some row) (hj : row[j]? = some z)
      (h : Upd p z y z') : Upd ((i * sz + j) :: p) (.rows sz rs) y (.rows sz (rs.set i (row.set j z')))

theorem idx_ne {i j i' j' sz : Nat} (hj : j < sz) (hj' : j' < sz) (h : i * sz + j = i' * sz + j') : i = i' ∧ j = j' := by
  have h1 : (i * sz + j) / sz = i := by
    rw [Nat.mul_comm, Nat.mul_add_div (by omega), Nat.div_eq_of_lt hj, Nat.add_zero]
  have h2 : (i' * sz + j') / sz = i' := by
    rw [Nat.mul_comm, Nat.mul_add_div (by omega), Nat.div_eq_of_lt hj', Nat.add_zero]
  rw [h, h2] at h1
  subst h1
  exact ⟨rfl, by omega⟩

theorem Rp.sl_inv {own : Nat → Ow} {w : World} {r : Nat} {p : List Nat} {m : Nat} {v : Value} {sz : Nat} {rs : List (List D)} (h : Rp own w r p (m + 1) v (.rows sz rs)) :
    ∃ (A : Option Addr) (a : Addr) (n c : Nat) (vs : Nat → Nat → Value), v = .slice A n c ∧ rs.length = n ∧ n ≤ c ∧ (A = some a ∨ (A = none ∧ c = 0)) ∧ (∀ r ∈ rs, r.length = sz) ∧
      (A = some a → a.spot = none ∧ own a.block = .slc r p ∧ ∀ k, k < c * sz → ∃ u, w.cell? (a.add k) = some u ∧ w.frozen? (a.add k) = false) ∧
      (∀ i row, rs[i]? = some row → ∀ j d, row[j]? = some d → w.cell? (a.add (i * sz + j)) = some (vs i j)) ∧
      (∀ i row, rs[i]? = some row → ∀ j d, row[j]? = some d → Rp own w r (p ++ [i * sz + j]) m (vs i j) d) := by
  cases h with
  | sc h => cases h
  | sl A a n c sz rs vs hn hc hA hsz hown hcell hrec => exact ⟨A, a, n, c, vs, rfl, hn, hc, hA, hsz, hown, hcell, hrec⟩

/-- The whole, where a part is new. -/
theorem Rp.upd {own own' : Nat → Ow} {w w' : World} {r M' : Nat} {full : List Nat} {y : D} {u : Value}
    (hz : ∀ b, own b = .frz → b < w.heap.size → own' b = .frz ∧ w'.heap[b]? = w.heap[b]?)
    (hs : ∀ b t, own b = .slc r t → ¬ full <+: t → own' b = (if t.length < M' then .slc r t else .frz) ∧ w'.heap[b]? = w.heap[b]?)
    (hM : full.length ≤ M') (hnew : Rp own' w' r full (M' - full.length) u y) :
    ∀ (p q : List Nat) (M : Nat) (v : Value) (x x' : D), full = q ++ p → M' ≤ M → Rp own w r q (M - q.length) v x → Nest own w r q v p u → Upd p x y x' → Rp own' w' r q (M' - q.length) v x'
  | [], q, M, v, x, x', hf, hMM, hx, hn, hu => by
    cases hu
    simp only [Nest] at hn
    rw [List.append_nil] at hf
    subst hf hn
    exact hnew
  | k :: p, q, M, v, x, x', hf, hMM, hx, hn, hu => by
    generalize hk : k :: p = kp at hu
    cases hu with
    | here => cases hk
    | down sz rs i j row z z' y p' hi hj hu =>
      obtain ⟨rfl, rfl⟩ := List.cons.inj hk
      have hlen : full.length = q.length + (p.length + 1) := by rw [hf]; simp
      obtain ⟨m, hm⟩ : ∃ m, M - q.length = m + 1 := ⟨M - q.length - 1, by omega⟩
      obtain ⟨m', hm'⟩ : ∃ m', M' - q.length = m' + 1 := ⟨M' - q.length - 1, by omega⟩
      rw [hm] at hx
      rw [hm']
      obtain ⟨A, a, n, c, vs, rfl, h1, h2, h3, h4, h5, h6, h7⟩ := hx.sl_inv
      have hil : i < rs.length := (List.getElem?_eq_some_iff.1 hi).1
      have hA : A = some a := by
        rcases h3 with e | ⟨e, e'⟩
        · exact e
        · omega
      subst hA
      obtain ⟨h8, h9, h10⟩ := h5 rfl
      -- the nested cell
      obtain ⟨a', n', c', u', e1, e2, e3, e4⟩ := hn
      obtain ⟨rfl, rfl, rfl⟩ : a = a' ∧ n = n' ∧ c = c' := by injection e1 with a b c; exact ⟨Option.some.inj a, b, c⟩
      have hcell0 := h6 i row hi j z hj
      rw [hcell0] at e3
      obtain rfl := Option.some.inj e3
      have hq : ¬ full <+: q := by
        intro e
        have := e.length_le
        omega
      obtain ⟨hown', hheap⟩ := hs _ _ h9 hq
      rw [if_pos (by omega)] at hown'
      have hkeep : ∀ k, w'.cell? (a.add k) = w.cell? (a.add k) := fun k => heap_cell (w := w) (w' := w') (by rw [add_block]; exact hheap)
      have hkeepf : ∀ k, w'.frozen? (a.add k) = w.frozen? (a.add k) := fun k => heap_frozen (w := w) (w' := w') (by rw [add_block]; exact hheap)
      have hrec := Rp.upd hz hs hM hnew p (q ++ [i * sz + j]) M (vs i j) z z' (by rw [hf]; simp) hMM (by
        have := h7 i row hi j z hj
        rwa [show M - (q ++ [i * sz + j]).length = m by simp; omega]) e4 hu
      rw [show M' - (q ++ [i * sz + j]).length = m' by simp; omega] at hrec
      have hrowlen : row.length = sz := h4 row (List.mem_of_getElem? hi)
      have hlt : j < sz := by rw [← hrowlen]; exact (List.getElem?_eq_some_iff.1 hj).1
      -- any cell of the new rows
      have hget : ∀ i' row', (rs.set i (row.set j z'))[i']? = some row' → ∀ j' d, row'[j']? = some d → (i' = i ∧ j' = j ∧ d = z') ∨ (∃ row0, rs[i']? = some row0 ∧ row0[j']? = some d ∧ ¬ (i' = i ∧ j' = j)) := by
        intro i' row' hi' j' d hj'
        rw [List.getElem?_set] at hi'
        by_cases hii : i = i'
        · subst hii
          rw [if_pos rfl, if_pos hil] at hi'
          obtain rfl := Option.some.inj hi'
          rw [List.getElem?_set] at hj'
          by_cases hjj : j = j'
          · subst hjj
            rw [if_pos rfl, if_pos (by omega)] at hj'
            exact .inl ⟨rfl, rfl, (Option.some.inj hj').symm⟩
          · rw [if_neg hjj] at hj'
            exact .inr ⟨row, hi, hj', fun e => hjj e.2.symm⟩
        · rw [if_neg hii] at hi'
          exact .inr ⟨row', hi', hj', fun e => hii e.1.symm⟩
      refine .sl _ a n c sz _ vs (by simpa using h1) h2 (.inl rfl) (fun row' hr => ?_) (fun _ => ⟨h8, hown', fun k hk => ?_⟩) (fun i' row' hi' j' d hj' => ?_) (fun i' row' hi' j' d hj' => ?_)
      · rcases List.mem_or_eq_of_mem_set hr with hr | rfl
        · exact h4 _ hr
        · simpa using hrowlen
      · rw [hkeep, hkeepf]
        exact h10 k hk
      · rw [hkeep]
        rcases hget i' row' hi' j' d hj' with ⟨rfl, rfl, rfl⟩ | ⟨row0, h11, h12, -⟩
        · exact hcell0
        · exact h6 _ _ h11 _ _ h12
      · rcases hget i' row' hi' j' d hj' with ⟨rfl, rfl, rfl⟩ | ⟨row0, h11, h12, hne⟩
        · exact hrec
        · refine (h7 _ _ h11 _ _ h12).move hz _ m' (by omega) fun b t hb => ?_
          have hnp : ¬ full <+: q ++ [i' * sz + j'] ++ t := by
            intro e
            rw [hf, List.append_assoc, List.prefix_append_right_inj] at e
            have e' := (List.cons_prefix_cons.1 e).1
            have hj'l : j' < sz := by
              have := (List.getElem?_eq_some_iff.1 h12).1
              rw [h4 row0 (List.mem_of_getElem? h11)] at this
              exact this
            obtain ⟨h15, h16⟩ := idx_ne hj'l hlt e'.symm
            exact hne ⟨h15, h16⟩
          obtain ⟨h13, h14⟩ := hs b _ hb hnp
          simp only [List.length_append, List.length_singleton] at h13
          refine ⟨?_, h14⟩
          rw [h13]
          by_cases ht : t.length < m'
          · rw [if_pos ht, if_pos (by omega)]
          · rw [if_neg ht, if_neg (by omega)]

/-! ### The steps that lay a new part -/
theorem stepsN_foldl : ∀ (l : List Step) (n : Nat), l.foldl (fun s x => s + x.n) n = n + stepsN l
  | [], n => rfl
  | s :: l, n => by
    simp only [stepsN, List.foldl_cons]
    rw [stepsN_foldl l (n + s.n), stepsN_foldl l (0 + s.n)]
    omega
theorem stepsN_cons (s : Step) (l : List Step) : stepsN (s :: l) = s.n + stepsN l := by
  show (s :: l).foldl (fun s x => s + x.n) 0 = _
  rw [List.foldl_cons, stepsN_foldl]; omega
theorem stepsN_append : ∀ (l m : List Step), stepsN (l ++ m) = stepsN l + stepsN m
  | [], m => by simp [stepsN]
  | s :: l, m => by rw [List.cons_append, stepsN_cons, stepsN_cons, stepsN_append l m]; omega
section
variable {ρ : List D} {g : Option (Atom × Bool)} {cf : Nat → List D → Option (List D)}
theorem StepsOk.append : ∀ {l m : List Step} {nv : Nat}, StepsOk cf ρ g nv (l ++ m) → StepsOk cf ρ g nv l ∧ StepsOk cf ρ g (nv + stepsN l) m
  | [], m, nv, h => ⟨trivial, h⟩
  | s :: l, m, nv, h => by
    obtain ⟨h1, h2⟩ := h
    obtain ⟨h3, h4⟩ := StepsOk.append h2
    exact ⟨⟨h1, h3⟩, by rw [stepsN_cons, ← Nat.add_assoc]; exact h4⟩

theorem set_run {sz off n : Nat} {x i : D} {vs ds : List D} (h : (Prim.set sz off n).run (x :: i :: vs) = some ds) :
    ∃ rs k iv row, x = .rows sz rs ∧ i = .int k iv ∧ 0 ≤ iv ∧ rs[iv.toNat]? = some row ∧ off + n ≤ row.length ∧ vs.length = n ∧ ds = [.rows sz (rs.set iv.toNat (row.take off ++ vs ++ row.drop (off + n)))] := by
  cases x <;> cases i <;> simp only [Prim.run] at h <;> first | cases h | skip
  rename_i sz' rs k iv
  split at h
  · rename_i h1
    obtain ⟨rfl, h1⟩ := h1
    split at h
    · rename_i row hr
      split at h
      · rename_i h2
        simp only [Option.some.injEq] at h
        exact ⟨rs, k, iv, row, rfl, rfl, h1, hr, h2.1, h2.2, h.symm⟩
      · cases h
    · cases h
  · cases h
theorem take_set {α : Type} {l : List α} {k : Nat} {x : α} (h : k < l.length) : l.take k ++ [x] ++ l.drop (k + 1) = l.set k x := by
  apply List.ext_getElem?
  intro j
  rw [List.getElem?_set]
  by_cases h1 : j < k
  · rw [List.append_assoc, List.getElem?_append_left (by simp; omega), List.getElem?_take, if_pos h1, if_neg (by omega)]
  · by_cases h2 : k = j
    · subst h2
      rw [if_pos rfl, if_pos h, List.append_assoc, List.getElem?_append_right (by simp; omega)]
      simp [Nat.min_eq_left (Nat.le_of_lt h)]
    · rw [if_neg h2, List.getElem?_append_right (by simp; omega), List.getElem?_drop]
      congr 1
      simp; omega

theorem nest_upd (hg : gOn ρ g = true) : ∀ (q : List (Atom × Nat × Nat)) (nv : Nat) (X y : Atom), StepsOk cf ρ g nv (nest nv X q y).1 → Upd (pathVal ρ q) (X.val ρ) (y.val ρ) ((nest nv X q y).2.val ρ)
  | [], nv, X, y, _ => .here _ _
  | (i, sz, off) :: p, nv, X, y, h => by
    have hpv : pathVal ρ ((i, sz, off) :: p) = (idxVal ρ i * sz + off) :: pathVal ρ p := rfl
    rw [hpv]
    cases p with
    | nil =>
      simp only [nest] at h ⊢
      obtain ⟨d, h1, h2⟩ := one_of h.1 hg
      simp only [List.map_cons, List.map_nil] at h1
      obtain ⟨rs, k, iv, row, e1, e2, e3, e4, e5, e6, e7⟩ := set_run h1
      simp only [List.cons.injEq, and_true] at e7
      have hi : idxVal ρ i = iv.toNat := by simp [idxVal, e2]
      rw [e1, hi, h2, e7, take_set (by omega)]
      exact .down sz rs iv.toNat off row _ _ _ _ e4 (List.getElem?_eq_getElem (by omega)) (.here _ _)
    | cons z p =>
      have hne : nest nv X ((i, sz, off) :: z :: p) y =
          ([.prim (.row sz off [false]) [X, i] 1] ++ (nest (nv + 1) (.v nv) (z :: p) y).1 ++ [.prim (.set sz off 1) [X, i, (nest (nv + 1) (.v nv) (z :: p) y).2] 1], .v (nv + 1 + stepsN (nest (nv + 1) (.v nv) (z :: p) y).1)) := rfl
      rw [hne] at h ⊢
      obtain ⟨h1, h2⟩ := StepsOk.append h
      obtain ⟨h3, h4⟩ := StepsOk.append h1
      obtain ⟨d, h5, h6⟩ := one_of h3.1 hg
      have hn1 : stepsN [Step.prim (.row sz off [false]) [X, i] 1] = 1 := rfl
      rw [hn1] at h4
      rw [stepsN_append, hn1, ← Nat.add_assoc] at h2
      have ih := nest_upd hg (z :: p) (nv + 1) (.v nv) y h4
      obtain ⟨d', h7, h8⟩ := one_of h2.1 hg
      simp only [List.map_cons, List.map_nil] at h5 h7
      obtain ⟨rs, k, iv, row, e1, e2, e3, e4, e5, e6, e7⟩ := set_run h7
      obtain ⟨rs', k', iv', row', f1, f2, f3, f4, f5, f6, f7⟩ := row_run h5
      rw [e1] at f1
      obtain rfl : rs = rs' := by injection f1
      rw [e2] at f2
      obtain ⟨rfl, rfl⟩ : k = k' ∧ iv = iv' := by injection f2 with a b; exact ⟨a, b⟩
      rw [e4] at f4
      obtain rfl := Option.some.inj f4
      simp only [List.cons.injEq, and_true] at e7
      have hi : idxVal ρ i = iv.toNat := by simp [idxVal, e2]
      have hz : row[off]? = some ((Atom.v nv).val ρ) := by
        rw [h6]
        have : ((row.drop off).take 1)[0]? = some d := by
          rw [show [false].length = 1 from rfl] at f7
          rw [← f7]; rfl
        rw [List.getElem?_take, if_pos (by omega), List.getElem?_drop] at this
        simpa using this
      rw [e1, hi, h8, e7, take_set (by omega)]
      exact .down sz rs iv.toNat off row _ _ _ _ e4 hz ih
end
end Go.Proofs.Ytacfmplofkjonaa.Rf

/- A step that changes what is owned. -/
namespace Go.Proofs.Ytacfmplofkjonaa.Rf
set_option linter.unusedVariables false
set_option linter.unusedSimpArgs false

section
variable {P : Program} {E : Env} {F : Frame0} {n : Nat} {σ : Nat → Option Cont} {ρ : List D} {a : Act} {w w' : World} {G G' : Gh} {g : Option (Atom × Bool)} {o : Oper} {cf : Nat → List D → Option (List D)} {Q : Exit → Act → World → Prop} {next : Act → World → Prop}

/-- How a root may change. -/
def Chg (σ : Nat → Option Cont) (G : Gh) (w : World) (G' : Gh) (w' : World) (r : Nat) (c : Cont) : Prop :=
  (σ (kR r) = none ∧ ∃ x m ver st, c = .root x m ver st) ∨
  (∃ x m ver x' m', σ (kR r) = some (.root x m ver .live) ∧ c = .root x' m' (ver + 1) .live) ∨
  (∃ x m ver st, c = .root x m ver st ∧ st ≠ .live ∧ st ≠ .frozen) ∨
  (∃ x m ver, σ (kR r) = some (.root x m ver .live) ∧ c = .root x m ver .frozen ∧ ∀ b p, G.own b = .slc r p → G'.own b = .frz ∧ w'.heap[b]? = w.heap[b]?)

theorem upds_last (u : List (Nat × Cont)) (σ : Nat → Option Cont) (k : Nat) (h : ∃ c, (k, c) ∈ u) : ∃ c, (k, c) ∈ u ∧ upds σ u k = some c := by
  have h1 := upds_some u σ k (.inr h)
  obtain ⟨c, hc⟩ := Option.isSome_iff_exists.1 h1
  rcases upds_get u σ k c hc with h2 | ⟨h2, -⟩
  · exact ⟨c, h2, hc⟩
  · obtain ⟨c', hc'⟩ := h
    exact absurd hc' (h2 c')

theorem Fr.of {u : List (Nat × Cont)} (hfrz : ∀ b, G.own b = .frz → b < w.heap.size → G'.own b = .frz ∧ w'.heap[b]? = w.heap[b]?)
    (hun : ∀ r b p, (∀ c, (kR r, c) ∉ u) → G.own b = .slc r p → G'.own b = .slc r p ∧ w'.heap[b]? = w.heap[b]?)
    (hch : ∀ r c, (kR r, c) ∈ u → upds σ u (kR r) = some c → Chg σ G w G' w' r c)
    (hfroz : ∀ r x m k, σ (kR r) = some (.root x m k .frozen) → ∀ b p, G'.own b = .slc r p → G.own b = .slc r p)
    (hhdr : ∀ r, (σ (kR r)).isSome → G'.hdr r = G.hdr r) (hbx : ∀ b, (σ (kB b)).isSome → G'.bx b = G.bx b) : Fr σ G w (upds σ u) G' w' := by
  have hcase : ∀ r, (∀ c, (kR r, c) ∉ u) ∨ ∃ c, (kR r, c) ∈ u ∧ upds σ u (kR r) = some c ∧ Chg σ G w G' w' r c := by
    intro r
    by_cases h : ∃ c, (kR r, c) ∈ u
    · obtain ⟨c, h1, h2⟩ := upds_last u σ (kR r) h
      exact .inr ⟨c, h1, h2, hch r c h1 h2⟩
    · exact .inl fun c hc => h ⟨c, hc⟩
  have hval : ∀ r k, knownR σ r k → validR (upds σ u) r k → validR σ r k := by
    intro r k hk hv
    rcases hcase r with h | ⟨c, h1, h2, h3⟩
    · obtain ⟨x, m, st, e, hs⟩ := hv
      rw [upds_none u σ _ h] at e
      exact ⟨x, m, st, e, hs⟩
    · obtain ⟨x, m, st, e, hs⟩ := hv
      rw [h2] at e
      obtain rfl := Option.some.inj e
      obtain ⟨x0, m0, v0, st0, e0, hk0⟩ := hk
      rcases h3 with ⟨h4, -⟩ | ⟨x1, m1, v1, x2, m2, h4, h5⟩ | ⟨x1, m1, v1, st1, h5, h6, h7⟩ | ⟨x1, m1, v1, h4, h5, -⟩
      · rw [h4] at e0; cases e0
      · rw [h4] at e0
        injection e0 with e0
        injection e0 with i1 i2 i3 i4
        injection h5 with j1 j2 j3 j4
        have := hk0 (.inl i4.symm)
        omega
      · injection h5 with j1 j2 j3 j4
        rw [j4] at hs
        rcases hs with hs | hs
        · exact absurd hs h6
        · exact absurd hs h7
      · injection h5 with j1 j2 j3 j4
        exact ⟨x1, m1, .live, by rw [h4, j3], .inl rfl⟩
  refine ⟨hfrz, hval, fun r k hk => ?_, fun r k b p hv hv' hb => ?_, fun r k m hk hl => ?_, hhdr, hbx, fun k hk => upds_some _ _ _ (.inl hk), hfroz⟩
  · rcases hcase r with h | ⟨c, h1, h2, h3⟩
    · obtain ⟨x, m, ver, st, e, hs⟩ := hk
      exact ⟨x, m, ver, st, by rw [upds_none u σ _ h]; exact e, hs⟩
    · obtain ⟨x0, m0, v0, st0, e0, hk0⟩ := hk
      rcases h3 with ⟨h4, -⟩ | ⟨x1, m1, v1, x2, m2, h4, h5⟩ | ⟨x1, m1, v1, st1, h5, h6, h7⟩ | ⟨x1, m1, v1, h4, h5, -⟩
      · rw [h4] at e0; cases e0
      · rw [h4] at e0
        injection e0 with e0
        injection e0 with i1 i2 i3 i4
        have := hk0 (.inl i4.symm)
        exact ⟨_, _, _, _, by rw [h2, h5], fun _ => by omega⟩
      · exact ⟨_, _, _, _, by rw [h2, h5], fun hs => by rcases hs with hs | hs <;> contradiction⟩
      · rw [h4] at e0
        injection e0 with e0
        injection e0 with i1 i2 i3 i4
        have := hk0 (.inl i4.symm)
        exact ⟨_, _, _, _, by rw [h2, h5], fun _ => by omega⟩
  · rcases hcase r with h | ⟨c, h1, h2, h3⟩
    · exact ⟨.inl (hun r b p h hb).1, (hun r b p h hb).2⟩
    · obtain ⟨x, m, st, e, hs⟩ := hv
      obtain ⟨x', m', st', e', hs'⟩ := hv'
      rw [h2] at e'
      obtain rfl := Option.some.inj e'
      rcases h3 with ⟨h4, -⟩ | ⟨x1, m1, v1, x2, m2, h4, h5⟩ | ⟨x1, m1, v1, st1, h5, h6, h7⟩ | ⟨x1, m1, v1, h4, h5, h6⟩
      · rw [h4] at e; cases e
      · rw [h4] at e
        injection e with e
        injection e with i1 i2 i3 i4
        injection h5 with j1 j2 j3 j4
        omega
      · injection h5 with j1 j2 j3 j4
        rw [j4] at hs'
        rcases hs' with hs | hs
        · exact absurd hs h6
        · exact absurd hs h7
      · exact ⟨.inr (h6 b p hb).1, (h6 b p hb).2⟩
  · rcases hcase r with h | ⟨c, h1, h2, h3⟩
    · obtain ⟨x, e⟩ := hl
      rw [upds_none u σ _ h] at e
      exact ⟨⟨x, e⟩, fun b p hb => (hun r b p h hb).1⟩
    · obtain ⟨x, e⟩ := hl
      rw [h2] at e
      obtain rfl := Option.some.inj e
      obtain ⟨x0, m0, v0, st0, e0, hk0⟩ := hk
      rcases h3 with ⟨h4, -⟩ | ⟨x1, m1, v1, x2, m2, h4, h5⟩ | ⟨x1, m1, v1, st1, h5, h6, h7⟩ | ⟨x1, m1, v1, h4, h5, -⟩
      · rw [h4] at e0; cases e0
      · rw [h4] at e0
        injection e0 with e0
        injection e0 with i1 i2 i3 i4
        injection h5 with j1 j2 j3 j4
        have := hk0 (.inl i4.symm)
        omega
      · injection h5 with j1 j2 j3 j4
        exact absurd j4.symm h6
      · injection h5 with j1 j2 j3 j4
        cases j4

def renB (f : Nat → List Nat → Ow) : Ow → Ow
  | .slc s p => f s p
  | o => o

/-- An operation that changes roots (and memory that they own). -/
theorem R.own (h : R E.ntmps F σ ρ a w G) (hd : DstOk E.ntmps o) {sv : SV} {v : Value} {ur : List (Nat × Cont)} {f : Nat → List Nat → Ow} {wr : Nat → Prop}
    (hu : ∀ k c, (k, c) ∈ ur → ∃ r, k = kR r)
    (hown : ∀ b, b < w.heap.size → G'.own b = renB f (G.own b)) (hfresh : ∀ b, w'.heap.size ≤ b → G'.own b = .frz)
    (hrest : w'.os = w.os ∧ w'.tape = w.tape ∧ w'.output = w.output ∧ w.heap.size ≤ w'.heap.size)
    (hnewown : ∀ b, w.heap.size ≤ b → G'.own b = .frz ∨ ∃ r p, G'.own b = .slc r p ∧ σ (kR r) = none)
    (hheap : ∀ b, b < w.heap.size → ¬ wr b → w'.heap[b]? = w.heap[b]?) (hwr : ∀ b, wr b → ∃ r p, G.own b = .slc r p ∧ ∃ c, (kR r, c) ∈ ur)
    (hun : ∀ b r p, G.own b = .slc r p → (∀ c, (kR r, c) ∉ ur) → f r p = .slc r p)
    (hch : ∀ r c, (kR r, c) ∈ ur → upds σ (dstUpd o g sv ++ ur) (kR r) = some c → Chg σ G w G' w' r c)
    (hfroz : ∀ r x m k, σ (kR r) = some (.root x m k .frozen) → ∀ s p q, f s p = .slc r q → s = r ∧ p = q)
    (hhdr : ∀ r, (σ (kR r)).isSome → G'.hdr r = G.hdr r) (hbx : G'.bx = G.bx)
    (hval : Fr σ G w (upds σ (dstUpd o g sv ++ ur)) G' w' → gOn ρ g = true → SVRep (upds σ (dstUpd o g sv ++ ur)) ρ G' w' sv v)
    (hroot : Fr σ G w (upds σ (dstUpd o g sv ++ ur)) G' w' → ∀ r c, (kR r, c) ∈ ur → upds σ (dstUpd o g sv ++ ur) (kR r) = some c → ∃ x m ver st, c = .root x m ver st ∧ RootRep (upds σ (dstUpd o g sv ++ ur)) ρ G' w' r x m st) :
    R E.ntmps F (upds σ (dstUpd o g sv ++ ur)) ρ (a.put o.dst v) w' G' := by
  have hkeys := dstUpd_keys o g sv
  have hin : ∀ r c, (kR r, c) ∈ dstUpd o g sv ++ ur → (kR r, c) ∈ ur := by
    intro r c hc
    rcases List.mem_append.1 hc with hc | hc
    · obtain ⟨t, e⟩ := hkeys _ _ hc
      exact absurd e.symm kT_ne_kR
    · exact hc
  have hslt : ∀ b r p, G.own b = .slc r p → b < w.heap.size := fun b r p hb => by
    rcases Nat.lt_or_ge b w.heap.size with h1 | h1
    · exact h1
    · rw [h.frame.fresh b h1] at hb; cases hb
  have hstay : ∀ b, b < w.heap.size → (∀ r p, G.own b ≠ .slc r p) → G'.own b = G.own b ∧ w'.heap[b]? = w.heap[b]? := fun b hlt hb => by
    refine ⟨?_, hheap b hlt fun hw => ?_⟩
    · rw [hown b hlt]
      unfold renB
      split
      · rename_i s p e
        exact absurd e (hb s p)
      · rfl
    · obtain ⟨r, p, e, -⟩ := hwr b hw
      exact hb r p e
  have hfr : Fr σ G w (upds σ (dstUpd o g sv ++ ur)) G' w' := by
    refine Fr.of (fun b hb hlt => ?_) (fun r b p hnot hb => ?_) (fun r c hc hc' => hch r c (hin r c hc) hc') (fun r x m k hk b p hb => ?_) hhdr (fun b _ => by rw [hbx])
    · obtain ⟨h1, h2⟩ := hstay b hlt (by rw [hb]; simp)
      exact ⟨h1.trans hb, h2⟩
    · have hlt := hslt b r p hb
      have hnot' : ∀ c, (kR r, c) ∉ ur := fun c hc => hnot c (List.mem_append_right _ hc)
      refine ⟨by rw [hown b hlt, hb]; exact hun b r p hb hnot', hheap b hlt fun hw => ?_⟩
      obtain ⟨r', p', e, c, hc⟩ := hwr b hw
      rw [hb] at e
      injection e with e1 e2
      subst e1
      exact hnot' c hc
    · rcases Nat.lt_or_ge b w.heap.size with hlt | hlt
      · rw [hown b hlt] at hb
        cases e : G.own b with
        | slc s q =>
          rw [e] at hb
          obtain ⟨rfl, rfl⟩ := hfroz r x m k hk s q p hb
          rfl
        | _ => rw [e] at hb; exact hb
      · rcases hnewown b hlt with e | ⟨r', p', e, hn⟩
        · rw [e] at hb; cases hb
        · rw [e] at hb
          injection hb with e1 e2
          subst e1
          rw [hn] at hk; cases hk
  refine h.upd _ hfr (by rw [put_size]; exact h.tmps) (by rw [put_defers]; exact h.defers) ?_ (fun t ht => tval_dst ht) (fun b ro bs hb _ => ?_) (fun b bs hb hlt ho => ?_) (fun k c hk hk' => ?_)
  · obtain ⟨e1, e2, e3, e4⟩ := hrest
    refine ⟨e1.trans h.frame.os, e2.trans h.frame.tape, e3.trans h.frame.output, by have := h.frame.size; omega, fun b hlt hf => ?_, fun b j hlt hj => ?_, hfresh⟩
    · obtain ⟨h1, h2⟩ := h.frame.keep b hlt hf
      obtain ⟨h3, h4⟩ := hstay b (by have := h.frame.size; omega) (fun r p e => by
        rw [e] at h2
        rw [← h2] at hf
        rcases hf with hf | hf <;> cases hf)
      exact ⟨h4.trans h1, h3.trans h2⟩
    · obtain ⟨h1, c0, c1, e, fr, h2, h3, h4⟩ := h.frame.boxes b j hlt hj
      obtain ⟨h5, h6⟩ := hstay b (by have := h.frame.size; omega) (by rw [h1]; simp)
      exact ⟨h5.trans h1, c0, c1, e, fr, h2, h6.trans h3, h4⟩
  · obtain ⟨_, h2, h3⟩ := h.box hb
    rcases Nat.lt_or_ge (G.bx b).block w.heap.size with hlt | hlt
    · exact hstay _ hlt (by rw [h2]; split <;> simp)
    · rw [h.frame.fresh _ hlt] at h2
      split at h2 <;> cases h2
  · rcases List.mem_append.1 hb with hb | hb
    · obtain ⟨t, e⟩ := hkeys _ _ hb
      exact absurd e.symm kT_ne_kB
    · obtain ⟨r, e⟩ := hu _ _ hb
      exact absurd e kB_ne_kR
  · rcases List.mem_append.1 hk with hk | hk
    · obtain ⟨d, hd', rfl, rfl⟩ := dstUpd_mem hk
      refine ⟨d, rfl, fun hg => ?_⟩
      rw [hd', tval_put_eq _ _ _ _ _ (hd d hd') h.tmps]
      exact hval hfr hg
    · obtain ⟨r, rfl⟩ := hu _ _ hk
      obtain ⟨x, m, ver, st, rfl, hrr⟩ := hroot hfr r c hk hk'
      exact ⟨r, rfl, by rw [hk']; rfl, hrr⟩
end
end Go.Proofs.Ytacfmplofkjonaa.Rf

/- What is put into rows. -/
namespace Go.Proofs.Ytacfmplofkjonaa.Rf
set_option linter.unusedVariables false
set_option linter.unusedSimpArgs false

section
variable {P : Program} {E : Env} {F : Frame0} {n : Nat} {σ : Nat → Option Cont} {ρ : List D} {a : Act} {w w' : World} {G G' : Gh} {g : Option (Atom × Bool)} {o : Oper} {cf : Nat → List D → Option (List D)} {Q : Exit → Act → World → Prop} {next : Act → World → Prop}

/-- What is put, cell by cell. -/
inductive PutOk (σ : Nat → Option Cont) (ρ : List D) (G : Gh) (w : World) (pu : Put) (off : Nat) (v : Value) (x : Atom) : Prop
  | sc (h : Sc v (x.val ρ))
  | nil (z : Nat) (hx : x.val ρ = .rows z []) (hv : v = .slice none 0 0)
  | mv (r m ver : Nat) (hm : (off, r, m) ∈ pu.moves) (hr : σ (kR r) = some (.root x m ver .live)) (hv : v = G.hdr r) (hd : pu.depth ≤ m)
  | hole (r k m : Nat) (q : List (Atom × Nat × Nat)) (hm : (off, r, q) ∈ pu.holes) (hl : liveR σ r k m) (hq : q.length + 1 ≤ m) (hrp : Rp G.own w r (pathVal ρ q) (m - q.length) v (x.val ρ)) (hn : Nest G.own w r [] (G.hdr r) (pathVal ρ q) v) (hd : pu.depth ≤ m - q.length)
  | fz (hd : pu.depth = 0) (h : Rd (fun b => G.own b = .frz ∨ ∃ r p, r ∈ pu.frz ∧ G.own b = .slc r p) w v (x.val ρ))

theorem PutOk.left {A B : Put} {off : Nat} {v : Value} {x : Atom} (h : PutOk σ ρ G w A off v x) : PutOk σ ρ G w ⟨A.xs ++ B.xs, A.moves ++ B.moves, A.holes ++ B.holes, A.frz ++ B.frz, min A.depth B.depth⟩ off v x := by
  cases h with
  | sc h => exact .sc h
  | nil z hx hv => exact .nil z hx hv
  | mv r m ver hm hr hv hd => exact .mv r m ver (List.mem_append_left _ hm) hr hv (by dsimp only; omega)
  | hole r k m q hm hl hq hrp hn hd => exact .hole r k m q (List.mem_append_left _ hm) hl hq hrp hn (by dsimp only; omega)
  | fz hd h => exact .fz (by dsimp only; omega) (h.mono fun b hb => ⟨hb.imp id fun ⟨r, p, h1, h2⟩ => ⟨r, p, List.mem_append_left _ h1, h2⟩, rfl⟩)
theorem PutOk.right {A B : Put} {off : Nat} {v : Value} {x : Atom} (h : PutOk σ ρ G w B off v x) : PutOk σ ρ G w ⟨A.xs ++ B.xs, A.moves ++ B.moves, A.holes ++ B.holes, A.frz ++ B.frz, min A.depth B.depth⟩ off v x := by
  cases h with
  | sc h => exact .sc h
  | nil z hx hv => exact .nil z hx hv
  | mv r m ver hm hr hv hd => exact .mv r m ver (List.mem_append_right _ hm) hr hv (by dsimp only; omega)
  | hole r k m q hm hl hq hrp hn hd => exact .hole r k m q (List.mem_append_right _ hm) hl hq hrp hn (by dsimp only; omega)
  | fz hd h => exact .fz (by dsimp only; omega) (h.mono fun b hb => ⟨hb.imp id fun ⟨r, p, h1, h2⟩ => ⟨r, p, List.mem_append_right _ h1, h2⟩, rfl⟩)

theorem putLeaf_rep (hR : R E.ntmps F σ ρ a w G) {mv mvs : Bool} {off : Nat} {l : Leaf} {pu : Put} (h : (putLeaf mv mvs off l).eval σ = some pu) {v : Value} (hl : LeafRep σ ρ G w l v) :
    ∃ x, pu.xs = [x] ∧ PutOk σ ρ G w pu off v x ∧ (∀ z ∈ pu.moves, z.1 = off ∧ ∃ x ver, σ (kR z.2.1) = some (.root x z.2.2 ver .live)) ∧ (∀ z ∈ pu.holes, z.1 = off) := by
  unfold putLeaf at h
  split at h
  · rename_i x
    simp only [eval_ret, Option.some.injEq] at h
    subst h
    simp only [LeafRep] at hl
    exact ⟨x, rfl, .sc hl, by simp, by simp⟩
  · rename_i r
    simp only [eval_bind, eval_rdK, Option.bind_some] at h
    simp only [LeafRep] at hl
    split at h
    · rename_i x m ver hk
      cases mv with
      | true =>
        simp only [cond_true, eval_ret, Option.some.injEq] at h
        subst h
        refine ⟨x, rfl, .mv r m ver (by simp) hk hl.1 (Nat.le_refl _), fun z hz => ?_, by simp⟩
        simp only [List.mem_singleton] at hz
        subst hz
        exact ⟨rfl, x, ver, hk⟩
      | false =>
        simp only [cond_false, eval_ret, Option.some.injEq] at h
        subst h
        refine ⟨x, rfl, .fz rfl ?_, by simp, by simp⟩
        have := hR.root hk
        simp only [RootRep] at this
        rw [← hl.1] at this
        exact this.rd.mono fun b hb => ⟨hb.imp id fun ⟨q, hq⟩ => ⟨r, q, by simp, hq⟩, rfl⟩
    · rename_i x m ver hk
      simp only [eval_ret, Option.some.injEq] at h
      subst h
      refine ⟨x, rfl, .fz rfl ?_, by simp, by simp⟩
      have := (hR.root hk).1
      rw [← hl.1] at this
      exact this.mono fun b hb => ⟨.inl hb, rfl⟩
    · cases h
  · rename_i deps p nie x
    split at h
    · rename_i z
      simp only [eval_ret, Option.some.injEq] at h
      subst h
      refine ⟨_, rfl, .nil z rfl ?_, by simp, by simp⟩
      simp only [LeafRep] at hl
      exact (hl.2 (by simp)).2.1 trivial z rfl
    · rename_i hne
      simp only [eval_bind, Option.bind_eq_some_iff] at h
      obtain ⟨s, h1, h⟩ := h
      have hs := rdSl_rep hR h1 hl
      have hx : s.x = x := by
        unfold rdSl at h1
        simp only [eval_bind, Option.bind_eq_some_iff] at h1
        obtain ⟨ds, -, h3⟩ := h1
        split at h3
        · simp only [eval_ret, Option.some.injEq] at h3; rw [← h3]
        · simp only [eval_bind, eval_rdK, Option.bind_some] at h3
          split at h3
          · simp only [eval_ret, Option.some.injEq] at h3; rw [← h3]
          · cases h3
        · simp only [eval_ret, Option.some.injEq] at h3; rw [← h3]
      have hfz : ∀ frz : List Nat, (∀ z ∈ s.deps, z.1 ∈ frz) → Rd (fun b => G.own b = .frz ∨ ∃ r p, r ∈ frz ∧ G.own b = .slc r p) w v (x.val ρ) := by
        intro frz hz
        have := hs.rd
        rw [hx] at this
        exact this.mono fun b hb => ⟨hb.imp id fun ⟨r, k, p, h2, h3⟩ => ⟨r, p, hz _ h2, h3⟩, rfl⟩
      split at h
      · rename_i r k m q ho
        have hown := hs.own
        unfold OwnRep at hown
        rw [ho] at hown
        obtain ⟨h2, h3, h4, h5, h6⟩ := hown
        rw [hx] at h5
        cases hb : (mvs && Nat.ble (q.length + 1) m) with
        | true =>
          rw [hb] at h
          simp only [cond_true, eval_ret, Option.some.injEq] at h
          subst h
          simp only [Bool.and_eq_true, Nat.ble_eq] at hb
          refine ⟨x, rfl, .hole r k m q (by simp) h3 hb.2 h5 h6 (Nat.le_refl _), by simp, by simp⟩
        | false =>
          rw [hb] at h
          simp only [cond_false, eval_ret, Option.some.injEq] at h
          subst h
          refine ⟨x, rfl, .fz rfl (hfz _ fun z hz => ?_), by simp, by simp⟩
          rw [h2] at hz
          simp only [List.mem_singleton] at hz
          subst hz
          simp
      · simp only [eval_ret, Option.some.injEq] at h
        subst h
        exact ⟨x, rfl, .fz rfl (hfz _ fun z hz => List.mem_map_of_mem hz), by simp, by simp⟩
  · cases h

theorem putLeaves_rep (hR : R E.ntmps F σ ρ a w G) {mv mvs : Bool} : ∀ {ls : List Leaf} {off : Nat} {pu : Put}, (putLeaves mv mvs off ls).eval σ = some pu → ∀ {vs : List Value}, LeavesRep σ ρ G w ls vs →
    pu.xs.length = ls.length ∧ (∀ j v x, vs[j]? = some v → pu.xs[j]? = some x → PutOk σ ρ G w pu (off + j) v x) ∧
    (∀ z ∈ pu.moves, off ≤ z.1 ∧ z.1 < off + ls.length ∧ ∃ x ver, σ (kR z.2.1) = some (.root x z.2.2 ver .live))
  | [], off, pu, h, vs, hl => by
    simp only [putLeaves, eval_ret, Option.some.injEq] at h
    subst h
    exact ⟨rfl, by simp, by simp⟩
  | l :: ls, off, pu, h, vs, hl => by
    simp only [putLeaves, eval_bind, Option.bind_eq_some_iff, eval_ret, Option.some.injEq] at h
    obtain ⟨A, h1, B, h2, rfl⟩ := h
    simp only [LeavesRep] at hl
    obtain ⟨u, us, rfl, h3, h4⟩ := hl
    obtain ⟨x, h5, h6, h7, -⟩ := putLeaf_rep hR h1 h3
    obtain ⟨h8, h9, h10⟩ := putLeaves_rep hR h2 h4
    refine ⟨by simp [h5, h8], fun j v y hv hy => ?_, fun z hz => ?_⟩
    · rw [h5] at hy
      cases j with
      | zero =>
        simp only [List.getElem?_cons_zero, Option.some.injEq, List.singleton_append] at hv hy
        subst hv hy
        exact h6.left
      | succ j =>
        simp only [List.getElem?_cons_succ, List.singleton_append] at hv hy
        have := (h9 j v y hv hy).right (A := A)
        rwa [show off + 1 + j = off + (j + 1) by omega] at this
    · simp only [List.length_cons]
      rcases List.mem_append.1 hz with hz | hz
      · obtain ⟨e, h11⟩ := h7 z hz
        exact ⟨by omega, by omega, h11⟩
      · obtain ⟨e1, e2, h11⟩ := h10 z hz
        exact ⟨by omega, by omega, h11⟩

theorem freezeAll_rep : ∀ {rs : List Nat} {fr : List (Nat × Cont)}, (freezeAll rs).eval σ = some fr →
    (∀ r ∈ rs, (∃ x m ver, σ (kR r) = some (.root x m ver .live) ∧ (kR r, Cont.root x m ver .frozen) ∈ fr) ∨ ∃ x m ver, σ (kR r) = some (.root x m ver .frozen)) ∧
    (∀ k c, (k, c) ∈ fr → ∃ r ∈ rs, ∃ x m ver, k = kR r ∧ c = .root x m ver .frozen ∧ σ (kR r) = some (.root x m ver .live))
  | [], fr, h => by
    simp only [freezeAll, eval_ret, Option.some.injEq] at h
    subst h
    simp
  | r :: rs, fr, h => by
    simp only [freezeAll, eval_bind, eval_rdK, Option.bind_some] at h
    split at h
    · rename_i x m ver hk
      simp only [eval_bind, Option.bind_eq_some_iff, eval_ret, Option.some.injEq] at h
      obtain ⟨l, h1, rfl⟩ := h
      obtain ⟨h2, h3⟩ := freezeAll_rep h1
      refine ⟨fun s hs => ?_, fun k c hc => ?_⟩
      · rcases List.mem_cons.1 hs with rfl | hs
        · exact .inl ⟨x, m, ver, hk, List.mem_cons_self⟩
        · rcases h2 s hs with ⟨x', m', v', h4, h5⟩ | h4
          · exact .inl ⟨x', m', v', h4, List.mem_cons_of_mem _ h5⟩
          · exact .inr h4
      · rcases List.mem_cons.1 hc with hc | hc
        · obtain ⟨rfl, rfl⟩ := Prod.mk.inj hc
          exact ⟨r, List.mem_cons_self, x, m, ver, rfl, rfl, hk⟩
        · obtain ⟨s, hs, h4⟩ := h3 k c hc
          exact ⟨s, List.mem_cons_of_mem _ hs, h4⟩
    · rename_i x m ver hk
      obtain ⟨h2, h3⟩ := freezeAll_rep h
      refine ⟨fun s hs => ?_, fun k c hc => ?_⟩
      · rcases List.mem_cons.1 hs with rfl | hs
        · exact .inr ⟨x, m, ver, hk⟩
        · exact h2 s hs
      · obtain ⟨s, hs, h4⟩ := h3 k c hc
        exact ⟨s, List.mem_cons_of_mem _ hs, h4⟩
    · cases h
end
end Go.Proofs.Ytacfmplofkjonaa.Rf

/- Storing into a slice. -/
namespace Go.Proofs.Ytacfmplofkjonaa.Rf
set_option linter.unusedVariables false
set_option linter.unusedSimpArgs false

theorem has_iff {l : List Nat} {n : Nat} : has l n = true ↔ n ∈ l := by
  unfold has
  simp only [List.any_eq_true, Nat.beq_eq]
  constructor
  · rintro ⟨x, h, rfl⟩; exact h
  · exact fun h => ⟨n, h, rfl⟩
theorem has_not {l : List Nat} {n : Nat} : has l n = false ↔ n ∉ l := by
  rw [← has_iff]; simp
theorem find_distinct : ∀ {l : List (Nat × Nat × Nat)}, distinct (l.map (·.2.1)) = true → ∀ z ∈ l, l.find? (fun y => Nat.beq y.2.1 z.2.1) = some z
  | [], _, z, hz => by simp at hz
  | y :: l, h, z, hz => by
    simp only [List.map_cons, distinct, Bool.and_eq_true, Bool.not_eq_true'] at h
    rw [List.find?_cons]
    rcases List.mem_cons.1 hz with rfl | hz
    · have : Nat.beq z.2.1 z.2.1 = true := by simp
      rw [this]
    · have : Nat.beq y.2.1 z.2.1 = false := by
        cases e : Nat.beq y.2.1 z.2.1 with
        | false => rfl
        | true =>
          simp only [Nat.beq_eq] at e
          have h1 := has_not.1 h.1
          rw [e] at h1
          exact absurd (List.mem_map_of_mem (f := fun x : Nat × Nat × Nat => x.2.1) hz) h1
      rw [this]
      exact find_distinct h.2 z hz
theorem find_none {l : List (Nat × Nat × Nat)} {s : Nat} (h : s ∉ l.map (·.2.1)) : l.find? (fun y => Nat.beq y.2.1 s) = none := by
  rw [List.find?_eq_none]
  intro x hx
  simp only [Nat.beq_eq]
  intro e
  exact h (e ▸ List.mem_map_of_mem (f := fun x : Nat × Nat × Nat => x.2.1) hx)

section
variable {P : Program} {E : Env} {F : Frame0} {n : Nat} {σ : Nat → Option Cont} {ρ : List D} {a : Act} {w w' : World} {G G' : Gh} {g : Option (Atom × Bool)} {o : Oper} {cf : Nat → List D → Option (List D)} {Q : Exit → Act → World → Prop} {next : Act → World → Prop}

theorem Rd.nil {ok : Nat → Prop} {z : Nat} : Rd ok w (.slice none 0 0) (.rows z []) :=
  .rows none ⟨0, 0, none⟩ 0 0 _ [] (fun _ _ => undef) rfl (Nat.le_refl _) (.inl rfl) (by simp) (by simp) (by simp)
theorem Rp.nil {own : Nat → Ow} {r : Nat} {p : List Nat} {m z : Nat} : Rp own w r p m (.slice none 0 0) (.rows z []) := by
  cases m with
  | zero => exact .fz Rd.nil
  | succ m => exact .sl none ⟨0, 0, none⟩ 0 0 _ [] (fun _ _ => undef) rfl (Nat.le_refl _) (.inr ⟨rfl, rfl⟩) (by simp) (by simp) (by simp) (by simp)

theorem PutOk.rp (hR : R E.ntmps F σ ρ a w G) {pu : Put} {off : Nat} {v : Value} {x : Atom} (h : PutOk σ ρ G w pu off v x) {own' : Nat → Ow} {R : Nat} {path : List Nat} {m1 : Nat} (hd : m1 ≤ pu.depth)
    (hz : ∀ b, G.own b = .frz → b < w.heap.size → own' b = .frz ∧ w'.heap[b]? = w.heap[b]?)
    (hmv : ∀ s m, (off, s, m) ∈ pu.moves → ∀ b t, G.own b = .slc s t → own' b = (if t.length < m1 then .slc R (path ++ t) else .frz) ∧ w'.heap[b]? = w.heap[b]?)
    (hho : ∀ s q, (off, s, q) ∈ pu.holes → ∀ b t, G.own b = .slc s (pathVal ρ q ++ t) → own' b = (if t.length < m1 then .slc R (path ++ t) else .frz) ∧ w'.heap[b]? = w.heap[b]?)
    (hfz : ∀ s ∈ pu.frz, ∀ b p, G.own b = .slc s p → own' b = .frz ∧ w'.heap[b]? = w.heap[b]?) : Rp own' w' R path m1 v (x.val ρ) := by
  cases h with
  | sc h => exact .sc h
  | nil z hx hv => rw [hx, hv]; exact Rp.nil
  | mv r m ver hm hr hv hd' =>
    have := hR.root hr
    simp only [RootRep] at this
    rw [hv]
    exact this.move hz path m1 (by omega) fun b t hb => hmv r m hm b t (by simpa using hb)
  | hole r k m q hm hl hq hrp hn hd' => exact hrp.move hz path m1 (by omega) fun b t hb => hho r q hm b t hb
  | fz hd' h =>
    obtain rfl : m1 = 0 := by omega
    refine .fz (h.mono' fun b hb hlt => ?_)
    rcases hb with hb | ⟨r, p, h1, h2⟩
    · exact hz b hb hlt
    · exact hfz r h1 b p h2

def cutP (R M : Nat) (p : List Nat) : Ow := if p.length < M then .slc R p else .frz
def storeF (pu : Put) (r m' : Nat) (pv : List Nat) (base : Nat) (s : Nat) (p : List Nat) : Ow :=
  bif has pu.frz s then .frz else match pu.moves.find? (fun y => Nat.beq y.2.1 s) with
    | some z => cutP r m' ((pv ++ [base + z.1]) ++ p)
    | none => if s = r then cutP r m' p else .slc s p

theorem setCells_cell {B o : Nat} {vs : List Value} {b : Addr} (hb : b.block = B → b.spot = none) (hex : ∀ j, j < vs.length → (w.cell? ⟨B, o + j, none⟩).isSome = true) {u : Value} (hc : w.cell? b = some u) :
    ∃ u', (w.setCells B o vs).cell? b = some u' := by
  by_cases hin : b.block = B ∧ o ≤ b.off ∧ b.off < o + vs.length
  · obtain ⟨h1, h2, h3⟩ := hin
    have := World.cell?_setCells_in B vs o w hex (b.off - o) (by omega)
    have hs := hb h1
    rw [show o + (b.off - o) = b.off by omega] at this
    have hb' : b = ⟨B, b.off, none⟩ := by cases b; simp only at h1 hs; subst h1 hs; rfl
    exact ⟨vs[b.off - o]'(by omega), (congrArg (fun x => (w.setCells B o vs).cell? x) hb').trans this⟩
  · rw [World.cell?_setCells_out B vs o w b fun e1 e2 => by
      rcases Nat.lt_or_ge b.off o with h | h
      · exact .inl h
      · refine .inr ?_
        rcases Nat.lt_or_ge b.off (o + vs.length) with h' | h'
        · exact absurd ⟨e1, h, h'⟩ hin
        · exact h']
    exact ⟨u, hc⟩

theorem sound_store_pe (hR : R E.ntmps F σ ρ a w G) (hti : TiOk P E.ti) {nv : Nat} {mv mvs : Bool} {t : TypeId} {x y : Operand} (ho : o.op = .store t x y) {ti : TI} (hi : E.ti t = some ti) {l : Leaf} {sz : Nat} {i : Atom} {off : Nat} {ls : List Leaf} {sv : SV}
    (hx : gOn ρ g = true → LeafRep σ ρ G w (.pe l sz i off) (a.eval x)) (hy : gOn ρ g = true → SVRep σ ρ G w sv (a.eval y)) (hls : leavesOf ti.agg sv = some ls) {res : OpRes}
    (h : (sxStore nv mv mvs o g ti (.pe l sz i off) ls).eval σ = some res) (hst : StepsOk cf ρ g nv res.lets) : Sound P E F σ ρ a w g o Q res.upd := by
  simp only [sxStore, eval_bind, eval_guardR, Option.bind_eq_some_iff, eval_rdK, Option.bind_some] at h
  obtain ⟨_, h1, _, h2, s, h3, h⟩ := h
  split at h1
  case isFalse => cases h1
  rename_i hb1
  simp only [Bool.and_eq_true, Nat.beq_eq, Option.isNone_iff_eq_none] at hb1
  obtain ⟨hlen, hdst⟩ := hb1
  split at h2
  case isFalse => cases h2
  rename_i hg0
  obtain rfl := noG_eq hg0
  split at h
  case h_2 => cases h
  rename_i r k m q hown
  simp only [eval_bind, eval_guardR, Option.bind_eq_some_iff, eval_rdK, Option.bind_some] at h
  obtain ⟨_, h4, h⟩ := h
  split at h4
  case isFalse => cases h4
  rename_i hqm
  simp only [Nat.ble_eq] at hqm
  split at h
  case h_2 => cases h
  rename_i X m0 ver hk
  simp only [eval_bind, eval_guardR, Option.bind_eq_some_iff] at h
  obtain ⟨pu, h5, fr, h6, _, h7, h⟩ := h
  split at h7
  case isFalse => cases h7
  rename_i hb7
  simp only [Bool.and_eq_true, Bool.not_eq_true', List.any_eq_false, List.isEmpty_iff] at hb7
  obtain ⟨⟨⟨⟨hfr, hmr⟩, hho⟩, hdis⟩, hmf⟩ := hb7
  simp only [eval_ret, Option.some.injEq] at h
  subst h
  refine ⟨fun hg => ?_, fun hg => by simp [gOn] at hg⟩
  obtain ⟨info, u, f⟩ := tiOf_facts (hti.ok _ _ hi)
  have hl := leavesOf_rep hls (hy hg)
  obtain ⟨hpl, hput, hmvs⟩ := putLeaves_rep hR h5 hl
  obtain ⟨hfz1, hfz2⟩ := freezeAll_rep h6
  have hpe := hx hg
  simp only [LeafRep] at hpe
  obtain ⟨c, n, cap, ik, iv, hp1, hp2, hp3, hp4, hp5⟩ := hpe
  have hsl := rdSl_rep hR h3 hp1
  have hor := hsl.own
  unfold OwnRep at hor
  rw [hown] at hor
  obtain ⟨-, ⟨X0, hl0⟩, -, hrp, hnest⟩ := hor
  rw [hk] at hl0
  obtain ⟨rfl, rfl, rfl⟩ : X = X0 ∧ m0 = m ∧ ver = k := by
    injection hl0 with e; injection e with e1 e2 e3 e4; exact ⟨e1, e2, e3⟩
  have hroot := hR.root hk
  simp only [RootRep] at hroot
  -- the data
  obtain ⟨d1, hd1, hd2⟩ := one_of hst.1 hg
  have hst2 : StepsOk cf ρ none (nv + 1) (nest (nv + 1) X q (.v nv)).1 := hst.2
  have hupd := nest_upd hg q (nv + 1) X (.v nv) hst2
  simp only [List.cons_append, List.nil_append, List.map_cons] at hd1
  obtain ⟨rs, ik', iv', row, e1, e2, e3, e4, e5, e6, e7⟩ := set_run hd1
  rw [hp2] at e2
  obtain ⟨rfl, rfl⟩ : ik = ik' ∧ iv = iv' := by injection e2 with a b; exact ⟨a, b⟩
  simp only [List.cons.injEq, and_true] at e7
  simp only [List.length_map] at e6
  rw [e1] at hrp
  have hpvl : (pathVal ρ q).length = q.length := by simp [pathVal]
  generalize hpv : pathVal ρ q = pv at hupd hrp hnest hpvl
  obtain ⟨md, hmd⟩ : ∃ md, m0 - q.length = md + 1 := ⟨m0 - q.length - 1, by omega⟩
  rw [hmd] at hrp
  obtain ⟨A, c', n', cap', vs0, i1, i2, i3, i4, i5, i6, i7, i8⟩ := hrp.sl_inv
  obtain ⟨rfl, rfl, rfl⟩ : A = some c ∧ n' = n ∧ cap' = cap := by injection i1 with a b c; exact ⟨a.symm, b.symm, c.symm⟩
  have hcc : c' = c := by
    rcases i4 with i4 | ⟨i4, -⟩
    · exact (Option.some.inj i4).symm
    · cases i4
  subst hcc
  obtain ⟨hspot, hob, hcells⟩ := i6 rfl
  have hrow : row.length = sz := i5 row (List.mem_of_getElem? e4)
  generalize hvs : (a.eval y).cells.toList = vs at hl hput
  have hvl : vs.length = ls.length := hl.len
  have hcell0 : ∀ j, j < vs.length → ∃ u, w.cell? ⟨c'.block, c'.off + (iv.toNat * sz + off) + j, none⟩ = some u ∧ w.frozen? ⟨c'.block, c'.off + (iv.toNat * sz + off) + j, none⟩ = false := by
    intro j hj
    have hk' : iv.toNat * sz + off + j < cap' * sz := by
      have h1 : (iv.toNat + 1) * sz ≤ cap' * sz := Nat.mul_le_mul_right _ (by omega)
      rw [Nat.add_mul] at h1
      omega
    have := hcells _ hk'
    rw [add_plain hspot] at this
    rw [Nat.add_assoc]
    exact this
  have hrun : (execOp a.eval o).run P w = .ok .skip (w.setCells c'.block (c'.off + (iv.toNat * sz + off)) vs) := by
    unfold execOp
    simp only [ho]
    have := run_storeVar (P := P) (w := w) f (b := c'.block) (off := c'.off + (iv.toNat * sz + off)) (v := a.eval y) (by rw [hvs]; omega)
      (fun j hj => by
        obtain ⟨v, h6, -⟩ := hcell0 j (by omega)
        exact ⟨v, h6⟩)
      (fun j hj => by
        obtain ⟨v, -, h6⟩ := hcell0 j (by omega)
        exact h6) (by
        rw [hvs]
        intro v hv
        obtain ⟨j, hj⟩ := List.mem_iff_getElem?.1 hv
        have hjl : j < pu.xs.length := by rw [hpl, ← hvl]; exact (List.getElem?_eq_some_iff.1 hj).1
        cases hput j v _ hj (List.getElem?_eq_getElem hjl) with
        | sc h => exact h.one
        | nil z _ h => rw [h]; rfl
        | mv r m ver hm hr hv hd =>
          have := hR.root hr
          simp only [RootRep] at this
          rw [hv]; exact this.one
        | hole r k m q hm hl hq hrp hn hd => exact hrp.one
        | fz _ h => exact h.one)
    simp only [Instr.storeAt, Instr.sureAddr, Sem.run_bind, hp5, Sem.run_pure, Result.andThen_ok, add_plain hspot, this, hvs]
  generalize hm' : min m0 (q.length + 1 + pu.depth) = m'
  generalize hw' : w.setCells c'.block (c'.off + (iv.toNat * sz + off)) vs = w' at hrun
  have hheap : ∀ b, b ≠ c'.block → w'.heap[b]? = w.heap[b]? := fun b hb => by rw [← hw']; exact setCells_other _ _ _ _ _ hb
  refine wp_skip' hrun ⟨{ G with own := fun b => renB (storeF pu r m' pv (iv.toNat * sz)) (G.own b) }, ?_⟩
  rw [hdst]
  have hfF : ∀ s, s ∈ pu.frz → ∀ p, storeF pu r m' pv (iv.toNat * sz) s p = .frz := fun s hs p => by
    unfold storeF
    rw [has_iff.2 hs, cond_true]
  have hrm : r ∉ pu.moves.map (·.2.1) := by
    intro hh
    obtain ⟨z, hz, e⟩ := List.mem_map.1 hh
    have := hmr z hz
    simp [e] at this
  have hrF : ∀ p, storeF pu r m' pv (iv.toNat * sz) r p = cutP r m' p := fun p => by
    unfold storeF
    rw [hfr, cond_false, find_none hrm]
    simp
  have hmF : ∀ z ∈ pu.moves, ∀ p, storeF pu r m' pv (iv.toNat * sz) z.2.1 p = cutP r m' ((pv ++ [iv.toNat * sz + z.1]) ++ p) := fun z hz p => by
    unfold storeF
    have : has pu.frz z.2.1 = false := by
      have := hmf z hz
      simpa using this
    rw [this, cond_false, find_distinct hdis z hz]
  have hzz : ∀ b, G.own b = .frz → b < w.heap.size → renB (storeF pu r m' pv (iv.toNat * sz)) (G.own b) = .frz ∧ w'.heap[b]? = w.heap[b]? := fun b hb hlt => by
    refine ⟨by rw [hb]; rfl, hheap b fun e => ?_⟩
    rw [e, hob] at hb
    cases hb
  have hne : ∀ b s p, G.own b = .slc s p → s ≠ r → b ≠ c'.block := fun b s p hb hs e => by
    rw [e, hob] at hb
    injection hb with e1 e2
    exact hs e1.symm
  have hfrr : ∀ s ∈ pu.frz, s ≠ r := fun s hs e => by
    have := has_not.1 hfr
    exact this (e ▸ hs)
  have hmvr : ∀ z ∈ pu.moves, z.2.1 ≠ r := fun z hz e => hrm (e ▸ List.mem_map_of_mem (f := fun x : Nat × Nat × Nat => x.2.1) hz)
  have hmem : ∀ {s : Nat} {c : Cont}, (kR s, c) ∈ (kR r, Cont.root (nest (nv + 1) X q (.v nv)).2 m' (ver + 1) .live) :: (pu.moves.map fun z => (kR z.2.1, Cont.root (.c .hole) 0 0 .gone)) ++ fr →
      (s = r ∧ c = .root (nest (nv + 1) X q (.v nv)).2 m' (ver + 1) .live) ∨ (∃ z ∈ pu.moves, s = z.2.1 ∧ c = .root (.c .hole) 0 0 .gone) ∨
      (s ∈ pu.frz ∧ ∃ x m v, c = .root x m v .frozen ∧ σ (kR s) = some (.root x m v .live)) := by
    intro s c hc
    rcases List.mem_append.1 hc with hc | hc
    · rcases List.mem_cons.1 hc with hc | hc
      · obtain ⟨e1, e2⟩ := Prod.mk.inj hc
        exact .inl ⟨kR_inj e1, e2⟩
      · obtain ⟨z, hz, e⟩ := List.mem_map.1 hc
        obtain ⟨e1, e2⟩ := Prod.mk.inj e
        exact .inr (.inl ⟨z, hz, (kR_inj e1).symm, e2.symm⟩)
    · obtain ⟨s', hs', x', m'', v', e1, e2, e3⟩ := hfz2 _ _ hc
      obtain rfl := kR_inj e1
      exact .inr (.inr ⟨hs', x', m'', v', e2, e3⟩)
  have hdu : dstUpd o none .dead = [] := by unfold dstUpd; rw [hdst]
  have hfin := hR.own (o := o) (g := none) (fun d e => by rw [hdst] at e; cases e) (sv := .dead) (v := undef) (w' := w')
    (G' := { G with own := fun b => renB (storeF pu r m' pv (iv.toNat * sz)) (G.own b) }) (wr := fun b => b = c'.block)
    (ur := (kR r, Cont.root (nest (nv + 1) X q (.v nv)).2 m' (ver + 1) .live) :: (pu.moves.map fun z => (kR z.2.1, Cont.root (.c .hole) 0 0 .gone)) ++ fr)
    (f := storeF pu r m' pv (iv.toNat * sz)) ?_ (fun b _ => rfl) ?_ ?_ ?_ (fun b _ hb => hheap b hb) ?_ ?_ ?_ ?_ (fun _ _ => rfl) rfl (fun _ _ => trivial) ?_
  · rw [hdu, List.nil_append, hdst] at hfin
    exact hfin
  · intro k c hc
    rcases List.mem_append.1 hc with hc | hc
    · rcases List.mem_cons.1 hc with hc | hc
      · exact ⟨r, (Prod.mk.inj hc).1⟩
      · obtain ⟨z, hz, e⟩ := List.mem_map.1 hc
        exact ⟨z.2.1, (Prod.mk.inj e).1.symm⟩
    · obtain ⟨s', -, -, -, -, e1, -⟩ := hfz2 _ _ hc
      exact ⟨s', e1⟩
  · intro b hb
    rw [← hw', setCells_size] at hb
    show renB _ (G.own b) = .frz
    rw [hR.frame.fresh b hb]; rfl
  · obtain ⟨j1, j2, j3⟩ := setCells_rest c'.block vs (c'.off + (iv.toNat * sz + off)) w
    rw [← hw']
    exact ⟨j1, j2, j3, by rw [setCells_size]; exact Nat.le_refl _⟩
  · intro b hb
    refine .inl ?_
    show renB _ (G.own b) = .frz
    rw [hR.frame.fresh b hb]; rfl
  · rintro b rfl
    exact ⟨r, pv, hob, _, List.mem_append_left _ List.mem_cons_self⟩
  · intro b s p hb hnot
    unfold storeF
    have h1 : has pu.frz s = false := by
      rw [has_not]
      intro hs
      rcases hfz1 s hs with ⟨x', m'', v', -, h8⟩ | ⟨x', m'', v', h8⟩
      · exact hnot _ (List.mem_append_right _ h8)
      · exact (hR.root h8).2 b p hb
    have h2 : s ∉ pu.moves.map (·.2.1) := by
      intro hh
      obtain ⟨z, hz, e⟩ := List.mem_map.1 hh
      refine hnot (.root (.c .hole) 0 0 .gone) (List.mem_append_left _ (List.mem_cons_of_mem _ (List.mem_map.2 ⟨z, hz, ?_⟩)))
      rw [e]
    have h3 : s ≠ r := fun e => hnot (.root (nest (nv + 1) X q (.v nv)).2 m' (ver + 1) .live) (List.mem_append_left _ (by rw [e]; exact List.mem_cons_self))
    rw [h1, cond_false, find_none h2]
    simp [h3]
  · intro s c hc _
    rcases hmem hc with ⟨rfl, rfl⟩ | ⟨z, hz, rfl, rfl⟩ | ⟨hs, x', m'', v', rfl, h8⟩
    · exact .inr (.inl ⟨_, _, _, _, _, hk, rfl⟩)
    · exact .inr (.inr (.inl ⟨_, _, _, _, rfl, by simp, by simp⟩))
    · refine .inr (.inr (.inr ⟨x', m'', v', h8, rfl, fun b p hb => ⟨?_, hheap b (hne b s p hb (hfrr s hs))⟩⟩))
      show renB _ (G.own b) = .frz
      rw [hb]
      exact hfF s hs p
  · intro r0 x0 m1 k0 hfz s p q' hF
    unfold storeF at hF
    cases hh : has pu.frz s with
    | true => rw [hh, cond_true] at hF; cases hF
    | false =>
      rw [hh, cond_false] at hF
      have hr0 : r0 ≠ r := by
        rintro rfl
        rw [hk] at hfz
        injection hfz with e; injection e with _ _ _ e; cases e
      split at hF
      · unfold cutP at hF
        split at hF
        · injection hF with j1 j2; exact absurd j1.symm hr0
        · cases hF
      · split at hF
        · unfold cutP at hF
          split at hF
          · injection hF with j1 j2; exact absurd j1.symm hr0
          · cases hF
        · injection hF with j1 j2; exact ⟨j1, j2⟩
  · intro hfr' s c hc _
    rcases hmem hc with ⟨rfl, rfl⟩ | ⟨z, hz, rfl, rfl⟩ | ⟨hs, x', m'', v', rfl, h8⟩
    · refine ⟨_, _, _, _, rfl, ?_⟩
      simp only [RootRep]
      -- the row
      obtain ⟨m1, hm1⟩ : ∃ m1, m' - q.length = m1 + 1 := ⟨m' - q.length - 1, by omega⟩
      have hrowNew : ∀ i' row', (rs.set iv.toNat (row.take off ++ pu.xs.map (·.val ρ) ++ row.drop (off + ti.size)))[i']? = some row' → ∀ j' d, row'[j']? = some d →
          (i' = iv.toNat ∧ off ≤ j' ∧ j' < off + ls.length ∧ ∃ x, pu.xs[j' - off]? = some x ∧ d = x.val ρ) ∨ (∃ row0, rs[i']? = some row0 ∧ row0[j']? = some d ∧ ¬ (i' = iv.toNat ∧ off ≤ j' ∧ j' < off + ls.length)) := by
        intro i' row' hi' j' d hj'
        have hsr : row.take off ++ pu.xs.map (·.val ρ) ++ row.drop (off + ti.size) = setRange row off (pu.xs.map (·.val ρ)) := by
          unfold setRange
          rw [List.length_map, e6]
        rw [hsr, List.getElem?_set] at hi'
        by_cases hii : iv.toNat = i'
        · subst hii
          rw [if_pos rfl, if_pos (List.getElem?_eq_some_iff.1 e4).1] at hi'
          obtain rfl := Option.some.inj hi'
          rw [setRange_get (by rw [List.length_map]; omega), List.length_map] at hj'
          split at hj'
          · rename_i hin
            rw [List.getElem?_map, Option.map_eq_some_iff] at hj'
            obtain ⟨x, hx1, hx2⟩ := hj'
            exact .inl ⟨rfl, hin.1, by omega, x, hx1, hx2.symm⟩
          · rename_i hout
            exact .inr ⟨row, e4, hj', fun e => hout ⟨e.2.1, by omega⟩⟩
        · rw [if_neg hii] at hi'
          exact .inr ⟨row', hi', hj', fun e => hii e.1.symm⟩
      have hnew : Rp (fun b => renB (storeF pu s m' pv (iv.toNat * sz)) (G.own b)) w' s pv (m' - q.length) (.slice (some c') n' cap') ((Atom.v nv).val ρ) := by
        rw [hd2, e7, hm1]
        refine .sl _ c' n' cap' sz _ (fun i' j' => if i' = iv.toNat ∧ off ≤ j' ∧ j' < off + ls.length then vs.getD (j' - off) undef else vs0 i' j') (by simpa using i2) i3 (.inl rfl) (fun row' hr => ?_) (fun _ => ⟨hspot, ?_, fun k hk => ?_⟩) (fun i' row' hi' j' d hj' => ?_) (fun i' row' hi' j' d hj' => ?_)
        · rcases List.mem_or_eq_of_mem_set hr with hr | rfl
          · exact i5 _ hr
          · simp; omega
        · show renB _ (G.own c'.block) = _
          rw [hob]
          show storeF pu s m' pv (iv.toNat * sz) s pv = _
          rw [hrF, cutP, if_pos (by omega)]
        · obtain ⟨u0, hu0, hf0⟩ := hcells k hk
          rw [← hw', World.frozen?_setCells]
          obtain ⟨u', hu'⟩ := setCells_cell (B := c'.block) (o := c'.off + (iv.toNat * sz + off)) (vs := vs) (b := c'.add k) (fun _ => by rw [add_plain hspot]) (fun j hj => by obtain ⟨u1, h9, -⟩ := hcell0 j hj; rw [h9]; rfl) hu0
          exact ⟨u', hu', hf0⟩
        · rcases hrowNew i' row' hi' j' d hj' with ⟨rfl, h9, h10, x0, h11, h12⟩ | ⟨row0, h9, h10, h11⟩
          · rw [if_pos ⟨rfl, h9, h10⟩, ← hw', add_plain hspot]
            have := World.cell?_setCells_in c'.block vs (c'.off + (iv.toNat * sz + off)) w (fun j hj => by obtain ⟨u1, h9, -⟩ := hcell0 j hj; rw [h9]; rfl) (j' - off) (by omega)
            rw [show c'.off + (iv.toNat * sz + off) + (j' - off) = c'.off + (iv.toNat * sz + j') by omega] at this
            rw [this, List.getD_eq_getElem?_getD, List.getElem?_eq_getElem (by omega)]
            rfl
          · rw [if_neg h11, ← hw', World.cell?_setCells_out _ _ _ _ _ (fun _ _ => ?_)]
            · exact i7 _ _ h9 _ _ h10
            · rw [add_plain hspot]
              dsimp only
              have hj'l : j' < sz := by
                have := (List.getElem?_eq_some_iff.1 h10).1
                rw [i5 row0 (List.mem_of_getElem? h9)] at this
                exact this
              by_cases hii : i' = iv.toNat
              · subst hii
                have : ¬ (off ≤ j' ∧ j' < off + ls.length) := fun e => h11 ⟨rfl, e⟩
                omega
              · rcases Nat.lt_or_gt_of_ne hii with hlt | hgt
                · refine .inl ?_
                  have := Nat.mul_le_mul_right sz (show i' + 1 ≤ iv.toNat by omega)
                  rw [Nat.add_mul] at this
                  omega
                · refine .inr ?_
                  have := Nat.mul_le_mul_right sz (show iv.toNat + 1 ≤ i' by omega)
                  rw [Nat.add_mul] at this
                  omega
        · rcases hrowNew i' row' hi' j' d hj' with ⟨rfl, h9, h10, x0, h11, h12⟩ | ⟨row0, h9, h10, h11⟩
          · rw [if_pos ⟨rfl, h9, h10⟩, h12]
            have hv : vs[j' - off]? = some (vs.getD (j' - off) undef) := by
              rw [List.getD_eq_getElem?_getD, List.getElem?_eq_getElem (by omega)]; rfl
            have hpok := hput (j' - off) _ _ hv h11
            rw [show off + (j' - off) = j' by omega] at hpok
            refine hpok.rp hR (by omega) hzz (fun s' m2 hm2 b t hb => ⟨?_, hheap b (hne b s' t hb (hmvr _ hm2))⟩) (fun s' q' hq' => by rw [hho] at hq'; simp at hq') (fun s' hs' b p hb => ⟨?_, hheap b (hne b s' p hb (hfrr s' hs'))⟩)
            · show renB _ (G.own b) = _
              rw [hb]
              show storeF pu s m' pv (iv.toNat * sz) s' t = _
              rw [hmF (j', s', m2) hm2, cutP]
              simp only [List.length_append, List.length_singleton]
              by_cases ht : t.length < m1
              · rw [if_pos ht, if_pos (by omega)]
              · rw [if_neg ht, if_neg (by omega)]
            · show renB _ (G.own b) = _
              rw [hb]
              exact hfF s' hs' p
          · rw [if_neg h11]
            refine (i8 _ _ h9 _ _ h10).move hzz _ m1 (by omega) fun b t hb => ⟨?_, hheap b fun e => ?_⟩
            · show renB _ (G.own b) = _
              rw [hb]
              show storeF pu s m' pv (iv.toNat * sz) s _ = _
              rw [hrF, cutP]
              simp only [List.length_append, List.length_singleton]
              by_cases ht : t.length < m1
              · rw [if_pos ht, if_pos (by omega)]
              · rw [if_neg ht, if_neg (by omega)]
            · rw [e, hob] at hb
              injection hb with _ e2
              have := congrArg List.length e2
              simp at this

      have := Rp.upd (own' := fun b => renB (storeF pu s m' pv (iv.toNat * sz)) (G.own b)) (w' := w') (r := s) (M' := m') (full := pv) hzz (fun b t hb ht => ⟨?_, hheap b fun e => ?_⟩) (by omega) (by rw [hpvl]; exact hnew) pv [] m0 (G.hdr s) _ _ rfl (by omega) (by simpa using hroot) hnest hupd
      · simpa using this
      · show renB _ (G.own b) = _
        rw [hb]
        exact hrF t
      · rw [e, hob] at hb
        injection hb with _ e2
        exact ht (e2 ▸ List.prefix_rfl)
    · exact ⟨_, _, _, _, rfl, trivial⟩
    · refine ⟨x', m'', v', .frozen, rfl, ?_, fun b p hb => ?_⟩
      · have := hR.root h8
        simp only [RootRep] at this
        refine this.rd.mono' fun b hb hlt => ?_
        rcases hb with hb | ⟨p, hb⟩
        · exact hzz b hb hlt
        · refine ⟨?_, hheap b (hne b s p hb (hfrr s hs))⟩
          show renB _ (G.own b) = _
          rw [hb]
          exact hfF s hs p
      · have hb' : renB (storeF pu r m' pv (iv.toNat * sz)) (G.own b) = .slc s p := hb
        cases e : G.own b with
        | slc s' p' =>
          rw [e] at hb'
          have hb'' : storeF pu r m' pv (iv.toNat * sz) s' p' = .slc s p := hb'
          by_cases hs' : s' ∈ pu.frz
          · rw [hfF s' hs'] at hb''; cases hb''
          · unfold storeF at hb''
            rw [has_not.2 hs', cond_false] at hb''
            have hsr := hfrr s hs
            split at hb''
            · unfold cutP at hb''
              split at hb''
              · injection hb'' with j1 j2; exact hsr j1.symm
              · cases hb''
            · split at hb''
              · unfold cutP at hb''
                split at hb''
                · injection hb'' with j1 j2; exact hsr j1.symm
                · cases hb''
              · injection hb'' with j1 j2; exact hs' (j1 ▸ hs)
        | _ => rw [e] at hb'; cases hb'
end
end Go.Proofs.Ytacfmplofkjonaa.Rf

/- New slices. -/
namespace Go.Proofs.Ytacfmplofkjonaa.Rf
set_option linter.unusedVariables false
set_option linter.unusedSimpArgs false

theorem chunk_get : ∀ (sz n : Nat) (l : List D), l.length = n * sz → ∀ i row, (chunk sz n l)[i]? = some row → i < n ∧ row.length = sz ∧ ∀ j d, row[j]? = some d → l[i * sz + j]? = some d
  | sz, 0, l, _, i, row, h => by simp [chunk] at h
  | sz, n + 1, l, hl, i, row, h => by
    simp only [chunk] at h
    rw [Nat.add_mul, Nat.one_mul] at hl
    cases i with
    | zero =>
      simp only [List.getElem?_cons_zero, Option.some.injEq] at h
      subst h
      refine ⟨by omega, by simp; omega, fun j d hj => ?_⟩
      rw [List.getElem?_take] at hj
      split at hj
      · simpa using hj
      · cases hj
    | succ i =>
      simp only [List.getElem?_cons_succ] at h
      obtain ⟨h1, h2, h3⟩ := chunk_get sz n (l.drop sz) (by simp; omega) i row h
      refine ⟨by omega, h2, fun j d hj => ?_⟩
      have := h3 j d hj
      rw [List.getElem?_drop] at this
      rw [← this]
      congr 1
      rw [Nat.add_mul]; omega
theorem chunk_len : ∀ (sz n : Nat) (l : List D), (chunk sz n l).length = n
  | _, 0, _ => rfl
  | sz, n + 1, l => by simp [chunk, chunk_len sz n]
theorem repl_len {α : Type} (l : List α) : ∀ n, (repl l n).length = n * l.length
  | 0 => by simp [repl]
  | n + 1 => by rw [repl, List.length_append, repl_len l n, Nat.add_mul]; omega
theorem repl_get {α : Type} (l : List α) (h : 0 < l.length) : ∀ n j, j < n * l.length → (repl l n)[j]? = l[j % l.length]?
  | 0, j, hj => by simp at hj
  | n + 1, j, hj => by
    rw [repl]
    by_cases h1 : j < l.length
    · rw [List.getElem?_append_left h1, Nat.mod_eq_of_lt h1]
    · rw [List.getElem?_append_right (by omega), repl_get l h n (j - l.length) (by rw [Nat.add_mul] at hj; omega)]
      congr 1
      rw [Nat.mod_eq_sub_mod (by omega : j ≥ l.length)]

section
variable {P : Program} {E : Env} {F : Frame0} {n : Nat} {σ : Nat → Option Cont} {ρ : List D} {a : Act} {w w' : World} {G G' : Gh} {g : Option (Atom × Bool)} {o : Oper} {cf : Nat → List D → Option (List D)} {Q : Exit → Act → World → Prop} {next : Act → World → Prop}

theorem fillRows_rep {ti : TI} {len : Nat} {place : Nat → Option (Nat × Nat)} (hpl : ∀ i, i < len → place i = some (i * ti.size, ti.size)) :
    ∀ {xs : List (Nat × Operand)} {ps : List (Nat × SV)}, PartsRep σ ρ G w a xs ps → ∀ {ls ls' : List Leaf} {us : Array Value}, ls.length = len * ti.size → LeavesRep σ ρ G w ls us.toList → fillRows ti len ls ps = some ls' →
    ∃ us', Instr.fill place us (xs.map fun x => (x.1, a.eval x.2)) = some us' ∧ LeavesRep σ ρ G w ls' us'.toList ∧ ls'.length = len * ti.size
  | [], _, rfl, ls, ls', us, hn, hl, h => by
    simp only [fillRows, Option.some.injEq] at h
    subst h
    exact ⟨us, rfl, hl, hn⟩
  | (i, x) :: xs, _, ⟨sv, ps, rfl, h1, hr⟩, ls, ls', us, hn, hl, h => by
    unfold fillRows at h
    split at h
    · rename_i vs hvs
      cases hb : (Nat.beq vs.length ti.size && Nat.blt i len) with
      | false => rw [hb] at h; cases h
      | true =>
        rw [hb, cond_true] at h
        simp only [Bool.and_eq_true, Nat.beq_eq, Nat.blt_eq] at hb
        have h2 := leavesOf_rep hvs h1
        have hlen := hl.len
        have hle : i * ti.size + ti.size ≤ ls.length := by
          have := Nat.mul_le_mul_right ti.size (show i + 1 ≤ len by omega)
          rw [Nat.add_mul, Nat.one_mul] at this
          omega
        obtain ⟨us1, h3, h4⟩ := fill_step (rest := xs.map fun x => (x.1, a.eval x.2)) (hpl i hb.2) (by rw [h2.len]; exact hb.1) (by rw [← Array.length_toList, hlen]; exact hle)
        obtain ⟨us', h5, h6, h7⟩ := fillRows_rep hpl hr (us := us1) (ls := setRange ls (i * ti.size) vs) (by rw [setRange_len (by rw [hb.1]; exact hle)]; exact hn) (by rw [h4]; exact hl.setRange h2 (by rw [hb.1]; exact hle)) h
        exact ⟨us', by rw [List.map_cons, h3]; exact h5, h6, h7⟩
    · cases h

def mkF (pu : Put) (nr m' : Nat) (s : Nat) (p : List Nat) : Ow :=
  bif has pu.frz s then .frz else match pu.moves.find? (fun y => Nat.beq y.2.1 s) with
    | some z => cutP nr m' ([z.1] ++ p)
    | none => .slc s p

theorem modGet (z : Array Value) (hz : 0 < z.size) (N j : Nat) (hj : j < N) : ((Array.range N).map (fun i => z[i % z.size]!))[j]? = z[j % z.size]? := by
  rw [Array.getElem?_map, Array.getElem?_range]
  rw [if_pos hj]
  simp only [Option.map_some]
  have hlt : j % z.size < z.size := Nat.mod_lt _ hz
  rw [getElem!_pos z (j % z.size) hlt, Array.getElem?_eq_getElem hlt]

theorem zeroArr_rep {t : TypeId} {i : TI} {info : TypeInfo} {u : TypeDesc} (f : TiFacts P t i info u) (hs : 0 < i.size) {z : Value} (hz : LeavesRep σ ρ G w (i.cells.map zeroLeaf) z.cells.toList) (len : Nat) :
    LeavesRep σ ρ G w (repl (i.cells.map zeroLeaf) len) ((Array.range (len * i.size)).map (fun j => z.cells[j % z.cells.size]!)).toList := by
  have hcl : (i.cells.map zeroLeaf).length = i.size := by rw [List.length_map, f.len]
  have hzl : z.cells.size = i.size := by rw [← Array.length_toList, hz.len, hcl]
  refine .of_get (by rw [repl_len, hcl]; simp) fun j l v hj hv => ?_
  have hlt : j < len * i.size := by
    have := (List.getElem?_eq_some_iff.1 hj).1
    rwa [repl_len, hcl] at this
  rw [repl_get _ (by omega) _ _ (by rw [hcl]; exact hlt), hcl] at hj
  rw [Array.getElem?_toList, modGet _ (by omega) _ _ hlt, hzl] at hv
  obtain ⟨v', h1, h2⟩ := hz.get hj
  rw [Array.getElem?_toList, hv] at h1
  exact Option.some.inj h1 ▸ h2

theorem sound_buildSlice (hR : R E.ntmps F σ ρ a w G) (hd : DstOk E.ntmps o) (hti : TiOk P E.ti) {nv nb nr : Nat} {mv mvs : Bool} (hf : Fresh σ nb nr) {t : TypeId} {len : Nat} {parts : Array (Nat × Operand)} (ho : o.op = .buildSlice t len parts) {res : OpRes}
    (h : (sxOp E mv mvs nv nb nr g o).eval σ = some res) (hst : StepsOk cf ρ g nv res.lets) : Sound P E F σ ρ a w g o Q res.upd := by
  simp only [sxOp, ho, eval_bind, Option.bind_eq_some_iff, tiR, eval_ofOpt, eval_guardR] at h
  obtain ⟨st, h1, e, h2, ti, h3, ps, h4, _, h5, h⟩ := h
  split at h5
  case isFalse => cases h5
  rename_i hb5
  simp only [Bool.and_eq_true, Nat.ble_eq, Nat.blt_eq] at hb5
  obtain ⟨⟨hsz1, hsz0⟩, hby⟩ := hb5
  obtain ⟨info, u, f⟩ := tiOf_facts (hti.ok _ _ h1)
  obtain rfl := elem_und f h2
  obtain ⟨info', u', f'⟩ := tiOf_facts (hti.ok _ _ h3)
  split at h
  case h_2 => cases h
  rename_i ls hls
  simp only [eval_bind, Option.bind_eq_some_iff, eval_guardR] at h
  obtain ⟨pu, h6, _, h7, fr, h8, _, h9, h⟩ := h
  split at h7
  case isFalse => cases h7
  rename_i hb7
  split at h9
  case isFalse => cases h9
  rename_i hb9
  simp only [Bool.and_eq_true, Bool.not_eq_true', List.any_eq_false, List.isEmpty_iff] at hb9
  obtain ⟨⟨hdis, hmf⟩, hho⟩ := hb9
  obtain ⟨hfz1, hfz2⟩ := freezeAll_rep h8
  -- what the machine does
  have main : gOn ρ g = true → ∃ us' : Array Value, (execOp a.eval o).run P w = .ok (.value (.slice (some ⟨w.heap.size, 0, none⟩) len len)) (pushB w us' e) ∧ LeavesRep σ ρ G w ls us'.toList ∧ ls.length = len * ti.size := by
    intro hg
    obtain ⟨z, hz1, hz2, -, -⟩ := f'.zeros (σ := σ) (ρ := ρ) (G := G) (w := w)
    have hz3 := zeroArr_rep f' hsz0 hz2 len
    have hcl : (ti.cells.map zeroLeaf).length = ti.size := by rw [List.length_map, f'.len]
    obtain ⟨us', hfl, hl, hll⟩ := fillRows_rep (place := fun i => some (i * ti.size, ti.size)) (fun i _ => rfl) (rdParts_rep hR hg h4) (ls := repl (ti.cells.map zeroLeaf) len) (by rw [repl_len, hcl]) hz3 hls
    refine ⟨us', ?_, hl, hll⟩
    · unfold execOp
      simp only [ho]
      refine run_val ?_
      unfold Instr.buildSlice
      simp only [Sem.run_bind, run_underlying f.und, Result.andThen_ok, f'.sizeOf]
      have hle : ¬ len * ti.size > 2 ^ 24 := by
        have : (2:Nat) ^ 24 = 16777216 := by decide
        omega
      rw [if_neg hle]
      have e1 : (parts.map fun x => (x.1, a.eval x.2)).toList = parts.toList.map fun x => (x.1, a.eval x.2) := by simp
      by_cases h0 : len * ti.size = 0
      · have hus : Instr.fill (fun i => some (i * ti.size, ti.size)) ((Array.range (len * ti.size)).map (fun j => (#[] : Array Value)[j % (#[] : Array Value).size]!)) (parts.map fun x => (x.1, a.eval x.2)).toList = some us' := by
          rw [e1, ← hfl]
          congr 1
          rw [h0]
          simp
        simp only [Sem.run_bind, Sem.run_pure, Result.andThen_ok, h0, if_true] at hus ⊢
        rw [hus]
        simp [newRow, pushB]
      · simp only [Sem.run_bind, if_neg h0, run_zeroValue f'.info_ hz1, Result.andThen_ok, Sem.run_pure]
        rw [e1, hfl]
        simp [newRow, pushB]
  have hone : ∀ us' : Array Value, LeavesRep σ ρ G w ls us'.toList → pu.xs.length = ls.length ∧ (∀ j v x, us'.toList[j]? = some v → pu.xs[j]? = some x → PutOk σ ρ G w pu (0 + j) v x) := fun us' hl => by
    obtain ⟨h1, h2, -⟩ := putLeaves_rep hR h6 hl
    exact ⟨h1, h2⟩
  cases hgg : noG g with
  | false =>
    rw [hgg, cond_false] at h
    rw [hgg, Bool.false_or] at hb7
    simp only [Bool.and_eq_true, List.isEmpty_iff] at hb7
    obtain ⟨⟨hm0, -⟩, hf0⟩ := hb7
    simp only [out1, eval_ret, Option.some.injEq] at h
    subst h
    simp only [dst_eq, List.append_nil]
    refine ⟨fun hg => ?_, fun hg => off_1 hR hd hg⟩
    obtain ⟨us', hrun, hl, hll⟩ := main hg
    obtain ⟨hpl, hput⟩ := hone us' hl
    obtain ⟨d, hd1, hd2⟩ := step1_one hst hg
    refine wp_value hrun ⟨G, ?_⟩
    have hfin := hR.own hd (g := g) (sv := .one (.sn [] .no false (.v nv))) (v := .slice (some ⟨w.heap.size, 0, none⟩) len len) (w' := pushB w us' e) (G' := G) (ur := []) (f := fun s p => .slc s p) (wr := fun _ => False)
      (by simp) (fun b _ => by cases hb : G.own b <;> rfl) (fun b hb => hR.frame.fresh b (by rw [pushB_size] at hb; omega)) ⟨rfl, rfl, rfl, by rw [pushB_size]; omega⟩ (fun b hb => .inl (hR.frame.fresh b hb))
      (fun b hlt _ => pushB_old (by omega)) (fun _ h => h.elim) (fun _ _ _ _ _ => rfl) (by simp) (fun _ _ _ _ _ s p q h => by injection h with h1 h2; exact ⟨h1, h2⟩) (fun _ _ => rfl) rfl (fun hfr _ => ?_) (by simp)
    · rw [List.append_nil] at hfin
      exact hfin
    · simp only [SVRep, LeafRep]
      refine ⟨⟨rfl, by simp⟩, fun _ => ⟨?_, by simp, trivial⟩⟩
      simp only [Prim.run] at hd1
      split at hd1
      case isFalse => cases hd1
      rename_i hxl
      simp only [Option.some.injEq, List.cons.injEq, and_true] at hd1
      rw [hd2, ← hd1]
      refine .rows _ ⟨w.heap.size, 0, none⟩ len len ti.size _ (fun i j => us'.toList.getD (i * ti.size + j) undef) (chunk_len _ _ _) (Nat.le_refl _) (.inr rfl) (fun row hr => ?_) (fun i row hi j d hj => ?_) (fun i row hi j d hj => ?_)
      · obtain ⟨i, hi⟩ := List.mem_iff_getElem?.1 hr
        exact (chunk_get _ _ _ hxl i row hi).2.1
      · obtain ⟨h10, h11, h12⟩ := chunk_get _ _ _ hxl i row hi
        have h13 := (List.getElem?_eq_some_iff.1 (h12 j d hj)).1
        refine ⟨.inl (hR.frame.fresh _ (Nat.le_refl _)), ?_⟩
        rw [pushB_cell]
        have h14 : i * ti.size + j < us'.toList.length := by rw [hl.len, ← hpl]; simpa using h13
        rw [List.getD_eq_getElem?_getD, List.getElem?_eq_getElem h14, ← Array.getElem?_toList, List.getElem?_eq_getElem h14]
        rfl
      · obtain ⟨h10, h11, h12⟩ := chunk_get _ _ _ hxl i row hi
        have h13 := h12 j d hj
        rw [List.getElem?_map, Option.map_eq_some_iff] at h13
        obtain ⟨x, hx1, rfl⟩ := h13
        have h14 : i * ti.size + j < us'.toList.length := by rw [hl.len, ← hpl]; exact (List.getElem?_eq_some_iff.1 hx1).1
        have hv : us'.toList[i * ti.size + j]? = some (us'.toList.getD (i * ti.size + j) undef) := by
          rw [List.getD_eq_getElem?_getD, List.getElem?_eq_getElem h14]; rfl
        cases hput _ _ _ hv hx1 with
        | sc h => exact .sc h
        | nil z hx hv => rw [hx, hv]; exact Rd.nil
        | mv r m ver hm hr hv hd' => rw [hm0] at hm; simp at hm
        | hole r k m q hm hl hq hrp hn hd' => rw [hho] at hm; simp at hm
        | fz hd' h =>
          refine h.mono' fun b hb hlt => ?_
          rcases hb with hb | ⟨r, p, h1, -⟩
          · exact ⟨.inl hb, pushB_old (by omega)⟩
          · rw [hf0] at h1; simp at h1
  | true =>
    obtain rfl := noG_eq hgg
    rw [hgg, cond_true] at h
    simp only [out1, eval_ret, Option.some.injEq] at h
    subst h
    simp only [dst_eq]
    refine ⟨fun hg => ?_, fun hg => by simp [gOn] at hg⟩
    obtain ⟨us', hrun, hl, hll⟩ := main hg
    obtain ⟨hpl, hput⟩ := hone us' hl
    obtain ⟨d, hd1, hd2⟩ := step1_one hst hg
    generalize hM : min big (pu.depth + 1) = M
    obtain ⟨m1, rfl⟩ : ∃ m1, M = m1 + 1 := ⟨M - 1, by rw [← hM]; unfold big; omega⟩
    have hN : w.heap.size = w.heap.size := rfl
    have hdr : ∀ r, (σ (kR r)).isSome → r ≠ nr := fun r hr e => by
      rw [e, hf.nr nr (Nat.le_refl _) (by unfold maxRoots; omega)] at hr; cases hr
    refine wp_value hrun ⟨{ G with own := fun b => if b = w.heap.size then .slc nr [] else renB (mkF pu nr (m1 + 1)) (G.own b), hdr := fun r => if r = nr then .slice (some ⟨w.heap.size, 0, none⟩) len len else G.hdr r }, ?_⟩
    have hfF : ∀ s, s ∈ pu.frz → ∀ p, mkF pu nr (m1 + 1) s p = .frz := fun s hs p => by
      unfold mkF
      rw [has_iff.2 hs, cond_true]
    have hmF : ∀ z ∈ pu.moves, ∀ p, mkF pu nr (m1 + 1) z.2.1 p = cutP nr (m1 + 1) ([z.1] ++ p) := fun z hz p => by
      unfold mkF
      have : has pu.frz z.2.1 = false := by
        have := hmf z hz
        simpa using this
      rw [this, cond_false, find_distinct hdis z hz]
    have hslt : ∀ b, G.own b ≠ .frz → b < w.heap.size := fun b hb => by
      rcases Nat.lt_or_ge b w.heap.size with h | h
      · exact h
      · exact absurd (hR.frame.fresh b h) hb
    have hheap : ∀ b, b ≠ w.heap.size → (pushB w us' e).heap[b]? = w.heap[b]? := fun b hb => pushB_old hb
    have hmem : ∀ {s : Nat} {c : Cont}, (kR s, c) ∈ (kR nr, Cont.root (.v nv) (m1 + 1) 0 .live) :: (pu.moves.map fun z => (kR z.2.1, Cont.root (.c .hole) 0 0 .gone)) ++ fr →
        (s = nr ∧ c = .root (.v nv) (m1 + 1) 0 .live) ∨ (∃ z ∈ pu.moves, s = z.2.1 ∧ c = .root (.c .hole) 0 0 .gone) ∨
        (s ∈ pu.frz ∧ ∃ x m v, c = .root x m v .frozen ∧ σ (kR s) = some (.root x m v .live)) := by
      intro s c hc
      rcases List.mem_append.1 hc with hc | hc
      · rcases List.mem_cons.1 hc with hc | hc
        · obtain ⟨e1, e2⟩ := Prod.mk.inj hc
          exact .inl ⟨kR_inj e1, e2⟩
        · obtain ⟨z, hz, e⟩ := List.mem_map.1 hc
          obtain ⟨e1, e2⟩ := Prod.mk.inj e
          exact .inr (.inl ⟨z, hz, (kR_inj e1).symm, e2.symm⟩)
      · obtain ⟨s', hs', x', m'', v', e1, e2, e3⟩ := hfz2 _ _ hc
        obtain rfl := kR_inj e1
        exact .inr (.inr ⟨hs', x', m'', v', e2, e3⟩)
    have hnrσ : σ (kR nr) = none := hf.nr nr (Nat.le_refl _) (by unfold maxRoots; omega)
    have hfzr : ∀ s, s ∈ pu.frz → s ≠ nr := fun s hs e => by
      rcases hfz1 s hs with ⟨x', m'', v', h8, -⟩ | ⟨x', m'', v', h8⟩ <;> rw [e, hnrσ] at h8 <;> cases h8
    have hzz : ∀ b, G.own b = .frz → b < w.heap.size → (if b = w.heap.size then Ow.slc nr [] else renB (mkF pu nr (m1 + 1)) (G.own b)) = .frz ∧ (pushB w us' e).heap[b]? = w.heap[b]? := fun b hb hlt => by
      rw [if_neg (by omega), hb]
      exact ⟨rfl, hheap b (by omega)⟩
    have hown' : ∀ b s p, G.own b = .slc s p → (if b = w.heap.size then Ow.slc nr [] else renB (mkF pu nr (m1 + 1)) (G.own b)) = mkF pu nr (m1 + 1) s p ∧ (pushB w us' e).heap[b]? = w.heap[b]? := fun b s p hb => by
      have := hslt b (by rw [hb]; simp)
      rw [if_neg (by omega), hb]
      exact ⟨rfl, hheap b (by omega)⟩
    refine hR.own hd (wr := fun _ => False) (f := mkF pu nr (m1 + 1)) ?_ ?_ ?_ ?_ ?_ (fun b hlt _ => hheap b (by omega)) (fun _ h => h.elim) ?_ ?_ ?_ ?_ rfl ?_ ?_
    · intro k c hc
      rcases List.mem_append.1 hc with hc | hc
      · rcases List.mem_cons.1 hc with hc | hc
        · exact ⟨nr, (Prod.mk.inj hc).1⟩
        · obtain ⟨z, hz, e⟩ := List.mem_map.1 hc
          exact ⟨z.2.1, (Prod.mk.inj e).1.symm⟩
      · obtain ⟨s', -, -, -, -, e1, -⟩ := hfz2 _ _ hc
        exact ⟨s', e1⟩
    · intro b hlt
      show (if b = w.heap.size then Ow.slc nr [] else _) = _
      rw [if_neg (by omega)]
    · intro b hb
      rw [pushB_size] at hb
      show (if b = w.heap.size then Ow.slc nr [] else renB _ (G.own b)) = .frz
      rw [if_neg (by omega), hR.frame.fresh b (by omega)]; rfl
    · exact ⟨rfl, rfl, rfl, by rw [pushB_size]; omega⟩
    · intro b hb
      show (if b = w.heap.size then Ow.slc nr [] else renB _ (G.own b)) = .frz ∨ ∃ r p, (if b = w.heap.size then Ow.slc nr [] else renB _ (G.own b)) = .slc r p ∧ _
      by_cases e : b = w.heap.size
      · rw [if_pos e]; exact .inr ⟨nr, [], rfl, hnrσ⟩
      · rw [if_neg e, hR.frame.fresh b hb]; exact .inl rfl
    · intro b s p hb hnot
      unfold mkF
      have h1 : has pu.frz s = false := by
        rw [has_not]
        intro hs
        rcases hfz1 s hs with ⟨x', m'', v', -, h8⟩ | ⟨x', m'', v', h8⟩
        · exact hnot _ (List.mem_append_right _ h8)
        · exact (hR.root h8).2 b p hb
      have h2 : s ∉ pu.moves.map (·.2.1) := by
        intro hh
        obtain ⟨z, hz, e⟩ := List.mem_map.1 hh
        refine hnot (.root (.c .hole) 0 0 .gone) (List.mem_append_left _ (List.mem_cons_of_mem _ (List.mem_map.2 ⟨z, hz, ?_⟩)))
        rw [e]
      rw [h1, cond_false, find_none h2]
    · intro s c hc _
      rcases hmem hc with ⟨rfl, rfl⟩ | ⟨z, hz, rfl, rfl⟩ | ⟨hs, x', m'', v', rfl, h8⟩
      · exact .inl ⟨hnrσ, _, _, _, _, rfl⟩
      · exact .inr (.inr (.inl ⟨_, _, _, _, rfl, by simp, by simp⟩))
      · refine .inr (.inr (.inr ⟨x', m'', v', h8, rfl, fun b p hb => ?_⟩))
        obtain ⟨h10, h11⟩ := hown' b s p hb
        exact ⟨h10.trans (hfF s hs p), h11⟩
    · intro r0 x0 m0 k0 hfz s p q' hF
      unfold mkF at hF
      cases hh : has pu.frz s with
      | true => rw [hh, cond_true] at hF; cases hF
      | false =>
        rw [hh, cond_false] at hF
        split at hF
        · unfold cutP at hF
          split at hF
          · injection hF with j1 j2
            exact absurd j1.symm (hdr r0 (by rw [hfz]; rfl))
          · cases hF
        · injection hF with j1 j2; exact ⟨j1, j2⟩
    · intro r hr
      show (if r = nr then _ else _) = _
      rw [if_neg (hdr r hr)]
    · intro _ _
      simp only [SVRep, LeafRep]
      refine ⟨by simp, upds_some _ _ _ (.inr ⟨_, List.mem_append_right _ (List.mem_append_left _ List.mem_cons_self)⟩), rfl⟩
    · intro _ s c hc _
      rcases hmem hc with ⟨rfl, rfl⟩ | ⟨z, hz, rfl, rfl⟩ | ⟨hs, x', m'', v', rfl, h8⟩
      · refine ⟨_, _, _, _, rfl, ?_⟩
        simp only [RootRep, if_true]
        simp only [Prim.run] at hd1
        split at hd1
        case isFalse => cases hd1
        rename_i hxl
        simp only [Option.some.injEq, List.cons.injEq, and_true] at hd1
        rw [hd2, ← hd1]
        refine .sl _ ⟨w.heap.size, 0, none⟩ len len ti.size _ (fun i j => us'.toList.getD (i * ti.size + j) undef) (chunk_len _ _ _) (Nat.le_refl _) (.inl rfl) (fun row hr => ?_) (fun _ => ⟨rfl, by simp, fun k hk => ?_⟩) (fun i row hi j d hj => ?_) (fun i row hi j d hj => ?_)
        · obtain ⟨i, hi⟩ := List.mem_iff_getElem?.1 hr
          exact (chunk_get _ _ _ hxl i row hi).2.1
        · rw [pushB_cell, pushB_frozen]
          have : k < us'.size := by rw [← Array.length_toList, hl.len, hll]; exact hk
          exact ⟨us'[k], Array.getElem?_eq_getElem this, rfl⟩
        · obtain ⟨h10, h11, h12⟩ := chunk_get _ _ _ hxl i row hi
          have h13 := (List.getElem?_eq_some_iff.1 (h12 j d hj)).1
          rw [pushB_cell]
          have h14 : i * ti.size + j < us'.toList.length := by rw [hl.len, ← hpl]; simpa using h13
          rw [List.getD_eq_getElem?_getD, List.getElem?_eq_getElem h14, ← Array.getElem?_toList, List.getElem?_eq_getElem h14]
          rfl
        · obtain ⟨h10, h11, h12⟩ := chunk_get _ _ _ hxl i row hi
          have h13 := h12 j d hj
          rw [List.getElem?_map, Option.map_eq_some_iff] at h13
          obtain ⟨x, hx1, rfl⟩ := h13
          have h14 : i * ti.size + j < us'.toList.length := by rw [hl.len, ← hpl]; exact (List.getElem?_eq_some_iff.1 hx1).1
          have hv : us'.toList[i * ti.size + j]? = some (us'.toList.getD (i * ti.size + j) undef) := by
            rw [List.getD_eq_getElem?_getD, List.getElem?_eq_getElem h14]; rfl
          have hpok := hput _ _ _ hv hx1
          rw [Nat.zero_add] at hpok
          refine hpok.rp hR (by unfold big at hM; omega) hzz (fun s' m2 hm2 b t hb => ?_) (fun s' q' hq' => by rw [hho] at hq'; simp at hq') (fun s' hs' b p hb => ?_)
          · obtain ⟨h15, h16⟩ := hown' b s' t hb
            refine ⟨h15.trans ?_, h16⟩
            rw [hmF _ hm2, cutP]
            simp only [List.length_append, List.length_singleton, List.nil_append]
            by_cases ht : t.length < m1
            · rw [if_pos ht, if_pos (by omega)]
            · rw [if_neg ht, if_neg (by omega)]
          · obtain ⟨h15, h16⟩ := hown' b s' p hb
            exact ⟨h15.trans (hfF s' hs' p), h16⟩
      · exact ⟨_, _, _, _, rfl, trivial⟩
      · refine ⟨x', m'', v', .frozen, rfl, ?_, fun b p hb => ?_⟩
        · have := hR.root h8
          simp only [RootRep] at this ⊢
          rw [if_neg (hfzr s hs)]
          refine this.rd.mono' fun b hb hlt => ?_
          rcases hb with hb | ⟨p, hb⟩
          · exact hzz b hb hlt
          · obtain ⟨h15, h16⟩ := hown' b s p hb
            exact ⟨h15.trans (hfF s hs p), h16⟩
        · have hb' : (if b = w.heap.size then Ow.slc nr [] else renB (mkF pu nr (m1 + 1)) (G.own b)) = .slc s p := hb
          split at hb'
          · injection hb' with j1 _
            exact hfzr s hs j1.symm
          · cases e : G.own b with
            | slc s' p' =>
              rw [e] at hb'
              have hb'' : mkF pu nr (m1 + 1) s' p' = .slc s p := hb'
              by_cases hs' : s' ∈ pu.frz
              · rw [hfF s' hs'] at hb''; cases hb''
              · unfold mkF at hb''
                rw [has_not.2 hs', cond_false] at hb''
                split at hb''
                · unfold cutP at hb''
                  split at hb''
                  · injection hb'' with j1 j2; exact hfzr s hs j1.symm
                  · cases hb''
                · injection hb'' with j1 j2; exact hs' (j1 ▸ hs)
            | _ => rw [e] at hb'; cases hb'
end
end Go.Proofs.Ytacfmplofkjonaa.Rf
