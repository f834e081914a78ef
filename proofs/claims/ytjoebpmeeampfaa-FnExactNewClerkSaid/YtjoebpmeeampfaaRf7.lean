/- Terms for the program's functions, and that they are right: part 7 of 7. -/
import Derived.Test.YtjoebpmeeampfaaRf6
import Derived.SizedLaws
import Derived.Carry
import Derived.ChangeOld
import Derived.ChangeShapes
import Derived.RowKit
import Derived.IntWalk
import Derived.Shelf.SlicesE.Clone
import Derived.Laws.CopyOwn
import Derived.LoopN
import Derived.WalkKit
import Derived.RegionTactic
import Derived.ChangeAlike
set_option linter.unusedSimpArgs false
set_option linter.unusedVariables false
set_option linter.unnecessarySimpa false
set_option linter.unusedSectionVars false
namespace Go.Proofs.Ytjoebpmeeampfaa.Rf
set_option linter.unusedVariables false
set_option linter.unusedSimpArgs false
def ExtOk (P : Program) (s : Sig) (e : List D → Option (List D)) : Prop :=
 ∀ vals w G ds ds', CPre s vals w G ds → e ds = some ds' → Goes P s.fn vals.toArray w fun v w' => CPost s (callF s G w) G.bx v w' ds'
def FnOk (P : Program) (T : Nat → Ent) (ti : Nat → Option TI) (sigs : List (Nat × Sig)) (key : Nat) (s : Sig) : Prop :=
 (∃ (E : Env) (fn : Func) (tm : Tm Unit), E.ti = ti ∧ E.sigs = sigs ∧ P.funcs[s.fn]? = some fn ∧ (fn.name == "runtime.NumGoroutine") = false ∧ sxFun E s fn = some tm ∧ T key = .tm tm) ∨ ∃ e, T key = .ext e ∧ ExtOk P s e
theorem contracts {P : Program} {T : Nat → Ent} {ti : Nat → Option TI} {sigs : List (Nat × Sig)} (hti : TiOk P ti) (hm : P.follows .mixedOrders = true) (H : ∀ key s, (key, s) ∈ sigs → FnOk P T ti sigs key s) :
  ∀ n key s, (key, s) ∈ sigs → Contract P T n key s := by
 intro n
 induction n with
 | zero =>
  intro key s _ vals w G ds ds' _ h
  cases h
 | succ n ih =>
  intro key s hmem
  rcases H key s hmem with ⟨E, fn, tm, rfl, rfl, h1, h2, h3, h4⟩ | ⟨e, h1, h2⟩
  ·exact fun_contract hti hm h1 h2 h3 h4 fun F => callsOk fun key s h => ih key s h
  ·intro vals w G ds ds' hpre hrun
   simp only [callN, h1] at hrun
   exact h2 vals w G ds ds' hpre hrun
inductive Ty where
 | int (k : IntKind)
 | bool
 | str
 | sl (bytes : Nat) (row : List Ty)
mutual
def WT : Ty → D → Prop
 | .int k, d => ∃ n, d = .int k n ∧ k.min ≤ n ∧ n ≤ k.max
 | .bool, d => ∃ b, d = .bool b
 | .str, d => ∃ s, d = .str s ∧ s.length ≤ reachBytes
 | .sl bytes row, d => ∃ rs, d = .rows row.length rs ∧ rs.length * bytes ≤ reachBytes ∧ ∀ r ∈ rs, WTs row r
def WTs : List Ty → List D → Prop
 | [], ds => ds = []
 | t :: ts, ds => ∃ d ds', ds = d :: ds' ∧ WT t d ∧ WTs ts ds'
end
def tysFs (P : Program) (rec : TypeId → Option (List Ty)) : Nat → List Field → Option (List Ty)
 | _, [] => some []
 | off, f :: fs => match rec f.type with
  | some r => bif Nat.beq f.offset off && Nat.beq r.length (P.cellsOf f.type) then (tysFs P rec (off + r.length) fs).map (r ++ ·) else none
  | none => none
def tysOf (P : Program) : Nat → TypeId → Option (List Ty)
 | 0, _ => none
 | n + 1, t => match P.underlying t with
  | some .bool => some [.bool]
  | some (.int k) => some [.int k]
  | some .string => some [.str]
  | some (.slice e) => match tysOf P n e with
   | some r => bif Nat.beq r.length (P.cellsOf e) then some [.sl (P.bytesOf e) r] else none
   | none => none
  | some (.struct fs) => match tysFs P (tysOf P n) 0 fs.toList with
   | some r => bif Nat.beq r.length (P.cellsOf t) then some r else none
   | none => none
  | _ => none
def CellsOk (w : World) : List Ty → List Value → List D → Prop
 | [], cs, ds => cs = [] ∧ ds = []
 | t :: ts, cs, ds => ∃ c cs' d ds', cs = c :: cs' ∧ ds = d :: ds' ∧ Rd (fun _ => True) w c d ∧ WT t d ∧ CellsOk w ts cs' ds'
theorem CellsOk.append {w : World} : ∀ {ts ts' : List Ty} {cs cs' : List Value} {ds ds' : List D}, CellsOk w ts cs ds → CellsOk w ts' cs' ds' → CellsOk w (ts ++ ts') (cs ++ cs') (ds ++ ds')
 | [], ts', cs, cs', ds, ds', h, h' => by
  obtain ⟨rfl, rfl⟩ := h
  exact h'
 | t :: ts, ts', cs, cs', ds, ds', h, h' => by
  obtain ⟨c, c1, d, d1, rfl, rfl, h1, h2, h3⟩ := h
  exact ⟨c, c1 ++ cs', d, d1 ++ ds', rfl, rfl, h1, h2, h3.append h'⟩
theorem CellsOk.len {w : World} : ∀ {ts : List Ty} {cs : List Value} {ds : List D}, CellsOk w ts cs ds → cs.length = ts.length ∧ ds.length = ts.length
 | [], cs, ds, h => by obtain ⟨rfl, rfl⟩ := h; exact ⟨rfl, rfl⟩
 | t :: ts, cs, ds, h => by
  obtain ⟨c, c1, d, d1, rfl, rfl, h1, h2, h3⟩ := h
  obtain ⟨h4, h5⟩ := h3.len
  simp [h4, h5]
theorem CellsOk.get {w : World} : ∀ {ts : List Ty} {cs : List Value} {ds : List D}, CellsOk w ts cs ds → ∀ {j : Nat} {d : D}, ds[j]? = some d → ∃ c, cs[j]? = some c ∧ Rd (fun _ => True) w c d
 | [], cs, ds, h, j, d, hj => by obtain ⟨rfl, rfl⟩ := h; simp at hj
 | t :: ts, cs, ds, h, j, d, hj => by
  obtain ⟨c, c1, d', d1, rfl, rfl, h1, h2, h3⟩ := h
  cases j with
  | zero =>
   simp only [List.getElem?_cons_zero, Option.some.injEq] at hj
   subst hj
   exact ⟨c, rfl, h1⟩
  | succ j =>
   obtain ⟨c', h4, h5⟩ := h3.get (j := j) (by simpa using hj)
   exact ⟨c', by simpa using h4, h5⟩
theorem CellsOk.wts {w : World} : ∀ {ts : List Ty} {cs : List Value} {ds : List D}, CellsOk w ts cs ds → WTs ts ds
 | [], cs, ds, h => by obtain ⟨rfl, rfl⟩ := h; simp [WTs]
 | t :: ts, cs, ds, h => by
  obtain ⟨c, c1, d', d1, rfl, rfl, h1, h2, h3⟩ := h
  simp only [WTs]
  exact ⟨d', d1, rfl, h2, h3.wts⟩
theorem mapM_get' {α β : Type} {f : α → Option β} : ∀ {l : List α} {ys : List β}, l.mapM f = some ys → ys.length = l.length ∧ ∀ (i : Nat) (x : α), l[i]? = some x → ∃ y, ys[i]? = some y ∧ f x = some y
 | [], ys, h => by
  simp at h
  subst h
  simp
 | x :: l, ys, h => by
  simp only [List.mapM_cons, bind, Option.bind_eq_some_iff, pure, Option.some.injEq] at h
  obtain ⟨y, h1, ys', h2, rfl⟩ := h
  obtain ⟨h3, h4⟩ := mapM_get' h2
  refine ⟨by simp [h3], fun i z hz => ?_⟩
  cases i with
  | zero =>
   simp only [List.getElem?_cons_zero, Option.some.injEq] at hz
   subst hz
   exact ⟨y, rfl, h1⟩
  | succ i =>
   obtain ⟨y', h5, h6⟩ := h4 i z (by simpa using hz)
   exact ⟨y', by simpa using h5, h6⟩
theorem list_of {β : Type} {p : Nat → β → Prop} : ∀ (n : Nat), (∀ i, i < n → ∃ y, p i y) → ∃ l : List β, l.length = n ∧ ∀ i y, l[i]? = some y → p i y
 | 0, _ => ⟨[], rfl, by simp⟩
 | n + 1, h => by
  obtain ⟨l, h1, h2⟩ := list_of n fun i hi => h i (by omega)
  obtain ⟨y, hy⟩ := h n (by omega)
  refine ⟨l ++ [y], by simp [h1], fun i z hz => ?_⟩
  rcases Nat.lt_trichotomy i n with hi | hi | hi
  ·rw [List.getElem?_append_left (by omega)] at hz
   exact h2 i z hz
  ·subst hi
   rw [List.getElem?_append_right (by omega), h1, Nat.sub_self] at hz
   simp only [List.getElem?_cons_zero, Option.some.injEq] at hz
   subst hz
   exact hy
  ·have := (List.getElem?_eq_some_iff.1 hz).1
   simp [h1] at this
   omega
theorem weightsAll_mem {H : Type} {P : Program} {e : TypeId} : ∀ {l : List (DataW H)} {d : DataW H}, d ∈ l → ∀ n ∈ d.weights P e, n ∈ DataW.weightsAll P e l
 | [], d, h, _, _ => by simp at h
 | x :: l, d, h, n, hn => by
  simp only [DataW.weightsAll, List.mem_append]
  rcases List.mem_cons.1 h with rfl | h
  ·exact .inl hn
  ·exact .inr (weightsAll_mem h n hn)
theorem weightsEach_cons {H : Type} {P : Program} {t : TypeId} {ts : List TypeId} {d : DataW H} {ds : List (DataW H)} : DataW.weightsEach P (t :: ts) (d :: ds) = d.weights P t ++ DataW.weightsEach P ts ds := by
 simp only [DataW.weightsEach]
theorem trod_fields {P : Program} {w : World} {H : Type} {cs : List Value} {f : Field → List Value → Option (DataW H × List MemPlace)} {rec : TypeId → Option (List Ty)}
  (hrec : ∀ (fd : Field) (r : List Ty) (l : List Value) (y : DataW H × List MemPlace), rec fd.type = some r → f fd l = some y → (∀ m ∈ y.1.weights P fd.type, m ≤ reachBytes) → ∃ ds, CellsOk w r l ds) :
  ∀ {fs : List Field} {off : Nat} {tys : List Ty} {xs : List (DataW H × List MemPlace)}, tysFs P rec off fs = some tys → fs.mapM (fun fd => f fd ((cs.drop fd.offset).take (P.cellsOf fd.type))) = some xs →
  (∀ m ∈ DataW.weightsEach P (fs.map (·.type)) (xs.map (·.1)), m ≤ reachBytes) → cs.length = off + tys.length → ∃ ds, CellsOk w tys (cs.drop off) ds
 | [], off, tys, xs, h, _, _, hl => by
  simp only [tysFs, Option.some.injEq] at h
  subst h
  refine ⟨[], ?_, rfl⟩
  rw [List.drop_eq_nil_iff]
  simp only [List.length_nil] at hl
  omega
 | fd :: fs, off, tys, xs, h, hm, hw, hl => by
  simp only [tysFs] at h
  split at h
  case h_2 => cases h
  rename_i r hr
  cases hb : (Nat.beq fd.offset off && Nat.beq r.length (P.cellsOf fd.type)) with
  | false => rw [hb] at h; cases h
  | true =>
   rw [hb, cond_true, Option.map_eq_some_iff] at h
   obtain ⟨tys', h1, rfl⟩ := h
   simp only [Bool.and_eq_true, Nat.beq_eq] at hb
   obtain ⟨rfl, hcl⟩ := hb
   simp only [List.mapM_cons, bind, Option.bind_eq_some_iff, pure, Option.some.injEq] at hm
   obtain ⟨y, h2, ys, h3, rfl⟩ := hm
   simp only [List.map_cons, weightsEach_cons, List.mem_append] at hw
   obtain ⟨ds, h4⟩ := hrec fd r _ y hr h2 fun m hm => hw m (.inl hm)
   rw [List.length_append] at hl
   obtain ⟨ds', h5⟩ := trod_fields hrec (off := fd.offset + r.length) h1 h3 (fun m hm => hw m (.inr hm)) (by omega)
   refine ⟨ds ++ ds', ?_⟩
   have := h4.append h5
   rw [← hcl] at this
   have e : List.take r.length (List.drop fd.offset cs) ++ List.drop (fd.offset + r.length) cs = List.drop fd.offset cs := by
    rw [← List.drop_drop, List.take_append_drop]
   rw [e] at this
   exact this
theorem trod_cells {P : Program} {H : Type} {enc : TypeId × Value → H} {w : World} {sp : Nat → Bool} {held : Bool} : ∀ (n fuel : Nat) {t : TypeId} {cs : List Value} {x : DataW H} {ps : List MemPlace} {tys : List Ty}, tysOf P n t = some tys → DataW.trod enc P w 0 sp held fuel t cs = some (x, ps) →
  (∀ m ∈ x.weights P t, m ≤ reachBytes) → ∃ ds, CellsOk w tys cs ds
 | 0, _, t, cs, x, ps, tys, h, _, _ => by simp [tysOf] at h
 | n + 1, 0, t, cs, x, ps, tys, _, h, _ => by simp [DataW.trod] at h
 | n + 1, fuel + 1, t, cs, x, ps, tys, ht, h, hw => by
  simp only [tysOf] at ht
  unfold DataW.trod at h
  split at ht
  ·
   rename_i hu
   rw [hu] at h
   simp only [Option.some.injEq] at ht
   subst ht
   split at h <;> rename_i heq <;> first | (cases heq; done) | skip
   all_goals first | (injection heq with heq; cases heq; done) | skip
   ·exact ⟨_, _, [], _, [], rfl, rfl, .sc (.bool _), ⟨_, rfl⟩, rfl, rfl⟩
   ·cases h
  ·
   rename_i k hu
   rw [hu] at h
   simp only [Option.some.injEq] at ht
   subst ht
   split at h <;> rename_i heq <;> first | (cases heq; done) | skip
   all_goals first | (injection heq with heq; cases heq; done) | skip
   ·rename_i k0 k' m
    injection heq with heq
    injection heq with heq
    subst heq
    split at h
    ·rename_i hc
     obtain ⟨rfl, hwf⟩ := hc
     simp only [Lit.wf, Bool.and_eq_true, decide_eq_true_eq] at hwf
     exact ⟨_, _, [], _, [], rfl, rfl, .sc (.int _ _), ⟨_, rfl, hwf.1, hwf.2⟩, rfl, rfl⟩
    ·cases h
   ·cases h
  ·
   rename_i hu
   rw [hu] at h
   simp only [Option.some.injEq] at ht
   subst ht
   split at h <;> rename_i heq <;> first | (cases heq; done) | skip
   all_goals first | (injection heq with heq; cases heq; done) | skip
   ·rename_i s0
    split at h
    ·simp only [Option.some.injEq, Prod.mk.injEq] at h
     obtain ⟨rfl, rfl⟩ := h
     refine ⟨_, _, [], _, [], rfl, rfl, .sc (.str s0.data.toList), ⟨_, rfl, hw _ ?_⟩, rfl, rfl⟩
     simp only [DataW.weights, List.mem_singleton]
    ·cases h
   ·cases h
  ·
   rename_i e hu
   split at ht
   case h_2 => cases ht
   rename_i r hr
   cases hb : Nat.beq r.length (P.cellsOf e) with
   | false => rw [hb] at ht; cases ht
   | true =>
    rw [hb, cond_true] at ht
    simp only [Option.some.injEq] at ht
    subst ht
    simp only [Nat.beq_eq] at hb
    rw [hu] at h
    split at h <;> rename_i heq <;> first | (cases heq; done) | skip
    all_goals first | (injection heq with heq; cases heq; done) | skip
    ·injection heq with heq
     injection heq with heq
     subst heq
     simp only [Option.some.injEq, Prod.mk.injEq] at h
     obtain ⟨rfl, rfl⟩ := h
     refine ⟨_, _, [], .rows r.length [], [], rfl, rfl, .rows none ⟨0, 0, none⟩ 0 0 r.length [] (fun _ _ => undef) rfl (Nat.le_refl _) (.inl rfl) (by simp) (by simp) (by simp), ⟨[], rfl, by simp, by simp⟩, rfl, rfl⟩
    ·rename_i e0 ad len cap
     injection heq with heq
     injection heq with heq
     subst heq
     dsimp only at h
     split at h
     case isFalse => cases h
     rename_i hc
     simp only [Option.bind_eq_some_iff, Option.map_eq_some_iff, Prod.mk.injEq] at h
     obtain ⟨elems, h1, rest, h2, rfl, rfl⟩ := h
     obtain ⟨h3, h4⟩ := mapM_get' h1
     rw [List.length_range] at h3
     simp only [DataW.weights, hu, List.mem_cons, List.mem_append] at hw
     have hrow : ∀ i, i < len → ∃ ds : List D, ∃ cs : List Value, (∀ j c, cs[j]? = some c → w.cell? (ad.add (i * r.length + j)) = some c) ∧ CellsOk w r cs ds := by
      intro i hi
      obtain ⟨y, h5, h6⟩ := h4 i i (by rw [List.getElem?_range hi])
      simp only [Option.bind_eq_some_iff] at h6
      obtain ⟨cs, h7, h8⟩ := h6
      obtain ⟨x, ps⟩ := y
      obtain ⟨ds, h9⟩ := trod_cells n fuel hr h8 fun m hm => hw m (.inr (.inl (weightsAll_mem (List.mem_map.2 ⟨_, List.mem_of_getElem? h5, rfl⟩) m hm)))
      refine ⟨ds, cs, fun j c hj => ?_, h9⟩
      unfold World.cells? at h7
      split at h7
      ·obtain ⟨h10, h11⟩ := mapM_get' h7
       have hjl := (List.getElem?_eq_some_iff.1 hj).1
       rw [h10, List.length_range] at hjl
       obtain ⟨c', h12, h13⟩ := h11 j j (by rw [List.getElem?_range hjl])
       rw [hj] at h12
       obtain rfl := Option.some.inj h12
       rw [add_add, ← hb] at h13
       exact h13
      ·cases h7
     obtain ⟨rs, h5, h6⟩ := list_of len hrow
     have hex : ∀ i, ∃ cs : List Value, ∀ ds, rs[i]? = some ds → (∀ j c, cs[j]? = some c → w.cell? (ad.add (i * r.length + j)) = some c) ∧ CellsOk w r cs ds := by
      intro i
      cases hi : rs[i]? with
      | none => exact ⟨[], fun ds h => by cases h⟩
      | some ds =>
       obtain ⟨cs, h7, h8⟩ := h6 i ds hi
       exact ⟨cs, fun ds' h => by obtain rfl := Option.some.inj h; exact ⟨h7, h8⟩⟩
     have hch : ∃ cf : Nat → List Value, ∀ i ds, rs[i]? = some ds → (∀ j c, (cf i)[j]? = some c → w.cell? (ad.add (i * r.length + j)) = some c) ∧ CellsOk w r (cf i) ds := ⟨fun i => (hex i).choose, fun i => (hex i).choose_spec⟩
     obtain ⟨cf, hcf⟩ := hch
     have hlen : ∀ row ∈ rs, row.length = r.length := fun row hrow => by
      obtain ⟨i, hi⟩ := List.mem_iff_getElem?.1 hrow
      exact ((hcf i row hi).2.len).2
     refine ⟨[.rows r.length rs], _, [], _, [], rfl, rfl, ?_, ⟨rs, rfl, ?_, fun row hrow => ?_⟩, rfl, rfl⟩
     ·refine .rows _ ad len cap r.length rs (fun i j => ((cf i)[j]?).getD undef) h5 hc.2.1 (.inr rfl) hlen (fun i row hi j d hj => ?_) (fun i row hi j d hj => ?_)
      ·obtain ⟨c, h7, h8⟩ := (hcf i row hi).2.get hj
       refine ⟨trivial, ?_⟩
       rw [(hcf i row hi).1 j c h7, h7]
       rfl
      ·obtain ⟨c, h7, h8⟩ := (hcf i row hi).2.get hj
       rw [h7]
       exact h8
     ·have := hw _ (.inl rfl)
      rw [List.length_map, List.length_map, h3] at this
      rw [h5]
      exact Nat.le_trans (Nat.mul_le_mul_right _ (Nat.le_add_right ..)) this
     ·obtain ⟨i, hi⟩ := List.mem_iff_getElem?.1 hrow
      exact (hcf i row hi).2.wts
    ·cases h
  ·
   rename_i fs hu
   split at ht
   case h_2 => cases ht
   rename_i r hr
   cases hb : Nat.beq r.length (P.cellsOf t) with
   | false => rw [hb] at ht; cases ht
   | true =>
    rw [hb, cond_true] at ht
    simp only [Option.some.injEq] at ht
    subst ht
    simp only [Nat.beq_eq] at hb
    rw [hu] at h
    split at h <;> rename_i heq <;> first | (cases heq; done) | skip
    all_goals first | (injection heq with heq; cases heq; done) | skip
    ·rename_i cs0 x0 cs1 fs2
     injection heq with heq
     injection heq with heq
     subst heq
     split at h
     case isFalse => cases h
     rename_i hc
     simp only [Option.map_eq_some_iff, Prod.mk.injEq] at h
     obtain ⟨xs, h1, rfl, rfl⟩ := h
     simp only [DataW.weights, hu] at hw
     obtain ⟨ds, h2⟩ := trod_fields (w := w) (cs := cs0) (f := fun fd l => DataW.trod enc P w 0 sp held fuel fd.type l) (rec := tysOf P n)
      (fun fd r l y hr' hy hw' => trod_cells n fuel hr' (x := y.1) (ps := y.2) hy hw') hr h1 hw (by omega)
     exact ⟨ds, by simpa using h2⟩
    ·exact ((by assumption : ∀ (fs_1 : Array Field), some (TypeDesc.struct fs) = some (TypeDesc.struct fs_1) → False) fs rfl).elim
  ·cases ht
end Go.Proofs.Ytjoebpmeeampfaa.Rf

namespace Go.Proofs.Ytjoebpmeeampfaa.Rf
open Go.ChangeShapes Go.RowKit
set_option linter.unusedVariables false
set_option linter.unusedSimpArgs false
def lsOf : Ty → LS
 | .sl _ _ => .fz false
 | _ => .sc
def aggTy (P : Program) (t : TypeId) : Bool := match P.underlying t with
 | some (.struct _) => true
 | _ => false
def lawParams (P : Program) : List TypeId → Option (List (Bool × List LS) × List Ty)
 | [] => some ([], [])
 | t :: ts => match tysOf P 12 t, lawParams P ts with
  | some r, some (ps, tys) => some ((aggTy P t, r.map lsOf) :: ps, r ++ tys)
  | _, _ => none
def lawG : Gh := ⟨fun _ => .frz, fun _ => undef, fun _ => ⟨0, 0, none⟩⟩
theorem cntL_of : ∀ (tys : List Ty), cntL (tys.map lsOf) = tys.length ∧ rcntL (tys.map lsOf) = 0
 | [] => ⟨rfl, rfl⟩
 | t :: tys => by
  obtain ⟨h1, h2⟩ := cntL_of tys
  cases t <;> simp [cntL, rcntL, lsOf, LS.cnt, LS.rcnt, h1, h2] <;> omega
theorem entLeaves_of {w : World} {ρ : List D} : ∀ {tys : List Ty} {cs : List Value} {ds : List D} {i : Nat}, CellsOk w tys cs ds → (∀ j d, ds[j]? = some d → (Atom.v (i + j)).val ρ = d) → EntLeaves lawG w ρ 0 i 0 (tys.map lsOf) cs
 | [], cs, ds, i, h, _ => by obtain ⟨rfl, rfl⟩ := h; rfl
 | t :: tys, cs, ds, i, h, hv => by
  obtain ⟨c, cs', d, ds', rfl, rfl, h1, h2, h3⟩ := h
  have hv0 : (Atom.v i).val ρ = d := by have := hv 0 d rfl; rwa [Nat.add_zero] at this
  have hr : (lsOf t).rcnt = 0 := by cases t <;> rfl
  have hc : (lsOf t).cnt = 1 := by cases t <;> rfl
  refine ⟨c, cs', rfl, ?_, ?_⟩
  ·cases t with
   | int k =>
    obtain ⟨n, rfl, -⟩ := h2
    simp only [lsOf, EntLeaf, hv0]
    exact h1.sc_inv rfl
   | bool =>
    obtain ⟨n, rfl⟩ := h2
    simp only [lsOf, EntLeaf, hv0]
    exact h1.sc_inv rfl
   | str =>
    obtain ⟨n, rfl, -⟩ := h2
    simp only [lsOf, EntLeaf, hv0]
    exact h1.sc_inv rfl
   | sl bytes row =>
    simp only [lsOf, EntLeaf, hv0]
    exact ⟨h1.mono fun b _ => ⟨rfl, rfl⟩, fun e => absurd e (by decide)⟩
  ·rw [hr, hc]
   refine entLeaves_of (i := i + 1) h3 fun j d' hj => ?_
   have := hv (j + 1) d' (by simpa using hj)
   rwa [show i + (j + 1) = i + 1 + j by omega] at this
theorem okWide_shape {P : Program} {W : World} {base : Nat} {n : Nat} {t : TypeId} {tys : List Ty} {v : Value} (h : tysOf P n t = some tys) (hv : Value.okWide P W .any base t v) : if aggTy P t = true then v = .agg v.cells.toList.toArray else v.cells.toList = [v] := by
 cases n with
 | zero => simp [tysOf] at h
 | succ n =>
  unfold Value.okWide at hv
  unfold aggTy
  simp only [tysOf] at h
  cases hu : P.underlying t with
  | none => rw [hu] at h; cases h
  | some u =>
   rw [hu] at h hv
   cases u with
   | struct fs =>
    obtain ⟨cs, rfl, -⟩ := hv
    simp [Value.cells]
   | bool =>
    simp only [Cell.okWide, Cell.ok, hu] at hv
    cases v <;> simp at hv
    simp [Value.cells]
   | int k =>
    simp only [Cell.okWide, Cell.ok, hu] at hv
    cases v <;> simp at hv
    simp [Value.cells]
   | string =>
    simp only [Cell.okWide, Cell.ok, hu] at hv
    cases v <;> simp at hv
    simp [Value.cells]
   | slice e =>
    simp only [Cell.okWide, Cell.ok, hu] at hv
    cases v <;> simp at hv
    simp [Value.cells]
   | _ => cases h
theorem law_params {P : Program} {H : Type} {enc : TypeId × Value → H} {W : World} {sp : Nat → Bool} {held : Bool} {base : Nat} : ∀ {ts : List TypeId} {vs : List Value} {ds : List (DataW H)} {ps : List MemPlace} {sps : List (Bool × List LS)} {tys : List Ty},
  lawParams P ts = some (sps, tys) → DataW.TrodAll enc P W 0 sp held ts vs ds ps → (∀ (j : Nat) t v, ts[j]? = some t → vs[j]? = some v → Value.okWide P W .any base t v) → (∀ m ∈ DataW.weightsEach P ts ds, m ≤ reachBytes) →
  ∃ dd, WTs tys dd ∧ dd.length = tys.length ∧ tys.length = cntP sps ∧ rcntP sps = 0 ∧ ∀ (ρ : List D) (i : Nat), (∀ j d, dd[j]? = some d → (Atom.v (i + j)).val ρ = d) → EntParams lawG W ρ 0 i 0 sps vs
 | [], vs, ds, ps, sps, tys, h, ht, _, _ => by
  simp only [lawParams, Option.some.injEq, Prod.mk.injEq] at h
  obtain ⟨rfl, rfl⟩ := h
  cases vs with
  | cons v vs => cases ds <;> exact ht.elim
  | nil => exact ⟨[], rfl, rfl, rfl, rfl, fun ρ i _ => rfl⟩
 | t :: ts, vs, ds, ps, sps, tys, h, ht, hv, hw => by
  simp only [lawParams] at h
  split at h
  case h_2 => cases h
  rename_i r sps' tys' hr hl
  simp only [Option.some.injEq, Prod.mk.injEq] at h
  obtain ⟨rfl, rfl⟩ := h
  cases vs with
  | nil => cases ds <;> exact ht.elim
  | cons v vs =>
   cases ds with
   | nil => exact ht.elim
   | cons d ds =>
    obtain ⟨p, q, ⟨fuel, h1⟩, h2, rfl⟩ := ht
    rw [weightsEach_cons] at hw
    obtain ⟨dd, h3⟩ := trod_cells 12 fuel hr h1 fun m hm => hw m (List.mem_append_left _ hm)
    obtain ⟨dd', h4, h5, h6, h7, h8⟩ := law_params hl h2 (fun j t' v' hj hj' => hv (j + 1) t' v' (by simpa using hj) (by simpa using hj')) fun m hm => hw m (List.mem_append_right _ hm)
    obtain ⟨hc1, hc2⟩ := cntL_of r
    obtain ⟨hn1, hn2⟩ := h3.len
    refine ⟨dd ++ dd', ?_, by simp [hn2, h5], by simp only [List.length_append, cntP, hc1, h6], by simp only [rcntP, hc2, h7], fun ρ i hval => ?_⟩
    ·have : ∀ {a : List Ty} {x : List D}, WTs a x → WTs (a ++ tys') (x ++ dd') := by
      intro a
      induction a with
      | nil => intro x hx; simp only [WTs] at hx; subst hx; exact h4
      | cons t a ih =>
       intro x hx
       simp only [WTs] at hx
       obtain ⟨y, ys, rfl, hy1, hy2⟩ := hx
       simp only [List.cons_append, WTs]
       exact ⟨y, _, rfl, hy1, ih hy2⟩
     exact this h3.wts
    ·refine ⟨v, vs, v.cells.toList, rfl, entLeaves_of h3 fun j d' hj => hval j d' (by rw [List.getElem?_append_left (List.getElem?_eq_some_iff.1 hj).1]; exact hj), okWide_shape hr (hv 0 t v rfl rfl), ?_⟩
     rw [hc1, hc2]
     refine h8 ρ (i + r.length) fun j d' hj => ?_
     rw [Nat.add_assoc, ← hn2]
     exact hval _ _ (by rw [List.getElem?_append_right (by omega), Nat.add_sub_cancel_left]; exact hj)
theorem trodAll_below {P : Program} {H : Type} {enc : TypeId × Value → H} (hl : laidOutB P = true) {W W' : World} (hb : Below W.heap.size W W') : ∀ {ts : List TypeId} {vs : List Value} {ds : List (DataW H)} {ps : List MemPlace}, (ts.all fun t => P.readableRec t && decide (t < P.types.size)) = true →
  DataW.TrodAll enc P W 0 (fun _ => true) true ts vs ds ps → DataW.TrodAll enc P W' 0 (fun b => decide (b < W.heap.size)) true ts vs ds ps
 | [], [], [], ps, _, h => h
 | [], [], _ :: _, ps, _, h => h.elim
 | [], _ :: _, _, ps, _, h => h.elim
 | _ :: _, [], _, ps, _, h => h.elim
 | _ :: _, _ :: _, [], ps, _, h => h.elim
 | t :: ts, v :: vs, d :: ds, ps, hr, h => by
  simp only [List.all_cons, Bool.and_eq_true, decide_eq_true_eq] at hr
  obtain ⟨p, q, h1, h2, rfl⟩ := h
  refine ⟨p, q, Below.trod hl hr.1.1 hr.1.2 h1 hb ?_, trodAll_below hl hb hr.2 h2, rfl⟩
  obtain ⟨m, hm⟩ := h1
  exact DataW.trod_lt m _ _ _ hm
theorem law_calls {P : Program} {T : Nat → Ent} {key : Nat} {s : Sig} {fn : Func} {c : Code} (hc : ∀ n, Contract P T n key s) (hfn : P.funcs[s.fn]? = some fn) (hname : (fn.name == "runtime.NumGoroutine") = false) (hbody : fn.body = some c)
  {tys : List Ty} (hpar : lawParams P fn.params.toList = some (s.params, tys)) (hbx : s.boxes = []) (hres : s.results = [(false, [.sc])]) (hpure : ∀ ds, WTs tys ds → ∃ n, callN T n key ds = some [.bool true])
  {H : Type} {enc : TypeId × Value → H} {W : World} {base : Nat} {args : Array Value} {ds : List (DataW H)} {ps : List MemPlace}
  (hval : ∀ (j : Nat) t v, fn.params[j]? = some t → args[j]? = some v → Value.okWide P W .any base t v) (ht : DataW.TrodAll enc P W 0 (fun _ => true) true fn.params.toList args.toList ds ps)
  (hw : ∀ m ∈ DataW.weightsEach P fn.params.toList ds, m ≤ reachBytes) : Calls P s.fn args W fun e W' => e = .returned (.bool true) ∧ Below W.heap.size W W' := by
 obtain ⟨dd, h1, h2, h3, h4, h5⟩ := law_params (base := base) hpar ht (fun j t v hj hv => hval j t v (by simpa using hj) (by simpa using hv)) hw
 obtain ⟨n, hn⟩ := hpure dd h1
 have hpre : CPre s args.toList W lawG dd := by
  refine ⟨?_, ?_, ?_, fun _ _ => rfl, fun b j _ e => by cases e⟩
  ·rw [hbx]
   exact h5 dd 0 fun j d hj => by simp [Atom.val, List.getD_eq_getElem?_getD, hj]
  ·rw [hbx]; trivial
  ·rw [h2, h3, hbx]; rfl
 have hgo := hc n args.toList W lawG dd _ hpre hn
 have e : args.toList.toArray = args := by simp
 rw [e] at hgo
 rcases hgo with ⟨-, hcalls⟩ | ⟨v, w', hr, -⟩
 ·refine Calls.mono hcalls fun en W' he => ?_
  cases en with
  | returned v =>
   obtain ⟨G, us, rfl, hF, hfr, -⟩ := he
   rw [hres] at hfr
   obtain ⟨u, us', vs, rfl, hl, hsh, hnil⟩ := hfr
   simp only [FinRes] at hnil
   subst hnil
   simp only [Bool.false_eq_true, if_false] at hsh
   subst hsh
   obtain ⟨u', us2, e2, hsc, -⟩ := hl
   obtain ⟨rfl, rfl⟩ := List.cons.inj e2
   simp only [FinLeaf] at hsc
   have hu : u = .bool true := by
    have : ([D.bool true].getD 0 .undef) = D.bool true := rfl
    rw [this] at hsc
    exact hsc.bool_inv
   subst hu
   exact ⟨rfl, hF.os, hF.tape, hF.output, hF.size, fun k hk => (hF.keep k hk (.inl rfl)).1⟩
  | panicked c => exact he.elim
  | outgrown => exact he.elim
 ·rw [run_callFunc hfn hname hbody] at hr
  cases hr
open Go.ChangeShapes Go.RowKit in
theorem law_lifted {C : Checked} {spec : ChangeSpec} {T : Nat → Ent} {key : Nat} {s : Sig} {fn : Func} {c : Code} {conds : List PathCond} (own : ownKnob C.prog.godebug = none) (laid : laidOutB C.prog = true) (hc : ∀ n, Contract C.prog T n key s) (hfn : C.prog.funcs[s.fn]? = some fn) (hname : (fn.name == "runtime.NumGoroutine") = false) (hbody : fn.body = some c)
  {tys : List Ty} (hpar : lawParams C.prog fn.params.toList = some (s.params, tys)) (hbx : s.boxes = []) (hres : s.results = [(false, [.sc])]) (hpure : ∀ ds, WTs tys ds → ∃ n, callN T n key ds = some [.bool true])
  (hread : (fn.params.toList.all fun t => C.prog.readableRec t && decide (t < C.prog.types.size)) = true) {rt : TypeId} (hrt : fn.resultTypes = #[rt]) (hrb : C.prog.underlying rt = some .bool)
  (hvars : spec.vars = []) (hspec : ∀ (H : Type) (ds : List (DataW H)), ds.length = fn.params.size → spec.fn H ds = { results := [.lit (.bool true)], args := ds, vars := [] }) (hinit : C.prog.inits.idxOf? s.fn = none)
  (os : Os) (started : os.Started) (H : Type) (enc : TypeId × Value → H)
  (witness : ∃ (w : World) (tape : Tape) (i : Input), w.os = os ∧ (w.forCall tape i).Shaped C.prog ∧ i.vars = [] ∧ Input.okWide C.prog (w.forCall tape i) .any w.heap.size s.fn i ∧
   spec.pre6 enc C.prog fn conds false (w.forCall tape i).memory i.args ∧ ({} : Assume).holds C.prog (lone (Frame.enter C.prog s.fn i.args .normal) [] (w.forCall tape i))) :
  ReturnsInHanded {} C os s.fn .any (spec.pre6 enc C.prog fn conds false) (spec.post enc C.prog fn false true false false) := by
 refine returnsInHanded_of_change_sized own started hinit hfn witness ?_
 intro W base args ds gs before hval hW _ hsz _
 have hW' := hW
 obtain ⟨p, q, hA, hV, rfl, hfz, hnd⟩ := hW
 rw [hvars] at hV
 obtain ⟨rfl, rfl⟩ := trodVars_none hV
 have hvt : spec.plain.varTypes C.prog = [] := by
  simp [ChangeSpec.plain, DataSpec.varTypes, hvars]
 rw [hvt, List.append_nil, List.append_nil] at hsz
 have hlen : ∀ {ts : List TypeId} {vs : List Value} {ds : List (DataW H)} {ps : List MemPlace}, DataW.TrodAll enc C.prog W 0 (fun _ => true) true ts vs ds ps → ds.length = ts.length := by
  intro ts
  induction ts with
  | nil =>
   intro vs ds ps h
   cases vs <;> cases ds <;> first | rfl | exact h.elim
  | cons t ts ih =>
   intro vs ds ps h
   cases vs <;> cases ds <;> first | exact h.elim | skip
   obtain ⟨p, q, -, h2, -⟩ := h
   simp [ih h2]
 have hl := hlen hA
 refine (law_calls hc hfn hname hbody hpar hbx hres hpure hval hA (fun m hm => ?_)).mono fun e W' ⟨he, bel⟩ => ?_
 ·rw [List.all_eq_true] at hsz
  simpa using hsz m hm
 ·subst he
  have hsp := hspec H (ds ++ []) (by simpa using hl)
  refine ⟨_, rfl, ds, [], _, [], p, [], hW', ?_, ?_, ?_, bel.frame _, fun h => by cases h⟩
  ·rw [hsp, hrt]
   exact trodAll_mk1 (shut_bool hrb _)
  ·rw [hsp]
   simp only [List.append_nil]
   exact trodAll_below laid bel hread hA
  ·rw [hsp, hvars]
   rfl
end Go.Proofs.Ytjoebpmeeampfaa.Rf

namespace Go.Proofs.Ytjoebpmeeampfaa.Rf
set_option linter.unusedVariables false
set_option linter.unusedSimpArgs false
def tiTab : List (Nat × TI) → Nat → Option TI
 | [], _ => none
 | (k, i) :: r, t => bif Nat.beq k t then some i else tiTab r t
theorem tiTab_ok {P : Program} : ∀ {l : List (Nat × TI)}, (∀ p ∈ l, tiOf P p.1 = some p.2) → TiOk P (tiTab l)
 | [], _ => ⟨fun t i h => by cases h⟩
 | (k, i) :: r, h => ⟨fun t j ht => by
  simp only [tiTab] at ht
  cases hb : Nat.beq k t with
  | true =>
   rw [hb, cond_true] at ht
   simp only [Nat.beq_eq] at hb
   subst hb
   rw [← ht]
   exact h (k, i) List.mem_cons_self
  | false =>
   rw [hb, cond_false] at ht
   exact (tiTab_ok fun p hp => h p (List.mem_cons_of_mem _ hp)).ok t j ht⟩
def entTab : List (Nat × Ent) → Nat → Ent
 | [], _ => .none
 | (k, e) :: r, t => bif Nat.beq k t then e else entTab r t
theorem fnOk_all {P : Program} {T : Nat → Ent} {ti : Nat → Option TI} {sigs : List (Nat × Sig)} (h : ∀ p ∈ sigs, FnOk P T ti sigs p.1 p.2) : ∀ key s, (key, s) ∈ sigs → FnOk P T ti sigs key s := fun key s hm => h (key, s) hm
theorem fnOk_tm {P : Program} {T : Nat → Ent} {E : Env} {key : Nat} {s : Sig} {fn : Func} {tm : Tm Unit} (h1 : P.funcs[s.fn]? = some fn) (h2 : (fn.name == "runtime.NumGoroutine") = false) (h3 : sxFun E s fn = some tm) (h4 : T key = .tm tm) : FnOk P T E.ti E.sigs key s :=
 .inl ⟨E, fn, tm, rfl, rfl, h1, h2, h3, h4⟩
theorem pure_of {T : Nat → Ent} {key : Nat} {ds r : List D} (h : Fun T key ds = some r) : ∃ n, callN T n key ds = some r := Fun_some.1 h
end Go.Proofs.Ytjoebpmeeampfaa.Rf

namespace Go.Proofs.Ytjoebpmeeampfaa.Rf
set_option linter.unusedVariables false
set_option linter.unusedSimpArgs false
abbrev i64 (n : Int) : D := .int .i64 n
section
variable {T : Nat → Ent} {β : Type}
end
section
variable {T : Nat → Ent}
end
end Go.Proofs.Ytjoebpmeeampfaa.Rf

namespace Go.Proofs.Ytjoebpmeeampfaa.Rf
set_option linter.unusedVariables false
set_option linter.unusedSimpArgs false
section
variable {T : Nat → Ent} {β : Type}
noncomputable def Er (T : Nat → Ent) (t : Tm β) (ρ : List D) : Option (Kind × List D) := (Ev T t ρ).map fun o => (o.kind, o.vals)
def retR (r : Kind × List D) : Option (List D) := if r.1 = .ret then some r.2 else none
def iteR {α : Type} (d : D) (a b : Option α) : Option α := match d with
 | .bool true => a
 | .bool false => b
 | _ => none
def gdR (d : D) (w : Bool) : Bool := match d with
 | .bool b => b == w
 | _ => false
noncomputable def stepT (T : Nat → Ent) (k : Tm β) (ρ : List D) (n : Nat) (a : Option (List D)) : Option (Kind × List D) := a.bind fun ds => if ds.length = n then Er T k (ρ ++ ds) else none
noncomputable def thenT (T : Nat → Ent) (i : Nat) (k : Tm β) (ρ : List D) (r : Option (Kind × List D)) : Option (Kind × List D) := r.bind fun r => if r.1 = .yield i then Er T k (ρ ++ r.2) else some r
end
end Go.Proofs.Ytjoebpmeeampfaa.Rf

namespace Go.Proofs.Ytjoebpmeeampfaa.Rf
set_option linter.unusedVariables false
set_option linter.unusedSimpArgs false
section
variable {T : Nat → Ent} {β : Type}
end
end Go.Proofs.Ytjoebpmeeampfaa.Rf

namespace Go.Proofs.Ytjoebpmeeampfaa.Rf
set_option linter.unusedVariables false
set_option linter.unusedSimpArgs false
open Go.Proofs Go.Shelf Go.RowKit Go.Lib
section
variable {P : Program} {ρ : Ren}
set_option maxHeartbeats 2000000 in
set_option maxRecDepth 100000 in
theorem clone_empty (L : SlLaysE0.n41 P ρ) (i0 : TypeInfo) (z : Value) (size bytes : Nat) (hi : P.info? (ρ.t 23) = some i0) (hz0 : i0.zero = some z) (hz1 : i0.size = size) (hz2 : i0.bytes = bytes) (hzs : z.cells.size = size) (hsz : 0 < size)
  (z23 : ∀ w, (Go.sizeOf (ρ.t 23)).run P w = .ok size w) (a : Addr) (c : Nat) (w : World) :
  Calls P (ρ.f 41) #[.slice (some a) 0 c] w fun e w' => ∃ v', e = .returned v' ∧ w'.ownsRow w.heap.size (ρ.t 23) size v' 0 [] ∧ Below w.heap.size w w' := by
 have mixed := L.mixed; have t4 := L.t4; have a4 := L.a4; have z4 := L.z4; have v4 := L.v4; have t22 := L.t22; have a22 := L.a22; have z22 := L.z22; have v22 := L.v22
 have q22 : ∀ (w : World) (a : Option Addr) (n c n' c' : Nat), (binOp .eql (ρ.t 22) (.slice a n c) (.slice none n' c')).run P w = .ok (.bool a.isNone) w := fun w a n c n' c' => Lib.run_eql_slice_nil w _ _ a n c n' c' L.t22
 have u22 : ∀ w, Sem.run P (underlying (ρ.t 22)) w = .ok (TypeDesc.slice (ρ.t 23)) w := run_underlying t22
 obtain ⟨_, _, FG⟩ := L.f41
 go_enter FG, SlBodyN.n41_ntmps ρ
 go_wp2_with (at_builtin; refine wpList_append_own _ rfl _ _ (ρ.t 22) rfl w.heap.size (ρ.t 23) i0 z size bytes t22 hi hz0 hz1 hz2 hzs hsz _ _ _ rfl (World.ownsRow_made w #[] 0 (Nat.le_refl _) (Nat.zero_le _) (by simp)) a 0 c [] rfl ?qc1 ?qc2 ?qc3 ?qc4 ?qc5 ?qc6 ?_)
 case qc1 => simp
 case qc2 => intro j u hj; simp at hj
 case qc3 => intro u hu; cases hu
 case qc4 => exact Nat.zero_le _
 case qc5 => simp
 case qc6 => simp
 intro v' w1 hown hgrow hnil
 go_wp2
 go_ret
 exact ⟨v', rfl, by simpa using hown, ((Below.refl _ w).alloc (Nat.le_refl _) _).grown hgrow (by simp) (by intro k hk; simp [Value.ownBlock] at hk; omega)⟩
theorem frameOk_below {s : Sig} {G : Gh} {w w' : World} {vals : List Value} {ds : List D} {own' : Nat → Ow} (h : CPre s vals w G ds) (hb : s.boxes = []) (hbel : Below w.heap.size w w') (h1 : ∀ b, b < w.heap.size → own' b = G.own b) (h2 : ∀ b, w'.heap.size ≤ b → own' b = .frz) :
  FrameOk (callF s G w) { G with own := own' } w' :=
 ⟨hbel.os, hbel.tape, hbel.output, hbel.size, fun b hlt _ => ⟨hbel.block b hlt, h1 b hlt⟩, fun b j hj he => by
  obtain ⟨h1, -⟩ := h.cells b j hj he
  rw [hb] at h1
  exact absurd h1 (Nat.not_lt_zero _), h2⟩
end
end Go.Proofs.Ytjoebpmeeampfaa.Rf

namespace Go.Proofs.Ytjoebpmeeampfaa.Rf
set_option linter.unusedVariables false
set_option linter.unusedSimpArgs false
open Go.RowKit
section
variable {P : Program}
def repE : List D → Option (List D)
 | [.rows 1 [[.int .i64 a]], .int .i64 4] => some [.rows 1 [[.int .i64 a], [.int .i64 a], [.int .i64 a], [.int .i64 a]]]
 | _ => none
theorem repE_inv {ds ds' : List D} (h : repE ds = some ds') : ∃ a, ds = [.rows 1 [[.int .i64 a]], .int .i64 4] ∧ ds' = [.rows 1 [[.int .i64 a], [.int .i64 a], [.int .i64 a], [.int .i64 a]]] := by
 unfold repE at h
 split at h
 ·exact ⟨_, rfl, (Option.some.inj h).symm⟩
 ·cases h
def RepWalk (P : Program) (f : Nat) : Prop :=
 ∀ (a : Addr) (c : Nat) (x : Int) (w : World), w.cell? a = some (.int .i64 x) → Calls P f #[.slice (some a) 1 c, .int .i64 4] w fun e w' =>
  ∃ g cap t, e = .returned (.slice (some ⟨g, 0, none⟩) 4 cap) ∧ w.heap.size ≤ g ∧ 4 ≤ cap ∧ cap ≤ 4 ∧ w'.heap[g]? = some (.cells #[.int .i64 x, .int .i64 x, .int .i64 x, .int .i64 x] t (0, 0)) ∧ Below w.heap.size w w'
theorem rep_add (b o k : Nat) : (⟨b, o, none⟩ : Addr).add k = ⟨b, o + k, none⟩ := by unfold Addr.add; split <;> simp_all
theorem rep_copy1 (S I : Nat) (w : World) (a : Addr) (c : Nat) (x : Int) (hu : P.underlying S = some (.slice I)) (hs : (P.info? I).map (·.size) = some 1) (hc : w.cell? a = some (.int .i64 x)) :
  ∃ W1, W1.heap[w.heap.size]? = some (.cells #[.int .i64 x, .int .i64 0, .int .i64 0, .int .i64 0] I (0, 0)) ∧ Below w.heap.size w W1 ∧
   (Builtin.copy_ #[S, S] I #[.slice (some ⟨w.heap.size, 0, none⟩) 4 4, .slice (some a) 1 c]).run P (w.alloc (.cells #[.int .i64 0, .int .i64 0, .int .i64 0, .int .i64 0] I)) = .ok (goInt 1) W1 := by
 have hg : (w.alloc (.cells #[.int .i64 0, .int .i64 0, .int .i64 0, .int .i64 0] I)).heap[w.heap.size]? = some (.cells #[.int .i64 0, .int .i64 0, .int .i64 0, .int .i64 0] I (0, 0)) := by show (w.heap.push _)[w.heap.size]? = _; exact Array.getElem?_push_size
 have ha : a.add 0 = a := by unfold Addr.add; cases a with | mk b o s => cases s <;> simp
 have h := run_copy_row P (w.alloc (.cells #[.int .i64 0, .int .i64 0, .int .i64 0, .int .i64 0] I)) S S I I w.heap.size 0 4 4 a 1 c _ I [.int .i64 x] hu hs hg rfl
  (fun j v hj => by
   have : j = 0 := by have := (List.getElem?_eq_some_iff.1 hj).1; simpa using this
   subst this
   obtain rfl : Value.int .i64 x = v := by simpa using hj
   rw [ha]; exact Lib.cell?_alloc_some _ hc) (by simp) (by simp [Value.oneCell'])
 exact ⟨_, setRow_heap _ _ _ _ _ _ hg, ((Below.refl _ w).alloc (Nat.le_refl _) _).trans (below_setRow (Below.refl _ _) (Nat.le_refl _) _), h⟩
theorem rep_copy2 (S I : Nat) (w W : World) (x : Int) (hu : P.underlying S = some (.slice I)) (hs : (P.info? I).map (·.size) = some 1) (hg : W.heap[w.heap.size]? = some (.cells #[.int .i64 x, .int .i64 0, .int .i64 0, .int .i64 0] I (0, 0))) (hb : Below w.heap.size w W) :
  ∃ W2, W2.heap[w.heap.size]? = some (.cells #[.int .i64 x, .int .i64 x, .int .i64 0, .int .i64 0] I (0, 0)) ∧ Below w.heap.size w W2 ∧
   (Builtin.copy_ #[S, S] I #[.slice (some ⟨w.heap.size, 1, none⟩) 3 3, .slice (some ⟨w.heap.size, 0, none⟩) 1 4]).run P W.drew = .ok (goInt 1) W2 := by
 have hg' : W.drew.heap[w.heap.size]? = some (.cells #[.int .i64 x, .int .i64 0, .int .i64 0, .int .i64 0] I (0, 0)) := hg
 have h := run_copy_row P W.drew S S I I w.heap.size 1 3 3 ⟨w.heap.size, 0, none⟩ 1 4 _ I [.int .i64 x] hu hs hg' rfl
  (fun j v hj => by
   have : j = 0 := by have := (List.getElem?_eq_some_iff.1 hj).1; simpa using this
   subst this
   obtain rfl : Value.int .i64 x = v := by simpa using hj
   rw [rep_add]; simp [World.cell?, hg']) (by simp) (by simp [Value.oneCell'])
 exact ⟨_, setRow_heap _ _ _ _ _ _ hg', hb.drew.trans (below_setRow (Below.refl _ _) (Nat.le_refl _) _), h⟩
theorem rep_copy3 (S I : Nat) (w W : World) (x : Int) (hu : P.underlying S = some (.slice I)) (hs : (P.info? I).map (·.size) = some 1) (hg : W.heap[w.heap.size]? = some (.cells #[.int .i64 x, .int .i64 x, .int .i64 0, .int .i64 0] I (0, 0))) (hb : Below w.heap.size w W) :
  ∃ W2, W2.heap[w.heap.size]? = some (.cells #[.int .i64 x, .int .i64 x, .int .i64 x, .int .i64 x] I (0, 0)) ∧ Below w.heap.size w W2 ∧
   (Builtin.copy_ #[S, S] I #[.slice (some ⟨w.heap.size, 2, none⟩) 2 2, .slice (some ⟨w.heap.size, 0, none⟩) 2 4]).run P W.drew = .ok (goInt 2) W2 := by
 have hg' : W.drew.heap[w.heap.size]? = some (.cells #[.int .i64 x, .int .i64 x, .int .i64 0, .int .i64 0] I (0, 0)) := hg
 have h := run_copy_row P W.drew S S I I w.heap.size 2 2 2 ⟨w.heap.size, 0, none⟩ 2 4 _ I [.int .i64 x, .int .i64 x] hu hs hg' rfl
  (fun j v hj => by
   have : j = 0 ∨ j = 1 := by have := (List.getElem?_eq_some_iff.1 hj).1; simp at this; omega
   rcases this with rfl | rfl <;>
   ·obtain rfl : Value.int .i64 x = v := by simpa using hj
    rw [rep_add]; simp [World.cell?, hg']) (by simp) (by simp [Value.oneCell'])
 exact ⟨_, setRow_heap _ _ _ _ _ _ hg', hb.drew.trans (below_setRow (Below.refl _ _) (Nat.le_refl _) _), h⟩
theorem rep_ok {f : Nat} {fn : Func} {c : Code} (hf : P.funcs[f]? = some fn) (hname : (fn.name == "runtime.NumGoroutine") = false) (hb : fn.body = some c) (W : RepWalk P f) :
  ExtOk P ⟨f, [(false, [.fz false]), (false, [.sc])], [], [(false, [.ow 99])]⟩ repE := by
 intro vals w G ds ds' hpre he
 obtain ⟨x, rfl, rfl⟩ := repE_inv he
 obtain ⟨u, us, vs, rfl, ⟨v, vs', rfl, ⟨hrd, -⟩, rfl⟩, hsh, u2, us2, vs2, rfl, ⟨v2, vs3, rfl, hsc, rfl⟩, hsh2, hnil⟩ := hpre.params
 simp only [Bool.false_eq_true, if_false] at hsh hsh2
 obtain rfl : v = u := by simpa using hsh
 obtain rfl : v2 = u2 := by simpa using hsh2
 simp only [EntParams] at hnil
 subst hnil
 have hrd' : Rd (fun b => G.own b = .frz) w v (.rows 1 [[.int .i64 x]]) := hrd
 obtain ⟨A, a, n, cc, vs, rfl, hn, hc, hA, -, hcell, hrec⟩ := hrd'.inv
 obtain rfl : 1 = n := hn
 obtain rfl : A = some a := by
  rcases hA with h | h
  ·cases h
  ·exact h
 have hsc' : Sc v2 (.int .i64 4) := hsc
 obtain rfl : v2 = .int .i64 4 := by cases hsc'; rfl
 have h0 := (hcell 0 [.int .i64 x] rfl 0 (.int .i64 x) rfl).2
 have h1 := hrec 0 [.int .i64 x] rfl 0 (.int .i64 x) rfl
 have hv : vs 0 0 = .int .i64 x := by
  generalize vs 0 0 = v at h1
  cases h1 with
  | sc h => cases h; rfl
 have ha : a.add (0 * 1 + 0) = a := by unfold Addr.add; cases a with | mk b o s => cases s <;> simp
 rw [hv, ha] at h0
 refine .inl ⟨run_callFunc hf hname hb _ _, ?_⟩
 refine Calls.mono (W a cc x w h0) fun e w' ⟨g, cap, t, h2, hg, hcap, hcap2, hheap, hbel⟩ => ?_
 subst h2
 have hlt : g < w'.heap.size := (Array.getElem?_eq_some_iff.1 hheap).1
 have hadd : ∀ k, ((⟨g, 0, none⟩ : Addr).add k) = ⟨g, k, none⟩ := fun k => by unfold Addr.add; split <;> simp_all
 refine ⟨{ G with own := fun b => if b = g then .slc 0 [] else G.own b }, [.slice (some ⟨g, 0, none⟩) 4 cap], rfl, frameOk_below hpre rfl hbel (fun b hb => if_neg (by omega)) (fun b hb => ?_), ⟨_, _, _, rfl, ⟨_, _, rfl, ?_, rfl⟩, rfl, rfl⟩, trivial, trivial⟩
 ·show (if b = g then _ else _) = _
  rw [if_neg (by omega)]
  exact hpre.fresh b (Nat.le_trans hbel.size hb)
 ·refine .sl (some ⟨g, 0, none⟩) ⟨g, 0, none⟩ 4 cap 1 [[.int .i64 x], [.int .i64 x], [.int .i64 x], [.int .i64 x]] (fun _ _ => .int .i64 x) rfl hcap (.inl rfl) (by simp) (fun _ => ⟨rfl, if_pos rfl, fun k hk => ?_⟩) ?_ ?_
  ·refine ⟨.int .i64 x, ?_, ?_⟩
   ·have : k = 0 ∨ k = 1 ∨ k = 2 ∨ k = 3 := by omega
    rw [hadd]
    rcases this with rfl | rfl | rfl | rfl <;> simp [World.cell?, hheap]
   ·rw [hadd]; simp [World.frozen?, hheap]
  ·intro i row hi j d hj
   have hi4 : i < 4 := by
    have := (List.getElem?_eq_some_iff.1 hi).1
    simpa using this
   have hrow : row = [.int .i64 x] := by
    have : i = 0 ∨ i = 1 ∨ i = 2 ∨ i = 3 := by omega
    rcases this with rfl | rfl | rfl | rfl <;> simpa using hi.symm
   subst hrow
   have hj0 : j = 0 := by
    have := (List.getElem?_eq_some_iff.1 hj).1
    simpa using this
   subst hj0
   rw [hadd]
   have : i = 0 ∨ i = 1 ∨ i = 2 ∨ i = 3 := by omega
   rcases this with rfl | rfl | rfl | rfl <;> simp [World.cell?, hheap]
  ·intro i row hi j d hj
   have hi4 : i < 4 := by
    have := (List.getElem?_eq_some_iff.1 hi).1
    simpa using this
   have hrow : row = [.int .i64 x] := by
    have : i = 0 ∨ i = 1 ∨ i = 2 ∨ i = 3 := by omega
    rcases this with rfl | rfl | rfl | rfl <;> simpa using hi.symm
   subst hrow
   have hj0 : j = 0 := by
    have := (List.getElem?_eq_some_iff.1 hj).1
    simpa using this
   subst hj0
   obtain rfl : D.int .i64 x = d := by simpa using hj
   exact .sc (.int _ _)
theorem rep_ent {f key : Nat} {fn : Func} {c : Code} {T : Nat → Ent} {ti : Nat → Option TI} {sigs : List (Nat × Sig)} (hf : P.funcs[f]? = some fn) (hname : (fn.name == "runtime.NumGoroutine") = false) (hb : fn.body = some c) (W : RepWalk P f) (hT : T key = .ext repE) :
  FnOk P T ti sigs key ⟨f, [(false, [.fz false]), (false, [.sc])], [], [(false, [.ow 99])]⟩ :=
 .inr ⟨_, hT, rep_ok hf hname hb W⟩
end
end Go.Proofs.Ytjoebpmeeampfaa.Rf

namespace Go.Proofs.Ytjoebpmeeampfaa.Rf
set_option linter.unusedVariables false
set_option linter.unusedSimpArgs false
class Enc (α : Type) where
 sz : Nat
 enc : α → List D
 len : ∀ a, (enc a).length = sz
instance : Enc Int := ⟨1, fun n => [i64 n], fun _ => rfl⟩
instance : Enc Bool := ⟨1, fun b => [.bool b], fun _ => rfl⟩
instance : Enc (List UInt8) := ⟨1, fun s => [.str s], fun _ => rfl⟩
def rL {α : Type} [Enc α] (xs : List α) : D := .rows (Enc.sz α) (xs.map Enc.enc)
instance {α : Type} [Enc α] : Enc (List α) := ⟨1, fun xs => [rL xs], fun _ => rfl⟩
def InB {α : Type} (xs : List α) (k : Int) : Prop := 0 ≤ k ∧ k < xs.length
theorem InB.lt {α : Type} {xs : List α} {k : Int} (h : InB xs k) : k.toNat < xs.length := by unfold InB at h; omega
def tick : Nat := 0
def forkT {γ : Type} (c : Bool) (a b : γ) : γ := match c with
 | true => a
 | false => b
@[congr] theorem forkT_congr {γ : Type} {c c' : Bool} {a b : γ} (h : c = c') {dd : Nat} (hd : tick = dd) : forkT c a b = forkT c' a b := by rw [h]
section
variable {T : Nat → Ent} {β : Type}
@[congr] theorem Er_congr {t : Tm β} {ρ ρ' : List D} (h : ρ = ρ') {dd : Nat} (hd : tick = dd) : Er T t ρ = Er T t ρ' := by rw [h]
@[congr] theorem stepT_congr {k : Tm β} {ρ ρ' : List D} {n : Nat} {a a' : Option (List D)} (h : ρ = ρ') (h2 : a = a') {dd : Nat} (hd : tick = dd) : stepT T k ρ n a = stepT T k ρ' n a' := by rw [h, h2]
@[congr] theorem thenT_congr {i : Nat} {k : Tm β} {ρ ρ' : List D} {r r' : Option (Kind × List D)} (h : ρ = ρ') (h2 : r = r') {dd : Nat} (hd : tick = dd) : thenT T i k ρ r = thenT T i k ρ' r' := by rw [h, h2]
@[congr] theorem run_congr {p : Prim} {xs xs' : List D} (h : xs = xs') {dd : Nat} (hd : tick = dd) : p.run xs = p.run xs' := by rw [h]
def nth : List D → Nat → D
 | [], _ => .undef
 | a :: _, 0 => a
 | _ :: r, n + 1 => nth r n
def vals (ρ : List D) : List Atom → List D
 | [] => []
 | .v i :: r => nth ρ i :: vals ρ r
 | .c d :: r => d :: vals ρ r
@[congr] theorem vals_congr {ρ ρ' : List D} {xs : List Atom} (h : ρ = ρ') {dd : Nat} (hd : tick = dd) : vals ρ xs = vals ρ' xs := by rw [h]
def val1 (ρ : List D) : Atom → D
 | .v i => nth ρ i
 | .c d => d
@[congr] theorem val1_congr {ρ ρ' : List D} {a : Atom} (h : ρ = ρ') {dd : Nat} (hd : tick = dd) : val1 ρ a = val1 ρ' a := by rw [h]
def gateT (w : Bool) (a b : Option (Kind × List D)) (c : D) : Option (Kind × List D) := if gdR c w = true then a else b
@[congr] theorem gateT_congr {w : Bool} {a b : Option (Kind × List D)} {c c' : D} (h : c = c') {dd : Nat} (hd : tick = dd) : gateT w a b c = gateT w a b c' := by rw [h]
def testT {γ : Type} (a b : Option γ) (c : D) : Option γ := iteR c a b
@[congr] theorem testT_congr {γ : Type} {a b : Option γ} {c c' : D} (h : c = c') {dd : Nat} (hd : tick = dd) : testT a b c = testT a b c' := by rw [h]
noncomputable def fin (o : Option (Kind × List D)) : Option (List D) := o.bind retR
end
section
variable {α : Type} [Enc α]
class Fits (α : Type) [Enc α] (m : Nat) : Prop where
 fits : ∀ a : α, (Enc.enc a).all (fitsD m) = true
end
instance {m : Nat} : Fits Int m := ⟨fun a => by cases m <;> rfl⟩
instance {m : Nat} : Fits Bool m := ⟨fun a => by cases m <;> rfl⟩
instance {m : Nat} : Fits (List UInt8) m := ⟨fun a => by cases m <;> rfl⟩
theorem fits_rL {α : Type} [Enc α] {m : Nat} [Fits α m] (xs : List α) : fitsD (m + 1) (rL xs) = true := by
 unfold rL
 simp only [fitsD, List.all_map, List.all_eq_true]
 intro a _
 exact Fits.fits a
instance {α : Type} [Enc α] {m : Nat} [Fits α m] : Fits (List α) (m + 1) := ⟨fun xs => by
 show [rL xs].all (fitsD (m + 1)) = true
 simp [fits_rL]⟩
end Go.Proofs.Ytjoebpmeeampfaa.Rf

namespace Go.Proofs.Ytjoebpmeeampfaa.Rf
set_option linter.unusedVariables false
set_option maxRecDepth 4000
structure TCmd where
 kind : Int
 id : Int
 src : Int
 dst : Int
 amt : Int
 deriving DecidableEq
instance : Inhabited TCmd := ⟨⟨0, 0, 0, 0, 0⟩⟩
instance : Enc TCmd := ⟨5, fun x => [i64 x.kind, i64 x.id, i64 x.src, i64 x.dst, i64 x.amt], fun _ => rfl⟩
instance {m : Nat} : Fits TCmd m := ⟨fun x => by cases m <;> rfl⟩
structure TAttr where
 seq : Int
 deps : (List Int)
 deriving DecidableEq
instance : Inhabited TAttr := ⟨⟨0, []⟩⟩
instance : Enc TAttr := ⟨2, fun x => [i64 x.seq, rL x.deps], fun _ => rfl⟩
theorem enc_TAttr (x : TAttr) : Enc.enc x = [i64 x.seq, rL x.deps] := rfl
instance {m : Nat} : Fits TAttr (m + 1) := ⟨fun x => by
 rw [enc_TAttr]
 simp only [List.all_cons, List.all_nil, Bool.and_true, Bool.and_eq_true]
 refine ⟨?_, ?_⟩
 all_goals first | rfl | exact fits_rL _⟩
structure TRow where
 ballot : Int
 vote : Int
 state : Int
 cmd : TCmd
 attr : TAttr
 deriving DecidableEq
instance : Inhabited TRow := ⟨⟨0, 0, 0, default, default⟩⟩
instance : Enc TRow := ⟨10, fun x => [i64 x.ballot, i64 x.vote, i64 x.state, i64 x.cmd.kind, i64 x.cmd.id, i64 x.cmd.src, i64 x.cmd.dst, i64 x.cmd.amt, i64 x.attr.seq, rL x.attr.deps], fun _ => rfl⟩
theorem enc_TRow (x : TRow) : Enc.enc x = [i64 x.ballot, i64 x.vote, i64 x.state, i64 x.cmd.kind, i64 x.cmd.id, i64 x.cmd.src, i64 x.cmd.dst, i64 x.cmd.amt, i64 x.attr.seq, rL x.attr.deps] := rfl
instance {m : Nat} : Fits TRow (m + 1) := ⟨fun x => by
 rw [enc_TRow]
 simp only [List.all_cons, List.all_nil, Bool.and_true, Bool.and_eq_true]
 refine ⟨?_, ?_, ?_, ?_, ?_, ?_, ?_, ?_, ?_, ?_⟩
 all_goals first | rfl | exact fits_rL _⟩
structure TTable where
 n : Int
 rows : (List (List TRow))
 deriving DecidableEq
instance : Inhabited TTable := ⟨⟨0, []⟩⟩
instance : Enc TTable := ⟨2, fun x => [i64 x.n, rL x.rows], fun _ => rfl⟩
theorem enc_TTable (x : TTable) : Enc.enc x = [i64 x.n, rL x.rows] := rfl
instance {m : Nat} : Fits TTable (m + 3) := ⟨fun x => by
 rw [enc_TTable]
 simp only [List.all_cons, List.all_nil, Bool.and_true, Bool.and_eq_true]
 refine ⟨?_, ?_⟩
 all_goals first | rfl | exact fits_rL _⟩
structure TLead where
 rep : Int
 no : Int
 ballot : Int
 phase : Int
 cmd : TCmd
 first : TAttr
 attr : TAttr
 same : Bool
 who : (List Int)
 seen : (List TRow)
 deriving DecidableEq
instance : Inhabited TLead := ⟨⟨0, 0, 0, 0, default, default, default, false, [], []⟩⟩
instance : Enc TLead := ⟨16, fun x => [i64 x.rep, i64 x.no, i64 x.ballot, i64 x.phase, i64 x.cmd.kind, i64 x.cmd.id, i64 x.cmd.src, i64 x.cmd.dst, i64 x.cmd.amt, i64 x.first.seq, rL x.first.deps, i64 x.attr.seq, rL x.attr.deps, .bool x.same, rL x.who, rL x.seen], fun _ => rfl⟩
theorem enc_TLead (x : TLead) : Enc.enc x = [i64 x.rep, i64 x.no, i64 x.ballot, i64 x.phase, i64 x.cmd.kind, i64 x.cmd.id, i64 x.cmd.src, i64 x.cmd.dst, i64 x.cmd.amt, i64 x.first.seq, rL x.first.deps, i64 x.attr.seq, rL x.attr.deps, .bool x.same, rL x.who, rL x.seen] := rfl
instance {m : Nat} : Fits TLead (m + 2) := ⟨fun x => by
 rw [enc_TLead]
 simp only [List.all_cons, List.all_nil, Bool.and_true, Bool.and_eq_true]
 refine ⟨?_, ?_, ?_, ?_, ?_, ?_, ?_, ?_, ?_, ?_, ?_, ?_, ?_, ?_, ?_, ?_⟩
 all_goals first | rfl | exact fits_rL _⟩
structure TRep where
 me : Int
 table : TTable
 leads : (List TLead)
 deriving DecidableEq
instance : Inhabited TRep := ⟨⟨0, default, []⟩⟩
instance : Enc TRep := ⟨4, fun x => [i64 x.me, i64 x.table.n, rL x.table.rows, rL x.leads], fun _ => rfl⟩
theorem enc_TRep (x : TRep) : Enc.enc x = [i64 x.me, i64 x.table.n, rL x.table.rows, rL x.leads] := rfl
instance {m : Nat} : Fits TRep (m + 3) := ⟨fun x => by
 rw [enc_TRep]
 simp only [List.all_cons, List.all_nil, Bool.and_true, Bool.and_eq_true]
 refine ⟨?_, ?_, ?_, ?_⟩
 all_goals first | rfl | exact fits_rL _⟩
structure TMsg where
 kind : Int
 src : Int
 dst : Int
 rep : Int
 no : Int
 ballot : Int
 vote : Int
 state : Int
 cmd : TCmd
 attr : TAttr
 deriving DecidableEq
instance : Inhabited TMsg := ⟨⟨0, 0, 0, 0, 0, 0, 0, 0, default, default⟩⟩
instance : Enc TMsg := ⟨15, fun x => [i64 x.kind, i64 x.src, i64 x.dst, i64 x.rep, i64 x.no, i64 x.ballot, i64 x.vote, i64 x.state, i64 x.cmd.kind, i64 x.cmd.id, i64 x.cmd.src, i64 x.cmd.dst, i64 x.cmd.amt, i64 x.attr.seq, rL x.attr.deps], fun _ => rfl⟩
theorem enc_TMsg (x : TMsg) : Enc.enc x = [i64 x.kind, i64 x.src, i64 x.dst, i64 x.rep, i64 x.no, i64 x.ballot, i64 x.vote, i64 x.state, i64 x.cmd.kind, i64 x.cmd.id, i64 x.cmd.src, i64 x.cmd.dst, i64 x.cmd.amt, i64 x.attr.seq, rL x.attr.deps] := rfl
instance {m : Nat} : Fits TMsg (m + 1) := ⟨fun x => by
 rw [enc_TMsg]
 simp only [List.all_cons, List.all_nil, Bool.and_true, Bool.and_eq_true]
 refine ⟨?_, ?_, ?_, ?_, ?_, ?_, ?_, ?_, ?_, ?_, ?_, ?_, ?_, ?_, ?_⟩
 all_goals first | rfl | exact fits_rL _⟩
structure TAsked where
 rep : Int
 no : Int
 cmd : TCmd
 deriving DecidableEq
instance : Inhabited TAsked := ⟨⟨0, 0, default⟩⟩
instance : Enc TAsked := ⟨7, fun x => [i64 x.rep, i64 x.no, i64 x.cmd.kind, i64 x.cmd.id, i64 x.cmd.src, i64 x.cmd.dst, i64 x.cmd.amt], fun _ => rfl⟩
instance {m : Nat} : Fits TAsked m := ⟨fun x => by cases m <;> rfl⟩
structure TNet where
 reps : (List TRep)
 bag : (List TMsg)
 asked : (List TAsked)
 deriving DecidableEq
instance : Inhabited TNet := ⟨⟨[], [], []⟩⟩
instance : Enc TNet := ⟨3, fun x => [rL x.reps, rL x.bag, rL x.asked], fun _ => rfl⟩
theorem enc_TNet (x : TNet) : Enc.enc x = [rL x.reps, rL x.bag, rL x.asked] := rfl
instance {m : Nat} : Fits TNet (m + 4) := ⟨fun x => by
 rw [enc_TNet]
 simp only [List.all_cons, List.all_nil, Bool.and_true, Bool.and_eq_true]
 refine ⟨?_, ?_, ?_⟩
 all_goals first | rfl | exact fits_rL _⟩
structure TTold where
 code : Int
 sum : Int
 deriving DecidableEq
instance : Inhabited TTold := ⟨⟨0, 0⟩⟩
instance : Enc TTold := ⟨2, fun x => [i64 x.code, i64 x.sum], fun _ => rfl⟩
instance {m : Nat} : Fits TTold m := ⟨fun x => by cases m <;> rfl⟩
structure TEntry where
 rep : Int
 no : Int
 cmd : TCmd
 told : TTold
 deriving DecidableEq
instance : Inhabited TEntry := ⟨⟨0, 0, default, default⟩⟩
instance : Enc TEntry := ⟨9, fun x => [i64 x.rep, i64 x.no, i64 x.cmd.kind, i64 x.cmd.id, i64 x.cmd.src, i64 x.cmd.dst, i64 x.cmd.amt, i64 x.told.code, i64 x.told.sum], fun _ => rfl⟩
instance {m : Nat} : Fits TEntry m := ⟨fun x => by cases m <;> rfl⟩
structure TClerk where
 sums : (List Int)
 last : (List Int)
 told : (List TTold)
 deriving DecidableEq
instance : Inhabited TClerk := ⟨⟨[], [], []⟩⟩
instance : Enc TClerk := ⟨3, fun x => [rL x.sums, rL x.last, rL x.told], fun _ => rfl⟩
theorem enc_TClerk (x : TClerk) : Enc.enc x = [rL x.sums, rL x.last, rL x.told] := rfl
instance {m : Nat} : Fits TClerk (m + 1) := ⟨fun x => by
 rw [enc_TClerk]
 simp only [List.all_cons, List.all_nil, Bool.and_true, Bool.and_eq_true]
 refine ⟨?_, ?_, ?_⟩
 all_goals first | rfl | exact fits_rL _⟩
structure TAsk where
 client : Int
 no : Int
 cmd : TCmd
 deriving DecidableEq
instance : Inhabited TAsk := ⟨⟨0, 0, default⟩⟩
instance : Enc TAsk := ⟨7, fun x => [i64 x.client, i64 x.no, i64 x.cmd.kind, i64 x.cmd.id, i64 x.cmd.src, i64 x.cmd.dst, i64 x.cmd.amt], fun _ => rfl⟩
instance {m : Nat} : Fits TAsk m := ⟨fun x => by cases m <;> rfl⟩
end Go.Proofs.Ytjoebpmeeampfaa.Rf

namespace Go.Proofs.Ytjoebpmeeampfaa.Rf
set_option linter.unusedVariables false
set_option linter.unusedSimpArgs false
section
variable {T : Nat → Ent} {β : Type} {α : Type} [Inhabited α]
end
end Go.Proofs.Ytjoebpmeeampfaa.Rf

namespace Go.Proofs.Ytjoebpmeeampfaa.Rf
set_option linter.unusedVariables false
set_option linter.unusedSimpArgs false
section
variable {T : Nat → Ent} {β : Type} {α : Type} [Inhabited α]
end
end Go.Proofs.Ytjoebpmeeampfaa.Rf

namespace Go.Proofs.Ytjoebpmeeampfaa.Rf
set_option linter.unusedVariables false
set_option linter.unusedSimpArgs false
end Go.Proofs.Ytjoebpmeeampfaa.Rf

namespace Go.Proofs.Ytjoebpmeeampfaa.Rf
set_option linter.unusedVariables false
set_option linter.unusedSimpArgs false
def none0 (n : Int) : TAttr := ⟨0, List.replicate n.toNat 0⟩
def row0 (n : Int) : TRow := ⟨0, 0, 0, ⟨0, 0, 0, 0, 0⟩, none0 n⟩
def ext (n : Int) (l : List TRow) (no : Int) : List TRow := l ++ List.replicate (no - l.length).toNat (row0 n)
def nb (b me : Int) : Int := if b < 8 + me then 8 + me else b + 1 + (me - b - 1) % 8
end Go.Proofs.Ytjoebpmeeampfaa.Rf

namespace Go.Proofs.Ytjoebpmeeampfaa.Rf
set_option linter.unusedVariables false
set_option linter.unusedSimpArgs false
end Go.Proofs.Ytjoebpmeeampfaa.Rf

namespace Go.Proofs.Ytjoebpmeeampfaa.Rf
set_option linter.unusedVariables false
set_option linter.unusedSimpArgs false
end Go.Proofs.Ytjoebpmeeampfaa.Rf

namespace Go.Proofs.Ytjoebpmeeampfaa.Rf
set_option linter.unusedVariables false
set_option linter.unusedSimpArgs false
end Go.Proofs.Ytjoebpmeeampfaa.Rf

namespace Go.Proofs.Ytjoebpmeeampfaa.Rf
set_option linter.unusedVariables false
set_option linter.unusedSimpArgs false
end Go.Proofs.Ytjoebpmeeampfaa.Rf

namespace Go.Proofs.Ytjoebpmeeampfaa.Rf
set_option linter.unusedVariables false
set_option linter.unusedSimpArgs false
section
variable {T : Nat → Ent} {β : Type}
end
end Go.Proofs.Ytjoebpmeeampfaa.Rf

namespace Go.Proofs.Ytjoebpmeeampfaa.Rf
set_option linter.unusedVariables false
set_option linter.unusedSimpArgs false
end Go.Proofs.Ytjoebpmeeampfaa.Rf
