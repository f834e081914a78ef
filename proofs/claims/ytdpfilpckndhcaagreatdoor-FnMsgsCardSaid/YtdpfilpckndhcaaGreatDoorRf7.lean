/- Terms for the program's functions, and that they are right: part 7 of 9. -/
import Derived.Test.YtdpfilpckndhcaaGreatDoorRf6
import Derived.SizedLaws
import Derived.Carry
import Derived.ChangeOld
import Derived.ChangeShapes
import Derived.RowKit
import Derived.IntWalk
import Derived.Shelf.SlicesE.Clone
import Derived.Laws.CopyOwn
import Derived.LoopN
import Derived.WalkKit
import Derived.RegionTactic
import Derived.ChangeAlike
import Derived.Lib.Bytealg
import Derived.Lib.SplitLaws
import Derived.LaidLaws
import Derived.Lay
import Derived.Shelf.Strings.OnBuilder
import Derived.Shelf.Strconv.Itoa3
import Derived.Lib.AppendIntMem
import Derived.Lib.LaidTab
import Derived.Shelf.Lay
set_option linter.unusedSimpArgs false
set_option linter.unusedVariables false
set_option linter.unnecessarySimpa false
set_option linter.unusedSectionVars false
namespace Go.Proofs.YtdpfilpckndhcaaGreatDoor.Rf
set_option linter.unusedVariables false
set_option linter.unusedSimpArgs false
def ExtOk (P : Program) (s : Sig) (e : List D -> Option (List D)) : Prop :=
 ∀ vals w G ds ds', CPre s vals w G ds -> e ds = some ds' -> Goes P s.fn vals.toArray w fun v w' => CPost s (callF s G w) G.bx v w' ds'
def FnOk (P : Program) (T : Nat -> Ent) (ti : Nat -> Option TI) (sigs : List (Nat × Sig)) (key : Nat) (s : Sig) : Prop :=
 (∃ (E : Env) (fn : Func) (tm : Tm Unit), E.ti = ti /\ E.sigs = sigs /\ P.funcs[s.fn]? = some fn /\ (fn.name == "runtime.NumGoroutine") = false /\ sxFun E s fn = some tm /\ T key = .tm tm) \/ ∃ e, T key = .ext e /\ ExtOk P s e
def ExtOkX (P : Program) (X : (Nat -> Ow) -> World -> Prop) (s : Sig) (e : List D -> Option (List D)) : Prop :=
 ∀ vals w G ds ds', CPre s vals w G ds -> X G.own w -> e ds = some ds' -> Goes P s.fn vals.toArray w fun v w' => CPost s (callF s G w) G.bx v w' ds'
def FnOkX (P : Program) (X : (Nat -> Ow) -> World -> Prop) (T : Nat -> Ent) (ti : Nat -> Option TI) (sigs : List (Nat × Sig)) (key : Nat) (s : Sig) : Prop :=
 (∃ (E : Env) (fn : Func) (tm : Tm Unit), E.ti = ti /\ E.sigs = sigs /\ P.funcs[s.fn]? = some fn /\ (fn.name == "runtime.NumGoroutine") = false /\ sxFun E s fn = some tm /\ T key = .tm tm) \/ ∃ e, T key = .ext e /\ ExtOkX P X s e
theorem FnOk.toX {P : Program} {X : (Nat -> Ow) -> World -> Prop} {T : Nat -> Ent} {ti : Nat -> Option TI} {sigs : List (Nat × Sig)} {key : Nat} {s : Sig} (h : FnOk P T ti sigs key s) : FnOkX P X T ti sigs key s := by
 rcases h with h | ⟨e, h1, h2⟩
 ·exact .inl h
 ·exact .inr ⟨e, h1, fun vals w G ds ds' hp _ he => h2 vals w G ds ds' hp he⟩
theorem contractsX {P : Program} {X : (Nat -> Ow) -> World -> Prop} {T : Nat -> Ent} {ti : Nat -> Option TI} {sigs : List (Nat × Sig)} (hst : Stable X) (hti : TiOk P ti) (hm : P.follows .mixedOrders = true) (H : ∀ key s, (key, s) ∈ sigs -> FnOkX P X T ti sigs key s) :
  ∀ n key s, (key, s) ∈ sigs -> ContractX P X T n key s := by
 intro n
 induction n with
 | zero =>
  intro key s _ vals w G ds ds' _ _ h
  cases h
 | succ n ih =>
  intro key s hmem
  rcases H key s hmem with ⟨E, fn, tm, rfl, rfl, h1, h2, h3, h4⟩ | ⟨e, h1, h2⟩
  ·exact fun_contractX hti hm h1 h2 h3 h4 fun F hX => callsOkX hst hX fun key s h => ih key s h
  ·intro vals w G ds ds' hpre hX hrun
   simp only [callN, h1] at hrun
   exact h2 vals w G ds ds' hpre hX hrun
theorem contracts {P : Program} {T : Nat -> Ent} {ti : Nat -> Option TI} {sigs : List (Nat × Sig)} (hti : TiOk P ti) (hm : P.follows .mixedOrders = true) (H : ∀ key s, (key, s) ∈ sigs -> FnOk P T ti sigs key s) :
  ∀ n key s, (key, s) ∈ sigs -> Contract P T n key s :=
 fun n key s hmem vals w G ds ds' hpre hrun => contractsX (X := fun _ _ => True) (fun _ _ _ _ _ _ _ => trivial) hti hm (fun key s h => (H key s h).toX) n key s hmem vals w G ds ds' hpre trivial hrun
inductive Ty where
 | int (k : IntKind)
 | bool
 | str
 | sl (bytes : Nat) (row : List Ty)
mutual
def WT : Ty -> D -> Prop
 | .int k, d => ∃ n, d = .int k n /\ k.min <= n /\ n <= k.max
 | .bool, d => ∃ b, d = .bool b
 | .str, d => ∃ s, d = .str s /\ s.length <= reachBytes
 | .sl bytes row, d => ∃ rs, d = .rows row.length rs /\ rs.length * bytes <= reachBytes /\ ∀ r ∈ rs, WTs row r
def WTs : List Ty -> List D -> Prop
 | [], ds => ds = []
 | t :: ts, ds => ∃ d ds', ds = d :: ds' /\ WT t d /\ WTs ts ds'
end
def tysFs (P : Program) (rec : TypeId -> Option (List Ty)) : Nat -> List Field -> Option (List Ty)
 | _, [] => some []
 | off, f :: fs => match rec f.type with
  | some r => bif Nat.beq f.offset off && Nat.beq r.length (P.cellsOf f.type) then (tysFs P rec (off + r.length) fs).map (r ++ ·) else none
  | none => none
def tysOf (P : Program) : Nat -> TypeId -> Option (List Ty)
 | 0, _ => none
 | n + 1, t => match P.underlying t with
  | some .bool => some [.bool]
  | some (.int k) => some [.int k]
  | some .string => some [.str]
  | some (.slice e) => match tysOf P n e with
   | some r => bif Nat.beq r.length (P.cellsOf e) then some [.sl (P.bytesOf e) r] else none
   | none => none
  | some (.struct fs) => match tysFs P (tysOf P n) 0 fs.toList with
   | some r => bif Nat.beq r.length (P.cellsOf t) then some r else none
   | none => none
  | _ => none
def CellsOk (w : World) : List Ty -> List Value -> List D -> Prop
 | [], cs, ds => cs = [] /\ ds = []
 | t :: ts, cs, ds => ∃ c cs' d ds', cs = c :: cs' /\ ds = d :: ds' /\ Rd (fun _ => True) w c d /\ WT t d /\ CellsOk w ts cs' ds'
theorem CellsOk.append {w : World} : ∀ {ts ts' : List Ty} {cs cs' : List Value} {ds ds' : List D}, CellsOk w ts cs ds -> CellsOk w ts' cs' ds' -> CellsOk w (ts ++ ts') (cs ++ cs') (ds ++ ds')
 | [], ts', cs, cs', ds, ds', h, h' => by
  obtain ⟨rfl, rfl⟩ := h
  exact h'
 | t :: ts, ts', cs, cs', ds, ds', h, h' => by
  obtain ⟨c, c1, d, d1, rfl, rfl, h1, h2, h3⟩ := h
  exact ⟨c, c1 ++ cs', d, d1 ++ ds', rfl, rfl, h1, h2, h3.append h'⟩
theorem CellsOk.len {w : World} : ∀ {ts : List Ty} {cs : List Value} {ds : List D}, CellsOk w ts cs ds -> cs.length = ts.length /\ ds.length = ts.length
 | [], cs, ds, h => by obtain ⟨rfl, rfl⟩ := h; exact ⟨rfl, rfl⟩
 | t :: ts, cs, ds, h => by
  obtain ⟨c, c1, d, d1, rfl, rfl, h1, h2, h3⟩ := h
  obtain ⟨h4, h5⟩ := h3.len
  simp [h4, h5]
theorem CellsOk.get {w : World} : ∀ {ts : List Ty} {cs : List Value} {ds : List D}, CellsOk w ts cs ds -> ∀ {j : Nat} {d : D}, ds[j]? = some d -> ∃ c, cs[j]? = some c /\ Rd (fun _ => True) w c d
 | [], cs, ds, h, j, d, hj => by obtain ⟨rfl, rfl⟩ := h; simp at hj
 | t :: ts, cs, ds, h, j, d, hj => by
  obtain ⟨c, c1, d', d1, rfl, rfl, h1, h2, h3⟩ := h
  cases j with
  | zero =>
   simp only [List.getElem?_cons_zero, Option.some.injEq] at hj
   subst hj
   exact ⟨c, rfl, h1⟩
  | succ j =>
   obtain ⟨c', h4, h5⟩ := h3.get (j := j) (by simpa using hj)
   exact ⟨c', by simpa using h4, h5⟩
theorem CellsOk.wts {w : World} : ∀ {ts : List Ty} {cs : List Value} {ds : List D}, CellsOk w ts cs ds -> WTs ts ds
 | [], cs, ds, h => by obtain ⟨rfl, rfl⟩ := h; simp [WTs]
 | t :: ts, cs, ds, h => by
  obtain ⟨c, c1, d', d1, rfl, rfl, h1, h2, h3⟩ := h
  simp only [WTs]
  exact ⟨d', d1, rfl, h2, h3.wts⟩
theorem mapM_get' {α β : Type} {f : α -> Option β} : ∀ {l : List α} {ys : List β}, l.mapM f = some ys -> ys.length = l.length /\ ∀ (i : Nat) (x : α), l[i]? = some x -> ∃ y, ys[i]? = some y /\ f x = some y
 | [], ys, h => by
  simp at h
  subst h
  simp
 | x :: l, ys, h => by
  simp only [List.mapM_cons, bind, Option.bind_eq_some_iff, pure, Option.some.injEq] at h
  obtain ⟨y, h1, ys', h2, rfl⟩ := h
  obtain ⟨h3, h4⟩ := mapM_get' h2
  refine ⟨by simp [h3], fun i z hz => ?_⟩
  cases i with
  | zero =>
   simp only [List.getElem?_cons_zero, Option.some.injEq] at hz
   subst hz
   exact ⟨y, rfl, h1⟩
  | succ i =>
   obtain ⟨y', h5, h6⟩ := h4 i z (by simpa using hz)
   exact ⟨y', by simpa using h5, h6⟩
theorem list_of {β : Type} {p : Nat -> β -> Prop} : ∀ (n : Nat), (∀ i, i < n -> ∃ y, p i y) -> ∃ l : List β, l.length = n /\ ∀ i y, l[i]? = some y -> p i y
 | 0, _ => ⟨[], rfl, by simp⟩
 | n + 1, h => by
  obtain ⟨l, h1, h2⟩ := list_of n fun i hi => h i (by omega)
  obtain ⟨y, hy⟩ := h n (by omega)
  refine ⟨l ++ [y], by simp [h1], fun i z hz => ?_⟩
  rcases Nat.lt_trichotomy i n with hi | hi | hi
  ·rw [List.getElem?_append_left (by omega)] at hz
   exact h2 i z hz
  ·subst hi
   rw [List.getElem?_append_right (by omega), h1, Nat.sub_self] at hz
   simp only [List.getElem?_cons_zero, Option.some.injEq] at hz
   subst hz
   exact hy
  ·have := (List.getElem?_eq_some_iff.1 hz).1
   simp [h1] at this
   omega
theorem weightsAll_mem {H : Type} {P : Program} {e : TypeId} : ∀ {l : List (DataW H)} {d : DataW H}, d ∈ l -> ∀ n ∈ d.weights P e, n ∈ DataW.weightsAll P e l
 | [], d, h, _, _ => by simp at h
 | x :: l, d, h, n, hn => by
  simp only [DataW.weightsAll, List.mem_append]
  rcases List.mem_cons.1 h with rfl | h
  ·exact .inl hn
  ·exact .inr (weightsAll_mem h n hn)
theorem weightsEach_cons {H : Type} {P : Program} {t : TypeId} {ts : List TypeId} {d : DataW H} {ds : List (DataW H)} : DataW.weightsEach P (t :: ts) (d :: ds) = d.weights P t ++ DataW.weightsEach P ts ds := by
 simp only [DataW.weightsEach]
theorem trod_fields {P : Program} {w : World} {H : Type} {cs : List Value} {f : Field -> List Value -> Option (DataW H × List MemPlace)} {rec : TypeId -> Option (List Ty)}
  (hrec : ∀ (fd : Field) (r : List Ty) (l : List Value) (y : DataW H × List MemPlace), rec fd.type = some r -> f fd l = some y -> (∀ m ∈ y.1.weights P fd.type, m <= reachBytes) -> ∃ ds, CellsOk w r l ds) :
  ∀ {fs : List Field} {off : Nat} {tys : List Ty} {xs : List (DataW H × List MemPlace)}, tysFs P rec off fs = some tys -> fs.mapM (fun fd => f fd ((cs.drop fd.offset).take (P.cellsOf fd.type))) = some xs ->
  (∀ m ∈ DataW.weightsEach P (fs.map (·.type)) (xs.map (·.1)), m <= reachBytes) -> cs.length = off + tys.length -> ∃ ds, CellsOk w tys (cs.drop off) ds
 | [], off, tys, xs, h, _, _, hl => by
  simp only [tysFs, Option.some.injEq] at h
  subst h
  refine ⟨[], ?_, rfl⟩
  rw [List.drop_eq_nil_iff]
  simp only [List.length_nil] at hl
  omega
 | fd :: fs, off, tys, xs, h, hm, hw, hl => by
  simp only [tysFs] at h
  split at h
  case h_2 => cases h
  rename_i r hr
  cases hb : (Nat.beq fd.offset off && Nat.beq r.length (P.cellsOf fd.type)) with
  | false => rw [hb] at h; cases h
  | true =>
   rw [hb, cond_true, Option.map_eq_some_iff] at h
   obtain ⟨tys', h1, rfl⟩ := h
   simp only [Bool.and_eq_true, Nat.beq_eq] at hb
   obtain ⟨rfl, hcl⟩ := hb
   simp only [List.mapM_cons, bind, Option.bind_eq_some_iff, pure, Option.some.injEq] at hm
   obtain ⟨y, h2, ys, h3, rfl⟩ := hm
   simp only [List.map_cons, weightsEach_cons, List.mem_append] at hw
   obtain ⟨ds, h4⟩ := hrec fd r _ y hr h2 fun m hm => hw m (.inl hm)
   rw [List.length_append] at hl
   obtain ⟨ds', h5⟩ := trod_fields hrec (off := fd.offset + r.length) h1 h3 (fun m hm => hw m (.inr hm)) (by omega)
   refine ⟨ds ++ ds', ?_⟩
   have := h4.append h5
   rw [<- hcl] at this
   have e : List.take r.length (List.drop fd.offset cs) ++ List.drop (fd.offset + r.length) cs = List.drop fd.offset cs := by
    rw [<- List.drop_drop, List.take_append_drop]
   rw [e] at this
   exact this
theorem trod_cells {P : Program} {H : Type} {enc : TypeId × Value -> H} {w : World} {sp : Nat -> Bool} {held : Bool} : ∀ (n fuel : Nat) {t : TypeId} {cs : List Value} {x : DataW H} {ps : List MemPlace} {tys : List Ty}, tysOf P n t = some tys -> DataW.trod enc P w 0 sp held fuel t cs = some (x, ps) ->
  (∀ m ∈ x.weights P t, m <= reachBytes) -> ∃ ds, CellsOk w tys cs ds
 | 0, _, t, cs, x, ps, tys, h, _, _ => by simp [tysOf] at h
 | n + 1, 0, t, cs, x, ps, tys, _, h, _ => by simp [DataW.trod] at h
 | n + 1, fuel + 1, t, cs, x, ps, tys, ht, h, hw => by
  simp only [tysOf] at ht
  unfold DataW.trod at h
  split at ht
  ·
   rename_i hu
   rw [hu] at h
   simp only [Option.some.injEq] at ht
   subst ht
   split at h <;> rename_i heq <;> first | (cases heq; done) | skip
   all_goals first | (injection heq with heq; cases heq; done) | skip
   ·exact ⟨_, _, [], _, [], rfl, rfl, .sc (.bool _), ⟨_, rfl⟩, rfl, rfl⟩
   ·cases h
  ·
   rename_i k hu
   rw [hu] at h
   simp only [Option.some.injEq] at ht
   subst ht
   split at h <;> rename_i heq <;> first | (cases heq; done) | skip
   all_goals first | (injection heq with heq; cases heq; done) | skip
   ·rename_i k0 k' m
    injection heq with heq
    injection heq with heq
    subst heq
    split at h
    ·rename_i hc
     obtain ⟨rfl, hwf⟩ := hc
     simp only [Lit.wf, Bool.and_eq_true, decide_eq_true_eq] at hwf
     exact ⟨_, _, [], _, [], rfl, rfl, .sc (.int _ _), ⟨_, rfl, hwf.1, hwf.2⟩, rfl, rfl⟩
    ·cases h
   ·cases h
  ·
   rename_i hu
   rw [hu] at h
   simp only [Option.some.injEq] at ht
   subst ht
   split at h <;> rename_i heq <;> first | (cases heq; done) | skip
   all_goals first | (injection heq with heq; cases heq; done) | skip
   ·rename_i s0
    split at h
    ·simp only [Option.some.injEq, Prod.mk.injEq] at h
     obtain ⟨rfl, rfl⟩ := h
     refine ⟨_, _, [], _, [], rfl, rfl, .sc (.str s0.data.toList), ⟨_, rfl, hw _ ?_⟩, rfl, rfl⟩
     simp only [DataW.weights, List.mem_singleton]
    ·cases h
   ·cases h
  ·
   rename_i e hu
   split at ht
   case h_2 => cases ht
   rename_i r hr
   cases hb : Nat.beq r.length (P.cellsOf e) with
   | false => rw [hb] at ht; cases ht
   | true =>
    rw [hb, cond_true] at ht
    simp only [Option.some.injEq] at ht
    subst ht
    simp only [Nat.beq_eq] at hb
    rw [hu] at h
    split at h <;> rename_i heq <;> first | (cases heq; done) | skip
    all_goals first | (injection heq with heq; cases heq; done) | skip
    ·injection heq with heq
     injection heq with heq
     subst heq
     simp only [Option.some.injEq, Prod.mk.injEq] at h
     obtain ⟨rfl, rfl⟩ := h
     refine ⟨_, _, [], .rows r.length [], [], rfl, rfl, .rows none ⟨0, 0, none⟩ 0 0 r.length [] (fun _ _ => undef) rfl (Nat.le_refl _) (.inl rfl) (by simp) (by simp) (by simp), ⟨[], rfl, by simp, by simp⟩, rfl, rfl⟩
    ·rename_i e0 ad len cap
     injection heq with heq
     injection heq with heq
     subst heq
     dsimp only at h
     split at h
     case isFalse => cases h
     rename_i hc
     simp only [Option.bind_eq_some_iff, Option.map_eq_some_iff, Prod.mk.injEq] at h
     obtain ⟨elems, h1, rest, h2, rfl, rfl⟩ := h
     obtain ⟨h3, h4⟩ := mapM_get' h1
     rw [List.length_range] at h3
     simp only [DataW.weights, hu, List.mem_cons, List.mem_append] at hw
     have hrow : ∀ i, i < len -> ∃ ds : List D, ∃ cs : List Value, (∀ j c, cs[j]? = some c -> w.cell? (ad.add (i * r.length + j)) = some c) /\ CellsOk w r cs ds := by
      intro i hi
      obtain ⟨y, h5, h6⟩ := h4 i i (by rw [List.getElem?_range hi])
      simp only [Option.bind_eq_some_iff] at h6
      obtain ⟨cs, h7, h8⟩ := h6
      obtain ⟨x, ps⟩ := y
      obtain ⟨ds, h9⟩ := trod_cells n fuel hr h8 fun m hm => hw m (.inr (.inl (weightsAll_mem (List.mem_map.2 ⟨_, List.mem_of_getElem? h5, rfl⟩) m hm)))
      refine ⟨ds, cs, fun j c hj => ?_, h9⟩
      unfold World.cells? at h7
      split at h7
      ·obtain ⟨h10, h11⟩ := mapM_get' h7
       have hjl := (List.getElem?_eq_some_iff.1 hj).1
       rw [h10, List.length_range] at hjl
       obtain ⟨c', h12, h13⟩ := h11 j j (by rw [List.getElem?_range hjl])
       rw [hj] at h12
       obtain rfl := Option.some.inj h12
       rw [add_add, <- hb] at h13
       exact h13
      ·cases h7
     obtain ⟨rs, h5, h6⟩ := list_of len hrow
     have hex : ∀ i, ∃ cs : List Value, ∀ ds, rs[i]? = some ds -> (∀ j c, cs[j]? = some c -> w.cell? (ad.add (i * r.length + j)) = some c) /\ CellsOk w r cs ds := by
      intro i
      cases hi : rs[i]? with
      | none => exact ⟨[], fun ds h => by cases h⟩
      | some ds =>
       obtain ⟨cs, h7, h8⟩ := h6 i ds hi
       exact ⟨cs, fun ds' h => by obtain rfl := Option.some.inj h; exact ⟨h7, h8⟩⟩
     have hch : ∃ cf : Nat -> List Value, ∀ i ds, rs[i]? = some ds -> (∀ j c, (cf i)[j]? = some c -> w.cell? (ad.add (i * r.length + j)) = some c) /\ CellsOk w r (cf i) ds := ⟨fun i => (hex i).choose, fun i => (hex i).choose_spec⟩
     obtain ⟨cf, hcf⟩ := hch
     have hlen : ∀ row ∈ rs, row.length = r.length := fun row hrow => by
      obtain ⟨i, hi⟩ := List.mem_iff_getElem?.1 hrow
      exact ((hcf i row hi).2.len).2
     refine ⟨[.rows r.length rs], _, [], _, [], rfl, rfl, ?_, ⟨rs, rfl, ?_, fun row hrow => ?_⟩, rfl, rfl⟩
     ·refine .rows _ ad len cap r.length rs (fun i j => ((cf i)[j]?).getD undef) h5 hc.2.1 (.inr rfl) hlen (fun i row hi j d hj => ?_) (fun i row hi j d hj => ?_)
      ·obtain ⟨c, h7, h8⟩ := (hcf i row hi).2.get hj
       refine ⟨trivial, ?_⟩
       rw [(hcf i row hi).1 j c h7, h7]
       rfl
      ·obtain ⟨c, h7, h8⟩ := (hcf i row hi).2.get hj
       rw [h7]
       exact h8
     ·have := hw _ (.inl rfl)
      rw [List.length_map, List.length_map, h3] at this
      rw [h5]
      exact Nat.le_trans (Nat.mul_le_mul_right _ (Nat.le_add_right ..)) this
     ·obtain ⟨i, hi⟩ := List.mem_iff_getElem?.1 hrow
      exact (hcf i row hi).2.wts
    ·cases h
  ·
   rename_i fs hu
   split at ht
   case h_2 => cases ht
   rename_i r hr
   cases hb : Nat.beq r.length (P.cellsOf t) with
   | false => rw [hb] at ht; cases ht
   | true =>
    rw [hb, cond_true] at ht
    simp only [Option.some.injEq] at ht
    subst ht
    simp only [Nat.beq_eq] at hb
    rw [hu] at h
    split at h <;> rename_i heq <;> first | (cases heq; done) | skip
    all_goals first | (injection heq with heq; cases heq; done) | skip
    ·rename_i cs0 x0 cs1 fs2
     injection heq with heq
     injection heq with heq
     subst heq
     split at h
     case isFalse => cases h
     rename_i hc
     simp only [Option.map_eq_some_iff, Prod.mk.injEq] at h
     obtain ⟨xs, h1, rfl, rfl⟩ := h
     simp only [DataW.weights, hu] at hw
     obtain ⟨ds, h2⟩ := trod_fields (w := w) (cs := cs0) (f := fun fd l => DataW.trod enc P w 0 sp held fuel fd.type l) (rec := tysOf P n)
      (fun fd r l y hr' hy hw' => trod_cells n fuel hr' (x := y.1) (ps := y.2) hy hw') hr h1 hw (by omega)
     exact ⟨ds, by simpa using h2⟩
    ·exact ((by assumption : ∀ (fs_1 : Array Field), some (TypeDesc.struct fs) = some (TypeDesc.struct fs_1) -> False) fs rfl).elim
  ·cases ht
end Go.Proofs.YtdpfilpckndhcaaGreatDoor.Rf

namespace Go.Proofs.YtdpfilpckndhcaaGreatDoor.Rf
open Go.ChangeShapes Go.RowKit
set_option linter.unusedVariables false
set_option linter.unusedSimpArgs false
def lsOf : Ty -> LS
 | .sl _ _ => .fz false
 | _ => .sc
def aggTy (P : Program) (t : TypeId) : Bool := match P.underlying t with
 | some (.struct _) => true
 | _ => false
def lawParams (P : Program) : List TypeId -> Option (List (Bool × List LS) × List Ty)
 | [] => some ([], [])
 | t :: ts => match tysOf P 12 t, lawParams P ts with
  | some r, some (ps, tys) => some ((aggTy P t, r.map lsOf) :: ps, r ++ tys)
  | _, _ => none
def lawG : Gh := ⟨fun _ => .frz, fun _ => undef, fun _ => ⟨0, 0, none⟩⟩
theorem cntL_of : ∀ (tys : List Ty), cntL (tys.map lsOf) = tys.length /\ rcntL (tys.map lsOf) = 0
 | [] => ⟨rfl, rfl⟩
 | t :: tys => by
  obtain ⟨h1, h2⟩ := cntL_of tys
  cases t <;> simp [cntL, rcntL, lsOf, LS.cnt, LS.rcnt, h1, h2] <;> omega
theorem entLeaves_of {w : World} {ρ : List D} : ∀ {tys : List Ty} {cs : List Value} {ds : List D} {i : Nat}, CellsOk w tys cs ds -> (∀ j d, ds[j]? = some d -> (Atom.v (i + j)).val ρ = d) -> EntLeaves lawG w ρ 0 i 0 (tys.map lsOf) cs
 | [], cs, ds, i, h, _ => by obtain ⟨rfl, rfl⟩ := h; rfl
 | t :: tys, cs, ds, i, h, hv => by
  obtain ⟨c, cs', d, ds', rfl, rfl, h1, h2, h3⟩ := h
  have hv0 : (Atom.v i).val ρ = d := by have := hv 0 d rfl; rwa [Nat.add_zero] at this
  have hr : (lsOf t).rcnt = 0 := by cases t <;> rfl
  have hc : (lsOf t).cnt = 1 := by cases t <;> rfl
  refine ⟨c, cs', rfl, ?_, ?_⟩
  ·cases t with
   | int k =>
    obtain ⟨n, rfl, -⟩ := h2
    simp only [lsOf, EntLeaf, hv0]
    exact h1.sc_inv rfl
   | bool =>
    obtain ⟨n, rfl⟩ := h2
    simp only [lsOf, EntLeaf, hv0]
    exact h1.sc_inv rfl
   | str =>
    obtain ⟨n, rfl, -⟩ := h2
    simp only [lsOf, EntLeaf, hv0]
    exact h1.sc_inv rfl
   | sl bytes row =>
    simp only [lsOf, EntLeaf, hv0]
    exact ⟨h1.mono fun b _ => ⟨rfl, rfl⟩, fun e => absurd e (by decide)⟩
  ·rw [hr, hc]
   refine entLeaves_of (i := i + 1) h3 fun j d' hj => ?_
   have := hv (j + 1) d' (by simpa using hj)
   rwa [show i + (j + 1) = i + 1 + j by omega] at this
theorem okWide_shape {P : Program} {W : World} {base : Nat} {n : Nat} {t : TypeId} {tys : List Ty} {v : Value} (h : tysOf P n t = some tys) (hv : Value.okWide P W .any base t v) : if aggTy P t = true then v = .agg v.cells.toList.toArray else v.cells.toList = [v] := by
 cases n with
 | zero => simp [tysOf] at h
 | succ n =>
  unfold Value.okWide at hv
  unfold aggTy
  simp only [tysOf] at h
  cases hu : P.underlying t with
  | none => rw [hu] at h; cases h
  | some u =>
   rw [hu] at h hv
   cases u with
   | struct fs =>
    obtain ⟨cs, rfl, -⟩ := hv
    simp [Value.cells]
   | bool =>
    simp only [Cell.okWide, Cell.ok, hu] at hv
    cases v <;> simp at hv
    simp [Value.cells]
   | int k =>
    simp only [Cell.okWide, Cell.ok, hu] at hv
    cases v <;> simp at hv
    simp [Value.cells]
   | string =>
    simp only [Cell.okWide, Cell.ok, hu] at hv
    cases v <;> simp at hv
    simp [Value.cells]
   | slice e =>
    simp only [Cell.okWide, Cell.ok, hu] at hv
    cases v <;> simp at hv
    simp [Value.cells]
   | _ => cases h
theorem law_params {P : Program} {H : Type} {enc : TypeId × Value -> H} {W : World} {sp : Nat -> Bool} {held : Bool} {base : Nat} : ∀ {ts : List TypeId} {vs : List Value} {ds : List (DataW H)} {ps : List MemPlace} {sps : List (Bool × List LS)} {tys : List Ty},
  lawParams P ts = some (sps, tys) -> DataW.TrodAll enc P W 0 sp held ts vs ds ps -> (∀ (j : Nat) t v, ts[j]? = some t -> vs[j]? = some v -> Value.okWide P W .any base t v) -> (∀ m ∈ DataW.weightsEach P ts ds, m <= reachBytes) ->
  ∃ dd, WTs tys dd /\ dd.length = tys.length /\ tys.length = cntP sps /\ rcntP sps = 0 /\ ∀ (ρ : List D) (i : Nat), (∀ j d, dd[j]? = some d -> (Atom.v (i + j)).val ρ = d) -> EntParams lawG W ρ 0 i 0 sps vs
 | [], vs, ds, ps, sps, tys, h, ht, _, _ => by
  simp only [lawParams, Option.some.injEq, Prod.mk.injEq] at h
  obtain ⟨rfl, rfl⟩ := h
  cases vs with
  | cons v vs => cases ds <;> exact ht.elim
  | nil => exact ⟨[], rfl, rfl, rfl, rfl, fun ρ i _ => rfl⟩
 | t :: ts, vs, ds, ps, sps, tys, h, ht, hv, hw => by
  simp only [lawParams] at h
  split at h
  case h_2 => cases h
  rename_i r sps' tys' hr hl
  simp only [Option.some.injEq, Prod.mk.injEq] at h
  obtain ⟨rfl, rfl⟩ := h
  cases vs with
  | nil => cases ds <;> exact ht.elim
  | cons v vs =>
   cases ds with
   | nil => exact ht.elim
   | cons d ds =>
    obtain ⟨p, q, ⟨fuel, h1⟩, h2, rfl⟩ := ht
    rw [weightsEach_cons] at hw
    obtain ⟨dd, h3⟩ := trod_cells 12 fuel hr h1 fun m hm => hw m (List.mem_append_left _ hm)
    obtain ⟨dd', h4, h5, h6, h7, h8⟩ := law_params hl h2 (fun j t' v' hj hj' => hv (j + 1) t' v' (by simpa using hj) (by simpa using hj')) fun m hm => hw m (List.mem_append_right _ hm)
    obtain ⟨hc1, hc2⟩ := cntL_of r
    obtain ⟨hn1, hn2⟩ := h3.len
    refine ⟨dd ++ dd', ?_, by simp [hn2, h5], by simp only [List.length_append, cntP, hc1, h6], by simp only [rcntP, hc2, h7], fun ρ i hval => ?_⟩
    ·have : ∀ {a : List Ty} {x : List D}, WTs a x -> WTs (a ++ tys') (x ++ dd') := by
      intro a
      induction a with
      | nil => intro x hx; simp only [WTs] at hx; subst hx; exact h4
      | cons t a ih =>
       intro x hx
       simp only [WTs] at hx
       obtain ⟨y, ys, rfl, hy1, hy2⟩ := hx
       simp only [List.cons_append, WTs]
       exact ⟨y, _, rfl, hy1, ih hy2⟩
     exact this h3.wts
    ·refine ⟨v, vs, v.cells.toList, rfl, entLeaves_of h3 fun j d' hj => hval j d' (by rw [List.getElem?_append_left (List.getElem?_eq_some_iff.1 hj).1]; exact hj), okWide_shape hr (hv 0 t v rfl rfl), ?_⟩
     rw [hc1, hc2]
     refine h8 ρ (i + r.length) fun j d' hj => ?_
     rw [Nat.add_assoc, <- hn2]
     exact hval _ _ (by rw [List.getElem?_append_right (by omega), Nat.add_sub_cancel_left]; exact hj)
theorem trodAll_below {P : Program} {H : Type} {enc : TypeId × Value -> H} (hl : laidOutB P = true) {W W' : World} (hb : Below W.heap.size W W') : ∀ {ts : List TypeId} {vs : List Value} {ds : List (DataW H)} {ps : List MemPlace}, (ts.all fun t => P.readableRec t && decide (t < P.types.size)) = true ->
  DataW.TrodAll enc P W 0 (fun _ => true) true ts vs ds ps -> DataW.TrodAll enc P W' 0 (fun b => decide (b < W.heap.size)) true ts vs ds ps
 | [], [], [], ps, _, h => h
 | [], [], _ :: _, ps, _, h => h.elim
 | [], _ :: _, _, ps, _, h => h.elim
 | _ :: _, [], _, ps, _, h => h.elim
 | _ :: _, _ :: _, [], ps, _, h => h.elim
 | t :: ts, v :: vs, d :: ds, ps, hr, h => by
  simp only [List.all_cons, Bool.and_eq_true, decide_eq_true_eq] at hr
  obtain ⟨p, q, h1, h2, rfl⟩ := h
  refine ⟨p, q, Below.trod hl hr.1.1 hr.1.2 h1 hb ?_, trodAll_below hl hb hr.2 h2, rfl⟩
  obtain ⟨m, hm⟩ := h1
  exact DataW.trod_lt m _ _ _ hm
theorem law_callsX {P : Program} {X : (Nat -> Ow) -> World -> Prop} {T : Nat -> Ent} {key : Nat} {s : Sig} {fn : Func} {c : Code} (hc : ∀ n, ContractX P X T n key s) (hfn : P.funcs[s.fn]? = some fn) (hname : (fn.name == "runtime.NumGoroutine") = false) (hbody : fn.body = some c)
  {tys : List Ty} (hpar : lawParams P fn.params.toList = some (s.params, tys)) (hbx : s.boxes = []) (hres : s.results = [(false, [.sc])]) (hpure : ∀ ds, WTs tys ds -> ∃ n, callN T n key ds = some [.bool true])
  {H : Type} {enc : TypeId × Value -> H} {W : World} {base : Nat} {args : Array Value} {ds : List (DataW H)} {ps : List MemPlace}
  (hval : ∀ (j : Nat) t v, fn.params[j]? = some t -> args[j]? = some v -> Value.okWide P W .any base t v) (ht : DataW.TrodAll enc P W 0 (fun _ => true) true fn.params.toList args.toList ds ps)
  (hw : ∀ m ∈ DataW.weightsEach P fn.params.toList ds, m <= reachBytes) (hX : X (fun _ => .frz) W) : Calls P s.fn args W fun e W' => e = .returned (.bool true) /\ Below W.heap.size W W' := by
 obtain ⟨dd, h1, h2, h3, h4, h5⟩ := law_params (base := base) hpar ht (fun j t v hj hv => hval j t v (by simpa using hj) (by simpa using hv)) hw
 obtain ⟨n, hn⟩ := hpure dd h1
 have hpre : CPre s args.toList W lawG dd := by
  refine ⟨?_, ?_, ?_, fun _ _ => rfl, fun b j _ e => by cases e⟩
  ·rw [hbx]
   exact h5 dd 0 fun j d hj => by simp [Atom.val, List.getD_eq_getElem?_getD, hj]
  ·rw [hbx]; trivial
  ·rw [h2, h3, hbx]; rfl
 have hgo := hc n args.toList W lawG dd _ hpre hX hn
 have e : args.toList.toArray = args := by simp
 rw [e] at hgo
 rcases hgo with ⟨-, hcalls⟩ | ⟨v, w', hr, -⟩
 ·refine Calls.mono hcalls fun en W' he => ?_
  cases en with
  | returned v =>
   obtain ⟨G, us, rfl, hF, hfr, -⟩ := he
   rw [hres] at hfr
   obtain ⟨u, us', vs, rfl, hl, hsh, hnil⟩ := hfr
   simp only [FinRes] at hnil
   subst hnil
   simp only [Bool.false_eq_true, if_false] at hsh
   subst hsh
   obtain ⟨u', us2, e2, hsc, -⟩ := hl
   obtain ⟨rfl, rfl⟩ := List.cons.inj e2
   simp only [FinLeaf] at hsc
   have hu : u = .bool true := by
    have : ([D.bool true].getD 0 .undef) = D.bool true := rfl
    rw [this] at hsc
    exact hsc.bool_inv
   subst hu
   exact ⟨rfl, hF.os, hF.tape, hF.output, hF.size, fun k hk => (hF.keep k hk (.inl rfl)).1⟩
  | panicked c => exact he.elim
  | outgrown => exact he.elim
 ·rw [run_callFunc hfn hname hbody] at hr
  cases hr
end Go.Proofs.YtdpfilpckndhcaaGreatDoor.Rf

namespace Go.Proofs.YtdpfilpckndhcaaGreatDoor.Rf
set_option linter.unusedVariables false
set_option linter.unusedSimpArgs false
def tiTab : List (Nat × TI) -> Nat -> Option TI
 | [], _ => none
 | (k, i) :: r, t => bif Nat.beq k t then some i else tiTab r t
theorem tiTab_ok {P : Program} : ∀ {l : List (Nat × TI)}, (∀ p ∈ l, tiOf P p.1 = some p.2) -> TiOk P (tiTab l)
 | [], _ => ⟨fun t i h => by cases h⟩
 | (k, i) :: r, h => ⟨fun t j ht => by
  simp only [tiTab] at ht
  cases hb : Nat.beq k t with
  | true =>
   rw [hb, cond_true] at ht
   simp only [Nat.beq_eq] at hb
   subst hb
   rw [<- ht]
   exact h (k, i) List.mem_cons_self
  | false =>
   rw [hb, cond_false] at ht
   exact (tiTab_ok fun p hp => h p (List.mem_cons_of_mem _ hp)).ok t j ht⟩
def entTab : List (Nat × Ent) -> Nat -> Ent
 | [], _ => .none
 | (k, e) :: r, t => bif Nat.beq k t then e else entTab r t
theorem fnOk_all {P : Program} {T : Nat -> Ent} {ti : Nat -> Option TI} {sigs : List (Nat × Sig)} (h : ∀ p ∈ sigs, FnOk P T ti sigs p.1 p.2) : ∀ key s, (key, s) ∈ sigs -> FnOk P T ti sigs key s := fun key s hm => h (key, s) hm
theorem fnOk_tm {P : Program} {T : Nat -> Ent} {E : Env} {key : Nat} {s : Sig} {fn : Func} {tm : Tm Unit} (h1 : P.funcs[s.fn]? = some fn) (h2 : (fn.name == "runtime.NumGoroutine") = false) (h3 : sxFun E s fn = some tm) (h4 : T key = .tm tm) : FnOk P T E.ti E.sigs key s :=
 .inl ⟨E, fn, tm, rfl, rfl, h1, h2, h3, h4⟩
theorem fnK {P : Program} {T : Nat -> Ent} {E : Env} {key : Nat} {s : Sig} {fn : Func} {tm : Tm Unit} (h1 : P.funcs[s.fn]? = some fn) (h : (fn.name == "runtime.NumGoroutine", sxFun E s fn, T key) = (false, some tm, .tm tm)) : FnOk P T E.ti E.sigs key s :=
 fnOk_tm h1 (congrArg (·.1) h) (congrArg (·.2.1) h) (congrArg (·.2.2) h)
theorem fc {α : Type} {p : α -> Prop} {a : α} {l : List α} (h : p a) (h' : ∀ x ∈ l, p x) : ∀ x ∈ a :: l, p x := List.forall_mem_cons.2 ⟨h, h'⟩
theorem fc0 {α : Type} {p : α -> Prop} : ∀ x ∈ ([] : List α), p x := List.forall_mem_nil _
theorem pure_of {T : Nat -> Ent} {key : Nat} {ds r : List D} (h : Fun T key ds = some r) : ∃ n, callN T n key ds = some r := Fun_some.1 h
end Go.Proofs.YtdpfilpckndhcaaGreatDoor.Rf

namespace Go.Proofs.YtdpfilpckndhcaaGreatDoor.Rf
set_option linter.unusedVariables false
set_option linter.unusedSimpArgs false
abbrev i64 (n : Int) : D := .int .i64 n
theorem wrap_i64 {n : Int} (h1 : -9223372036854775808 <= n) (h2 : n <= 9223372036854775807) : IntKind.i64.wrap n = n := IntWalk.i64_in n ⟨h1, h2⟩
section
variable {T : Nat -> Ent} {β : Type}
end
theorem run_lss {a b : Int} : (Prim.bin .lss).run [i64 a, i64 b] = some [.bool (decide (a < b))] := by simp [Prim.run, binD, intOp]
theorem run_gtr {a b : Int} : (Prim.bin .gtr).run [i64 a, i64 b] = some [.bool (decide (a > b))] := by simp [Prim.run, binD, intOp]
theorem run_leq {a b : Int} : (Prim.bin .leq).run [i64 a, i64 b] = some [.bool (decide (a <= b))] := by simp [Prim.run, binD, intOp]
theorem run_geq {a b : Int} : (Prim.bin .geq).run [i64 a, i64 b] = some [.bool (decide (a ≥ b))] := by simp [Prim.run, binD, intOp]
theorem run_neq {a b : Int} : (Prim.bin .neq).run [i64 a, i64 b] = some [.bool (!(a == b))] := by simp [Prim.run, binD, intOp, bne]
theorem run_eql {a b : Int} : (Prim.bin .eql).run [i64 a, i64 b] = some [.bool (a == b)] := by simp [Prim.run, binD, intOp]
theorem run_add {a b : Int} (h1 : -9223372036854775808 <= a + b) (h2 : a + b <= 9223372036854775807) : (Prim.bin .add).run [i64 a, i64 b] = some [i64 (a + b)] := by simp [Prim.run, binD, intOp, wrap_i64 h1 h2]
theorem run_sub {a b : Int} (h1 : -9223372036854775808 <= a - b) (h2 : a - b <= 9223372036854775807) : (Prim.bin .sub).run [i64 a, i64 b] = some [i64 (a - b)] := by simp [Prim.run, binD, intOp, wrap_i64 h1 h2]
theorem run_not {b : Bool} : Prim.not.run [.bool b] = some [.bool (!b)] := rfl
theorem run_eqb {a b : Bool} : (Prim.eqb true).run [.bool a, .bool b] = some [.bool (!(a == b))] := rfl
section
variable {T : Nat -> Ent}
end
end Go.Proofs.YtdpfilpckndhcaaGreatDoor.Rf

namespace Go.Proofs.YtdpfilpckndhcaaGreatDoor.Rf
set_option linter.unusedVariables false
set_option linter.unusedSimpArgs false
section
variable {T : Nat -> Ent} {β : Type}
noncomputable def Er (T : Nat -> Ent) (t : Tm β) (ρ : List D) : Option (Kind × List D) := (Ev T t ρ).map fun o => (o.kind, o.vals)
def retR (r : Kind × List D) : Option (List D) := if r.1 = .ret then some r.2 else none
def iteR {α : Type} (d : D) (a b : Option α) : Option α := match d with
 | .bool true => a
 | .bool false => b
 | _ => none
def gdR (d : D) (w : Bool) : Bool := match d with
 | .bool b => b == w
 | _ => false
theorem Fun_r {f : Nat} {t : Tm Unit} (h : T f = .tm t) (args : List D) : Fun T f args = (Er T t args).bind retR := by
 rw [Fun_tm h, Er]
 cases Ev T t args <;> rfl
theorem Er_leaf (k : Kind) (xs : List Atom) (e : β) (ρ : List D) : Er T (.leaf k xs e) ρ = some (k, xs.map (·.val ρ)) := by
 rw [Er, Ev_leaf]; rfl
noncomputable def stepT (T : Nat -> Ent) (k : Tm β) (ρ : List D) (n : Nat) (a : Option (List D)) : Option (Kind × List D) := a.bind fun ds => if ds.length = n then Er T k (ρ ++ ds) else none
noncomputable def iteT (T : Nat -> Ent) (t e : Tm β) (ρ : List D) (c : D) : Option (Kind × List D) := iteR c (Er T t ρ) (Er T e ρ)
noncomputable def ltT (T : Nat -> Ent) (p : Prim) (xs : List Atom) (n : Nat) (k : Tm β) (ρ : List D) (w : Bool) (c : D) : Option (Kind × List D) :=
 if gdR c w = true then stepT T k ρ n (p.run (xs.map (·.val ρ))) else Er T k (ρ ++ List.replicate n .undef)
noncomputable def callT (T : Nat -> Ent) (f : Nat) (xs : List Atom) (n : Nat) (os : List Atom) (k : Tm β) (ρ : List D) (w : Bool) (c : D) : Option (Kind × List D) :=
 if gdR c w = true then stepT T k ρ n (Fun T f (xs.map (·.val ρ))) else Er T k (ρ ++ (List.replicate (n - os.length) .undef ++ os.map (·.val ρ)))
theorem Er_lt0 (p : Prim) (xs : List Atom) (n : Nat) (k : Tm β) (ρ : List D) : Er T (.lt none p xs n k) ρ = stepT T k ρ n (p.run (xs.map (·.val ρ))) := by
 rw [Er, Ev_lt, stepT]
 simp only [gOn, if_true]
 cases p.run (xs.map (·.val ρ)) with
 | none => rfl
 | some ds =>
  simp only [Option.bind_some]
  split <;> rfl
theorem Er_ltg (a : Atom) (w : Bool) (p : Prim) (xs : List Atom) (n : Nat) (k : Tm β) (ρ : List D) : Er T (.lt (some (a, w)) p xs n k) ρ = ltT T p xs n k ρ w (a.val ρ) := by
 rw [Er, Ev_lt, ltT, stepT]
 have : gOn ρ (some (a, w)) = gdR (a.val ρ) w := rfl
 rw [this]
 cases gdR (a.val ρ) w with
 | false => rfl
 | true =>
  simp only [if_true]
  cases p.run (xs.map (·.val ρ)) with
  | none => rfl
  | some ds =>
   simp only [Option.bind_some]
   split <;> rfl
theorem Er_call0 (f : Nat) (xs : List Atom) (n : Nat) (os : List Atom) (k : Tm β) (ρ : List D) : Er T (.call none f xs n os k) ρ = stepT T k ρ n (Fun T f (xs.map (·.val ρ))) := by
 rw [Er, Ev_call, stepT]
 simp only [gOn, if_true]
 cases Fun T f (xs.map (·.val ρ)) with
 | none => rfl
 | some ds =>
  simp only [Option.bind_some]
  split <;> rfl
theorem Er_callg (a : Atom) (w : Bool) (f : Nat) (xs : List Atom) (n : Nat) (os : List Atom) (k : Tm β) (ρ : List D) : Er T (.call (some (a, w)) f xs n os k) ρ = callT T f xs n os k ρ w (a.val ρ) := by
 rw [Er, Ev_call, callT, stepT]
 have : gOn ρ (some (a, w)) = gdR (a.val ρ) w := rfl
 rw [this]
 cases gdR (a.val ρ) w with
 | false => rfl
 | true =>
  simp only [if_true]
  cases Fun T f (xs.map (·.val ρ)) with
  | none => rfl
  | some ds =>
   simp only [Option.bind_some]
   split <;> rfl
theorem Er_ite (c : Atom) (t e : Tm β) (ρ : List D) : Er T (.ite c t e) ρ = iteT T t e ρ (c.val ρ) := by
 rw [Er, Ev_ite, iteT]
 cases c.val ρ with
 | bool b => cases b <;> rfl
 | _ => rfl
noncomputable def thenT (T : Nat -> Ent) (i : Nat) (k : Tm β) (ρ : List D) (r : Option (Kind × List D)) : Option (Kind × List D) := r.bind fun r => if r.1 = .yield i then Er T k (ρ ++ r.2) else some r
theorem thenT_same {i : Nat} {k : Tm β} {ρ ds : List D} : thenT T i k ρ (some (.yield i, ds)) = Er T k (ρ ++ ds) := by simp [thenT]
theorem thenT_ret {i : Nat} {k : Tm β} {ρ ds : List D} : thenT T i k ρ (some (.ret, ds)) = some (.ret, ds) := by simp [thenT]
theorem thenT_cont {i : Nat} {k : Tm β} {ρ ds : List D} : thenT T i k ρ (some (.cont, ds)) = some (.cont, ds) := by simp [thenT]
theorem thenT_ne {i j : Nat} {k : Tm β} {ρ ds : List D} (h : j ≠ i) : thenT T i k ρ (some (.yield j, ds)) = some (.yield j, ds) := by simp [thenT, h]
theorem Er_bind (i : Nat) (t k : Tm β) (ρ : List D) : Er T (.bind i t k) ρ = thenT T i k ρ (Er T t ρ) := by
 rw [Er, Ev_bind, thenT, Er]
 cases Ev T t ρ with
 | none => rfl
 | some o =>
  simp only [Option.bind_some, Option.map_some]
  split <;> rfl
theorem out_of {t : Tm β} {ρ : List D} {k : Kind} {ds : List D} (h : Er T t ρ = some (k, ds)) : ∃ o, Ev T t ρ = some o /\ o.kind = k /\ o.vals = ds := by
 unfold Er at h
 cases e : Ev T t ρ with
 | none => rw [e] at h; cases h
 | some o =>
  rw [e, Option.map_some] at h
  have := Option.some.inj h
  exact ⟨o, rfl, congrArg Prod.fst this, congrArg Prod.snd this⟩
theorem loopR {γ : Type} {body : Tm β} {ρ : List D} (m : γ -> Nat) (inv : γ -> Prop) (vs : γ -> List D) (Q : Kind × List D -> Prop)
  (h : ∀ c, inv c -> ∃ r, Er T body (ρ ++ vs c) = some r /\ (r.1 = .cont /\ (∃ c', inv c' /\ m c' < m c /\ r.2 = vs c') \/ r.1 ≠ .cont /\ Q r)) :
  ∀ (n : Nat) c, m c <= n -> inv c -> ∀ xs : List Atom, xs.map (·.val ρ) = vs c -> ∃ r, Er T (.loop xs body) ρ = some r /\ Q r := by
 have key : ∀ (n : Nat) c, m c <= n -> inv c -> ∃ o, Lp T body ρ (vs c) = some o /\ Q (o.kind, o.vals) := by
  intro n
  induction n with
  | zero =>
   intro c hm hc
   obtain ⟨⟨k, ds⟩, h1, h2⟩ := h c hc
   obtain ⟨o, h3, rfl, rfl⟩ := out_of h1
   rcases h2 with ⟨-, c', -, h5, -⟩ | ⟨h4, h5⟩
   ·omega
   ·exact ⟨o, by rw [Lp_eq, h3, Option.bind_some, if_neg h4], h5⟩
  | succ n ih =>
   intro c hm hc
   obtain ⟨⟨k, ds⟩, h1, h2⟩ := h c hc
   obtain ⟨o, h3, rfl, rfl⟩ := out_of h1
   rcases h2 with ⟨h4, c', h5, h6, h7⟩ | ⟨h4, h5⟩
   ·obtain ⟨o', h8, h9⟩ := ih c' (by omega) h5
    refine ⟨o', ?_, h9⟩
    rw [Lp_eq, h3, Option.bind_some, if_pos h4]
    show Lp T body ρ o.vals = _
    rw [show o.vals = vs c' from h7, h8]
   ·exact ⟨o, by rw [Lp_eq, h3, Option.bind_some, if_neg h4], h5⟩
 intro n c hm hc xs hx
 obtain ⟨o, h1, h2⟩ := key n c hm hc
 exact ⟨_, by rw [Er, Ev_loop, hx, h1, Option.map_some], h2⟩
end
end Go.Proofs.YtdpfilpckndhcaaGreatDoor.Rf

namespace Go.Proofs.YtdpfilpckndhcaaGreatDoor.Rf
set_option linter.unusedVariables false
set_option linter.unusedSimpArgs false
def allB (ok : Nat -> Bool) : Nat -> Bool
 | 0 => true
 | n + 1 => allB ok n && ok n
theorem allB_true {ok : Nat -> Bool} : ∀ {n : Nat}, allB ok n = true ↔ ∀ i, i < n -> ok i = true
 | 0 => by simp [allB]
 | n + 1 => by
  simp only [allB, Bool.and_eq_true, allB_true (n := n)]
  constructor
  ·rintro ⟨h1, h2⟩ i hi
   rcases Nat.lt_or_ge i n with h | h
   ·exact h1 i h
   ·obtain rfl : i = n := by omega
    exact h2
  ·exact fun h => ⟨fun i hi => h i (by omega), h n (by omega)⟩
theorem allB_false {ok : Nat -> Bool} {n : Nat} : allB ok n = false ↔ ∃ i, i < n /\ ok i = false := by
 constructor
 ·intro h
  apply Classical.byContradiction
  intro hn
  have : allB ok n = true := allB_true.2 fun i hi => by
   cases e : ok i with
   | true => rfl
   | false => exact absurd ⟨i, hi, e⟩ hn
  rw [this] at h; cases h
 ·rintro ⟨i, hi, h⟩
  cases e : allB ok n with
  | false => rfl
  | true => rw [allB_true.1 e i hi] at h; cases h
section
variable {T : Nat -> Ent} {β : Type}
end
theorem run_id {d : D} : Prim.id.run [d] = some [d] := rfl
def inR (x lo hi : Int) : Bool := decide (lo <= x) && decide (x <= hi)
end Go.Proofs.YtdpfilpckndhcaaGreatDoor.Rf

namespace Go.Proofs.YtdpfilpckndhcaaGreatDoor.Rf
set_option linter.unusedVariables false
set_option linter.unusedSimpArgs false
open Go.Proofs Go.Shelf Go.RowKit Go.Lib
section
variable {P : Program} {ρ : Ren}
set_option maxHeartbeats 2000000 in
set_option maxRecDepth 100000 in
theorem clone_empty (L : SlLaysE0.n41 P ρ) (i0 : TypeInfo) (z : Value) (size bytes : Nat) (hi : P.info? (ρ.t 23) = some i0) (hz0 : i0.zero = some z) (hz1 : i0.size = size) (hz2 : i0.bytes = bytes) (hzs : z.cells.size = size) (hsz : 0 < size)
  (z23 : ∀ w, (Go.sizeOf (ρ.t 23)).run P w = .ok size w) (a : Addr) (c : Nat) (w : World) :
  Calls P (ρ.f 41) #[.slice (some a) 0 c] w fun e w' => ∃ v', e = .returned v' /\ w'.ownsRow w.heap.size (ρ.t 23) size v' 0 [] /\ Below w.heap.size w w' := by
 have mixed := L.mixed; have t4 := L.t4; have a4 := L.a4; have z4 := L.z4; have v4 := L.v4; have t22 := L.t22; have a22 := L.a22; have z22 := L.z22; have v22 := L.v22
 have q22 : ∀ (w : World) (a : Option Addr) (n c n' c' : Nat), (binOp .eql (ρ.t 22) (.slice a n c) (.slice none n' c')).run P w = .ok (.bool a.isNone) w := fun w a n c n' c' => Lib.run_eql_slice_nil w _ _ a n c n' c' L.t22
 have u22 : ∀ w, Sem.run P (underlying (ρ.t 22)) w = .ok (TypeDesc.slice (ρ.t 23)) w := run_underlying t22
 obtain ⟨_, _, FG⟩ := L.f41
 go_enter FG, SlBodyN.n41_ntmps ρ
 go_wp2_with (at_builtin; refine wpList_append_own _ rfl _ _ (ρ.t 22) rfl w.heap.size (ρ.t 23) i0 z size bytes t22 hi hz0 hz1 hz2 hzs hsz _ _ _ rfl (World.ownsRow_made w #[] 0 (Nat.le_refl _) (Nat.zero_le _) (by simp)) a 0 c [] rfl ?qc1 ?qc2 ?qc3 ?qc4 ?qc5 ?qc6 ?_)
 case qc1 => simp
 case qc2 => intro j u hj; simp at hj
 case qc3 => intro u hu; cases hu
 case qc4 => exact Nat.zero_le _
 case qc5 => simp
 case qc6 => simp
 intro v' w1 hown hgrow hnil
 go_wp2
 go_ret
 exact ⟨v', rfl, by simpa using hown, ((Below.refl _ w).alloc (Nat.le_refl _) _).grown hgrow (by simp) (by intro k hk; simp [Value.ownBlock] at hk; omega)⟩
theorem frameOk_refl {s : Sig} {G : Gh} {w : World} {vals : List Value} {ds : List D} (h : CPre s vals w G ds) (hb : s.boxes = []) : FrameOk (callF s G w) G w :=
 ⟨rfl, rfl, rfl, Nat.le_refl _, fun b _ _ => ⟨rfl, rfl⟩, fun b j hj he => by
  obtain ⟨h1, -⟩ := h.cells b j hj he
  rw [hb] at h1
  exact absurd h1 (Nat.not_lt_zero _), h.fresh⟩
theorem frameOk_below {s : Sig} {G : Gh} {w w' : World} {vals : List Value} {ds : List D} {own' : Nat -> Ow} (h : CPre s vals w G ds) (hb : s.boxes = []) (hbel : Below w.heap.size w w') (h1 : ∀ b, b < w.heap.size -> own' b = G.own b) (h2 : ∀ b, w'.heap.size <= b -> own' b = .frz) :
  FrameOk (callF s G w) { G with own := own' } w' :=
 ⟨hbel.os, hbel.tape, hbel.output, hbel.size, fun b hlt _ => ⟨hbel.block b hlt, h1 b hlt⟩, fun b j hj he => by
  obtain ⟨h1, -⟩ := h.cells b j hj he
  rw [hb] at h1
  exact absurd h1 (Nat.not_lt_zero _), h2⟩
theorem clone_ok (L : SlLaysE0.n41 P ρ) {i0 : TypeInfo} {z : Value} {size bytes m key : Nat} {T1 : Nat -> Ent} (hi : P.info? (ρ.t 23) = some i0) (hz0 : i0.zero = some z) (hz1 : i0.size = size) (hz2 : i0.bytes = bytes) (hzs : z.cells.size = size) (hsz : 0 < size)
  (z23 : ∀ w, (Go.sizeOf (ρ.t 23)).run P w = .ok size w) (hK : ∀ n, Contract P T1 n key ⟨ρ.f 41, [(false, [.fz false])], [], [(false, [.ow (m + 1)])]⟩) :
  ExtOk P ⟨ρ.f 41, [(false, [.fz false])], [], [(false, [.ow (m + 1)])]⟩ (fun ds => match ds with
   | [.rows _ []] => some [.rows size []]
   | ds => Fun T1 key ds) := by
 intro vals w G ds ds' hpre he
 by_cases hds : ∃ sz, ds = [.rows sz []]
 ·obtain ⟨sz, rfl⟩ := hds
  simp only [Option.some.injEq] at he
  subst he
  obtain ⟨u, us, vs, rfl, ⟨v, vs', rfl, ⟨hrd, -⟩, rfl⟩, hsh, hnil⟩ := hpre.params
  simp only [Bool.false_eq_true, if_false] at hsh
  obtain rfl : v = u := by simpa using hsh
  simp only [EntParams] at hnil
  subst hnil
  have hrd' : Rd (fun b => G.own b = .frz) w v (.rows sz []) := hrd
  obtain ⟨A, a, n, c, vs, rfl, hn, hc, -, -⟩ := hrd'.inv
  obtain rfl : n = 0 := hn.symm
  obtain ⟨nm, hnm, hfn⟩ := L.f41
  refine .inl ⟨run_callFunc hfn hnm rfl _ _, ?_⟩
  cases A with
  | none =>
   refine Calls.mono (AnyE.slices_Clone_nil L 0 c w) fun e w' ⟨h1, h2⟩ => ?_
   subst h1; subst h2
   refine ⟨G, [.slice none 0 0], rfl, frameOk_refl hpre rfl, ⟨_, _, _, rfl, ⟨_, _, rfl, ?_, rfl⟩, rfl, rfl⟩, trivial, trivial⟩
   exact .sl none ⟨0, 0, none⟩ 0 0 _ [] (fun _ _ => undef) rfl (Nat.le_refl _) (.inr ⟨rfl, rfl⟩) (by simp) (fun e => by cases e) (by simp) (by simp)
  | some a' =>
   refine Calls.mono (clone_empty L i0 z size bytes hi hz0 hz1 hz2 hzs hsz z23 a' c w) fun e w' ⟨v', h1, h2, h3⟩ => ?_
   subst h1
   rcases h2.2 with ⟨rfl, -⟩ | ⟨g, cap, cur, rfl, hg, hcell, -, -, hcur, -⟩
   ·refine ⟨{ G with own := G.own }, [.slice none 0 0], rfl, frameOk_below hpre rfl h3 (fun _ _ => rfl) (fun b hb => hpre.fresh b (Nat.le_trans h3.size hb)), ⟨_, _, _, rfl, ⟨_, _, rfl, ?_, rfl⟩, rfl, rfl⟩, trivial, trivial⟩
    exact .sl none ⟨0, 0, none⟩ 0 0 _ [] (fun _ _ => undef) rfl (Nat.le_refl _) (.inr ⟨rfl, rfl⟩) (by simp) (fun e => by cases e) (by simp) (by simp)
   ·have hlt : g < w'.heap.size := (Array.getElem?_eq_some_iff.1 hcell).1
    refine ⟨{ G with own := fun b => if b = g then .slc 0 [] else G.own b }, [.slice (some ⟨g, 0, none⟩) 0 cap], rfl, frameOk_below hpre rfl h3 (fun b hb => if_neg (by omega)) (fun b hb => ?_), ⟨_, _, _, rfl, ⟨_, _, rfl, ?_, rfl⟩, rfl, rfl⟩, trivial, trivial⟩
    ·show (if b = g then _ else _) = _
     rw [if_neg (by omega)]
     exact hpre.fresh b (Nat.le_trans h3.size hb)
    ·refine .sl (some ⟨g, 0, none⟩) ⟨g, 0, none⟩ 0 cap _ [] (fun _ _ => undef) rfl (Nat.zero_le _) (.inl rfl) (by simp) (fun _ => ⟨rfl, if_pos rfl, fun k hk => ?_⟩) (by simp) (by simp)
     have hk' : k < cur.size := by omega
     refine ⟨cur[k], ?_, ?_⟩
     ·have hb : ((⟨g, 0, none⟩ : Addr).add k).block = g := add_block _ _
      have ho : ((⟨g, 0, none⟩ : Addr).add k) = ⟨g, k, none⟩ := by unfold Addr.add; split <;> simp_all
      rw [ho]
      simp [World.cell?, hcell, hk']
     ·have ho : ((⟨g, 0, none⟩ : Addr).add k) = ⟨g, k, none⟩ := by unfold Addr.add; split <;> simp_all
      rw [ho]
      simp [World.frozen?, hcell]
 ·have he' : Fun T1 key ds = some ds' := by
   dsimp only at he
   split at he
   ·rename_i sz
    exact absurd ⟨sz, rfl⟩ hds
   ·exact he
  obtain ⟨n, hn⟩ := Fun_some.1 he'
  exact hK n vals w G ds ds' hpre hn
def cloneSize (P : Program) (t : TypeId) : Option Nat := match P.info? t with
 | some i => match i.zero with
  | some z => if z.cells.size = i.size /\ 0 < i.size then some i.size else none
  | none => none
 | none => none
noncomputable def cloneE (size : Nat) (T1 : Nat -> Ent) (key : Nat) : List D -> Option (List D) := fun ds => match ds with
 | [.rows _ []] => some [.rows size []]
 | ds => Fun T1 key ds
theorem clone_ent (L : SlLaysE0.n41 P ρ) {size m key f : Nat} {T T1 : Nat -> Ent} {ti : Nat -> Option TI} {sigs : List (Nat × Sig)} (hf : ρ.f 41 = f) (h : cloneSize P (ρ.t 23) = some size) (z23 : ∀ w, (Go.sizeOf (ρ.t 23)).run P w = .ok size w)
  (hK : ∀ n, Contract P T1 n key ⟨f, [(false, [.fz false])], [], [(false, [.ow (m + 1)])]⟩) (hT : T key = .ext (cloneE size T1 key)) :
  FnOk P T ti sigs key ⟨f, [(false, [.fz false])], [], [(false, [.ow (m + 1)])]⟩ := by
 subst hf
 unfold cloneSize at h
 split at h
 ·rename_i i hi
  split at h
  ·rename_i z hz
   split at h
   ·rename_i h1
    cases h
    exact .inr ⟨_, hT, clone_ok L hi hz rfl rfl h1.1 h1.2 z23 hK⟩
   ·cases h
  ·cases h
 ·cases h
end
end Go.Proofs.YtdpfilpckndhcaaGreatDoor.Rf

namespace Go.Proofs.YtdpfilpckndhcaaGreatDoor.Rf
set_option linter.unusedVariables false
set_option linter.unusedSimpArgs false
open Go.RowKit
section
variable {P : Program}
end
end Go.Proofs.YtdpfilpckndhcaaGreatDoor.Rf

namespace Go.Proofs.YtdpfilpckndhcaaGreatDoor.Rf
set_option linter.unusedVariables false
set_option linter.unusedSimpArgs false
section
variable {P : Program}
def cntOf (l : List UInt8) (c : Int) : Int := (l.count c.toNat.toUInt8 : Nat)
def ixOf (l : List UInt8) (c : Int) : Int := Lib.indexByte l c.toNat.toUInt8
def cntE : List D -> Option (List D)
 | [.str l, .int .u8 c] => some [.int .i64 (cntOf l c)]
 | _ => none
def ixE : List D -> Option (List D)
 | [.str l, .int .u8 c] => some [.int .i64 (ixOf l c)]
 | _ => none
def leafSig (f : Nat) : Sig := ⟨f, [(false, [.sc]), (false, [.sc])], [], [(false, [.sc])]⟩
theorem leaf_ok {f : Nat} {g : List UInt8 -> Int -> Int} (h : ∀ (s : ByteArray) (c : Int) w, (callFunc f #[.string s, .int .u8 c]).run P w = .ok (.value (.int .i64 (g s.data.toList c))) w) (e : List D -> Option (List D))
  (he : ∀ ds ds', e ds = some ds' -> ∃ l c, ds = [.str l, .int .u8 c] /\ ds' = [.int .i64 (g l c)]) : ExtOk P (leafSig f) e := by
 intro vals w G ds ds' hpre hr
 obtain ⟨l, c, rfl, rfl⟩ := he _ _ hr
 obtain ⟨u, us, vs, rfl, ⟨v, vs', rfl, hs1, rfl⟩, hsh, u2, us2, vs2, rfl, ⟨v2, vs3, rfl, hsc, rfl⟩, hsh2, hnil⟩ := hpre.params
 simp only [Bool.false_eq_true, if_false] at hsh hsh2
 obtain rfl : v = u := by simpa using hsh
 obtain rfl : v2 = u2 := by simpa using hsh2
 simp only [EntParams] at hnil
 subst hnil
 have hs1' : Sc v (.str l) := hs1
 have hsc' : Sc v2 (.int .u8 c) := hsc
 obtain rfl : v = .string ⟨l.toArray⟩ := by cases hs1'; rfl
 obtain rfl : v2 = .int .u8 c := by cases hsc'; rfl
 refine .inr ⟨_, w, h ⟨l.toArray⟩ c w, ?_⟩
 exact ⟨G, [.int .i64 (g l c)], rfl, frameOk_refl hpre rfl, ⟨_, _, _, rfl, ⟨_, _, rfl, .int _ _, rfl⟩, rfl, rfl⟩, trivial, trivial⟩
theorem cnt_ent {f key : Nat} {T : Nat -> Ent} {ti : Nat -> Option TI} {sigs : List (Nat × Sig)} (h : ∀ (s : ByteArray) (c : Int) w, (callFunc f #[.string s, .int .u8 c]).run P w = .ok (.value (.int .i64 (Lib.countByte s.data.toList c.toNat.toUInt8 : Nat))) w) (hT : T key = .ext cntE) : FnOk P T ti sigs key (leafSig f) :=
 .inr ⟨_, hT, leaf_ok (g := cntOf) h _ (fun ds ds' he => by
  unfold cntE at he
  split at he
  ·exact ⟨_, _, rfl, (Option.some.inj he).symm⟩
  ·cases he)⟩
theorem ix_ent {f key : Nat} {T : Nat -> Ent} {ti : Nat -> Option TI} {sigs : List (Nat × Sig)} (h : ∀ (s : ByteArray) (c : Int) w, (callFunc f #[.string s, .int .u8 c]).run P w = .ok (.value (.int .i64 (Lib.indexByte s.data.toList c.toNat.toUInt8))) w) (hT : T key = .ext ixE) : FnOk P T ti sigs key (leafSig f) :=
 .inr ⟨_, hT, leaf_ok (g := ixOf) h _ (fun ds ds' he => by
  unfold ixE at he
  split at he
  ·exact ⟨_, _, rfl, (Option.some.inj he).symm⟩
  ·cases he)⟩
end
end Go.Proofs.YtdpfilpckndhcaaGreatDoor.Rf

namespace Go.Proofs.YtdpfilpckndhcaaGreatDoor.Rf
set_option linter.unusedVariables false
set_option linter.unusedSimpArgs false
open Go.ChangeShapes Go.RowKit in
theorem law_laidX {C : Checked} {XG : (Nat -> Ow) -> World -> Prop} {X : World -> Array Value -> Prop} {spec : ChangeSpec} {T : Nat -> Ent} {key : Nat} {s : Sig} {fn : Func} {c : Code} {conds : List PathCond} (hX : ∀ (w w' : World) (args : Array Value), w.heap = w'.heap -> X w args -> X w' args) (own : ownKnob C.prog.godebug = none) (laid : laidOutB C.prog = true) (hXG : ∀ w args, X w args -> XG (fun _ => .frz) w) (hc : ∀ n, ContractX C.prog XG T n key s) (hfn : C.prog.funcs[s.fn]? = some fn) (hname : (fn.name == "runtime.NumGoroutine") = false) (hbody : fn.body = some c)
  {tys : List Ty} (hpar : lawParams C.prog fn.params.toList = some (s.params, tys)) (hbx : s.boxes = []) (hres : s.results = [(false, [.sc])]) (hpure : ∀ ds, WTs tys ds -> ∃ n, callN T n key ds = some [.bool true])
  (hread : (fn.params.toList.all fun t => C.prog.readableRec t && decide (t < C.prog.types.size)) = true) {rt : TypeId} (hrt : fn.resultTypes = #[rt]) (hrb : C.prog.underlying rt = some .bool)
  (hvars : spec.vars = []) (hspec : ∀ (H : Type) (ds : List (DataW H)), ds.length = fn.params.size -> spec.fn H ds = { results := [.lit (.bool true)], args := ds, vars := [] }) (hinit : C.prog.inits.idxOf? s.fn = none)
  (os : Os) (started : os.Started) (H : Type) (enc : TypeId × Value -> H)
  (witness : ∃ (w : World) (tape : Tape) (i : Input), w.os = os /\ (w.forCall tape i).Shaped C.prog /\ i.vars = [] /\ Input.okWide C.prog (w.forCall tape i) .any w.heap.size s.fn i /\
   ((spec.pre enc C.prog fn conds false (w.forCall tape i).memory i.args /\ X (w.forCall tape i).memory i.args) /\ sizedMet enc C.prog fn (OpenSpec.ofChange spec) false (w.forCall tape i).memory i.args) /\ ({} : Assume).holds C.prog (lone (Frame.enter C.prog s.fn i.args .normal) [] (w.forCall tape i))) :
  ReturnsInHanded {} C os s.fn .any (fun w args => (spec.pre enc C.prog fn conds false w args /\ X w args) /\ sizedMet enc C.prog fn (OpenSpec.ofChange spec) false w args) (spec.post enc C.prog fn false true false false) := by
 refine returnsInHanded_of_change_and hX own started hinit hfn witness ?_
 intro W base args ds gs before hval hW _ hsz hx _
 have hW' := hW
 obtain ⟨p, q, hA, hV, rfl, hfz, hnd⟩ := hW
 rw [hvars] at hV
 obtain ⟨rfl, rfl⟩ := trodVars_none hV
 have hvt : spec.plain.varTypes C.prog = [] := by
  simp [ChangeSpec.plain, DataSpec.varTypes, hvars]
 rw [hvt, List.append_nil, List.append_nil] at hsz
 have hlen : ∀ {ts : List TypeId} {vs : List Value} {ds : List (DataW H)} {ps : List MemPlace}, DataW.TrodAll enc C.prog W 0 (fun _ => true) true ts vs ds ps -> ds.length = ts.length := by
  intro ts
  induction ts with
  | nil =>
   intro vs ds ps h
   cases vs <;> cases ds <;> first | rfl | exact h.elim
  | cons t ts ih =>
   intro vs ds ps h
   cases vs <;> cases ds <;> first | exact h.elim | skip
   obtain ⟨p, q, -, h2, -⟩ := h
   simp [ih h2]
 have hl := hlen hA
 refine (law_callsX hc hfn hname hbody hpar hbx hres hpure hval hA (fun m hm => ?_) (hXG _ _ hx)).mono fun e W' ⟨he, bel⟩ => ?_
 ·rw [List.all_eq_true] at hsz
  simpa using hsz m hm
 ·subst he
  have hsp := hspec H (ds ++ []) (by simpa using hl)
  refine ⟨_, rfl, ds, [], _, [], p, [], hW', ?_, ?_, ?_, bel.frame _, fun h => by cases h⟩
  ·rw [hsp, hrt]
   exact trodAll_mk1 (shut_bool hrb _)
  ·rw [hsp]
   simp only [List.append_nil]
   exact trodAll_below laid bel hread hA
  ·rw [hsp, hvars]
   rfl
end Go.Proofs.YtdpfilpckndhcaaGreatDoor.Rf

namespace Go.Proofs.YtdpfilpckndhcaaGreatDoor.Rf
set_option linter.unusedVariables false
set_option linter.unusedSimpArgs false
open Go.Proofs Go.Shelf Go.RowKit Go.Lib
section
variable {P : Program} {ρ : Ren}
def strsOf : List (List D) -> Option (List (List UInt8))
 | [] => some []
 | [.str s] :: r => (strsOf r).map (s :: ·)
 | _ => none
def joinE : List D -> Option (List D)
 | [.rows _ rs, .str sep] => (strsOf rs).bind fun xs => if xs ≠ [] /\ xs.length <= 140737488355328 /\ (Lib.join xs sep).length <= 140737488355328 then some [.str (Lib.join xs sep)] else none
 | _ => none
theorem strsOf_get : ∀ {rs : List (List D)} {xs : List (List UInt8)}, strsOf rs = some xs -> xs.length = rs.length /\ ∀ (i : Nat) (s : List UInt8), xs[i]? = some s -> rs[i]? = some [D.str s]
 | [], xs, h => by
  obtain rfl := Option.some.inj h
  exact ⟨rfl, fun i s hi => by simp at hi⟩
 | r :: rs, xs, h => by
  unfold strsOf at h
  split at h
  ·rename_i he; cases he
  ·rename_i s r' he
   obtain ⟨rfl, rfl⟩ := List.cons.inj he
   rw [Option.map_eq_some_iff] at h
   obtain ⟨ys, h1, rfl⟩ := h
   obtain ⟨h2, h3⟩ := strsOf_get h1
   refine ⟨by simp [h2], fun i t hi => ?_⟩
   cases i with
   | zero =>
    simp only [List.getElem?_cons_zero, Option.some.injEq] at hi ⊢
    rw [hi]
   | succ i =>
    simp only [List.getElem?_cons_succ] at hi ⊢
    exact h3 i t hi
  ·cases h
theorem cell_spot {w : World} {a : Addr} {v : Value} (h : w.cell? (a.add 0) = some v) : a = ⟨a.block, a.off, none⟩ /\ a.block < w.heap.size := by
 have e : a.add 0 = a := if_pos rfl
 rw [e] at h
 unfold World.cell? at h
 split at h
 ·rename_i c t f hb
  split at h
  ·cases h
  ·rename_i hs
   refine ⟨?_, (Array.getElem?_eq_some_iff.1 hb).1⟩
   cases a with
   | mk b o s =>
    cases s with
    | none => rfl
    | some x => simp at hs
 ·cases h
def joinSig (f : Nat) : Sig := ⟨f, [(false, [.fz false]), (false, [.sc])], [], [(false, [.sc])]⟩
theorem join_ok (L : Lays.n156 P ρ) (X : Builder.Extra P ρ) : ExtOk P (joinSig (ρ.f 156)) joinE := by
 intro vals w G ds ds' hpre hr
 unfold joinE at hr
 split at hr
 case h_2 => cases hr
 rename_i sz rs sep
 rw [Option.bind_eq_some_iff] at hr
 obtain ⟨xs, hxs, hr⟩ := hr
 split at hr
 case isFalse => cases hr
 rename_i hc
 obtain rfl := Option.some.inj hr
 obtain ⟨hne, hN, hlen⟩ := hc
 obtain ⟨u, us, vs, rfl, ⟨v, vs', rfl, ⟨hrd, -⟩, rfl⟩, hsh, u2, us2, vs2, rfl, ⟨v2, vs3, rfl, hsc, rfl⟩, hsh2, hnil⟩ := hpre.params
 simp only [Bool.false_eq_true, if_false] at hsh hsh2
 obtain rfl : v = u := by simpa using hsh
 obtain rfl : v2 = u2 := by simpa using hsh2
 simp only [EntParams] at hnil
 subst hnil
 have hrd' : Rd (fun b => G.own b = .frz) w v (.rows sz rs) := hrd
 have hsc' : Sc v2 (.str sep) := hsc
 obtain rfl : v2 = .string ⟨sep.toArray⟩ := by cases hsc'; rfl
 obtain ⟨A, a, n, c, cv, rfl, hn, hcap, hA, hsz, hcell, hrec⟩ := hrd'.inv
 obtain ⟨hxl, hxg⟩ := strsOf_get hxs
 have hpos : 0 < xs.length := List.length_pos_iff.2 hne
 have hr0 := hxg 0 xs[0] (by rw [List.getElem?_eq_getElem hpos])
 have hsz1 : sz = 1 := by
  have := hsz _ (List.mem_of_getElem? hr0)
  simpa using this.symm
 subst hsz1
 obtain rfl : A = some a := hA.resolve_left (by omega)
 have hc0 := (hcell 0 _ hr0 0 (.str xs[0]) rfl).2
 obtain ⟨ea, hblk⟩ := cell_spot (by simpa using hc0)
 have hadd : ∀ j, a.add j = ⟨a.block, a.off + j, none⟩ := by
  intro j
  rw [ea]
  unfold Addr.add
  split
  ·rename_i h0; subst h0; rfl
  ·rfl
 have hcells : ∀ (j : Nat) (x : ByteArray), (xs.map fun s => (⟨s.toArray⟩ : ByteArray))[j]? = some x -> w.cell? ⟨a.block, a.off + j, none⟩ = some (.string x) := by
  intro j x hj
  rw [List.getElem?_map, Option.map_eq_some_iff] at hj
  obtain ⟨s, hs, rfl⟩ := hj
  have h1 := hxg j s hs
  have h2 := (hcell j _ h1 0 (.str s) rfl).2
  rw [Nat.mul_one, Nat.add_zero, hadd] at h2
  rw [h2]
  have h3 : Rd (fun b => G.own b = .frz) w (cv j 0) (.str s) := hrec j _ h1 0 (.str s) rfl
  revert h3
  generalize cv j 0 = x
  intro h3
  cases h3 with
  | sc h => cases h; rfl
 have hmap : (xs.map fun s => (⟨s.toArray⟩ : ByteArray)).map (·.data.toList) = xs := by
  rw [List.map_map]
  conv => rhs; rw [<- List.map_id xs]
  exact List.map_congr_left fun s _ => by simp
 have hJ := Any.strings_Join L X a.block a.off c (xs.map fun s => (⟨s.toArray⟩ : ByteArray)) ⟨sep.toArray⟩ w hcells hblk (by simpa using hN) (by rw [List.length_map]; omega) (by rw [hmap]; simpa using hlen)
 rw [hmap, List.length_map, hxl, hn, <- ea] at hJ
 refine .inl ⟨run_callFunc L.f156 rfl rfl _ _, ?_⟩
 refine Calls.mono hJ fun e w' ⟨h1, h2⟩ => ?_
 subst h1
 refine ⟨{ G with own := G.own }, [.string ⟨(Lib.join xs sep).toArray⟩], rfl, frameOk_below hpre rfl h2 (fun _ _ => rfl) (fun b hb => hpre.fresh b (Nat.le_trans h2.size hb)), ⟨_, _, _, rfl, ⟨_, _, rfl, .str _, rfl⟩, rfl, rfl⟩, trivial, trivial⟩
def tabName : String := "internal/strconv.uint64pow10"
def pow10X (P : Program) : (Nat -> Ow) -> World -> Prop := fun own w => ∃ b, P.globalNamed tabName = some b /\ b < w.heap.size /\ own b = .frz /\ Lib.TabIs P w tabName .u64 Lib.pow10Tab
theorem pow10X_stable : Stable (pow10X P) := by
 rintro own0 w0 own w hs hk ⟨b, h1, h2, h3, h4⟩
 obtain ⟨h5, h6⟩ := hk b h2 h3
 refine ⟨b, h1, Nat.lt_of_lt_of_le h2 hs, h6, ?_⟩
 unfold Lib.TabIs World.var? at h4 ⊢
 rw [h1, Option.bind_some] at h4 ⊢
 rw [h5]
 exact h4
def fmtE : List D -> Option (List D)
 | [.int .i64 n, .int .i64 b] => if b = 10 /\ -9223372036854775808 <= n /\ n <= 9223372036854775807 then some [.str (Lib.itoa n)] else none
 | _ => none
theorem fmt_ok (L : LaysM.n246 P ρ) : ExtOkX P (pow10X P) (leafSig (ρ.f 246)) fmtE := by
 intro vals w G ds ds' hpre hX hr
 unfold fmtE at hr
 split at hr
 case h_2 => cases hr
 rename_i n b
 split at hr
 case isFalse => cases hr
 rename_i hc
 obtain ⟨rfl, hn0, hn1⟩ := hc
 obtain rfl := Option.some.inj hr
 obtain ⟨u, us, vs, rfl, ⟨v, vs', rfl, hs1, rfl⟩, hsh, u2, us2, vs2, rfl, ⟨v2, vs3, rfl, hsc, rfl⟩, hsh2, hnil⟩ := hpre.params
 simp only [Bool.false_eq_true, if_false] at hsh hsh2
 obtain rfl : v = u := by simpa using hsh
 obtain rfl : v2 = u2 := by simpa using hsh2
 simp only [EntParams] at hnil
 subst hnil
 have hs1' : Sc v (.int .i64 n) := hs1
 have hsc' : Sc v2 (.int .i64 10) := hsc
 obtain rfl : v = .int .i64 n := by cases hs1'; rfl
 obtain rfl : v2 = .int .i64 10 := by cases hsc'; rfl
 obtain ⟨b, -, -, -, htab⟩ := hX
 have hF := Any.internal_strconv_FormatInt_10 L n hn0 hn1 w htab
 refine .inl ⟨run_callFunc L.f246 rfl rfl _ _, ?_⟩
 refine Calls.mono hF fun e w' ⟨h1, k, os, h2⟩ => ?_
 subst h1
 have hb : Below w.heap.size w w' := by rw [h2]; exact below_grow _ _ (Nat.le_refl _) _ _
 refine ⟨{ G with own := G.own }, [.string ⟨(Lib.itoa n).toArray⟩], rfl, frameOk_below hpre rfl hb (fun _ _ => rfl) (fun b hb' => hpre.fresh b (Nat.le_trans hb.size hb')), ⟨_, _, _, rfl, ⟨_, _, rfl, .str _, rfl⟩, rfl, rfl⟩, trivial, trivial⟩
theorem laid_tab {W : World} {name : String} {k : IntKind} {zs : List Int} {g : Nat} {t e : TypeId} {n : Nat}
  (hg : P.globalNamed name = some g) (hty : (P.globals[g]?).map (·.type) = some t) (ht : P.underlying t = some (.array n e)) (he : P.underlying e = some (.int k)) (hce : P.cellsOf e = 1) (hct : P.cellsOf t = n) :
  ∀ {l : List (String × DataW Unit)} {ps : List MemPlace}, DataW.LaidVars P W l ps -> (name, Lib.tabData k zs) ∈ l -> Lib.TabIs P W name k zs
 | [], _, _, hm => by cases hm
 | (nm, d) :: rest, ps, h, hm => by
  obtain ⟨g', t', cs, fuel, p, q, hg', ht', hvar, hd, hs, _⟩ := h
  rcases List.mem_cons.1 hm with e | hm
  ·obtain ⟨e1, e2⟩ := Prod.mk.inj e
   subst e1; subst e2
   obtain rfl := Option.some.inj (hg.symm.trans hg')
   obtain rfl := Option.some.inj (hty.symm.trans ht')
   unfold Lib.TabIs
   rw [hvar, <- Lib.cells_of_tab ht he hce hct hd]
  ·exact laid_tab hg hty ht he hce hct hs hm
theorem pow10_of {W : World} {g : Nat} {t e : TypeId} {n : Nat}
  (hg : P.globalNamed tabName = some g) (hty : (P.globals[g]?).map (·.type) = some t) (ht : P.underlying t = some (.array n e)) (he : P.underlying e = some (.int .u64)) (hce : P.cellsOf e = 1) (hct : P.cellsOf t = n)
  {l : List (String × DataW Unit)} (h : laidMet P l W) (hm : (tabName, Lib.tabData .u64 Lib.pow10Tab) ∈ l) : pow10X P (fun _ => .frz) W := by
 obtain ⟨ps, h1, -⟩ := h
 have htab := laid_tab hg hty ht he hce hct h1 hm
 refine ⟨g, hg, ?_, rfl, htab⟩
 unfold Lib.TabIs World.var? at htab
 rw [hg, Option.bind_some] at htab
 split at htab
 ·rename_i c t' f hb
  exact (Array.getElem?_eq_some_iff.1 hb).1
 ·cases htab
theorem fcX {X : (Nat -> Ow) -> World -> Prop} {T : Nat -> Ent} {ti : Nat -> Option TI} {sigs : List (Nat × Sig)} {a : Nat × Sig} {l : List (Nat × Sig)} (h : FnOk P T ti sigs a.1 a.2) (h' : ∀ x ∈ l, FnOkX P X T ti sigs x.1 x.2) : ∀ x ∈ a :: l, FnOkX P X T ti sigs x.1 x.2 := List.forall_mem_cons.2 ⟨h.toX, h'⟩
theorem fnOkX_all {X : (Nat -> Ow) -> World -> Prop} {T : Nat -> Ent} {ti : Nat -> Option TI} {sigs : List (Nat × Sig)} (h : ∀ p ∈ sigs, FnOkX P X T ti sigs p.1 p.2) : ∀ key s, (key, s) ∈ sigs -> FnOkX P X T ti sigs key s := fun key s hm => h (key, s) hm
end
end Go.Proofs.YtdpfilpckndhcaaGreatDoor.Rf

namespace Go.Proofs.YtdpfilpckndhcaaGreatDoor.Rf
set_option linter.unusedVariables false
set_option linter.unusedSimpArgs false
class Enc (α : Type) where
 sz : Nat
 enc : α -> List D
 len : ∀ a, (enc a).length = sz
instance : Enc Int := ⟨1, fun n => [i64 n], fun _ => rfl⟩
instance : Enc Bool := ⟨1, fun b => [.bool b], fun _ => rfl⟩
instance : Enc (List UInt8) := ⟨1, fun s => [.str s], fun _ => rfl⟩
def rL {α : Type} [Enc α] (xs : List α) : D := .rows (Enc.sz α) (xs.map Enc.enc)
instance {α : Type} [Enc α] : Enc (List α) := ⟨1, fun xs => [rL xs], fun _ => rfl⟩
def InB {α : Type} (xs : List α) (k : Int) : Prop := 0 <= k /\ k < xs.length
def atI {α : Type} [Inhabited α] (xs : List α) (k : Int) : α := xs.getD k.toNat default
def setI {α : Type} (xs : List α) (k : Int) (a : α) : List α := xs.set k.toNat a
theorem InB_nat {α : Type} {xs : List α} {i : Nat} : InB xs (i : Int) ↔ i < xs.length := by unfold InB; omega
theorem atI_nat {α : Type} [Inhabited α] {xs : List α} {i : Nat} : atI xs (i : Int) = xs.getD i default := rfl
theorem atI_get {α : Type} [Inhabited α] {xs : List α} {i : Nat} (h : i < xs.length) : atI xs (i : Int) = xs[i] := by
 rw [atI_nat, List.getD_eq_getElem?_getD, List.getElem?_eq_getElem h]; rfl
theorem InB.lt {α : Type} {xs : List α} {k : Int} (h : InB xs k) : k.toNat < xs.length := by unfold InB at h; omega
def tick : Nat := 0
def tock : Nat := 0
def forkT {γ : Type} (c : Bool) (a b : γ) : γ := match c with
 | true => a
 | false => b
theorem forkT_true {γ : Type} {a b : γ} : forkT true a b = a := rfl
theorem forkT_false {γ : Type} {a b : γ} : forkT false a b = b := rfl
@[congr] theorem forkT_congr {γ : Type} {c c' : Bool} {a b : γ} (h : c = c') {dd : Nat} (hd : tick = dd) : forkT c a b = forkT c' a b := by rw [h]
theorem fork_eq {γ : Type} {c : Bool} {a b r : γ} (h1 : c = true -> a = r) (h2 : c = false -> b = r) : forkT c a b = r := by
 cases c with
 | true => exact h1 rfl
 | false => exact h2 rfl
section
variable {T : Nat -> Ent} {β : Type}
@[congr] theorem Er_congr {t : Tm β} {ρ ρ' : List D} (h : ρ = ρ') {dd : Nat} (hd : tick = dd) : Er T t ρ = Er T t ρ' := by rw [h]
@[congr] theorem stepT_congr {k : Tm β} {ρ ρ' : List D} {n : Nat} {a a' : Option (List D)} (h : ρ = ρ') (h2 : a = a') {dd : Nat} (hd : tick = dd) : stepT T k ρ n a = stepT T k ρ' n a' := by rw [h, h2]
@[congr] theorem thenT_congr {i : Nat} {k : Tm β} {ρ ρ' : List D} {r r' : Option (Kind × List D)} (h : ρ = ρ') (h2 : r = r') {dd : Nat} (hd : tick = dd) : thenT T i k ρ r = thenT T i k ρ' r' := by rw [h, h2]
@[congr] theorem run_congr {p : Prim} {xs xs' : List D} (h : xs = xs') {dd : Nat} (hd : tick = dd) : p.run xs = p.run xs' := by rw [h]
def nth : List D -> Nat -> D
 | [], _ => .undef
 | a :: _, 0 => a
 | _ :: r, n + 1 => nth r n
theorem nth_0 {a : D} {r : List D} : nth (a :: r) 0 = a := rfl
theorem nth_s {a : D} {r : List D} {n : Nat} : nth (a :: r) (n + 1) = nth r n := rfl
theorem nth_getD (r : List D) (n : Nat) : r.getD n .undef = nth r n := by
 induction r generalizing n with
 | nil => rfl
 | cons a r ih => cases n with
  | zero => rfl
  | succ n => exact ih n
def vals (ρ : List D) : List Atom -> List D
 | [] => []
 | .v i :: r => nth ρ i :: vals ρ r
 | .c d :: r => d :: vals ρ r
@[congr] theorem vals_congr {ρ ρ' : List D} {xs : List Atom} (h : ρ = ρ') {dd : Nat} (hd : tick = dd) : vals ρ xs = vals ρ' xs := by rw [h]
theorem vals_map (ρ : List D) (xs : List Atom) : xs.map (·.val ρ) = vals ρ xs := by
 induction xs with
 | nil => rfl
 | cons x xs ih =>
  rw [List.map_cons, ih]
  cases x with
  | v i => show ρ.getD i .undef :: _ = _; rw [nth_getD]; rfl
  | c d => rfl
theorem vals_n {ρ : List D} : vals ρ [] = [] := rfl
theorem vals_v {ρ : List D} {i : Nat} {r : List Atom} : vals ρ (.v i :: r) = nth ρ i :: vals ρ r := rfl
theorem vals_c {ρ : List D} {d : D} {r : List Atom} : vals ρ (.c d :: r) = d :: vals ρ r := rfl
def val1 (ρ : List D) : Atom -> D
 | .v i => nth ρ i
 | .c d => d
theorem val1_v {ρ : List D} {i : Nat} : val1 ρ (.v i) = nth ρ i := rfl
theorem val1_c {ρ : List D} {d : D} : val1 ρ (.c d) = d := rfl
theorem val_val1 (ρ : List D) (a : Atom) : a.val ρ = val1 ρ a := by
 cases a with
 | v i => exact nth_getD ρ i
 | c d => rfl
@[congr] theorem val1_congr {ρ ρ' : List D} {a : Atom} (h : ρ = ρ') {dd : Nat} (hd : tick = dd) : val1 ρ a = val1 ρ' a := by rw [h]
theorem Ek_leaf (k : Kind) (xs : List Atom) (e : β) (ρ : List D) : Er T (.leaf k xs e) ρ = some (k, vals ρ xs) := by rw [Er_leaf, vals_map]
theorem Ek_lt (p : Prim) (xs : List Atom) (n : Nat) (k : Tm β) (ρ : List D) : Er T (.lt none p xs n k) ρ = stepT T k ρ n (p.run (vals ρ xs)) := by rw [Er_lt0, vals_map]
theorem Ek_call (f : Nat) (xs : List Atom) (n : Nat) (os : List Atom) (k : Tm β) (ρ : List D) : Er T (.call none f xs n os k) ρ = stepT T k ρ n (Fun T f (vals ρ xs)) := by rw [Er_call0, vals_map]
def gateT (w : Bool) (a b : Option (Kind × List D)) (c : D) : Option (Kind × List D) := if gdR c w = true then a else b
@[congr] theorem gateT_congr {w : Bool} {a b : Option (Kind × List D)} {c c' : D} (h : c = c') {dd : Nat} (hd : tick = dd) : gateT w a b c = gateT w a b c' := by rw [h]
theorem gateT_t {a b : Option (Kind × List D)} {c : Bool} : gateT true a b (.bool c) = forkT c a b := by cases c <;> rfl
theorem gateT_f {a b : Option (Kind × List D)} {c : Bool} : gateT false a b (.bool c) = forkT c b a := by cases c <;> rfl
theorem gateT_u {w : Bool} {a b : Option (Kind × List D)} : gateT w a b .undef = b := by simp [gateT, gdR]
theorem Ek_ltg (a : Atom) (w : Bool) (p : Prim) (xs : List Atom) (n : Nat) (k : Tm β) (ρ : List D) :
  Er T (.lt (some (a, w)) p xs n k) ρ = gateT w (stepT T k ρ n (p.run (vals ρ xs))) (Er T k (ρ ++ List.replicate n .undef)) (val1 ρ a) := by
 rw [Er_ltg, ltT, gateT, vals_map, val_val1]
theorem Ek_callg (a : Atom) (w : Bool) (f : Nat) (xs : List Atom) (n : Nat) (os : List Atom) (k : Tm β) (ρ : List D) :
  Er T (.call (some (a, w)) f xs n os k) ρ = gateT w (stepT T k ρ n (Fun T f (vals ρ xs))) (Er T k (ρ ++ (List.replicate (n - os.length) .undef ++ vals ρ os))) (val1 ρ a) := by
 rw [Er_callg, callT, gateT, vals_map, vals_map, val_val1]
def testT {γ : Type} (a b : Option γ) (c : D) : Option γ := iteR c a b
@[congr] theorem testT_congr {γ : Type} {a b : Option γ} {c c' : D} (h : c = c') {dd : Nat} (hd : tick = dd) : testT a b c = testT a b c' := by rw [h]
theorem testT_b {γ : Type} {a b : Option γ} {c : Bool} : testT a b (.bool c) = forkT c a b := by cases c <;> rfl
theorem Ek_ite (c : Atom) (t e : Tm β) (ρ : List D) : Er T (.ite c t e) ρ = testT (Er T t ρ) (Er T e ρ) (val1 ρ c) := by rw [Er_ite, iteT, testT, val_val1]
theorem Ek_bind (i : Nat) (t k : Tm β) (ρ : List D) : Er T (.bind i t k) ρ = thenT T i k ρ (Er T t ρ) := Er_bind i t k ρ
theorem thenT_fork {i : Nat} {k : Tm β} {ρ : List D} {c : Bool} {a b : Option (Kind × List D)} : thenT T i k ρ (forkT c a b) = forkT c (thenT T i k ρ a) (thenT T i k ρ b) := by cases c <;> rfl
theorem thenT_yield {i j : Nat} {k : Tm β} {ρ ds : List D} : thenT T i k ρ (some (.yield j, ds)) = if j = i then Er T k (ρ ++ ds) else some (.yield j, ds) := by
 by_cases h : j = i
 ·subst h; rw [thenT_same, if_pos rfl]
 ·rw [thenT_ne h, if_neg h]
noncomputable def fin (o : Option (Kind × List D)) : Option (List D) := o.bind retR
theorem fin_fork {c : Bool} {a b : Option (Kind × List D)} : fin (forkT c a b) = forkT c (fin a) (fin b) := by cases c <;> rfl
theorem fin_ret {ds : List D} : fin (some (.ret, ds)) = some ds := rfl
theorem Fun_k {f : Nat} {t : Tm Unit} (h : T f = .tm t) (args : List D) : Fun T f args = fin (Er T t args) := Fun_r h args
theorem app_n {ρ : List D} : ρ ++ [] = ρ := List.append_nil ρ
theorem app_c {a : D} {r s : List D} : (a :: r) ++ s = a :: (r ++ s) := rfl
theorem app_0 {s : List D} : [] ++ s = s := rfl
theorem stepT_l {k : Tm β} {ρ ds : List D} {n : Nat} : stepT T k ρ n (some ds) = if ds.length = n then Er T k (ρ ++ ds) else none := rfl
end
section
variable {α : Type} [Enc α]
theorem rL_len {xs : List α} : Prim.len.run [rL xs] = some [i64 xs.length] := by simp [rL, Prim.run]
theorem rL_inb {xs : List α} {k : Int} (h : InB xs k) : Prim.inb.run [rL xs, i64 k] = some [] := by
 unfold InB at h
 simp only [rL, Prim.run, List.length_map]
 rw [if_pos ⟨h.1, h.2⟩]
def rowOf (off : Nat) (ks : List Bool) (r : List D) : Option (List D) := if off + ks.length <= r.length /\ kindsOk ks (r.drop off) = true then some ((r.drop off).take ks.length) else none
theorem rL_row [Inhabited α] {xs : List α} {k : Int} {sz off : Nat} {ks : List Bool} (hs : Enc.sz α = sz) (h : InB xs k) : (Prim.row sz off ks).run [rL xs, i64 k] = rowOf off ks (Enc.enc (atI xs k)) := by
 have h2 := h.lt
 unfold InB at h
 subst hs
 have e : xs[k.toNat]? = some (atI xs k) := by
  rw [List.getElem?_eq_getElem h2, atI, List.getD_eq_getElem?_getD, List.getElem?_eq_getElem h2]; rfl
 simp only [rL, Prim.run, List.getElem?_map, e, Option.map_some]
 simp only [true_and]
 rw [if_pos h.1]
 rfl
theorem rL_set [Inhabited α] {xs : List α} {k : Int} {sz off n : Nat} {vs : List D} {a : α} (hs : Enc.sz α = sz) (hl : vs.length = n) (ho : off + n <= sz) (ha : Enc.enc a = (Enc.enc (atI xs k)).take off ++ vs ++ (Enc.enc (atI xs k)).drop (off + n)) (h : InB xs k) :
  (Prim.set sz off n).run (rL xs :: i64 k :: vs) = some [rL (setI xs k a)] := by
 have h2 := h.lt
 unfold InB at h
 subst hs
 have e : xs[k.toNat]? = some (atI xs k) := by
  rw [List.getElem?_eq_getElem h2, atI, List.getD_eq_getElem?_getD, List.getElem?_eq_getElem h2]; rfl
 simp only [rL, Prim.run, List.getElem?_map, e, Option.map_some]
 simp only [true_and]
 rw [if_pos h.1, if_pos ⟨by rw [Enc.len]; exact ho, hl⟩, <- ha, setI, List.map_set]
theorem rL_make {b : Nat} {n : Int} {zero : List D} {a : α} (ha : Enc.enc a = zero) (h : 0 <= n) (h2 : n.toNat * b <= boundB) : (Prim.make b zero).run [i64 n] = some [rL (List.replicate n.toNat a)] := by
 simp only [Prim.run]
 rw [if_pos ⟨h, h2⟩, rL, List.map_replicate, ha, <- Enc.len a, ha]
theorem rL_mk1 {sz : Nat} {vs : List D} {a : α} (hs : Enc.sz α = sz) (ha : Enc.enc a = vs) : (Prim.mk sz 1).run vs = some [rL [a]] := by
 subst hs; subst ha
 have := Enc.len a
 simp [rL, Prim.run, chunk, this, List.take_of_length_le (Nat.le_of_eq this)]
theorem rL_app {sz b : Nat} {fl : Bool} {xs ys : List α} (hs : Enc.sz α = sz) (hf : fl = true -> ∀ a : α, (Enc.enc a).all D.isSc = true) (h : (xs.length + ys.length) * b <= boundB) : (Prim.app sz b fl).run [rL xs, rL ys] = some [rL (xs ++ ys)] := by
 subst hs
 have hall : (!fl || (xs.map Enc.enc ++ ys.map Enc.enc).all fun r => r.all D.isSc) = true := by
  cases fl with
  | false => rfl
  | true =>
   rw [Bool.not_true, Bool.false_or, <- List.map_append, List.all_map, List.all_eq_true]
   exact fun a _ => hf rfl a
 simp only [rL, Prim.run, List.length_map]
 rw [if_pos ⟨trivial, trivial, hall, h⟩, <- List.map_append]
theorem rL_app0 {sz b : Nat} {fl : Bool} {ys : List α} (hs : Enc.sz α = sz) (hf : fl = true -> ∀ a : α, (Enc.enc a).all D.isSc = true) (h : ys.length * b <= boundB) : (Prim.app sz b fl).run [.rows sz [], rL ys] = some [rL ys] := by
 have := rL_app (xs := []) (ys := ys) (b := b) hs hf (by simpa using h)
 subst hs
 exact this
theorem rL_sub {sz : Nat} {fl : Bool} {xs : List α} {lo hi : Int} (hs : Enc.sz α = sz) (hf : fl = true -> ∀ a : α, (Enc.enc a).all D.isSc = true) (h0 : 0 <= lo) (h1 : lo <= hi) (h2 : hi <= xs.length) : (Prim.sub sz fl).run [rL xs, i64 lo, i64 hi] = some [rL ((xs.take hi.toNat).drop lo.toNat)] := by
 subst hs
 have hall : (!fl || (xs.map Enc.enc).all fun r => r.all D.isSc) = true := by
  cases fl with
  | false => rfl
  | true =>
   rw [Bool.not_true, Bool.false_or, List.all_map, List.all_eq_true]
   exact fun a _ => hf rfl a
 simp only [rL, Prim.run, List.length_map]
 rw [if_pos ⟨trivial, hall, h0, h1, h2⟩, <- List.map_take, <- List.map_drop]
theorem rL_emp {xs : List α} : Prim.emp.run [rL xs] = some [.bool xs.isEmpty] := by simp [rL, Prim.run]
theorem rL_ne {x : α} {xs : List α} : Prim.ne.run [rL (x :: xs)] = some [] := by simp [rL, Prim.run]
class Fits (α : Type) [Enc α] (m : Nat) : Prop where
 fits : ∀ a : α, (Enc.enc a).all (fitsD m) = true
theorem rL_dep {m : Nat} [Fits α m] {xs : List α} : (Prim.dep (m + 1)).run [rL xs] = some [] := by
 have : fitsD (m + 1) (rL xs) = true := by
  unfold rL
  simp only [fitsD, List.all_map, List.all_eq_true]
  intro a _
  exact Fits.fits a
 simp only [Prim.run, this, if_true]
end
instance {m : Nat} : Fits Int m := ⟨fun a => by cases m <;> rfl⟩
instance {m : Nat} : Fits Bool m := ⟨fun a => by cases m <;> rfl⟩
instance {m : Nat} : Fits (List UInt8) m := ⟨fun a => by cases m <;> rfl⟩
theorem fits_rL {α : Type} [Enc α] {m : Nat} [Fits α m] (xs : List α) : fitsD (m + 1) (rL xs) = true := by
 unfold rL
 simp only [fitsD, List.all_map, List.all_eq_true]
 intro a _
 exact Fits.fits a
instance {α : Type} [Enc α] {m : Nat} [Fits α m] : Fits (List α) (m + 1) := ⟨fun xs => by
 show [rL xs].all (fitsD (m + 1)) = true
 simp [fits_rL]⟩
theorem run_minI {a b : Int} : Prim.min.run [i64 a, i64 b] = some [i64 (min a b)] := by
 simp only [Prim.run, foldD, minD, if_true, Option.bind_some, Option.map_some]
 congr 3
 by_cases h : b < a
 ·rw [if_pos (by simpa using h)]; omega
 ·rw [if_neg (by simpa using h)]; omega
theorem run_maxI {a b : Int} : Prim.max.run [i64 a, i64 b] = some [i64 (max a b)] := by
 simp only [Prim.run, foldD, minD, if_true, Option.bind_some, Option.map_some]
 congr 3
 by_cases h : b > a
 ·rw [if_pos (by simpa using h)]; omega
 ·rw [if_neg (by simpa using h)]; omega
theorem run_mulI {a b : Int} (h1 : -9223372036854775808 <= a * b) (h2 : a * b <= 9223372036854775807) : (Prim.bin .mul).run [i64 a, i64 b] = some [i64 (a * b)] := by simp [Prim.run, binD, intOp, wrap_i64 h1 h2]
theorem tdiv_range {a b : Int} (ha : -9223372036854775808 <= a) (ha' : a <= 9223372036854775807) (hb : 0 < b) : -9223372036854775808 <= a.tdiv b /\ a.tdiv b <= 9223372036854775807 := by
 rcases Int.le_total 0 a with h | h
 ·have h1 := Int.tdiv_nonneg h (Int.le_of_lt hb)
  have h2 := Int.tdiv_le_self b h
  omega
 ·have h1 : (-a).tdiv b = -(a.tdiv b) := Int.neg_tdiv ..
  have h2 := Int.tdiv_nonneg (show 0 <= -a by omega) (Int.le_of_lt hb)
  have h3 := Int.tdiv_le_self b (show 0 <= -a by omega)
  omega
theorem run_quoI {a b : Int} (ha : 0 <= a) (ha' : a <= 9223372036854775807) (hb : 0 < b) : (Prim.bin .quo).run [i64 a, i64 b] = some [i64 (a / b)] := by
 have h := tdiv_range (by omega) ha' hb
 have hb' : ¬ b = 0 := by omega
 rw [<- Int.tdiv_eq_ediv_of_nonneg ha]
 simp only [Prim.run, binD, intOp, if_true, if_neg hb', Option.map_some, wrap_i64 h.1 h.2]
theorem run_remI {a b : Int} (ha : 0 <= a) (hb : 0 < b) : (Prim.bin .rem).run [i64 a, i64 b] = some [i64 (a % b)] := by
 have hb' : ¬ b = 0 := by omega
 simp only [Prim.run, binD, intOp, if_true, if_neg hb', Option.map_some, Int.tmod_eq_emod_of_nonneg ha]
theorem eqsD_ints : ∀ xs ys : List Int, xs.length = ys.length -> eqsD (List.replicate xs.length 0) (xs.map i64) (ys.map i64) = some (decide (xs = ys))
 | [], [], _ => rfl
 | x :: xs, y :: ys, h => by
  have ih := eqsD_ints xs ys (by simpa using h)
  simp only [List.length_cons, List.replicate_succ, List.map_cons, eqsD, eqD, if_true, Option.bind_some, ih, List.cons.injEq, Bool.decide_and]
  by_cases e : x = y
  ·simp [e]
  ·simp [e]
theorem eqs_ints {p : Prop} [Decidable p] (xs ys : List Int) (h : xs.length = ys.length) (hp : p ↔ xs = ys) : (eqsD (List.replicate xs.length 0) (xs.map i64) (ys.map i64)).map (fun b => [D.bool b]) = some [.bool (decide p)] := by
 rw [eqsD_ints xs ys h, Option.map_some, decide_eq_decide.2 hp]
theorem cast1 (i : Nat) : ((i + 1 : Nat) : Int) = (i : Int) + 1 := rfl
theorem SA : (∀ {T β} (k : Kind) (xs : List Atom) (e : β) (ρ : List D), Er T (.leaf k xs e) ρ = some (k, vals ρ xs)) /\
  (∀ {T} {β : Type} (p : Prim) (xs : List Atom) (n : Nat) (k : Tm β) (ρ : List D), Er T (.lt none p xs n k) ρ = stepT T k ρ n (p.run (vals ρ xs))) /\
  (∀ {T} {β : Type} (f : Nat) (xs : List Atom) (n : Nat) (os : List Atom) (k : Tm β) (ρ : List D), Er T (.call none f xs n os k) ρ = stepT T k ρ n (Fun T f (vals ρ xs))) /\
  (∀ {T} {β : Type} (c : Atom) (t e : Tm β) (ρ : List D), Er T (.ite c t e) ρ = testT (Er T t ρ) (Er T e ρ) (val1 ρ c)) /\
  (∀ {T} {β : Type} (i : Nat) (t k : Tm β) (ρ : List D), Er T (.bind i t k) ρ = thenT T i k ρ (Er T t ρ)) /\
  (∀ {T} {β : Type} (a : Atom) (w : Bool) (p : Prim) (xs : List Atom) (n : Nat) (k : Tm β) (ρ : List D),
   Er T (.lt (some (a, w)) p xs n k) ρ = gateT w (stepT T k ρ n (p.run (vals ρ xs))) (Er T k (ρ ++ List.replicate n .undef)) (val1 ρ a)) /\
  (∀ {T} {β : Type} (a : Atom) (w : Bool) (f : Nat) (xs : List Atom) (n : Nat) (os : List Atom) (k : Tm β) (ρ : List D),
   Er T (.call (some (a, w)) f xs n os k) ρ = gateT w (stepT T k ρ n (Fun T f (vals ρ xs))) (Er T k (ρ ++ (List.replicate (n - os.length) .undef ++ vals ρ os))) (val1 ρ a)) :=
 ⟨Ek_leaf, Ek_lt, Ek_call, Ek_ite, Ek_bind, Ek_ltg, Ek_callg⟩
theorem SB : (tick = tock) /\ (∀ {γ : Type} {c : Bool} {a b : γ}, forkT (!c) a b = forkT c b a) /\ (∀ {a b : Option (Kind × List D)} {c : Bool}, gateT true a b (.bool c) = forkT c a b) /\ (∀ {a b : Option (Kind × List D)} {c : Bool}, gateT false a b (.bool c) = forkT c b a) /\
  (∀ {w : Bool} {a b : Option (Kind × List D)}, gateT w a b .undef = b) /\ (∀ {γ : Type} {a b : Option γ} {c : Bool}, testT a b (.bool c) = forkT c a b) /\
  (∀ {T} {β : Type} {i : Nat} {k : Tm β} {ρ : List D} {c : Bool} {a b : Option (Kind × List D)}, thenT T i k ρ (forkT c a b) = forkT c (thenT T i k ρ a) (thenT T i k ρ b)) /\
  (∀ {T} {β : Type} {i j : Nat} {k : Tm β} {ρ ds : List D}, thenT T i k ρ (some (.yield j, ds)) = if j = i then Er T k (ρ ++ ds) else some (.yield j, ds)) /\
  (∀ {T} {β : Type} {i : Nat} {k : Tm β} {ρ ds : List D}, thenT T i k ρ (some (.ret, ds)) = some (.ret, ds)) /\ (∀ {T} {β : Type} {i : Nat} {k : Tm β} {ρ ds : List D}, thenT T i k ρ (some (.cont, ds)) = some (.cont, ds)) /\
  (∀ {c : Bool} {a b : Option (Kind × List D)}, fin (forkT c a b) = forkT c (fin a) (fin b)) /\ (∀ {ds : List D}, fin (some (.ret, ds)) = some ds) /\
  (∀ {γ : Type} {a b : γ}, forkT true a b = a) /\ (∀ {γ : Type} {a b : γ}, forkT false a b = b) :=
 ⟨rfl, by intro γ c a b; cases c <;> rfl, gateT_t, gateT_f, gateT_u, testT_b, thenT_fork, thenT_yield, thenT_ret, thenT_cont, fin_fork, fin_ret, forkT_true, forkT_false⟩
theorem SC : (∀ {a : D} {r : List D}, nth (a :: r) 0 = a) /\ (∀ {a : D} {r : List D} {n : Nat}, nth (a :: r) (n + 1) = nth r n) /\
  (∀ {ρ : List D}, vals ρ [] = []) /\ (∀ {ρ : List D} {i : Nat} {r : List Atom}, vals ρ (.v i :: r) = nth ρ i :: vals ρ r) /\ (∀ {ρ : List D} {d : D} {r : List Atom}, vals ρ (.c d :: r) = d :: vals ρ r) /\
  (∀ {ρ : List D} {i : Nat}, val1 ρ (.v i) = nth ρ i) /\ (∀ {ρ : List D} {d : D}, val1 ρ (.c d) = d) /\
  (∀ {ρ : List D}, ρ ++ [] = ρ) /\ (∀ {a : D} {r s : List D}, (a :: r) ++ s = a :: (r ++ s)) /\ (∀ {s : List D}, [] ++ s = s) /\
  (∀ {T} {β : Type} {k : Tm β} {ρ ds : List D} {n : Nat}, stepT T k ρ n (some ds) = if ds.length = n then Er T k (ρ ++ ds) else none) /\
  (∀ {α : Type} {a : α} {l : List α}, (a :: l).length = l.length + 1) /\ (∀ {α : Type}, ([] : List α).length = 0) /\ (∀ {α : Type} {x : α} {n : Nat}, List.replicate (n + 1) x = x :: List.replicate n x) /\ (∀ {α : Type} {x : α}, List.replicate 0 x = []) :=
 ⟨nth_0, nth_s, vals_n, vals_v, vals_c, val1_v, val1_c, app_n, app_c, app_0, stepT_l, List.length_cons, List.length_nil, List.replicate_succ, List.replicate_zero⟩
theorem SP : (∀ {a b : Int}, (Prim.bin .lss).run [i64 a, i64 b] = some [.bool (decide (a < b))]) /\ (∀ {a b : Int}, (Prim.bin .gtr).run [i64 a, i64 b] = some [.bool (decide (b < a))]) /\
  (∀ {a b : Int}, (Prim.bin .leq).run [i64 a, i64 b] = some [.bool (decide (a <= b))]) /\ (∀ {a b : Int}, (Prim.bin .geq).run [i64 a, i64 b] = some [.bool (decide (b <= a))]) /\
  (∀ {a b : Int}, (Prim.bin .neq).run [i64 a, i64 b] = some [.bool (!(a == b))]) /\ (∀ {a b : Int}, (Prim.bin .eql).run [i64 a, i64 b] = some [.bool (a == b)]) /\
  (∀ {b : Bool}, Prim.not.run [.bool b] = some [.bool (!b)]) /\ (∀ {c : Bool} {a b : D}, Prim.pick.run [.bool c, a, b] = some [forkT c a b]) /\ (∀ {a b : Bool}, (Prim.eqb true).run [.bool a, .bool b] = some [.bool (!(a == b))]) /\ (∀ {a b : Bool}, (Prim.eqb false).run [.bool a, .bool b] = some [.bool (a == b)]) /\
  (∀ {d : D}, Prim.id.run [d] = some [d]) /\ (∀ {α : Type} [Enc α] {xs : List α}, Prim.len.run [rL xs] = some [i64 xs.length]) /\
  (∀ {α : Type} [Enc α] {xs : List α} {k : Int}, InB xs k -> Prim.inb.run [rL xs, i64 k] = some []) /\
  (∀ {a b : Int}, Prim.min.run [i64 a, i64 b] = some [i64 (min a b)]) /\ (∀ {a b : Int}, Prim.max.run [i64 a, i64 b] = some [i64 (max a b)]) /\
  (∀ {α : Type} [Enc α] {m : Nat} [Fits α m] {xs : List α}, (Prim.dep (m + 1)).run [rL xs] = some []) :=
 ⟨run_lss, run_gtr, run_leq, run_geq, run_neq, run_eql, run_not, by intro c a b; cases c <;> rfl, run_eqb, rfl, run_id, rL_len, rL_inb, run_minI, run_maxI, rL_dep⟩
end Go.Proofs.YtdpfilpckndhcaaGreatDoor.Rf
