/- Terms for the program's functions, and that they are right: part 4 of 9. -/
import Derived.Test.YtpgnlmfmlffjcaaGreatRf3
import Derived.Laws.MakeOwn
set_option linter.unusedSimpArgs false
set_option linter.unusedVariables false
set_option linter.unnecessarySimpa false
set_option linter.unusedSectionVars false
namespace Go.Proofs.YtpgnlmfmlffjcaaGreat.Rf
set_option linter.unusedVariables false
set_option linter.unusedSimpArgs false
def appF (fzl : List Nat) (mvY : Option Nat) (nsz : Nat) (src : Option (Nat × List Nat × Nat)) (nr M : Nat) (s : Nat) (p : List Nat) : Ow :=
 if s ∈ fzl then .frz else if mvY = some s then (match p with
  | k :: t => cutP nr M ((nsz + k) :: t)
  | [] => .frz) else
 match src with
 | some (r, pq, mr) => if s = r then (if pq <+: p then cutP nr M (p.drop pq.length) else cutP r mr p) else .slc s p
 | none => .slc s p
section
variable {P : Program} {E : Env} {F : Frame0} {n : Nat} {σ : Nat -> Option Cont} {ρ : List D} {a : Act} {w w' : World} {G G' : Gh} {g : Option (Atom × Bool)} {o : Oper} {cf : Nat -> List D -> Option (List D)} {Q : Exit -> Act -> World -> Prop} {next : Act -> World -> Prop}
structure XOk (σ : Nat -> Option Cont) (ρ : List D) (G : Gh) (w : World) (v : Value) (ra : List (List D)) (sz m : Nat) (updX : List (Nat × Cont)) (src : Option (Nat × List Nat × Nat)) (A : Option Addr) (b : Addr) (n cap : Nat) (vs : Nat -> Nat -> Value) : Prop where
 side : Side w v ra sz A b n cap vs
 base : (A = some b /\ b.spot = none) \/ (A = none /\ cap = 0)
 own : A = some b -> ∃ r pq mr, src = some (r, pq, mr) /\ G.own b.block = .slc r pq
 all : A = some b -> ∀ k, k < cap * sz -> ∃ u, w.cell? (b.add k) = some u /\ w.frozen? (b.add k) = false
 ch : ∀ i row, ra[i]? = some row -> ∀ j d, row[j]? = some d -> ∃ r pq mr, src = some (r, pq, mr) /\ Rp G.own w r (pq ++ [i * sz + j]) (m - 1) (vs i j) d
 m : 1 <= m
 upd : (src = none /\ updX = []) \/ ∃ r pq mr X k, src = some (r, pq, mr) /\ σ (kR r) = some (.root X mr k .live) /\
  ((pq = [] /\ updX = [(kR r, .root (.c .hole) 0 0 .gone)]) \/ (∃ X', updX = [(kR r, .root X' mr (k + 1) .live)] /\ Upd pq (X.val ρ) .hole (X'.val ρ) /\ Nest G.own w r [] (G.hdr r) pq v /\ pq.length < mr))
theorem app_core (hR : R E.ntmps F σ ρ a w G) (hd : DstOk E.ntmps o) {nb nr : Nat} (hf : Fresh σ nb nr) {fl : Bool} {vx vy v : Value} {ra rb : List (List D)} {sz m dy M : Nat} {updX updY : List (Nat × Cont)} {src : Option (Nat × List Nat × Nat)} {ry fzl : List Nat} {mvY : Option Nat}
  {A By : Option Addr} {b by' : Addr} {n n' cap capy : Nat} {vs vsy : Nat -> Nat -> Value}
  (hX : XOk σ ρ G w vx ra sz m updX src A b n cap vs) (hY : YOk σ G w fl vy rb sz dy updY ry fzl mvY)
  (hYs : Side w vy rb sz By by' n' capy vsy) (hYc : ∀ i row, rb[i]? = some row -> ∀ j d, row[j]? = some d -> ChY G w fzl mvY dy (vsy i j) d (i * sz + j))
  {w1 : World} {A' : Option Addr} {cb : Addr} {cap' : Nat} {grow : Bool} (hA : AppOk w w1 G A n n' cap sz (cellsL vs n sz) (cellsL vsy n' sz) v A' cb cap' grow)
  (hsc : fl = true -> ∀ r ∈ ra ++ rb, ∀ d ∈ r, d.isSc = true) (hM1 : 1 <= M) (hM : fl = false -> M <= m /\ M <= dy)
  (hdisj : ∀ r pq mr, src = some (r, pq, mr) -> r ∉ ry \/ fl = true) {y : Atom} (hy : y.val ρ = .rows sz (ra ++ rb)) :
  ∃ G', R E.ntmps F (upds σ (dstUpd o none (.one (.ex nr)) ++ ((kR nr, .root y M 0 .live) :: updX ++ updY))) ρ (a.put o.dst v) w1 G' := by
 obtain ⟨M, rfl⟩ : ∃ M', M = M' + 1 := ⟨M - 1, by omega⟩
 have hnrσ : σ (kR nr) = none := hf.nr nr (Nat.le_refl _) (by unfold maxRoots; omega)
 have hslt : ∀ b, G.own b ≠ .frz -> b < w.heap.size := fun b hb => by
  rcases Nat.lt_or_ge b w.heap.size with h | h
  ·exact h
  ·exact absurd (hR.frame.fresh b h) hb
 have hsrcY : ∀ r pq mr, src = some (r, pq, mr) -> r ∉ fzl /\ mvY ≠ some r := by
  intro r pq mr e
  rcases hdisj r pq mr e with h | h
  ·exact ⟨fun hh => h (hY.fz r hh).1, fun hh => h (hY.mv r hh).1⟩
  ·obtain ⟨-, h2, h3⟩ := hY.flat h
   rw [h2, h3]
   simp
 have hsrcσ : ∀ r pq mr, src = some (r, pq, mr) -> ∃ X k, σ (kR r) = some (.root X mr k .live) /\ ∃ c, (kR r, c) ∈ updX := by
  intro r pq mr e
  rcases hX.upd with ⟨h1, -⟩ | ⟨r', pq', mr', X, k, h1, h2, h3⟩
  ·rw [h1] at e; cases e
  ·rw [h1] at e
   obtain ⟨rfl, rfl, rfl⟩ : r' = r /\ pq' = pq /\ mr' = mr := by injection e with e; injection e with e1 e; injection e with e2 e3; exact ⟨e1, e2, e3⟩
   refine ⟨X, k, h2, ?_⟩
   rcases h3 with ⟨-, h3⟩ | ⟨X', h3, -⟩ <;> exact ⟨_, by rw [h3]; exact List.mem_singleton.2 rfl⟩
 have hcbo : grow = false -> A' ≠ none -> ∃ r pq mr, src = some (r, pq, mr) /\ G.own cb.block = .slc r pq := by
  intro hg hne
  rcases hA.base with ⟨h1, -⟩ | ⟨-, -, h2⟩ | ⟨-, h2⟩
  ·rw [hg] at h1; cases h1
  ·rcases hX.base with ⟨h3, h4⟩ | ⟨h3, -⟩
   ·rw [h2] at h3
    obtain rfl := Option.some.inj h3
    exact hX.own h2
   ·rw [h2] at h3; cases h3
  ·exact absurd h2 hne
 have hheap : ∀ b, b < w.heap.size -> (∀ r pq mr, src = some (r, pq, mr) -> G.own b ≠ .slc r pq) -> w1.heap[b]? = w.heap[b]? := by
  intro b' hlt hb'
  refine hA.heap b' hlt ?_
  cases hg : grow with
  | true => exact .inl rfl
  | false =>
   by_cases hne : A' = none
   ·exact .inr (.inl hne)
   ·obtain ⟨r, pq, mr, h1, h2⟩ := hcbo hg hne
    exact .inr (.inr fun e => hb' r pq mr h1 (e ▸ h2))
 generalize hown : (fun b' => if b' = w.heap.size then (if grow = true then Ow.slc nr [] else .frz) else renB (appF fzl mvY (n * sz) src nr (M + 1)) (G.own b')) = own'
 have hown' : ∀ b' s p, G.own b' = .slc s p -> own' b' = appF fzl mvY (n * sz) src nr (M + 1) s p := fun b' s p hb => by
  have := hslt b' (by rw [hb]; simp)
  rw [<- hown]
  dsimp only
  rw [if_neg (by omega), hb]
  rfl
 have hz : ∀ b', G.own b' = .frz -> b' < w.heap.size -> own' b' = .frz /\ w1.heap[b']? = w.heap[b']? := fun b' hb hlt => by
  refine ⟨?_, hheap b' hlt fun _ _ _ _ => by rw [hb]; simp⟩
  rw [<- hown]
  dsimp only
  rw [if_neg (by omega), hb]
  rfl
 have hFfz : ∀ s ∈ fzl, ∀ p, appF fzl mvY (n * sz) src nr (M + 1) s p = .frz := fun s hs p => by
  unfold appF; rw [if_pos hs]
 have hFsrc : ∀ r pq mr, src = some (r, pq, mr) -> ∀ p, appF fzl mvY (n * sz) src nr (M + 1) r p = if pq <+: p then cutP nr (M + 1) (p.drop pq.length) else cutP r mr p := fun r pq mr e p => by
  obtain ⟨h1, h2⟩ := hsrcY r pq mr e
  unfold appF
  rw [if_neg h1, if_neg h2, e]
  simp
 have hneY : ∀ s, s ∈ ry -> fl = false -> ∀ r pq mr, src = some (r, pq, mr) -> s ≠ r := fun s hs hfl r pq mr e h => by
  rcases hdisj r pq mr e with h1 | h1
  ·exact h1 (h ▸ hs)
  ·rw [hfl] at h1; cases h1
 have hold : ∀ i row, ra[i]? = some row -> ∀ j d, row[j]? = some d -> w1.cell? (cb.add (i * sz + j)) = some (vs i j) /\ Rp own' w1 nr [i * sz + j] M (vs i j) d := by
  intro i row hi j d hj
  have hil : i < n := by rw [<- hX.side.len]; exact (List.getElem?_eq_some_iff.1 hi).1
  have hjl : j < sz := by
   have := (List.getElem?_eq_some_iff.1 hj).1
   rwa [hX.side.rows row (List.mem_of_getElem? hi)] at this
  refine ⟨hA.cell _ _ (by rw [List.getElem?_append_left]; exact cellsL_get vs hil hjl; exact (List.getElem?_eq_some_iff.1 (cellsL_get vs hil hjl)).1), ?_⟩
  obtain ⟨r, pq, mr, e, h1⟩ := hX.ch i row hi j d hj
  cases hfl : fl with
  | true => exact .sc (h1.sc_inv (hsc hfl row (List.mem_append_left _ (List.mem_of_getElem? hi)) d (List.mem_of_getElem? hj)))
  | false =>
   obtain ⟨h2, h3⟩ := hM hfl
   refine h1.move hz _ M (by omega) fun b' t hb => ⟨?_, hheap b' (hslt b' (by rw [hb]; simp)) fun r' pq' mr' e' hh => ?_⟩
   ·rw [hown' b' _ _ hb, hFsrc r pq mr e, if_pos (by rw [List.append_assoc]; exact List.prefix_append _ _), List.append_assoc, List.drop_left, cutP]
    simp only [List.length_append, List.length_singleton]
    by_cases ht : t.length < M
    ·rw [if_pos ht, if_pos (by omega)]
    ·rw [if_neg ht, if_neg (by omega)]
   ·rw [e] at e'
    obtain ⟨rfl, rfl, rfl⟩ : r = r' /\ pq = pq' /\ mr = mr' := by injection e' with e; injection e with e1 e; injection e with e2 e3; exact ⟨e1, e2, e3⟩
    rw [hb] at hh
    injection hh with _ hh
    have := congrArg List.length hh
    simp at this
 have hnew : ∀ i row, rb[i]? = some row -> ∀ j d, row[j]? = some d -> w1.cell? (cb.add ((n + i) * sz + j)) = some (vsy i j) /\ Rp own' w1 nr [(n + i) * sz + j] M (vsy i j) d := by
  intro i row hi j d hj
  have hil : i < n' := by rw [<- hYs.len]; exact (List.getElem?_eq_some_iff.1 hi).1
  have hjl : j < sz := by
   have := (List.getElem?_eq_some_iff.1 hj).1
   rwa [hYs.rows row (List.mem_of_getElem? hi)] at this
  have hidx : (n + i) * sz + j = n * sz + (i * sz + j) := by rw [Nat.add_mul]; omega
  refine ⟨hA.cell _ _ (by rw [hidx, List.getElem?_append_right (by rw [cellsL_len]; omega), cellsL_len, Nat.add_sub_cancel_left]; exact cellsL_get vsy hil hjl), ?_⟩
  have hd' : fl = true -> d.isSc = true := fun hfl => hsc hfl row (List.mem_append_right _ (List.mem_of_getElem? hi)) d (List.mem_of_getElem? hj)
  rcases hYc i row hi j d hj with h1 | ⟨s, h1, h2, h3⟩ | ⟨h1, h2⟩
  ·exact .sc h1
  ·cases hfl : fl with
   | true => exact .sc (h3.sc_inv (hd' hfl))
   | false =>
    obtain ⟨h4, h5⟩ := hM hfl
    obtain ⟨h6, -, h7⟩ := hY.mv s h1
    refine h3.move hz _ M (by omega) fun b' t hb => ⟨?_, hheap b' (hslt b' (by rw [hb]; simp)) fun r' pq' mr' e' hh => ?_⟩
    ·rw [hown' b' _ _ hb]
     unfold appF
     rw [if_neg h7, if_pos h1]
     simp only [List.singleton_append]
     rw [cutP, hidx]
     simp only [List.length_cons]
     by_cases ht : t.length < M
     ·rw [if_pos ht, if_pos (by omega)]
     ·rw [if_neg ht, if_neg (by omega)]
    ·rw [hb] at hh
     injection hh with hh _
     exact hneY s h6 hfl r' pq' mr' e' hh
  ·cases hfl : fl with
   | true => exact .sc (h2.sc_inv (hd' hfl))
   | false =>
    obtain ⟨h4, h5⟩ := hM hfl
    obtain rfl : M = 0 := by omega
    refine .fz (h2.mono' fun b' hb hlt => ?_)
    rcases hb with hb | ⟨r', p', h6, hb⟩
    ·exact hz b' hb hlt
    ·refine ⟨by rw [hown' b' _ _ hb, hFfz r' h6], hheap b' hlt fun r'' pq' mr' e' hh => ?_⟩
     rw [hb] at hh
     injection hh with hh _
     exact hneY r' (hY.fz r' h6).1 hfl r'' pq' mr' e' hh
 have hmem : ∀ {s : Nat} {c : Cont}, (kR s, c) ∈ (kR nr, Cont.root y (M + 1) 0 .live) :: updX ++ updY ->
   (s = nr /\ c = .root y (M + 1) 0 .live) \/
   (∃ pq mr X k, src = some (s, pq, mr) /\ σ (kR s) = some (.root X mr k .live) /\ (c = .root (.c .hole) 0 0 .gone \/ ∃ X', c = .root X' mr (k + 1) .live /\ Upd pq (X.val ρ) .hole (X'.val ρ) /\ Nest G.own w s [] (G.hdr s) pq vx /\ pq.length < mr)) \/
   (mvY = some s /\ s ∈ ry /\ c = .root (.c .hole) 0 0 .gone) \/
   (s ∈ fzl /\ s ∈ ry /\ ∃ x m v, c = .root x m v .frozen /\ σ (kR s) = some (.root x m v .live)) := by
  intro s c hc
  rcases List.mem_append.1 hc with hc | hc
  ·rcases List.mem_cons.1 hc with hc | hc
   ·obtain ⟨e1, e2⟩ := Prod.mk.inj hc
    exact .inl ⟨kR_inj e1, e2⟩
   ·rcases hX.upd with ⟨-, h2⟩ | ⟨r, pq, mr, X, k, h1, h2, h3⟩
    ·rw [h2] at hc; simp at hc
    ·rcases h3 with ⟨h4, h5⟩ | ⟨X', h5, h6⟩
     ·rw [h5] at hc
      simp only [List.mem_singleton, Prod.mk.injEq] at hc
      obtain ⟨e1, e2⟩ := hc
      obtain rfl := kR_inj e1
      exact .inr (.inl ⟨pq, mr, X, k, h1, h2, .inl e2⟩)
     ·rw [h5] at hc
      simp only [List.mem_singleton, Prod.mk.injEq] at hc
      obtain ⟨e1, e2⟩ := hc
      obtain rfl := kR_inj e1
      exact .inr (.inl ⟨pq, mr, X, k, h1, h2, .inr ⟨X', e2, h6⟩⟩)
  ·obtain ⟨s', e1, h1, h2⟩ := hY.upd _ _ hc
   obtain rfl := kR_inj e1
   rcases h2 with ⟨h2, h3, -⟩ | ⟨h2, x, m, ver, h3, h4⟩
   ·exact .inr (.inr (.inl ⟨h2, h1, h3⟩))
   ·exact .inr (.inr (.inr ⟨h2, h1, x, m, ver, h3, h4⟩))
 have hnr : ∀ r, (σ (kR r)).isSome -> r ≠ nr := fun r hr e => by rw [e, hnrσ] at hr; cases hr
 have hfzfl : ∀ s, s ∈ fzl -> fl = false := fun s hs => by
  cases hfl : fl with
  | false => rfl
  | true => rw [(hY.flat hfl).2.1] at hs; simp at hs
 refine ⟨{ G with own := own', hdr := fun r => if r = nr then v else G.hdr r }, hR.own hd (f := appF fzl mvY (n * sz) src nr (M + 1)) (wr := fun b' => b' = cb.block /\ grow = false /\ A' ≠ none) ?_ ?_ ?_ ?_ ?_ ?_ ?_ ?_ ?_ ?_ ?_ rfl ?_ ?_⟩
 ·intro k c hc
  rcases List.mem_append.1 hc with hc | hc
  ·rcases List.mem_cons.1 hc with hc | hc
   ·exact ⟨nr, (Prod.mk.inj hc).1⟩
   ·rcases hX.upd with ⟨-, h2⟩ | ⟨r, pq, mr, X, k', h1, h2, h3⟩
    ·rw [h2] at hc; simp at hc
    ·rcases h3 with ⟨h4, h5⟩ | ⟨X', h5, h6⟩ <;> (rw [h5] at hc; simp only [List.mem_singleton, Prod.mk.injEq] at hc; exact ⟨r, hc.1⟩)
  ·obtain ⟨s', e1, -⟩ := hY.upd _ _ hc
   exact ⟨s', e1⟩
 ·intro b' hlt
  show own' b' = _
  rw [<- hown]
  dsimp only
  rw [if_neg (by omega)]
 ·intro b' hb
  rw [hA.size] at hb
  show own' b' = .frz
  rw [<- hown]
  dsimp only
  by_cases e : b' = w.heap.size
  ·rw [if_pos e]
   cases hg : grow with
   | true => rw [hg] at hb; simp at hb; omega
   | false => simp
  ·rw [if_neg e, hR.frame.fresh b' (by split at hb <;> omega)]; rfl
 ·exact ⟨hA.os.1, hA.os.2.1, hA.os.2.2, by rw [hA.size]; omega⟩
 ·intro b' hb
  show own' b' = .frz \/ ∃ r p, own' b' = .slc r p /\ _
  rw [<- hown]
  dsimp only
  by_cases e : b' = w.heap.size
  ·rw [if_pos e]
   cases hg : grow with
   | true => exact .inr ⟨nr, [], by simp, hnrσ⟩
   | false => exact .inl (by simp)
  ·rw [if_neg e, hR.frame.fresh b' hb]; exact .inl rfl
 ·intro b' hlt hnw
  refine hA.heap b' hlt ?_
  cases hg : grow with
  | true => exact .inl rfl
  | false =>
   by_cases hne : A' = none
   ·exact .inr (.inl hne)
   ·exact .inr (.inr fun e => hnw ⟨e, hg, hne⟩)
 ·rintro b' ⟨rfl, hg, hne⟩
  obtain ⟨r, pq, mr, h1, h2⟩ := hcbo hg hne
  obtain ⟨X, k, -, c, hc⟩ := hsrcσ r pq mr h1
  exact ⟨r, pq, h2, c, List.mem_append_left _ (List.mem_cons_of_mem _ hc)⟩
 ·intro b' s p hb hnot
  have h1 : s ∉ fzl := fun hs => by
   rcases (hY.fz s hs).2 with ⟨c, hc⟩ | ⟨x, m, ver, h⟩
   ·exact hnot c (List.mem_append_right _ hc)
   ·exact (hR.root h).2 b' p hb
  have h2 : mvY ≠ some s := fun hs => by
   obtain ⟨c, hc⟩ := (hY.mv s hs).2.1
   exact hnot c (List.mem_append_right _ hc)
  unfold appF
  rw [if_neg h1, if_neg h2]
  cases hsrc : src with
  | none => rfl
  | some x =>
   obtain ⟨r, pq, mr⟩ := x
   dsimp only
   rw [if_neg]
   intro e
   obtain ⟨X, k, -, c, hc⟩ := hsrcσ r pq mr hsrc
   exact hnot c (List.mem_append_left _ (List.mem_cons_of_mem _ (e ▸ hc)))
 ·intro s c hc _
  rcases hmem hc with ⟨rfl, rfl⟩ | ⟨pq, mr, X, k, h1, h2, h3⟩ | ⟨h1, h2, rfl⟩ | ⟨h1, h2, x, m', ver, rfl, h4⟩
  ·exact .inl ⟨hnrσ, _, _, _, _, rfl⟩
  ·rcases h3 with rfl | ⟨X', rfl, -⟩
   ·exact .inr (.inr (.inl ⟨_, _, _, _, rfl, by simp, by simp⟩))
   ·exact .inr (.inl ⟨_, _, _, _, _, h2, rfl⟩)
  ·exact .inr (.inr (.inl ⟨_, _, _, _, rfl, by simp, by simp⟩))
  ·refine .inr (.inr (.inr ⟨x, m', ver, h4, rfl, fun b' p hb => ⟨?_, hheap b' (hslt b' (by rw [hb]; simp)) fun r pq mr e hh => ?_⟩⟩))
   ·show own' b' = .frz
    rw [hown' b' _ _ hb, hFfz s h1]
   ·rw [hb] at hh
    injection hh with hh _
    exact hneY s h2 (hfzfl s h1) r pq mr e hh
 ·intro r0 x0 m0 k0 hfz s p q hF
  have hr0 := hnr r0 (by rw [hfz]; rfl)
  have hcut : ∀ R M' q', cutP R M' q' = .slc r0 q -> R = r0 := by
   intro R M' q' h
   unfold cutP at h
   split at h
   ·injection h
   ·cases h
  unfold appF at hF
  split at hF
  ·cases hF
  ·split at hF
   ·split at hF
    ·exact absurd (hcut _ _ _ hF).symm hr0
    ·cases hF
   ·split at hF
    ·rename_i _ r pq mr
     split at hF
     ·split at hF
      ·exact absurd (hcut _ _ _ hF).symm hr0
      ·have := hcut _ _ _ hF
       subst this
       obtain ⟨X, k, h, -⟩ := hsrcσ r pq mr rfl
       rw [h] at hfz
       injection hfz with e; injection e with _ _ _ e; cases e
     ·injection hF with h1 h2; exact ⟨h1, h2⟩
    ·injection hF with h1 h2; exact ⟨h1, h2⟩
 ·intro r hr
  show (if r = nr then _ else _) = _
  rw [if_neg (hnr r hr)]
 ·intro _ _
  simp only [SVRep, LeafRep, if_true]
  refine ⟨trivial, upds_some _ _ _ (.inr ⟨_, List.mem_append_right _ (List.mem_append_left _ List.mem_cons_self)⟩), by rw [hA.val]; rfl⟩
 ·intro _ s c hc _
  rcases hmem hc with ⟨rfl, rfl⟩ | ⟨pq, mr, X, k, h1, h2, h3⟩ | ⟨h1, h2, rfl⟩ | ⟨h1, h2, x, m', ver, rfl, h4⟩
  ·refine ⟨_, _, _, _, rfl, ?_⟩
   simp only [RootRep, if_true]
   rw [hy, hA.val]
   have hcase : ∀ i row, (ra ++ rb)[i]? = some row -> (i < n /\ ra[i]? = some row) \/ (n <= i /\ rb[i - n]? = some row) := by
    intro i row hi
    by_cases hlt : i < ra.length
    ·rw [List.getElem?_append_left hlt] at hi
     exact .inl ⟨by rw [<- hX.side.len]; exact hlt, hi⟩
    ·rw [List.getElem?_append_right (by omega), hX.side.len] at hi
     exact .inr ⟨by rw [<- hX.side.len]; omega, hi⟩
   refine .sl _ cb (n + n') cap' sz _ (fun i j => if i < n then vs i j else vsy (i - n) j) (by simp [hX.side.len, hYs.len]) hA.le hA.aval (fun row hr => ?_) (fun hsome => ⟨hA.spot, ?_, fun k hk => hA.all k hk⟩) (fun i row hi j d hj => ?_) (fun i row hi j d hj => ?_)
   ·rcases List.mem_append.1 hr with hr | hr
    ·exact hX.side.rows _ hr
    ·exact hYs.rows _ hr
   ·rcases hA.base with ⟨h1, -, h2⟩ | ⟨h1, -⟩ | ⟨-, h2⟩
    ·rw [<- hown]
     dsimp only
     rw [if_pos h2, if_pos h1]
    rotate_left
    ·rw [h2] at hsome; cases hsome
    ·obtain ⟨r, pq, mr, h2, h3⟩ := hcbo h1 (by rw [hsome]; simp)
     rw [hown' _ _ _ h3, hFsrc r pq mr h2, if_pos List.prefix_rfl]
     simp [cutP]
   ·rcases hcase i row hi with ⟨h1, h2⟩ | ⟨h1, h2⟩
    ·rw [if_pos h1]; exact (hold i row h2 j d hj).1
    ·rw [if_neg (by omega)]
     have := (hnew _ row h2 j d hj).1
     rwa [show n + (i - n) = i by omega] at this
   ·rcases hcase i row hi with ⟨h1, h2⟩ | ⟨h1, h2⟩
    ·rw [if_pos h1]; exact (hold i row h2 j d hj).2
    ·rw [if_neg (by omega)]
     have := (hnew _ row h2 j d hj).2
     rwa [show n + (i - n) = i by omega] at this
  ·rcases h3 with rfl | ⟨X', rfl, h4, h5, h6⟩
   ·exact ⟨_, _, _, _, rfl, trivial⟩
   ·refine ⟨_, _, _, _, rfl, ?_⟩
    simp only [RootRep]
    rw [if_neg (hnr s (by rw [h2]; rfl))]
    have hr := hR.root h2
    simp only [RootRep] at hr
    have := Rp.upd (own' := own') (w' := w1) (r := s) (M' := mr) (full := pq) hz (fun b' t hb ht => ⟨?_, hheap b' (hslt b' (by rw [hb]; simp)) fun r' pq' mr' e' hh => ?_⟩) (by omega) (.hole _ (by rw [hX.side.val]; rfl)) pq [] mr (G.hdr s) _ _ rfl (Nat.le_refl _) (by simpa using hr) h5 h4
    ·simpa using this
    ·rw [hown' b' _ _ hb, hFsrc s pq mr h1, if_neg ht]
     rfl
    ·rw [h1] at e'
     obtain ⟨-, rfl, -⟩ : s = r' /\ pq = pq' /\ mr = mr' := by injection e' with e; injection e with e1 e; injection e with e2 e3; exact ⟨e1, e2, e3⟩
     rw [hb] at hh
     injection hh with _ hh
     exact ht (hh ▸ List.prefix_rfl)
  ·exact ⟨_, _, _, _, rfl, trivial⟩
  ·refine ⟨x, m', ver, .frozen, rfl, ?_, fun b' p hb => ?_⟩
   ·have := hR.root h4
    simp only [RootRep] at this ⊢
    rw [if_neg (hnr s (by rw [h4]; rfl))]
    refine this.rd.mono' fun b' hb hlt => ?_
    rcases hb with hb | ⟨p, hb⟩
    ·exact hz b' hb hlt
    ·refine ⟨by rw [hown' b' _ _ hb, hFfz s h1], hheap b' hlt fun r pq mr e hh => ?_⟩
     rw [hb] at hh
     injection hh with hh _
     exact hneY s h2 (hfzfl s h1) r pq mr e hh
   ·have hb' : own' b' = .slc s p := hb
    have hsn := hnr s (by rw [h4]; rfl)
    have hcut : ∀ R M' q', R ≠ s -> cutP R M' q' ≠ .slc s p := by
     intro R M' q' hR' h
     unfold cutP at h
     split at h
     ·injection h with h _; exact hR' h
     ·cases h
    rcases Nat.lt_or_ge b' w.heap.size with hlt | hge
    ·rw [<- hown] at hb'
     dsimp only at hb'
     rw [if_neg (by omega)] at hb'
     cases e : G.own b' with
     | slc s' p' =>
      rw [e] at hb'
      have hF : appF fzl mvY (n * sz) src nr (M + 1) s' p' = .slc s p := hb'
      unfold appF at hF
      split at hF
      ·cases hF
      ·rename_i hs'
       split at hF
       ·split at hF
        ·exact hcut _ _ _ hsn.symm hF
        ·cases hF
       ·split at hF
        ·rename_i _ r pq mr
         split at hF
         ·split at hF
          ·exact hcut _ _ _ hsn.symm hF
          ·exact hcut _ _ _ (hneY s h2 (hfzfl s h1) r pq mr rfl).symm hF
         ·injection hF with h5 _; exact hs' (h5 ▸ h1)
        ·injection hF with h5 _; exact hs' (h5 ▸ h1)
     | _ => rw [e] at hb'; cases hb'
    ·rw [<- hown] at hb'
     dsimp only at hb'
     by_cases e : b' = w.heap.size
     ·rw [if_pos e] at hb'
      split at hb'
      ·injection hb' with h5 _; exact hsn h5.symm
      ·cases hb'
     ·rw [if_neg e, hR.frame.fresh b' hge] at hb'
      cases hb'
end
end Go.Proofs.YtpgnlmfmlffjcaaGreat.Rf

namespace Go.Proofs.YtpgnlmfmlffjcaaGreat.Rf
set_option linter.unusedVariables false
set_option linter.unusedSimpArgs false
section
variable {P : Program} {E : Env} {F : Frame0} {n : Nat} {σ : Nat -> Option Cont} {ρ : List D} {a : Act} {w w' : World} {G G' : Gh} {g : Option (Atom × Bool)} {o : Oper} {cf : Nat -> List D -> Option (List D)} {Q : Exit -> Act -> World -> Prop} {next : Act -> World -> Prop}
theorem app_run {sz bytes : Nat} {fl : Bool} {x y : D} {ds : List D} (h : (Prim.app sz bytes fl).run [x, y] = some ds) :
  ∃ ra rb, x = .rows sz ra /\ y = .rows sz rb /\ (fl = true -> ∀ r ∈ ra ++ rb, ∀ d ∈ r, d.isSc = true) /\ (ra.length + rb.length) * bytes <= boundB /\ ds = [.rows sz (ra ++ rb)] := by
 cases x <;> cases y <;> simp only [Prim.run] at h <;> first | cases h | skip
 rename_i s1 ra s2 rb
 split at h
 ·rename_i h1
  obtain ⟨rfl, rfl, h2, h3⟩ := h1
  simp only [Option.some.injEq] at h
  refine ⟨ra, rb, rfl, rfl, fun hf => ?_, h3, h.symm⟩
  rw [hf] at h2
  simp only [Bool.not_true, Bool.false_or, List.all_eq_true] at h2
  exact fun r hr d hd => h2 r hr d hd
 ·cases h
theorem XOk.ofRp {v : Value} {ra : List (List D)} {sz md r mr : Nat} {pq : List Nat} {updX : List (Nat × Cont)} (h : Rp G.own w r pq md v (.rows sz ra)) (h1 : 1 <= md) {X : Atom} {k : Nat} (hk : σ (kR r) = some (.root X mr k .live))
  (hu : (pq = [] /\ updX = [(kR r, .root (.c .hole) 0 0 .gone)]) \/ (∃ X', updX = [(kR r, .root X' mr (k + 1) .live)] /\ Upd pq (X.val ρ) .hole (X'.val ρ) /\ Nest G.own w r [] (G.hdr r) pq v /\ pq.length < mr)) :
  ∃ A b n cap vs, XOk σ ρ G w v ra sz md updX (some (r, pq, mr)) A b n cap vs := by
 obtain ⟨m', rfl⟩ : ∃ m', md = m' + 1 := ⟨md - 1, by omega⟩
 obtain ⟨A, b, n, c, vs, e1, e2, e3, e4, e5, e6, e7, e8⟩ := h.sl_inv
 refine ⟨A, b, n, c, vs, ⟨e1, e2, e3, e5, e7⟩, ?_, fun hA => ⟨r, pq, mr, rfl, (e6 hA).2.1⟩, fun hA => (e6 hA).2.2, fun i row hi j d hj => ⟨r, pq, mr, rfl, e8 i row hi j d hj⟩, h1, .inr ⟨r, pq, mr, X, k, rfl, hk, hu⟩⟩
 rcases e4 with e4 | e4
 ·exact .inl ⟨e4, (e6 e4).1⟩
 ·exact .inr e4
theorem app_fin (hR : R E.ntmps F σ ρ a w G) (hd : DstOk E.ntmps o) {nb nr nv : Nat} (hf : Fresh σ nb nr) {t tx e : TypeId} {ti : TI} {info : TypeInfo} {u u' : TypeDesc} {x y : Operand} {args : Array Operand} {argTypes : Array TypeId}
  (ho : o.op = .call { callee := .builtin .append, args, argTypes }) (hargs : args.toList = [x, y]) (hat : argTypes = #[t, tx]) (hu : P.underlying t = some (.slice e)) (f : TiFacts P e ti info u) (hx : P.underlying tx = some u') (hx' : ∃ e', u' = .slice e')
  (hb0 : 0 < ti.bytes) (hs0 : 0 < ti.size) {ys : SlR} (hys : SlRep σ ρ G w ys (a.eval y)) {dy : Nat} {updY : List (Nat × Cont)} {ry : List Nat} (hY : (sxAppY (nosc ti.cells) ys).eval σ = some (dy, updY, ry))
  {sx : Atom} {m : Nat} {pre : List Step} {updX : List (Nat × Cont)} (hst : StepsOk cf ρ none nv (pre ++ [.prim (.app ti.size ti.bytes (nosc ti.cells)) [sx, ys.x] 1]))
  (hXs : ∀ ra, sx.val ρ = .rows ti.size ra -> ∃ src A b n cap vs, XOk σ ρ G w (a.eval x) ra ti.size m updX src A b n cap vs /\ ∀ r pq mr, src = some (r, pq, mr) -> r ∉ ry \/ nosc ti.cells = true) :
  o.wp P a w (Nx E.ntmps F σ ρ (dstUpd o none (.one (.ex nr)) ++ ((kR nr, .root (.v (nv + stepsN pre)) (bif nosc ti.cells then big else min m dy) 0 .live) :: updX ++ updY))) Q := by
 obtain ⟨-, hst2⟩ := StepsOk.append hst
 obtain ⟨d, h1, h2⟩ := one_of hst2.1 (show gOn ρ none = true from rfl)
 simp only [List.map_cons, List.map_nil] at h1
 obtain ⟨ra, rb, e1, e2, e3, e4, e5⟩ := app_run h1
 simp only [List.cons.injEq, and_true] at e5
 obtain ⟨src, A, b, n, cap, vs, hX, hdis⟩ := hXs ra e1
 obtain ⟨fzl, mvY, hYo⟩ := ySide hR hys e2 (fun hfl r hr d hd => e3 hfl r (List.mem_append_right _ hr) d hd) hY
 obtain ⟨By, by', n', capy, vsy, hYs, hYb, hYc⟩ := hYo.side
 have hl1 : (cellsL vs n ti.size).length = n * ti.size := cellsL_len _ _ _
 have hl2 : (cellsL vsy n' ti.size).length = n' * ti.size := cellsL_len _ _ _
 have hc1 := rows_cells hX.side.rows hX.side.cell
 have hc2 := rows_cells hYs.rows hYs.cell
 rw [hX.side.len] at hc1
 rw [hYs.len] at hc2
 have hones : ∀ u ∈ cellsL vsy n' ti.size, u.oneCell' = true := by
  intro u hu
  obtain ⟨k, hk⟩ := List.mem_iff_getElem?.1 hu
  obtain ⟨k1, k2, k3, rfl⟩ := cellsL_idx hk
  have hr : rb[k / ti.size]? = some (rb[k / ti.size]'(by rw [hYs.len]; exact k1)) := List.getElem?_eq_getElem _
  have hrl := hYs.rows _ (List.mem_of_getElem? hr)
  have hd' : (rb[k / ti.size]'(by rw [hYs.len]; exact k1))[k % ti.size]? = some _ := List.getElem?_eq_getElem (by rw [hrl]; exact k2)
  rcases hYc _ _ hr _ _ hd' with h | ⟨_, _, _, h⟩ | ⟨_, h⟩
  ·exact h.one
  ·exact h.one
  ·exact h.one
 have hM1 : 1 <= (bif nosc ti.cells then big else min m dy) := by
  have := hX.m
  have := hYo.dy
  cases nosc ti.cells with
  | true => simp only [cond_true]; unfold big; omega
  | false => simp only [cond_false]; omega
 have hM : nosc ti.cells = false -> (bif nosc ti.cells then big else min m dy) <= m /\ (bif nosc ti.cells then big else min m dy) <= dy := fun h => by
  rw [h, cond_false]; omega
 have hyv : (Atom.v (nv + stepsN pre)).val ρ = .rows ti.size (ra ++ rb) := h2.trans e5
 obtain ⟨v, w1, A', cb, cap', grow, hrun, hA⟩ := run_append_op (P := P) (w := w) (G := G) (a := a) (o := o) ho hargs hat hu f hx hx' (A := A) (n := n) (cap := cap) (n' := n') (b := b) (olds := cellsL vs n ti.size) (news := cellsL vsy n' ti.size) hX.side.val hX.side.le hX.base hl1 hc1 hX.all hYs.val hYb hl2 hc2 hones hb0 hs0 (by rw [<- hX.side.len, <- hYs.len]; exact e4)
 exact wp_value hrun (app_core hR hd hf hX hYo hYs hYc hA e3 hM1 hM hdis hyv)
theorem sound_append (hR : R E.ntmps F σ ρ a w G) (hd : DstOk E.ntmps o) (hti : TiOk P E.ti) {nv nb nr : Nat} {mv mvs : Bool} (hf : Fresh σ nb nr) {args : Array Operand} {argTypes : Array TypeId} (ho : o.op = .call { callee := .builtin .append, args, argTypes })
    {x y : Operand} (hargs : args.toList = [x, y]) {t ty : TypeId} {ti ei yi : TI} {e : Nat} (ht : argTypes[0]? = some t) (hty : argTypes[1]? = some ty) (hi : E.ti t = some ti) (he : ti.elem = some e) (hei : E.ti e = some ei) (hyi : E.ti ty = some yi)
    (hgd : (yi.elem.isSome && Nat.blt 0 ei.size && noG g && Nat.blt 0 ei.bytes && Nat.beq argTypes.size 2) = true) {lx ly : Leaf} (h1 : (rdL E g t x).eval σ = some lx) (h2 : (rdL E g ty y).eval σ = some ly) {res : OpRes}
    (h : (sxAppend nv nr mv mvs o ei lx ly).eval σ = some res) (hst : StepsOk cf ρ g nv res.lets) : Sound P E F σ ρ a w g o Q res.upd := by
  simp only [Bool.and_eq_true, Nat.blt_eq, Nat.beq_eq] at hgd
  obtain ⟨⟨⟨⟨hyel, hsz⟩, hg0⟩, hby⟩, hsize⟩ := hgd
  obtain rfl := noG_eq hg0
  refine ⟨fun hg => ?_, fun hg => by simp [gOn] at hg⟩
  have hat : argTypes = #[t, ty] := by
    apply Array.ext'
    apply List.ext_getElem?
    intro k
    match k with
    | 0 => simpa using ht
    | 1 => simpa using hty
    | k + 2 => simp [hsize]
  obtain ⟨i1, u1, f1⟩ := tiOf_facts (hti.ok _ _ hi)
  obtain rfl := elem_und f1 he
  obtain ⟨i2, u2, f2⟩ := tiOf_facts (hti.ok _ _ hei)
  obtain ⟨i3, u3, f3⟩ := tiOf_facts (hti.ok _ _ hyi)
  have hu3 := elem_und' f3 hyel
  have hlx := rdL_rep hR hg h1
  have hly := rdL_rep hR hg h2
  simp only [sxAppend, eval_bind, Option.bind_eq_some_iff] at h
  obtain ⟨ys, h3, ⟨dy, updY, ry⟩, h4, h⟩ := h
  have hys := rdSl_rep hR h3 hly
  have fin : ∀ {sx : Atom} {m : Nat} {pre : List Step} {updX : List (Nat × Cont)}, (sxAppFin nv nr o ei ys dy updY sx m pre updX).eval σ = some res ->
      (StepsOk cf ρ none nv pre -> ∀ ra, sx.val ρ = .rows ei.size ra -> ∃ src A b n cap vs, XOk σ ρ G w (a.eval x) ra ei.size m updX src A b n cap vs /\ ∀ r pq mr, src = some (r, pq, mr) -> r ∉ ry \/ nosc ei.cells = true) ->
      o.wp P a w (Nx E.ntmps F σ ρ res.upd) Q := by
    intro sx m pre updX hfin hXs
    simp only [sxAppFin, out1, eval_ret, Option.some.injEq] at hfin
    subst hfin
    simp only [dst_eq]
    exact app_fin hR hd hf ho hargs hat f1.und f2 f3.und hu3 hby hsz hys h4 hst (hXs (StepsOk.append hst).1)
  dsimp only at h
  split at h
  · rename_i p z
    refine fin h fun _ ra hra => ?_
    simp only [Atom.val, D.rows.injEq] at hra
    obtain ⟨rfl, rfl⟩ := hra
    simp only [LeafRep] at hlx
    have hv := (hlx.2 (by simp)).2.1 trivial _ rfl
    exact ⟨none, none, ⟨0, 0, none⟩, 0, 0, fun _ _ => undef, ⟨⟨hv, rfl, Nat.le_refl _, by simp, by simp⟩, .inr ⟨rfl, rfl⟩, by simp, by simp, by simp, by decide, .inl ⟨rfl, rfl⟩⟩, by simp⟩
  · simp only [eval_bind, Option.bind_eq_some_iff] at h
    obtain ⟨s, h5, h⟩ := h
    have hs := rdSl_rep hR h5 hlx
    split at h
    · rename_i r k m q hown
      simp only [eval_bind, eval_guardR, Option.bind_eq_some_iff] at h
      obtain ⟨_, h6, h⟩ := h
      split at h6
      case isFalse => cases h6
      rename_i hb6
      simp only [Bool.and_eq_true, Bool.or_eq_true, Bool.not_eq_true', Nat.ble_eq] at hb6
      have hor := hs.own
      unfold OwnRep at hor
      rw [hown] at hor
      obtain ⟨-, ⟨X, hk⟩, hor⟩ := hor
      have hdis : r ∉ ry \/ nosc ei.cells = true := hb6.1.imp (fun h => has_not.1 h) id
      split at h
      · refine fin h fun _ ra hra => ?_
        obtain ⟨-, hrp, -⟩ := hor
        simp only [pathVal, List.map_nil, List.length_nil, Nat.sub_zero] at hrp
        rw [hra] at hrp
        obtain ⟨A, b, n, cap, vs, hX⟩ := XOk.ofRp (ρ := ρ) hrp hb6.2 hk (updX := [(kR r, .root (.c .hole) 0 0 .gone)]) (.inl ⟨rfl, rfl⟩)
        exact ⟨_, A, b, n, cap, vs, hX, fun r' pq mr e => by obtain rfl : r = r' := by injection e with e; injection e
                                                             exact hdis⟩
      · rw [eval_bif] at h
        split at h
        · refine fin h fun _ ra hra => ?_
          have hrp : Rp G.own w r [] m (a.eval x) (s.x.val ρ) := hor
          rw [hra] at hrp
          obtain ⟨A, b, n, cap, vs, hX⟩ := XOk.ofRp (ρ := ρ) hrp hb6.2 hk (updX := [(kR r, .root (.c .hole) 0 0 .gone)]) (.inl ⟨rfl, rfl⟩)
          exact ⟨_, A, b, n, cap, vs, hX, fun r' pq mr e => by obtain rfl : r = r' := by injection e with e; injection e
                                                               exact hdis⟩
        · cases h
      · rename_i q hne
        simp only [eval_bind, eval_guardR, Option.bind_eq_some_iff, eval_rdK, Option.bind_some] at h
        obtain ⟨_, h7, h⟩ := h
        split at h7
        case isFalse => cases h7
        rename_i hb7
        simp only [Bool.and_eq_true, Nat.ble_eq, Bool.not_eq_true'] at hb7
        rw [hk] at h
        dsimp only at h
        refine fin h fun hpre ra hra => ?_
        obtain ⟨hqm, hrp, hnest⟩ := hor
        rw [hra] at hrp
        have hupd := nest_upd hg q nv X (.c .hole) hpre
        obtain ⟨A, b, n, cap, vs, hX⟩ := XOk.ofRp (ρ := ρ) hrp (by omega) hk (.inr ⟨_, rfl, hupd, hnest, by simp [pathVal]; omega⟩)
        exact ⟨_, A, b, n, cap, vs, hX, fun r' pq mr e => by obtain rfl : r = r' := by injection e with e; injection e
                                                             exact hdis⟩
      · cases h
      · cases h
    · cases h
end
end Go.Proofs.YtpgnlmfmlffjcaaGreat.Rf

namespace Go.Proofs.YtpgnlmfmlffjcaaGreat.Rf
set_option linter.unusedVariables false
set_option linter.unusedSimpArgs false
section
variable {P : Program} {E : Env} {F : Frame0} {n : Nat} {σ : Nat -> Option Cont} {ρ : List D} {a : Act} {w w' : World} {G G' : Gh} {g : Option (Atom × Bool)} {o : Oper} {cf : Nat -> List D -> Option (List D)} {Q : Exit -> Act -> World -> Prop} {next : Act -> World -> Prop}
theorem zeroDs_get : ∀ {cs : List CK} {zs : List D}, zeroDs cs = some zs -> zs.length = cs.length /\ ∀ (j : Nat) (c : CK) (d : D), cs[j]? = some c -> zs[j]? = some d -> ∀ (v : Value), zeroCell v c = true -> ∀ (own : Nat -> Ow) (r : Nat) (p : List Nat) (m : Nat), Rp own w r p m v d
 | [], zs, h => by
  simp only [zeroDs, Option.some.injEq] at h
  subst h
  simp
 | c :: cs, zs, h => by
  have main : ∀ (d0 : D), (zeroDs cs).map (d0 :: ·) = some zs -> (∀ v, zeroCell v c = true -> ∀ (own : Nat -> Ow) (r : Nat) (p : List Nat) (m : Nat), Rp own w r p m v d0) ->
    zs.length = (c :: cs).length /\ ∀ (j : Nat) (c' : CK) (d : D), (c :: cs)[j]? = some c' -> zs[j]? = some d -> ∀ (v : Value), zeroCell v c' = true -> ∀ (own : Nat -> Ow) (r : Nat) (p : List Nat) (m : Nat), Rp own w r p m v d := by
   intro d0 h0 hd0
   simp only [Option.map_eq_some_iff] at h0
   obtain ⟨zs', h1, rfl⟩ := h0
   obtain ⟨h2, h3⟩ := zeroDs_get h1
   refine ⟨by simp [h2], fun j c' d hc hd v hv own r p m => ?_⟩
   cases j with
   | zero =>
    simp only [List.getElem?_cons_zero, Option.some.injEq] at hc hd
    subst hc hd
    exact hd0 v hv own r p m
   | succ j => exact h3 j c' d (by simpa using hc) (by simpa using hd) v hv own r p m
  have hz : ∀ v, zeroCell v c = true -> LeafRep (fun _ => none) [] ⟨fun _ => .frz, fun _ => undef, fun _ => ⟨0, 0, none⟩⟩ w (zeroLeaf c) v := fun v hv => zero_one hv
  cases c with
  | sc z =>
   refine main z h fun v hv own r p m => ?_
   have := hz v hv
   simp only [zeroLeaf, LeafRep, Atom.val] at this
   exact .sc this
  | sl sz =>
   refine main (.rows sz []) h fun v hv own r p m => ?_
   have := hz v hv
   simp only [zeroLeaf, LeafRep, Atom.val] at this
   rw [(this.2 (by simp)).2.1 trivial sz rfl]
   exact Rp.nil
  | pn => cases h
  | ot => cases h
theorem sound_makeSlice (hR : R E.ntmps F σ ρ a w G) (hd : DstOk E.ntmps o) (hti : TiOk P E.ti) {nv nb nr : Nat} {mv mvs : Bool} (hf : Fresh σ nb nr) {t : TypeId} {l c : Operand} (ho : o.op = .makeSlice t l c) {res : OpRes}
  (h : (sxOp E mv mvs nv nb nr g o).eval σ = some res) (hst : StepsOk cf ρ g nv res.lets) : Sound P E F σ ρ a w g o Q res.upd := by
 simp only [sxOp, ho, eval_bind, Option.bind_eq_some_iff, tiR, eval_ofOpt, eval_guardR] at h
 obtain ⟨st, h1, e, h2, ti, h3, _, h4, xl, h5, xc, h6, _, h7, zs, h8, h⟩ := h
 split at h4
 case isFalse => cases h4
 rename_i hg0
 obtain rfl := noG_eq hg0
 split at h7
 case isFalse => cases h7
 rename_i hb7
 simp only [Bool.and_eq_true, Nat.blt_eq] at hb7
 obtain ⟨⟨hxx, hsz⟩, hby⟩ := hb7
 obtain rfl := Atom.beq0_eq hxx
 obtain ⟨info, u, f⟩ := tiOf_facts (hti.ok _ _ h1)
 obtain rfl := elem_und f h2
 obtain ⟨info', u', f'⟩ := tiOf_facts (hti.ok _ _ h3)
 simp only [out1, eval_ret, Option.some.injEq] at h
 subst h
 simp only [dst_eq]
 refine ⟨fun hg => ?_, fun hg => by simp [gOn] at hg⟩
 obtain ⟨d, hd1, hd2⟩ := step1_one hst hg
 have hl := rdA_rep hR hg h5
 have hc := rdA_rep hR hg h6
 simp only [List.map_cons, List.map_nil] at hd1
 generalize hxv : xl.val ρ = xv at hd1 hl hc
 cases xv <;> simp only [Prim.run] at hd1 <;> first | cases hd1 | skip
 rename_i k len
 split at hd1
 case isFalse => cases hd1
 rename_i hlen
 obtain ⟨h0, hbound⟩ := hlen
 simp only [Option.some.injEq, List.cons.injEq, and_true] at hd1
 obtain ⟨z, hz1, hz2, -, hz3⟩ := f'.zeros (σ := σ) (ρ := ρ) (G := G) (w := w)
 obtain ⟨hzl, hzs⟩ := zeroDs_get (w := pushB w (madeCells z.cells (len.toNat * info'.size)) e) h8
 have hcl := f'.len
 have hzc : z.cells.size = ti.size := by rw [<- Array.length_toList, hz2.len, List.length_map, hcl]
 have hlt : len.toNat * 1 <= len.toNat * ti.bytes := Nat.mul_le_mul_left _ hby
 unfold boundB at hbound
 have hrun : (execOp a.eval o).run P w = .ok (.value (.slice (some ⟨w.heap.size, 0, none⟩) len.toNat len.toNat)) (pushB w (madeCells z.cells (len.toNat * info'.size)) e) := by
  unfold execOp
  simp only [ho]
  refine run_val ?_
  rw [hl.int_inv, hc.int_inv]
  have hb1 : (info'.bytes : Int) * len <= 281474976710656 := by
   rw [<- f'.bytes]
   have : ((ti.bytes * len.toNat : Nat) : Int) <= 281474976710656 := by rw [Nat.mul_comm] at hbound; omega
   rw [Int.natCast_mul] at this
   rwa [show ((len.toNat : Nat) : Int) = len by omega] at this
  exact run_make w t e info' z f.und f'.info_ hz1 k k len len h0 (Int.le_refl _) hb1 (by omega)
 have hnrσ : σ (kR nr) = none := hf.nr nr (Nat.le_refl _) (by unfold maxRoots; omega)
 have hnr : ∀ r, (σ (kR r)).isSome -> r ≠ nr := fun r hr e => by rw [e, hnrσ] at hr; cases hr
 have hslt : ∀ b, G.own b ≠ .frz -> b < w.heap.size := fun b hb => by
  rcases Nat.lt_or_ge b w.heap.size with h | h
  ·exact h
  ·exact absurd (hR.frame.fresh b h) hb
 refine wp_value hrun ⟨{ G with own := fun b => if b = w.heap.size then .slc nr [] else G.own b, hdr := fun r => if r = nr then .slice (some ⟨w.heap.size, 0, none⟩) len.toNat len.toNat else G.hdr r }, ?_⟩
 refine hR.own hd (wr := fun _ => False) (f := fun s p => .slc s p) ?_ ?_ ?_ ?_ ?_ (fun b hlt _ => pushB_old (by omega)) (fun _ h => h.elim) (fun _ _ _ _ _ => rfl) ?_ (fun _ _ _ _ _ s p q h => by injection h with h1 h2; exact ⟨h1, h2⟩) ?_ rfl ?_ ?_
 ·intro k c hc
  simp only [List.mem_singleton, Prod.mk.injEq] at hc
  exact ⟨nr, hc.1⟩
 ·intro b hlt
  show (if b = w.heap.size then Ow.slc nr [] else _) = _
  rw [if_neg (by omega)]
  cases hb : G.own b <;> rfl
 ·intro b hb
  rw [pushB_size] at hb
  show (if b = w.heap.size then Ow.slc nr [] else G.own b) = .frz
  rw [if_neg (by omega)]
  exact hR.frame.fresh b (by omega)
 ·exact ⟨rfl, rfl, rfl, by rw [pushB_size]; omega⟩
 ·intro b hb
  show (if b = w.heap.size then Ow.slc nr [] else G.own b) = .frz \/ ∃ r p, (if b = w.heap.size then Ow.slc nr [] else G.own b) = .slc r p /\ _
  by_cases e : b = w.heap.size
  ·rw [if_pos e]; exact .inr ⟨nr, [], rfl, hnrσ⟩
  ·rw [if_neg e]; exact .inl (hR.frame.fresh b hb)
 ·intro s c hc _
  simp only [List.mem_singleton, Prod.mk.injEq] at hc
  obtain ⟨e1, rfl⟩ := hc
  obtain rfl := kR_inj e1
  exact .inl ⟨hnrσ, _, _, _, _, rfl⟩
 ·intro r hr
  show (if r = nr then _ else _) = _
  rw [if_neg (hnr r hr)]
 ·intro _ _
  simp only [SVRep, LeafRep, if_true]
  exact ⟨trivial, upds_some _ _ _ (.inr ⟨_, List.mem_append_right _ (List.mem_singleton.2 rfl)⟩), rfl⟩
 ·intro _ s c hc _
  simp only [List.mem_singleton, Prod.mk.injEq] at hc
  obtain ⟨e1, rfl⟩ := hc
  obtain rfl := kR_inj e1
  refine ⟨_, _, _, _, rfl, ?_⟩
  simp only [RootRep, if_true]
  rw [hd2, <- hd1]
  have hzz : zs.length = ti.size := by rw [hzl, hcl]
  have hget : ∀ k, k < len.toNat * ti.size -> (madeCells z.cells (len.toNat * info'.size))[k]? = z.cells[k % ti.size]? := by
   intro k hk
   unfold madeCells
   rw [modGet _ (by omega) _ _ (by rw [<- f'.size]; exact hk), hzc]
  have hidx : ∀ i row, (List.replicate len.toNat zs)[i]? = some row -> ∀ j d, row[j]? = some d -> i < len.toNat /\ row = zs /\ j < ti.size /\ i * ti.size + j < len.toNat * ti.size /\ (i * ti.size + j) % ti.size = j := by
   intro i row hi j d hj
   rw [List.getElem?_replicate] at hi
   split at hi
   case isFalse => cases hi
   rename_i hil
   obtain rfl := Option.some.inj hi
   have hjl : j < ti.size := by rw [<- hzz]; exact (List.getElem?_eq_some_iff.1 hj).1
   have := Nat.mul_le_mul_right ti.size (show i + 1 <= len.toNat by omega)
   rw [Nat.add_mul] at this
   exact ⟨hil, rfl, hjl, by omega, by rw [Nat.mul_comm, Nat.mul_add_mod, Nat.mod_eq_of_lt hjl]⟩
  refine .sl _ ⟨w.heap.size, 0, none⟩ len.toNat len.toNat zs.length _ (fun i j => z.cells[j]!) (by simp) (Nat.le_refl _) (.inl rfl) (fun row hr => ?_) (fun _ => ⟨rfl, by simp, fun k hk => ?_⟩) (fun i row hi j d hj => ?_) (fun i row hi j d hj => ?_)
  ·rw [List.eq_of_mem_replicate hr]
  ·rw [hzz] at hk
   rw [pushB_cell, pushB_frozen, hget k hk]
   have hk2 : k % ti.size < z.cells.size := by rw [hzc]; exact Nat.mod_lt _ hsz
   exact ⟨_, Array.getElem?_eq_getElem hk2, rfl⟩
  ·obtain ⟨i1, rfl, i3, i4, i5⟩ := hidx i row hi j d hj
   rw [pushB_cell, hzz, hget _ i4, i5, getElem!_pos z.cells j (by omega), Array.getElem?_eq_getElem]
  ·obtain ⟨i1, rfl, i3, i4, i5⟩ := hidx i row hi j d hj
   have hc' : ti.cells[j]? = some ti.cells[j] := List.getElem?_eq_getElem (by omega)
   exact hzs j _ d hc' hj _ (hz3 j _ _ (by rw [getElem!_pos z.cells j (by omega), Array.getElem?_eq_getElem]) hc') _ _ _ _
theorem sound_clear (hR : R E.ntmps F σ ρ a w G) (hd : DstOk E.ntmps o) (hti : TiOk P E.ti) {nv : Nat} {args : Array Operand} {argTypes : Array TypeId} (ho : o.op = .call { callee := .builtin .clear, args, argTypes })
  {x : Operand} (hargs : args.toList = [x]) {t e : TypeId} {ti ei : TI} (ht : argTypes[0]? = some t) (hi : E.ti t = some ti) (he : ti.elem = some e) (hei : E.ti e = some ei) (hgd : (noG g && Nat.beq argTypes.size 1) = true) {l : Leaf} (hl : (rdL E g t x).eval σ = some l) {res : OpRes}
  (h : (sxClear nv o ei l).eval σ = some res) (hst : StepsOk cf ρ g nv res.lets) : Sound P E F σ ρ a w g o Q res.upd := by
 simp only [Bool.and_eq_true, Nat.beq_eq] at hgd
 obtain rfl := noG_eq hgd.1
 have hat : argTypes = #[t] := by
  apply Array.ext'
  apply List.ext_getElem?
  intro k
  match k with
  | 0 => simpa using ht
  | k + 1 => simp [hgd.2]
 simp only [sxClear, eval_bind, Option.bind_eq_some_iff] at h
 obtain ⟨s, h1, h⟩ := h
 split at h
 case h_2 => cases h
 rename_i r k m sz lo hown
 simp only [eval_bind, eval_guardR, Option.bind_eq_some_iff, eval_rdK, Option.bind_some] at h
 obtain ⟨_, h2, h⟩ := h
 split at h2
 case isFalse => cases h2
 rename_i hb
 simp only [Bool.and_eq_true, Nat.beq_eq, Nat.ble_eq] at hb
 obtain ⟨⟨rfl, hei1⟩, hm1⟩ := hb
 split at h
 case h_2 => cases h
 rename_i X m' ver hk
 simp only [eval_ret, Option.some.injEq] at h
 subst h
 refine ⟨fun hg => ?_, fun hg => by simp [gOn] at hg⟩
 obtain ⟨i1, u1, f1⟩ := tiOf_facts (hti.ok _ _ hi)
 obtain rfl := elem_und f1 he
 obtain ⟨i2, u2, f2⟩ := tiOf_facts (hti.ok _ _ hei)
 have hlx := rdL_rep hR hg hl
 have hsl := rdSl_rep hR h1 hlx
 have hor := hsl.own
 unfold OwnRep at hor
 rw [hown] at hor
 obtain ⟨-, ⟨X0, hl0⟩, hsuf⟩ := hor
 rw [hk] at hl0
 obtain ⟨rfl, rfl, rfl⟩ : X = X0 /\ m' = m /\ ver = k := by
  injection hl0 with e; injection e with e1 e2 e3 e4; exact ⟨e1, e2, e3⟩
 have hroot := hR.root hk
 simp only [RootRep] at hroot
 obtain ⟨d, hd1, hd2⟩ := step1_one hst hg
 simp only [List.map_cons, List.map_nil] at hd1
 obtain ⟨rs, ki, L, eX, eL, hL0, ed⟩ : ∃ rs ki L, X.val ρ = .rows 1 rs /\ lo.val ρ = .int ki L /\ 0 <= L /\ d = .rows 1 (rs.take L.toNat ++ (rs.drop L.toNat).map fun r => r.map fun _ => .hole) := by
  cases eX : X.val ρ <;> cases eL : lo.val ρ <;> rw [eX, eL] at hd1 <;> simp only [Prim.run] at hd1 <;> first | cases hd1 | skip
  split at hd1
  ·rename_i hc
   obtain ⟨rfl, hc⟩ := hc
   simp only [Option.some.injEq, List.cons.injEq, and_true] at hd1
   exact ⟨_, _, _, rfl, rfl, hc, hd1.symm⟩
  ·cases hd1
 have hidx : idxVal ρ lo = L.toNat := by unfold idxVal; rw [eL]
 dsimp only at hsuf
 rw [hidx] at hsuf
 rw [eX] at hroot
 obtain ⟨md, rfl⟩ : ∃ md, m' = md + 1 := ⟨m' - 1, by omega⟩
 obtain ⟨A, b, n, c, vs, j1, j2, j3, j4, j5, j6, j7, j8⟩ := hroot.sl_inv
 obtain ⟨A', n', c', k1, k2, k3⟩ := hsuf
 rw [j1] at k1
 obtain ⟨rfl, rfl, rfl⟩ : A = A' /\ n = n' /\ c = c' := by injection k1 with a b c; exact ⟨a, b, c⟩
 obtain ⟨z, hz1, hz2, hz3, -⟩ := f2.zeros (σ := σ) (ρ := ρ) (G := G) (w := w)
 have hzl : z.cells.size = 1 := by rw [<- Array.length_toList, hz2.len, List.length_map, f2.len, hei1]
 generalize hZ : (Builtin.zeroCells z.cells (n - L.toNat)).toList = Z
 have hZl : Z.length = n - L.toNat := by rw [<- hZ]; simp [Builtin.zeroCells, hzl]
 have hZ1 : ∀ u ∈ Z, u.oneCell' = true := by
  intro u hu
  rw [<- hZ, Builtin.zeroCells, Array.mem_toList_iff, Array.mem_map] at hu
  obtain ⟨i, hi, rfl⟩ := hu
  have hlt : i % z.cells.size < z.cells.size := Nat.mod_lt _ (by omega)
  rw [getElem!_pos z.cells _ hlt]
  exact hz3 _ (Array.getElem_mem_toList hlt)
 have hop : ∀ {v : Value} {w1 : World}, (Builtin.clear_ #[t] o.type #[a.eval x]).run P w = .ok v w1 -> (execOp a.eval o).run P w = .ok (.value v) w1 := by
  intro v w1 h
  refine run_builtin ho (s := Builtin.clear_ argTypes o.type (args.map a.eval)) (fun _ => rfl) ?_
  rw [args_one hargs, map_one, hat]
  exact h
 rw [k3] at hop
 obtain ⟨w', hrun, hw⟩ : ∃ w', (execOp a.eval o).run P w = .ok (.value (.tuple #[])) w' /\ ((n = L.toNat /\ w' = w) \/ (L.toNat < n /\ A = some b /\ w' = w.setCells b.block (b.off + L.toNat) Z)) := by
  rcases Nat.lt_or_ge L.toNat n with hlt | hge
  ·obtain rfl : A = some b := by
    rcases j4 with h | ⟨-, h⟩
    ·exact h
    ·omega
   obtain ⟨hsp, hob, hall⟩ := j6 rfl
   have hcells : ∀ j, j < Z.length -> ∃ u, w.cell? ⟨b.block, b.off + L.toNat + j, none⟩ = some u /\ w.frozen? ⟨b.block, b.off + L.toNat + j, none⟩ = false := fun j hj => by
    have := hall (L.toNat + j) (by omega)
    rw [add_plain hsp, <- Nat.add_assoc] at this
    exact this
   have hst := run_storeCells_cells (P := P) b.block (b.off + L.toNat) Z 0 w (fun j hj => by obtain ⟨u, h1, -⟩ := hcells j hj; rw [Nat.add_zero, h1]; rfl) (fun j hj => by rw [Nat.add_zero]; exact (hcells j hj).choose_spec.2) hZ1
   refine ⟨_, hop ?_, .inr ⟨hlt, rfl, rfl⟩⟩
   obtain ⟨q, hq⟩ : ∃ q, n - L.toNat = q + 1 := ⟨n - L.toNat - 1, by omega⟩
   rw [if_neg (by omega), hq]
   rw [hq] at hZ
   simp only [Option.map_some, Nat.mul_one, add_plain hsp]
   simp only [Nat.add_zero] at hst
   simp [Builtin.clear_, run_underlying f1.und, run_zeroValue f2.info_ hz1, hZ, hst]
  ·refine ⟨w, hop ?_, .inl ⟨by omega, rfl⟩⟩
   have e0 : n - L.toNat = 0 := by omega
   rw [e0]
   simp only [Builtin.clear_]
   cases (if c = L.toNat then A else A.map (·.add (L.toNat * 1))) <;> simp [run_underlying f1.und]
 have hrest : w'.os = w.os /\ w'.tape = w.tape /\ w'.output = w.output /\ w.heap.size <= w'.heap.size := by
  rcases hw with ⟨-, rfl⟩ | ⟨-, -, rfl⟩
  ·exact ⟨rfl, rfl, rfl, Nat.le_refl _⟩
  ·obtain ⟨q1, q2, q3⟩ := setCells_rest b.block Z (b.off + L.toNat) w
   exact ⟨q1, q2, q3, by rw [setCells_size]; exact Nat.le_refl _⟩
 have hsize : w'.heap.size = w.heap.size := by
  rcases hw with ⟨-, rfl⟩ | ⟨-, -, rfl⟩
  ·rfl
  ·rw [setCells_size]
 have hheap : ∀ b', ¬ (A = some b /\ b' = b.block) -> w'.heap[b']? = w.heap[b']? := by
  intro b' hb'
  rcases hw with ⟨-, rfl⟩ | ⟨-, hA, rfl⟩
  ·rfl
  ·exact setCells_other _ _ _ _ _ fun e => hb' ⟨hA, e⟩
 refine wp_value hrun ⟨G, ?_⟩
 have hfin := hR.own (o := o) hd (g := none) (sv := .dead) (v := .tuple #[]) (w' := w') (G' := G) (ur := [(kR r, .root (.v nv) (md + 1) (ver + 1) .live)]) (f := fun s p => .slc s p) (wr := fun b' => A = some b /\ b' = b.block)
  ?_ (fun b' _ => by cases hb : G.own b' <;> rfl) (fun b' hb => hR.frame.fresh b' (by omega)) hrest (fun b' hb => .inl (hR.frame.fresh b' hb)) (fun b' _ hb => hheap b' hb) ?_ (fun _ _ _ _ _ => rfl) ?_ (fun _ _ _ _ _ s p q h => by injection h with h1 h2; exact ⟨h1, h2⟩) (fun _ _ => rfl) rfl (fun _ _ => trivial) ?_
 ·exact hfin
 ·intro k' c' hc
  exact ⟨r, (Prod.mk.inj (List.mem_singleton.1 hc)).1⟩
 ·rintro b' ⟨hA, rfl⟩
  exact ⟨r, [], (j6 hA).2.1, _, List.mem_singleton.2 rfl⟩
 ·intro s' c' hc _
  obtain ⟨e1, rfl⟩ := Prod.mk.inj (List.mem_singleton.1 hc)
  obtain rfl := kR_inj e1
  exact .inr (.inl ⟨_, _, _, _, _, hk, rfl⟩)
 ·intro _ s' c' hc _
  obtain ⟨e1, rfl⟩ := Prod.mk.inj (List.mem_singleton.1 hc)
  obtain rfl := kR_inj e1
  refine ⟨_, _, _, _, rfl, ?_⟩
  simp only [RootRep]
  rw [hd2, ed, j1]
  have hcell' : ∀ k u, w.cell? (b.add k) = some u -> A = some b -> (k < L.toNat -> w'.cell? (b.add k) = some u) /\ (∃ u', w'.cell? (b.add k) = some u') /\ w'.frozen? (b.add k) = w.frozen? (b.add k) := by
   intro k u hc hA
   obtain ⟨hsp, hob, hall⟩ := j6 hA
   rcases hw with ⟨-, rfl⟩ | ⟨hlt, -, rfl⟩
   ·exact ⟨fun _ => hc, ⟨u, hc⟩, rfl⟩
   ·refine ⟨fun hk => ?_, ?_, World.frozen?_setCells _ _ _ _ _⟩
    ·rw [add_plain hsp] at hc ⊢
     rw [World.cell?_setCells_out _ _ _ _ _ (fun _ _ => .inl (by dsimp only; omega))]
     exact hc
    ·exact setCells_cell (fun _ => by rw [add_plain hsp]) (fun j hj => by
      obtain ⟨u', h1, -⟩ := hall (L.toNat + j) (by omega)
      rw [add_plain hsp, <- Nat.add_assoc] at h1
      rw [h1]; rfl) hc
  have hA' : ∀ i, i < n -> A = some b := fun i hi => by
   rcases j4 with h | ⟨-, h⟩
   ·exact h
   ·omega
  have hrow : ∀ i row, (rs.take L.toNat ++ (rs.drop L.toNat).map fun r => r.map fun _ => D.hole)[i]? = some row -> (i < L.toNat /\ rs[i]? = some row) \/ (L.toNat <= i /\ ∃ row0, rs[i]? = some row0 /\ row = row0.map fun _ => D.hole) := by
   intro i row hi
   have hl1 : (rs.take L.toNat).length = L.toNat := by rw [List.length_take]; omega
   rcases Nat.lt_or_ge i L.toNat with hlt | hge
   ·rw [List.getElem?_append_left (by omega), List.getElem?_take, if_pos hlt] at hi
    exact .inl ⟨hlt, hi⟩
   ·rw [List.getElem?_append_right (by omega), hl1, List.getElem?_map, Option.map_eq_some_iff] at hi
    obtain ⟨row0, h1, rfl⟩ := hi
    rw [List.getElem?_drop, show L.toNat + (i - L.toNat) = i by omega] at h1
    exact .inr ⟨hge, row0, h1, rfl⟩
  refine .sl A b n c 1 _ (fun i j => if i < L.toNat then vs i j else (w'.cell? (b.add (i * 1 + j))).getD undef) ?_ j3 j4 ?_ (fun hA => ?_) (fun i row hi j d hj => ?_) (fun i row hi j d hj => ?_)
  ·rw [List.length_append, List.length_take, List.length_map, List.length_drop]; omega
  ·intro row hr
   obtain ⟨i, hi⟩ := List.mem_iff_getElem?.1 hr
   rcases hrow i row hi with ⟨-, h⟩ | ⟨-, row0, h, rfl⟩
   ·exact j5 row (List.mem_of_getElem? h)
   ·rw [List.length_map]; exact j5 row0 (List.mem_of_getElem? h)
  ·obtain ⟨hsp, hob, hall⟩ := j6 hA
   refine ⟨hsp, hob, fun k hk => ?_⟩
   obtain ⟨u, hu, hf⟩ := hall k hk
   obtain ⟨-, ⟨u', h1⟩, h2⟩ := hcell' k u hu hA
   exact ⟨u', h1, h2.trans hf⟩
  ·rcases hrow i row hi with ⟨hlt, h⟩ | ⟨hge, row0, h, rfl⟩
   ·rw [if_pos hlt]
    have hjl : j < 1 := by rw [<- j5 row (List.mem_of_getElem? h)]; exact (List.getElem?_eq_some_iff.1 hj).1
    exact (hcell' _ _ (j7 i row h j d hj) (hA' i (by rw [<- j2]; exact (List.getElem?_eq_some_iff.1 h).1))).1 (by omega)
   ·rw [if_neg (by omega)]
    rw [List.getElem?_map, Option.map_eq_some_iff] at hj
    obtain ⟨d0, hj, -⟩ := hj
    obtain ⟨-, ⟨u', h1⟩, -⟩ := hcell' _ _ (j7 i row0 h j d0 hj) (hA' i (by rw [<- j2]; exact (List.getElem?_eq_some_iff.1 h).1))
    rw [h1]; rfl
  ·rcases hrow i row hi with ⟨hlt, h⟩ | ⟨hge, row0, h, rfl⟩
   ·rw [if_pos hlt]
    have h1 := j8 i row h j d hj
    have := h1.mono' (own' := G.own) (w' := w') (r' := s') (q := [i * 1 + j]) (q' := [i * 1 + j]) (fun b' hb _ => ⟨hb, hheap b' fun ⟨hA, e⟩ => by rw [e, (j6 hA).2.1] at hb; cases hb⟩) [] (by simp) (fun b' t' hb => ⟨hb, hheap b' fun ⟨hA, e⟩ => by rw [e, (j6 hA).2.1] at hb; injection hb with _ hb; simp at hb⟩)
    simpa using this
   ·rw [if_neg (by omega)]
    rw [List.getElem?_map, Option.map_eq_some_iff] at hj
    obtain ⟨d0, hj, rfl⟩ := hj
    refine .hole _ ?_
    have hil : i < n := by rw [<- j2]; exact (List.getElem?_eq_some_iff.1 h).1
    have hA := hA' i hil
    rcases hw with ⟨hn, -⟩ | ⟨hlt, -, rfl⟩
    ·omega
    ·obtain ⟨hsp, hob, hall⟩ := j6 hA
     have hjl : j < 1 := by rw [<- j5 row0 (List.mem_of_getElem? h)]; exact (List.getElem?_eq_some_iff.1 hj).1
     have hkl : i - L.toNat < Z.length := by omega
     have := World.cell?_setCells_in b.block Z (b.off + L.toNat) w (fun j hj => by obtain ⟨u, h1, -⟩ := hall (L.toNat + j) (by omega); rw [add_plain hsp, <- Nat.add_assoc] at h1; rw [h1]; rfl) (i - L.toNat) hkl
     rw [show b.off + L.toNat + (i - L.toNat) = b.off + (i * 1 + j) by omega] at this
     rw [add_plain hsp, this]
     exact hZ1 _ (List.getElem_mem hkl)
end
end Go.Proofs.YtpgnlmfmlffjcaaGreat.Rf

namespace Go.Proofs.YtpgnlmfmlffjcaaGreat.Rf
set_option linter.unusedVariables false
set_option linter.unusedSimpArgs false
section
variable {P : Program} {E : Env} {F : Frame0} {n : Nat} {σ : Nat -> Option Cont} {ρ : List D} {a : Act} {w w' : World} {G G' : Gh} {g : Option (Atom × Bool)} {o : Oper} {cf : Nat -> List D -> Option (List D)} {Q : Exit -> Act -> World -> Prop} {next : Act -> World -> Prop}
theorem sound_store (hR : R E.ntmps F σ ρ a w G) (hti : TiOk P E.ti) {nv nb nr : Nat} {mv mvs : Bool} {t : TypeId} {x y : Operand} (ho : o.op = .store t x y) {res : OpRes}
  (h : (sxOp E mv mvs nv nb nr g o).eval σ = some res) (hst : StepsOk cf ρ g nv res.lets) : Sound P E F σ ρ a w g o Q res.upd := by
 simp only [sxOp, ho, eval_bind, Option.bind_eq_some_iff, tiR, eval_ofOpt] at h
 obtain ⟨ti, h1, p, h2, sv, h3, h⟩ := h
 split at h
 case h_2 => cases h
 rename_i ls hls
 have hx : gOn ρ g = true -> LeafRep σ ρ G w p (a.eval x) := fun hg => rdL_rep hR hg h2
 have hy : gOn ρ g = true -> SVRep σ ρ G w sv (a.eval y) := fun hg => rdSV_rep hR hg h3
 cases p with
 | px b off => exact sound_store_px hR hti ho h1 hx hy hls h
 | pe l sz i off => exact sound_store_pe hR hti ho h1 hx hy hls h hst
 | _ =>
  simp only [sxStore, eval_bind, eval_guardR, Option.bind_eq_some_iff, eval_no] at h
  obtain ⟨_, _, h⟩ := h
  cases h
theorem sound_op (hR : R E.ntmps F σ ρ a w G) (hd : DstOk E.ntmps o) (hti : TiOk P E.ti) {nv nb nr : Nat} {mv mvs : Bool} (hf : Fresh σ nb nr) {res : OpRes}
  (h : (sxOp E mv mvs nv nb nr g o).eval σ = some res) (hst : StepsOk cf ρ g nv res.lets)
  (hcall : ∀ f args argTypes, o.op = .call { callee := .value f, args, argTypes } -> Sound P E F σ ρ a w g o Q res.upd) : Sound P E F σ ρ a w g o Q res.upd := by
 have h0 := h
 cases ho : o.op with
 | move x =>
  simp only [sxOp, ho] at h
  exact sound_move hR hd (.inl ho) h hst
 | assign x =>
  simp only [sxOp, ho] at h
  exact sound_move hR hd (.inr ho) h hst
 | pick c x y =>
  simp only [sxOp, ho] at h
  exact sound_pick hR hd ho h hst
 | alloc e => exact sound_alloc hR hd hti hf ho h hst
 | box e x => exact sound_box hR hd hti hf ho h hst
 | build t parts => exact sound_build hR hd hti ho h hst
 | buildSlice t len parts => exact sound_buildSlice hR hd hti (hf.nr nr (Nat.le_refl _) (by unfold maxRoots; omega)) ho h hst
 | load t x =>
  simp only [sxOp, ho, eval_bind, Option.bind_eq_some_iff, tiR, eval_ofOpt] at h
  obtain ⟨ti, h1, p, h2, h⟩ := h
  exact sound_load hR hd hti ho h1 (fun hg => rdL_rep hR hg h2) h hst
 | store t x y => exact sound_store hR hti ho h hst
 | nilCheck x =>
  simp only [sxOp, ho] at h
  exact sound_nilCheck hR hd ho h hst
 | binOp op t x y ty =>
  by_cases h1 : op = .eql
  ·subst h1
   simp only [sxOp, ho] at h
   exact sound_eq hR hd hti ho rfl h hst
  ·by_cases h2 : op = .neq
   ·subst h2
    simp only [sxOp, ho] at h
    exact sound_eq hR hd hti ho rfl h hst
   ·have h' : (do
      let a <- rdA E g t x
      let b <- rdA E g ty y
      outS o g nv (.bin op) [a, b] : RdM OpRes).eval σ = some res := by
     simp only [sxOp, ho] at h
     cases op <;> first | exact h | (exact absurd rfl h1) | (exact absurd rfl h2)
    simp only [eval_bind, Option.bind_eq_some_iff] at h'
    obtain ⟨x', h3, y', h4, h5⟩ := h'
    exact sound_bin hR hd ho (fun hg => rdA_rep hR hg h3) (fun hg => rdA_rep hR hg h4) h5 hst
 | unOp op t x =>
  simp only [sxOp, ho] at h
  exact sound_un hR hd ho h hst
 | convert src dst x =>
  simp only [sxOp, ho, eval_bind, Option.bind_eq_some_iff, tiR, eval_ofOpt] at h
  obtain ⟨s, h1, d, h2, h⟩ := h
  split at h
  ·rename_i k hk
   simp only [eval_bind, Option.bind_eq_some_iff, eval_guardR] at h
   obtain ⟨_, h3, x', h4, h⟩ := h
   split at h3
   case isFalse => cases h3
   rename_i hs
   exact sound_conv hR hd hti ho h1 hs h2 hk h4 h hst
  ·rw [eval_bif] at h
   split at h
   case isFalse => cases h
   rename_i hdS
   rw [eval_bif] at h
   split at h
   ·rename_i hsS
    simp only [eval_bind, Option.bind_eq_some_iff] at h
    obtain ⟨x', h4, h⟩ := h
    exact sound_strstr hR hd hti ho h1 hsS h2 hdS h4 h hst
   ·simp only [eval_bind, Option.bind_eq_some_iff, eval_guardR, eval_ofOpt] at h
    obtain ⟨e, h3, ei, h4, _, h5, l, h6, r, h7, h⟩ := h
    split at h5
    case isFalse => cases h5
    rename_i hk
    exact sound_bstr hR hd hti ho h1 h3 h4 hk h2 hdS h6 h7 h hst
 | makeFunc fn first caps =>
  cases fn with
  | func fn =>
   simp only [sxOp, ho] at h
   exact sound_makeFunc hR hd ho h hst
  | _ => simp only [sxOp, ho] at h; cases h
 | makeSlice t l c => exact sound_makeSlice hR hd hti hf ho h hst
 | slice t x lo hi mx => exact sound_slice hR hd hti ho h hst
 | fieldAddr t x k =>
  simp only [sxOp, ho, eval_bind, Option.bind_eq_some_iff, tiR, eval_ofOpt] at h
  obtain ⟨ti, h1, h⟩ := h
  split at h
  case h_2 => cases h
  rename_i off ft hfl
  simp only [eval_bind, Option.bind_eq_some_iff, eval_guardR, eval_ofOpt] at h
  obtain ⟨fi, h2, _, h3, p, h4, h⟩ := h
  split at h3
  case isFalse => cases h3
  rename_i hpos
  exact sound_fieldAddr hR hd hti ho h1 hfl h2 (by simpa using hpos) (by simp only [eval_bind, Option.bind_eq_some_iff]; exact ⟨p, h4, h⟩) hst
 | field t x k =>
  simp only [sxOp, ho, eval_bind, Option.bind_eq_some_iff, tiR, eval_ofOpt] at h
  obtain ⟨ti, h1, h⟩ := h
  split at h
  case h_2 => cases h
  rename_i off ft hfl
  simp only [eval_bind, Option.bind_eq_some_iff, eval_ofOpt] at h
  obtain ⟨fi, h2, sv, h3, h⟩ := h
  exact sound_field hR hd hti ho h1 hfl h2 (by simp only [eval_bind, Option.bind_eq_some_iff]; exact ⟨sv, h3, h⟩) hst
 | indexAddr t x i =>
  simp only [sxOp, ho, eval_bind, Option.bind_eq_some_iff, tiR, eval_ofOpt] at h
  obtain ⟨ti, h1, e, h2, ei, h3, l, h4, s, h5, y, h6, u, h7, h⟩ := h
  exact sound_indexAddr hR hd hti ho h1 h2 h3 (by simp only [eval_bind, Option.bind_eq_some_iff]; exact ⟨l, h4, s, h5, y, h6, u, h7, h⟩) hst
 | index t x i =>
  simp only [sxOp, ho, eval_bind, Option.bind_eq_some_iff, tiR, eval_ofOpt] at h
  obtain ⟨ti, h1, h⟩ := h
  exact sound_index hR hd hti ho h1 (by simp only [eval_bind, Option.bind_eq_some_iff]; exact h) hst
 | extract x i =>
  simp only [sxOp, ho] at h
  exact sound_extract hR hd ho h hst
 | call c =>
  obtain ⟨callee, args, argTypes⟩ := c
  cases callee with
  | value f => exact hcall f args argTypes ho
  | invoke recv name => simp only [sxOp, ho] at h; cases h
  | builtin b =>
   simp only [sxOp, ho] at h
   cases hargs : args.toList with
   | nil =>
    rw [hargs] at h
    cases b <;> first | (cases h; done) | skip
    all_goals
     simp only [eval_bind, Option.bind_eq_some_iff, eval_ofOpt] at h
     obtain ⟨svs, h1, as, h2, h⟩ := h
     obtain ⟨ls, h3, h4⟩ := h2
     first
     | exact sound_minmax hR hd (.inl ⟨rfl, rfl, rfl⟩) ho (by rw [hargs]; exact h1) h3 h4 h hst
     | exact sound_minmax hR hd (.inr ⟨rfl, rfl, rfl⟩) ho (by rw [hargs]; exact h1) h3 h4 h hst
   | cons x xs =>
    rw [hargs] at h
    cases xs with
    | nil =>
     cases b <;> first | (cases h; done) | skip
     ·simp only [eval_bind, Option.bind_eq_some_iff, eval_ofOpt, tiR, eval_guardR] at h
      obtain ⟨t, h1, ti, h2, e, h3, ei, h4, _, h5, l, h6, h⟩ := h
      split at h5
      case isFalse => cases h5
      rename_i hgd
      exact sound_clear hR hd hti ho hargs h1 h2 h3 h4 hgd h6 h hst
     ·simp only [eval_bind, Option.bind_eq_some_iff, eval_ofOpt, tiR] at h
      obtain ⟨t, h1, ti, h2, h⟩ := h
      exact sound_len hR hd hti ho hargs h1 h2 (by simp only [eval_bind, Option.bind_eq_some_iff]; exact h) hst
     all_goals
      simp only [eval_bind, Option.bind_eq_some_iff, eval_ofOpt] at h
      obtain ⟨svs, h1, as, h2, h⟩ := h
      obtain ⟨ls, h3, h4⟩ := h2
      first
      | exact sound_minmax hR hd (.inl ⟨rfl, rfl, rfl⟩) ho (by rw [hargs]; exact h1) h3 h4 h hst
      | exact sound_minmax hR hd (.inr ⟨rfl, rfl, rfl⟩) ho (by rw [hargs]; exact h1) h3 h4 h hst
    | cons y ys =>
     cases ys with
     | nil =>
      cases b <;> first | (cases h; done) | skip
      ·simp only [eval_bind, Option.bind_eq_some_iff, eval_ofOpt, tiR, eval_guardR] at h
       obtain ⟨t, h1, ty, h2, ti, h3, e, h4, ei, h5, yi, h6, _, h7, lx, h8, ly, h9, h⟩ := h
       split at h7
       case isFalse => cases h7
       rename_i hgd
       exact sound_append hR hd hti hf ho hargs h1 h2 h3 h4 h5 h6 hgd h8 h9 h hst
      all_goals
       simp only [eval_bind, Option.bind_eq_some_iff, eval_ofOpt] at h
       obtain ⟨svs, h1, as, h2, h⟩ := h
       obtain ⟨ls, h3, h4⟩ := h2
       first
       | exact sound_minmax hR hd (.inl ⟨rfl, rfl, rfl⟩) ho (by rw [hargs]; exact h1) h3 h4 h hst
       | exact sound_minmax hR hd (.inr ⟨rfl, rfl, rfl⟩) ho (by rw [hargs]; exact h1) h3 h4 h hst
     | cons z zs =>
      cases b <;> first | (cases h; done) | skip
      all_goals
       simp only [eval_bind, Option.bind_eq_some_iff, eval_ofOpt] at h
       obtain ⟨svs, h1, as, h2, h⟩ := h
       obtain ⟨ls, h3, h4⟩ := h2
       first
       | exact sound_minmax hR hd (.inl ⟨rfl, rfl, rfl⟩) ho (by rw [hargs]; exact h1) h3 h4 h hst
       | exact sound_minmax hR hd (.inr ⟨rfl, rfl, rfl⟩) ho (by rw [hargs]; exact h1) h3 h4 h hst
 | _ => simp only [sxOp, ho] at h; cases h
end
end Go.Proofs.YtpgnlmfmlffjcaaGreat.Rf

namespace Go.Proofs.YtpgnlmfmlffjcaaGreat.Rf
set_option linter.unusedVariables false
set_option linter.unusedSimpArgs false
theorem Tr.get_set {α : Type} : ∀ (d : Nat) (t : Tr α) (n m : Nat) (x : Option α), (Tr.set d t n x).get m = if m = n then x else t.get m
 | 0, t, n, m, x => by
  simp only [Tr.set, Tr.get]
  by_cases h : m = n
  ·subst h; simp
  ·have : Nat.beq m n = false := by
    cases e : Nat.beq m n with
    | false => rfl
    | true => simp only [Nat.beq_eq] at e; exact absurd e h
   rw [this, cond_false, if_neg h]
 | d + 1, .over k y t, n, m, x => by
  simp only [Tr.set]
  by_cases h : m = n
  ·subst h; simp [Tr.get]
  ·have : Nat.beq m n = false := by
    cases e : Nat.beq m n with
    | false => rfl
    | true => simp only [Nat.beq_eq] at e; exact absurd e h
   rw [if_neg h]
   show (bif Nat.beq m n then x else _) = _
   rw [this, cond_false]
 | d + 1, .nil, n, m, x => by
  have ih := fun t n m => Tr.get_set (α := α) d t n m x
  simp only [Tr.set]
  have b0 : ∀ k, Nat.beq k 0 = decide (k = 0) := fun k => by cases k <;> simp [Nat.beq]
  have b1 : ∀ k, Nat.beq (k % 2) 1 = decide (k % 2 = 1) := fun k => by
   rcases Nat.mod_two_eq_zero_or_one k with h | h <;> rw [h] <;> rfl
  rw [b0, b1]
  by_cases h0 : n = 0
  ·simp only [h0, decide_true, cond_true, Tr.get]
   rw [b0, b1]
   by_cases hm : m = 0
   ·simp [hm]
   ·simp [hm, Tr.get]
  ·by_cases h1 : n % 2 = 1
   ·simp only [h0, decide_false, cond_false, h1, decide_true, cond_true, Tr.get]
    rw [b0, b1]
    by_cases hm : m = 0
    ·subst hm; simp [Ne.symm h0]
    ·by_cases hm1 : m % 2 = 1
     ·simp only [hm, decide_false, cond_false, hm1, decide_true, cond_true, ih, Tr.get]
      by_cases e : m = n
      ·rw [if_pos e, if_pos (by rw [e])]
      ·rw [if_neg e, if_neg (by omega)]
     ·have e : m ≠ n := fun e => hm1 (e ▸ h1)
      simp [hm, hm1, e, Tr.get]
   ·simp only [h0, decide_false, cond_false, h1, Tr.get]
    rw [b0, b1]
    by_cases hm : m = 0
    ·subst hm; simp [Ne.symm h0]
    ·by_cases hm1 : m % 2 = 1
     ·have e : m ≠ n := fun e => h1 (e ▸ hm1)
      simp [hm, hm1, e, Tr.get]
     ·simp only [hm, decide_false, cond_false, hm1, ih, Tr.get]
      by_cases e : m = n
      ·rw [if_pos e, if_pos (by rw [e])]
      ·rw [if_neg e, if_neg (by omega)]
 | d + 1, .node y l r, n, m, x => by
  have ih := fun t n m => Tr.get_set (α := α) d t n m x
  simp only [Tr.set]
  have b0 : ∀ k, Nat.beq k 0 = decide (k = 0) := fun k => by cases k <;> simp [Nat.beq]
  have b1 : ∀ k, Nat.beq (k % 2) 1 = decide (k % 2 = 1) := fun k => by
   rcases Nat.mod_two_eq_zero_or_one k with h | h <;> rw [h] <;> rfl
  rw [b0, b1]
  by_cases h0 : n = 0
  ·simp only [h0, decide_true, cond_true, Tr.get]
   rw [b0, b1]
   by_cases hm : m = 0
   ·simp [hm]
   ·simp [hm, Tr.get]
  ·by_cases h1 : n % 2 = 1
   ·simp only [h0, decide_false, cond_false, h1, decide_true, cond_true, Tr.get]
    rw [b0, b1]
    by_cases hm : m = 0
    ·subst hm; simp [Ne.symm h0]
    ·by_cases hm1 : m % 2 = 1
     ·simp only [hm, decide_false, cond_false, hm1, decide_true, cond_true, ih, Tr.get]
      by_cases e : m = n
      ·rw [if_pos e, if_pos (by rw [e])]
      ·rw [if_neg e, if_neg (by omega)]
     ·have e : m ≠ n := fun e => hm1 (e ▸ h1)
      simp [hm, hm1, e, Tr.get]
   ·simp only [h0, decide_false, cond_false, h1, Tr.get]
    rw [b0, b1]
    by_cases hm : m = 0
    ·subst hm; simp [Ne.symm h0]
    ·by_cases hm1 : m % 2 = 1
     ·have e : m ≠ n := fun e => h1 (e ▸ hm1)
      simp [hm, hm1, e, Tr.get]
     ·simp only [hm, decide_false, cond_false, hm1, ih, Tr.get]
      by_cases e : m = n
      ·rw [if_pos e, if_pos (by rw [e])]
      ·rw [if_neg e, if_neg (by omega)]
end Go.Proofs.YtpgnlmfmlffjcaaGreat.Rf

namespace Go.Proofs.YtpgnlmfmlffjcaaGreat.Rf
set_option linter.unusedVariables false
set_option linter.unusedSimpArgs false
section
variable {P : Program} {E : Env} {F : Frame0} {n : Nat} {σ : Nat -> Option Cont} {ρ : List D} {a : Act} {w w' : World} {G G' : Gh} {g : Option (Atom × Bool)} {o : Oper}
def vbool : Value -> Option Bool
 | .bool b => some b
 | _ => none
theorem gOn_some {x : Atom} {want : Bool} {v : Value} (h : Sc v (x.val ρ) \/ (v = undef /\ x.val ρ = .undef)) : gOn ρ (some (x, want)) = (vbool v == some want) := by
 have key : ∀ d : D, x.val ρ = d -> gOn ρ (some (x, want)) = (match d with | .bool b => b == want | _ => false) := by
  intro d hd
  simp only [gOn, hd]
  cases d <;> rfl
 rcases h with h | ⟨rfl, h⟩
 ·rw [key _ rfl]
  generalize x.val ρ = d at h
  cases h with
  | int k n => rfl
  | bool b => cases b <;> cases want <;> rfl
  | str l => rfl
 ·rw [key _ h]
  rfl
theorem rdGuard_rep (hR : R E.ntmps F σ ρ a w G) {ops : Array Oper} (hd : ∀ o ∈ ops.toList, DstOk E.ntmps o) (h : (rdGuard ops.toList o).eval σ = some g) : Region.wanted o (yielded ops a.tmps) = gOn ρ g := by
 unfold rdGuard at h
 unfold Region.wanted
 split at h
 ·rename_i ho
  simp only [eval_ret, Option.some.injEq] at h
  subst h
  simp [ho, gOn]
 ·rename_i j want ho
  simp only [ho]
  split at h
  ·rename_i d hj
   have hdn : d < E.ntmps := by
    cases hoj : ops.toList[j]? with
    | none => rw [hoj] at hj; cases hj
    | some oj =>
     rw [hoj, Option.bind_some] at hj
     exact hd oj (List.mem_of_getElem? hoj) d hj
   have hy : yielded ops a.tmps j = vbool (tval E.ntmps a F.gh d) := by
    unfold yielded tval
    have : (ops[j]?).bind (·.dst) = some d := by rw [<- hj, Array.getElem?_toList]
    rw [this, Option.bind_some, if_pos hdn]
    have hlt : d < a.tmps.size := by rw [hR.tmps]; exact hdn
    rw [Array.getElem?_eq_getElem hlt, Array.getD_eq_getD_getElem?, Array.getElem?_eq_getElem hlt, Option.getD_some]
    cases a.tmps[d] <;> rfl
   rw [hy]
   simp only [eval_rd] at h
   split at h
   ·rename_i x hk
    simp only [eval_ret, Option.some.injEq] at h
    subst h
    have := hR.slot hk rfl
    simp only [SVRep, LeafRep] at this
    exact (gOn_some (.inl this)).symm
   ·rename_i g' x hk
    simp only [eval_ret, Option.some.injEq] at h
    subst h
    have := hR.slot hk rfl
    simp only [SVRep, LeafRep] at this
    exact (gOn_some this.1).symm
   ·cases h
  ·cases h
end
end Go.Proofs.YtpgnlmfmlffjcaaGreat.Rf

namespace Go.Proofs.YtpgnlmfmlffjcaaGreat.Rf
set_option linter.unusedVariables false
set_option linter.unusedSimpArgs false
theorem atomScoped_val {n : Nat} {ρ ext : List D} {x : Atom} (h : atomScoped n x = true) (hn : n <= ρ.length) : x.val (ρ ++ ext) = x.val ρ := by
 refine Atom.val_append (n := n) ?_
 cases x with
 | v i =>
  simp only [atomScoped, Nat.blt_eq] at h
  simp only [Atom.ok]
  omega
 | c d => trivial
theorem atoms_val {n : Nat} {ρ ext : List D} {xs : List Atom} (h : xs.all (atomScoped n) = true) (hn : n <= ρ.length) : xs.map (·.val (ρ ++ ext)) = xs.map (·.val ρ) := by
 apply List.map_congr_left
 intro x hx
 rw [List.all_eq_true] at h
 exact atomScoped_val (h x hx) hn
theorem gScoped_on {n : Nat} {ρ ext : List D} {g : Option (Atom × Bool)} (h : gScoped n g = true) (hn : n <= ρ.length) : gOn (ρ ++ ext) g = gOn ρ g := by
 cases g with
 | none => rfl
 | some z =>
  obtain ⟨x, w⟩ := z
  simp only [gScoped] at h
  simp only [gOn, atomScoped_val h hn]
theorem bound_val {ρ ds ext : List D} {j : Nat} {d : D} (h : ds[j]? = some d) : (Atom.v (ρ.length + j)).val (ρ ++ ds ++ ext) = d := by
 have hlt := (List.getElem?_eq_some_iff.1 h).1
 simp only [Atom.val, List.getD_eq_getElem?_getD]
 rw [List.append_assoc, List.getElem?_append_right (by omega), List.getElem?_append_left (by omega), Nat.add_sub_cancel_left, h]
 rfl
theorem gScoped_mono {n m : Nat} {g : Option (Atom × Bool)} (h : gScoped n g = true) (hm : n <= m) : gScoped m g = true := by
 cases g with
 | none => rfl
 | some z =>
  obtain ⟨x, w⟩ := z
  cases x with
  | v i => simp only [gScoped, atomScoped, Nat.blt_eq] at h ⊢; omega
  | c d => rfl
section
variable {cf : Nat -> List D -> Option (List D)}
noncomputable def Ec {β : Type} (cf : Nat -> List D -> Option (List D)) (t : Tm β) (ρ : List D) : Option (Out β) := lim fun n => runT cf n t ρ
noncomputable def Lc {β : Type} (cf : Nat -> List D -> Option (List D)) (body : Tm β) (ρ vs : List D) : Option (Out β) := lim fun n => iter n (fun vs => runT cf n body (ρ ++ vs)) vs
theorem Ec_m {β : Type} (t : Tm β) (ρ : List D) : Mono fun n => runT cf n t ρ := fun n _ h => runT_mono (fun f _ _ h => h) (Nat.le_succ n) t _ _ h
theorem Lc_m {β : Type} (body : Tm β) (ρ vs : List D) : Mono fun n => iter n (fun vs => runT cf n body (ρ ++ vs)) vs :=
 fun n _ h => iter_mono (fun vs r hr => Ec_m body _ n r hr) (Nat.le_succ n) _ _ h
theorem Ec_some {β : Type} {t : Tm β} {ρ : List D} {o : Out β} : Ec cf t ρ = some o ↔ ∃ n, runT cf n t ρ = some o := lim_some (Ec_m t ρ)
theorem Ec_leaf {β : Type} (k : Kind) (xs : List Atom) (e : β) (ρ : List D) : Ec cf (.leaf k xs e) ρ = some ⟨k, xs, e, ρ⟩ := lim_const _
theorem Ec_stuck {β : Type} (ρ : List D) : Ec cf (.stuck : Tm β) ρ = none := lim_const _
theorem Ec_lt {β : Type} (g : Option (Atom × Bool)) (p : Prim) (xs : List Atom) (n : Nat) (k : Tm β) (ρ : List D) :
  Ec cf (.lt g p xs n k) ρ = if gOn ρ g then (p.run (xs.map (·.val ρ))).bind fun ds => if ds.length = n then Ec cf k (ρ ++ ds) else none
   else Ec cf k (ρ ++ List.replicate n .undef) := by
 unfold Ec
 simp only [runT]
 split
 ·cases p.run (xs.map (·.val ρ)) with
  | none => exact lim_const _
  | some ds =>
   simp only [Option.bind_some]
   split
   ·rfl
   ·exact lim_const _
 ·rfl
theorem Ec_call {β : Type} (g : Option (Atom × Bool)) (f : Nat) (xs : List Atom) (n : Nat) (olds : List Atom) (k : Tm β) (ρ : List D) :
  Ec cf (.call g f xs n olds k) ρ = if gOn ρ g then (cf f (xs.map (·.val ρ))).bind fun ds => if ds.length = n then Ec cf k (ρ ++ ds) else none
   else Ec cf k (ρ ++ (List.replicate (n - olds.length) .undef ++ olds.map (·.val ρ))) := by
 unfold Ec
 simp only [runT]
 split
 ·cases cf f (xs.map (·.val ρ)) with
  | none => exact lim_const _
  | some ds =>
   simp only [Option.bind_some]
   split
   ·rfl
   ·exact lim_const _
 ·rfl
theorem Ec_ite {β : Type} (c : Atom) (t e : Tm β) (ρ : List D) :
  Ec cf (.ite c t e) ρ = match c.val ρ with
   | .bool true => Ec cf t ρ
   | .bool false => Ec cf e ρ
   | _ => none := by
 unfold Ec
 simp only [runT]
 cases c.val ρ with
 | bool b => cases b <;> rfl
 | _ => exact lim_const _
theorem Ec_bind {β : Type} (i : Nat) (t k : Tm β) (ρ : List D) :
  Ec cf (.bind i t k) ρ = (Ec cf t ρ).bind fun o => if o.kind = .yield i then Ec cf k (ρ ++ o.vals) else some o := by
 unfold Ec
 simp only [runT]
 rw [lim_bind (a := fun n => runT cf n t ρ) (Ec_m t ρ) (fun o => by split; exact Ec_m k _; exact fun _ _ h => h)]
 congr 1
 funext o
 split
 ·rfl
 ·exact lim_const _
theorem Ec_loop {β : Type} (init : List Atom) (body : Tm β) (ρ : List D) : Ec cf (.loop init body) ρ = Lc cf body ρ (init.map (·.val ρ)) := rfl
theorem Lc_eq {β : Type} (body : Tm β) (ρ vs : List D) :
  Lc cf body ρ vs = (Ec cf body (ρ ++ vs)).bind fun o => if o.kind = .cont then Lc cf body ρ o.vals else some o := by
 have hm : ∀ vs, Mono fun n => iter n (fun vs => runT cf n body (ρ ++ vs)) vs := fun vs => Lc_m body ρ vs
 unfold Lc
 have e : ∀ vs r, (lim fun n => iter n (fun vs => runT cf n body (ρ ++ vs)) vs) = some r ↔ ((Ec cf body (ρ ++ vs)).bind fun o => if o.kind = .cont then (lim fun n => iter n (fun vs => runT cf n body (ρ ++ vs)) o.vals) else some o) = some r := by
  intro vs r
  rw [lim_some (hm vs)]
  simp only [Option.bind_eq_some_iff]
  constructor
  ·rintro ⟨n, hn⟩
   cases n with
   | zero => cases hn
   | succ n =>
    simp only [iter, Option.bind_eq_some_iff] at hn
    obtain ⟨o, ho, hr⟩ := hn
    refine ⟨o, Ec_some.2 ⟨n + 1, ho⟩, ?_⟩
    split at hr
    ·rename_i hk
     rw [if_pos hk, lim_some (hm _)]
     exact ⟨n + 1, iter_mono (fun _ _ h => h) (Nat.le_succ n) _ _ hr⟩
    ·rename_i hk
     rw [if_neg hk]; exact hr
  ·rintro ⟨o, ho, hr⟩
   obtain ⟨n, hn⟩ := Ec_some.1 ho
   split at hr
   ·rename_i hk
    obtain ⟨m, hm'⟩ := (lim_some (hm _)).1 hr
    refine ⟨max n m + 1, ?_⟩
    simp only [iter, Option.bind_eq_some_iff]
    refine ⟨o, (Ec_m body (ρ ++ vs)).le (by omega) hn, ?_⟩
    rw [if_pos hk]
    exact iter_mono (fun vs r h => (Ec_m body (ρ ++ vs)).le (by omega) h) (by omega) _ _ hm'
   ·rename_i hk
    refine ⟨n + 1, ?_⟩
    simp only [iter, Option.bind_eq_some_iff]
    exact ⟨o, Ec_m body _ _ _ hn, by rw [if_neg hk]; exact hr⟩
 exact Option.ext (e vs)
end
section
variable {cf : Nat -> List D -> Option (List D)}
theorem stepTm_ev {g : Option (Atom × Bool)} {k : Tm St} : ∀ {lets : List Step} {ρ : List D} {o : Out St}, gScoped ρ.length g = true -> stepsScoped ρ.length lets = true -> Ec cf (stepTm g k lets) ρ = some o ->
  ∃ ds, ds.length = stepsN lets /\ Ec cf k (ρ ++ ds) = some o /\ ∀ ext, StepsOk cf (ρ ++ ds ++ ext) g ρ.length lets
 | [], ρ, o, _, _, h => ⟨[], rfl, by simpa [stepTm] using h, fun _ => trivial⟩
 | .prim p xs n :: r, ρ, o, hg, hs, h => by
  simp only [stepsScoped, stepScoped, Bool.and_eq_true] at hs
  obtain ⟨hxs, hs⟩ := hs
  simp only [stepTm, Ec_lt] at h
  have main : ∀ ds : List D, ds.length = n -> Ec cf (stepTm g k r) (ρ ++ ds) = some o -> (∀ ext, StepOk cf (ρ ++ ds ++ ext) g ρ.length (.prim p xs n)) ->
    ∃ ds, ds.length = stepsN (.prim p xs n :: r) /\ Ec cf k (ρ ++ ds) = some o /\ ∀ ext, StepsOk cf (ρ ++ ds ++ ext) g ρ.length (.prim p xs n :: r) := by
   intro ds hl h1 h2
   obtain ⟨es, h3, h4, h5⟩ := stepTm_ev (lets := r) (ρ := ρ ++ ds) (gScoped_mono hg (by simp)) (by simp only [List.length_append, hl]; exact hs) h1
   refine ⟨ds ++ es, by rw [stepsN_cons]; simp [hl, h3, Step.n], by rw [<- List.append_assoc]; exact h4, fun ext => ⟨?_, ?_⟩⟩
   ·have := h2 (es ++ ext)
    simpa [List.append_assoc] using this
   ·have := h5 ext
    simp only [List.length_append, hl] at this
    simpa [List.append_assoc, Step.n] using this
  by_cases hgo : gOn ρ g = true
  ·rw [if_pos hgo] at h
   simp only [Option.bind_eq_some_iff] at h
   obtain ⟨ds, h1, h2⟩ := h
   split at h2
   case isFalse => cases h2
   rename_i hl
   refine main ds hl h2 fun ext => ⟨fun _ => ⟨ds, ?_, hl, fun j d hj => bound_val hj⟩, fun hoff => ?_⟩
   ·rw [List.append_assoc, atoms_val hxs (Nat.le_refl _)]; exact h1
   ·rw [List.append_assoc, gScoped_on hg (Nat.le_refl _), hgo] at hoff; cases hoff
  ·rw [if_neg hgo] at h
   refine main (List.replicate n .undef) (by simp) h fun ext => ⟨fun hon => ?_, fun _ j hj => bound_val (by simp [hj])⟩
   rw [List.append_assoc, gScoped_on hg (Nat.le_refl _)] at hon
   exact absurd hon hgo
 | .call f xs n olds :: r, ρ, o, hg, hs, h => by
  simp only [stepsScoped, stepScoped, Bool.and_eq_true] at hs
  obtain ⟨⟨⟨hxs, hos⟩, hle⟩, hs⟩ := hs
  simp only [Nat.ble_eq] at hle
  simp only [stepTm, Ec_call] at h
  have main : ∀ ds : List D, ds.length = n -> Ec cf (stepTm g k r) (ρ ++ ds) = some o -> (∀ ext, StepOk cf (ρ ++ ds ++ ext) g ρ.length (.call f xs n olds)) ->
    ∃ ds, ds.length = stepsN (.call f xs n olds :: r) /\ Ec cf k (ρ ++ ds) = some o /\ ∀ ext, StepsOk cf (ρ ++ ds ++ ext) g ρ.length (.call f xs n olds :: r) := by
   intro ds hl h1 h2
   obtain ⟨es, h3, h4, h5⟩ := stepTm_ev (lets := r) (ρ := ρ ++ ds) (gScoped_mono hg (by simp)) (by simp only [List.length_append, hl]; exact hs) h1
   refine ⟨ds ++ es, by rw [stepsN_cons]; simp [hl, h3, Step.n], by rw [<- List.append_assoc]; exact h4, fun ext => ⟨?_, ?_⟩⟩
   ·have := h2 (es ++ ext)
    simpa [List.append_assoc] using this
   ·have := h5 ext
    simp only [List.length_append, hl] at this
    simpa [List.append_assoc, Step.n] using this
  by_cases hgo : gOn ρ g = true
  ·rw [if_pos hgo] at h
   simp only [Option.bind_eq_some_iff] at h
   obtain ⟨ds, h1, h2⟩ := h
   split at h2
   case isFalse => cases h2
   rename_i hl
   refine main ds hl h2 fun ext => ⟨fun _ => ⟨ds, ?_, hl, fun j d hj => bound_val hj⟩, fun hoff => ?_⟩
   ·rw [List.append_assoc, atoms_val hxs (Nat.le_refl _)]; exact h1
   ·rw [List.append_assoc, gScoped_on hg (Nat.le_refl _), hgo] at hoff; cases hoff
  ·rw [if_neg hgo] at h
   refine main _ (by simp; omega) h fun ext => ⟨fun hon => ?_, fun _ j d hd => ?_⟩
   ·rw [List.append_assoc, gScoped_on hg (Nat.le_refl _)] at hon
    exact absurd hon hgo
   ·rw [List.append_assoc, atoms_val hos (Nat.le_refl _)] at hd
    exact bound_val hd
end
end Go.Proofs.YtpgnlmfmlffjcaaGreat.Rf

namespace Go.Proofs.YtpgnlmfmlffjcaaGreat.Rf
set_option linter.unusedVariables false
set_option linter.unusedSimpArgs false
theorem upds_congr : ∀ (u : List (Nat × Cont)) (f g : Nat -> Option Cont) (k : Nat), f k = g k -> upds f u k = upds g u k
 | [], f, g, k, h => h
 | (k', c) :: r, f, g, k, h => by
  refine upds_congr r _ _ k ?_
  unfold setK
  split
  ·rfl
  ·exact h
theorem puts_tr : ∀ (u : List (Nat × Cont)) (s : St) (k : Nat), (s.puts u).tr.get k = upds s.tr.get u k
 | [], s, k => rfl
 | (k', c) :: r, s, k => by
  rw [St.puts, puts_tr r _ k, upds]
  refine upds_congr r _ _ k ?_
  simp only [St.put, Tr.get_set, setK]
theorem puts_rest : ∀ (u : List (Nat × Cont)) (s : St), (s.puts u).nv = s.nv /\ (s.puts u).nb = s.nb /\ (s.puts u).nr = s.nr /\ (s.puts u).nt = s.nt
 | [], s => ⟨rfl, rfl, rfl, rfl⟩
 | (k', c) :: r, s => by rw [St.puts]; exact puts_rest r _
theorem upds_mem : ∀ (u : List (Nat × Cont)) (f g : Nat -> Option Cont) (k : Nat), (∃ c, (k, c) ∈ u) -> upds f u k = upds g u k
 | [], f, g, k, h => by obtain ⟨c, hc⟩ := h; simp at hc
 | (k', c) :: r, f, g, k, h => by
  by_cases hk : k = k'
  ·exact upds_congr r _ _ k (by unfold setK; rw [if_pos hk, if_pos hk])
  ·refine upds_mem r _ _ k ?_
   obtain ⟨c', hc'⟩ := h
   rcases List.mem_cons.1 hc' with h1 | h1
   ·exact absurd (Prod.mk.inj h1).1 hk
   ·exact ⟨c', h1⟩
theorem freshR_get {t : Tr Cont} : ∀ {n r : Nat}, freshR t r n = true -> ∀ j, r <= j -> j < r + n -> t.get (kR j) = none
 | 0, r, _, j, h1, h2 => by omega
 | n + 1, r, h, j, h1, h2 => by
  simp only [freshR, Bool.and_eq_true, Option.isNone_iff_eq_none] at h
  by_cases e : j = r
  ·rw [e]; exact h.1
  ·exact freshR_get h.2 j (by omega) (by omega)
theorem opOk_get {s : St} {g : Option (Atom × Bool)} {r : OpRes} {n : Nat} (h : opOk s g r = true) (hn : n <= s.nt) (hk : r.upd.all (fun x => keyIn n s.nb s.nr x.1) = true) (nv : Nat) (k : Nat) :
  ({ (s.puts r.upd) with nv := nv, nb := s.nb + 1, nr := s.nr + maxRoots } : St).get k = upds s.get r.upd k := by
 simp only [opOk, Bool.and_eq_true, Option.isNone_iff_eq_none] at h
 obtain ⟨⟨⟨⟨h1, h2⟩, -⟩, -⟩, -⟩ := h
 have e : ({ (s.puts r.upd) with nv := nv, nb := s.nb + 1, nr := s.nr + maxRoots } : St).get k = bif keyB s.nt (s.nb + 1) (s.nr + maxRoots) k then upds s.tr.get r.upd k else none := by
  unfold St.get
  dsimp only
  rw [puts_tr, (puts_rest r.upd s).2.2.2]
 rw [e]
 by_cases hm : ∃ c, (k, c) ∈ r.upd
 ·obtain ⟨c, hc⟩ := hm
  have hin : keyB s.nt (s.nb + 1) (s.nr + maxRoots) k = true := by
   rw [List.all_eq_true] at hk
   have := hk _ hc
   unfold keyIn at this
   unfold keyB
   dsimp only at this
   cases b0 : Nat.beq (k % 3) 0 with
   | true => rw [b0, cond_true] at this; rw [cond_true]; simp only [Nat.blt_eq] at this ⊢; omega
   | false =>
    rw [b0, cond_false] at this
    rw [cond_false]
    cases b1 : Nat.beq (k % 3) 1 with
    | true => rw [b1, cond_true] at this; rw [cond_true]; simp only [Nat.ble_eq] at this; simp only [Nat.blt_eq]; omega
    | false => rw [b1, cond_false] at this; rw [cond_false]; exact this
  rw [hin, cond_true]
  exact upds_mem _ _ _ _ ⟨c, hc⟩
 ·have hnone : ∀ c, (k, c) ∉ r.upd := fun c hc => hm ⟨c, hc⟩
  rw [upds_none _ _ _ hnone, upds_none _ _ _ hnone]
  unfold St.get
  cases ho : keyB s.nt s.nb s.nr k with
  | true =>
   have : keyB s.nt (s.nb + 1) (s.nr + maxRoots) k = true := by
    unfold keyB at ho ⊢
    cases b0 : Nat.beq (k % 3) 0 with
    | true => rw [b0] at ho; exact ho
    | false =>
     rw [b0, cond_false] at ho
     rw [cond_false]
     cases b1 : Nat.beq (k % 3) 1 with
     | true => rw [b1, cond_true] at ho; rw [cond_true]; simp only [Nat.blt_eq] at ho ⊢; omega
     | false => rw [b1, cond_false] at ho; rw [cond_false]; simp only [Nat.blt_eq] at ho ⊢; omega
   rw [this]
  | false =>
   rw [cond_false]
   cases hw : keyB s.nt (s.nb + 1) (s.nr + maxRoots) k with
   | false => rfl
   | true =>
    rw [cond_true]
    unfold keyB at ho hw
    cases b0 : Nat.beq (k % 3) 0 with
    | true => rw [b0, cond_true] at ho hw; rw [ho] at hw; cases hw
    | false =>
     rw [b0, cond_false] at ho hw
     have n0 : k % 3 ≠ 0 := fun e => by rw [e] at b0; cases b0
     cases b1 : Nat.beq (k % 3) 1 with
     | true =>
      rw [b1, cond_true] at ho hw
      simp only [Nat.beq_eq] at b1
      simp only [Nat.blt_eq] at hw
      have ho' : ¬ k / 3 < s.nb := fun e => by rw [<- Nat.blt_eq, ho] at e; cases e
      have : k = kB s.nb := by unfold kB; omega
      rw [this]; exact h1
     | false =>
      rw [b1, cond_false] at ho hw
      have n1 : k % 3 ≠ 1 := fun e => by rw [e] at b1; cases b1
      simp only [Nat.blt_eq] at hw
      have ho' : ¬ k / 3 < s.nr := fun e => by rw [<- Nat.blt_eq, ho] at e; cases e
      have : k = kR (k / 3) := by unfold kR; omega
      rw [this]
      exact freshR_get h2 _ (by omega) hw
theorem fresh_get {s : St} : Fresh s.get s.nb s.nr := by
 refine ⟨?_, fun j h1 h2 => ?_⟩
 ·unfold St.get keyB kB
  have e : (3 * s.nb + 1) % 3 = 1 := by omega
  have e2 : (3 * s.nb + 1) / 3 = s.nb := by omega
  rw [e, e2]
  have : Nat.blt s.nb s.nb = false := by
   cases hb : Nat.blt s.nb s.nb with
   | false => rfl
   | true => simp at hb
  rw [this]; rfl
 ·unfold St.get keyB kR
  have e : (3 * j + 2) % 3 = 2 := by omega
  have e2 : (3 * j + 2) / 3 = j := by omega
  rw [e, e2]
  have : Nat.blt j s.nr = false := by
   cases hb : Nat.blt j s.nr with
   | false => rfl
   | true => simp only [Nat.blt_eq] at hb; omega
  rw [this]; rfl
end Go.Proofs.YtpgnlmfmlffjcaaGreat.Rf

namespace Go.Proofs.YtpgnlmfmlffjcaaGreat.Rf
set_option linter.unusedVariables false
set_option linter.unusedSimpArgs false
section
variable {P : Program} {E : Env} {F : Frame0} {n : Nat} {σ : Nat -> Option Cont} {ρ : List D} {a : Act} {w w' : World} {G G' : Gh} {g : Option (Atom × Bool)} {o : Oper} {cf : Nat -> List D -> Option (List D)} {Q : Exit -> Act -> World -> Prop}
theorem lastK_upds : ∀ (u : List (Nat × Cont)) (σ : Nat -> Option Cont) (k : Nat), upds σ u k = match lastK u k with
  | some c => some c
  | none => σ k
 | [], _, _ => rfl
 | (k', c) :: r, σ, k => by
  show upds (setK σ k' c) r k = _
  rw [lastK_upds r]
  simp only [lastK]
  cases lastK r k with
  | some d => rfl
  | none =>
   dsimp only
   unfold setK
   by_cases e : k = k'
   ·subst e
    rw [if_pos rfl]
    simp
   ·rw [if_neg e]
    have : Nat.beq k' k = false := by
     cases h : Nat.beq k' k with
     | false => rfl
     | true => exact absurd (Nat.eq_of_beq_eq_true h).symm e
    rw [this]
    rfl
theorem eval_over {α : Type} (u : List (Nat × Cont)) (m : RdM α) (σ : Nat -> Option Cont) : (m.over u).eval σ = m.eval (upds σ u) := by
 induction m with
 | ret a => rfl
 | no => rfl
 | rd k f ih =>
  show ((RdM.rd k f).over u).eval σ = (f (upds σ u k)).eval (upds σ u)
  unfold RdM.over
  rw [lastK_upds u σ k]
  cases lastK u k with
  | some c => exact ih _
  | none => exact ih _
theorem upds_append : ∀ (u v : List (Nat × Cont)) (σ : Nat -> Option Cont), upds σ (u ++ v) = upds (upds σ u) v
 | [], _, _ => rfl
 | (k, c) :: r, v, σ => upds_append r v (setK σ k c)
def splitF (r nr : Nat) (pv : List Nat) (M mr : Nat) (s : Nat) (p : List Nat) : Ow :=
 if s = r then (if pv <+: p then cutP nr M (p.drop pv.length) else cutP r mr p) else .slc s p
theorem put_self {t : Nat} {a : Act} {o : Oper} (h : o.dst = some t) : a.put o.dst (a.tmps.getD t undef) = a := by
 unfold Act.put
 rw [h]
 dsimp only
 have : a.tmps.setIfInBounds t (a.tmps.getD t undef) = a.tmps := by
  apply Array.ext_getElem?
  intro j
  rw [Array.getElem?_setIfInBounds]
  split
  ·rename_i e
   subst e
   split
   ·rename_i hlt
    exact (Array.getElem?_eq_getElem hlt).symm
   ·rename_i hlt
    rw [Array.getElem?_eq_none (by omega)]
  ·rfl
 rw [this]
theorem split_rep (hR : R E.ntmps F σ ρ a w G) {nv nr t : Nat} (hnr : σ (kR nr) = none) {l : List Step} {u : List (Nat × Cont)} (h : (splitM E nv nr t).eval σ = some (some (l, u))) (hst : StepsOk cf ρ none nv l) :
  ∃ G', R E.ntmps F (upds σ u) ρ a w G' := by
 simp only [splitM, eval_bind, Option.bind_eq_some_iff, eval_rdK, Option.bind_some] at h
 split at h
 case h_2 => simp only [eval_ret, Option.some.injEq] at h; cases h
 rename_i deps p ps nie x hslot
 simp only [eval_bind, Option.bind_eq_some_iff] at h
 obtain ⟨s, h1, h⟩ := h
 split at h
 case h_2 => simp only [eval_ret, Option.some.injEq] at h; cases h
 rename_i r k m q qs hown
 rw [eval_bif] at h
 split at h
 case isFalse => simp only [eval_ret, Option.some.injEq] at h; cases h
 rename_i hb
 simp only [Bool.and_eq_true, Nat.ble_eq, Nat.blt_eq] at hb
 obtain ⟨hqm, htn⟩ := hb
 simp only [eval_bind, Option.bind_eq_some_iff, eval_rdK, Option.bind_some] at h
 split at h
 case h_2 => simp only [eval_ret, Option.some.injEq] at h; cases h
 rename_i X m' ver hk
 simp only [eval_ret, Option.some.injEq, Prod.mk.injEq] at h
 obtain ⟨rfl, rfl⟩ := h
 have hsv := hR.slot hslot (g := none) rfl
 simp only [SVRep] at hsv
 have hsl := rdSl_rep hR h1 hsv
 have hor := hsl.own
 unfold OwnRep at hor
 rw [hown] at hor
 obtain ⟨-, ⟨X0, hl0⟩, -, hrp, hnest⟩ := hor
 rw [hk] at hl0
 obtain ⟨rfl, rfl, rfl⟩ : X = X0 /\ m' = m /\ ver = k := by
  injection hl0 with e; injection e with e1 e2 e3 e4; exact ⟨e1, e2, e3⟩
 have hroot := hR.root hk
 simp only [RootRep] at hroot
 have hupd := nest_upd (g := none) rfl (q :: qs) nv X (.c .hole) hst
 have hpvl : (pathVal ρ (q :: qs)).length = qs.length + 1 := by simp [pathVal]
 generalize hpv : pathVal ρ (q :: qs) = pv at hupd hrp hnest hpvl
 rw [show (q :: qs).length = qs.length + 1 from rfl] at hrp
 have htv : tval E.ntmps a F.gh t = a.tmps.getD t undef := if_pos htn
 generalize hv : tval E.ntmps a F.gh t = v at hsv hrp hnest htv
 obtain ⟨o', ho'⟩ : ∃ o' : Oper, o'.dst = some t := ⟨{ (default : Oper) with dst := some t }, rfl⟩
 have hrnr : r ≠ nr := fun e => by rw [e, hnr] at hk; cases hk
 have hdr : ∀ r, (σ (kR r)).isSome -> r ≠ nr := fun r hr e => by rw [e, hnr] at hr; cases hr
 have hslt : ∀ b, G.own b ≠ .frz -> b < w.heap.size := fun b hb => by
  rcases Nat.lt_or_ge b w.heap.size with h | h
  ·exact h
  ·exact absurd (hR.frame.fresh b h) hb
 have hFr : ∀ p, splitF r nr pv (m' - (qs.length + 1)) m' r p = if pv <+: p then cutP nr (m' - (qs.length + 1)) (p.drop pv.length) else cutP r m' p := fun p => by unfold splitF; rw [if_pos rfl]
 have hzz : ∀ b, G.own b = .frz -> b < w.heap.size -> renB (splitF r nr pv (m' - (qs.length + 1)) m') (G.own b) = .frz /\ w.heap[b]? = w.heap[b]? := fun b hb _ => ⟨by rw [hb]; rfl, rfl⟩
 have hfin := hR.own (o := o') (g := none) (fun d e => by rw [ho'] at e; cases e; exact htn) (sv := .one (.ex nr)) (v := v) (w' := w)
  (G' := { G with own := fun b => renB (splitF r nr pv (m' - (qs.length + 1)) m') (G.own b), hdr := fun s => if s = nr then v else G.hdr s }) (wr := fun _ => False)
  (ur := [(kR nr, .root s.x (m' - (qs.length + 1)) 0 .live), (kR r, .root (nest nv X (q :: qs) (.c .hole)).2 m' (ver + 1) .live)])
  (f := splitF r nr pv (m' - (qs.length + 1)) m') ?_ (fun b _ => rfl) ?_ ⟨rfl, rfl, rfl, Nat.le_refl _⟩ ?_ (fun _ _ _ => rfl) (fun _ h => h.elim) ?_ ?_ ?_ ?_ rfl ?_ ?_
 ·have e1 : dstUpd o' none (.one (.ex nr)) = [(kT t, .slot none (.one (.ex nr)))] := by unfold dstUpd; rw [ho']
  have e2 : a.put o'.dst v = a := by rw [htv]; exact put_self ho'
  rw [e1, e2] at hfin
  exact ⟨_, hfin⟩
 ·intro k c hc
  rcases List.mem_cons.1 hc with hc | hc
  ·exact ⟨nr, (Prod.mk.inj hc).1⟩
  ·exact ⟨r, (Prod.mk.inj (List.mem_singleton.1 hc)).1⟩
 ·intro b hb
  show renB _ (G.own b) = .frz
  rw [hR.frame.fresh b hb]; rfl
 ·intro b hb
  refine .inl ?_
  show renB _ (G.own b) = .frz
  rw [hR.frame.fresh b hb]; rfl
 ·intro b s' p' hb hnot
  have : s' ≠ r := fun e => hnot (.root (nest nv X (q :: qs) (.c .hole)).2 m' (ver + 1) .live) (by rw [e]; simp)
  unfold splitF
  rw [if_neg this]
 ·intro s' c hc _
  rcases List.mem_cons.1 hc with hc | hc
  ·obtain ⟨e1, e2⟩ := Prod.mk.inj hc
   rw [kR_inj e1, e2]
   exact .inl ⟨hnr, _, _, _, _, rfl⟩
  ·obtain ⟨e1, e2⟩ := Prod.mk.inj (List.mem_singleton.1 hc)
   rw [kR_inj e1, e2]
   exact .inr (.inl ⟨_, _, _, _, _, hk, rfl⟩)
 ·intro r0 x0 m0 k0 hfz s' p' q' hF
  have hr0 : r0 ≠ r := fun e => by
   rw [e, hk] at hfz
   injection hfz with e; injection e with _ _ _ e; cases e
  have hr1 : r0 ≠ nr := hdr r0 (by rw [hfz]; rfl)
  unfold splitF at hF
  split at hF
  ·rename_i e
   split at hF
   ·unfold cutP at hF
    split at hF
    ·injection hF with j1 j2; exact absurd j1.symm hr1
    ·cases hF
   ·unfold cutP at hF
    split at hF
    ·injection hF with j1 j2; exact absurd j1.symm hr0
    ·cases hF
  ·injection hF with j1 j2; exact ⟨j1, j2⟩
 ·intro s' hs'
  show (if s' = nr then _ else _) = _
  rw [if_neg (hdr s' hs')]
 ·intro _ _
  simp only [SVRep, LeafRep]
  exact ⟨by simp, upds_some _ _ _ (.inr ⟨_, List.mem_append_right _ List.mem_cons_self⟩), hrp.one⟩
 ·intro hfr s' c hc _
  rcases List.mem_cons.1 hc with hc | hc
  ·obtain ⟨e1, rfl⟩ := Prod.mk.inj hc
   obtain rfl := kR_inj e1
   refine ⟨_, _, _, _, rfl, ?_⟩
   simp only [RootRep, if_true]
   refine hrp.move hzz [] _ (Nat.le_refl _) fun b t' hb => ⟨?_, rfl⟩
   show renB _ (G.own b) = _
   rw [hb]
   show splitF _ _ _ _ _ _ _ = _
   rw [hFr, if_pos (List.prefix_append _ _), List.drop_left]
   rfl
  ·obtain ⟨e1, rfl⟩ := Prod.mk.inj (List.mem_singleton.1 hc)
   obtain rfl := kR_inj e1
   refine ⟨_, _, _, _, rfl, ?_⟩
   simp only [RootRep]
   rw [if_neg hrnr]
   have := Rp.upd (own' := fun b => renB (splitF s' nr pv (m' - (qs.length + 1)) m') (G.own b)) (w' := w) (r := s') (M' := m') (full := pv) (y := .hole) (u := v) hzz (fun b t' hb ht => ⟨?_, rfl⟩) (by omega) (.hole _ hrp.one) pv [] m' (G.hdr s') _ _ rfl (Nat.le_refl _) (by simpa using hroot) hnest hupd
   ·simpa using this
   ·rw [hb]
    show splitF _ _ _ _ _ _ _ = _
    rw [hFr, if_neg ht]
    rfl
theorem sxOpS_call {mv mvs : Bool} {nv nb nr : Nat} {c : Call} (h : o.op = .call c) : sxOpS E mv mvs nv nb nr g o = sxOp E mv mvs nv nb nr g o := by
 unfold sxOpS
 have h1 : splitOpd (mvs && noG g) o.op = none := by rw [h]; unfold splitOpd; split <;> first | rfl | contradiction
 have h2 : loadDst (mvs && noG g && !mv) o = none := by
  unfold loadDst
  split
  ·rw [h]
  ·rfl
 rw [h1]
 dsimp only
 rw [h2]
theorem splitM_new {nv nr t : Nat} (hnr : σ (kR (nr + 1)) = none) {l : List Step} {u : List (Nat × Cont)} (h1 : (splitM E nv nr t).eval σ = some (some (l, u))) : upds σ u (kR (nr + 1)) = none := by
 simp only [splitM, eval_bind, Option.bind_eq_some_iff, eval_rdK, Option.bind_some] at h1
 split at h1
 case h_2 => simp only [eval_ret, Option.some.injEq] at h1; cases h1
 simp only [eval_bind, Option.bind_eq_some_iff] at h1
 obtain ⟨s, -, h1⟩ := h1
 split at h1
 case h_2 => simp only [eval_ret, Option.some.injEq] at h1; cases h1
 rw [eval_bif] at h1
 split at h1
 case isFalse => simp only [eval_ret, Option.some.injEq] at h1; cases h1
 simp only [eval_bind, Option.bind_eq_some_iff, eval_rdK, Option.bind_some] at h1
 split at h1
 case h_2 => simp only [eval_ret, Option.some.injEq] at h1; cases h1
 rename_i r' _ _ _ _ _ _ _ _ hk
 simp only [eval_ret, Option.some.injEq, Prod.mk.injEq] at h1
 obtain ⟨-, rfl⟩ := h1
 cases e : upds σ _ (kR (nr + 1)) with
 | none => rfl
 | some c =>
  exfalso
  rcases upds_get _ _ _ _ e with h4 | ⟨-, h4⟩
  ·simp only [List.mem_cons, Prod.mk.injEq, List.not_mem_nil, or_false] at h4
   rcases h4 with ⟨h4, -⟩ | ⟨h4, -⟩ | ⟨h4, -⟩
   ·exact kT_ne_kR h4.symm
   ·have := kR_inj h4; omega
   ·rw [h4, hk] at hnr; cases hnr
  ·rw [hnr] at h4; cases h4
theorem load_keys {mv mvs : Bool} {nv nb nr : Nat} {ty : TypeId} {x : Operand} (ho : o.op = .load ty x) {r : OpRes} (h : (sxOp E mv mvs nv nb nr none o).eval σ = some r) {j : Nat} {c : Cont} (hc : (kR j, c) ∈ r.upd) : False := by
 simp only [sxOp, ho, eval_bind, Option.bind_eq_some_iff, tiR, eval_ofOpt] at h
 obtain ⟨ti, h1, p, h2, h⟩ := h
 have hslot : ∀ {g' : Option (Atom × Bool)} {v : SV}, (kR j, c) ∈ (match o.dst with | some d => [(kT d, Cont.slot g' v)] | none => []) -> False := by
  intro g' v hm
  split at hm
  ·simp only [List.mem_singleton, Prod.mk.injEq] at hm
   exact kT_ne_kR hm.1.symm
  ·simp at hm
 have hC : ∀ {v : SV}, (outC o none nv v).eval σ = some r -> False := by
  intro v h
  simp only [outC, out1, eval_ret, Option.some.injEq] at h
  subst h
  rw [List.append_nil] at hc
  exact hslot hc
 unfold sxLoad at h
 split at h
 ·simp only [eval_bind, Option.bind_eq_some_iff, eval_rdK, Option.bind_some] at h
  split at h
  ·simp only [eval_bind, Option.bind_eq_some_iff] at h
   obtain ⟨_, -, h⟩ := h
   split at h
   ·exact hC h
   ·cases h
  ·cases h
 ·simp only [eval_bind, Option.bind_eq_some_iff] at h
  obtain ⟨s, -, h⟩ := h
  split at h
  ·simp only [outS, eval_ret, Option.some.injEq] at h
   subst h
   exact hslot hc
  ·simp only [out1, eval_ret, Option.some.injEq] at h
   subst h
   rw [List.append_nil] at hc
   exact hslot hc
  ·cases h
 ·cases h
theorem sound_opS (hR : R E.ntmps F σ ρ a w G) (hd : DstOk E.ntmps o) (hti : TiOk P E.ti) {nv nb nr : Nat} {mv mvs : Bool} (hf : Fresh σ nb nr) {res : OpRes}
  (h : (sxOpS E mv mvs nv nb nr g o).eval σ = some res) (hst : StepsOk cf ρ g nv res.lets)
  (hcall : ∀ f args argTypes, o.op = .call { callee := .value f, args, argTypes } -> Sound P E F σ ρ a w g o Q res.upd) : Sound P E F σ ρ a w g o Q res.upd := by
 unfold sxOpS at h
 split at h
 ·split at h
  ·exact sound_op hR hd hti hf h hst hcall
  ·
   rename_i t hld
   have hb : (mvs && noG g && !mv) = true := by
    cases e : (mvs && noG g && !mv) with
    | true => rfl
    | false => rw [e] at hld; cases hld
   simp only [Bool.and_eq_true] at hb
   obtain rfl := noG_eq hb.1.2
   obtain ⟨ty, x, ho⟩ : ∃ ty x, o.op = .load ty x := by
    unfold loadDst at hld
    split at hld
    ·split at hld
     ·rename_i ho; exact ⟨_, _, ho⟩
     ·cases hld
    ·cases hld
   simp only [eval_bind, Option.bind_eq_some_iff, eval_over] at h
   obtain ⟨r, h1, y, h2, h⟩ := h
   cases y with
   | none =>
    simp only [eval_ret, Option.some.injEq] at h
    subst h
    exact sound_op hR hd hti hf h1 hst hcall
   | some lu =>
    obtain ⟨l, u⟩ := lu
    simp only [eval_ret, Option.some.injEq] at h
    subst h
    obtain ⟨hs1, hs2⟩ := StepsOk.append hst
    have h0 : Sound P E F σ ρ a w none o Q r.upd := sound_op hR hd hti hf h1 hs1 fun f args argTypes hoc => by rw [ho] at hoc; cases hoc
    refine ⟨fun hg => ?_, fun hg => by simp [gOn] at hg⟩
    refine Oper.wp_mono (K := Nx E.ntmps F σ ρ r.upd) (fun a' w' ⟨G', hR'⟩ => ?_) (h0.1 hg)
    have hnr : upds σ r.upd (kR nr) = none := by
     have hnone := hf.nr nr (Nat.le_refl _) (by unfold maxRoots; omega)
     cases e : upds σ r.upd (kR nr) with
     | none => rfl
     | some c =>
      exfalso
      rcases upds_get _ _ _ _ e with h4 | ⟨-, h4⟩
      ·exact load_keys ho h1 h4
      ·rw [hnone] at h4; cases h4
    obtain ⟨G'', hR''⟩ := split_rep hR' hnr h2 hs2
    exact ⟨G'', by rw [upds_append]; exact hR''⟩
 ·rename_i t hsp
  simp only [eval_bind, Option.bind_eq_some_iff] at h
  obtain ⟨x, h1, h⟩ := h
  have hb : (mvs && noG g) = true := by
   cases e : (mvs && noG g) with
   | true => rfl
   | false => rw [e] at hsp; unfold splitOpd at hsp; cases hsp
  simp only [Bool.and_eq_true] at hb
  obtain rfl := noG_eq hb.2
  cases x with
  | none => exact sound_op hR hd hti hf h hst hcall
  | some lu =>
   obtain ⟨l, u⟩ := lu
   simp only [eval_bind, Option.bind_eq_some_iff, eval_over, eval_ret, Option.some.injEq] at h
   obtain ⟨r, h2, rfl⟩ := h
   obtain ⟨hs1, hs2⟩ := StepsOk.append hst
   obtain ⟨G', hR'⟩ := split_rep hR (hf.nr nr (Nat.le_refl _) (by unfold maxRoots; omega)) h1 hs1
   have hfin : Sound P E F (upds σ u) ρ a w none o Q r.upd := by
    have hnr1 : upds σ u (kR (nr + 1)) = none := splitM_new (hf.nr (nr + 1) (by omega) (by unfold maxRoots; omega)) h1
    unfold splitOpd at hsp
    split at hsp
    ·rename_i ho
     exact sound_store hR' hti ho h2 hs2
    ·rename_i ho
     exact sound_buildSlice hR' hd hti hnr1 ho h2 hs2
    ·cases hsp
   refine ⟨fun hg => ?_, fun hg => by simp [gOn] at hg⟩
   have e : Nx E.ntmps F σ ρ (u ++ r.upd) = Nx E.ntmps F (upds σ u) ρ r.upd := by unfold Nx; rw [upds_append]
   rw [e]
   exact hfin.1 hg
theorem sxGuarded_inv {ops : List Oper} {mv mvs : Bool} {nv nb nr : Nat} {res : OpRes} (h : (sxGuarded E ops mv mvs nv nb nr o).eval σ = some (g, res)) :
  (rdGuard ops o).eval σ = some g /\ DstOk E.ntmps o /\ (sxOpS E mv mvs nv nb nr g o).eval σ = some res /\ res.upd.all (fun x => keyIn E.ntmps nb nr x.1) = true := by
 simp only [sxGuarded, eval_bind, Option.bind_eq_some_iff, eval_guardR, eval_ret, Option.some.injEq, Prod.mk.injEq] at h
 obtain ⟨g', h1, _, h2, res', h3, _, h4, rfl, rfl⟩ := h
 refine ⟨h1, fun d hd => ?_, h3, ?_⟩
 ·rw [hd] at h2
  dsimp only at h2
  split at h2
  ·rename_i hb; simpa using hb
  ·cases h2
 ·split at h4
  ·rename_i hb; exact hb
  ·cases h4
def OpGo (P : Program) (E : Env) (F : Frame0) (σ : Nat -> Option Cont) (ρ : List D) (ops : Array Oper) (o : Oper) (Q : Exit -> Act -> World -> Prop) (u : List (Nat × Cont)) (a : Act) (w : World) : Prop :=
 if Region.wanted o (yielded ops a.tmps) then o.wp P a w (Nx E.ntmps F σ ρ u) Q else Nx E.ntmps F σ ρ u (a.put o.dst undef) w
theorem sound_guarded (hR : R E.ntmps F σ ρ a w G) (hti : TiOk P E.ti) {ops : Array Oper} (hds : ∀ o ∈ ops.toList, DstOk E.ntmps o) {mv mvs : Bool} {nv nb nr : Nat} (hf : Fresh σ nb nr) {res : OpRes}
  (h : (sxGuarded E ops.toList mv mvs nv nb nr o).eval σ = some (g, res)) (hst : StepsOk cf ρ g nv res.lets)
  (hcall : ∀ f args argTypes, o.op = .call { callee := .value f, args, argTypes } -> Sound P E F σ ρ a w g o Q res.upd) : OpGo P E F σ ρ ops o Q res.upd a w := by
 obtain ⟨h1, h2, h3, -⟩ := sxGuarded_inv h
 have hs := sound_opS hR h2 hti hf h3 hst hcall
 unfold OpGo
 rw [rdGuard_rep hR hds h1]
 split
 ·rename_i hg; exact hs.1 hg
 ·rename_i hg; exact hs.2 (by simpa using hg)
end
end Go.Proofs.YtpgnlmfmlffjcaaGreat.Rf

namespace Go.Proofs.YtpgnlmfmlffjcaaGreat.Rf
set_option linter.unusedVariables false
set_option linter.unusedSimpArgs false
section
variable {cf : Nat -> List D -> Option (List D)}
theorem isYield_iff {i : Nat} {k : Kind} : isYield i k = true ↔ k = .yield i := by
 cases k <;> simp [isYield]
 exact eq_comm
theorem isCont_iff {k : Kind} : isCont k = true ↔ k = .cont := by cases k <;> simp [isCont]
theorem Lc_ind {β : Type} {body : Tm β} {ρ : List D} {C : List D -> Out β -> Prop}
  (hstop : ∀ vs o, Ec cf body (ρ ++ vs) = some o -> o.kind ≠ .cont -> C vs o)
  (hgo : ∀ vs o o', Ec cf body (ρ ++ vs) = some o -> o.kind = .cont -> C o.vals o' -> Lc cf body ρ o.vals = some o' -> C vs o') :
  ∀ {vs : List D} {o : Out β}, Lc cf body ρ vs = some o -> C vs o := by
 intro vs o h
 have h' := (lim_some (Lc_m (cf := cf) body ρ vs)).1 h
 obtain ⟨n, hn⟩ := h'
 have key : ∀ m vs, iter m (fun vs => runT cf n body (ρ ++ vs)) vs = some o -> C vs o /\ Lc cf body ρ vs = some o := by
  intro m
  induction m with
  | zero => intro vs h; cases h
  | succ m ih =>
   intro vs h
   simp only [iter, Option.bind_eq_some_iff] at h
   obtain ⟨o1, h1, h2⟩ := h
   have e1 : Ec cf body (ρ ++ vs) = some o1 := Ec_some.2 ⟨n, h1⟩
   split at h2
   ·rename_i hk
    obtain ⟨h3, h4⟩ := ih _ h2
    exact ⟨hgo vs o1 o e1 hk h3 h4, by rw [Lc_eq, e1, Option.bind_some, if_pos hk]; exact h4⟩
   ·rename_i hk
    obtain rfl := Option.some.inj h2
    exact ⟨hstop vs o1 e1 hk, by rw [Lc_eq, e1, Option.bind_some, if_neg hk]⟩
 exact (key n vs hn).1
theorem no_ev {β : Type} {f : Kind -> Bool} : ∀ {t : Tm β} {ρ : List D} {o : Out β}, t.no f = true -> Ec cf t ρ = some o -> f o.kind = false
 | .leaf k xs e, ρ, o, hn, h => by
  rw [Ec_leaf] at h
  obtain rfl := Option.some.inj h
  simpa [Tm.no] using hn
 | .stuck, ρ, o, hn, h => by rw [Ec_stuck] at h; cases h
 | .lt g p xs n k, ρ, o, hn, h => by
  rw [Ec_lt] at h
  split at h
  ·simp only [Option.bind_eq_some_iff] at h
   obtain ⟨ds, -, h⟩ := h
   split at h
   ·exact no_ev (t := k) hn h
   ·cases h
  ·exact no_ev (t := k) hn h
 | .call g c xs n os k, ρ, o, hn, h => by
  rw [Ec_call] at h
  split at h
  ·simp only [Option.bind_eq_some_iff] at h
   obtain ⟨ds, -, h⟩ := h
   split at h
   ·exact no_ev (t := k) hn h
   ·cases h
  ·exact no_ev (t := k) hn h
 | .ite c t e, ρ, o, hn, h => by
  simp only [Tm.no, Bool.and_eq_true] at hn
  rw [Ec_ite] at h
  split at h
  ·exact no_ev hn.1 h
  ·exact no_ev hn.2 h
  ·cases h
 | .bind i t k, ρ, o, hn, h => by
  simp only [Tm.no, Bool.and_eq_true] at hn
  simp only [Ec_bind, Option.bind_eq_some_iff] at h
  obtain ⟨o1, h1, h2⟩ := h
  split at h2
  ·exact no_ev hn.2 h2
  ·obtain rfl := Option.some.inj h2
   exact no_ev hn.1 h1
 | .loop init b, ρ, o, hn, h => by
  rw [Ec_loop] at h
  simp only [Tm.no] at hn
  exact Lc_ind (C := fun _ o => f o.kind = false) (fun vs o h1 _ => no_ev hn h1) (fun _ _ _ _ _ h3 _ => h3) h
theorem graft_ev {f : St -> Option (Tm St)} : ∀ {t t' : Tm St} {ρ : List D} {o' : Out St}, t.graft f = some t' -> Ec cf t' ρ = some o' ->
  ∃ o, Ec cf t ρ = some o /\ ((o.kind = .fall /\ ∃ r, f o.ext = some r /\ Ec cf r o.env = some o') \/ (o.kind ≠ .fall /\ o' = o))
 | .leaf k xs s, t', ρ, o', hg, h => by
  cases k with
  | fall => exact ⟨_, Ec_leaf .., .inl ⟨rfl, t', hg, h⟩⟩
  | _ =>
   simp only [Tm.graft, Option.some.injEq] at hg
   subst hg
   rw [Ec_leaf] at h
   obtain rfl := Option.some.inj h
   exact ⟨_, Ec_leaf .., .inr ⟨by simp, rfl⟩⟩
 | .stuck, t', ρ, o', hg, h => by
  simp only [Tm.graft, Option.some.injEq] at hg
  subst hg
  rw [Ec_stuck] at h; cases h
 | .lt g p xs n k, t', ρ, o', hg, h => by
  simp only [Tm.graft, Option.map_eq_some_iff] at hg
  obtain ⟨k', hk, rfl⟩ := hg
  rw [Ec_lt] at h
  simp only [Ec_lt]
  split at h
  ·rename_i hgo
   simp only [Option.bind_eq_some_iff] at h
   obtain ⟨ds, h1, h⟩ := h
   split at h
   ·rename_i hl
    obtain ⟨o, h2, h3⟩ := graft_ev hk h
    exact ⟨o, by rw [if_pos hgo, h1, Option.bind_some, if_pos hl]; exact h2, h3⟩
   ·cases h
  ·rename_i hgo
   obtain ⟨o, h2, h3⟩ := graft_ev hk h
   exact ⟨o, by rw [if_neg hgo]; exact h2, h3⟩
 | .call g c xs n os k, t', ρ, o', hg, h => by
  simp only [Tm.graft, Option.map_eq_some_iff] at hg
  obtain ⟨k', hk, rfl⟩ := hg
  rw [Ec_call] at h
  simp only [Ec_call]
  split at h
  ·rename_i hgo
   simp only [Option.bind_eq_some_iff] at h
   obtain ⟨ds, h1, h⟩ := h
   split at h
   ·rename_i hl
    obtain ⟨o, h2, h3⟩ := graft_ev hk h
    exact ⟨o, by rw [if_pos hgo, h1, Option.bind_some, if_pos hl]; exact h2, h3⟩
   ·cases h
  ·rename_i hgo
   obtain ⟨o, h2, h3⟩ := graft_ev hk h
   exact ⟨o, by rw [if_neg hgo]; exact h2, h3⟩
 | .ite c t e, t', ρ, o', hg, h => by
  simp only [Tm.graft, Option.bind_eq_some_iff, Option.map_eq_some_iff] at hg
  obtain ⟨t1, ht, e1, he, rfl⟩ := hg
  rw [Ec_ite] at h
  simp only [Ec_ite]
  split at h
  ·exact graft_ev ht h
  ·exact graft_ev he h
  ·cases h
 | .bind i t k, t', ρ, o', hg, h => by
  simp only [Tm.graft] at hg
  cases hn : t.no atFall with
  | false => rw [hn] at hg; cases hg
  | true =>
   rw [hn, cond_true, Option.map_eq_some_iff] at hg
   obtain ⟨k', hk, rfl⟩ := hg
   simp only [Ec_bind, Option.bind_eq_some_iff] at h
   obtain ⟨o1, h1, h2⟩ := h
   simp only [Ec_bind, h1, Option.bind_some]
   split at h2
   ·rename_i hy
    rw [if_pos hy]
    exact graft_ev hk h2
   ·rename_i hy
    rw [if_neg hy]
    obtain rfl := Option.some.inj h2
    refine ⟨o1, rfl, .inr ⟨fun e => ?_, rfl⟩⟩
    have := no_ev hn h1
    rw [e] at this
    cases this
 | .loop init b, t', ρ, o', hg, h => by
  simp only [Tm.graft] at hg
  cases hn : b.no atFall with
  | false => rw [hn] at hg; cases hg
  | true =>
   rw [hn, cond_true, Option.some.injEq] at hg
   subst hg
   refine ⟨o', h, .inr ⟨fun e => ?_, rfl⟩⟩
   have := no_ev (t := .loop init b) (f := atFall) hn h
   rw [e] at this
   cases this
theorem exitFall_ev {id : Nat} : ∀ {t t' : Tm St} {ρ : List D} {o' : Out St}, t.exitFall id = some t' -> Ec cf t' ρ = some o' ->
  ∃ o, Ec cf t ρ = some o /\ ((isExit id o.kind = true /\ o' = ⟨.fall, [], o.ext, o.env⟩) \/ (isExit id o.kind = false /\ o' = o))
 | .leaf k xs s, t', ρ, o', hg, h => by
  cases k with
  | exit j =>
   simp only [Tm.exitFall, Option.some.injEq] at hg
   cases hb : Nat.beq id j with
   | true =>
    rw [hb, cond_true] at hg
    subst hg
    rw [Ec_leaf] at h
    obtain rfl := Option.some.inj h
    exact ⟨_, Ec_leaf .., .inl ⟨by simpa [isExit] using hb, rfl⟩⟩
   | false =>
    rw [hb, cond_false] at hg
    subst hg
    rw [Ec_leaf] at h
    obtain rfl := Option.some.inj h
    exact ⟨_, Ec_leaf .., .inr ⟨by simpa [isExit] using hb, rfl⟩⟩
  | _ =>
   simp only [Tm.exitFall, Option.some.injEq] at hg
   subst hg
   rw [Ec_leaf] at h
   obtain rfl := Option.some.inj h
   exact ⟨_, Ec_leaf .., .inr ⟨rfl, rfl⟩⟩
 | .stuck, t', ρ, o', hg, h => by
  simp only [Tm.exitFall, Option.some.injEq] at hg
  subst hg
  rw [Ec_stuck] at h; cases h
 | .lt g p xs n k, t', ρ, o', hg, h => by
  simp only [Tm.exitFall, Option.map_eq_some_iff] at hg
  obtain ⟨k', hk, rfl⟩ := hg
  rw [Ec_lt] at h
  simp only [Ec_lt]
  split at h
  ·rename_i hgo
   simp only [Option.bind_eq_some_iff] at h
   obtain ⟨ds, h1, h⟩ := h
   split at h
   ·rename_i hl
    obtain ⟨o, h2, h3⟩ := exitFall_ev hk h
    exact ⟨o, by rw [if_pos hgo, h1, Option.bind_some, if_pos hl]; exact h2, h3⟩
   ·cases h
  ·rename_i hgo
   obtain ⟨o, h2, h3⟩ := exitFall_ev hk h
   exact ⟨o, by rw [if_neg hgo]; exact h2, h3⟩
 | .call g c xs n os k, t', ρ, o', hg, h => by
  simp only [Tm.exitFall, Option.map_eq_some_iff] at hg
  obtain ⟨k', hk, rfl⟩ := hg
  rw [Ec_call] at h
  simp only [Ec_call]
  split at h
  ·rename_i hgo
   simp only [Option.bind_eq_some_iff] at h
   obtain ⟨ds, h1, h⟩ := h
   split at h
   ·rename_i hl
    obtain ⟨o, h2, h3⟩ := exitFall_ev hk h
    exact ⟨o, by rw [if_pos hgo, h1, Option.bind_some, if_pos hl]; exact h2, h3⟩
   ·cases h
  ·rename_i hgo
   obtain ⟨o, h2, h3⟩ := exitFall_ev hk h
   exact ⟨o, by rw [if_neg hgo]; exact h2, h3⟩
 | .ite c t e, t', ρ, o', hg, h => by
  simp only [Tm.exitFall, Option.bind_eq_some_iff, Option.map_eq_some_iff] at hg
  obtain ⟨t1, ht, e1, he, rfl⟩ := hg
  rw [Ec_ite] at h
  simp only [Ec_ite]
  split at h
  ·exact exitFall_ev ht h
  ·exact exitFall_ev he h
  ·cases h
 | .bind i t k, t', ρ, o', hg, h => by
  simp only [Tm.exitFall] at hg
  cases hn : t.no (isExit id) with
  | false => rw [hn] at hg; cases hg
  | true =>
   rw [hn, cond_true, Option.map_eq_some_iff] at hg
   obtain ⟨k', hk, rfl⟩ := hg
   simp only [Ec_bind, Option.bind_eq_some_iff] at h
   obtain ⟨o1, h1, h2⟩ := h
   simp only [Ec_bind, h1, Option.bind_some]
   split at h2
   ·rename_i hy
    rw [if_pos hy]
    exact exitFall_ev hk h2
   ·rename_i hy
    rw [if_neg hy]
    obtain rfl := Option.some.inj h2
    exact ⟨o1, rfl, .inr ⟨no_ev hn h1, rfl⟩⟩
 | .loop init b, t', ρ, o', hg, h => by
  simp only [Tm.exitFall] at hg
  cases hn : b.no (isExit id) with
  | false => rw [hn] at hg; cases hg
  | true =>
   rw [hn, cond_true, Option.some.injEq] at hg
   subst hg
   exact ⟨o', h, .inr ⟨no_ev (t := .loop init b) (f := isExit id) hn h, rfl⟩⟩
theorem turn_ev {out : Kind} {sel : Kind -> Bool} {f : St -> Option (Tm St)} (hf : ∀ s r, f s = some r -> ∀ ρ o, Ec cf r ρ = some o -> o.kind = out)
  (hc : sel .cont = false) (hy : ∀ i, sel (.yield i) = false) : ∀ {t t' : Tm St} {ρ : List D} {o' : Out St}, t.turn out sel f = some t' -> Ec cf t' ρ = some o' ->
  ∃ o, Ec cf t ρ = some o /\ ((sel o.kind = true /\ o'.kind = out /\ ∃ r, f o.ext = some r /\ Ec cf r o.env = some o') \/ (sel o.kind = false /\ o' = o))
 | .leaf k xs s, t', ρ, o', hg, h => by
  simp only [Tm.turn] at hg
  cases hs : sel k with
  | true =>
   rw [hs, cond_true] at hg
   exact ⟨_, Ec_leaf .., .inl ⟨hs, hf _ _ hg _ _ h, t', hg, h⟩⟩
  | false =>
   rw [hs, cond_false, Option.some.injEq] at hg
   subst hg
   rw [Ec_leaf] at h
   obtain rfl := Option.some.inj h
   exact ⟨_, Ec_leaf .., .inr ⟨hs, rfl⟩⟩
 | .stuck, t', ρ, o', hg, h => by
  simp only [Tm.turn, Option.some.injEq] at hg
  subst hg
  rw [Ec_stuck] at h; cases h
 | .lt g p xs n k, t', ρ, o', hg, h => by
  simp only [Tm.turn, Option.map_eq_some_iff] at hg
  obtain ⟨k', hk, rfl⟩ := hg
  rw [Ec_lt] at h
  simp only [Ec_lt]
  split at h
  ·rename_i hgo
   simp only [Option.bind_eq_some_iff] at h
   obtain ⟨ds, h1, h⟩ := h
   split at h
   ·rename_i hl
    obtain ⟨o, h2, h3⟩ := turn_ev hf hc hy hk h
    exact ⟨o, by rw [if_pos hgo, h1, Option.bind_some, if_pos hl]; exact h2, h3⟩
   ·cases h
  ·rename_i hgo
   obtain ⟨o, h2, h3⟩ := turn_ev hf hc hy hk h
   exact ⟨o, by rw [if_neg hgo]; exact h2, h3⟩
 | .call g c xs n os k, t', ρ, o', hg, h => by
  simp only [Tm.turn, Option.map_eq_some_iff] at hg
  obtain ⟨k', hk, rfl⟩ := hg
  rw [Ec_call] at h
  simp only [Ec_call]
  split at h
  ·rename_i hgo
   simp only [Option.bind_eq_some_iff] at h
   obtain ⟨ds, h1, h⟩ := h
   split at h
   ·rename_i hl
    obtain ⟨o, h2, h3⟩ := turn_ev hf hc hy hk h
    exact ⟨o, by rw [if_pos hgo, h1, Option.bind_some, if_pos hl]; exact h2, h3⟩
   ·cases h
  ·rename_i hgo
   obtain ⟨o, h2, h3⟩ := turn_ev hf hc hy hk h
   exact ⟨o, by rw [if_neg hgo]; exact h2, h3⟩
 | .ite c t e, t', ρ, o', hg, h => by
  simp only [Tm.turn, Option.bind_eq_some_iff, Option.map_eq_some_iff] at hg
  obtain ⟨t1, ht, e1, he, rfl⟩ := hg
  rw [Ec_ite] at h
  simp only [Ec_ite]
  split at h
  ·exact turn_ev hf hc hy ht h
  ·exact turn_ev hf hc hy he h
  ·cases h
 | .bind i t k, t', ρ, o', hg, h => by
  simp only [Tm.turn] at hg
  cases hiy : isYield i out with
  | true =>
   rw [hiy, cond_true] at hg
   cases hn : t.no sel with
   | false => rw [hn] at hg; cases hg
   | true =>
    rw [hn, cond_true, Option.map_eq_some_iff] at hg
    obtain ⟨k', hk, rfl⟩ := hg
    simp only [Ec_bind, Option.bind_eq_some_iff] at h
    obtain ⟨o1, h1, h2⟩ := h
    simp only [Ec_bind, h1, Option.bind_some]
    split at h2
    ·rename_i hy'
     rw [if_pos hy']
     exact turn_ev hf hc hy hk h2
    ·rename_i hy'
     rw [if_neg hy']
     obtain rfl := Option.some.inj h2
     exact ⟨o1, rfl, .inr ⟨no_ev hn h1, rfl⟩⟩
  | false =>
   rw [hiy, cond_false] at hg
   simp only [Option.bind_eq_some_iff, Option.map_eq_some_iff] at hg
   obtain ⟨t1, ht, k', hk, rfl⟩ := hg
   have hne : out ≠ .yield i := fun e => by rw [isYield_iff.2 e] at hiy; cases hiy
   simp only [Ec_bind, Option.bind_eq_some_iff] at h
   obtain ⟨o1', h1, h2⟩ := h
   obtain ⟨o1, h3, h4⟩ := turn_ev hf hc hy ht h1
   simp only [Ec_bind, h3, Option.bind_some]
   rcases h4 with ⟨h5, h6, h7⟩ | ⟨h5, h6⟩
   ·rw [if_neg (by rw [h6]; exact hne)] at h2
    obtain rfl := Option.some.inj h2
    have : o1.kind ≠ .yield i := fun e => by rw [e, hy] at h5; cases h5
    rw [if_neg this]
    exact ⟨o1, rfl, .inl ⟨h5, h6, h7⟩⟩
   ·subst h6
    split at h2
    ·rename_i hy'
     rw [if_pos hy']
     exact turn_ev hf hc hy hk h2
    ·rename_i hy'
     rw [if_neg hy']
     obtain rfl := Option.some.inj h2
     exact ⟨_, rfl, .inr ⟨h5, rfl⟩⟩
 | .loop init b, t', ρ, o', hg, h => by
  simp only [Tm.turn] at hg
  cases hic : isCont out with
  | true =>
   rw [hic, cond_true] at hg
   cases hn : b.no sel with
   | false => rw [hn] at hg; cases hg
   | true =>
    rw [hn, cond_true, Option.some.injEq] at hg
    subst hg
    exact ⟨o', h, .inr ⟨no_ev (t := .loop init b) (f := sel) hn h, rfl⟩⟩
  | false =>
   rw [hic, cond_false, Option.map_eq_some_iff] at hg
   obtain ⟨b', hb, rfl⟩ := hg
   have hne : out ≠ .cont := fun e => by rw [isCont_iff.2 e] at hic; cases hic
   rw [Ec_loop] at h
   simp only [Ec_loop]
   refine Lc_ind (C := fun vs o' => ∃ o, Lc cf b ρ vs = some o /\ ((sel o.kind = true /\ o'.kind = out /\ ∃ r, f o.ext = some r /\ Ec cf r o.env = some o') \/ (sel o.kind = false /\ o' = o)))
    (fun vs o1' h1 hk => ?_) (fun vs o1' o2 h1 hk h2 h2' => ?_) h
   ·obtain ⟨o1, h3, h4⟩ := turn_ev hf hc hy hb h1
    rcases h4 with ⟨h5, h6, h7⟩ | ⟨h5, h6⟩
    ·have : o1.kind ≠ .cont := fun e => by rw [e, hc] at h5; cases h5
     exact ⟨o1, by rw [Lc_eq, h3, Option.bind_some, if_neg this], .inl ⟨h5, h6, h7⟩⟩
    ·subst h6
     exact ⟨o1', by rw [Lc_eq, h3, Option.bind_some, if_neg hk], .inr ⟨h5, rfl⟩⟩
   ·obtain ⟨o1, h3, h4⟩ := turn_ev hf hc hy hb h1
    rcases h4 with ⟨h5, h6, h7⟩ | ⟨h5, h6⟩
    ·exact absurd (h6.symm.trans hk) hne
    ·subst h6
     obtain ⟨o, h8, h9⟩ := h2
     exact ⟨o, by rw [Lc_eq, h3, Option.bind_some, if_pos hk]; exact h8, h9⟩
end
end Go.Proofs.YtpgnlmfmlffjcaaGreat.Rf

namespace Go.Proofs.YtpgnlmfmlffjcaaGreat.Rf
set_option linter.unusedVariables false
set_option linter.unusedSimpArgs false
def Scoped (σ : Nat -> Option Cont) (N : Nat) : Prop := ∀ k c, σ k = some c -> contScoped N c = true
def SameAt (N : Nat) (ρ ρ' : List D) : Prop := ∀ x, atomScoped N x = true -> x.val ρ' = x.val ρ
theorem SameAt.ext {N : Nat} {ρ : List D} (h : N <= ρ.length) (e : List D) : SameAt N ρ (ρ ++ e) := fun x hx => atomScoped_val hx h
section
variable {n : Nat} {F : Frame0} {σ : Nat -> Option Cont} {ρ ρ' : List D} {a : Act} {w : World} {G : Gh} {N : Nat}
theorem SameAt.gOn (h : SameAt N ρ ρ') {g : Option (Atom × Bool)} (hg : gScoped N g = true) : Go.Proofs.YtpgnlmfmlffjcaaGreat.Rf.gOn ρ' g = Go.Proofs.YtpgnlmfmlffjcaaGreat.Rf.gOn ρ g := by
 cases g with
 | none => rfl
 | some z =>
  obtain ⟨x, w⟩ := z
  simp only [gScoped] at hg
  simp only [Go.Proofs.YtpgnlmfmlffjcaaGreat.Rf.gOn, h x hg]
theorem SameAt.path (h : SameAt N ρ ρ') {p : List (Atom × Nat × Nat)} (hp : (p.all fun x => atomScoped N x.1) = true) : pathVal ρ' p = pathVal ρ p := by
 unfold pathVal
 apply List.map_congr_left
 intro x hx
 rw [List.all_eq_true] at hp
 unfold idxVal
 rw [h x.1 (hp x hx)]
mutual
theorem LeafRep.same (h : SameAt N ρ ρ') : ∀ (l : Leaf) (v : Value), l.inScope N = true -> LeafRep σ ρ G w l v -> LeafRep σ ρ' G w l v
 | .dead, _, _, hl => by simpa [LeafRep] using hl
 | .sc x, v, hs, hl => by
  simp only [Leaf.inScope] at hs
  simp only [LeafRep, h x hs] at hl ⊢
  exact hl
 | .su g x, v, hs, hl => by
  simp only [Leaf.inScope, Bool.and_eq_true] at hs
  have hg : Go.Proofs.YtpgnlmfmlffjcaaGreat.Rf.gOn ρ' (some g) = Go.Proofs.YtpgnlmfmlffjcaaGreat.Rf.gOn ρ (some g) := h.gOn (by obtain ⟨y, b⟩ := g; exact hs.2)
  simp only [LeafRep, h x hs.1, hg] at hl ⊢
  exact hl
 | .ex r, v, _, hl => by simpa [LeafRep] using hl
 | .sn deps p nie x, v, hs, hl => by
  simp only [Leaf.inScope, Bool.and_eq_true] at hs
  simp only [LeafRep, h x hs.1] at hl ⊢
  refine ⟨hl.1, fun hv => ?_⟩
  obtain ⟨h1, h2, h3⟩ := hl.2 hv
  refine ⟨h1, h2, ?_⟩
  cases p with
  | no => trivial
  | view => exact h3
  | suf sz lo =>
   simp only [PthRep, idxVal] at h3 ⊢
   rw [h lo hs.2]
   exact h3
  | path p =>
   simp only [PthRep] at h3 ⊢
   rw [h.path hs.2]
   exact h3
 | .px b off, v, _, hl => by simpa [LeafRep] using hl
 | .pe l sz i off, v, hs, hl => by
  simp only [Leaf.inScope, Bool.and_eq_true] at hs
  simp only [LeafRep, h i hs.2] at hl ⊢
  obtain ⟨a, n, c, k, iv, h1, h2⟩ := hl
  exact ⟨a, n, c, k, iv, LeafRep.same h l _ hs.1 h1, h2⟩
 | .rp deps sz x, v, hs, hl => by
  simp only [Leaf.inScope] at hs
  simp only [LeafRep, h x hs] at hl ⊢
  exact hl
 | .pn, v, _, hl => by simpa [LeafRep] using hl
 | .clo f caps, v, hs, hl => by
  simp only [Leaf.inScope] at hs
  simp only [LeafRep] at hl ⊢
  obtain ⟨vs, h1, h2⟩ := hl
  exact ⟨vs, h1, LeavesRep.same h caps vs hs h2⟩
theorem LeavesRep.same (h : SameAt N ρ ρ') : ∀ (ls : List Leaf) (vs : List Value), leavesScoped N ls = true -> LeavesRep σ ρ G w ls vs -> LeavesRep σ ρ' G w ls vs
 | [], vs, _, hl => by simpa [LeavesRep] using hl
 | l :: ls, vs, hs, hl => by
  simp only [leavesScoped, Bool.and_eq_true] at hs
  simp only [LeavesRep] at hl ⊢
  obtain ⟨u, us, e, h1, h2⟩ := hl
  exact ⟨u, us, e, LeafRep.same h l u hs.1 h1, LeavesRep.same h ls us hs.2 h2⟩
end
theorem TupRep.same (h : SameAt N ρ ρ') : ∀ (ts : List (Bool × List Leaf)) (us : List Value), (ts.all fun v => leavesScoped N v.2) = true -> TupRep σ ρ G w ts us -> TupRep σ ρ' G w ts us
 | [], _, _, ht => ht
 | (a, ls) :: r, us, hs, ht => by
  simp only [List.all_cons, Bool.and_eq_true] at hs
  obtain ⟨u, us', vs, e, h1, h2, h3⟩ := ht
  exact ⟨u, us', vs, e, LeavesRep.same h ls vs hs.1 h1, h2, TupRep.same h r us' hs.2 h3⟩
theorem SVRep.same (h : SameAt N ρ ρ') {v : SV} {u : Value} (hs : svScoped N v = true) (hv : SVRep σ ρ G w v u) : SVRep σ ρ' G w v u := by
 cases v with
 | dead => trivial
 | one l => exact LeafRep.same h l u hs hv
 | agg ls => obtain ⟨vs, e, h1⟩ := hv; exact ⟨vs, e, LeavesRep.same h ls vs hs h1⟩
 | tup ts => obtain ⟨us, e, h1⟩ := hv; exact ⟨us, e, TupRep.same h ts us hs h1⟩
theorem leavesScoped_get : ∀ {ls : List Leaf} {j : Nat} {l : Leaf}, leavesScoped N ls = true -> ls[j]? = some l -> l.inScope N = true
 | [], j, l, _, h => by simp at h
 | m :: ls, 0, l, hs, h => by
  simp only [leavesScoped, Bool.and_eq_true] at hs
  simp only [List.getElem?_cons_zero, Option.some.injEq] at h
  rw [<- h]; exact hs.1
 | m :: ls, j + 1, l, hs, h => by
  simp only [leavesScoped, Bool.and_eq_true] at hs
  exact leavesScoped_get hs.2 (by simpa using h)
theorem R.same (h : R n F σ ρ a w G) (hs : Scoped σ N) (hv : SameAt N ρ ρ') : R n F σ ρ' a w G := by
 refine ⟨h.tmps, h.defers, fun k c hk => ?_, h.frame, h.rng⟩
 have hsc := hs k c hk
 cases c with
 | slot g v =>
  simp only [contScoped, Bool.and_eq_true] at hsc
  obtain ⟨t, e, h1⟩ := h.cont k _ hk
  exact ⟨t, e, fun hg => (h1 (by rw [<- hv.gOn hsc.1]; exact hg)).same hv hsc.2⟩
 | box ro ls =>
  simp only [contScoped] at hsc
  obtain ⟨b, e, h1, h2, h3⟩ := h.cont k _ hk
  refine ⟨b, e, h1, h2, fun j l hj => ?_⟩
  obtain ⟨v, h4, h5, h6⟩ := h3 j l hj
  exact ⟨v, h4, h5, LeafRep.same hv l v (leavesScoped_get hsc hj) h6⟩
 | root x m ver st =>
  simp only [contScoped] at hsc
  obtain ⟨r, e, h0, h1⟩ := h.cont k _ hk
  refine ⟨r, e, h0, ?_⟩
  cases st with
  | live => simp only [RootRep] at h1 ⊢; rw [hv x hsc]; exact h1
  | frozen => simp only [RootRep] at h1 ⊢; rw [hv x hsc]; exact h1
  | gone => trivial
  | fwd r' => exact h1
theorem R.ext (h : R n F σ ρ a w G) (hs : Scoped σ N) (hn : N <= ρ.length) (e : List D) : R n F σ (ρ ++ e) a w G := h.same hs (.ext hn e)
theorem atomScoped_mono {M : Nat} (h : N <= M) {x : Atom} (hx : atomScoped N x = true) : atomScoped M x = true := by
 cases x with
 | c d => rfl
 | v i => simp only [atomScoped, Nat.blt_eq] at hx ⊢; omega
theorem pathScoped_mono {M : Nat} (h : N <= M) {p : Pth} (hx : pthScoped N p = true) : pthScoped M p = true := by
 cases p with
 | no => rfl
 | view => rfl
 | suf sz lo => exact atomScoped_mono h hx
 | path p =>
  simp only [pthScoped, List.all_eq_true] at hx ⊢
  exact fun x hm => atomScoped_mono h (hx x hm)
mutual
theorem leafScoped_mono {M : Nat} (h : N <= M) : ∀ (l : Leaf), l.inScope N = true -> l.inScope M = true
 | .dead, _ => rfl
 | .sc x, hs => by simp only [Leaf.inScope] at hs ⊢; exact atomScoped_mono h hs
 | .su g x, hs => by simp only [Leaf.inScope, Bool.and_eq_true] at hs ⊢; exact ⟨atomScoped_mono h hs.1, atomScoped_mono h hs.2⟩
 | .ex r, _ => rfl
 | .sn deps p nie x, hs => by simp only [Leaf.inScope, Bool.and_eq_true] at hs ⊢; exact ⟨atomScoped_mono h hs.1, pathScoped_mono h hs.2⟩
 | .px b off, _ => rfl
 | .pe l sz i off, hs => by simp only [Leaf.inScope, Bool.and_eq_true] at hs ⊢; exact ⟨leafScoped_mono h l hs.1, atomScoped_mono h hs.2⟩
 | .rp deps sz x, hs => by simp only [Leaf.inScope] at hs ⊢; exact atomScoped_mono h hs
 | .pn, _ => rfl
 | .clo f caps, hs => by simp only [Leaf.inScope] at hs ⊢; exact leavesScoped_mono h caps hs
theorem leavesScoped_mono {M : Nat} (h : N <= M) : ∀ (ls : List Leaf), leavesScoped N ls = true -> leavesScoped M ls = true
 | [], _ => rfl
 | l :: ls, hs => by simp only [leavesScoped, Bool.and_eq_true] at hs ⊢; exact ⟨leafScoped_mono h l hs.1, leavesScoped_mono h ls hs.2⟩
end
theorem contScoped_mono {M : Nat} (h : N <= M) {c : Cont} (hs : contScoped N c = true) : contScoped M c = true := by
 cases c with
 | slot g v =>
  simp only [contScoped, Bool.and_eq_true] at hs ⊢
  refine ⟨gScoped_mono hs.1 h, ?_⟩
  cases v with
  | dead => rfl
  | one l => exact leafScoped_mono h l hs.2
  | agg ls => exact leavesScoped_mono h ls hs.2
  | tup ts =>
   have h2 := hs.2
   simp only [svScoped, List.all_eq_true] at h2 ⊢
   exact fun x hx => leavesScoped_mono h x.2 (h2 x hx)
 | box ro ls => exact leavesScoped_mono h ls hs
 | root x m ver st => exact atomScoped_mono h hs
theorem Scoped.mono {M : Nat} (hs : Scoped σ N) (h : N <= M) : Scoped σ M := fun k c hk => contScoped_mono h (hs k c hk)
theorem Scoped.upds {M : Nat} (hs : Scoped σ N) (h : N <= M) {u : List (Nat × Cont)} (hu : u.all (fun x => contScoped M x.2) = true) : Scoped (upds σ u) M := by
 intro k c hk
 rcases upds_get u σ k c hk with h1 | ⟨-, h1⟩
 ·rw [List.all_eq_true] at hu
  exact hu _ h1
 ·exact contScoped_mono h (hs k c h1)
end
end Go.Proofs.YtpgnlmfmlffjcaaGreat.Rf
