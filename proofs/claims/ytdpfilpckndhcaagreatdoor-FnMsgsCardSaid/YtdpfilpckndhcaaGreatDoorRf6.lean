/- Terms for the program's functions, and that they are right: part 6 of 9. -/
import Derived.Test.YtdpfilpckndhcaaGreatDoorRf5
set_option linter.unusedSimpArgs false
set_option linter.unusedVariables false
set_option linter.unnecessarySimpa false
set_option linter.unusedSectionVars false
namespace Go.Proofs.YtdpfilpckndhcaaGreatDoor.Rf
set_option linter.unusedVariables false
set_option linter.unusedSimpArgs false
theorem boxesOf_mem {wr : Bool} {ptrs : List (Nat × Nat × Nat)} : ∀ {bs : List (Bool × List (BS × BO))} {b j c off : Nat} {cs : List (BS × BO)}, bs[j]? = some (wr, cs) -> ptrOf (b + j) ptrs = some (c, off) -> c ∈ boxesOf wr ptrs b bs
 | [], b, j, c, off, cs, h, _ => by simp at h
 | (ro, ds) :: bs, b, 0, c, off, cs, h, hp => by
  simp only [List.getElem?_cons_zero, Option.some.injEq, Prod.mk.injEq] at h
  rw [Nat.add_zero] at hp
  simp only [boxesOf, h.1, hp]
  simp
 | (ro, ds) :: bs, b, j + 1, c, off, cs, h, hp => by
  have := boxesOf_mem (bs := bs) (b := b + 1) (j := j) (by simpa using h) (by rw [show b + 1 + j = b + (j + 1) by omega]; exact hp)
  simp only [boxesOf]
  cases (ro == wr) with
  | false => exact this
  | true =>
   simp only [cond_true]
   split
   ·exact List.mem_cons_of_mem _ this
   ·exact this
theorem rwOf_none {ptrs : List (Nat × Nat × Nat)} {c : Nat} : ∀ {bs : List (Bool × List (BS × BO))} {b : Nat}, c ∉ boxesOf false ptrs b bs -> rwOf ptrs c b bs = none
 | [], b, h => rfl
 | (ro, cs) :: bs, b, h => by
  simp only [boxesOf] at h
  simp only [rwOf]
  cases ro with
  | true => simp only [if_true]; exact rwOf_none h
  | false =>
   simp only [Bool.false_eq_true, if_false]
   have e : (false == false) = true := rfl
   rw [e, cond_true] at h
   split
   ·rename_i c' off hp
    rw [hp] at h
    simp only [List.mem_cons, not_or] at h
    rw [if_neg fun e => h.1 e.symm]
    exact rwOf_none h.2
   ·rename_i hp
    rw [hp] at h
    exact rwOf_none h
theorem rwOf_some {ptrs : List (Nat × Nat × Nat)} {c off : Nat} {cs : List (BS × BO)} : ∀ {bs : List (Bool × List (BS × BO))} {b j : Nat}, distinct (boxesOf false ptrs b bs) = true -> bs[j]? = some (false, cs) -> ptrOf (b + j) ptrs = some (c, off) -> rwOf ptrs c b bs = some (b + j)
 | [], b, j, _, h, _ => by simp at h
 | (ro, ds) :: bs, b, 0, hd, h, hp => by
  simp only [List.getElem?_cons_zero, Option.some.injEq, Prod.mk.injEq] at h
  rw [Nat.add_zero] at hp
  simp only [rwOf, h.1, hp]
  simp
 | (ro, ds) :: bs, b, j + 1, hd, h, hp => by
  have hp' : ptrOf (b + 1 + j) ptrs = some (c, off) := by rw [show b + 1 + j = b + (j + 1) by omega]; exact hp
  have hm := boxesOf_mem (wr := false) (bs := bs) (b := b + 1) (j := j) (by simpa using h) hp'
  simp only [boxesOf] at hd
  simp only [rwOf]
  cases ro with
  | true =>
   have e : (true == false) = false := rfl
   rw [e, cond_false] at hd
   simp only [if_true]
   rw [rwOf_some hd (by simpa using h) hp', show b + 1 + j = b + (j + 1) by omega]
  | false =>
   have e : (false == false) = true := rfl
   rw [e, cond_true] at hd
   simp only [Bool.false_eq_true, if_false]
   split
   ·rename_i c' off' hp2
    rw [hp2] at hd
    simp only [distinct, Bool.and_eq_true, Bool.not_eq_true'] at hd
    have hne : c' ≠ c := fun e => by rw [<- e, <- has_iff, hd.1] at hm; cases hm
    rw [if_neg hne, rwOf_some hd.2 (by simpa using h) hp', show b + 1 + j = b + (j + 1) by omega]
   ·rename_i hp2
    rw [hp2] at hd
    rw [rwOf_some hd (by simpa using h) hp', show b + 1 + j = b + (j + 1) by omega]
theorem rwOf_inv {ptrs : List (Nat × Nat × Nat)} {c x : Nat} : ∀ {bs : List (Bool × List (BS × BO))} {b : Nat}, rwOf ptrs c b bs = some x -> ∃ j cs off, x = b + j /\ bs[j]? = some (false, cs) /\ ptrOf x ptrs = some (c, off)
 | [], b, h => by simp [rwOf] at h
 | (ro, cs) :: bs, b, h => by
  simp only [rwOf] at h
  have next : rwOf ptrs c (b + 1) bs = some x -> ∃ j cs' off, x = b + j /\ ((ro, cs) :: bs)[j]? = some (false, cs') /\ ptrOf x ptrs = some (c, off) := by
   intro h
   obtain ⟨j, cs', off, h1, h2, h3⟩ := rwOf_inv h
   exact ⟨j + 1, cs', off, by omega, by simpa using h2, h3⟩
  split at h
  ·exact next h
  ·rename_i hro
   split at h
   ·rename_i c' off hp
    split at h
    ·rename_i e
     subst e
     obtain rfl := Option.some.inj h
     refine ⟨0, cs, off, rfl, ?_, hp⟩
     cases ro with
     | true => exact absurd rfl hro
     | false => rfl
    ·exact next h
   ·exact next h
section
variable {E : Env} {F : Frame0} {σ : Nat -> Option Cont} {ρ : List D} {a : Act} {w : World} {G : Gh} {g : Option (Atom × Bool)} {cf : Nat -> List D -> Option (List D)} {s : Sig} {Z : Take} {nv : Nat}
theorem takeOw_ptrs {A B : Take} {d : Nat} {l : Leaf} (h : (takeOw A d l).eval σ = some B) : B.ptrs = A.ptrs := by
 unfold takeOw at h
 split at h
 ·simp only [eval_bind, eval_rdK, Option.bind_some] at h
  split at h
  ·simp only [eval_bind, eval_guardR, Option.bind_eq_some_iff, eval_ret, Option.some.injEq] at h
   obtain ⟨_, -, rfl⟩ := h; rfl
  ·cases h
 ·simp only [eval_ret, Option.some.injEq] at h
  subst h; rfl
 ·cases h
theorem takeCell_inv {A B : Take} {t : BS} {l : Leaf} (h : (takeCell A t l).eval σ = some B) : (∃ x, t = .sc /\ l = .sc x /\ B = { A with xs := A.xs ++ [x] }) \/ (∃ nie, t = .fz nie /\ (takeFz A nie l).eval σ = some B) \/ (∃ d, t = .ow d /\ (takeOw A d l).eval σ = some B) \/ (t = .ot /\ stOk l = true /\ B = A) := by
 cases t with
 | sc =>
  cases l <;> simp only [takeCell, eval_no, reduceCtorEq] at h
  simp only [eval_ret, Option.some.injEq] at h
  exact .inl ⟨_, rfl, rfl, h.symm⟩
 | fz nie =>
  have h' : (takeFz A nie l).eval σ = some B := by cases l <;> exact h
  exact .inr (.inl ⟨nie, rfl, h'⟩)
 | ow d =>
  have h' : (takeOw A d l).eval σ = some B := by cases l <;> exact h
  exact .inr (.inr (.inl ⟨d, rfl, h'⟩))
 | ot =>
  have h' : (bif stOk l then RdM.ret A else .no : RdM Take).eval σ = some B := by cases l <;> exact h
  rw [eval_bif] at h'
  split at h'
  ·rename_i hb
   simp only [eval_ret, Option.some.injEq] at h'
   exact .inr (.inr (.inr ⟨rfl, hb, h'.symm⟩))
  ·cases h'
theorem takeCell_le {A B : Take} {t : BS} {l : Leaf} (h : (takeCell A t l).eval σ = some B) : TLe A B /\ B.ptrs = A.ptrs := by
 have hinv := takeCell_inv h
 clear h
 rcases hinv with ⟨x, rfl, rfl, rfl⟩ | ⟨nie, rfl, h⟩ | ⟨d, rfl, h⟩ | ⟨rfl, -, rfl⟩
 ·exact ⟨⟨⟨_, rfl⟩, fun _ h => h, fun _ h => h, ⟨[], by simp⟩, ⟨[], by simp⟩⟩, rfl⟩
 ·refine ⟨takeFz_le h, ?_⟩
  unfold takeFz at h
  simp only [eval_bind, Option.bind_eq_some_iff, eval_ret, Option.some.injEq] at h
  obtain ⟨s, h1, rfl⟩ := h
  rfl
 ·exact ⟨takeOw_le h, takeOw_ptrs h⟩
 ·exact ⟨.refl _, rfl⟩
theorem takeCell_rep (hR : R E.ntmps F σ ρ a w G) (hg : gOn ρ g = true) (hst : StepsOk cf ρ g nv Z.lets) (hk : TkOk s Z) {A B : Take} {t : BS} {l : Leaf} (h : (takeCell A t l).eval σ = some B) (hZ : TLe B Z) {v : Value} (hl : LeafRep σ ρ G w l v) :
  EntCell (callG ρ G w s Z) w (Z.xs.map (·.val ρ)) A.xs.length A.rts.length t v /\ B.xs.length = A.xs.length + t.cnt /\ B.rts.length = A.rts.length + t.rcnt := by
 have hinv := takeCell_inv h
 clear h
 rcases hinv with ⟨x, rfl, rfl, rfl⟩ | ⟨nie, rfl, h⟩ | ⟨d, rfl, h⟩ | ⟨rfl, hs, rfl⟩
 ·refine ⟨?_, by simp [BS.cnt], rfl⟩
  simp only [EntCell]
  rw [hZ.get (l := A.xs) rfl]
  simpa [LeafRep] using hl
 ·obtain ⟨h1, h2, h3, h4⟩ := takeFz_rep hR hg hst hk h hZ hl
  exact ⟨⟨h1, h2⟩, h3, by rw [h4]; rfl⟩
 ·obtain ⟨h1, h2, h3, h4⟩ := takeOw_rep hR hk h hZ hl
  exact ⟨⟨h1, h2⟩, h3, h4⟩
 ·exact ⟨hl.one hs, rfl, rfl⟩
theorem takeCells_le : ∀ {ss : List (BS × BO)} {ls : List Leaf} {A B : Take}, (takeCells A ss ls).eval σ = some B -> TLe A B /\ B.ptrs = A.ptrs
 | [], ls, A, B, h => by
  simp only [takeCells, eval_ret, Option.some.injEq] at h
  subst h; exact ⟨.refl _, rfl⟩
 | _ :: _, [], A, B, h => by simp [takeCells, eval_no] at h
 | (t, o) :: ss, l :: ls, A, B, h => by
  simp only [takeCells, eval_bind, Option.bind_eq_some_iff] at h
  obtain ⟨C, h1, h2⟩ := h
  obtain ⟨h3, h4⟩ := takeCell_le h1
  obtain ⟨h5, h6⟩ := takeCells_le h2
  exact ⟨h3.trans h5, h6.trans h4⟩
theorem takeCells_rep (hR : R E.ntmps F σ ρ a w G) (hg : gOn ρ g = true) (hst : StepsOk cf ρ g nv Z.lets) (hk : TkOk s Z) {ad : Addr} : ∀ {ss : List (BS × BO)} {ls : List Leaf} {A B : Take} {off : Nat}, (takeCells A ss ls).eval σ = some B -> TLe B Z ->
  (∀ j l, ls[j]? = some l -> ∃ v, w.cell? (ad.add (off + j)) = some v /\ w.frozen? (ad.add (off + j)) = false /\ LeafRep σ ρ G w l v) ->
  EntCells (callG ρ G w s Z) w (Z.xs.map (·.val ρ)) ad off A.xs.length A.rts.length ss /\ B.xs.length = A.xs.length + cntC ss /\ B.rts.length = A.rts.length + rcntC ss
 | [], ls, A, B, off, h, _, _ => by
  simp only [takeCells, eval_ret, Option.some.injEq] at h
  subst h
  exact ⟨trivial, rfl, rfl⟩
 | _ :: _, [], A, B, off, h, _, _ => by simp [takeCells, eval_no] at h
 | (t, o) :: ss, l :: ls, A, B, off, h, hZ, hl => by
  simp only [takeCells, eval_bind, Option.bind_eq_some_iff] at h
  obtain ⟨C, h1, h2⟩ := h
  obtain ⟨v, h3, h4, h5⟩ := hl 0 l rfl
  obtain ⟨h6, h7, h8⟩ := takeCell_rep hR hg hst hk h1 ((takeCells_le h2).1.trans hZ) h5
  obtain ⟨h9, h10, h11⟩ := takeCells_rep hR hg hst hk (off := off + 1) h2 hZ fun j l' hj => by
   have := hl (j + 1) l' (by simpa using hj)
   rwa [show off + (j + 1) = off + 1 + j by omega] at this
  rw [h7, h8] at h9
  exact ⟨⟨⟨v, h3, h4, h6⟩, h9⟩, by rw [h10, h7]; simp only [cntC]; omega, by rw [h11, h8]; simp only [rcntC]; omega⟩
def BxOk (σ : Nat -> Option Cont) (ptrs : List (Nat × Nat × Nat)) (b : Nat) (ro : Bool) (cs : List (BS × BO)) : Prop :=
 ∃ c off ro' ls, ptrOf b ptrs = some (c, off) /\ σ (kB c) = some (.box ro' ls) /\ off + cs.length <= ls.length /\ (ro = false -> ro' = false /\ 0 < cs.length)
theorem takeBoxes_le {ptrs : List (Nat × Nat × Nat)} : ∀ {bs : List (Bool × List (BS × BO))} {b : Nat} {A B : Take}, (takeBoxes ptrs A b bs).eval σ = some B -> TLe A B /\ B.ptrs = A.ptrs /\ ∀ j ro cs, bs[j]? = some (ro, cs) -> BxOk σ ptrs (b + j) ro cs
 | [], b, A, B, h => by
  simp only [takeBoxes, eval_ret, Option.some.injEq] at h
  subst h; exact ⟨.refl _, rfl, by simp⟩
 | (ro, cs) :: bs, b, A, B, h => by
  simp only [takeBoxes] at h
  split at h
  case h_2 => cases h
  rename_i c off hp
  simp only [eval_bind, eval_rdK, Option.bind_some] at h
  split at h
  case h_2 => cases h
  rename_i ro' ls hkb
  simp only [eval_bind, eval_guardR, Option.bind_eq_some_iff] at h
  obtain ⟨_, h0, C, h1, h2⟩ := h
  split at h0
  case isFalse => cases h0
  rename_i hb
  simp only [Bool.and_eq_true, Bool.or_eq_true, Bool.not_eq_true', Nat.ble_eq] at hb
  obtain ⟨h3, h4⟩ := takeCells_le h1
  obtain ⟨h5, h6, h7⟩ := takeBoxes_le h2
  refine ⟨h3.trans h5, h6.trans h4, fun j ro2 cs2 hj => ?_⟩
  cases j with
  | zero =>
   simp only [List.getElem?_cons_zero, Option.some.injEq, Prod.mk.injEq] at hj
   obtain ⟨rfl, rfl⟩ := hj
   refine ⟨c, off, ro', ls, hp, hkb, hb.2, fun e => ?_⟩
   rcases hb.1 with h8 | h8
   ·rw [e] at h8; cases h8.1
   ·refine ⟨h8.1.2, ?_⟩
    cases cs with
    | nil => have := h8.2; simp at this
    | cons => simp
  | succ j =>
   rw [show b + (j + 1) = b + 1 + j by omega]
   exact h7 j ro2 cs2 (by simpa using hj)
theorem add_spot {ad : Addr} {n : Nat} (h : ad.spot = none) : (ad.add n).spot = none := by
 unfold Addr.add
 split
 ·exact h
 ·rfl
theorem add_off {ad : Addr} {n : Nat} : (ad.add n).off = ad.off + n := by
 unfold Addr.add
 split
 ·rename_i h; rw [h]; rfl
 ·rfl
theorem takeBoxes_rep (hR : R E.ntmps F σ ρ a w G) (hg : gOn ρ g = true) (hst : StepsOk cf ρ g nv Z.lets) (hk : TkOk s Z) : ∀ {bs : List (Bool × List (BS × BO))} {b : Nat} {A B : Take}, (∀ j x, bs[j]? = some x -> s.boxes[b + j]? = some x) -> (takeBoxes Z.ptrs A b bs).eval σ = some B -> TLe B Z ->
  EntBoxes (callG ρ G w s Z) w (Z.xs.map (·.val ρ)) b A.xs.length A.rts.length bs /\ B.xs.length = A.xs.length + cntB bs
 | [], b, A, B, _, h, _ => by
  simp only [takeBoxes, eval_ret, Option.some.injEq] at h
  subst h
  exact ⟨trivial, rfl⟩
 | (ro, cs) :: bs, b, A, B, hbs, h, hZ => by
  simp only [takeBoxes] at h
  split at h
  case h_2 => cases h
  rename_i c off hp
  simp only [eval_bind, eval_rdK, Option.bind_some] at h
  split at h
  case h_2 => cases h
  rename_i ro' ls hkb
  simp only [eval_bind, eval_guardR, Option.bind_eq_some_iff] at h
  obtain ⟨_, h0, C, h1, h2⟩ := h
  split at h0
  case isFalse => cases h0
  rename_i hb
  simp only [Bool.and_eq_true, Bool.or_eq_true, Bool.not_eq_true', Nat.ble_eq] at hb
  have hCZ := (takeBoxes_le h2).1.trans hZ
  obtain ⟨h3, h4, h5⟩ := hR.box hkb
  have hbx : (callG ρ G w s Z).bx b = (G.bx c).add off := by simp only [callG, hp]
  have hsb := hbs 0 _ rfl
  rw [Nat.add_zero] at hsb
  have hp' : ptrOf (0 + b) Z.ptrs = some (c, off) := by rw [Nat.zero_add]; exact hp
  obtain ⟨h6, h7, h8⟩ := takeCells_rep hR hg hst hk (ad := (G.bx c).add off) (off := 0) h1 hCZ fun j l hj => by
   rw [List.getElem?_drop] at hj
   obtain ⟨v, h9, h10, h11⟩ := h5 _ l hj
   exact ⟨v, by rw [add_add, Nat.zero_add]; exact h9, by rw [add_add, Nat.zero_add]; exact h10, h11⟩
  obtain ⟨h9, h10⟩ := takeBoxes_rep hR hg hst hk (b := b + 1) (fun j x hj => by
   rw [show b + 1 + j = b + (j + 1) by omega]
   exact hbs (j + 1) x (by simpa using hj)) h2 hZ
  rw [h7, h8] at h9
  refine ⟨⟨by rw [hbx]; exact add_spot h3, ?_, by rw [hbx]; exact h6, h9⟩, by rw [h10, h7]; simp only [cntB]; omega⟩
  rw [hbx, add_block]
  cases ro with
  | true =>
   simp only [if_true]
   have hm := boxesOf_mem (wr := true) hsb hp'
   cases ro' with
   | true => simp only [callG, h4, if_true]
   | false =>
    simp only [Bool.false_eq_true, if_false] at h4
    simp only [callG, h4]
    rw [rwOf_none fun hm' => meets_false hk.ro hm' hm]
  | false =>
   simp only [Bool.false_eq_true, if_false]
   rcases hb.1 with h11 | h11
   ·cases h11.1
   ·have hro : ro' = false := h11.1.2
    subst hro
    simp only [Bool.false_eq_true, if_false] at h4
    simp only [callG, h4]
    rw [rwOf_some hk.wr hsb hp']
    simp
theorem call_pre (hR : R E.ntmps F σ ρ a w G) (hg : gOn ρ g = true) (hst : StepsOk cf ρ g nv Z.lets) (hk : TkOk s Z) {T : Take} {vs : List SV} (h1 : (takeArgs g Take.empty s.params vs).eval σ = some T) (h2 : (takeBoxes T.ptrs T 0 s.boxes).eval σ = some Z)
  {us : List Value} (hu : SVsRep σ ρ G w vs us) : CPre s us w (callG ρ G w s Z) (Z.xs.map (·.val ρ)) := by
 obtain ⟨h3, h4, h5⟩ := takeBoxes_le h2
 obtain ⟨h6, h7, h8⟩ := takeArgs_rep hR hg hst hk h1 h3 hu
 rw [<- h4] at h2
 obtain ⟨h9, h10⟩ := takeBoxes_rep hR hg hst hk (by simp) h2 (.refl _)
 have e1 : Take.empty.xs.length = 0 := rfl
 have e2 : Take.empty.rts.length = 0 := rfl
 rw [e1, e2] at h6
 rw [e1, Nat.zero_add] at h7
 rw [e2, Nat.zero_add] at h8
 rw [h7, h8] at h9
 refine ⟨h6, h9, by rw [List.length_map, h10, h7], fun b hb => callG_frz (hR.frame.fresh b hb), fun b j hb hj => ?_⟩
 cases e : G.own b with
 | slc r p =>
  exfalso
  simp only [callG, e] at hj
  have : ∀ (rts : List RT) (ν : Nat), rtOwn ρ (Z.deps.map (·.1)) ν rts r p ≠ .box j := by
   intro rts
   induction rts with
   | nil => intro ν h; simp only [rtOwn] at h; split at h <;> cases h
   | cons x t ih =>
    intro ν h
    cases x with
    | nil => exact ih _ h
    | own s d =>
     simp only [rtOwn] at h
     split at h
     ·split at h <;> cases h
     ·exact ih _ h
    | mu s d q X =>
     simp only [rtOwn] at h
     split at h
     ·split at h
      ·split at h <;> cases h
      ·cases h
     ·exact ih _ h
  exact this _ _ hj
 | box c =>
  simp only [callG, e] at hj
  split at hj
  case h_2 => cases hj
  rename_i x hx
  split at hj
  case isFalse => cases hj
  rename_i hbk
  injection hj with hj
  subst hj
  obtain ⟨j, cs, off, e1, e2, e3⟩ := rwOf_inv hx
  rw [Nat.zero_add] at e1
  subst e1
  refine ⟨(List.getElem?_eq_some_iff.1 e2).1, ?_⟩
  rw [h4] at e3
  have := h5 x _ _ e2
  rw [Nat.zero_add] at this
  obtain ⟨c', off', ro', ls, h11, h12, h13, h14⟩ := this
  rw [e3] at h11
  obtain ⟨rfl, rfl⟩ : c = c' /\ off = off' := by simpa using h11
  obtain ⟨-, -, h15⟩ := hR.box h12
  have hlt : 0 < ls.length := by have := (h14 rfl).2; omega
  obtain ⟨v, h16, -, -⟩ := h15 0 _ (List.getElem?_eq_getElem hlt)
  rw [hbk]
  unfold World.cell? at h16
  rw [add_block] at h16
  cases hh : w.heap[(G.bx c).block]? with
  | none => rw [hh] at h16; cases h16
  | some blk =>
   rw [hh] at h16
   cases blk with
   | cells c0 e fr => exact ⟨c0, e, fr, rfl⟩
   | _ => simp at h16
 | frz => rw [callG_frz e] at hj; cases hj
 | oth => simp only [callG, e] at hj; cases hj
end
end Go.Proofs.YtdpfilpckndhcaaGreatDoor.Rf

namespace Go.Proofs.YtdpfilpckndhcaaGreatDoor.Rf
set_option linter.unusedVariables false
set_option linter.unusedSimpArgs false
def isSlc : Ow -> Bool
 | .slc _ _ => true
 | _ => false
def rtFind (r : Nat) : List RT -> Option RT
 | [] => none
 | .nil :: t => rtFind r t
 | .own s d :: t => if r = s then some (.own s d) else rtFind r t
 | .mu s d q X :: t => if r = s then some (.mu s d q X) else rtFind r t
def keepOwn (ρ : List D) (rts : List RT) : Ow -> Ow
 | .slc r p => match rtFind r rts with
  | some (.own _ _) => .frz
  | some (.mu _ d q _) => match strip (pathVal ρ q) p with
   | some t => if t.length < d then .slc r p else .frz
   | none => .slc r p
  | _ => .slc r p
 | o => o
def backOwn (gd : Bool) (ρ : List D) (nr nb nbx : Nat) (mus : List RT) : Ow -> Ow
 | .slc t p => if t % 2 = 0 then (if gd = true then .frz else if t / 2 < maxRoots then .slc (nr + t / 2) p else .oth) else (match mus[t / 2]? with
  | some (.mu r _ q _) => .slc r (pathVal ρ q ++ p)
  | _ => .oth)
 | .box β => if β = nbx then .box nb else .oth
 | o => o
def backG (gd : Bool) (ρ : List D) (G : Gh) (w : World) (s : Sig) (Z : Take) (nr nb : Nat) (own' : Nat -> Ow) (hs : List Value) (adn : Addr) : Gh := {
 own := fun b => if b < w.heap.size /\ isSlc ((callG ρ G w s Z).own b) = false then keepOwn ρ Z.rts (G.own b) else backOwn gd ρ nr nb s.boxes.length (Z.rts.filter isMu) (own' b)
 hdr := fun r => if nr <= r /\ r < nr + maxRoots then hs.getD (r - nr) undef else G.hdr r
 bx := fun b => if b = nb then adn else G.bx b }
theorem rtFind_none {r : Nat} : ∀ {rts : List RT}, r ∉ rtRoots rts -> rtFind r rts = none
 | [], _ => rfl
 | .nil :: t, h => rtFind_none (rts := t) h
 | .own s d :: t, h => by
  simp only [rtRoots, List.mem_cons, not_or] at h
  simp only [rtFind, if_neg h.1]
  exact rtFind_none h.2
 | .mu s d q X :: t, h => by
  simp only [rtRoots, List.mem_cons, not_or] at h
  simp only [rtFind, if_neg h.1]
  exact rtFind_none h.2
theorem rtFind_some {r : Nat} : ∀ {rts : List RT}, r ∈ rtRoots rts -> ∃ (ν : Nat) (x : RT), rts[ν]? = some x /\ rtFind r rts = some x /\ ((∃ d, x = .own r d) \/ ∃ d q X, x = .mu r d q X)
 | [], h => by simp [rtRoots] at h
 | .nil :: t, h => by
  obtain ⟨ν, x, h1, h2⟩ := rtFind_some (rts := t) h
  exact ⟨ν + 1, x, by simpa using h1, h2⟩
 | .own s d :: t, h => by
  by_cases e : r = s
  ·subst e
   exact ⟨0, _, rfl, by simp [rtFind], .inl ⟨d, rfl⟩⟩
  ·simp only [rtRoots, List.mem_cons, e, false_or] at h
   obtain ⟨ν, x, h1, h2⟩ := rtFind_some h
   exact ⟨ν + 1, x, by simpa using h1, by simp only [rtFind, if_neg e]; exact h2⟩
 | .mu s d q X :: t, h => by
  by_cases e : r = s
  ·subst e
   exact ⟨0, _, rfl, by simp [rtFind], .inr ⟨d, q, X, rfl⟩⟩
  ·simp only [rtRoots, List.mem_cons, e, false_or] at h
   obtain ⟨ν, x, h1, h2⟩ := rtFind_some h
   exact ⟨ν + 1, x, by simpa using h1, by simp only [rtFind, if_neg e]; exact h2⟩
theorem rtFind_mu {r d : Nat} {q : List (Atom × Nat × Nat)} {X : Atom} : ∀ {rts : List RT} {ν : Nat}, distinct (rtRoots rts) = true -> rts[ν]? = some (.mu r d q X) -> rtFind r rts = some (.mu r d q X)
 | [], ν, _, h => by simp at h
 | x :: t, 0, hd, h => by
  simp only [List.getElem?_cons_zero, Option.some.injEq] at h
  subst h
  simp [rtFind]
 | x :: t, ν + 1, hd, h => by
  simp only [List.getElem?_cons_succ] at h
  have hm := rtRoots_mem (.inr ⟨d, q, X, h⟩)
  cases x with
  | nil => exact rtFind_mu (rts := t) hd h
  | own s d' =>
   simp only [rtRoots, distinct, Bool.and_eq_true, Bool.not_eq_true'] at hd
   have hne : r ≠ s := fun e => by rw [e, <- has_iff, hd.1] at hm; cases hm
   simp only [rtFind, if_neg hne]
   exact rtFind_mu hd.2 h
  | mu s d' q' X' =>
   simp only [rtRoots, distinct, Bool.and_eq_true, Bool.not_eq_true'] at hd
   have hne : r ≠ s := fun e => by rw [e, <- has_iff, hd.1] at hm; cases hm
   simp only [rtFind, if_neg hne]
   exact rtFind_mu hd.2 h
theorem rtOwn_ne {ρ : List D} {dr : List Nat} {r : Nat} {p : List Nat} : ∀ (rts : List RT) (ν : Nat), (∃ ν' t, rtOwn ρ dr ν rts r p = .slc ν' t) \/ rtOwn ρ dr ν rts r p = .frz \/ rtOwn ρ dr ν rts r p = .oth
 | [], ν => by
  simp only [rtOwn]
  split
  ·exact .inr (.inl rfl)
  ·exact .inr (.inr rfl)
 | .nil :: t, ν => rtOwn_ne t (ν + 1)
 | .own s d :: t, ν => by
  simp only [rtOwn]
  split
  ·split
   ·exact .inl ⟨_, _, rfl⟩
   ·exact .inr (.inl rfl)
  ·exact rtOwn_ne t (ν + 1)
 | .mu s d q X :: t, ν => by
  simp only [rtOwn]
  split
  ·split
   ·split
    ·exact .inl ⟨_, _, rfl⟩
    ·exact .inr (.inl rfl)
   ·exact .inr (.inr rfl)
  ·exact rtOwn_ne t (ν + 1)
theorem Rp.remap {own own' : Nat -> Ow} {w : World} {r r' : Nat} {q q' : List Nat} {p : List Nat} {m : Nat} {v : Value} {d : D} (h : Rp own w r p m v d)
  (hs : ∀ b t, own b = .slc r (q ++ t) -> own' b = .slc r' (q' ++ t)) : ∀ s, p = q ++ s -> ((∀ b, own b = .frz -> b < w.heap.size -> own' b = .frz) \/ fitsD m d = true) -> Rp own' w r' (q' ++ s) m v d := by
 induction h with
 | sc h => exact fun _ _ _ => .sc h
 | hole v h1 => exact fun _ _ _ => .hole v h1
 | fz h =>
  intro s _ hz
  rcases hz with hz | hz
  ·exact .fz (h.mono' fun b hb hlt => ⟨hz b hb hlt, rfl⟩)
  ·cases h with
   | sc h => exact .sc h
   | hole _ h1 => exact .hole _ h1
   | rows => simp [fitsD, D.isSc] at hz
 | sl A a n c sz rs vs hn hc hA hsz hown hcell hrec ih =>
  rename_i p m
  intro s hp hz
  refine .sl A a n c sz rs vs hn hc hA hsz (fun e => ?_) hcell (fun i row hi j d hj => ?_)
  ·obtain ⟨h1, h2, h3⟩ := hown e
   rw [hp] at h2
   exact ⟨h1, hs _ _ h2, h3⟩
  ·have := ih i row hi j d hj (s ++ [i * sz + j]) (by rw [hp, List.append_assoc]) (hz.imp id fun hz => by
    simp only [fitsD, List.all_eq_true] at hz
    exact hz row (List.mem_of_getElem? hi) d (List.mem_of_getElem? hj))
   rwa [<- List.append_assoc] at this
theorem Rp.updM {own own' : Nat -> Ow} {w w' : World} {r M : Nat} {full : List Nat} {y : D} {u : Value}
  (hz : ∀ b, own b = .frz -> b < w.heap.size -> own' b = .frz /\ w'.heap[b]? = w.heap[b]?)
  (hs : ∀ b t, own b = .slc r t -> ¬ full <+: t -> own' b = .slc r t /\ w'.heap[b]? = w.heap[b]?)
  (hM : full.length <= M) (hnew : Rp own' w' r full (M - full.length) u y) :
  ∀ (p q : List Nat) (v : Value) (x x' : D), full = q ++ p -> Rp own w r q (M - q.length) v x -> Nest own w r q v p u -> Upd p x y x' -> Rp own' w' r q (M - q.length) v x'
 | [], q, v, x, x', hf, hx, hn, hu => by
  cases hu
  simp only [Nest] at hn
  rw [List.append_nil] at hf
  subst hf hn
  exact hnew
 | k :: p, q, v, x, x', hf, hx, hn, hu => by
  generalize hk : k :: p = kp at hu
  cases hu with
  | here => cases hk
  | down sz rs i j row z z' y p' hi hj hu =>
   obtain ⟨rfl, rfl⟩ := List.cons.inj hk
   have hlen : full.length = q.length + (p.length + 1) := by rw [hf]; simp
   obtain ⟨m, hm⟩ : ∃ m, M - q.length = m + 1 := ⟨M - q.length - 1, by omega⟩
   rw [hm] at hx
   rw [hm]
   obtain ⟨A, a, n, c, vs, rfl, h1, h2, h3, h4, h5, h6, h7⟩ := hx.sl_inv
   have hil : i < rs.length := (List.getElem?_eq_some_iff.1 hi).1
   have hA : A = some a := by
    rcases h3 with e | ⟨e, e'⟩
    ·exact e
    ·omega
   subst hA
   obtain ⟨h8, h9, h10⟩ := h5 rfl
   obtain ⟨a', n', c', u', e1, e2, e3, e4⟩ := hn
   obtain ⟨rfl, rfl, rfl⟩ : a = a' /\ n = n' /\ c = c' := by injection e1 with a b c; exact ⟨Option.some.inj a, b, c⟩
   have hcell0 := h6 i row hi j z hj
   rw [hcell0] at e3
   obtain rfl := Option.some.inj e3
   have hq : ¬ full <+: q := by
    intro e
    have := e.length_le
    omega
   obtain ⟨hown', hheap⟩ := hs _ _ h9 hq
   have hkeep : ∀ k, w'.cell? (a.add k) = w.cell? (a.add k) := fun k => heap_cell (w := w) (w' := w') (by rw [add_block]; exact hheap)
   have hkeepf : ∀ k, w'.frozen? (a.add k) = w.frozen? (a.add k) := fun k => heap_frozen (w := w) (w' := w') (by rw [add_block]; exact hheap)
   have hrec := Rp.updM hz hs hM hnew p (q ++ [i * sz + j]) (vs i j) z z' (by rw [hf]; simp) (by
    have := h7 i row hi j z hj
    rwa [show M - (q ++ [i * sz + j]).length = m by simp; omega]) e4 hu
   rw [show M - (q ++ [i * sz + j]).length = m by simp; omega] at hrec
   have hrowlen : row.length = sz := h4 row (List.mem_of_getElem? hi)
   have hlt : j < sz := by rw [<- hrowlen]; exact (List.getElem?_eq_some_iff.1 hj).1
   have hget : ∀ i' row', (rs.set i (row.set j z'))[i']? = some row' -> ∀ j' d, row'[j']? = some d -> (i' = i /\ j' = j /\ d = z') \/ (∃ row0, rs[i']? = some row0 /\ row0[j']? = some d /\ ¬ (i' = i /\ j' = j)) := by
    intro i' row' hi' j' d hj'
    rw [List.getElem?_set] at hi'
    by_cases hii : i = i'
    ·subst hii
     rw [if_pos rfl, if_pos hil] at hi'
     obtain rfl := Option.some.inj hi'
     rw [List.getElem?_set] at hj'
     by_cases hjj : j = j'
     ·subst hjj
      rw [if_pos rfl, if_pos (by omega)] at hj'
      exact .inl ⟨rfl, rfl, (Option.some.inj hj').symm⟩
     ·rw [if_neg hjj] at hj'
      exact .inr ⟨row, hi, hj', fun e => hjj e.2.symm⟩
    ·rw [if_neg hii] at hi'
     exact .inr ⟨row', hi', hj', fun e => hii e.1.symm⟩
   refine .sl _ a n c sz _ vs (by simpa using h1) h2 (.inl rfl) (fun row' hr => ?_) (fun _ => ⟨h8, hown', fun k hk => ?_⟩) (fun i' row' hi' j' d hj' => ?_) (fun i' row' hi' j' d hj' => ?_)
   ·rcases List.mem_or_eq_of_mem_set hr with hr | rfl
    ·exact h4 _ hr
    ·simpa using hrowlen
   ·rw [hkeep, hkeepf]
    exact h10 k hk
   ·rw [hkeep]
    rcases hget i' row' hi' j' d hj' with ⟨rfl, rfl, rfl⟩ | ⟨row0, h11, h12, -⟩
    ·exact hcell0
    ·exact h6 _ _ h11 _ _ h12
   ·rcases hget i' row' hi' j' d hj' with ⟨rfl, rfl, rfl⟩ | ⟨row0, h11, h12, hne⟩
    ·exact hrec
    ·have := (h7 _ _ h11 _ _ h12).mono' (own' := own') (w' := w') (r' := r) (q := q ++ [i' * sz + j']) (q' := q ++ [i' * sz + j']) hz [] (by simp) fun b t hb => by
      have hnp : ¬ full <+: q ++ [i' * sz + j'] ++ t := by
       intro e
       rw [hf, List.append_assoc, List.prefix_append_right_inj] at e
       have e' := (List.cons_prefix_cons.1 e).1
       have hj'l : j' < sz := by
        have := (List.getElem?_eq_some_iff.1 h12).1
        rw [h4 row0 (List.mem_of_getElem? h11)] at this
        exact this
       obtain ⟨h15, h16⟩ := idx_ne hj'l hlt e'.symm
       exact hne ⟨h15, h16⟩
      exact hs b _ hb hnp
     simpa using this
theorem Rp.deeper {own : Nat -> Ow} {w : World} {r : Nat} {p : List Nat} {m : Nat} {v : Value} {d : D} (h : Rp own w r p m v d) : ∀ {m' : Nat}, m <= m' -> fitsD m d = true -> Rp own w r p m' v d := by
 induction h with
 | sc h => exact fun _ _ => .sc h
 | hole v h1 => exact fun _ _ => .hole v h1
 | fz h =>
  intro m' _ hz
  cases h with
  | sc h => exact .sc h
  | hole _ h1 => exact .hole _ h1
  | rows => simp [fitsD, D.isSc] at hz
 | sl A a n c sz rs vs hn hc hA hsz hown hcell hrec ih =>
  rename_i p m
  intro m' hm hz
  obtain ⟨k, rfl⟩ : ∃ k, m' = k + 1 := ⟨m' - 1, by omega⟩
  refine .sl A a n c sz rs vs hn hc hA hsz hown hcell (fun i row hi j d hj => ih i row hi j d hj (by omega) ?_)
  simp only [fitsD, List.all_eq_true] at hz
  exact hz row (List.mem_of_getElem? hi) d (List.mem_of_getElem? hj)
section
variable {E : Env} {F : Frame0} {σ : Nat -> Option Cont} {ρ : List D} {a : Act} {w w' : World} {G G' : Gh} {s : Sig} {Z : Take} {gd : Bool} {nr nb : Nat} {hs : List Value} {adn : Addr}
structure Back (E : Env) (F : Frame0) (σ : Nat -> Option Cont) (ρ : List D) (a : Act) (w : World) (G : Gh) (s : Sig) (Z : Take) (G' : Gh) (w' : World) : Prop where
 hR : R E.ntmps F σ ρ a w G
 hk : TkOk s Z
 hF : FrameOk (callF s (callG ρ G w s Z) w) G' w'
 bx : ∀ j ro cs, s.boxes[j]? = some (ro, cs) -> BxOk σ Z.ptrs j ro cs
 deps : ∀ z ∈ Z.deps, liveS σ z.1 z.2
 mus : ∀ (ν r d : Nat) (q : List (Atom × Nat × Nat)) (X : Atom), Z.rts[ν]? = some (RT.mu r d q X) -> ∃ m ver u, σ (kR r) = some (.root X m ver .live) /\ q.length + d <= m /\ Nest G.own w r [] (G.hdr r) (pathVal ρ q) u
 owns : ∀ (ν r d : Nat), Z.rts[ν]? = some (RT.own r d) -> ∃ x m ver, σ (kR r) = some (.root x m ver .live)
variable (B : Back E F σ ρ a w G s Z G' w')
include B
theorem Back.keep {b : Nat} (hb : b < w.heap.size) (h : (callG ρ G w s Z).own b = .frz \/ (callG ρ G w s Z).own b = .oth) : w'.heap[b]? = w.heap[b]? /\ G'.own b = (callG ρ G w s Z).own b := B.hF.keep b hb h
theorem Back.lt {b r : Nat} {p : List Nat} (h : G.own b = .slc r p) : b < w.heap.size := by
 rcases Nat.lt_or_ge b w.heap.size with h1 | h1
 ·exact h1
 ·rw [B.hR.frame.fresh b h1] at h; cases h
theorem Back.own_eq {b : Nat} (hb : b < w.heap.size) (h : isSlc ((callG ρ G w s Z).own b) = false) : (backG gd ρ G w s Z nr nb G'.own hs adn).own b = keepOwn ρ Z.rts (G.own b) := by
 simp only [backG]
 rw [if_pos ⟨hb, h⟩]
theorem Back.frz {b : Nat} (h : G.own b = .frz) (hb : b < w.heap.size) : (backG gd ρ G w s Z nr nb G'.own hs adn).own b = .frz /\ w'.heap[b]? = w.heap[b]? := by
 have h1 : (callG ρ G w s Z).own b = .frz := callG_frz h
 refine ⟨?_, (B.keep hb (.inl h1)).1⟩
 rw [B.own_eq hb (by rw [h1]; rfl), h]; rfl
theorem Back.other {b r : Nat} {p : List Nat} (hr : r ∉ rtRoots Z.rts) (h : G.own b = .slc r p) : (backG gd ρ G w s Z nr nb G'.own hs adn).own b = .slc r p /\ w'.heap[b]? = w.heap[b]? := by
 have hb := B.lt h
 have h1 : (callG ρ G w s Z).own b = if r ∈ Z.deps.map (·.1) then .frz else .oth := by
  simp only [callG, h]
  exact rtOwn_not hr
 have h2 : (callG ρ G w s Z).own b = .frz \/ (callG ρ G w s Z).own b = .oth := by
  rw [h1]
  split
  ·exact .inl rfl
  ·exact .inr rfl
 refine ⟨?_, (B.keep hb h2).1⟩
 rw [B.own_eq hb (by rcases h2 with e | e <;> rw [e] <;> rfl), h]
 simp only [keepOwn, rtFind_none hr]
theorem Back.oth {b : Nat} (h : G.own b = .oth) (hb : b < w.heap.size) : (backG gd ρ G w s Z nr nb G'.own hs adn).own b = .oth /\ w'.heap[b]? = w.heap[b]? := by
 have h1 : (callG ρ G w s Z).own b = .oth := by simp only [callG, h]
 refine ⟨?_, (B.keep hb (.inr h1)).1⟩
 rw [B.own_eq hb (by rw [h1]; rfl), h]; rfl
theorem Back.boxes {b c : Nat} (h : G.own b = .box c) (hb : b < w.heap.size) : (backG gd ρ G w s Z nr nb G'.own hs adn).own b = .box c /\
  (w'.heap[b]? = w.heap[b]? \/ ∃ j cs off ls c0 c1 e fr, s.boxes[j]? = some (false, cs) /\ ptrOf j Z.ptrs = some (c, off) /\ b = (G.bx c).block /\ σ (kB c) = some (.box false ls) /\ off + cs.length <= ls.length /\
   w.heap[b]? = some (.cells c0 e fr) /\ w'.heap[b]? = some (.cells c1 e fr) /\ c1.size = c0.size /\ ∀ k, k < (G.bx c).off + off \/ (G.bx c).off + off + cs.length <= k -> c1[k]? = c0[k]?) := by
 have key : ((callG ρ G w s Z).own b = .oth) \/ ∃ j, rwOf Z.ptrs c 0 s.boxes = some j /\ b = (G.bx c).block /\ (callG ρ G w s Z).own b = .box j := by
  simp only [callG, h]
  split
  ·rename_i j hj
   split
   ·rename_i hbk
    exact .inr ⟨j, hj, hbk, rfl⟩
   ·exact .inl rfl
  ·exact .inl rfl
 rcases key with h1 | ⟨j, hj, hbk, h1⟩
 ·refine ⟨?_, .inl (B.keep hb (.inr h1)).1⟩
  rw [B.own_eq hb (by rw [h1]; rfl), h]; rfl
 ·refine ⟨by rw [B.own_eq hb (by rw [h1]; rfl), h]; rfl, .inr ?_⟩
  obtain ⟨j', cs, off, e1, e2, e3⟩ := rwOf_inv hj
  rw [Nat.zero_add] at e1
  subst e1
  obtain ⟨c', off', ro', ls, h2, h3, h4, h5⟩ := B.bx j false cs e2
  rw [e3] at h2
  obtain ⟨rfl, rfl⟩ : c = c' /\ off = off' := by simpa using h2
  obtain rfl := (h5 rfl).1
  obtain ⟨-, c0, c1, e, fr, h6, h7, h8, h9⟩ := B.hF.boxes b j hb h1
  refine ⟨j, cs, off, ls, c0, c1, e, fr, e2, e3, hbk, h3, h4, h6, h7, h8, fun k hk => h9 k ?_⟩
  have e4 : (callF s (callG ρ G w s Z) w).rng j = ((G.bx c).off + off, (G.bx c).off + off + cs.length) := by
   simp only [callF, callG, e3, add_off, List.getD_eq_getElem?_getD, e2, Option.getD_some]
  rw [e4]
  exact hk
theorem Back.allow {b : Nat} (h : G'.own b = .frz) : allow (backG gd ρ G w s Z nr nb G'.own hs adn) Z.deps b := by
 by_cases hb : b < w.heap.size
 ·cases hsl : isSlc ((callG ρ G w s Z).own b) with
  | true =>
   refine .inl ?_
   simp only [backG]
   rw [if_neg (by rw [hsl]; simp), h]; rfl
  | false =>
   have hown := B.own_eq (gd := gd) (nr := nr) (nb := nb) (hs := hs) (adn := adn) hb hsl
   cases hg : G.own b with
   | frz => exact .inl (B.frz hg hb).1
   | oth =>
    have h1 : (callG ρ G w s Z).own b = .oth := by simp only [callG, hg]
    have := (B.keep hb (.inr h1)).2
    rw [h, h1] at this; cases this
   | box c =>
    have hbk := (B.boxes (gd := gd) (nr := nr) (nb := nb) (hs := hs) (adn := adn) hg hb)
    exfalso
    have key : ((callG ρ G w s Z).own b = .oth) \/ ∃ j, (callG ρ G w s Z).own b = .box j := by
     simp only [callG, hg]
     split
     ·split
      ·exact .inr ⟨_, rfl⟩
      ·exact .inl rfl
     ·exact .inl rfl
    rcases key with h1 | ⟨j, h1⟩
    ·have := (B.keep hb (.inr h1)).2
     rw [h, h1] at this; cases this
    ·have := (B.hF.boxes b j hb h1).1
     rw [h] at this; cases this
   | slc r p =>
    by_cases hr : r ∈ rtRoots Z.rts
    ·refine .inl ?_
     rw [hown, hg]
     obtain ⟨ν, x, h1, h2, h3⟩ := rtFind_some hr
     simp only [keepOwn, h2]
     rcases h3 with ⟨d, rfl⟩ | ⟨d, q, X, rfl⟩
     ·rfl
     ·have h4 := callG_mu (ρ := ρ) (G := G) (w := w) B.hk h1 hg
      dsimp only
      rw [h4] at hsl
      cases hst : strip (pathVal ρ q) p with
      | some t' =>
       rw [hst] at hsl
       dsimp only at hsl ⊢
       split at hsl
       ·cases hsl
       ·rename_i hle
        rw [if_neg hle]
      | none =>
       have h5 : (callG ρ G w s Z).own b = .oth := by rw [h4, hst]
       have := (B.keep hb (.inr h5)).2
       rw [h, h5] at this; cases this
    ·have h1 : (callG ρ G w s Z).own b = if r ∈ Z.deps.map (·.1) then .frz else .oth := by
      simp only [callG, hg]
      exact rtOwn_not hr
     by_cases hd : r ∈ Z.deps.map (·.1)
     ·obtain ⟨z, hz, e⟩ := List.mem_map.1 hd
      refine .inr ⟨r, z.2, p, by rw [<- e]; exact hz, (B.other hr hg).1⟩
     ·rw [if_neg hd] at h1
      have := (B.keep hb (.inr h1)).2
      rw [h, h1] at this; cases this
 ·refine .inl ?_
  simp only [backG]
  rw [if_neg (by simp [hb]), h]; rfl
theorem Back.rd {v : Value} {d : D} (h : Rd (fun b => G'.own b = .frz) w' v d) : Rd (Go.Proofs.YtdpfilpckndhcaaGreatDoor.Rf.allow (backG gd ρ G w s Z nr nb G'.own hs adn) Z.deps) w' v d :=
 h.mono fun b hb => ⟨B.allow hb, rfl⟩
theorem Back.slc {b t : Nat} {p : List Nat} (h : G'.own b = .slc t p) : (backG gd ρ G w s Z nr nb G'.own hs adn).own b = backOwn gd ρ nr nb s.boxes.length (Z.rts.filter isMu) (.slc t p) := by
 simp only [backG]
 rw [if_neg, h]
 rintro ⟨hb, hsl⟩
 cases hg : (callG ρ G w s Z).own b with
 | frz => have := (B.keep hb (.inl hg)).2; rw [h, hg] at this; cases this
 | oth => have := (B.keep hb (.inr hg)).2; rw [h, hg] at this; cases this
 | slc _ _ => rw [hg] at hsl; cases hsl
 | box j => have := (B.hF.boxes b j hb hg).1; rw [h] at this; cases this
theorem Back.give {q m : Nat} {v : Value} {d : D} (h : Rp G'.own w' (2 * q) [] m v d) (hfit : Z.deps = [] \/ fitsD m d = true) (hgd : gd = false) (hq : q < maxRoots) : Rp (backG gd ρ G w s Z nr nb G'.own hs adn).own w' (nr + q) [] m v d := by
 have := h.remap (own' := (backG gd ρ G w s Z nr nb G'.own hs adn).own) (r' := nr + q) (q := []) (q' := []) (fun b t hb => by
  rw [B.slc hb, hgd]
  simp only [backOwn, List.nil_append]
  rw [if_pos (by omega), if_neg (by simp), show 2 * q / 2 = q by omega, if_pos hq]) [] rfl (hfit.imp (fun e b hb _ => by
   rcases B.allow (gd := gd) (nr := nr) (nb := nb) (hs := hs) (adn := adn) hb with h1 | ⟨r, k, p, h1, -⟩
   ·exact h1
   ·rw [e] at h1; simp at h1) id)
 simpa using this
theorem Back.giveGd {q m : Nat} {v : Value} {d : D} (h : Rp G'.own w' (2 * q) [] m v d) (hgd : gd = true) : Rd (Go.Proofs.YtdpfilpckndhcaaGreatDoor.Rf.allow (backG gd ρ G w s Z nr nb G'.own hs adn) Z.deps) w' v d := by
 refine h.rd.mono fun b hb => ⟨?_, rfl⟩
 rcases hb with hb | ⟨p, hb⟩
 ·exact B.allow hb
 ·refine .inl ?_
  rw [B.slc hb, hgd]
  simp only [backOwn]
  rw [if_pos (by omega), if_pos trivial]
theorem Back.mu {ν j r d m ver : Nat} {q : List (Atom × Nat × Nat)} {X y X' X0 : Atom} (hm : σ (kR r) = some (.root X0 m ver .live)) (hdm : q.length + d = m \/ fitsD d (y.val ρ) = true) (hν : Z.rts[ν]? = some (.mu r d q X)) (hj : (Z.rts.filter isMu)[j]? = some (.mu r d q X)) {u : Value} (hu : ∀ u', Nest G.own w r [] (G.hdr r) (pathVal ρ q) u' -> u = u')
  (h : Rp G'.own w' (2 * j + 1) [] d u (y.val ρ)) (hfit : Z.deps = [] \/ fitsD d (y.val ρ) = true) (hupd : Upd (pathVal ρ q) (X.val ρ) (y.val ρ) (X'.val ρ)) :
  Rp (backG gd ρ G w s Z nr nb G'.own hs adn).own w' r [] m (G.hdr r) (X'.val ρ) := by
 obtain ⟨m', ver', u', hσ, hle, hn⟩ := B.mus ν r d q X hν
 rw [hm] at hσ
 obtain ⟨rfl, rfl, rfl⟩ : X0 = X /\ m = m' /\ ver = ver' := by
  have := Option.some.inj hσ
  injection this with e1 e2 e3
  exact ⟨e1, e2, e3⟩
 obtain rfl := hu u' hn
 have hlen : (pathVal ρ q).length = q.length := by simp [pathVal]
 have hnew : Rp (backG gd ρ G w s Z nr nb G'.own hs adn).own w' r (pathVal ρ q) d u (y.val ρ) := by
  have := h.remap (own' := (backG gd ρ G w s Z nr nb G'.own hs adn).own) (r' := r) (q := []) (q' := pathVal ρ q) (fun b t hb => by
   rw [B.slc hb]
   simp only [backOwn, List.nil_append]
   rw [if_neg (by omega), show (2 * j + 1) / 2 = j by omega, hj]) [] rfl (hfit.imp (fun e b hb _ => by
    rcases B.allow (gd := gd) (nr := nr) (nb := nb) (hs := hs) (adn := adn) hb with h1 | ⟨r, k, p, h1, -⟩
    ·exact h1
    ·rw [e] at h1; simp at h1) id)
  simpa using this
 have hnew' : Rp (backG gd ρ G w s Z nr nb G'.own hs adn).own w' r (pathVal ρ q) (m - (pathVal ρ q).length) u (y.val ρ) := by
  rcases hdm with e | e
  ·rwa [hlen, show m - q.length = d by omega]
  ·exact hnew.deeper (by omega) e
 have hroot := B.hR.root hm
 simp only [RootRep] at hroot
 have := Rp.updM (own := G.own) (own' := (backG gd ρ G w s Z nr nb G'.own hs adn).own) (w := w) (w' := w') (r := r) (M := m) (full := pathVal ρ q) (y := y.val ρ) (u := u)
  (fun b hb hlt => B.frz hb hlt) (fun b t hb hnp => ?_) (by omega) hnew' (pathVal ρ q) [] (G.hdr r) (X0.val ρ) (X'.val ρ) (by simp) (by simpa using hroot) hn hupd
 ·simpa using this
 ·have hlt := B.lt hb
  have h1 := callG_mu (ρ := ρ) (G := G) (w := w) B.hk hν hb
  have hst : strip (pathVal ρ q) t = none := by
   cases e : strip (pathVal ρ q) t with
   | none => rfl
   | some t' => exact absurd ⟨t', (strip_some e).symm⟩ hnp
  rw [hst] at h1
  refine ⟨?_, (B.keep hlt (.inr h1)).1⟩
  rw [B.own_eq hlt (by rw [h1]; rfl), hb]
  simp only [keepOwn, rtFind_mu B.hk.dist hν, hst]
theorem Back.frame : FrameOk F (backG gd ρ G w s Z nr nb G'.own hs adn) w' := by
 have hsz : w.heap.size <= w'.heap.size := B.hF.size
 refine ⟨B.hF.os.trans B.hR.frame.os, B.hF.tape.trans B.hR.frame.tape, B.hF.output.trans B.hR.frame.output, Nat.le_trans B.hR.frame.size hsz, fun b hb ho => ?_, fun b j hb ho => ?_, fun b hb => ?_⟩
 ·obtain ⟨h1, h2⟩ := B.hR.frame.keep b hb ho
  have hlt : b < w.heap.size := Nat.lt_of_lt_of_le hb B.hR.frame.size
  rcases ho with ho | ho
  ·rw [ho] at h2 ⊢
   obtain ⟨h3, h4⟩ := B.frz (gd := gd) (nr := nr) (nb := nb) (hs := hs) (adn := adn) h2 hlt
   exact ⟨h4.trans h1, h3⟩
  ·rw [ho] at h2 ⊢
   obtain ⟨h3, h4⟩ := B.oth (gd := gd) (nr := nr) (nb := nb) (hs := hs) (adn := adn) h2 hlt
   exact ⟨h4.trans h1, h3⟩
 ·obtain ⟨h1, c0, c1, e, fr, h2, h3, h4, h5⟩ := B.hR.frame.boxes b j hb ho
  have hlt : b < w.heap.size := Nat.lt_of_lt_of_le hb B.hR.frame.size
  obtain ⟨h6, h7⟩ := B.boxes (gd := gd) (nr := nr) (nb := nb) (hs := hs) (adn := adn) h1 hlt
  refine ⟨h6, ?_⟩
  rcases h7 with h7 | ⟨i, cs, off, ls, d0, d1, e', fr', h8, h9, h10, h11, h12, h13, h14, h15, h16⟩
  ·exact ⟨c0, c1, e, fr, h2, h7.trans h3, h4, h5⟩
  ·rw [h3] at h13
   obtain ⟨rfl, rfl, rfl⟩ : c1 = d0 /\ e = e' /\ fr = fr' := by
    have := Option.some.inj h13
    injection this with e1 e2 e3
    exact ⟨e1, e2, e3⟩
   have hrng := B.hR.rng j ls h11 (by rw [<- h10]; exact hb) (by rw [<- h10]; exact ho)
   refine ⟨c0, d1, e, fr, h2, h14, h15.trans h4, fun k hk => ?_⟩
   rw [hrng] at hk
   dsimp only at hk
   rw [h16 k (by omega), h5 k (by rw [hrng]; exact hk)]
 ·simp only [backG]
  rw [if_neg (by omega), B.hF.fresh b hb]; rfl
end
end Go.Proofs.YtdpfilpckndhcaaGreatDoor.Rf

namespace Go.Proofs.YtdpfilpckndhcaaGreatDoor.Rf
set_option linter.unusedVariables false
set_option linter.unusedSimpArgs false
section
variable (w : World)
def owC (ad : Addr) : Nat -> List BO -> List Value
 | _, [] => []
 | off, s :: r => (match s with | .ow _ => [(w.cell? (ad.add off)).getD undef] | _ => []) ++ owC ad (off + 1) r
def owLeaf : LR -> Value -> List Value
 | .ow _, v => [v]
 | .bx cs, .pointer (some ad) => owC w ad 0 cs
 | _, _ => []
def owL : List LR -> List Value -> List Value
 | s :: ss, v :: vs => owLeaf w s v ++ owL ss vs
 | _, _ => []
def owR : List (Bool × List LR) -> List Value -> List Value
 | (a, ss) :: rs, u :: us => owL w ss (if a = true then u.cells.toList else [u]) ++ owR rs us
 | _, _ => []
def owB (bx : Nat -> Addr) : Nat -> List (Bool × List (BS × BO)) -> List Value
 | _, [] => []
 | b, (ro, cs) :: r => if ro = true then owB bx (b + 1) r else owC w (bx b) 0 (cs.map (·.2)) ++ owB bx (b + 1) r
end
def bxLeaf : LR -> Value -> List Addr
 | .bx _, .pointer (some ad) => [ad]
 | _, _ => []
def bxAdL : List LR -> List Value -> List Addr
 | s :: ss, v :: vs => bxLeaf s v ++ bxAdL ss vs
 | _, _ => []
def bxAdR : List (Bool × List LR) -> List Value -> List Addr
 | (a, ss) :: rs, u :: us => bxAdL ss (if a = true then u.cells.toList else [u]) ++ bxAdR rs us
 | _, _ => []
theorem bxLeaf_len (s : LR) (v : Value) : (bxLeaf s v).length <= (match s with | .bx _ => 1 | _ => 0) := by
 unfold bxLeaf
 split <;> simp
theorem bxAdL_len : ∀ (ss : List LR) (vs : List Value), (bxAdL ss vs).length <= bxL ss
 | [], vs => by simp [bxAdL]
 | s :: ss, [] => by simp [bxAdL]
 | s :: ss, v :: vs => by
  have h1 := bxLeaf_len s v
  have h2 := bxAdL_len ss vs
  simp only [bxAdL, List.length_append]
  cases s <;> simp only [bxL] at * <;> omega
theorem bxAdR_len : ∀ (rs : List (Bool × List LR)) (us : List Value), (bxAdR rs us).length <= bxCount rs
 | [], us => by simp [bxAdR]
 | (a, ss) :: rs, [] => by simp [bxAdR]
 | (a, ss) :: rs, u :: us => by
  have h1 := bxAdL_len ss (if a = true then u.cells.toList else [u])
  have h2 := bxAdR_len rs us
  simp only [bxAdR, List.length_append, bxCount]
  omega
def noOwO : List BO -> Bool
 | [] => true
 | .ow _ :: _ => false
 | _ :: r => noOwO r
section
variable {E : Env} {F : Frame0} {σ σ' : Nat -> Option Cont} {ρ : List D} {a : Act} {w w' : World} {G G' : Gh} {s : Sig} {Z : Take} {gd : Bool} {nr nb y0 : Nat} {hs : List Value} {adn : Addr} {ds : List D}
def FitOk (ρ : List D) (l : List Step) : Prop := ∀ m y, .prim (.dep m) [.v y] 0 ∈ l -> fitsD m ((Atom.v y).val ρ) = true
structure Aft (E : Env) (F : Frame0) (σ σ' : Nat -> Option Cont) (ρ : List D) (a : Act) (w : World) (G : Gh) (s : Sig) (Z : Take) (G' : Gh) (w' : World) (y0 : Nat) (ds : List D) : Prop where
 B : Back E F σ ρ a w G s Z G' w'
 val : ∀ i, i < ds.length -> (Atom.v (y0 + i)).val ρ = ds.getD i .undef
 known : ∀ z ∈ Z.deps, knownR σ' z.1 z.2
def UOk (NewB : Nat -> Prop) (σ' : Nat -> Option Cont) (ρ : List D) (G2 : Gh) (w' : World) (nr nb y0 : Nat) (u : List (Nat × Cont)) : Prop :=
 ∀ k c, (k, c) ∈ u -> (∃ q m i, k = kR (nr + q) /\ c = .root (.v (y0 + i)) m 0 .live /\ Rp G2.own w' (nr + q) [] m (G2.hdr (nr + q)) ((Atom.v (y0 + i)).val ρ)) \/
  (k = kB nb /\ ∃ ls, c = .box false ls /\ BoxRep σ' ρ G2 w' nb false ls /\ NewB (G2.bx nb).block)
theorem UOk.append {NewB : Nat -> Prop} {G2 : Gh} {u v : List (Nat × Cont)} (h : UOk NewB σ' ρ G2 w' nr nb y0 u) (h' : UOk NewB σ' ρ G2 w' nr nb y0 v) : UOk NewB σ' ρ G2 w' nr nb y0 (u ++ v) := fun k c hc => (List.mem_append.1 hc).elim (h k c) (h' k c)
def UIn (σ' : Nat -> Option Cont) (nr : Nat) (u : List (Nat × Cont)) : Prop := ∀ k c, (k, c) ∈ u -> (σ' k).isSome /\ ∀ q, k = kR (nr + q) -> q < maxRoots
theorem UIn.left {u v : List (Nat × Cont)} (h : UIn σ' nr (u ++ v)) : UIn σ' nr u := fun k c hc => h k c (List.mem_append_left _ hc)
theorem UIn.right {u v : List (Nat × Cont)} (h : UIn σ' nr (u ++ v)) : UIn σ' nr v := fun k c hc => h k c (List.mem_append_right _ hc)
theorem hdr_new {own' : Nat -> Ow} {q : Nat} (hq : q < maxRoots) {v : Value} (hv : hs[q]? = some v) : (backG gd ρ G w s Z nr nb own' hs adn).hdr (nr + q) = v := by
 simp only [backG]
 rw [if_pos ⟨by omega, by omega⟩, Nat.add_sub_cancel_left, List.getD_eq_getElem?_getD, hv]
 rfl
variable (A : Aft E F σ σ' ρ a w G s Z G' w' y0 ds)
include A
theorem boLeaf_rep {i q off : Nat} {t : BO} {v : Value} (h : FinCell G'.own w' ds i q t v) (hi : i < ds.length) (hfit : Z.deps = [] \/ ∀ m, t = .ow m -> fitsD m ((Atom.v (y0 + i)).val ρ) = true)
  (hgd : gd = false \/ ∀ m, t ≠ .ow m) (hh : ∀ m, t = .ow m -> hs[q]? = some v) (hu : UIn σ' nr (boLeaf Z.deps (y0 + i) (nr + q) t).2.1) :
  (boLeaf Z.deps (y0 + i) (nr + q) t).2.2 = nr + q + t.q /\ LeafRep σ' ρ (backG gd ρ G w s Z nr nb G'.own hs adn) w' (boLeaf Z.deps (y0 + i) (nr + q) t).1 v /\ UOk (fun b => ¬ (b < w.heap.size /\ isSlc ((callG ρ G w s Z).own b) = false)) σ' ρ (backG gd ρ G w s Z nr nb G'.own hs adn) w' nr nb y0 (boLeaf Z.deps (y0 + i) (nr + q) t).2.1 := by
 cases t with
 | sc =>
  refine ⟨rfl, ?_, by simp [UOk, boLeaf]⟩
  simp only [boLeaf, LeafRep]
  rw [A.val i hi]
  exact h
 | fz =>
  refine ⟨rfl, ?_, by simp [UOk, boLeaf]⟩
  simp only [boLeaf, LeafRep]
  simp only [FinCell] at h
  rw [A.val i hi]
  exact ⟨⟨h.one, A.known⟩, fun _ => ⟨A.B.rd h, fun e => absurd e (by decide), trivial⟩⟩
 | ow m =>
  have hg : gd = false := hgd.resolve_right fun e => e m rfl
  simp only [FinCell] at h
  have hin := hu (kR (nr + q)) _ (by simp only [boLeaf]; exact List.mem_singleton.2 rfl)
  have hhd := hdr_new (gd := gd) (ρ := ρ) (G := G) (w := w) (s := s) (Z := Z) (nr := nr) (nb := nb) (adn := adn) (own' := G'.own) (hin.2 q rfl) (hh m rfl)
  have hfit' : Z.deps = [] \/ fitsD m (ds.getD i .undef) = true := hfit.imp id fun e => by rw [<- A.val i hi]; exact e m rfl
  have hrp := A.B.give (gd := gd) (nr := nr) (nb := nb) (hs := hs) (adn := adn) h hfit' hg (hin.2 q rfl)
  refine ⟨rfl, ?_, ?_⟩
  ·simp only [boLeaf, LeafRep]
   exact ⟨hhd.symm, hin.1, h.one⟩
  ·intro k c hc
   simp only [boLeaf, List.mem_singleton, Prod.mk.injEq] at hc
   refine .inl ⟨q, m, i, hc.1, hc.2, ?_⟩
   rw [hhd, A.val i hi]
   exact hrp
 | dead =>
  refine ⟨rfl, ?_, by simp [UOk, boLeaf]⟩
  simp only [boLeaf, LeafRep]
  exact h
theorem boCells_rep : ∀ {cs : List BO} {i q off : Nat} {ad : Addr}, FinCells G'.own w' ds ad off i q cs -> i + cs.length <= ds.length -> (Z.deps = [] \/ FitOk ρ (chkCells (y0 + i) cs)) -> (gd = false \/ noOwO cs = true) ->
  (∀ j v, (owC w' ad off cs)[j]? = some v -> hs[q + j]? = some v) -> UIn σ' nr (boCells Z.deps (y0 + i) (nr + q) cs).2.1 ->
  (boCells Z.deps (y0 + i) (nr + q) cs).2.2 = nr + q + qC cs /\ (boCells Z.deps (y0 + i) (nr + q) cs).1.length = cs.length /\ (owC w' ad off cs).length = qC cs /\
  (∀ j l, (boCells Z.deps (y0 + i) (nr + q) cs).1[j]? = some l -> ∃ v, w'.cell? (ad.add (off + j)) = some v /\ w'.frozen? (ad.add (off + j)) = false /\ LeafRep σ' ρ (backG gd ρ G w s Z nr nb G'.own hs adn) w' l v) /\
  UOk (fun b => ¬ (b < w.heap.size /\ isSlc ((callG ρ G w s Z).own b) = false)) σ' ρ (backG gd ρ G w s Z nr nb G'.own hs adn) w' nr nb y0 (boCells Z.deps (y0 + i) (nr + q) cs).2.1
 | [], i, q, off, ad, _, _, _, _, _, _ => ⟨rfl, rfl, rfl, by simp [boCells], by simp [UOk, boCells]⟩
 | t :: cs, i, q, off, ad, h, hi, hfit, hgd, hh, hu => by
  obtain ⟨⟨v, h1, h2, h3⟩, h4⟩ := h
  simp only [List.length_cons] at hi
  simp only [boCells] at hu
  have hlen : ∀ t : BO, (match t with | .ow _ => [(w'.cell? (ad.add off)).getD undef] | _ => ([] : List Value)).length = t.q := fun t => by cases t <;> rfl
  have hb := boLeaf_rep A (gd := gd) (nr := nr) (nb := nb) (hs := hs) (adn := adn) (off := off) h3 (by omega) (hfit.imp id fun e m hm => e m _ (by subst hm; simp only [chkCells]; exact List.mem_cons_self))
   (hgd.imp id fun e m hm => by subst hm; simp [noOwO] at e) (fun m hm => by
    subst hm
    have := hh 0 v (by simp [owC, h1])
    simpa using this) hu.left
  obtain ⟨h5, h6, h7⟩ := hb
  have hrec := boCells_rep (cs := cs) (i := i + 1) (q := q + t.q) (off := off + 1) (ad := ad) h4 (by omega) (hfit.imp id fun e m y hm => e m y (by
    cases t with
    | ow m' => simp only [chkCells]; exact List.mem_cons_of_mem _ hm
    | _ => exact hm)) (hgd.imp id fun e => by cases t <;> simp [noOwO] at e ⊢ <;> exact e) (fun j x hj => by
    have := hh (t.q + j) x (by
     simp only [owC]
     rw [List.getElem?_append_right (by rw [hlen]; omega), hlen, Nat.add_sub_cancel_left]
     exact hj)
    rwa [<- Nat.add_assoc] at this) (by
    have := hu.right
    rw [h5] at this
    rw [<- Nat.add_assoc, <- Nat.add_assoc]
    exact this)
  rw [<- Nat.add_assoc, <- Nat.add_assoc] at hrec
  obtain ⟨h8, h9, h10, h11, h12⟩ := hrec
  simp only [boCells]
  rw [h5]
  refine ⟨by rw [h8]; simp only [qC]; omega, by simp [h9], by simp only [owC, List.length_append, hlen, h10, qC], fun j l hj => ?_, h7.append h12⟩
  cases j with
  | zero =>
   simp only [List.getElem?_cons_zero, Option.some.injEq] at hj
   subst hj
   exact ⟨v, h1, h2, h6⟩
  | succ j =>
   obtain ⟨v', h13, h14, h15⟩ := h11 j l (by simpa using hj)
   rw [show off + (j + 1) = off + 1 + j by omega]
   exact ⟨v', h13, h14, h15⟩
theorem resLeaf_rep (hnb : σ' (kB nb) = none \/ True) {i q : Nat} {t : LR} {v : Value} (h : FinLeaf G'.own w' ds s.boxes.length i q t v) (hi : i + t.n <= ds.length) (hfit : Z.deps = [] \/ FitOk ρ (chkL (y0 + i) [t]))
  (hgd : gd = false \/ bxL [t] = 0) (hh : ∀ j x, (owLeaf w' t v)[j]? = some x -> hs[q + j]? = some x) (had : ∀ ad ∈ bxLeaf t v, ad = adn) (hu : UIn σ' nr (resLeaf gd Z.deps nb (y0 + i) (nr + q) t).2.1) :
  (resLeaf gd Z.deps nb (y0 + i) (nr + q) t).2.2 = nr + q + t.q /\ (owLeaf w' t v).length = t.q /\ LeafRep σ' ρ (backG gd ρ G w s Z nr nb G'.own hs adn) w' (resLeaf gd Z.deps nb (y0 + i) (nr + q) t).1 v /\ UOk (fun b => ¬ (b < w.heap.size /\ isSlc ((callG ρ G w s Z).own b) = false)) σ' ρ (backG gd ρ G w s Z nr nb G'.own hs adn) w' nr nb y0 (resLeaf gd Z.deps nb (y0 + i) (nr + q) t).2.1 := by
 cases t with
 | sc =>
  refine ⟨rfl, by cases v <;> rfl, ?_, by simp [UOk, resLeaf]⟩
  simp only [LR.n] at hi
  simp only [resLeaf, LeafRep]
  rw [A.val i (by omega)]
  exact h
 | fz =>
  refine ⟨rfl, by cases v <;> rfl, ?_, by simp [UOk, resLeaf]⟩
  simp only [LR.n] at hi
  simp only [FinLeaf] at h
  simp only [resLeaf, LeafRep]
  rw [A.val i (by omega)]
  exact ⟨⟨h.one, A.known⟩, fun _ => ⟨A.B.rd h, fun e => absurd e (by decide), trivial⟩⟩
 | ow m =>
  simp only [LR.n] at hi
  simp only [FinLeaf] at h
  cases gd with
  | true =>
   refine ⟨rfl, rfl, ?_, by simp [UOk, resLeaf]⟩
   simp only [resLeaf, cond_true, LeafRep]
   rw [A.val i (by omega)]
   exact ⟨⟨h.one, A.known⟩, fun _ => ⟨A.B.giveGd h rfl, fun e => absurd e (by decide), trivial⟩⟩
  | false =>
   have hin := hu (kR (nr + q)) _ (by simp only [resLeaf, cond_false]; exact List.mem_singleton.2 rfl)
   have hhd := hdr_new (gd := false) (ρ := ρ) (G := G) (w := w) (s := s) (Z := Z) (nr := nr) (nb := nb) (adn := adn) (own' := G'.own) (hin.2 q rfl) (hh 0 v rfl)
   have hfit' : Z.deps = [] \/ fitsD m (ds.getD i .undef) = true := hfit.imp id fun e => by
    rw [<- A.val i (by omega)]
    exact e m _ (by simp only [chkL]; exact List.mem_cons_self)
   have hrp := A.B.give (gd := false) (nr := nr) (nb := nb) (hs := hs) (adn := adn) h hfit' rfl (hin.2 q rfl)
   refine ⟨rfl, rfl, ?_, ?_⟩
   ·simp only [resLeaf, cond_false, LeafRep]
    exact ⟨hhd.symm, hin.1, h.one⟩
   ·intro k c hc
    simp only [resLeaf, cond_false, List.mem_singleton, Prod.mk.injEq] at hc
    refine .inl ⟨q, m, i, hc.1, hc.2, ?_⟩
    rw [hhd, A.val i (by omega)]
    exact hrp
 | rp z =>
  refine ⟨rfl, by cases v <;> rfl, ?_, by simp [UOk, resLeaf]⟩
  simp only [LR.n] at hi
  simp only [FinLeaf] at h
  simp only [resLeaf, LeafRep]
  rw [A.val i (by omega)]
  refine ⟨⟨h.1, A.known⟩, fun _ => ?_⟩
  rcases h.2 with h1 | ⟨ad, row, h1, h2, h3⟩
  ·exact .inl h1
  ·exact .inr ⟨ad, row, h1, h2, A.B.rd h3⟩
 | bx cs =>
  have hg : gd = false := hgd.resolve_right fun e => by simp [bxL] at e
  simp only [LR.n] at hi
  simp only [FinLeaf] at h
  obtain ⟨ad, rfl, h1, h2, h3⟩ := h
  have hadn : ad = adn := had ad (by simp [bxLeaf])
  simp only [resLeaf] at hu
  have hu' : UIn σ' nr (boCells Z.deps (y0 + i) (nr + q) cs).2.1 := fun k c hc => hu k c (List.mem_cons_of_mem _ hc)
  obtain ⟨h4, h5, h6, h7, h8⟩ := boCells_rep A (gd := gd) (nb := nb) (hs := hs) (adn := adn) h3 hi (hfit.imp id fun e m y hm => e m y (by simp only [chkL]; exact List.mem_append_left _ hm)) (.inl hg) hh hu'
  have hsome := (hu (kB nb) _ List.mem_cons_self).1
  have hbx : (backG gd ρ G w s Z nr nb G'.own hs adn).bx nb = ad := by
   simp only [backG, if_pos trivial]; exact hadn.symm
  have hnewb : ¬ (ad.block < w.heap.size /\ isSlc ((callG ρ G w s Z).own ad.block) = false) := by
   ·rintro ⟨hb, hsl⟩
    cases hg1 : (callG ρ G w s Z).own ad.block with
    | frz => have := (A.B.keep hb (.inl hg1)).2; rw [h2, hg1] at this; cases this
    | oth => have := (A.B.keep hb (.inr hg1)).2; rw [h2, hg1] at this; cases this
    | slc _ _ => rw [hg1] at hsl; cases hsl
    | box j =>
     have := (A.B.hF.boxes ad.block j hb hg1).1
     rw [h2] at this
     injection this with this
     have hgc : ∃ c, rwOf Z.ptrs c 0 s.boxes = some j := by
      simp only [callG] at hg1
      cases hgb : G.own ad.block with
      | box c =>
       rw [hgb] at hg1
       dsimp only at hg1
       split at hg1
       ·rename_i x hx
        split at hg1
        ·injection hg1 with hg1
         exact ⟨c, by rw [hx, hg1]⟩
        ·cases hg1
       ·cases hg1
      | slc r p =>
       rw [hgb] at hg1
       dsimp only at hg1
       rcases rtOwn_ne (ρ := ρ) (dr := Z.deps.map (·.1)) (r := r) (p := p) Z.rts 0 with ⟨_, _, e⟩ | e | e <;> rw [e] at hg1 <;> cases hg1
      | frz => rw [hgb] at hg1; cases hg1
      | oth => rw [hgb] at hg1; cases hg1
     obtain ⟨c, hc⟩ := hgc
     obtain ⟨j', cs', off', e1, e2, -⟩ := rwOf_inv hc
     have := (List.getElem?_eq_some_iff.1 e2).1
     omega
  have hown : (backG gd ρ G w s Z nr nb G'.own hs adn).own ad.block = .box nb := by
   simp only [backG]
   rw [if_neg hnewb, h2]
   simp [backOwn]
  refine ⟨?_, ?_, ?_, ?_⟩
  ·simp only [resLeaf]; exact h4
  ·simp only [owLeaf]; exact h6
  ·simp only [resLeaf, LeafRep]
   exact ⟨by rw [hbx]; rfl, hsome⟩
  ·simp only [resLeaf]
   intro k c hc
   rcases List.mem_cons.1 hc with hc | hc
   ·obtain ⟨rfl, rfl⟩ := Prod.mk.inj hc
    refine .inr ⟨rfl, _, rfl, ⟨by rw [hbx]; exact h1, by rw [hbx, hown]; rfl, fun j l hj => ?_⟩, by rw [hbx]; exact hnewb⟩
    rw [hbx]
    have := h7 j l hj
    rwa [Nat.zero_add] at this
   ·exact h8 k c hc
theorem resLeaves_rep : ∀ {ss : List LR} {i q : Nat} {vs : List Value}, FinLeaves G'.own w' ds s.boxes.length i q ss vs -> i + lrCount ss <= ds.length -> (Z.deps = [] \/ FitOk ρ (chkL (y0 + i) ss)) ->
  (gd = false \/ bxL ss = 0) -> (∀ j x, (owL w' ss vs)[j]? = some x -> hs[q + j]? = some x) -> (∀ ad ∈ bxAdL ss vs, ad = adn) -> UIn σ' nr (resLeaves gd Z.deps nb (y0 + i) (nr + q) ss).2.1 ->
  (resLeaves gd Z.deps nb (y0 + i) (nr + q) ss).2.2 = nr + q + qL ss /\ (owL w' ss vs).length = qL ss /\ LeavesRep σ' ρ (backG gd ρ G w s Z nr nb G'.own hs adn) w' (resLeaves gd Z.deps nb (y0 + i) (nr + q) ss).1 vs /\ UOk (fun b => ¬ (b < w.heap.size /\ isSlc ((callG ρ G w s Z).own b) = false)) σ' ρ (backG gd ρ G w s Z nr nb G'.own hs adn) w' nr nb y0 (resLeaves gd Z.deps nb (y0 + i) (nr + q) ss).2.1
 | [], i, q, vs, h, _, _, _, _, _, _ => by
  simp only [FinLeaves] at h
  subst h
  exact ⟨rfl, rfl, by simp [resLeaves, LeavesRep], by simp [UOk, resLeaves]⟩
 | t :: ss, i, q, vs, h, hi, hfit, hgd, hh, had, hu => by
  obtain ⟨u, us, rfl, h1, h2⟩ := h
  simp only [lrCount] at hi
  simp only [resLeaves] at hu
  obtain ⟨h3, h4, h5, h6⟩ := resLeaf_rep A (gd := gd) (nb := nb) (hs := hs) (adn := adn) (.inr trivial) h1 (by omega) (hfit.imp id fun e m y hm => e m y (by
    cases t with
    | ow m' => simp only [chkL, List.mem_singleton] at hm ⊢; rw [hm]; exact List.mem_cons_self
    | bx cs => simp only [chkL, List.append_nil] at hm ⊢; exact List.mem_append_left _ hm
    | _ => simp [chkL] at hm))
   (hgd.imp id fun e => by cases t <;> simp only [bxL] at e ⊢ <;> omega) (fun j x hj => hh j x (by
    simp only [owL]
    rw [List.getElem?_append_left (List.getElem?_eq_some_iff.1 hj).1]; exact hj))
   (fun ad hm => had ad (by simp only [bxAdL]; exact List.mem_append_left _ hm)) hu.left
  have hrec := resLeaves_rep (ss := ss) (i := i + t.n) (q := q + t.q) h2 (by omega) (hfit.imp id fun e m y hm => e m y (by
    cases t with
    | ow m' => simp only [chkL]; exact List.mem_cons_of_mem _ hm
    | bx cs => simp only [chkL]; rw [Nat.add_assoc]; exact List.mem_append_right _ hm
    | _ => exact hm)) (hgd.imp id fun e => by cases t <;> simp only [bxL] at e <;> omega) (fun j x hj => by
    have := hh (t.q + j) x (by
     simp only [owL]
     rw [List.getElem?_append_right (by rw [h4]; omega), h4, Nat.add_sub_cancel_left]
     exact hj)
    rwa [<- Nat.add_assoc] at this) (fun ad hm => had ad (by simp only [bxAdL]; exact List.mem_append_right _ hm)) (by
    have := hu.right
    rw [h3] at this
    rw [<- Nat.add_assoc, <- Nat.add_assoc]
    exact this)
  rw [<- Nat.add_assoc, <- Nat.add_assoc] at hrec
  obtain ⟨h7, h8, h9, h10⟩ := hrec
  simp only [resLeaves]
  rw [h3]
  refine ⟨by rw [h7]; simp only [qL]; omega, by simp only [owL, List.length_append, h4, h8, qL], ?_, h6.append h10⟩
  simp only [LeavesRep]
  exact ⟨u, us, rfl, h5, h9⟩
theorem resAll_rep : ∀ {rs : List (Bool × List LR)} {i q : Nat} {us : List Value}, FinRes G'.own w' ds s.boxes.length i q rs us -> i + resCount rs <= ds.length -> (Z.deps = [] \/ FitOk ρ (chkR (y0 + i) rs)) ->
  (gd = false \/ bxCount rs = 0) -> (∀ j x, (owR w' rs us)[j]? = some x -> hs[q + j]? = some x) -> (∀ ad ∈ bxAdR rs us, ad = adn) -> UIn σ' nr (resAll gd Z.deps nb (y0 + i) (nr + q) rs).2.1 ->
  (resAll gd Z.deps nb (y0 + i) (nr + q) rs).2.2 = nr + q + qR rs /\ (owR w' rs us).length = qR rs /\ TupRep σ' ρ (backG gd ρ G w s Z nr nb G'.own hs adn) w' (resAll gd Z.deps nb (y0 + i) (nr + q) rs).1 us /\ UOk (fun b => ¬ (b < w.heap.size /\ isSlc ((callG ρ G w s Z).own b) = false)) σ' ρ (backG gd ρ G w s Z nr nb G'.own hs adn) w' nr nb y0 (resAll gd Z.deps nb (y0 + i) (nr + q) rs).2.1
 | [], i, q, us, h, _, _, _, _, _, _ => by
  simp only [FinRes] at h
  subst h
  exact ⟨rfl, rfl, rfl, by simp [UOk, resAll]⟩
 | (ag, ss) :: rs, i, q, us, h, hi, hfit, hgd, hh, had, hu => by
  obtain ⟨u, us', vs, rfl, h1, h2, h3⟩ := h
  simp only [resCount] at hi
  simp only [resAll] at hu
  have hvs : (if ag = true then u.cells.toList else [u]) = vs := by
   cases ag with
   | true =>
    simp only [if_true] at h2 ⊢
    rw [h2]; simp [Value.cells]
   | false => simp only [Bool.false_eq_true, if_false] at h2 ⊢; exact h2.symm
  obtain ⟨h4, h5, h6, h7⟩ := resLeaves_rep A (gd := gd) (nb := nb) (hs := hs) (adn := adn) h1 (by omega) (hfit.imp id fun e m y hm => e m y (by simp only [chkR]; exact List.mem_append_left _ hm))
   (hgd.imp id fun e => by simp only [bxCount] at e; omega) (fun j x hj => hh j x (by
    simp only [owR, hvs]
    rw [List.getElem?_append_left (List.getElem?_eq_some_iff.1 hj).1]; exact hj))
   (fun ad hm => had ad (by simp only [bxAdR, hvs]; exact List.mem_append_left _ hm)) hu.left
  have hrec := resAll_rep (rs := rs) (i := i + lrCount ss) (q := q + qL ss) h3 (by omega) (hfit.imp id fun e m y hm => e m y (by
    simp only [chkR]
    rw [Nat.add_assoc]
    exact List.mem_append_right _ hm)) (hgd.imp id fun e => by simp only [bxCount] at e; omega) (fun j x hj => by
    have := hh (qL ss + j) x (by
     simp only [owR, hvs]
     rw [List.getElem?_append_right (by rw [h5]; omega), h5, Nat.add_sub_cancel_left]
     exact hj)
    rwa [<- Nat.add_assoc] at this) (fun ad hm => had ad (by simp only [bxAdR]; exact List.mem_append_right _ hm)) (by
    have := hu.right
    rw [h4] at this
    rw [<- Nat.add_assoc, <- Nat.add_assoc]
    exact this)
  rw [<- Nat.add_assoc, <- Nat.add_assoc] at hrec
  obtain ⟨h8, h9, h10, h11⟩ := hrec
  simp only [resAll]
  rw [h4]
  exact ⟨by rw [h8]; simp only [qR]; omega, by simp only [owR, hvs, List.length_append, h5, h9, qR], ⟨u, us', vs, rfl, h6, h2, h10⟩, h7.append h11⟩
theorem boxOuts_rep (hnb : σ (kB nb) = none) : ∀ {bs : List (Bool × List (BS × BO))} {b i q : Nat} {bu : List (Nat × Cont)}, (∀ j x, bs[j]? = some x -> s.boxes[b + j]? = some x) -> (boxOuts Z.ptrs Z.deps b (y0 + i) (nr + q) bs).eval σ = some bu ->
  FinBoxes G'.own w' ds (callG ρ G w s Z).bx b i q bs -> i + countOuts bs <= ds.length -> (Z.deps = [] \/ FitOk ρ (chkB (y0 + i) bs)) -> (gd = false \/ ∀ x ∈ bs, x.1 = false -> noOwO (x.2.map (·.2)) = true) ->
  (∀ j x, (owB w' (callG ρ G w s Z).bx b bs)[j]? = some x -> hs[q + j]? = some x) -> UIn σ' nr bu ->
  (∀ k c, (k, c) ∈ bu -> (∃ q m i, k = kR (nr + q) /\ c = .root (.v (y0 + i)) m 0 .live /\ Rp (backG gd ρ G w s Z nr nb G'.own hs adn).own w' (nr + q) [] m ((backG gd ρ G w s Z nr nb G'.own hs adn).hdr (nr + q)) ((Atom.v (y0 + i)).val ρ)) \/
   ∃ c0 ls0 ls, k = kB c0 /\ σ (kB c0) = some (.box false ls0) /\ c = .box false ls /\ ls.length = ls0.length /\
    ((∀ j l, ls0[j]? = some l -> ∃ v, w.cell? ((G.bx c0).add j) = some v /\ (LeafRep σ ρ G w l v -> LeafRep σ' ρ (backG gd ρ G w s Z nr nb G'.own hs adn) w' l v)) -> BoxRep σ' ρ (backG gd ρ G w s Z nr nb G'.own hs adn) w' c0 false ls)) /\
  (∀ c, c ∈ boxesOf false Z.ptrs b bs -> ∃ x, (kB c, x) ∈ bu)
 | [], b, i, q, bu, _, h, _, _, _, _, _, _ => by
  simp only [boxOuts, eval_ret, Option.some.injEq] at h
  subst h
  exact ⟨by simp, by simp [boxesOf]⟩
 | (ro, cs) :: bs, b, i, q, bu, hbs, h, hf, hi, hfit, hgd, hh, hu => by
  simp only [boxOuts] at h
  have hbs' : ∀ j x, bs[j]? = some x -> s.boxes[b + 1 + j]? = some x := fun j x hj => by
   rw [show b + 1 + j = b + (j + 1) by omega]
   exact hbs (j + 1) x (by simpa using hj)
  cases ro with
  | true =>
   simp only [cond_true] at h
   simp only [FinBoxes, if_true] at hf
   simp only [countOuts, cond_true, Nat.zero_add] at hi
   obtain ⟨h1, h2⟩ := boxOuts_rep hnb (bs := bs) (b := b + 1) hbs' h hf hi (hfit.imp id fun e m y hm => e m y (by simp only [chkB, cond_true]; exact hm)) (hgd.imp id fun e x hx => e x (List.mem_cons_of_mem _ hx))
    (fun j x hj => hh j x (by simp only [owB, if_true]; exact hj)) hu
   refine ⟨h1, fun c hc => h2 c ?_⟩
   have e : (true == false) = false := rfl
   simp only [boxesOf, e, cond_false] at hc
   exact hc
  | false =>
   simp only [cond_false] at h
   simp only [FinBoxes, Bool.false_eq_true, if_false] at hf
   simp only [countOuts, cond_false] at hi
   split at h
   case h_2 => cases h
   rename_i c off hp
   simp only [eval_bind, eval_rdK, Option.bind_some] at h
   split at h
   case h_2 => cases h
   rename_i ls0 hkb
   simp only [eval_bind, Option.bind_eq_some_iff, eval_ret, Option.some.injEq] at h
   obtain ⟨rest, h1, rfl⟩ := h
   have hbx : (callG ρ G w s Z).bx b = (G.bx c).add off := by simp only [callG, hp]
   rw [hbx] at hf
   have hsb := hbs 0 _ rfl
   rw [Nat.add_zero] at hsb
   obtain ⟨c', off', ro', ls', e1, e2, e3, e4⟩ := A.B.bx b false cs hsb
   rw [hp] at e1
   obtain ⟨rfl, rfl⟩ : c = c' /\ off = off' := by simpa using e1
   rw [hkb] at e2
   obtain ⟨rfl, rfl⟩ : false = ro' /\ ls0 = ls' := by simpa using e2
   have hu1 : UIn σ' nr (boCells Z.deps (y0 + i) (nr + q) (cs.map (·.2))).2.1 := fun k x hx => hu k x (List.mem_cons_of_mem _ (List.mem_append_left _ hx))
   have hu2 : UIn σ' nr rest := fun k x hx => hu k x (List.mem_cons_of_mem _ (List.mem_append_right _ hx))
   obtain ⟨h2, h3, h4, h5, h6⟩ := boCells_rep A (gd := gd) (nb := nb) (hs := hs) (adn := adn) hf.1 (by simp; omega) (hfit.imp id fun e m y hm => e m y (by simp only [chkB, cond_false]; exact List.mem_append_left _ hm))
    (hgd.imp id fun e => e _ List.mem_cons_self rfl) (fun j x hj => hh j x (by
     simp only [owB, Bool.false_eq_true, if_false, hbx]
     rw [List.getElem?_append_left (List.getElem?_eq_some_iff.1 hj).1]; exact hj)) hu1
   rw [List.length_map] at h3
   rw [h2] at h1
   have hrec := boxOuts_rep hnb (bs := bs) (b := b + 1) (i := i + cs.length) (q := q + qC (cs.map (·.2))) hbs' (by rw [<- Nat.add_assoc, <- Nat.add_assoc]; exact h1) hf.2 (by omega)
    (hfit.imp id fun e m y hm => e m y (by simp only [chkB, cond_false]; rw [Nat.add_assoc]; exact List.mem_append_right _ hm)) (hgd.imp id fun e x hx => e x (List.mem_cons_of_mem _ hx)) (fun j x hj => by
     have := hh (qC (cs.map (·.2)) + j) x (by
      simp only [owB, Bool.false_eq_true, if_false, hbx]
      rw [List.getElem?_append_right (by rw [h4]; omega), h4, Nat.add_sub_cancel_left]
      exact hj)
     rwa [<- Nat.add_assoc] at this) hu2
   obtain ⟨h7, h8⟩ := hrec
   refine ⟨fun k x hx => ?_, fun c2 hc2 => ?_⟩
   ·rcases List.mem_cons.1 hx with hx | hx
    ·obtain ⟨rfl, rfl⟩ := Prod.mk.inj hx
     refine .inr ⟨c, ls0, _, rfl, hkb, rfl, setRange_len (by rw [h3]; exact e3), fun hold => ?_⟩
     obtain ⟨hb1, hb2, hb3⟩ := A.B.hR.box hkb
     simp only [Bool.false_eq_true, if_false] at hb2
     have hcn : c ≠ nb := fun e => by rw [e, hnb] at hkb; cases hkb
     have hgbx : (backG gd ρ G w s Z nr nb G'.own hs adn).bx c = G.bx c := by simp only [backG, if_neg hcn]
     have hpos : 0 < ls0.length := by have := (e4 rfl).2; omega
     obtain ⟨v0, hc0, -, -⟩ := hb3 0 _ (List.getElem?_eq_getElem hpos)
     have hlt : (G.bx c).block < w.heap.size := by have := cell_lt hc0; rwa [add_block] at this
     obtain ⟨h9, h10⟩ := A.B.boxes (gd := gd) (nr := nr) (nb := nb) (hs := hs) (adn := adn) hb2 hlt
     refine ⟨by rw [hgbx]; exact hb1, by rw [hgbx, h9]; rfl, fun j l hj => ?_⟩
     rw [hgbx]
     rw [setRange_get (by rw [h3]; exact e3)] at hj
     split at hj
     ·rename_i hr
      obtain ⟨v, h11, h12, h13⟩ := h5 _ l hj
      rw [add_add, Nat.zero_add, show off + (j - off) = j by omega] at h11 h12
      exact ⟨v, h11, h12, h13⟩
     ·rename_i hr
      obtain ⟨v, h11, h12, h13⟩ := hb3 j l hj
      obtain ⟨v', h14, h15⟩ := hold j l hj
      rw [h11] at h14
      obtain rfl := Option.some.inj h14
      rcases h10 with h10 | ⟨j2, cs2, off2, ls2, c0, c1, e, fr, f1, f2, f3, f4, f5, f6, f7, f8, f9⟩
      ·exact ⟨v, (heap_cell (w := w) (w' := w') (by rw [add_block]; exact h10)).trans h11, (heap_frozen (w := w) (w' := w') (by rw [add_block]; exact h10)).trans h12, h15 h13⟩
      ·
       have hsb' : ptrOf (0 + b) Z.ptrs = some (c, off) := by rw [Nat.zero_add]; exact hp
       have hx1 := rwOf_some A.B.hk.wr hsb hsb'
       have f2' : ptrOf (0 + j2) Z.ptrs = some (c, off2) := by rw [Nat.zero_add]; exact f2
       have hx2 := rwOf_some A.B.hk.wr f1 f2'
       rw [hx1] at hx2
       have hjj : b = j2 := by have := Option.some.inj hx2; omega
       subst hjj
       rw [hp] at f2
       rw [hsb] at f1
       obtain ⟨-, rfl⟩ : c = c /\ off = off2 := by simpa using f2
       obtain rfl : cs = cs2 := by simpa using f1
       rw [h3] at hr
       have hcell : ∀ (ww : World) (cc : Array Value), ww.heap[(G.bx c).block]? = some (.cells cc e fr) -> ww.cell? ((G.bx c).add j) = cc[(G.bx c).off + j]? /\ ww.frozen? ((G.bx c).add j) = (fr.1 <= (G.bx c).off + j && (G.bx c).off + j < fr.2) := by
        intro ww cc hcc
        have := add_spot (n := j) hb1
        refine ⟨?_, ?_⟩
        ·unfold World.cell?
         rw [add_block, hcc]
         simp [this, add_off]
        ·unfold World.frozen?
         rw [add_block, hcc]
         simp [add_off]
       obtain ⟨g1, g2⟩ := hcell w c0 f6
       obtain ⟨g3, g4⟩ := hcell w' c1 f7
       refine ⟨v, ?_, by rw [g4, <- g2]; exact h12, h15 h13⟩
       rw [g3, f9 _ (by omega), <- g1]
       exact h11
    ·rcases List.mem_append.1 hx with hx | hx
     ·rcases h6 k x hx with h9 | ⟨h9, -⟩
      ·exact .inl h9
      ·exfalso
       have : ∀ (l : List BO) (y n : Nat), ∀ z ∈ (boCells Z.deps y n l).2.1, ∃ r, z.1 = kR r := by
        intro l
        induction l with
        | nil => intro y n z hz; simp [boCells] at hz
        | cons t l ih =>
         intro y n z hz
         simp only [boCells] at hz
         rcases List.mem_append.1 hz with hz | hz
         ·cases t <;> simp [boLeaf] at hz
          exact ⟨n, by rw [hz]⟩
         ·exact ih _ _ z hz
       obtain ⟨r, hr⟩ := this _ _ _ _ hx
       rw [h9] at hr
       exact kB_ne_kR hr
     ·exact h7 k x hx
   ·simp only [boxesOf] at hc2
    have e : (false == false) = true := rfl
    rw [e, cond_true, hp] at hc2
    rcases List.mem_cons.1 hc2 with rfl | hc2
    ·exact ⟨_, List.mem_cons_self⟩
    ·obtain ⟨x, hx⟩ := h8 c2 hc2
     exact ⟨x, List.mem_cons_of_mem _ (List.mem_append_right _ hx)⟩
end
end Go.Proofs.YtdpfilpckndhcaaGreatDoor.Rf

namespace Go.Proofs.YtdpfilpckndhcaaGreatDoor.Rf
set_option linter.unusedVariables false
set_option linter.unusedSimpArgs false
theorem findSig_mem {f : Nat} {vs : List SV} : ∀ {l : List (Nat × Sig)} {key : Nat} {s : Sig}, findSig f vs l = some (key, s) -> (key, s) ∈ l /\ s.fn = f
 | [], key, s, h => by simp [findSig] at h
 | (k, t) :: l, key, s, h => by
  simp only [findSig] at h
  revert h
  generalize hb : (Nat.beq t.fn f && argsFit t.params vs) = b
  intro h
  cases b with
  | false =>
   rw [cond_false] at h
   obtain ⟨h1, h2⟩ := findSig_mem h
   exact ⟨List.mem_cons_of_mem _ h1, h2⟩
  | true =>
   rw [cond_true] at h
   obtain ⟨rfl, rfl⟩ := Prod.mk.inj (Option.some.inj h)
   simp only [Bool.and_eq_true, Nat.beq_eq] at hb
   exact ⟨List.mem_cons_self, hb.1⟩
section
variable {E : Env} {F : Frame0} {σ : Nat -> Option Cont} {ρ : List D} {a : Act} {w : World} {G : Gh} {g : Option (Atom × Bool)} {cf : Nat -> List D -> Option (List D)}
theorem rdSl_live {l : Leaf} {s : SlR} (h : (rdSl l).eval σ = some s) : ∀ z ∈ s.deps, liveS σ z.1 z.2 := by
 unfold rdSl at h
 split at h
 ·rename_i r
  simp only [eval_bind, eval_rdK, Option.bind_some] at h
  split at h
  ·rename_i x m ver hk
   simp only [eval_ret, Option.some.injEq] at h
   subst h
   intro z hz
   simp only [List.mem_singleton] at hz
   subst hz
   exact ⟨m, x, hk⟩
  ·simp only [eval_ret, Option.some.injEq] at h
   subst h
   simp
  ·cases h
 ·rename_i deps p nie x
  simp only [eval_bind, Option.bind_eq_some_iff] at h
  obtain ⟨ds, h1, h2⟩ := h
  obtain ⟨h3, h4, h5⟩ := rdDeps_rep h1
  split at h2
  ·simp only [eval_ret, Option.some.injEq] at h2
   subst h2
   exact fun z hz => (h4 z hz).2
  ·rename_i r k z hne
   simp only [eval_bind, eval_rdK, Option.bind_some] at h2
   split at h2
   ·simp only [eval_ret, Option.some.injEq] at h2
    subst h2
    intro z' hz'
    simp only [List.mem_singleton] at hz'
    subst hz'
    have := h4 z (by simp)
    have e := this.1
    simp only [List.mem_singleton] at e
    rw [e] at this
    exact this.2
   ·cases h2
  ·simp only [eval_ret, Option.some.injEq] at h2
   subst h2
   exact fun z hz => (h4 z hz).2
 ·cases h
def rtD : RT -> Nat
 | .mu _ d _ _ => d
 | _ => 0
def idxMu : Nat -> List RT -> List Nat
 | _, [] => []
 | ν, .mu _ _ _ _ :: t => ν :: idxMu (ν + 1) t
 | ν, _ :: t => idxMu (ν + 1) t
theorem idxMu_get : ∀ {rts : List RT} {ν0 j ν : Nat}, (idxMu ν0 rts)[j]? = some ν -> ∃ x : RT, (rts.filter isMu)[j]? = some x /\ ν0 <= ν /\ rts[ν - ν0]? = some x
 | [], ν0, j, ν, h => by simp [idxMu] at h
 | x :: t, ν0, j, ν, h => by
  have next : ∀ {j : Nat}, (idxMu (ν0 + 1) t)[j]? = some ν -> ∃ y : RT, (t.filter isMu)[j]? = some y /\ ν0 <= ν /\ (x :: t)[ν - ν0]? = some y := by
   intro j h
   obtain ⟨y, h1, h2, h3⟩ := idxMu_get h
   refine ⟨y, h1, by omega, ?_⟩
   rw [show ν - ν0 = (ν - (ν0 + 1)) + 1 by omega]
   simpa using h3
  cases x with
  | mu r d q X =>
   simp only [idxMu] at h
   cases j with
   | zero =>
    simp only [List.getElem?_cons_zero, Option.some.injEq] at h
    subst h
    exact ⟨.mu r d q X, by simp [isMu, List.filter_cons], Nat.le_refl _, by simp⟩
   | succ j =>
    obtain ⟨y, h1, h2, h3⟩ := next (by simpa using h)
    exact ⟨y, by simpa [isMu, List.filter_cons] using h1, h2, h3⟩
  | nil =>
   obtain ⟨y, h1, h2, h3⟩ := next h
   exact ⟨y, by simpa [isMu, List.filter_cons] using h1, h2, h3⟩
  | own r d =>
   obtain ⟨y, h1, h2, h3⟩ := next h
   exact ⟨y, by simpa [isMu, List.filter_cons] using h1, h2, h3⟩
theorem idxMu_len : ∀ (rts : List RT) (ν0 : Nat), (idxMu ν0 rts).length = (rts.filter isMu).length
 | [], ν0 => rfl
 | x :: t, ν0 => by cases x <;> simp [idxMu, isMu, idxMu_len t, List.filter_cons]
theorem idxMu_append : ∀ (a b : List RT) (ν0 : Nat), idxMu ν0 (a ++ b) = idxMu ν0 a ++ idxMu (ν0 + a.length) b
 | [], b, ν0 => rfl
 | x :: a, b, ν0 => by
  have := idxMu_append a b (ν0 + 1)
  rw [show ν0 + 1 + a.length = ν0 + (a.length + 1) by omega] at this
  cases x <;> simp [idxMu, this]
def RtOk (σ : Nat -> Option Cont) (ρ : List D) (G : Gh) (w : World) : RT -> Prop
 | .nil => True
 | .own r _ => ∃ x m ver, σ (kR r) = some (.root x m ver .live)
 | .mu r d q X => ∃ m ver u, σ (kR r) = some (.root X m ver .live) /\ q.length + d <= m /\ Nest G.own w r [] (G.hdr r) (pathVal ρ q) u
structure TNew (σ : Nat -> Option Cont) (A B : Take) (rn : List RT) (ms : List Nat) (mr : List Nat) : Prop where
 rts : B.rts = A.rts ++ rn
 deps : ∀ z ∈ B.deps, z ∈ A.deps \/ liveS σ z.1 z.2
 ms : (rn.filter isMu).map rtD = ms
 mr : idxMu A.rts.length rn = mr
theorem takeOw_new {A B : Take} {d : Nat} {l : Leaf} (h : (takeOw A d l).eval σ = some B) : ∃ rn, TNew σ A B rn [] [] /\ rn.length = 1 /\ ∀ x ∈ rn, RtOk σ ρ G w x := by
 unfold takeOw at h
 split at h
 ·rename_i r
  simp only [eval_bind, eval_rdK, Option.bind_some] at h
  split at h
  ·rename_i x m ver hk
   simp only [eval_bind, eval_guardR, Option.bind_eq_some_iff, eval_ret, Option.some.injEq] at h
   obtain ⟨_, -, rfl⟩ := h
   refine ⟨[.own r d], ⟨rfl, fun z hz => .inl hz, rfl, rfl⟩, rfl, fun y hy => ?_⟩
   simp only [List.mem_singleton] at hy
   subst hy
   exact ⟨x, m, ver, hk⟩
  ·cases h
 ·simp only [eval_ret, Option.some.injEq] at h
  subst h
  refine ⟨[.nil], ⟨rfl, fun z hz => .inl hz, rfl, rfl⟩, rfl, fun y hy => ?_⟩
  simp only [List.mem_singleton] at hy
  subst hy
  trivial
 ·cases h
theorem takeFz_new {A B : Take} {nie : Bool} {l : Leaf} (h : (takeFz A nie l).eval σ = some B) : TNew σ A B [] [] [] := by
 unfold takeFz at h
 simp only [eval_bind, Option.bind_eq_some_iff, eval_ret, Option.some.injEq] at h
 obtain ⟨s, h1, rfl⟩ := h
 exact ⟨by simp, fun z hz => (List.mem_append.1 hz).imp id fun hz => rdSl_live h1 z hz, rfl, rfl⟩
theorem takeRp_new {A B : Take} {z : Nat} {l : Leaf} (h : (takeRp A z l).eval σ = some B) : TNew σ A B [] [] [] := by
 unfold takeRp at h
 split at h
 ·simp only [eval_bind, Option.bind_eq_some_iff, eval_ret, Option.some.injEq] at h
  obtain ⟨ds, h1, rfl⟩ := h
  exact ⟨by simp, fun z hz => (List.mem_append.1 hz).imp id fun hz => ((rdDeps_rep h1).2.1 z hz).2, rfl, rfl⟩
 ·simp only [eval_ret, Option.some.injEq] at h
  subst h
  exact ⟨by simp, fun z hz => .inl hz, rfl, rfl⟩
 ·cases h
theorem takeLeaf_new (P : Prop) (hR : P -> R E.ntmps F σ ρ a w G) {A B : Take} {t : LS} {l : Leaf} (h : (takeLeaf g A t l).eval σ = some B) (hl : P -> ∃ v, LeafRep σ ρ G w l v) :
  ∃ rn, TNew σ A B rn (muDepths [t]) (muRoots A.rts.length [t]) /\ rn.length = t.rcnt /\ (P -> ∀ x ∈ rn, RtOk σ ρ G w x) := by
 unfold takeLeaf at h
 split at h
 ·simp only [takeSc, eval_bind, Option.bind_eq_some_iff, eval_ret, Option.some.injEq] at h
  obtain ⟨x, -, rfl⟩ := h
  exact ⟨[], ⟨by simp, fun z hz => .inl hz, rfl, rfl⟩, rfl, by simp⟩
 ·exact ⟨[], takeFz_new h, rfl, by simp⟩
 ·rename_i _ d
  unfold takeMu at h
  simp only [eval_bind, Option.bind_eq_some_iff] at h
  obtain ⟨sl, h1, h⟩ := h
  split at h
  case h_2 => cases h
  rename_i r k m q ho
  simp only [eval_bind, eval_guardR, eval_rdK, Option.bind_some, Option.bind_eq_some_iff] at h
  obtain ⟨_, h2, h⟩ := h
  split at h2
  case isFalse => cases h2
  rename_i hb
  simp only [Nat.ble_eq] at hb
  split at h
  case h_2 => cases h
  rename_i X m' v' hkr
  simp only [eval_ret, Option.some.injEq] at h
  subst h
  refine ⟨[.mu r d q X], ⟨rfl, fun z hz => .inl hz, rfl, rfl⟩, rfl, fun hP y hy => ?_⟩
  simp only [List.mem_singleton] at hy
  subst hy
  obtain ⟨v, hv⟩ := hl hP
  have hown := (rdSl_rep (hR hP) h1 hv).own
  unfold OwnRep at hown
  rw [ho] at hown
  obtain ⟨h3, ⟨x, h4⟩, h5, h6, h7⟩ := hown
  rw [hkr] at h4
  obtain ⟨rfl, rfl, rfl⟩ : X = x /\ m' = m /\ v' = k := by
   have := Option.some.inj h4
   injection this with e1 e2 e3
   exact ⟨e1, e2, e3⟩
  exact ⟨_, _, _, hkr, hb, h7⟩
 ·obtain ⟨rn, h1, h2, h3⟩ := takeOw_new (ρ := ρ) (G := G) (w := w) h
  exact ⟨rn, h1, h2, fun _ => h3⟩
 ·simp only [eval_ret, Option.some.injEq] at h
  subst h
  exact ⟨[], ⟨by simp, fun z hz => .inl hz, rfl, rfl⟩, rfl, by simp⟩
 ·split at h
  ·rw [eval_bif] at h
   split at h
   ·simp only [eval_ret, Option.some.injEq] at h
    subst h
    exact ⟨[], ⟨by simp, fun z hz => .inl hz, rfl, rfl⟩, rfl, by simp⟩
   ·cases h
  ·cases h
 ·exact ⟨[], takeRp_new h, rfl, by simp⟩
 ·cases h
theorem TNew.trans {A B C : Take} {rn rn' : List RT} {ms ms' mr mr' : List Nat} (h : TNew σ A B rn ms mr) (h' : TNew σ B C rn' ms' mr') : TNew σ A C (rn ++ rn') (ms ++ ms') (mr ++ mr') := by
 refine ⟨by rw [h'.rts, h.rts, List.append_assoc], fun z hz => ?_, by rw [List.filter_append, List.map_append, h.ms, h'.ms], ?_⟩
 ·rcases h'.deps z hz with h1 | h1
  ·exact h.deps z h1
  ·exact .inr h1
 ·rw [idxMu_append, h.mr]
  have := h'.mr
  rw [h.rts, List.length_append] at this
  rw [this]
theorem muDepths_cons (t : LS) (ss : List LS) : muDepths (t :: ss) = muDepths [t] ++ muDepths ss := by cases t <;> rfl
theorem muRoots_cons (t : LS) (ss : List LS) (r : Nat) : muRoots r (t :: ss) = muRoots r [t] ++ muRoots (r + t.rcnt) ss := by cases t <;> rfl
theorem muDepths_append : ∀ (x y : List LS), muDepths (x ++ y) = muDepths x ++ muDepths y
 | [], y => rfl
 | t :: x, y => by rw [List.cons_append, muDepths_cons, muDepths_cons t x, muDepths_append x y, List.append_assoc]
theorem muRoots_append : ∀ (x y : List LS) (r : Nat), muRoots r (x ++ y) = muRoots r x ++ muRoots (r + rcntL x) y
 | [], y, r => rfl
 | t :: x, y, r => by
  rw [List.cons_append, muRoots_cons, muRoots_cons t x, muRoots_append x y, List.append_assoc]
  simp only [rcntL, Nat.add_assoc]
theorem takeLeaves_new (P : Prop) (hR : P -> R E.ntmps F σ ρ a w G) : ∀ {ss : List LS} {ls : List Leaf} {A B : Take}, (takeLeaves g A ss ls).eval σ = some B -> (P -> ∃ vs, LeavesRep σ ρ G w ls vs) ->
  ∃ rn, TNew σ A B rn (muDepths ss) (muRoots A.rts.length ss) /\ rn.length = rcntL ss /\ (P -> ∀ x ∈ rn, RtOk σ ρ G w x)
 | [], [], A, B, h, _ => by
  simp only [takeLeaves, eval_ret, Option.some.injEq] at h
  subst h
  exact ⟨[], ⟨by simp, fun z hz => .inl hz, rfl, rfl⟩, rfl, by simp⟩
 | [], _ :: _, A, B, h, _ => by simp [takeLeaves, eval_no] at h
 | _ :: _, [], A, B, h, _ => by simp [takeLeaves, eval_no] at h
 | t :: ss, l :: ls, A, B, h, hl => by
  simp only [takeLeaves, eval_bind, Option.bind_eq_some_iff] at h
  obtain ⟨C, h1, h2⟩ := h
  obtain ⟨rn, h3, h4, h5⟩ := takeLeaf_new P hR h1 (fun hP => by
   obtain ⟨vs, hv⟩ := hl hP
   simp only [LeavesRep] at hv
   obtain ⟨u, us, -, hu, -⟩ := hv
   exact ⟨u, hu⟩)
  obtain ⟨rn', h6, h7, h8⟩ := takeLeaves_new P hR h2 (fun hP => by
   obtain ⟨vs, hv⟩ := hl hP
   simp only [LeavesRep] at hv
   obtain ⟨u, us, -, -, hu⟩ := hv
   exact ⟨us, hu⟩)
  have := h3.trans h6
  rw [h3.rts, List.length_append, h4, <- muRoots_cons, <- muDepths_cons] at this
  exact ⟨rn ++ rn', this, by simp [h4, h7, rcntL], fun hP x hx => (List.mem_append.1 hx).elim (h5 hP x) (h8 hP x)⟩
theorem takeArgs_new (P : Prop) (hR : P -> R E.ntmps F σ ρ a w G) : ∀ {ps : List (Bool × List LS)} {vs : List SV} {A B : Take}, (takeArgs g A ps vs).eval σ = some B -> (P -> ∃ us, SVsRep σ ρ G w vs us) ->
  ∃ rn, TNew σ A B rn (muDepths (ps.flatMap (·.2))) (muRoots A.rts.length (ps.flatMap (·.2))) /\ rn.length = rcntP ps /\ (P -> ∀ x ∈ rn, RtOk σ ρ G w x)
 | [], [], A, B, h, _ => by
  simp only [takeArgs, eval_ret, Option.some.injEq] at h
  subst h
  exact ⟨[], ⟨by simp, fun z hz => .inl hz, rfl, rfl⟩, rfl, by simp⟩
 | [], _ :: _, A, B, h, _ => by simp [takeArgs, eval_no] at h
 | _ :: _, [], A, B, h, _ => by simp [takeArgs, eval_no] at h
 | (ag, ss) :: ps, v :: vs, A, B, h, hl => by
  simp only [takeArgs, eval_bind, Option.bind_eq_some_iff, eval_ofOpt] at h
  obtain ⟨ls, h0, C, h1, h2⟩ := h
  obtain ⟨rn, h3, h4, h5⟩ := takeLeaves_new P hR h1 (fun hP => by
   obtain ⟨us, u, us', rfl, hu, -⟩ := hl hP
   exact ⟨_, leavesOf_rep h0 hu⟩)
  obtain ⟨rn', h6, h7, h8⟩ := takeArgs_new P hR h2 (fun hP => by
   obtain ⟨us, u, us', rfl, -, hu⟩ := hl hP
   exact ⟨us', hu⟩)
  have := h3.trans h6
  rw [h3.rts, List.length_append, h4, <- muRoots_append, <- muDepths_append] at this
  exact ⟨rn ++ rn', by rw [List.flatMap_cons]; exact this, by simp [h4, h7, rcntP], fun hP x hx => (List.mem_append.1 hx).elim (h5 hP x) (h8 hP x)⟩
theorem takeCells_new : ∀ {ss : List (BS × BO)} {ls : List Leaf} {A B : Take}, (takeCells A ss ls).eval σ = some B -> ∃ rn, TNew σ A B rn [] [] /\ ∀ x ∈ rn, RtOk σ ρ G w x
 | [], ls, A, B, h => by
  simp only [takeCells, eval_ret, Option.some.injEq] at h
  subst h
  exact ⟨[], ⟨by simp, fun z hz => .inl hz, rfl, rfl⟩, by simp⟩
 | _ :: _, [], A, B, h => by simp [takeCells, eval_no] at h
 | (t, o) :: ss, l :: ls, A, B, h => by
  simp only [takeCells, eval_bind, Option.bind_eq_some_iff] at h
  obtain ⟨C, h1, h2⟩ := h
  obtain ⟨rn', h6, h8⟩ := takeCells_new h2
  have key : ∃ rn, TNew σ A C rn [] [] /\ ∀ x ∈ rn, RtOk σ ρ G w x := by
   have hinv := takeCell_inv h1
   clear h1
   rcases hinv with ⟨x, rfl, rfl, rfl⟩ | ⟨nie, rfl, h⟩ | ⟨d, rfl, h⟩ | ⟨rfl, -, rfl⟩
   ·exact ⟨[], ⟨by simp, fun z hz => .inl hz, rfl, rfl⟩, by simp⟩
   ·exact ⟨[], takeFz_new h, by simp⟩
   ·obtain ⟨rn, h3, -, h5⟩ := takeOw_new (ρ := ρ) (G := G) (w := w) h
    exact ⟨rn, h3, h5⟩
   ·exact ⟨[], ⟨by simp, fun z hz => .inl hz, rfl, rfl⟩, by simp⟩
  obtain ⟨rn, h3, h5⟩ := key
  exact ⟨rn ++ rn', h3.trans h6, fun x hx => (List.mem_append.1 hx).elim (h5 x) (h8 x)⟩
theorem takeBoxes_new {ptrs : List (Nat × Nat × Nat)} : ∀ {bs : List (Bool × List (BS × BO))} {b : Nat} {A B : Take}, (takeBoxes ptrs A b bs).eval σ = some B -> ∃ rn, TNew σ A B rn [] [] /\ ∀ x ∈ rn, RtOk σ ρ G w x
 | [], b, A, B, h => by
  simp only [takeBoxes, eval_ret, Option.some.injEq] at h
  subst h
  exact ⟨[], ⟨by simp, fun z hz => .inl hz, rfl, rfl⟩, by simp⟩
 | (ro, cs) :: bs, b, A, B, h => by
  simp only [takeBoxes] at h
  split at h
  case h_2 => cases h
  simp only [eval_bind, eval_rdK, Option.bind_some] at h
  split at h
  case h_2 => cases h
  simp only [eval_bind, eval_guardR, Option.bind_eq_some_iff] at h
  obtain ⟨_, -, C, h1, h2⟩ := h
  obtain ⟨rn, h3, h5⟩ := takeCells_new (ρ := ρ) (G := G) (w := w) h1
  obtain ⟨rn', h6, h8⟩ := takeBoxes_new h2
  exact ⟨rn ++ rn', h3.trans h6, fun x hx => (List.mem_append.1 hx).elim (h5 x) (h8 x)⟩
theorem muOuts_rep (hg : gOn ρ g = true) : ∀ {rts : List RT} {y nv : Nat} {ml : List Step} {mu : List (Nat × Cont)}, (muOuts y nv rts).eval σ = some (ml, mu) -> StepsOk cf ρ g nv ml ->
  (∀ k c, (k, c) ∈ mu -> ∃ (j r d : Nat) (q : List (Atom × Nat × Nat)) (X X0 : Atom) (m ver : Nat) (X' : Atom), (rts.filter isMu)[j]? = some (RT.mu r d q X) /\ k = kR r /\ c = .root X' m (ver + 1) .live /\ σ (kR r) = some (.root X0 m ver .live) /\ (q.length + d = m \/ fitsD d ((Atom.v (y + j)).val ρ) = true) /\ Upd (pathVal ρ q) (X.val ρ) ((Atom.v (y + j)).val ρ) (X'.val ρ))
 | [], y, nv, ml, mu, h, _ => by
  simp only [muOuts, eval_ret, Option.some.injEq, Prod.mk.injEq] at h
  obtain ⟨rfl, rfl⟩ := h
  simp
 | .nil :: t, y, nv, ml, mu, h, hst => by
  have := muOuts_rep hg (rts := t) h hst
  simpa [isMu, List.filter_cons] using this
 | .own r d :: t, y, nv, ml, mu, h, hst => by
  have := muOuts_rep hg (rts := t) h hst
  simpa [isMu, List.filter_cons] using this
 | .mu r d q X :: t, y, nv, ml, mu, h, hst => by
  simp only [muOuts, eval_bind, eval_rdK, Option.bind_some] at h
  split at h
  case h_2 => cases h
  rename_i X0 m ver hk
  simp only [eval_bind, Option.bind_eq_some_iff, eval_ret, Option.some.injEq, Prod.mk.injEq] at h
  obtain ⟨⟨ls, us⟩, h1, rfl, rfl⟩ := h
  obtain ⟨hs0, hst'⟩ := StepsOk.append hst
  obtain ⟨hfd, hn0⟩ : (q.length + d = m \/ fitsD d ((Atom.v y).val ρ) = true) /\ stepsN (bif Nat.beq (q.length + d) m then [] else [Step.prim (.dep d) [.v y] 0]) = 0 := by
   cases hb : Nat.beq (q.length + d) m with
   | true => exact ⟨.inl (Nat.eq_of_beq_eq_true hb), rfl⟩
   | false =>
    rw [hb, cond_false] at hs0
    obtain ⟨ds, h1, -, -⟩ := hs0.1.1 hg
    simp only [List.map_cons, List.map_nil, Prim.run] at h1
    split at h1
    ·rename_i hf; exact ⟨.inr hf, rfl⟩
    ·cases h1
  rw [hn0, Nat.add_zero] at hst'
  obtain ⟨hs1, hs2⟩ := StepsOk.append hst'
  have hrec := muOuts_rep hg h1 hs2
  intro k c hc
  rcases List.mem_cons.1 hc with hc | hc
  ·obtain ⟨rfl, rfl⟩ := Prod.mk.inj hc
   exact ⟨0, r, d, q, X, X0, m, ver, _, by simp [isMu, List.filter_cons], rfl, rfl, hk, hfd, nest_upd hg q nv X (.v y) hs1⟩
  ·obtain ⟨j, r', d', q', X', X1, m', ver', X2, h2, h3, h4, h5, h5', h6⟩ := hrec k c hc
   exact ⟨j + 1, r', d', q', X', X1, m', ver', X2, by simpa [isMu, List.filter_cons] using h2, h3, h4, h5, by rw [show y + (j + 1) = y + 1 + j by omega]; exact h5', by rw [show y + (j + 1) = y + 1 + j by omega]; exact h6⟩
theorem muOuts_all : ∀ {rts : List RT} {y nv : Nat} {ml : List Step} {mu : List (Nat × Cont)}, (muOuts y nv rts).eval σ = some (ml, mu) -> ∀ r, r ∈ rtRoots rts -> (∃ c, (kR r, c) ∈ mu) \/ ∃ c, (kR r, c) ∈ goneOuts rts
 | [], y, nv, ml, mu, h, r, hr => by simp [rtRoots] at hr
 | .nil :: t, y, nv, ml, mu, h, r, hr => muOuts_all (rts := t) h r hr
 | .own s d :: t, y, nv, ml, mu, h, r, hr => by
  simp only [rtRoots, List.mem_cons] at hr
  rcases hr with rfl | hr
  ·exact .inr ⟨_, by simp only [goneOuts]; exact List.mem_cons_self⟩
  ·exact (muOuts_all (rts := t) h r hr).imp id fun ⟨c, hc⟩ => ⟨c, by simp only [goneOuts]; exact List.mem_cons_of_mem _ hc⟩
 | .mu s d q X :: t, y, nv, ml, mu, h, r, hr => by
  simp only [muOuts, eval_bind, eval_rdK, Option.bind_some] at h
  split at h
  case h_2 => cases h
  simp only [eval_bind, Option.bind_eq_some_iff, eval_ret, Option.some.injEq, Prod.mk.injEq] at h
  obtain ⟨⟨ls, us⟩, h1, rfl, rfl⟩ := h
  simp only [rtRoots, List.mem_cons] at hr
  rcases hr with rfl | hr
  ·exact .inl ⟨_, List.mem_cons_self⟩
  ·exact (muOuts_all h1 r hr).imp (fun ⟨c, hc⟩ => ⟨c, List.mem_cons_of_mem _ hc⟩) id
theorem goneOuts_mem : ∀ {rts : List RT} {k : Nat} {c : Cont}, (k, c) ∈ goneOuts rts -> ∃ r, k = kR r /\ c = .root (.c .hole) 0 0 .gone
 | [], k, c, h => by simp [goneOuts] at h
 | .nil :: t, k, c, h => goneOuts_mem (rts := t) h
 | .mu s d q X :: t, k, c, h => goneOuts_mem (rts := t) h
 | .own s d :: t, k, c, h => by
  simp only [goneOuts, List.mem_cons, Prod.mk.injEq] at h
  rcases h with ⟨rfl, rfl⟩ | h
  ·exact ⟨s, rfl, rfl⟩
  ·exact goneOuts_mem h
end
end Go.Proofs.YtdpfilpckndhcaaGreatDoor.Rf

namespace Go.Proofs.YtdpfilpckndhcaaGreatDoor.Rf
set_option linter.unusedVariables false
set_option linter.unusedSimpArgs false
theorem boCells_keys {deps : List (Nat × Nat)} : ∀ (cs : List BO) (y n : Nat), (boCells deps y n cs).2.2 = n + qC cs /\ ∀ k c, (k, c) ∈ (boCells deps y n cs).2.1 -> ∃ r y m, n <= r /\ k = kR r /\ c = .root (.v y) m 0 .live
 | [], y, n => ⟨rfl, by simp [boCells]⟩
 | t :: cs, y, n => by
  have hb : (boLeaf deps y n t).2.2 = n + t.q /\ ∀ k c, (k, c) ∈ (boLeaf deps y n t).2.1 -> ∃ r y m, n <= r /\ k = kR r /\ c = .root (.v y) m 0 .live := by
   cases t <;> refine ⟨rfl, fun k c hc => ?_⟩ <;> simp [boLeaf] at hc
   exact ⟨n, y, _, Nat.le_refl _, hc.1, hc.2⟩
  obtain ⟨h1, h2⟩ := hb
  simp only [boCells]
  rw [h1]
  obtain ⟨h3, h4⟩ := boCells_keys (deps := deps) cs (y + 1) (n + t.q)
  refine ⟨by rw [h3]; simp only [qC]; omega, fun k c hc => ?_⟩
  rcases List.mem_append.1 hc with hc | hc
  ·exact h2 k c hc
  ·obtain ⟨r, y', m, h5, h6, h7⟩ := h4 k c hc
   exact ⟨r, y', m, by omega, h6, h7⟩
theorem resLeaf_keys {gd : Bool} {deps : List (Nat × Nat)} {nb : Nat} (t : LR) (y n : Nat) : (resLeaf gd deps nb y n t).2.2 = n + t.q /\ ∀ k c, (k, c) ∈ (resLeaf gd deps nb y n t).2.1 -> (∃ r y m, n <= r /\ k = kR r /\ c = .root (.v y) m 0 .live) \/ (k = kB nb /\ ∃ ls, c = .box false ls) := by
 cases t with
 | bx cs =>
  obtain ⟨h3, h4⟩ := boCells_keys (deps := deps) cs y n
  simp only [resLeaf]
  refine ⟨h3, fun k c hc => ?_⟩
  rcases List.mem_cons.1 hc with hc | hc
  ·obtain ⟨rfl, rfl⟩ := Prod.mk.inj hc
   exact .inr ⟨rfl, _, rfl⟩
  ·exact .inl (h4 k c hc)
 | ow m =>
  cases gd with
  | true => exact ⟨rfl, by simp [resLeaf]⟩
  | false =>
   refine ⟨rfl, fun k c hc => ?_⟩
   simp [resLeaf] at hc
   exact .inl ⟨n, y, m, Nat.le_refl _, hc.1, hc.2⟩
 | _ => exact ⟨rfl, by simp [resLeaf]⟩
theorem resLeaves_keys {gd : Bool} {deps : List (Nat × Nat)} {nb : Nat} : ∀ (ss : List LR) (y n : Nat), (resLeaves gd deps nb y n ss).2.2 = n + qL ss /\ ∀ k c, (k, c) ∈ (resLeaves gd deps nb y n ss).2.1 -> (∃ r y m, n <= r /\ k = kR r /\ c = .root (.v y) m 0 .live) \/ (k = kB nb /\ ∃ ls, c = .box false ls)
 | [], y, n => ⟨rfl, by simp [resLeaves]⟩
 | t :: ss, y, n => by
  obtain ⟨h1, h2⟩ := resLeaf_keys (gd := gd) (deps := deps) (nb := nb) t y n
  simp only [resLeaves]
  rw [h1]
  obtain ⟨h3, h4⟩ := resLeaves_keys (gd := gd) (deps := deps) (nb := nb) ss (y + t.n) (n + t.q)
  refine ⟨by rw [h3]; simp only [qL]; omega, fun k c hc => ?_⟩
  rcases List.mem_append.1 hc with hc | hc
  ·exact h2 k c hc
  ·exact (h4 k c hc).imp (fun ⟨r, y', m, h5, h6⟩ => ⟨r, y', m, by omega, h6⟩) id
theorem resAll_keys {gd : Bool} {deps : List (Nat × Nat)} {nb : Nat} : ∀ (rs : List (Bool × List LR)) (y n : Nat), (resAll gd deps nb y n rs).2.2 = n + qR rs /\ ∀ k c, (k, c) ∈ (resAll gd deps nb y n rs).2.1 -> (∃ r y m, n <= r /\ k = kR r /\ c = .root (.v y) m 0 .live) \/ (k = kB nb /\ ∃ ls, c = .box false ls)
 | [], y, n => ⟨rfl, by simp [resAll]⟩
 | (ag, ss) :: rs, y, n => by
  obtain ⟨h1, h2⟩ := resLeaves_keys (gd := gd) (deps := deps) (nb := nb) ss y n
  simp only [resAll]
  rw [h1]
  obtain ⟨h3, h4⟩ := resAll_keys (gd := gd) (deps := deps) (nb := nb) rs (y + lrCount ss) (n + qL ss)
  refine ⟨by rw [h3]; simp only [qR]; omega, fun k c hc => ?_⟩
  rcases List.mem_append.1 hc with hc | hc
  ·exact h2 k c hc
  ·exact (h4 k c hc).imp (fun ⟨r, y', m, h5, h6⟩ => ⟨r, y', m, by omega, h6⟩) id
theorem boxOuts_keys {σ : Nat -> Option Cont} {ptrs : List (Nat × Nat × Nat)} {deps : List (Nat × Nat)} : ∀ {bs : List (Bool × List (BS × BO))} {b y n : Nat} {bu : List (Nat × Cont)}, (boxOuts ptrs deps b y n bs).eval σ = some bu ->
  ∀ k c, (k, c) ∈ bu -> (∃ r y m, n <= r /\ k = kR r /\ c = .root (.v y) m 0 .live) \/ (∃ c0 ls0 ls, k = kB c0 /\ σ (kB c0) = some (.box false ls0) /\ c = .box false ls)
 | [], b, y, n, bu, h => by
  simp only [boxOuts, eval_ret, Option.some.injEq] at h
  subst h; simp
 | (ro, cs) :: bs, b, y, n, bu, h => by
  simp only [boxOuts] at h
  cases ro with
  | true => exact boxOuts_keys (bs := bs) h
  | false =>
   simp only [cond_false] at h
   split at h
   case h_2 => cases h
   simp only [eval_bind, eval_rdK, Option.bind_some] at h
   split at h
   case h_2 => cases h
   rename_i ls0 hkb
   simp only [eval_bind, Option.bind_eq_some_iff, eval_ret, Option.some.injEq] at h
   obtain ⟨rest, h1, rfl⟩ := h
   obtain ⟨h3, h4⟩ := boCells_keys (deps := deps) (cs.map (·.2)) y n
   rw [h3] at h1
   intro k c hc
   rcases List.mem_cons.1 hc with hc | hc
   ·obtain ⟨rfl, rfl⟩ := Prod.mk.inj hc
    exact .inr ⟨_, _, _, rfl, hkb, rfl⟩
   ·rcases List.mem_append.1 hc with hc | hc
    ·exact .inl (h4 k c hc)
    ·exact (boxOuts_keys h1 k c hc).imp (fun ⟨r, y', m, h5, h6⟩ => ⟨r, y', m, by omega, h6⟩) id
theorem FinMus_get {own : Nat -> Ow} {w : World} {ds : List D} {gh : Nat -> Value} : ∀ {ms : List Nat} {i j k d : Nat}, FinMus own w ds gh i j ms -> ms[k]? = some d -> Rp own w (2 * (j + k) + 1) [] d (gh (j + k)) (ds.getD (i + k) .undef)
 | [], i, j, k, d, _, h => by simp at h
 | e :: ms, i, j, 0, d, h, hk => by
  simp only [List.getElem?_cons_zero, Option.some.injEq] at hk
  subst hk
  exact h.1
 | e :: ms, i, j, k + 1, d, h, hk => by
  have := FinMus_get h.2 (k := k) (by simpa using hk)
  rw [show j + (k + 1) = j + 1 + k by omega, show i + (k + 1) = i + 1 + k by omega]
  exact this
theorem TupRep.len {σ : Nat -> Option Cont} {ρ : List D} {G : Gh} {w : World} : ∀ {ts : List (Bool × List Leaf)} {us : List Value}, TupRep σ ρ G w ts us -> us.length = ts.length
 | [], us, h => by simp only [TupRep] at h; subst h; rfl
 | (a, ls) :: r, us, h => by
  obtain ⟨u, us', vs, rfl, -, -, h3⟩ := h
  simp [TupRep.len h3]
theorem resSV_rep {σ : Nat -> Option Cont} {ρ : List D} {G : Gh} {w : World} {g : Option (Atom × Bool)} (hg : gOn ρ g = true) {rs : List (Bool × List Leaf)} {us : List Value} (h : TupRep σ ρ G w rs us) : SVRep σ ρ G w (resSV g rs) (retVal us) := by
 unfold resSV
 split
 ·rename_i x
  obtain ⟨u, us', vs, rfl, h1, h2, h3⟩ := h
  simp only [TupRep] at h3
  subst h3
  simp only [Bool.false_eq_true, if_false] at h2
  subst h2
  simp only [LeavesRep, List.cons.injEq] at h1
  obtain ⟨u', us', ⟨rfl, rfl⟩, h4, -⟩ := h1
  simp only [LeafRep] at h4
  simp only [retVal]
  cases g with
  | none => simp only [mkS, SVRep, LeafRep]; exact h4
  | some z => simp only [mkS, SVRep, LeafRep]; exact ⟨.inl h4, fun _ => h4⟩
 ·rename_i l _
  obtain ⟨u, us', vs, rfl, h1, h2, h3⟩ := h
  simp only [TupRep] at h3
  subst h3
  simp only [Bool.false_eq_true, if_false] at h2
  subst h2
  simp only [LeavesRep, List.cons.injEq] at h1
  obtain ⟨u', us', ⟨rfl, rfl⟩, h4, -⟩ := h1
  simp only [retVal, SVRep]
  exact h4
 ·rename_i ls
  obtain ⟨u, us', vs, rfl, h1, h2, h3⟩ := h
  simp only [TupRep] at h3
  subst h3
  simp only [if_true] at h2
  simp only [retVal, SVRep]
  exact ⟨vs, h2, h1⟩
 ·rename_i _ h1 h2 h3
  simp only [SVRep]
  match us, rs, h with
  | [], [], h => exact ⟨[], rfl, h⟩
  | [u], [(a, ls)], h =>
   exfalso
   obtain ⟨u', us', vs, e, h4, h5, h6⟩ := h
   obtain ⟨rfl, rfl⟩ := List.cons.inj e
   cases a with
   | true => exact h3 ls rfl
   | false =>
    simp only [Bool.false_eq_true, if_false] at h5
    subst h5
    have := h4.len
    match ls, this with
    | [l], _ => exact h2 l rfl
  | u :: u' :: us, r :: r' :: rs, h => exact ⟨_, rfl, h⟩
  | [], _ :: _, h => have := h.len; simp at this
  | [_], [], h => have := h.len; simp at this
  | [_], _ :: _ :: _, h => have := h.len; simp at this
  | _ :: _ :: _, [], h => have := h.len; simp at this
  | _ :: _ :: _, [_], h => have := h.len; simp at this
theorem boxAtoms_noOw {σ : Nat -> Option Cont} {ptrs : List (Nat × Nat × Nat)} : ∀ {bs : List (Bool × List (BS × BO))} {b : Nat} {xs : List Atom}, (boxAtoms ptrs b bs).eval σ = some xs -> ∀ x ∈ bs, x.1 = false -> noOwO (x.2.map (·.2)) = true
 | [], b, xs, h, x, hx, _ => by simp at hx
 | (ro, cs) :: bs, b, xs, h, x, hx, hro => by
  simp only [boxAtoms] at h
  cases ro with
  | true =>
   simp only [cond_true] at h
   rcases List.mem_cons.1 hx with rfl | hx
   ·cases hro
   ·exact boxAtoms_noOw h x hx hro
  | false =>
   simp only [cond_false] at h
   split at h
   case h_2 => cases h
   simp only [eval_bind, eval_rdK, Option.bind_some] at h
   split at h
   case h_2 => cases h
   simp only [eval_bind, Option.bind_eq_some_iff, eval_ret, Option.some.injEq] at h
   obtain ⟨l, h1, m, h2, -⟩ := h
   rcases List.mem_cons.1 hx with rfl | hx
   ·clear h2
    rename_i ls0 _
    generalize ls0.drop _ = ls at h1
    dsimp only
    clear hx hro
    induction cs generalizing ls l with
    | nil => rfl
    | cons t cs ih =>
     obtain ⟨s, o⟩ := t
     cases ls with
     | nil => simp [oldCells, eval_no] at h1
     | cons x ls =>
      simp only [oldCells, eval_bind, Option.bind_eq_some_iff] at h1
      obtain ⟨y, h3, r, h4, -⟩ := h1
      have := ih _ _ h4
      cases o with
      | ow m => cases s <;> simp [eval_no] at h3
      | _ => simpa [noOwO] using this
   ·exact boxAtoms_noOw h2 x hx hro
end Go.Proofs.YtdpfilpckndhcaaGreatDoor.Rf

namespace Go.Proofs.YtdpfilpckndhcaaGreatDoor.Rf
set_option linter.unusedVariables false
set_option linter.unusedSimpArgs false
def dstL (o : Oper) (g : Option (Atom × Bool)) (rs : List (Bool × List Leaf)) : List (Nat × Cont) := match o.dst with
 | some d => [(kT d, .slot (resG g (resSV g rs)) (resSV g rs))]
 | none => []
section
variable {E : Env} {F : Frame0} {σ : Nat -> Option Cont} {ρ : List D} {a : Act} {w w' : World} {G : Gh} {g : Option (Atom × Bool)} {cf : Nat -> List D -> Option (List D)} {o : Oper} {s : Sig} {T Z : Take} {nb nr y0 nvm : Nat}
theorem dstL_keys {rs : List (Bool × List Leaf)} : dstL o g rs = dstUpd o (resG g (resSV g rs)) (resSV g rs) := rfl
theorem call_core (hR : R E.ntmps F σ ρ a w G) (hg : gOn ρ g = true) (hd : DstOk E.ntmps o) (hf : Fresh σ nb nr) {vs : List SV} {us0 : List Value} (hu0 : SVsRep σ ρ G w vs us0)
  (hT : (takeArgs g Take.empty s.params vs).eval σ = some T) (hZ : (takeBoxes T.ptrs T 0 s.boxes).eval σ = some Z) (hk : TkOk s Z) (hbx1 : bxCount s.results <= 1)
  (hgd : noG g = true \/ (bxCount s.results = 0 /\ ∃ olds, (boxAtoms Z.ptrs 0 s.boxes).eval σ = some olds))
  {rs : List (Bool × List Leaf)} {us bu mu : List (Nat × Cont)} {nr1 : Nat} {ml : List Step} {ds : List D} (hres : resAll (!noG g) Z.deps nb y0 nr s.results = (rs, us, nr1))
  (hbu : (boxOuts Z.ptrs Z.deps 0 (y0 + resCount s.results + (Z.rts.filter isMu).length) nr1 s.boxes).eval σ = some bu) {nv1 : Nat} (hmu : (muOuts (y0 + resCount s.results) nv1 Z.rts).eval σ = some (ml, mu))
  (hlen : ds.length = resCount s.results + (Z.rts.filter isMu).length + countOuts s.boxes) (hval : ∀ j d, ds[j]? = some d -> (Atom.v (y0 + j)).val ρ = d)
  (hchk : Z.deps = [] \/ FitOk ρ (chkR y0 s.results ++ chkM (y0 + resCount s.results) Z.rts ++ chkB (y0 + resCount s.results + (Z.rts.filter isMu).length) s.boxes)) (hml : StepsOk cf ρ g nv1 ml)
  (hkey : (dstL o g rs ++ (us ++ bu ++ mu ++ goneOuts Z.rts)).all (fun x => keyIn E.ntmps nb nr x.1) = true)
  {v : Value} (hpost : CPost s (callF s (callG ρ G w s Z) w) (callG ρ G w s Z).bx v w' ds) :
  ∃ G2, R E.ntmps F (upds σ (dstL o g rs ++ (us ++ bu ++ mu ++ goneOuts Z.rts))) ρ (a.put o.dst v) w' G2 := by
 obtain ⟨G', us', rfl, hF, hres', hmus, hboxes⟩ := hpost
 obtain ⟨hle1, hptr, hbxok⟩ := takeBoxes_le hZ
 rw [<- hptr] at hbxok
 obtain ⟨rn, hn1, hn2, hn3⟩ := takeArgs_new True (fun _ => hR) hT (fun _ => ⟨us0, hu0⟩)
 obtain ⟨rn', hn4, hn5⟩ := takeBoxes_new (ρ := ρ) (G := G) (w := w) hZ
 have hnew := hn1.trans hn4
 have hZrts : Z.rts = rn ++ rn' := by have := hnew.rts; simpa [Take.empty] using this
 have hrtok : ∀ x ∈ Z.rts, RtOk σ ρ G w x := by
  rw [hZrts]
  exact fun x hx => (List.mem_append.1 hx).elim (hn3 trivial x) (hn5 x)
 have hms : (Z.rts.filter isMu).map rtD = muDepths (s.params.flatMap (·.2)) := by
  have := hnew.ms
  rw [<- hZrts, List.append_nil] at this
  exact this
 have hmr : idxMu 0 Z.rts = muRoots 0 (s.params.flatMap (·.2)) := by
  have := hnew.mr
  rw [<- hZrts, List.append_nil] at this
  exact this
 have hdeps : ∀ z ∈ Z.deps, liveS σ z.1 z.2 := fun z hz => by
  rcases hnew.deps z hz with h | h
  ·simp [Take.empty] at h
  ·exact h
 have B : Back E F σ ρ a w G s Z G' w' := by
  refine ⟨hR, hk, hF, fun j ro cs hj => by have := hbxok j ro cs hj; rwa [Nat.zero_add] at this, hdeps, fun ν r d q X hν => ?_, fun ν r d hν => ?_⟩
  ·obtain ⟨m, ver, u, h1, h2, h3⟩ := hrtok _ (List.mem_of_getElem? hν)
   exact ⟨m, ver, u, h1, h2, h3⟩
  ·obtain ⟨x, m, ver, h1⟩ := hrtok _ (List.mem_of_getElem? hν)
   exact ⟨x, m, ver, h1⟩
 generalize hU : dstL o g rs ++ (us ++ bu ++ mu ++ goneOuts Z.rts) = U at hkey ⊢
 let hs := owR w' s.results us' ++ owB w' (callG ρ G w s Z).bx 0 s.boxes
 let adn := (bxAdR s.results us').headD ⟨0, 0, none⟩
 let G2 := backG (!noG g) ρ G w s Z nr nb G'.own hs adn
 have hUin : ∀ k c, (k, c) ∈ U -> (k, c) ∈ dstL o g rs \/ (k, c) ∈ us \/ (k, c) ∈ bu \/ (k, c) ∈ mu \/ (k, c) ∈ goneOuts Z.rts := by
  intro k c hc
  rw [<- hU] at hc
  rcases List.mem_append.1 hc with hc | hc
  ·exact .inl hc
  ·rcases List.mem_append.1 hc with hc | hc
   ·rcases List.mem_append.1 hc with hc | hc
    ·rcases List.mem_append.1 hc with hc | hc
     ·exact .inr (.inl hc)
     ·exact .inr (.inr (.inl hc))
    ·exact .inr (.inr (.inr (.inl hc)))
   ·exact .inr (.inr (.inr (.inr hc)))
 have hUdst : ∀ z ∈ dstL o g rs, z ∈ U := fun z hz => by rw [<- hU]; exact List.mem_append_left _ hz
 have hUus : ∀ z ∈ us, z ∈ U := fun z hz => by rw [<- hU]; exact List.mem_append_right _ (List.mem_append_left _ (List.mem_append_left _ (List.mem_append_left _ hz)))
 have hUbu : ∀ z ∈ bu, z ∈ U := fun z hz => by rw [<- hU]; exact List.mem_append_right _ (List.mem_append_left _ (List.mem_append_left _ (List.mem_append_right _ hz)))
 have hUmu : ∀ z ∈ mu, z ∈ U := fun z hz => by rw [<- hU]; exact List.mem_append_right _ (List.mem_append_left _ (List.mem_append_right _ hz))
 have hUgo : ∀ z ∈ goneOuts Z.rts, z ∈ U := fun z hz => by rw [<- hU]; exact List.mem_append_right _ (List.mem_append_right _ hz)
 have hkin : ∀ k c, (k, c) ∈ U -> keyIn E.ntmps nb nr k = true := fun k c hc => by
  rw [List.all_eq_true] at hkey
  exact hkey _ hc
 obtain ⟨hnr1, hkres⟩ := resAll_keys (gd := !noG g) (deps := Z.deps) (nb := nb) s.results y0 nr
 rw [hres] at hnr1 hkres
 dsimp only at hnr1 hkres
 subst hnr1
 have hkbu := boxOuts_keys hbu
 have hmurep := muOuts_rep hg hmu hml
 have hnewroot : ∀ r c, (kR r, c) ∈ U -> nr <= r -> σ (kR r) = none := fun r c hc hr => hf.nr r hr (keyIn_root (hkin _ _ hc))
 have hdk : ∀ k c, (k, c) ∈ dstL o g rs -> ∃ d, o.dst = some d /\ k = kT d /\ c = .slot (resG g (resSV g rs)) (resSV g rs) := fun k c hc => by
  rw [dstL_keys] at hc
  exact dstUpd_mem hc
 have hfr : Fr σ G w (upds σ U) G2 w' := by
  refine Fr.of (fun b hb hlt => B.frz hb hlt) (fun r b p hnot hb => ?_) (fun r c hc hc' => ?_) (fun r x m k hkz b p hb => ?_) (fun r hr => ?_) (fun b hb => ?_)
  ·refine B.other (fun hr => ?_) hb
   rcases muOuts_all hmu r hr with ⟨c, hc⟩ | ⟨c, hc⟩
   ·exact hnot c (hUmu _ hc)
   ·exact hnot c (hUgo _ hc)
  ·rcases hUin _ _ hc with h | h | h | h | h
   ·obtain ⟨d, -, e, -⟩ := hdk _ _ h
    exact absurd e.symm kT_ne_kR
   ·rcases hkres _ _ h with ⟨r', y, m, h1, h2, rfl⟩ | ⟨h1, -⟩
    ·obtain rfl := kR_inj h2
     exact .inl ⟨hnewroot r _ hc h1, _, _, _, _, rfl⟩
    ·exact absurd h1.symm kB_ne_kR
   ·rcases hkbu _ _ h with ⟨r', y, m, h1, h2, rfl⟩ | ⟨c0, ls0, ls, h1, -⟩
    ·obtain rfl := kR_inj h2
     exact .inl ⟨hnewroot r _ hc (by omega), _, _, _, _, rfl⟩
    ·exact absurd h1.symm kB_ne_kR
   ·obtain ⟨j, r', d, q, X, X0, m, ver, X', h1, h2, rfl, h3, -⟩ := hmurep _ _ h
    obtain rfl := kR_inj h2
    exact .inr (.inl ⟨_, _, _, _, _, h3, rfl⟩)
   ·obtain ⟨r', h1, rfl⟩ := goneOuts_mem h
    exact .inr (.inr (.inl ⟨_, _, _, _, rfl, by simp, by simp⟩))
  ·have hb : G2.own b = .slc r p := hb
   simp only [G2, backG] at hb
   split at hb
   ·cases e : G.own b with
    | slc r' p' =>
     rw [e] at hb
     simp only [keepOwn] at hb
     split at hb
     ·cases hb
     ·split at hb
      ·split at hb
       ·exact hb
       ·cases hb
      ·exact hb
     ·exact hb
    | _ => rw [e] at hb; simp [keepOwn] at hb
   ·cases e : G'.own b with
    | slc t p' =>
     rw [e] at hb
     simp only [backOwn] at hb
     split at hb
     ·split at hb
      ·cases hb
      ·split at hb
       ·rename_i hlt
        injection hb with e1 e2
        have := hf.nr r (by omega) (by omega)
        rw [this] at hkz; cases hkz
       ·cases hb
     ·split at hb
      ·rename_i r' d q X hmuj
       injection hb with e1 e2
       subst e1
       have hm := (List.mem_filter.1 (List.mem_of_getElem? hmuj)).1
       obtain ⟨m', ver', u', h1, -⟩ := hrtok _ hm
       rw [h1] at hkz; cases hkz
      ·cases hb
    | box β =>
     rw [e] at hb
     simp only [backOwn] at hb
     split at hb <;> cases hb
    | _ => rw [e] at hb; simp [backOwn] at hb
  ·show (if nr <= r /\ r < nr + maxRoots then _ else G.hdr r) = _
   rw [if_neg]
   rintro ⟨h1, h2⟩
   rw [hf.nr r h1 h2] at hr
   cases hr
  ·show (if b = nb then adn else G.bx b) = _
   rw [if_neg]
   intro e
   rw [e, hf.nb] at hb
   cases hb
 have hsome : ∀ k c, (k, c) ∈ U -> (upds σ U k).isSome := fun k c hc => upds_some _ _ _ (.inr ⟨c, hc⟩)
 have huin : ∀ l : List (Nat × Cont), (∀ z ∈ l, z ∈ U) -> UIn (upds σ U) nr l := fun l hl k c hc => by
  refine ⟨hsome k c (hl _ hc), fun q e => ?_⟩
  have := hkin _ _ (hl _ hc)
  rw [e] at this
  have := keyIn_root this
  omega
 have hval' : ∀ i, i < ds.length -> (Atom.v (y0 + i)).val ρ = ds.getD i .undef := fun i hi => by
  rw [List.getD_eq_getElem?_getD, List.getElem?_eq_getElem hi, Option.getD_some]
  exact hval i _ (List.getElem?_eq_getElem hi)
 have A : Aft E F σ (upds σ U) ρ a w G s Z G' w' y0 ds := by
  refine ⟨B, hval', fun z hz => hfr.known _ _ ?_⟩
  obtain ⟨m, x, hx⟩ := hdeps z hz
  exact ⟨x, m, z.2, .live, hx, fun _ => Nat.le_refl _⟩
 have hgdb : (!noG g) = false \/ bxCount s.results = 0 := by
  rcases hgd with h | h
  ·exact .inl (by rw [h]; rfl)
  ·exact .inr h.1
 have hres2 := resAll_rep A (gd := !noG g) (nb := nb) (nr := nr) (hs := hs) (adn := adn) (i := 0) (q := 0) hres' (by omega) (hchk.imp id fun h m y hm => h m y (List.mem_append_left _ (List.mem_append_left _ hm)))
  hgdb (fun j x hj => by
   rw [Nat.zero_add]
   show (owR w' s.results us' ++ _)[j]? = some x
   rw [List.getElem?_append_left (List.getElem?_eq_some_iff.1 hj).1]
   exact hj) (fun ad had => by
   have hl := bxAdR_len s.results us'
   show ad = (bxAdR s.results us').headD _
   match hb : bxAdR s.results us', had with
   | [x], had => simpa using had
   | x :: y :: l, had => rw [hb] at hl; simp at hl; omega) (by
   rw [Nat.add_zero, Nat.add_zero, hres]
   exact huin us hUus)
 rw [Nat.add_zero, Nat.add_zero, hres] at hres2
 dsimp only at hres2
 obtain ⟨-, hq1, htup, huok⟩ := hres2
 have hmslen : (muDepths (s.params.flatMap (·.2))).length = (Z.rts.filter isMu).length := by rw [<- hms]; simp
 rw [hmslen] at hboxes
 have hbu2 := boxOuts_rep A (gd := !noG g) (nb := nb) (nr := nr) (hs := hs) (adn := adn) hf.nb (bs := s.boxes) (b := 0) (i := resCount s.results + (Z.rts.filter isMu).length) (q := qR s.results) (bu := bu) (by simp)
  (by rw [<- Nat.add_assoc]; exact hbu) hboxes (by omega) (hchk.imp id fun h m y hm => h m y (List.mem_append_right _ (by rw [Nat.add_assoc]; exact hm)))
  (by
   rcases hgd with h | ⟨-, olds, h⟩
   ·exact .inl (by rw [h]; rfl)
   ·exact .inr (boxAtoms_noOw h)) (fun j x hj => by
   show (owR w' s.results us' ++ owB w' (callG ρ G w s Z).bx 0 s.boxes)[qR s.results + j]? = some x
   rw [List.getElem?_append_right (by omega), hq1, Nat.add_sub_cancel_left]
   exact hj) (huin bu hUbu)
 obtain ⟨hbu3, hbu4⟩ := hbu2
 refine ⟨G2, hR.upd U hfr (by rw [put_size]; exact hR.tmps) (by rw [put_defers]; exact hR.defers) B.frame (fun t ht => ?_) (fun b ro ls hb hnot => ?_) (fun b ls hb hlt ho => ?_) (fun k c hc hc' => ?_)⟩
 ·rw [<- hU, dstL_keys] at ht
  exact tval_dst ht
 ·
  obtain ⟨h1, h2, h3⟩ := hR.box hb
  have hlt : (G.bx b).block < w.heap.size := by
   rcases Nat.lt_or_ge (G.bx b).block w.heap.size with h | h
   ·exact h
   ·rw [hR.frame.fresh _ h] at h2
    split at h2 <;> cases h2
  cases ro with
  | true =>
   simp only [if_true] at h2
   obtain ⟨h4, h5⟩ := B.oth (gd := !noG g) (nr := nr) (nb := nb) (hs := hs) (adn := adn) h2 hlt
   exact ⟨h4.trans h2.symm, h5⟩
  | false =>
   simp only [Bool.false_eq_true, if_false] at h2
   obtain ⟨h4, h5⟩ := B.boxes (gd := !noG g) (nr := nr) (nb := nb) (hs := hs) (adn := adn) h2 hlt
   refine ⟨h4.trans h2.symm, ?_⟩
   rcases h5 with h5 | ⟨j, cs, off, ls2, c0, c1, e, fr, e1, e2, e3, e4, -⟩
   ·exact h5
   ·exfalso
    have hm := boxesOf_mem (wr := false) (b := 0) e1 (by rw [Nat.zero_add]; exact e2)
    obtain ⟨x, hx⟩ := hbu4 b hm
    exact hnot x (hUbu _ hx)
 ·
  rcases hUin _ _ hb with h | h | h | h | h
  ·obtain ⟨d, -, e, -⟩ := hdk _ _ h
   exact absurd e.symm kT_ne_kB
  ·rcases huok _ _ h with ⟨q, m, i, e, -⟩ | ⟨e, ls', e2, hbr, hnb⟩
   ·exact absurd e kB_ne_kR
   ·exfalso
    have e := kB_inj e
    subst e
    refine hnb ⟨Nat.lt_of_lt_of_le hlt hR.frame.size, ?_⟩
    have h1 := (hR.frame.boxes _ _ hlt ho).1
    have h2 : (callG ρ G w s Z).own ((backG (!noG g) ρ G w s Z nr b G'.own hs adn).bx b).block = .oth \/ ∃ j, (callG ρ G w s Z).own ((backG (!noG g) ρ G w s Z nr b G'.own hs adn).bx b).block = .box j := by
     have h1' : G.own ((backG (!noG g) ρ G w s Z nr b G'.own hs adn).bx b).block = .box b := h1
     simp only [callG, h1']
     split
     ·split
      ·exact .inr ⟨_, rfl⟩
      ·exact .inl rfl
     ·exact .inl rfl
    rcases h2 with h2 | ⟨j, h2⟩ <;> rw [h2] <;> rfl
  ·rcases hbu3 _ _ h with ⟨q, m, i, e, -⟩ | ⟨c0, ls0, ls', e, h1, h2, h3, -⟩
   ·exact absurd e kB_ne_kR
   ·obtain rfl := kB_inj e
    injection h2 with e1 e2
    have hbn : G2.bx b = G.bx b := hfr.bx b (by rw [h1]; rfl)
    rw [hbn] at hlt ho ⊢
    rw [hR.rng b ls0 h1 hlt ho, e2, h3]
  ·obtain ⟨j, r', d, q, X, X0, m, ver, X', h1, h2, -⟩ := hmurep _ _ h
   exact absurd h2 kB_ne_kR
  ·obtain ⟨r', h1, -⟩ := goneOuts_mem h
   exact absurd h1 kB_ne_kR
 ·rcases hUin _ _ hc with h | h | h | h | h
  ·obtain ⟨d, hd', rfl, rfl⟩ := hdk _ _ h
   refine ⟨d, rfl, fun _ => ?_⟩
   rw [hd', tval_put_eq _ _ _ _ _ (hd d hd') hR.tmps]
   exact resSV_rep hg htup
  ·rcases huok _ _ h with ⟨q, m, i, rfl, rfl, hrp⟩ | ⟨rfl, ls', rfl, hbr, -⟩
   ·exact ⟨nr + q, rfl, by rw [hc']; rfl, hrp⟩
   ·exact ⟨nb, rfl, hbr⟩
  ·rcases hbu3 _ _ h with ⟨q, m, i, rfl, rfl, hrp⟩ | ⟨c0, ls0, ls', rfl, h1, rfl, h3, h4⟩
   ·exact ⟨nr + q, rfl, by rw [hc']; rfl, hrp⟩
   ·refine ⟨c0, rfl, h4 fun j l hj => ?_⟩
    obtain ⟨-, -, hcells⟩ := hR.box h1
    obtain ⟨v, hv1, hv2, hv3⟩ := hcells j l hj
    exact ⟨v, hv1, fun hl => LeafRep.mono hfr l v hl⟩
  ·obtain ⟨j, r', d, q, X, X0, m, ver, X', h1, rfl, rfl, h3, hfd, h4⟩ := hmurep _ _ h
   refine ⟨r', rfl, by rw [hc']; rfl, ?_⟩
   show Rp G2.own w' r' [] m (G2.hdr r') (X'.val ρ)
   have hhd : G2.hdr r' = G.hdr r' := hfr.hdr r' (by rw [h3]; rfl)
   rw [hhd]
   have hjlt := (List.getElem?_eq_some_iff.1 h1).1
   have hidx : j < (idxMu 0 Z.rts).length := by rw [idxMu_len]; exact hjlt
   have hν := List.getElem?_eq_getElem hidx
   obtain ⟨x, hx1, -, hx2⟩ := idxMu_get hν
   rw [h1] at hx1
   obtain rfl := Option.some.inj hx1
   rw [Nat.sub_zero] at hx2
   have hd0 : (muDepths (s.params.flatMap (·.2)))[j]? = some d := by
    rw [<- hms, List.getElem?_map, h1]; rfl
   have hfin := FinMus_get hmus hd0
   rw [Nat.zero_add] at hfin
   have hy : (Atom.v (y0 + resCount s.results + j)).val ρ = ds.getD (resCount s.results + j) .undef := by
    rw [Nat.add_assoc]
    exact hval' _ (by omega)
   rw [<- hy] at hfin
   have hgh : (callF s (callG ρ G w s Z) w).gh j = nestV w (G.hdr r') (pathVal ρ q) := by
    simp only [callF, ghVals, List.getD_eq_getElem?_getD]
    rw [<- hmr, List.getElem?_append_left (by simpa using hidx), List.getElem?_map, hν]
    simp only [Option.map_some, Option.getD_some]
    rw [callG_hdr hx2]
    rfl
   rw [hgh] at hfin
   refine B.mu h3 hfd hx2 h1 (fun u' hn => nest_nestV hn) hfin (hchk.imp id fun hc => ?_) h4
   have hmem : ∀ (rts : List RT) (y j : Nat) (r d : Nat) (q : List (Atom × Nat × Nat)) (X : Atom), (rts.filter isMu)[j]? = some (RT.mu r d q X) -> Step.prim (.dep d) [.v (y + j)] 0 ∈ chkM y rts := by
    intro rts
    induction rts with
    | nil => intro y j r d q X h; simp at h
    | cons x t ih =>
     intro y j r d q X h
     cases x with
     | nil => exact ih y j r d q X (by simpa [isMu, List.filter_cons] using h)
     | own _ _ => exact ih y j r d q X (by simpa [isMu, List.filter_cons] using h)
     | mu r' d' q' X' =>
      simp only [chkM]
      cases j with
      | zero =>
       simp [isMu, List.filter_cons] at h
       rw [h.2.1]
       exact List.mem_cons_self
      | succ j =>
       have := ih (y + 1) j r d q X (by simpa [isMu, List.filter_cons] using h)
       rw [show y + 1 + j = y + (j + 1) by omega] at this
       exact List.mem_cons_of_mem _ this
   exact hc d _ (List.mem_append_left _ (List.mem_append_right _ (hmem _ _ _ _ _ _ _ h1)))
  ·obtain ⟨r', rfl, rfl⟩ := goneOuts_mem h
   exact ⟨r', rfl, by rw [hc']; rfl, trivial⟩
end
end Go.Proofs.YtdpfilpckndhcaaGreatDoor.Rf

namespace Go.Proofs.YtdpfilpckndhcaaGreatDoor.Rf
set_option linter.unusedVariables false
set_option linter.unusedSimpArgs false
theorem chkCells_n : ∀ (cs : List BO) (y : Nat), stepsN (chkCells y cs) = 0
 | [], y => rfl
 | t :: cs, y => by cases t <;> simp only [chkCells, stepsN_cons, Step.n, chkCells_n cs]
theorem chkL_n : ∀ (ss : List LR) (y : Nat), stepsN (chkL y ss) = 0
 | [], y => rfl
 | t :: ss, y => by cases t <;> simp only [chkL, stepsN_cons, stepsN_append, Step.n, chkCells_n, chkL_n ss]
theorem chkR_n : ∀ (rs : List (Bool × List LR)) (y : Nat), stepsN (chkR y rs) = 0
 | [], y => rfl
 | (a, ss) :: rs, y => by simp only [chkR, stepsN_append, chkL_n, chkR_n rs]
theorem chkM_n : ∀ (ts : List RT) (y : Nat), stepsN (chkM y ts) = 0
 | [], y => rfl
 | t :: ts, y => by cases t <;> simp only [chkM, stepsN_cons, Step.n, chkM_n ts]
theorem chkB_n : ∀ (bs : List (Bool × List (BS × BO))) (y : Nat), stepsN (chkB y bs) = 0
 | [], y => rfl
 | (ro, cs) :: bs, y => by cases ro <;> simp only [chkB, cond_true, cond_false, stepsN_append, chkCells_n, chkB_n bs]
theorem fitOk_of {ρ : List D} {g : Option (Atom × Bool)} {cf : Nat -> List D -> Option (List D)} (hg : gOn ρ g = true) : ∀ {l : List Step} {nv : Nat}, StepsOk cf ρ g nv l -> FitOk ρ l
 | [], nv, h => fun m y hm => by simp at hm
 | t :: l, nv, h => fun m y hm => by
  rcases List.mem_cons.1 hm with e | hm
  ·subst e
   obtain ⟨ds, h1, -, -⟩ := h.1.1 hg
   simp only [List.map_cons, List.map_nil, Prim.run] at h1
   split at h1
   ·rename_i hf; exact hf
   ·cases h1
  ·exact fitOk_of hg h.2 m y hm
theorem resAll_gd {deps : List (Nat × Nat)} {nb : Nat} : ∀ (rs : List (Bool × List LR)) (y n : Nat), bxCount rs = 0 -> (resAll true deps nb y n rs).2.1 = []
 | [], y, n, _ => rfl
 | (a, ss) :: rs, y, n, h => by
  simp only [bxCount] at h
  have hl : ∀ (ss : List LR) (y n : Nat), bxL ss = 0 -> (resLeaves true deps nb y n ss).2.1 = [] := by
   intro ss
   induction ss with
   | nil => intro y n _; rfl
   | cons t ss ih =>
    intro y n h
    cases t with
    | bx cs => simp [bxL] at h
    | _ => simp only [resLeaves, resLeaf, cond_true, List.nil_append]; exact ih _ _ (by simpa [bxL] using h)
  simp only [resAll, hl ss y n (by omega), List.nil_append]
  exact resAll_gd rs _ _ (by omega)
theorem resAll_one {gd : Bool} {deps : List (Nat × Nat)} {nb y n : Nat} {rs : List (Bool × List LR)} {l : Leaf} (h : (resAll gd deps nb y n rs).1 = [(false, [l])]) : (∀ g x, l ≠ .su g x) /\ ∀ x, l = .sc x -> x = .v y /\ 1 <= resCount rs := by
 match rs, h with
 | [], h => simp [resAll] at h
 | (a, ss) :: r :: rs, h => simp [resAll] at h
 | [(a, ss)], h =>
  simp only [resAll, List.cons.injEq, Prod.mk.injEq, and_true] at h
  obtain ⟨-, h⟩ := h
  match ss, h with
  | [], h => simp [resLeaves] at h
  | t :: t' :: ss, h => simp [resLeaves] at h
  | [t], h =>
   simp only [resLeaves, List.cons.injEq, and_true] at h
   subst h
   cases t with
   | sc => exact ⟨fun g x e => by simp [resLeaf] at e, fun x e => by simp [resLeaf] at e; exact ⟨e.symm, by simp [resCount, lrCount, LR.n]⟩⟩
   | ow m => cases gd <;> exact ⟨fun g x e => by simp [resLeaf] at e, fun x e => by simp [resLeaf] at e⟩
   | _ => exact ⟨fun g x e => by simp [resLeaf] at e, fun x e => by simp [resLeaf] at e⟩
theorem resSV_off {σ : Nat -> Option Cont} {ρ : List D} {G : Gh} {w : World} {z : Atom × Bool} (hg : gOn ρ (some z) = false) {gd : Bool} {deps : List (Nat × Nat)} {nb y n : Nat} {rs0 : List (Bool × List LR)} {rs : List (Bool × List Leaf)}
  (hrs : (resAll gd deps nb y n rs0).1 = rs) (hv : 1 <= resCount rs0 -> (Atom.v y).val ρ = .undef) (h : gOn ρ (resG (some z) (resSV (some z) rs)) = true) : SVRep σ ρ G w (resSV (some z) rs) undef := by
 unfold resSV at h ⊢
 split at h
 ·rename_i x
  obtain ⟨h1, h2⟩ := (resAll_one hrs).2 x rfl
  subst h1
  simp only [mkS, SVRep, LeafRep]
  exact ⟨.inr ⟨trivial, hv h2⟩, fun e => by rw [hg] at e; cases e⟩
 ·rename_i l hne
  have hns := (resAll_one hrs).1
  exfalso
  revert h hns
  cases l with
  | su g' x' => exact fun _ hns => hns g' x' rfl
  | _ => intro e _; simp only [resG] at e; rw [hg] at e; cases e
 ·simp only [resG] at h; rw [hg] at h; cases h
 ·simp only [resG] at h; rw [hg] at h; cases h
section
variable {P : Program} {E : Env} {F : Frame0} {σ : Nat -> Option Cont} {ρ : List D} {a : Act} {w w' : World} {G : Gh} {g : Option (Atom × Bool)} {cf : Nat -> List D -> Option (List D)} {o : Oper} {s : Sig} {T Z : Take} {nb nr y0 nvm : Nat}
theorem oldCells_rep (hR : R E.ntmps F σ ρ a w G) {σ' : Nat -> Option Cont} (hfr : Fr σ G w σ' G w) {deps : List (Nat × Nat)} (hkn : ∀ z ∈ deps, knownR σ z.1 z.2) : ∀ {cs : List (BS × BO)} {ls : List Leaf} {xs : List Atom} {y n : Nat}, (oldCells cs ls).eval σ = some xs ->
  (∀ j x, xs[j]? = some x -> (Atom.v (y + j)).val ρ = x.val ρ) -> (∀ (j : Nat) (nie : Bool) (o : BO) (l : Leaf), cs[j]? = some (BS.fz nie, o) -> ls[j]? = some l -> ∃ r, (rdSl l).eval σ = some r /\ ∀ z ∈ r.deps, z ∈ deps) ->
  xs.length = cs.length /\ (boCells deps y n (cs.map (·.2))).2.1 = [] /\ (boCells deps y n (cs.map (·.2))).1.length = cs.length /\
  ∀ (j : Nat) (l l0 : Leaf) (v : Value), (boCells deps y n (cs.map (·.2))).1[j]? = some l -> ls[j]? = some l0 -> LeafRep σ ρ G w l0 v -> LeafRep σ' ρ G w l v
 | [], ls, xs, y, n, h, _, _ => by
  simp only [oldCells, eval_ret, Option.some.injEq] at h
  subst h
  exact ⟨rfl, rfl, rfl, by simp [boCells]⟩
 | _ :: _, [], xs, y, n, h, _, _ => by simp [oldCells, eval_no] at h
 | (t, o) :: cs, l0 :: ls, xs, y, n, h, hx, hz => by
  simp only [oldCells, eval_bind, Option.bind_eq_some_iff, eval_ret, Option.some.injEq] at h
  obtain ⟨x, h1, r, h2, rfl⟩ := h
  have hx0 : (Atom.v y).val ρ = x.val ρ := by have := hx 0 x rfl; rwa [Nat.add_zero] at this
  have key : (boLeaf deps y n o).2.1 = [] /\ ∀ v, LeafRep σ ρ G w l0 v -> LeafRep σ' ρ G w (boLeaf deps y n o).1 v := by
   split at h1
   ·rename_i x'
    simp only [eval_ret, Option.some.injEq] at h1
    subst h1
    refine ⟨rfl, fun v hv => ?_⟩
    simp only [boLeaf, LeafRep] at hv ⊢
    rw [hx0]; exact hv
   ·rename_i _ nie
    simp only [eval_bind, Option.bind_eq_some_iff, eval_ret, Option.some.injEq] at h1
    obtain ⟨sl, h3, rfl⟩ := h1
    refine ⟨rfl, fun v hv => ?_⟩
    obtain ⟨sl', h4, h5⟩ := hz 0 nie .fz _ rfl rfl
    rw [h3] at h4
    obtain rfl := Option.some.inj h4
    have hs := rdSl_rep hR h3 hv
    have hone : v.oneCell' = true := hv.one (by cases l0 <;> first | rfl | cases h3)
    have hl : LeafRep σ ρ G w (.sn deps .no false (.v y)) v := by
     simp only [LeafRep]
     refine ⟨⟨hone, hkn⟩, fun _ => ⟨?_, fun e => absurd e (by decide), trivial⟩⟩
     rw [hx0]
     refine hs.rd.mono fun b hb => ⟨?_, rfl⟩
     rcases hb with hb | ⟨r, k, p, hm, hb⟩
     ·exact .inl hb
     ·exact .inr ⟨r, k, p, h5 _ hm, hb⟩
    exact LeafRep.mono hfr _ v hl
   ·rw [eval_bif] at h1
    split at h1
    ·rename_i hs
     simp only [eval_ret, Option.some.injEq] at h1
     refine ⟨rfl, fun v hv => ?_⟩
     simp only [boLeaf, LeafRep]
     exact hv.one hs
    ·cases h1
   ·cases h1
  obtain ⟨h3, h4, h5, h6⟩ := oldCells_rep hR hfr hkn (cs := cs) (y := y + 1) (n := (boLeaf deps y n o).2.2) h2 (fun j x hj => by
   have := hx (j + 1) x (by simpa using hj)
   rwa [show y + (j + 1) = y + 1 + j by omega] at this) (fun j nie o' l hj hl => hz (j + 1) nie o' l (by simpa using hj) (by simpa using hl))
  refine ⟨by simp [h3], by simp only [List.map_cons, boCells, key.1, List.nil_append]; exact h4, by simp only [List.map_cons, boCells, List.length_cons]; rw [h5], fun j l l1 v hj hl hv => ?_⟩
  simp only [List.map_cons, boCells] at hj
  cases j with
  | zero =>
   simp only [List.getElem?_cons_zero, Option.some.injEq] at hj hl
   subst hj hl
   exact key.2 v hv
  | succ j => exact h6 j l l1 v (by simpa using hj) (by simpa using hl) hv
theorem takeCells_fz : ∀ {ss : List (BS × BO)} {ls : List Leaf} {A B : Take}, (takeCells A ss ls).eval σ = some B -> ∀ (j : Nat) (nie : Bool) (o : BO) (l : Leaf), ss[j]? = some (BS.fz nie, o) -> ls[j]? = some l -> ∃ r, (rdSl l).eval σ = some r /\ ∀ z ∈ r.deps, z ∈ B.deps
 | [], ls, A, B, h, j, nie, o, l, hj, _ => by simp at hj
 | _ :: _, [], A, B, h, _, _, _, _, _, _ => by simp [takeCells, eval_no] at h
 | (t, o) :: ss, l0 :: ls, A, B, h, j, nie, o', l, hj, hl => by
  simp only [takeCells, eval_bind, Option.bind_eq_some_iff] at h
  obtain ⟨C, h1, h2⟩ := h
  cases j with
  | zero =>
   simp only [List.getElem?_cons_zero, Option.some.injEq, Prod.mk.injEq] at hj hl
   obtain ⟨rfl, rfl⟩ := hj
   subst hl
   have h3 : (takeFz A nie l0).eval σ = some C := by
    have hinv := takeCell_inv h1
    clear h1
    rcases hinv with ⟨x, e, -⟩ | ⟨nie', e, h⟩ | ⟨d, e, -⟩ | ⟨e, -⟩
    ·cases e
    ·injection e with e; subst e; exact h
    ·cases e
    ·cases e
   unfold takeFz at h3
   simp only [eval_bind, Option.bind_eq_some_iff, eval_ret, Option.some.injEq] at h3
   obtain ⟨sl, h4, rfl⟩ := h3
   exact ⟨sl, h4, fun z hz => (takeCells_le h2).1.deps z (List.mem_append_right _ hz)⟩
  | succ j => exact takeCells_fz h2 j nie o' l (by simpa using hj) (by simpa using hl)
theorem takeBoxes_fz {ptrs : List (Nat × Nat × Nat)} : ∀ {bs : List (Bool × List (BS × BO))} {b : Nat} {A B : Take}, (takeBoxes ptrs A b bs).eval σ = some B -> ∀ (i : Nat) (ro : Bool) (cs : List (BS × BO)), bs[i]? = some (ro, cs) ->
  ∃ c off ro' ls, ptrOf (b + i) ptrs = some (c, off) /\ σ (kB c) = some (.box ro' ls) /\ off + cs.length <= ls.length /\ ∀ (j : Nat) (nie : Bool) (o : BO) (l : Leaf), cs[j]? = some (BS.fz nie, o) -> (ls.drop off)[j]? = some l -> ∃ r, (rdSl l).eval σ = some r /\ ∀ z ∈ r.deps, z ∈ B.deps
 | [], b, A, B, h, i, ro, cs, hi => by simp at hi
 | (ro0, cs0) :: bs, b, A, B, h, i, ro, cs, hi => by
  simp only [takeBoxes] at h
  split at h
  case h_2 => cases h
  rename_i c off hp
  simp only [eval_bind, eval_rdK, Option.bind_some] at h
  split at h
  case h_2 => cases h
  rename_i ro' ls hkb
  simp only [eval_bind, eval_guardR, Option.bind_eq_some_iff] at h
  obtain ⟨_, h0, C, h1, h2⟩ := h
  split at h0
  case isFalse => cases h0
  rename_i hb
  simp only [Bool.and_eq_true, Nat.ble_eq] at hb
  cases i with
  | zero =>
   simp only [List.getElem?_cons_zero, Option.some.injEq, Prod.mk.injEq] at hi
   obtain ⟨rfl, rfl⟩ := hi
   refine ⟨c, off, ro', ls, hp, hkb, hb.2, fun j nie o l hj hl => ?_⟩
   obtain ⟨r, h3, h4⟩ := takeCells_fz h1 j nie o l hj hl
   exact ⟨r, h3, fun z hz => (takeBoxes_le h2).1.deps z (h4 z hz)⟩
  | succ i =>
   obtain ⟨c', off', ro'', ls', h3, h4, h5, h6⟩ := takeBoxes_fz h2 i ro cs (by simpa using hi)
   exact ⟨c', off', ro'', ls', by rw [show b + (i + 1) = b + 1 + i by omega]; exact h3, h4, h5, h6⟩
theorem boxOuts_off (hR : R E.ntmps F σ ρ a w G) {deps : List (Nat × Nat)} (hkn : ∀ z ∈ deps, knownR σ z.1 z.2) {ptrs : List (Nat × Nat × Nat)} : ∀ {bs : List (Bool × List (BS × BO))} {b y n : Nat} {bu : List (Nat × Cont)} {xs : List Atom},
  (boxOuts ptrs deps b y n bs).eval σ = some bu -> (boxAtoms ptrs b bs).eval σ = some xs -> (∀ j x, xs[j]? = some x -> (Atom.v (y + j)).val ρ = x.val ρ) ->
  (∀ (i : Nat) (ro : Bool) (cs : List (BS × BO)), bs[i]? = some (ro, cs) -> ∃ c off ro' ls, ptrOf (b + i) ptrs = some (c, off) /\ σ (kB c) = some (.box ro' ls) /\ off + cs.length <= ls.length /\ ∀ (j : Nat) (nie : Bool) (o : BO) (l : Leaf), cs[j]? = some (BS.fz nie, o) -> (ls.drop off)[j]? = some l -> ∃ r, (rdSl l).eval σ = some r /\ ∀ z ∈ r.deps, z ∈ deps) ->
  xs.length = countOuts bs /\ ∀ k c, (k, c) ∈ bu -> ∃ (c0 : Nat) (ls0 ls : List Leaf), k = kB c0 /\ σ (kB c0) = some (.box false ls0) /\ c = .box false ls /\ ls.length = ls0.length /\ ∀ (σ' : Nat -> Option Cont), Fr σ G w σ' G w -> ∀ (j : Nat) (l l0 : Leaf) (v : Value), ls[j]? = some l -> ls0[j]? = some l0 -> LeafRep σ ρ G w l0 v -> LeafRep σ' ρ G w l v
 | [], b, y, n, bu, xs, h, hx, _, _ => by
  simp only [boxOuts, eval_ret, Option.some.injEq] at h
  simp only [boxAtoms, eval_ret, Option.some.injEq] at hx
  subst h hx
  exact ⟨rfl, by simp⟩
 | (ro, cs) :: bs, b, y, n, bu, xs, h, hx, hv, hz => by
  have hz' : ∀ (i : Nat) (ro : Bool) (cs : List (BS × BO)), bs[i]? = some (ro, cs) -> ∃ c off ro' ls, ptrOf (b + 1 + i) ptrs = some (c, off) /\ σ (kB c) = some (.box ro' ls) /\ off + cs.length <= ls.length /\ ∀ (j : Nat) (nie : Bool) (o : BO) (l : Leaf), cs[j]? = some (BS.fz nie, o) -> (ls.drop off)[j]? = some l -> ∃ r, (rdSl l).eval σ = some r /\ ∀ z ∈ r.deps, z ∈ deps := fun i ro cs hi => by
   have := hz (i + 1) ro cs (by simpa using hi)
   rwa [show b + (i + 1) = b + 1 + i by omega] at this
  simp only [boxOuts] at h
  simp only [boxAtoms] at hx
  cases ro with
  | true =>
   simp only [cond_true] at h hx
   obtain ⟨h1, h2⟩ := boxOuts_off hR hkn h hx hv hz'
   exact ⟨by rw [h1]; simp only [countOuts, cond_true, Nat.zero_add], h2⟩
  | false =>
   simp only [cond_false] at h hx
   obtain ⟨c, off, ro', ls0, e1, e2, e3, e4⟩ := hz 0 false cs rfl
   rw [Nat.add_zero] at e1
   rw [e1] at h hx
   simp only [eval_bind, eval_rdK, Option.bind_some] at h hx
   rw [e2] at h hx
   cases ro' with
   | true => simp [eval_no] at h
   | false =>
    simp only [eval_bind, Option.bind_eq_some_iff, eval_ret, Option.some.injEq] at h hx
    obtain ⟨rest, h1, rfl⟩ := h
    obtain ⟨l1, h2, m1, h3, rfl⟩ := hx
    have hold := fun σ' (hfr : Fr σ G w σ' G w) => oldCells_rep (E := E) (F := F) (a := a) hR hfr hkn (cs := cs) (ls := ls0.drop off) (y := y) (n := n) h2 (fun j x hj => hv j x (by rw [List.getElem?_append_left (List.getElem?_eq_some_iff.1 hj).1]; exact hj)) e4
    obtain ⟨h4, h5, h6, -⟩ := hold σ (Fr.same σ G w [] (by simp))
    obtain ⟨h7, h8⟩ := boxOuts_off hR hkn h1 h3 (fun j x hj => by
     have := hv (cs.length + j) x (by rw [List.getElem?_append_right (by omega), h4, Nat.add_sub_cancel_left]; exact hj)
     rwa [<- Nat.add_assoc] at this) hz'
    refine ⟨by rw [List.length_append, h4, h7]; simp only [countOuts, cond_false], fun k x hkx => ?_⟩
    rw [h5] at hkx
    simp only [List.cons_append, List.nil_append] at hkx
    rcases List.mem_cons.1 hkx with hkx | hkx
    ·obtain ⟨rfl, rfl⟩ := Prod.mk.inj hkx
     refine ⟨c, ls0, _, rfl, e2, rfl, setRange_len (by rw [h6]; exact e3), fun σ' hfr j l l0 v hj hl0 hlv => ?_⟩
     rw [setRange_get (by rw [h6]; exact e3)] at hj
     split at hj
     ·rename_i hr
      refine (hold σ' hfr).2.2.2 (j - off) l l0 v hj ?_ hlv
      rw [List.getElem?_drop, show off + (j - off) = j by omega]
      exact hl0
     ·rw [hl0] at hj
      obtain rfl := Option.some.inj hj
      exact LeafRep.mono hfr _ v hlv
    ·exact h8 k x hkx
theorem call_off (hR : R E.ntmps F σ ρ a w G) (hg : gOn ρ g = false) (hd : DstOk E.ntmps o) (hZdeps : ∀ z ∈ Z.deps, liveS σ z.1 z.2) (hrts : Z.rts = []) (hbx0 : bxCount s.results = 0)
  (hZ : (takeBoxes T.ptrs T 0 s.boxes).eval σ = some Z) {olds : List Atom} (hold : (boxAtoms Z.ptrs 0 s.boxes).eval σ = some olds)
  {rs : List (Bool × List Leaf)} {us bu : List (Nat × Cont)} {nr1 : Nat} (hres : resAll true Z.deps nb y0 nr s.results = (rs, us, nr1)) (hgn : noG g = false)
  (hbu : (boxOuts Z.ptrs Z.deps 0 (y0 + resCount s.results) nr1 s.boxes).eval σ = some bu)
  (hval : ∀ j d, (List.replicate (resCount s.results + countOuts s.boxes - olds.length) D.undef ++ olds.map (·.val ρ))[j]? = some d -> (Atom.v (y0 + j)).val ρ = d) :
  R E.ntmps F (upds σ (dstL o g rs ++ (us ++ bu))) ρ (a.put o.dst undef) w G := by
 have hus : us = [] := by
  have := resAll_gd (deps := Z.deps) (nb := nb) s.results y0 nr hbx0
  rw [hres] at this
  exact this
 subst hus
 rw [List.nil_append]
 obtain ⟨-, hptr, -⟩ := takeBoxes_le hZ
 have hkn : ∀ z ∈ Z.deps, knownR σ z.1 z.2 := fun z hz => by
  obtain ⟨m, x, hx⟩ := hZdeps z hz
  exact ⟨x, m, z.2, .live, hx, fun _ => Nat.le_refl _⟩
 have hfz := takeBoxes_fz hZ
 rw [<- hptr] at hfz
 have hlen0 : olds.length = countOuts s.boxes := by
  have hln : ∀ {bs : List (Bool × List (BS × BO))} {b : Nat} {xs : List Atom}, (boxAtoms Z.ptrs b bs).eval σ = some xs -> xs.length = countOuts bs := by
   intro bs
   induction bs with
   | nil => intro b xs h; simp only [boxAtoms, eval_ret, Option.some.injEq] at h; subst h; rfl
   | cons x bs ih =>
    intro b xs h
    obtain ⟨ro, cs⟩ := x
    simp only [boxAtoms] at h
    cases ro with
    | true => simp only [cond_true] at h; rw [ih h]; simp only [countOuts, cond_true, Nat.zero_add]
    | false =>
     simp only [cond_false] at h
     split at h
     case h_2 => cases h
     simp only [eval_bind, eval_rdK, Option.bind_some] at h
     split at h
     case h_2 => cases h
     simp only [eval_bind, Option.bind_eq_some_iff, eval_ret, Option.some.injEq] at h
     obtain ⟨l, h1, m, h2, rfl⟩ := h
     have hc : ∀ {cs : List (BS × BO)} {ls : List Leaf} {ys : List Atom}, (oldCells cs ls).eval σ = some ys -> ys.length = cs.length := by
      intro cs
      induction cs with
      | nil => intro ls ys h; simp only [oldCells, eval_ret, Option.some.injEq] at h; subst h; rfl
      | cons t cs ihc =>
       intro ls ys h
       obtain ⟨t1, t2⟩ := t
       cases ls with
       | nil => simp [oldCells, eval_no] at h
       | cons x ls =>
        simp only [oldCells, eval_bind, Option.bind_eq_some_iff, eval_ret, Option.some.injEq] at h
        obtain ⟨y, -, r, h4, rfl⟩ := h
        simp [ihc h4]
     rw [List.length_append, hc h1, ih h2]
     simp only [countOuts, cond_false]
  exact hln hold
 have hrep : resCount s.results + countOuts s.boxes - olds.length = resCount s.results := by omega
 rw [hrep] at hval
 obtain ⟨-, hboxes⟩ := boxOuts_off hR hkn hbu hold (fun j x hj => by
  rw [Nat.add_assoc]
  refine hval _ _ ?_
  rw [List.getElem?_append_right (by simp), List.length_replicate, Nat.add_sub_cancel_left, List.getElem?_map, hj]
  rfl) hfz
 have hdk : ∀ k c, (k, c) ∈ dstL o g rs -> ∃ d, o.dst = some d /\ k = kT d /\ c = .slot (resG g (resSV g rs)) (resSV g rs) := fun k c hc => by
  rw [dstL_keys] at hc
  exact dstUpd_mem hc
 have hnr : ∀ k c, (k, c) ∈ dstL o g rs ++ bu -> ∀ r, k ≠ kR r := by
  intro k c hc r
  rcases List.mem_append.1 hc with hc | hc
  ·obtain ⟨d, -, e, -⟩ := hdk _ _ hc
   rw [e]; exact kT_ne_kR
  ·obtain ⟨c0, ls0, ls, e, -⟩ := hboxes _ _ hc
   rw [e]; exact kB_ne_kR
 have hfr := Fr.nonroot σ G w (dstL o g rs ++ bu) hnr
 refine hR.upd _ hfr (by rw [put_size]; exact hR.tmps) (by rw [put_defers]; exact hR.defers) hR.frame (fun t ht => ?_) (fun _ _ _ _ _ => ⟨rfl, rfl⟩) (fun b ls hb hlt ho => ?_) (fun k c hc hc' => ?_)
 ·rw [dstL_keys] at ht
  exact tval_dst ht
 ·rcases List.mem_append.1 hb with hb | hb
  ·obtain ⟨d, -, e, -⟩ := hdk _ _ hb
   exact absurd e.symm kT_ne_kB
  ·obtain ⟨c0, ls0, ls', e, h1, h2, h3, -⟩ := hboxes _ _ hb
   obtain rfl := kB_inj e
   injection h2 with e1 e2
   rw [hR.rng b ls0 h1 hlt ho, e2, h3]
 ·rcases List.mem_append.1 hc with hc | hc
  ·obtain ⟨d, hd', rfl, rfl⟩ := hdk _ _ hc
   refine ⟨d, rfl, fun hgo => ?_⟩
   rw [hd', tval_put_eq _ _ _ _ _ (hd d hd') hR.tmps]
   have hrs : (resAll true Z.deps nb y0 nr s.results).1 = rs := by rw [hres]
   cases g with
   | none => simp [gOn] at hg
   | some z =>
    refine resSV_off hg hrs (fun hpos => ?_) hgo
    have := hval 0 .undef (by
     rw [List.getElem?_append_left (by simp; omega)]
     rw [List.getElem?_replicate, if_pos (by omega)])
    rwa [Nat.add_zero] at this
  ·obtain ⟨c0, ls0, ls, rfl, h1, rfl, h3, h4⟩ := hboxes _ _ hc
   obtain ⟨h5, h6, h7⟩ := hR.box h1
   refine ⟨c0, rfl, h5, h6, fun j l hj => ?_⟩
   have hlt : j < ls0.length := by rw [<- h3]; exact (List.getElem?_eq_some_iff.1 hj).1
   obtain ⟨v, h8, h9, h10⟩ := h7 j _ (List.getElem?_eq_getElem hlt)
   exact ⟨v, h8, h9, h4 _ hfr j l _ v hj (List.getElem?_eq_getElem hlt) h10⟩
end
end Go.Proofs.YtdpfilpckndhcaaGreatDoor.Rf

namespace Go.Proofs.YtdpfilpckndhcaaGreatDoor.Rf
set_option linter.unusedVariables false
set_option linter.unusedSimpArgs false
section
variable {P : Program} {E : Env} {F : Frame0} {σ : Nat -> Option Cont} {ρ : List D} {a : Act} {w : World} {G : Gh} {g : Option (Atom × Bool)} {o : Oper}
theorem svsRep_of : ∀ {vs : List SV} {us : List Value}, vs.length = us.length -> (∀ (i : Nat) (v : SV) (u : Value), vs[i]? = some v -> us[i]? = some u -> SVRep σ ρ G w v u) -> SVsRep σ ρ G w vs us
 | [], [], _, _ => rfl
 | [], _ :: _, h, _ => by simp at h
 | _ :: _, [], h, _ => by simp at h
 | v :: vs, u :: us, h, hr => ⟨u, us, rfl, hr 0 v u rfl rfl, svsRep_of (by simpa using h) fun i v' u' hv hu => hr (i + 1) v' u' (by simpa using hv) (by simpa using hu)⟩
theorem svsRep_append : ∀ {vs vs' : List SV} {us us' : List Value}, SVsRep σ ρ G w vs us -> SVsRep σ ρ G w vs' us' -> SVsRep σ ρ G w (vs ++ vs') (us ++ us')
 | [], vs', us, us', h, h' => by simp only [SVsRep] at h; subst h; exact h'
 | v :: vs, vs', us, us', h, h' => by
  obtain ⟨u, us2, rfl, h1, h2⟩ := h
  exact ⟨u, us2 ++ us', rfl, h1, svsRep_append h2 h'⟩
theorem svsRep_ones : ∀ {ls : List Leaf} {vs : List Value}, LeavesRep σ ρ G w ls vs -> SVsRep σ ρ G w (ls.map SV.one) vs
 | [], vs, h => by simp only [LeavesRep] at h; subst h; rfl
 | l :: ls, vs, h => by
  simp only [LeavesRep] at h
  obtain ⟨u, us, rfl, h1, h2⟩ := h
  exact ⟨u, us, rfl, h1, svsRep_ones h2⟩
theorem run_call {f : Operand} {args : Array Operand} {argTypes : Array TypeId} (ho : o.op = .call { callee := .value f, args, argTypes }) {fn : Nat} {vs : List Value} (hf : a.eval f = .func (.func fn) #[] vs.toArray) :
  (execOp a.eval o).run P w = (callFunc fn (args.toList.map a.eval ++ vs).toArray).run P w := by
 unfold execOp
 simp only [ho, resolve, hf, Deferred.ofValue, invoke, Sem.run_bind, Sem.run_pure, Result.andThen_ok]
 congr 2
 apply Array.ext'
 simp
theorem callsOkX {X : (Nat -> Ow) -> World -> Prop} {T : Nat -> Ent} {n : Nat} (hst : Stable X) (hX : X F.own0 F.w0) (hc : ∀ key s, (key, s) ∈ E.sigs -> ContractX P X T n key s) : CallsOk P E F (callN T n) := by
 intro σ ρ a w G g o Q mv mvs nv nb nr res f args argTypes hR hd hf ho h hkey hst0
 simp only [sxOp, ho, eval_bind, Option.bind_eq_some_iff] at h
 obtain ⟨l, h1, h⟩ := h
 split at h
 case h_2 => cases h
 rename_i fn caps
 simp only [eval_bind, Option.bind_eq_some_iff] at h
 obtain ⟨vs0, h2, h⟩ := h
 unfold sxCall at h
 split at h
 ·cases h
 rename_i key s hsig
 obtain ⟨hmem, hfn⟩ := findSig_mem hsig
 simp only [eval_bind, Option.bind_eq_some_iff, eval_guardR] at h
 obtain ⟨T1, hT, Z, hZ, _, hgd, h⟩ := h
 split at hgd
 case isFalse => cases hgd
 rename_i hb
 simp only [Bool.and_eq_true, Bool.or_eq_true, Nat.ble_eq, List.isEmpty_iff, Nat.beq_eq] at hb
 obtain ⟨⟨hok, hbx1⟩, hgd⟩ := hb
 have hk := takeOk_spec hok
 obtain ⟨bu, hbu, ⟨ml, mu⟩, hmu, olds, hold, h⟩ := h
 simp only [eval_ret, Option.some.injEq] at h
 subst h
 dsimp only at hkey hst0 ⊢
 generalize hres : resAll (!noG g) Z.deps nb (nv + stepsN Z.lets) nr s.results = res at hkey hst0 hbu ⊢
 obtain ⟨rs, us, nr1⟩ := res
 dsimp only at hkey hst hbu hmu ⊢
 refine ⟨fun hg => ?_, fun hg => ?_⟩
 ·
  obtain ⟨hst1, hml⟩ := StepsOk.append hst0
  obtain ⟨hst2, hchk⟩ := StepsOk.append hst1
  obtain ⟨hst3, hcall⟩ := StepsOk.append hst2
  obtain ⟨ds, hrun, hlen, hval⟩ := hcall.1.1 hg
  have hn : nv + stepsN (Z.lets ++ [Step.call key Z.xs (resCount s.results + (Z.rts.filter isMu).length + countOuts s.boxes) olds] ++ (bif Z.deps.isEmpty then [] else chkR (nv + stepsN Z.lets) s.results ++ chkM (nv + stepsN Z.lets + resCount s.results) Z.rts ++ chkB (nv + stepsN Z.lets + resCount s.results + (Z.rts.filter isMu).length) s.boxes)) = nv + stepsN Z.lets + (resCount s.results + (Z.rts.filter isMu).length + countOuts s.boxes) := by
   have e0 : stepsN (bif Z.deps.isEmpty then [] else chkR (nv + stepsN Z.lets) s.results ++ chkM (nv + stepsN Z.lets + resCount s.results) Z.rts ++ chkB (nv + stepsN Z.lets + resCount s.results + (Z.rts.filter isMu).length) s.boxes) = 0 := by
    cases Z.deps.isEmpty with
    | true => rfl
    | false => simp only [cond_false, stepsN_append, chkR_n, chkM_n, chkB_n]
   rw [stepsN_append, stepsN_append, e0]
   simp only [stepsN_cons, Step.n]
   show nv + (stepsN Z.lets + (_ + stepsN []) + 0) = _
   have : stepsN ([] : List Step) = 0 := rfl
   omega
  rw [hn] at hml
  have hv1 := rdL_rep hR hg h1
  simp only [LeafRep] at hv1
  obtain ⟨cvs, hcv, hcl⟩ := hv1
  obtain ⟨hl1, hl2⟩ := rdArgs_rep hR hg h2
  have hus : SVsRep σ ρ G w (vs0 ++ caps.map SV.one) (args.toList.map a.eval ++ cvs) := by
   refine svsRep_append (svsRep_of (by rw [hl1]; simp) fun i v u hv hu => ?_) (svsRep_ones hcl)
   rw [List.getElem?_map, Option.map_eq_some_iff] at hu
   obtain ⟨x, hx, rfl⟩ := hu
   exact hl2 i v x hv hx
  have hpre := call_pre hR hg hst3 hk hT hZ hus
  have hXc : X (callG ρ G w s Z).own w := hst _ _ _ _ hR.frame.size (fun b hb he => by
   have hkp := hR.frame.keep b hb (.inl he)
   exact ⟨hkp.1, callG_frz (hkp.2.trans he)⟩) hX
  have hgo := hc key s hmem _ w _ _ ds hpre hXc hrun
  have hchk' : Z.deps = [] \/ FitOk ρ (chkR (nv + stepsN Z.lets) s.results ++ chkM (nv + stepsN Z.lets + resCount s.results) Z.rts ++ chkB (nv + stepsN Z.lets + resCount s.results + (Z.rts.filter isMu).length) s.boxes) := by
   cases hde : Z.deps.isEmpty with
   | true => exact .inl (by simpa using hde)
   | false =>
    rw [hde, cond_false] at hchk
    exact .inr (fitOk_of hg hchk)
  have hgd' : noG g = true \/ (bxCount s.results = 0 /\ ∃ olds, (boxAtoms Z.ptrs 0 s.boxes).eval σ = some olds) := by
   cases g with
   | none => exact .inl rfl
   | some z => exact .inr ⟨(hgd.resolve_left (by simp [noG])).2, olds, hold⟩
  have hnx : ∀ v w', CPost s (callF s (callG ρ G w s Z) w) (callG ρ G w s Z).bx v w' ds -> Nx E.ntmps F σ ρ (dstL o g rs ++ (us ++ bu ++ mu ++ goneOuts Z.rts)) (a.put o.dst v) w' := by
   intro v w' hpost
   exact call_core hR hg hd hf hus hT hZ hk hbx1 hgd' hres hbu hmu hlen hval hchk' hml hkey hpost
  unfold Oper.wp
  rw [run_call ho hcv, <- hfn]
  rcases hgo with ⟨hr, hcalls⟩ | ⟨v, w', hr, hpost⟩
  ·rw [hr, Oper.upon_enter]
   refine Calls.mono hcalls fun e w' he => ?_
   cases e with
   | returned v => exact hnx v w' he
   | panicked c => exact he.elim
   | outgrown => exact he.elim
  ·rw [hr, Oper.upon_value]
   exact hnx v w' hpost
 ·
  have hgn : noG g = false := by
   cases g with
   | none => simp [gOn] at hg
   | some z => rfl
  have h5 := hgd.resolve_left (by rw [hgn]; simp)
  obtain ⟨hrts, hbx0⟩ := h5
  have hmu0 : mu = [] := by
   rw [hrts] at hmu
   simp only [muOuts, eval_ret, Option.some.injEq, Prod.mk.injEq] at hmu
   exact hmu.2.symm
  have hgo0 : goneOuts Z.rts = [] := by rw [hrts]; rfl
  have hf0 : (Z.rts.filter isMu).length = 0 := by rw [hrts]; rfl
  obtain ⟨hst1, hml⟩ := StepsOk.append hst0
  obtain ⟨hst2, hchk⟩ := StepsOk.append hst1
  obtain ⟨hst3, hcall⟩ := StepsOk.append hst2
  have hval := hcall.1.2 hg
  rw [hf0, Nat.add_zero] at hval hbu
  have hold' : (boxAtoms Z.ptrs 0 s.boxes).eval σ = some olds := by
   cases g with
   | none => cases hgn
   | some z => exact hold
  have hdeps : ∀ z ∈ Z.deps, liveS σ z.1 z.2 := by
   obtain ⟨rn, hn1, -, -⟩ := takeArgs_new (E := E) (F := F) (ρ := ρ) (a := a) (w := w) (G := G) False (fun h => h.elim) hT (fun h => h.elim)
   obtain ⟨rn', hn4, -⟩ := takeBoxes_new (ρ := ρ) (G := G) (w := w) hZ
   intro z hz
   rcases (hn1.trans hn4).deps z hz with h | h
   ·simp [Take.empty] at h
   ·exact h
  rw [hgn] at hres
  have := call_off hR hg hd hdeps hrts hbx0 hZ hold' hres hgn hbu hval
  refine ⟨G, ?_⟩
  show R E.ntmps F (upds σ (dstL o g rs ++ (us ++ bu ++ mu ++ goneOuts Z.rts))) ρ _ w G
  rw [hmu0, hgo0, List.append_nil, List.append_nil]
  exact this
end
end Go.Proofs.YtdpfilpckndhcaaGreatDoor.Rf
