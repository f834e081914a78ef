/- Terms for the program's functions, and that they are right: part 6 of 9. -/
import Derived.Test.YtpgnlmfmlffjcaaGreatRf5
open Bool renaming and_eq_true → Mby, false_eq_true → Mb6, not_eq_true' → Nbp, or_eq_true → Oba
open List renaming mem_append_left → Mbz, getElem?_eq_getElem → Mb0, mem_append_right → Mb1, getD_eq_getElem?_getD → Mb4, getElem?_cons_zero → Mb5, append_assoc → Mb7, mem_cons_of_mem → Mb8, mem_singleton → Mb9, length_map → Nbb, length_cons → Nbc, mem_of_getElem? → Nbe, mem_cons_self → Nbf, getElem?_append_right → Nbh, length_nil → Nbj, map_cons → Nbm, getElem?_map → Nbn, append_nil → Nbo, all_eq_true → Nbq, map_nil → Nbv, getElem?_drop → Nby, mem_cons → Nbz, getElem?_cons_succ → Nb2, nil_append → Nb5, mem_map_of_mem → Obn, getElem?_set → Obw, any_eq_false → Pbj
open Nat renaming le_refl → Nbd, lt_or_ge → Nbk, add_assoc → Nbl, add_zero → Nbs, zero_add → Nbt, beq_eq → Nbu, add_sub_cancel_left → Nbx, blt_eq → Nb6, ble_eq → Nb7, zero_le → Obu
open Option renaming bind_eq_some_iff → Mbx, bind_some → Mb3, map_some → Nb3, getD_some → Obt
set_option linter.unusedSimpArgs false
set_option linter.unusedVariables false
set_option linter.unnecessarySimpa false
set_option linter.unusedSectionVars false
namespace Go.Proofs.YtpgnlmfmlffjcaaGreat.Rf
set_option linter.unusedVariables false
set_option linter.unusedSimpArgs false
def LS.cnt : LS -> Nat
 | .px _ => 0
 | .clo _ _ => 0
 | _ => 1
def LS.rcnt : LS -> Nat
 | .mu _ => 1
 | .ow _ => 1
 | _ => 0
def Taq : List LS -> Nat
 | [] => 0
 | s :: ss => s.cnt + Taq ss
def iT : List LS -> Nat
 | [] => 0
 | s :: ss => s.rcnt + iT ss
def Iad : List (Bool × List LS) -> Nat
 | [] => 0
 | (_, ss) :: ps => Taq ss + Iad ps
def iD : List (Bool × List LS) -> Nat
 | [] => 0
 | (_, ss) :: ps => iT ss + iD ps
def BS.cnt : BS -> Nat
 | .ot => 0
 | _ => 1
def BS.rcnt : BS -> Nat
 | .ow _ => 1
 | _ => 0
def Xar : List (BS × BO) -> Nat
 | [] => 0
 | (s, _) :: ss => s.cnt + Xar ss
def tO : List (BS × BO) -> Nat
 | [] => 0
 | (s, _) :: ss => s.rcnt + tO ss
def Xas : List (Bool × List (BS × BO)) -> Nat
 | [] => 0
 | (_, cs) :: bs => Xar cs + Xas bs
def tQ : List (Bool × List (BS × BO)) -> Nat
 | [] => 0
 | (_, cs) :: bs => tO cs + tQ bs
section
variable (G : Gh) (w : World) (ρ : List D) (nbx : Nat)
def Xah (ok : Nat -> Prop) (w : World) (v : Value) (d : D) : Prop :=
 (v = .pointer none /\ ∃ z, d = .rows z []) \/ ∃ a row, v = .pointer (some a) /\ d = .rows row.length [row] /\ Rd ok w (.slice (some a) 1 1) (.rows row.length [row])
def vD : List LS -> List Value -> Prop
 | [], vs => vs = []
 | c :: cs, vs => ∃ u us, vs = u :: us /\ (match c with | .px b => u = .pointer (some (G.bx b)) /\ b < nbx | _ => u.oneCell' = true) /\ vD cs us
def jL (i nr : Nat) : LS -> Value -> Prop
 | .sc, v => Sc v ((aJ.v i).val ρ)
 | .fz nie, v => Rd (fun b => G.own b = .frz) w v ((aJ.v i).val ρ) /\ (nie = true -> ∀ z, (aJ.v i).val ρ = .rows z [] -> v = .slice none 0 0)
 | .mu m, v => v = G.hdr nr /\ Rp G.own w nr [] m v ((aJ.v i).val ρ)
 | .ow m, v => v = G.hdr nr /\ Rp G.own w nr [] m v ((aJ.v i).val ρ)
 | .px b, v => v = .pointer (some (G.bx b)) /\ b < nbx
 | .clo f cs, v => ∃ vs, v = .func (.func f) #[] vs.toArray /\ vD G nbx cs vs
 | .rp _, v => v.oneCell' = true /\ Xah (fun b => G.own b = .frz) w v ((aJ.v i).val ρ)
def pW : Nat -> Nat -> List LS -> List Value -> Prop
 | _, _, [], vs => vs = []
 | i, nr, s :: ss, vs => ∃ u us, vs = u :: us /\ jL G w ρ nbx i nr s u /\ pW (i + s.cnt) (nr + s.rcnt) ss us
def jC : Nat -> Nat -> List (Bool × List LS) -> List Value -> Prop
 | _, _, [], us => us = []
 | i, nr, (a, ss) :: ps, us => ∃ u us' vs, us = u :: us' /\ pW G w ρ nbx i nr ss vs /\ (if a = true then u = .agg vs.toArray else vs = [u]) /\ jC (i + Taq ss) (nr + iT ss) ps us'
def vC (i nr : Nat) : BS -> Value -> Prop
 | .sc, v => Sc v ((aJ.v i).val ρ)
 | .fz nie, v => Rd (fun b => G.own b = .frz) w v ((aJ.v i).val ρ) /\ (nie = true -> ∀ z, (aJ.v i).val ρ = .rows z [] -> v = .slice none 0 0)
 | .ow m, v => v = G.hdr nr /\ Rp G.own w nr [] m v ((aJ.v i).val ρ)
 | .ot, v => v.oneCell' = true
def Das (ad : Addr) : Nat -> Nat -> Nat -> List (BS × BO) -> Prop
 | _, _, _, [] => True
 | off, i, nr, (s, _) :: ss => (∃ v, w.cell? (ad.add off) = some v /\ w.frozen? (ad.add off) = false /\ vC G w ρ i nr s v) /\ Das ad (off + 1) (i + s.cnt) (nr + s.rcnt) ss
def Dau : Nat -> Nat -> Nat -> List (Bool × List (BS × BO)) -> Prop
 | _, _, _, [] => True
 | b, i, nr, (ro, cs) :: bs => (G.bx b).spot = none /\ G.own (G.bx b).block = (if ro = true then .oth else .box b) /\ Das G w ρ (G.bx b) 0 i nr cs /\ Dau (b + 1) (i + Xar cs) (nr + tO cs) bs
end
structure Xap (s : Sig) (vals : List Value) (w : World) (G : Gh) (ds : List D) : Prop where
 params : jC G w ds s.boxes.length 0 0 s.params vals
 boxes : Dau G w ds 0 (Iad s.params) (iD s.params) s.boxes
 len : ds.length = Iad s.params + Xas s.boxes
 fresh : ∀ b, w.heap.size <= b -> G.own b = .frz
 cells : ∀ b j, b < w.heap.size -> G.own b = .box j -> j < s.boxes.length /\ ∃ c e fr, w.heap[b]? = some (.cells c e fr)
def Ea8 (s : Sig) (G : Gh) : List Value := (dN 0 (s.params.flatMap (·.2))).map G.hdr ++ (range 0 s.boxes.length).map fun b => Value.pointer (some (G.bx b))
def nG (s : Sig) (G : Gh) (w : World) : bB :=
 ⟨w, G.own, fun j => (Ea8 s G).getD j undef, fun b => ((G.bx b).off, (G.bx b).off + (s.boxes.getD b (true, [])).2.length)⟩
theorem Ma8 {i nr : Nat} (s : LS) : ∃ l u, gH i nr s = (l, u, i + s.cnt, nr + s.rcnt) /\ ∀ k c, (k, c) ∈ u -> ∃ m, s.rcnt = 1 /\ k = kR nr /\ c = .root (.v i) m 0 .live /\ (s = .mu m \/ s = .ow m) /\ l = .ex nr := by
 cases s with
 | mu m =>
  refine ⟨_, _, rfl, fun k c h => ?_⟩
  simp only [Mb9, Prod.mk.injEq] at h
  exact ⟨m, rfl, h.1, h.2, .inl rfl, rfl⟩
 | ow m =>
  refine ⟨_, _, rfl, fun k c h => ?_⟩
  simp only [Mb9, Prod.mk.injEq] at h
  exact ⟨m, rfl, h.1, h.2, .inr rfl, rfl⟩
 | _ => exact ⟨_, _, rfl, by simp⟩
section
variable {G : Gh} {w : World} {ρ : List D} {nbx : Nat} {σ : Nat -> Option aP}
theorem Cay (hbx : ∀ b, b < nbx -> (σ (kB b)).isSome) : ∀ {cs : List LS} {vs : List Value}, vD G nbx cs vs -> aD σ ρ G w (cs.map fun c => match c with | .px b => .px b 0 | _ => .dead) vs
 | [], vs, h => by simpa [vD, aD] using h
 | c :: cs, vs, h => by
  obtain ⟨u, us, rfl, h1, h2⟩ := h
  simp only [Nbm, aD]
  refine ⟨u, us, rfl, ?_, Cay hbx h2⟩
  cases c with
  | px b =>
   simp only [aB]
   exact ⟨by rw [h1.1]; rfl, hbx b h1.2⟩
  | _ => simp only [aB]; exact h1
def kH (σ : Nat -> Option aP) (G : Gh) (w : World) (ρ : List D) (u : List (Nat × aP)) : Prop := ∀ k c, (k, c) ∈ u -> ∃ r m i, k = kR r /\ c = .root (.v i) m 0 .live /\ Rp G.own w r [] m (G.hdr r) ((aJ.v i).val ρ)
theorem Pab (hbx : ∀ b, b < nbx -> (σ (kB b)).isSome) {i nr : Nat} {s : LS} {v : Value} (h : jL G w ρ nbx i nr s v) (hrt : s.rcnt = 1 -> (σ (kR nr)).isSome) :
  aB σ ρ G w (gH i nr s).1 v /\ kH σ G w ρ (gH i nr s).2.1 := by
 cases s with
 | sc => exact ⟨by simpa [gH, aB, jL] using h, by simp [kH, gH]⟩
 | fz nie =>
  refine ⟨?_, by simp [kH, gH]⟩
  simp only [jL] at h
  simp only [gH, aB]
  exact ⟨⟨h.1.one, by simp⟩, fun _ => ⟨h.1.mono fun b hb => ⟨.inl hb, rfl⟩, h.2, trivial⟩⟩
 | mu m =>
  simp only [jL] at h
  refine ⟨?_, ?_⟩
  ·simp only [gH, aB]
   exact ⟨h.1, hrt rfl, h.2.one⟩
  ·intro k c hc
   simp only [gH, Mb9, Prod.mk.injEq] at hc
   exact ⟨nr, m, i, hc.1, hc.2, by rw [<- h.1]; exact h.2⟩
 | ow m =>
  simp only [jL] at h
  refine ⟨?_, ?_⟩
  ·simp only [gH, aB]
   exact ⟨h.1, hrt rfl, h.2.one⟩
  ·intro k c hc
   simp only [gH, Mb9, Prod.mk.injEq] at hc
   exact ⟨nr, m, i, hc.1, hc.2, by rw [<- h.1]; exact h.2⟩
 | px b =>
  refine ⟨?_, by simp [kH, gH]⟩
  simp only [jL] at h
  simp only [gH, aB]
  exact ⟨by rw [h.1]; rfl, hbx b h.2⟩
 | clo f cs =>
  refine ⟨?_, by simp [kH, gH]⟩
  simp only [jL] at h
  obtain ⟨vs, h1, h2⟩ := h
  simp only [gH, aB]
  exact ⟨vs, h1, Cay hbx h2⟩
 | rp z =>
  refine ⟨?_, by simp [kH, gH]⟩
  simp only [jL] at h
  simp only [gH, aB]
  refine ⟨⟨h.1, by simp⟩, fun _ => ?_⟩
  rcases h.2 with h1 | ⟨a, row, h1, h2, h3⟩
  ·exact .inl h1
  ·exact .inr ⟨a, row, h1, h2, h3.mono fun b hb => ⟨.inl hb, rfl⟩⟩
theorem kH.append {u v : List (Nat × aP)} (h : kH σ G w ρ u) (h' : kH σ G w ρ v) : kH σ G w ρ (u ++ v) := fun k c hc => (List.mem_append.1 hc).elim (h k c) (h' k c)
theorem xV : ∀ (ss : List LS) (i nr : Nat), (dC i nr ss).2.2 = (i + Taq ss, nr + iT ss) /\ (dC i nr ss).1.length = ss.length /\ ∀ r, nr <= r -> r < nr + iT ss -> ∃ c, (kR r, c) ∈ (dC i nr ss).2.1
 | [], i, nr => ⟨rfl, rfl, fun r h1 h2 => by simp only [iT] at h2; omega⟩
 | s :: ss, i, nr => by
  obtain ⟨l, u, h1, h2⟩ := Ma8 (i := i) (nr := nr) s
  obtain ⟨h3, h4, h5⟩ := xV ss (i + s.cnt) (nr + s.rcnt)
  simp only [dC, h1]
  refine ⟨h3.trans (by simp only [Taq, iT, Nbl]), by simp [h4], fun r hr1 hr2 => ?_⟩
  simp only [iT] at hr2
  rcases Nbk r (nr + s.rcnt) with h6 | h6
  ·have hs : s.rcnt = 1 := by cases s <;> simp [LS.rcnt] at h6 ⊢ <;> omega
   have : r = nr := by omega
   subst this
   cases s <;> simp [LS.rcnt] at hs
   all_goals
    simp only [gH, Prod.mk.injEq] at h1
    obtain ⟨-, rfl, -⟩ := h1
    exact ⟨_, Mbz _ (List.mem_singleton.2 rfl)⟩
  ·obtain ⟨c, hc⟩ := h5 r h6 (by omega)
   exact ⟨c, Mb1 _ hc⟩
theorem Aag (hbx : ∀ b, b < nbx -> (σ (kB b)).isSome) : ∀ {ss : List LS} {i nr : Nat} {vs : List Value}, pW G w ρ nbx i nr ss vs -> (∀ r, nr <= r -> r < nr + iT ss -> (σ (kR r)).isSome) ->
  aD σ ρ G w (dC i nr ss).1 vs /\ kH σ G w ρ (dC i nr ss).2.1
 | [], i, nr, vs, h, _ => ⟨by simpa [pW, dC, aD] using h, by simp [kH, dC]⟩
 | s :: ss, i, nr, vs, h, hr => by
  obtain ⟨u, us, rfl, h1, h2⟩ := h
  obtain ⟨l, up, h3, h4⟩ := Ma8 (i := i) (nr := nr) s
  obtain ⟨h5, h6⟩ := Pab hbx h1 fun e => hr nr (Nbd _) (by simp only [iT]; omega)
  obtain ⟨h7, h8⟩ := Aag hbx h2 fun r hr1 hr2 => hr r (by omega) (by simp only [iT]; omega)
  simp only [dC, h3] at h5 h6 ⊢
  exact ⟨by simp only [aD]; exact ⟨u, us, rfl, h5, h7⟩, h6.append h8⟩
theorem rC : ∀ (ps : List (Bool × List LS)) (t i nr : Nat), (iH t i nr ps).2 = (i + Iad ps, nr + iD ps) /\ ∀ r, nr <= r -> r < nr + iD ps -> ∃ c, (kR r, c) ∈ (iH t i nr ps).1
 | [], t, i, nr => ⟨rfl, fun r h1 h2 => by simp only [iD] at h2; omega⟩
 | (a, ss) :: ps, t, i, nr => by
  obtain ⟨h1, -, h2⟩ := xV ss i nr
  obtain ⟨h3, h4⟩ := rC ps (t + 1) (i + Taq ss) (nr + iT ss)
  have e : dC i nr ss = ((dC i nr ss).1, (dC i nr ss).2.1, i + Taq ss, nr + iT ss) := by rw [<- h1]
  simp only [iH]
  rw [e]
  dsimp only
  refine ⟨h3.trans (by simp only [Iad, iD, Nbl]), fun r hr1 hr2 => ?_⟩
  simp only [iD] at hr2
  rcases Nbk r (nr + iT ss) with h6 | h6
  ·obtain ⟨c, hc⟩ := h2 r hr1 h6
   exact ⟨c, Mb8 _ (Mbz _ hc)⟩
  ·obtain ⟨c, hc⟩ := h4 r h6 (by omega)
   exact ⟨c, Mb8 _ (Mb1 _ hc)⟩
def Eb0 (σ : Nat -> Option aP) (G : Gh) (w : World) (ρ : List D) (val : Nat -> Option Value) (u : List (Nat × aP)) : Prop :=
 ∀ k c, (k, c) ∈ u -> (∃ t v sv, k = kT t /\ c = .slot none sv /\ val t = some v /\ bR σ ρ G w sv v) \/ (∃ r m i, k = kR r /\ c = .root (.v i) m 0 .live /\ Rp G.own w r [] m (G.hdr r) ((aJ.v i).val ρ))
theorem Aaf (hbx : ∀ b, b < nbx -> (σ (kB b)).isSome) : ∀ {ps : List (Bool × List LS)} {t i nr : Nat} {us : List Value}, jC G w ρ nbx i nr ps us -> (∀ r, nr <= r -> r < nr + iD ps -> (σ (kR r)).isSome) ->
  us.length = ps.length /\ Eb0 σ G w ρ (fun j => if t <= j then us[j - t]? else none) (iH t i nr ps).1
 | [], t, i, nr, us, h, _ => by
  simp only [jC] at h
  subst h
  exact ⟨rfl, by simp [Eb0, iH]⟩
 | (a, ss) :: ps, t, i, nr, us, h, hr => by
  obtain ⟨u, us', vs, rfl, h1, h2, h3⟩ := h
  obtain ⟨h4, h5, -⟩ := xV ss i nr
  obtain ⟨h6, h7⟩ := Aag hbx h1 fun r hr1 hr2 => hr r hr1 (by simp only [iD]; omega)
  obtain ⟨h8, h9⟩ := Aaf hbx (t := t + 1) h3 fun r hr1 hr2 => hr r (by omega) (by simp only [iD]; omega)
  have e : dC i nr ss = ((dC i nr ss).1, (dC i nr ss).2.1, i + Taq ss, nr + iT ss) := by rw [<- h4]
  simp only [iH]
  rw [e]
  dsimp only
  refine ⟨by simp [h8], fun k c hc => ?_⟩
  rcases List.mem_cons.1 hc with hc | hc
  ·obtain ⟨rfl, rfl⟩ := Prod.mk.inj hc
   refine .inl ⟨t, u, _, rfl, rfl, by simp, ?_⟩
   cases hsv : Pa7 a (dC i nr ss).1 with
   | none => trivial
   | some sv => exact qE hsv h6 h2
  ·rcases List.mem_append.1 hc with hc | hc
   ·exact .inr (h7 k c hc)
   ·rcases h9 k c hc with ⟨t', v, sv, e1, e2, e3, e4⟩ | h10
    ·refine .inl ⟨t', v, sv, e1, e2, ?_, e4⟩
     dsimp only at e3 ⊢
     split at e3
     ·rename_i hle
      rw [if_pos (by omega)]
      rw [show t' - t = (t' - (t + 1)) + 1 by omega]
      exact e3
     ·cases e3
    ·exact .inr h10
theorem Pac {i nr : Nat} {s : BS} {v : Value} (h : vC G w ρ i nr s v) (hrt : s.rcnt = 1 -> (σ (kR nr)).isSome) :
  aB σ ρ G w (fB i nr s).1 v /\ kH σ G w ρ (fB i nr s).2.1 /\ (fB i nr s).2.2 = (i + s.cnt, nr + s.rcnt) /\ (s.rcnt = 1 -> ∃ c, (kR nr, c) ∈ (fB i nr s).2.1) := by
 cases s with
 | sc => exact ⟨by simpa [fB, aB, vC] using h, by simp [kH, fB], rfl, fun e => by cases e⟩
 | fz nie =>
  refine ⟨?_, by simp [kH, fB], rfl, fun e => by cases e⟩
  simp only [vC] at h
  simp only [fB, aB]
  exact ⟨⟨h.1.one, by simp⟩, fun _ => ⟨h.1.mono fun b hb => ⟨.inl hb, rfl⟩, h.2, trivial⟩⟩
 | ow m =>
  simp only [vC] at h
  refine ⟨?_, ?_, rfl, fun _ => ⟨_, List.mem_singleton.2 rfl⟩⟩
  ·simp only [fB, aB]
   exact ⟨h.1, hrt rfl, h.2.one⟩
  ·intro k c hc
   simp only [fB, Mb9, Prod.mk.injEq] at hc
   exact ⟨nr, m, i, hc.1, hc.2, by rw [<- h.1]; exact h.2⟩
 | ot => exact ⟨by simpa [fB, aB, vC] using h, by simp [kH, fB], rfl, fun e => by cases e⟩
theorem Wak {i nr : Nat} (s : BS) : (fB i nr s).2.2 = (i + s.cnt, nr + s.rcnt) /\ (s.rcnt = 1 -> ∃ c, (kR nr, c) ∈ (fB i nr s).2.1) := by
 cases s <;> refine ⟨rfl, fun e => ?_⟩ <;> first | cases e | skip
 exact ⟨_, List.mem_singleton.2 rfl⟩
theorem Bam : ∀ (ss : List (BS × BO)) (i nr : Nat), (eY i nr ss).2.2 = (i + Xar ss, nr + tO ss) /\ (eY i nr ss).1.length = ss.length /\ ∀ r, nr <= r -> r < nr + tO ss -> ∃ c, (kR r, c) ∈ (eY i nr ss).2.1
 | [], i, nr => ⟨rfl, rfl, fun r h1 h2 => by simp only [tO] at h2; omega⟩
 | (s, o) :: ss, i, nr => by
  obtain ⟨h1, h2⟩ := Wak (i := i) (nr := nr) s
  obtain ⟨h3, h4, h5⟩ := Bam ss (i + s.cnt) (nr + s.rcnt)
  have e : fB i nr s = ((fB i nr s).1, (fB i nr s).2.1, i + s.cnt, nr + s.rcnt) := by rw [<- h1]
  simp only [eY]
  rw [e]
  dsimp only
  refine ⟨h3.trans (by simp only [Xar, tO, Nbl]), by simp [h4], fun r hr1 hr2 => ?_⟩
  simp only [tO] at hr2
  rcases Nbk r (nr + s.rcnt) with h6 | h6
  ·have hs : s.rcnt = 1 := by cases s <;> simp [BS.rcnt] at h6 ⊢ <;> omega
   have : r = nr := by omega
   subst this
   obtain ⟨c, hc⟩ := h2 hs
   exact ⟨c, Mbz _ hc⟩
  ·obtain ⟨c, hc⟩ := h5 r h6 (by omega)
   exact ⟨c, Mb1 _ hc⟩
theorem Cat {ad : Addr} : ∀ {ss : List (BS × BO)} {off i nr : Nat}, Das G w ρ ad off i nr ss -> (∀ r, nr <= r -> r < nr + tO ss -> (σ (kR r)).isSome) ->
  (∀ j l, (eY i nr ss).1[j]? = some l -> ∃ v, w.cell? (ad.add (off + j)) = some v /\ w.frozen? (ad.add (off + j)) = false /\ aB σ ρ G w l v) /\ kH σ G w ρ (eY i nr ss).2.1
 | [], off, i, nr, _, _ => ⟨by simp [eY], by simp [kH, eY]⟩
 | (s, o) :: ss, off, i, nr, h, hr => by
  obtain ⟨⟨v, h1, h2, h3⟩, h4⟩ := h
  obtain ⟨h5, h6, h7, -⟩ := Pac h3 fun e => hr nr (Nbd _) (by simp only [tO]; omega)
  obtain ⟨h8, h9⟩ := Cat h4 fun r hr1 hr2 => hr r (by omega) (by simp only [tO]; omega)
  have e : fB i nr s = ((fB i nr s).1, (fB i nr s).2.1, i + s.cnt, nr + s.rcnt) := by rw [<- h7]
  simp only [eY]
  rw [e]
  dsimp only
  refine ⟨fun j l hj => ?_, h6.append h9⟩
  cases j with
  | zero =>
   simp only [Mb5, Option.some.injEq] at hj
   subst hj
   exact ⟨v, h1, h2, h5⟩
  | succ j =>
   obtain ⟨v', h10, h11, h12⟩ := h8 j l (by simpa using hj)
   rw [show off + (j + 1) = off + 1 + j by omega]
   exact ⟨v', h10, h11, h12⟩
def Fbc (σ : Nat -> Option aP) (G : Gh) (w : World) (ρ : List D) (bs : Nat -> Option (Bool × List (BS × BO))) (u : List (Nat × aP)) : Prop :=
 ∀ k c, (k, c) ∈ u -> (∃ b ro ls cs, k = kB b /\ c = .box ro ls /\ bs b = some (ro, cs) /\ ls.length = cs.length /\ Iam σ ρ G w b ro ls) \/ (∃ r m i, k = kR r /\ c = .root (.v i) m 0 .live /\ Rp G.own w r [] m (G.hdr r) ((aJ.v i).val ρ))
theorem vX : ∀ (bs : List (Bool × List (BS × BO))) (b i nr : Nat), (jF b i nr bs).2 = (i + Xas bs, nr + tQ bs) /\ (∀ r, nr <= r -> r < nr + tQ bs -> ∃ c, (kR r, c) ∈ (jF b i nr bs).1) /\ ∀ j, b <= j -> j < b + bs.length -> ∃ c, (kB j, c) ∈ (jF b i nr bs).1
 | [], b, i, nr => ⟨rfl, fun r h1 h2 => by simp only [tQ] at h2; omega, fun j h1 h2 => by simp only [Nbj] at h2; omega⟩
 | (ro, cs) :: bs, b, i, nr => by
  obtain ⟨h1, -, h2⟩ := Bam cs i nr
  obtain ⟨h3, h4, h5⟩ := vX bs (b + 1) (i + Xar cs) (nr + tO cs)
  have e : eY i nr cs = ((eY i nr cs).1, (eY i nr cs).2.1, i + Xar cs, nr + tO cs) := by rw [<- h1]
  simp only [jF]
  rw [e]
  dsimp only
  refine ⟨h3.trans (by simp only [Xas, tQ, Nbl]), fun r hr1 hr2 => ?_, fun j hj1 hj2 => ?_⟩
  ·simp only [tQ] at hr2
   rcases Nbk r (nr + tO cs) with h6 | h6
   ·obtain ⟨c, hc⟩ := h2 r hr1 h6
    exact ⟨c, Mb8 _ (Mbz _ hc)⟩
   ·obtain ⟨c, hc⟩ := h4 r h6 (by omega)
    exact ⟨c, Mb8 _ (Mb1 _ hc)⟩
  ·simp only [Nbc] at hj2
   rcases Nbk j (b + 1) with h6 | h6
   ·obtain rfl : j = b := by omega
    exact ⟨_, Nbf⟩
   ·obtain ⟨c, hc⟩ := h5 j h6 (by omega)
    exact ⟨c, Mb8 _ (Mb1 _ hc)⟩
theorem Cau : ∀ {bs : List (Bool × List (BS × BO))} {b i nr : Nat}, Dau G w ρ b i nr bs -> (∀ r, nr <= r -> r < nr + tQ bs -> (σ (kR r)).isSome) ->
  Fbc σ G w ρ (fun j => if b <= j then bs[j - b]? else none) (jF b i nr bs).1
 | [], b, i, nr, _, _ => by simp [Fbc, jF]
 | (ro, cs) :: bs, b, i, nr, h, hr => by
  obtain ⟨h1, h2, h3, h4⟩ := h
  obtain ⟨h5, h6, -⟩ := Bam cs i nr
  obtain ⟨h7, h8⟩ := Cat h3 fun r hr1 hr2 => hr r hr1 (by simp only [tQ]; omega)
  have h9 := Cau (b := b + 1) h4 fun r hr1 hr2 => hr r (by omega) (by simp only [tQ]; omega)
  have e : eY i nr cs = ((eY i nr cs).1, (eY i nr cs).2.1, i + Xar cs, nr + tO cs) := by rw [<- h5]
  simp only [jF]
  rw [e]
  dsimp only
  intro k c hc
  rcases List.mem_cons.1 hc with hc | hc
  ·obtain ⟨rfl, rfl⟩ := Prod.mk.inj hc
   refine .inl ⟨b, ro, _, cs, rfl, rfl, by simp, h6, h1, h2, fun j l hj => ?_⟩
   have := h7 j l hj
   rwa [Nbt] at this
  ·rcases List.mem_append.1 hc with hc | hc
   ·exact .inr (h8 k c hc)
   ·rcases h9 k c hc with ⟨j, ro', ls, cs', e1, e2, e3, e4⟩ | h10
    ·refine .inl ⟨j, ro', ls, cs', e1, e2, ?_, e4⟩
     dsimp only at e3 ⊢
     split at e3
     ·rename_i hle
      rw [if_pos (by omega), show j - b = (j - (b + 1)) + 1 by omega]
      exact e3
     ·cases e3
    ·exact .inr h10
end
theorem vR : ∀ (ss : List LS) (r : Nat), ∀ q ∈ dN r ss, r <= q /\ q < r + iT ss
 | [], r, q, h => by simp [dN] at h
 | s :: ss, r, q, h => by
  cases s with
  | mu m =>
   simp only [dN, Nbz] at h
   simp only [iT, LS.rcnt]
   rcases h with rfl | h
   ·omega
   ·have := vR ss (r + 1) q h; omega
  | ow m =>
   simp only [dN] at h
   simp only [iT, LS.rcnt]
   have := vR ss (r + 1) q h; omega
  | _ =>
   simp only [dN] at h
   simp only [iT, LS.rcnt]
   have := vR ss r q h; omega
theorem Cab : ∀ (a b : List LS), iT (a ++ b) = iT a + iT b
 | [], b => by simp [iT]
 | s :: a, b => by simp only [List.cons_append, iT, Cab a b, Nbl]
theorem Hal : ∀ (ps : List (Bool × List LS)), iT (ps.flatMap (·.2)) = iD ps
 | [] => rfl
 | (a, ss) :: ps => by simp only [List.flatMap_cons, Cab, iD, Hal ps]
theorem rD : ∀ (ls : List aR) (t k : Nat) (c : aP), (k, c) ∈ pO t ls -> ∃ j l, ls[j]? = some l /\ k = kT (t + j) /\ c = .slot none (.one l)
 | [], t, k, c, h => by simp [pO] at h
 | l :: ls, t, k, c, h => by
  simp only [pO, Nbz, Prod.mk.injEq] at h
  rcases h with ⟨rfl, rfl⟩ | h
  ·exact ⟨0, l, rfl, rfl, rfl⟩
  ·obtain ⟨j, l', h1, rfl, rfl⟩ := rD ls (t + 1) k c h
   exact ⟨j + 1, l', by simpa using h1, by rw [show t + (j + 1) = t + 1 + j by omega], rfl⟩
theorem Say {s : Sig} {G : Gh} {j : Nat} {l : aR} (h : (Maq s)[j]? = some l) :
  (∃ r, (dN 0 (s.params.flatMap (·.2)))[j]? = some r /\ l = .ex r /\ (Ea8 s G).getD j undef = G.hdr r) \/ (∃ b, b < s.boxes.length /\ l = .px b 0 /\ (Ea8 s G).getD j undef = .pointer (some (G.bx b))) := by
 unfold Maq at h
 unfold Ea8
 rw [Mb4]
 rcases Nbk j (dN 0 (s.params.flatMap (·.2))).length with h1 | h1
 ·rw [List.getElem?_append_left (by simpa using h1)] at h ⊢
  rw [Nbn] at h ⊢
  rw [Mb0 h1] at h ⊢
  simp only [Nb3, Option.some.injEq] at h
  exact .inl ⟨_, rfl, h.symm, rfl⟩
 ·rw [Nbh (by simpa using h1)] at h ⊢
  simp only [Nbb] at h ⊢
  rw [Nbn] at h ⊢
  cases hb : (range 0 s.boxes.length)[j - (dN 0 (s.params.flatMap (·.2))).length]? with
  | none => rw [hb] at h; cases h
  | some b =>
   rw [hb] at h
   simp only [Nb3, Option.some.injEq] at h
   have := mem_range.1 (Nbe hb)
   exact .inr ⟨b, by omega, h.symm, rfl⟩
end Go.Proofs.YtpgnlmfmlffjcaaGreat.Rf

namespace Go.Proofs.YtpgnlmfmlffjcaaGreat.Rf
set_option linter.unusedVariables false
set_option linter.unusedSimpArgs false
def Zah (s : Sig) (n : Nat) : List (Nat × aP) :=
 (iH 0 0 0 s.params).1 ++ (jF 0 (Iad s.params) (iD s.params) s.boxes).1 ++ pO n (Maq s)
theorem entry_eq (s : Sig) (n : Nat) : entry s n = St.puts ⟨.nil, Iad s.params + Xas s.boxes, s.boxes.length, iD s.params + tQ s.boxes, n + lD s⟩ (Zah s n) := by
 have h1 := (rC s.params 0 0 0).1
 have h2 := (vX s.boxes 0 (Iad s.params) (iD s.params)).1
 rw [Nbt, Nbt] at h1
 have e : iH 0 0 0 s.params = ((iH 0 0 0 s.params).1, Iad s.params, iD s.params) := by rw [<- h1]
 have e2 : jF 0 (Iad s.params) (iD s.params) s.boxes = ((jF 0 (Iad s.params) (iD s.params) s.boxes).1, Iad s.params + Xas s.boxes, iD s.params + tQ s.boxes) := by rw [<- h2]
 unfold entry Zah
 rw [e]
 dsimp only
 rw [e2]
theorem Bal (s : Sig) (n : Nat) : (entry s n).nv = Iad s.params + Xas s.boxes /\ (entry s n).nb = s.boxes.length /\ (entry s n).nr = iD s.params + tQ s.boxes /\ (entry s n).nt = n + lD s := by
 rw [entry_eq]
 obtain ⟨h1, h2, h3, h4⟩ := gL (Zah s n) ⟨.nil, Iad s.params + Xas s.boxes, s.boxes.length, iD s.params + tQ s.boxes, n + lD s⟩
 exact ⟨h1, h2, h3, h4⟩
theorem Ma6 (s : Sig) (n : Nat) (k : Nat) : (entry s n).get k = bif yC (n + lD s) s.boxes.length (iD s.params + tQ s.boxes) k then upds (fun _ => none) (Zah s n) k else none := by
 obtain ⟨h1, h2, h3, h4⟩ := Bal s n
 unfold St.get
 rw [h2, h3, h4]
 have : (entry s n).tr.get k = upds (fun _ => none) (Zah s n) k := by
  rw [entry_eq, Ia7]
  exact oN _ _ _ _ rfl
 rw [this]
theorem Ma5 {s : Sig} {n k : Nat} {c : aP} (h : (entry s n).get k = some c) : (k, c) ∈ Zah s n := by
 rw [Ma6] at h
 revert h
 cases yC (n + lD s) s.boxes.length (iD s.params + tQ s.boxes) k with
 | false => intro h; cases h
 | true =>
  intro h
  rcases nM _ _ _ _ h with h1 | ⟨-, h1⟩
  ·exact h1
  ·cases h1
theorem Ha9 {s : Sig} {n k : Nat} (hb : yC (n + lD s) s.boxes.length (iD s.params + tQ s.boxes) k = true) (h : ∃ c, (k, c) ∈ Zah s n) : ((entry s n).get k).isSome := by
 rw [Ma6, hb, cond_true]
 exact dG _ _ _ (.inr h)
theorem Ya1 {nt nb nr b : Nat} (h : b < nb) : yC nt nb nr (kB b) = true := by
 unfold yC
 rw [Mae]
 have : kB b / 3 = b := by unfold kB; omega
 rw [this]
 simpa using h
theorem Tac (s : Sig) (n r : Nat) (h : r < iD s.params + tQ s.boxes) : ((entry s n).get (kR r)).isSome := by
 refine Ha9 (Mac h) ?_
 rcases Nbk r (iD s.params) with h1 | h1
 ·obtain ⟨c, hc⟩ := (rC s.params 0 0 0).2 r (Obu _) (by omega)
  exact ⟨c, Mbz _ (Mbz _ hc)⟩
 ·obtain ⟨c, hc⟩ := (vX s.boxes 0 (Iad s.params) (iD s.params)).2.1 r h1 h
  exact ⟨c, Mbz _ (Mb1 _ hc)⟩
theorem Waj (s : Sig) (n b : Nat) (h : b < s.boxes.length) : ((entry s n).get (kB b)).isSome := by
 refine Ha9 (Ya1 h) ?_
 obtain ⟨c, hc⟩ := (vX s.boxes 0 (Iad s.params) (iD s.params)).2.2 b (Obu _) (by omega)
 exact ⟨c, Mbz _ (Mb1 _ hc)⟩
theorem Cbm {s : Sig} {vals : List Value} {w : World} {G : Gh} {ds : List D} {n : Nat} (h : Xap s vals w G ds) (hn : s.params.length <= n) :
  vals.length = s.params.length /\ R n (nG s G w) (entry s n).get ds ⟨vals.toArray ++ Array.replicate (n - vals.length) undef, []⟩ w G := by
 have hbx : ∀ b, b < s.boxes.length -> ((entry s n).get (kB b)).isSome := fun b hb => Waj s n b hb
 have hrt := Tac s n
 obtain ⟨hlen, hpar⟩ := Aaf (σ := (entry s n).get) hbx (t := 0) h.params fun r _ hr => hrt r (by omega)
 have hbox := Cau (σ := (entry s n).get) h.boxes fun r _ hr => hrt r hr
 have hroot : ∀ r, r < iD s.params -> (G.hdr r).oneCell' = true := by
  intro r hr
  obtain ⟨c, hc⟩ := (rC s.params 0 0 0).2 r (Obu _) (by omega)
  rcases hpar _ c hc with ⟨t, v, sv, e, -⟩ | ⟨r', m, i, e, -, hrp⟩
  ·exact absurd e.symm gG
  ·obtain rfl := dR e
   exact hrp.one
 have hval : ∀ t v, vals[t]? = some v -> yB n ⟨vals.toArray ++ Array.replicate (n - vals.length) undef, []⟩ (nG s G w).gh t = v := by
  intro t v hv
  have hlt := (List.getElem?_eq_some_iff.1 hv).1
  unfold yB
  rw [if_pos (by omega)]
  simp only [Array.getD_eq_getD_getElem?]
  rw [Array.getElem?_append_left (by simpa using hlt)]
  simp [hv]
 refine ⟨hlen, ?_, rfl, fun k c hk => ?_, ?_, fun b ls hk hb ho => ?_⟩
 ·simp; omega
 ·have hm := Ma5 hk
  unfold Zah at hm
  rcases List.mem_append.1 hm with hm | hm
  ·rcases List.mem_append.1 hm with hm | hm
   ·rcases hpar k c hm with ⟨t, v, sv, rfl, rfl, hv, hsv⟩ | ⟨r, m, i, rfl, rfl, hrp⟩
    ·refine ⟨t, rfl, fun _ => ?_⟩
     simp only [Obu, if_true, Nat.sub_zero] at hv
     rw [hval t v hv]
     exact hsv
    ·exact ⟨r, rfl, by rw [hk]; rfl, hrp⟩
   ·rcases hbox k c hm with ⟨b, ro, ls, cs, rfl, rfl, -, -, hbr⟩ | ⟨r, m, i, rfl, rfl, hrp⟩
    ·exact ⟨b, rfl, hbr⟩
    ·exact ⟨r, rfl, by rw [hk]; rfl, hrp⟩
  ·obtain ⟨j, l, hj, rfl, rfl⟩ := rD _ _ _ _ hm
   refine ⟨n + j, rfl, fun _ => ?_⟩
   have e : yB n ⟨vals.toArray ++ Array.replicate (n - vals.length) undef, []⟩ (nG s G w).gh (n + j) = (Ea8 s G).getD j undef := by
    unfold yB
    rw [if_neg (by omega), Nbx]
    rfl
   rw [e]
   simp only [bR]
   rcases Say (G := G) hj with ⟨r, h1, rfl, h2⟩ | ⟨b, h1, rfl, h2⟩
   ·have hr := vR _ _ r (Nbe h1)
    rw [Hal] at hr
    simp only [aB]
    rw [h2]
    exact ⟨rfl, hrt r (by omega), hroot r (by omega)⟩
   ·simp only [aB]
    rw [h2]
    exact ⟨rfl, hbx b h1⟩
 ·exact ⟨rfl, rfl, rfl, Nbd _, fun b hb ho => ⟨rfl, rfl⟩, fun b j hb ho => ⟨ho, by
   obtain ⟨-, c, e, fr, hc⟩ := h.cells b j hb ho
   exact ⟨c, c, e, fr, hc, hc, rfl, fun _ _ => rfl⟩⟩, h.fresh⟩
 ·have hm := Ma5 hk
  unfold Zah at hm
  rcases List.mem_append.1 hm with hm | hm
  ·rcases List.mem_append.1 hm with hm | hm
   ·rcases hpar _ _ hm with ⟨t, v, sv, e, -⟩ | ⟨r, m, i, e, -⟩
    ·exact absurd e.symm kP
    ·exact absurd e eD
   ·rcases hbox _ _ hm with ⟨b', ro, ls', cs, e, e2, e3, e4, hbr⟩ | ⟨r, m, i, e, -⟩
    ·obtain rfl := Cah e
     injection e2 with e5 e6
     subst e5 e6
     simp only [Obu, if_true, Nat.sub_zero] at e3
     simp only [nG, Mb4, e3, Obt]
     rw [e4]
    ·exact absurd e eD
  ·obtain ⟨j, r, hj, e, -⟩ := rD _ _ _ _ hm
   exact absurd e.symm kP
theorem Wai {s : Sig} {n nr0 : Nat} (h : Dav (entry s n) nr0 ((range 0 (entry s n).nt).map kT ++ (range 0 (entry s n).nb).map kB ++ (range 0 (entry s n).nr).map kR) = true) {E : Env} (hE : E.ntmps = n) : Fa7 E (entry s n) := by
 refine ⟨by rw [(Bal s n).2.2.2, hE]; omega, fun k c hk => ?_⟩
 have hm : k ∈ (range 0 (entry s n).nt).map kT ++ (range 0 (entry s n).nb).map kB ++ (range 0 (entry s n).nr).map kR := by
  rcases xQ hk with ⟨t, rfl, ht⟩ | ⟨b, rfl, hb⟩ | ⟨r, rfl, hr⟩
  ·exact Mbz _ (Mbz _ (List.mem_map.2 ⟨t, mem_range.2 ⟨by omega, by omega⟩, rfl⟩))
  ·exact Mbz _ (Mb1 _ (List.mem_map.2 ⟨b, mem_range.2 ⟨by omega, by omega⟩, rfl⟩))
  ·exact Mb1 _ (List.mem_map.2 ⟨r, mem_range.2 ⟨by omega, by omega⟩, rfl⟩)
 have := Aaz h k hm
 rw [hk] at this
 exact rF this
end Go.Proofs.YtpgnlmfmlffjcaaGreat.Rf

namespace Go.Proofs.YtpgnlmfmlffjcaaGreat.Rf
set_option linter.unusedVariables false
set_option linter.unusedSimpArgs false
def BO.q : BO -> Nat
 | .ow _ => 1
 | _ => 0
def qC : List BO -> Nat
 | [] => 0
 | s :: ss => s.q + qC ss
def LR.q : LR -> Nat
 | .ow _ => 1
 | .bx cs => qC cs
 | _ => 0
def qL : List LR -> Nat
 | [] => 0
 | s :: ss => s.q + qL ss
def qR : List (Bool × List LR) -> Nat
 | [] => 0
 | (_, ss) :: rs => qL ss + qR rs
section
variable (own : Nat -> Ow) (w : World) (ds : List D) (nbx : Nat)
def Ba0 (i q : Nat) : BO -> Value -> Prop
 | .sc, v => Sc v (ds.getD i .undef)
 | .fz, v => Rd (fun b => own b = .frz) w v (ds.getD i .undef)
 | .ow m, v => Rp own w (2 * q) [] m v (ds.getD i .undef)
 | .dead, v => v.oneCell' = true
def Aax (ad : Addr) : Nat -> Nat -> Nat -> List BO -> Prop
 | _, _, _, [] => True
 | off, i, q, s :: ss => (∃ v, w.cell? (ad.add off) = some v /\ w.frozen? (ad.add off) = false /\ Ba0 own w ds i q s v) /\ Aax ad (off + 1) (i + 1) (q + s.q) ss
def kE (i q : Nat) : LR -> Value -> Prop
 | .sc, v => Sc v (ds.getD i .undef)
 | .fz, v => Rd (fun b => own b = .frz) w v (ds.getD i .undef)
 | .ow m, v => Rp own w (2 * q) [] m v (ds.getD i .undef)
 | .rp _, v => v.oneCell' = true /\ Xah (fun b => own b = .frz) w v (ds.getD i .undef)
 | .bx cs, v => ∃ ad, v = .pointer (some ad) /\ ad.spot = none /\ own ad.block = .box nbx /\ Aax own w ds ad 0 i q cs
def nJ : Nat -> Nat -> List LR -> List Value -> Prop
 | _, _, [], vs => vs = []
 | i, q, s :: ss, vs => ∃ u us, vs = u :: us /\ kE own w ds nbx i q s u /\ nJ (i + s.n) (q + s.q) ss us
def Iak : Nat -> Nat -> List (Bool × List LR) -> List Value -> Prop
 | _, _, [], us => us = []
 | i, q, (a, ss) :: rs, us => ∃ u us' vs, us = u :: us' /\ nJ own w ds nbx i q ss vs /\ (if a = true then u = .agg vs.toArray else vs = [u]) /\ Iak (i + kY ss) (q + qL ss) rs us'
def Ran (gh : Nat -> Value) : Nat -> Nat -> List Nat -> Prop
 | _, _, [] => True
 | i, j, d :: ms => Rp own w (2 * j + 1) [] d (gh j) (ds.getD i .undef) /\ Ran gh (i + 1) (j + 1) ms
def kF (bx : Nat -> Addr) : Nat -> Nat -> Nat -> List (Bool × List (BS × BO)) -> Prop
 | _, _, _, [] => True
 | b, i, q, (ro, cs) :: r => if ro = true then kF bx (b + 1) i q r else Aax own w ds (bx b) 0 i q (cs.map (·.2)) /\ kF bx (b + 1) (i + cs.length) (q + qC (cs.map (·.2))) r
end
def Ba9 : List Value -> Value
 | [u] => u
 | us => .tuple us.toArray
def Kan (s : Sig) (F : bB) (bx : Nat -> Addr) (v : Value) (w : World) (ds : List D) : Prop :=
 ∃ G us, v = Ba9 us /\ kM F G w /\ Iak G.own w ds s.boxes.length 0 0 s.results us /\ Ran G.own w ds F.gh (bC s.results) 0 (dF (s.params.flatMap (·.2))) /\
  kF G.own w ds bx 0 (bC s.results + (dF (s.params.flatMap (·.2))).length) (qR s.results) s.boxes
structure FLe (A B : Fin) : Prop where
 xs : ∃ l, B.xs = A.xs ++ l
 own : ∀ z ∈ A.own, z ∈ B.own
 frz : ∀ z ∈ A.frz, z ∈ B.frz
 lets : ∃ l, B.lets = A.lets ++ l
 bxs : ∀ z ∈ A.bxs, z ∈ B.bxs
theorem FLe.refl (A : Fin) : FLe A A := ⟨⟨[], by simp⟩, fun _ h => h, fun _ h => h, ⟨[], by simp⟩, fun _ h => h⟩
theorem FLe.trans {A B C : Fin} (h : FLe A B) (h' : FLe B C) : FLe A C := by
 obtain ⟨⟨l, h1⟩, h2, h3, ⟨m, h4⟩, h5⟩ := h
 obtain ⟨⟨l', h1'⟩, h2', h3', ⟨m', h4'⟩, h5'⟩ := h'
 exact ⟨⟨l ++ l', by rw [h1', h1, Mb7]⟩, fun z hz => h2' z (h2 z hz), fun z hz => h3' z (h3 z hz), ⟨m ++ m', by rw [h4', h4, Mb7]⟩, fun z hz => h5' z (h5 z hz)⟩
structure Tas (Z : Fin) (nbx : Nat) (G G' : Gh) : Prop where
 frz : ∀ b, G.own b = .frz -> G'.own b = .frz
 own : ∀ r t m, (r, t, m) ∈ Z.own -> ∀ b p, G.own b = .slc r p -> G'.own b = if p.length < m then .slc t p else .frz
 fr : ∀ r, r ∈ Z.frz -> ∀ b p, G.own b = .slc r p -> G'.own b = .frz
 bxs : ∀ β, β ∈ Z.bxs -> ∀ b, G.own b = .box β -> G'.own b = .box nbx
section
variable {E : Env} {F : bB} {σ : Nat -> Option aP} {ρ : List D} {a : Act} {w : World} {G G' : Gh} {cf : Nat -> List D -> Option (List D)} {Z : Fin} {nbx nv : Nat}
theorem FLe.get {A B : Fin} (h : FLe A B) {ρ : List D} {x : aJ} {l : List aJ} (hx : A.xs = l ++ [x]) : (B.xs.map (·.val ρ)).getD l.length .undef = x.val ρ := by
 obtain ⟨m, h1⟩ := h.xs
 rw [h1, hx, Mb4]
 simp
theorem Rp.give (hG : Tas Z nbx G G') {r t m m' : Nat} (hz : (r, t, m) ∈ Z.own) (hm : m <= m') {v : Value} {d : D} (h : Rp G.own w r [] m' v d) : Rp G'.own w t [] m v d := by
 let own1 : Nat -> Ow := fun b => match G.own b with
  | .slc s p => if s = r then (if p.length < m then .slc s p else .frz) else .slc s p
  | o => o
 have h1 := h.weaken (own' := own1) (fun b hb => by simp only [own1, hb]) m hm (fun b q hb => by simp only [own1, hb, Nb5, if_true])
 have := h1.mono (own' := G'.own) (w' := w) (q := []) (q' := []) (r' := t) (fun b hb => ⟨?_, rfl⟩) [] rfl (fun b q hb => ⟨?_, rfl⟩)
 ·simpa using this
 ·simp only [own1] at hb
  split at hb
  ·rename_i s p e
   split at hb
   ·rename_i hs
    subst hs
    split at hb
    ·cases hb
    ·rename_i hp
     rw [hG.own s t m hz b p e, if_neg hp]
   ·cases hb
  ·exact hG.frz b hb
 ·simp only [own1] at hb
  split at hb
  ·rename_i s p e
   split at hb
   ·rename_i hs
    subst hs
    split at hb
    ·rename_i hp
     injection hb with e1 e2
     simp only [Nb5] at e2 ⊢
     subst e2
     rw [hG.own s t m hz b p e, if_pos hp]
    ·cases hb
   ·rename_i hs
    injection hb with e1 e2
    exact absurd e1 hs
  ·rename_i hno
   exact absurd hb (hno _ _)
theorem Rd.give (hG : Tas Z nbx G G') {deps : List (Nat × Nat)} (hz : ∀ z ∈ deps, z.1 ∈ Z.frz) {v : Value} {d : D} (h : Rd (allow G deps) w v d) : Rd (fun b => G'.own b = .frz) w v d := by
 refine h.mono fun b hb => ⟨?_, rfl⟩
 rcases hb with hb | ⟨r, k, p, hm, hb⟩
 ·exact hG.frz b hb
 ·exact hG.fr r (hz _ hm) b p hb
theorem Maw (hR : R E.ntmps F σ ρ a w G) {A B : Fin} {m : Nat} {l : aR} (h : (Maz A m l).eval σ = some B) (hZ : FLe B Z) (hG : Tas Z nbx G G') {v : Value} (hl : aB σ ρ G w l v) :
  Rp G'.own w (2 * A.q) [] m v ((Z.xs.map (·.val ρ)).getD A.xs.length .undef) /\ FLe A B /\ B.xs.length = A.xs.length + 1 /\ B.q = A.q + 1 := by
 unfold Maz at h
 split at h
 ·rename_i nie z
  simp only [aC, Option.some.injEq] at h
  subst h
  refine ⟨?_, ⟨⟨_, rfl⟩, fun _ h => h, fun _ h => h, ⟨[], by simp [Qa6]⟩, fun _ h => h⟩, by simp [Qa6], rfl⟩
  rw [hZ.get (l := A.xs) rfl]
  simp only [aB] at hl
  have hv := (hl.2 (by simp)).2.1 trivial z rfl
  rw [hv]
  cases m with
  | zero => exact .fz (.rows none ⟨0, 0, none⟩ 0 0 z [] (fun _ _ => undef) rfl (Nbd _) (.inl rfl) (by simp) (by simp) (by simp))
  | succ m => exact .sl none ⟨0, 0, none⟩ 0 0 z [] (fun _ _ => undef) rfl (Nbd _) (.inr ⟨rfl, rfl⟩) (by simp) (fun e => by cases e) (by simp) (by simp)
 ·rename_i r
  simp only [aA, aQ, Mb3] at h
  split at h
  ·rename_i x m' ver hk
   simp only [aA, aI, Mbx, aC, Option.some.injEq] at h
   obtain ⟨_, h1, rfl⟩ := h
   split at h1
   case isFalse => cases h1
   rename_i hb
   simp only [Nb7] at hb
   refine ⟨?_, ⟨⟨_, rfl⟩, fun _ h => Mbz _ h, fun _ h => h, ⟨[], by simp [wX]⟩, fun _ h => h⟩, by simp [wX], rfl⟩
   rw [hZ.get (l := A.xs) rfl]
   simp only [aB] at hl
   rw [hl.1]
   have hr := hR.root hk
   simp only [bJ] at hr
   exact hr.give hG (hZ.own _ (by simp [wX])) hb
  ·cases h
 ·rename_i r k nie x
  simp only [aA, aQ, Mb3] at h
  split at h
  ·rename_i x' m' ver hk
   simp only [aA, aI, Mbx, aC, Option.some.injEq] at h
   obtain ⟨_, h1, rfl⟩ := h
   split at h1
   case isFalse => cases h1
   rename_i hb
   simp only [Mby, Nb7, Nbu] at hb
   obtain ⟨hb, rfl⟩ := hb
   refine ⟨?_, ⟨⟨_, rfl⟩, fun _ h => Mbz _ h, fun _ h => h, ⟨[], by simp [wX]⟩, fun _ h => h⟩, by simp [wX], rfl⟩
   rw [hZ.get (l := A.xs) rfl]
   simp only [aB] at hl
   have hp := (hl.2 fun z hz => by
    simp only [Mb9] at hz
    subst hz
    exact ⟨x', m', .live, hk, .inl rfl⟩).2.2
   exact (hp r ver m' rfl ⟨x', hk⟩).give hG (hZ.own _ (by simp [wX])) hb
  ·cases h
 ·cases h
theorem Ma0 (hR : R E.ntmps F σ ρ a w G) {A B : Fin} {l : aR} (h : (Ma1 A l).eval σ = some B) (hZ : FLe B Z) (hG : Tas Z nbx G G') {v : Value} (hl : aB σ ρ G w l v) :
  Rd (fun b => G'.own b = .frz) w v ((Z.xs.map (·.val ρ)).getD A.xs.length .undef) /\ FLe A B /\ B.xs.length = A.xs.length + 1 /\ B.q = A.q := by
 unfold Ma1 at h
 simp only [aA, Mbx, aC, Option.some.injEq] at h
 obtain ⟨s, h1, rfl⟩ := h
 refine ⟨?_, ⟨⟨_, rfl⟩, fun _ h => h, fun _ h => Mbz _ h, ⟨[], by simp⟩, fun _ h => h⟩, by simp, rfl⟩
 rw [hZ.get (l := A.xs) rfl]
 have hs := dE hR h1 hl
 exact hs.rd.give hG fun z hz => hZ.frz _ (Mb1 _ (Obn hz))
theorem Oa9 (hR : R E.ntmps F σ ρ a w G) {A B : Fin} {s : BO} {l : aR} (h : (Bak A s l).eval σ = some B) (hZ : FLe B Z) (hG : Tas Z nbx G G') {v : Value} (hl : aB σ ρ G w l v) :
  Ba0 G'.own w (Z.xs.map (·.val ρ)) A.xs.length A.q s v /\ FLe A B /\ B.xs.length = A.xs.length + 1 /\ B.q = A.q + s.q := by
 cases s with
 | sc =>
  cases l <;> simp only [Bak, bG, reduceCtorEq] at h
  rename_i x
  simp only [aC, Option.some.injEq] at h
  subst h
  refine ⟨?_, ⟨⟨_, rfl⟩, fun _ h => h, fun _ h => h, ⟨[], by simp⟩, fun _ h => h⟩, by simp, rfl⟩
  simp only [Ba0]
  rw [hZ.get (l := A.xs) rfl]
  simpa [aB] using hl
 | fz =>
  have h' : (Ma1 A l).eval σ = some B := by cases l <;> exact h
  exact Ma0 hR h' hZ hG hl
 | ow m =>
  have h' : (Maz A m l).eval σ = some B := by cases l <;> exact h
  exact Maw hR h' hZ hG hl
 | dead =>
  have h' : (bif Ka6 l then RdM.ret { A with xs := A.xs ++ [.c .hole] } else .no : RdM Fin).eval σ = some B := by cases l <;> exact h
  cases hb : Ka6 l with
  | false => rw [hb] at h'; cases h'
  | true =>
   rw [hb, cond_true] at h'
   simp only [aC, Option.some.injEq] at h'
   subst h'
   exact ⟨hl.one hb, ⟨⟨_, rfl⟩, fun _ h => h, fun _ h => h, ⟨[], by simp⟩, fun _ h => h⟩, by simp, rfl⟩
theorem Aad : ∀ {ss : List BO} {ls : List aR} {A B : Fin}, (gX A ss ls).eval σ = some B -> (∀ {A B : Fin} {s : BO} {l : aR}, (Bak A s l).eval σ = some B -> FLe A B) -> FLe A B
 | [], [], A, B, h, _ => by
  simp only [gX, aC, Option.some.injEq] at h
  subst h
  exact .refl _
 | [], _ :: _, A, B, h, _ => by simp [gX, bG] at h
 | _ :: _, [], A, B, h, _ => by simp [gX, bG] at h
 | s :: ss, l :: ls, A, B, h, hc => by
  simp only [gX, aA, Mbx] at h
  obtain ⟨C, h1, h2⟩ := h
  exact (hc h1).trans (Aad h2 hc)
theorem Qa5 {A B : Fin} {m : Nat} {l : aR} (h : (Maz A m l).eval σ = some B) : FLe A B := by
 unfold Maz at h
 split at h
 ·simp only [aC, Option.some.injEq] at h
  subst h
  exact ⟨⟨_, rfl⟩, fun _ h => h, fun _ h => h, ⟨[], by simp [Qa6]⟩, fun _ h => h⟩
 ·simp only [aA, aQ, Mb3] at h
  split at h
  ·simp only [aA, aI, Mbx, aC, Option.some.injEq] at h
   obtain ⟨_, -, rfl⟩ := h
   exact ⟨⟨_, rfl⟩, fun _ h => Mbz _ h, fun _ h => h, ⟨[], by simp [wX]⟩, fun _ h => h⟩
  ·cases h
 ·simp only [aA, aQ, Mb3] at h
  split at h
  ·simp only [aA, aI, Mbx, aC, Option.some.injEq] at h
   obtain ⟨_, -, rfl⟩ := h
   exact ⟨⟨_, rfl⟩, fun _ h => Mbz _ h, fun _ h => h, ⟨[], by simp [wX]⟩, fun _ h => h⟩
  ·cases h
 ·cases h
theorem Qa7 {A B : Fin} {l : aR} (h : (Ma1 A l).eval σ = some B) : FLe A B := by
 unfold Ma1 at h
 simp only [aA, Mbx, aC, Option.some.injEq] at h
 obtain ⟨s, h1, rfl⟩ := h
 exact ⟨⟨_, rfl⟩, fun _ h => h, fun _ h => Mbz _ h, ⟨[], by simp⟩, fun _ h => h⟩
theorem Taa {A B : Fin} {s : BO} {l : aR} (h : (Bak A s l).eval σ = some B) : FLe A B := by
 cases s with
 | sc =>
  cases l <;> simp only [Bak, bG, reduceCtorEq] at h
  simp only [aC, Option.some.injEq] at h
  subst h
  exact ⟨⟨_, rfl⟩, fun _ h => h, fun _ h => h, ⟨[], by simp⟩, fun _ h => h⟩
 | fz =>
  have h' : (Ma1 A l).eval σ = some B := by cases l <;> exact h
  exact Qa7 h'
 | ow m =>
  have h' : (Maz A m l).eval σ = some B := by cases l <;> exact h
  exact Qa5 h'
 | dead =>
  have h' : (bif Ka6 l then RdM.ret { A with xs := A.xs ++ [.c .hole] } else .no : RdM Fin).eval σ = some B := by cases l <;> exact h
  cases hb : Ka6 l with
  | false => rw [hb] at h'; cases h'
  | true =>
   rw [hb, cond_true] at h'
   simp only [aC, Option.some.injEq] at h'
   subst h'
   exact ⟨⟨_, rfl⟩, fun _ h => h, fun _ h => h, ⟨[], by simp⟩, fun _ h => h⟩
theorem qY {ss : List BO} {ls : List aR} {A B : Fin} (h : (gX A ss ls).eval σ = some B) : FLe A B := Aad h fun h => Taa h
theorem uN (hR : R E.ntmps F σ ρ a w G) (hG : Tas Z nbx G G') {ad : Addr} : ∀ {ss : List BO} {ls : List aR} {A B : Fin} {off : Nat}, (gX A ss ls).eval σ = some B -> FLe B Z ->
  (∀ j l, ls[j]? = some l -> ∃ v, w.cell? (ad.add (off + j)) = some v /\ w.frozen? (ad.add (off + j)) = false /\ aB σ ρ G w l v) ->
  Aax G'.own w (Z.xs.map (·.val ρ)) ad off A.xs.length A.q ss /\ B.xs.length = A.xs.length + ss.length /\ B.q = A.q + qC ss
 | [], [], A, B, off, h, _, _ => by
  simp only [gX, aC, Option.some.injEq] at h
  subst h
  exact ⟨trivial, rfl, rfl⟩
 | [], _ :: _, A, B, off, h, _, _ => by simp [gX, bG] at h
 | _ :: _, [], A, B, off, h, _, _ => by simp [gX, bG] at h
 | s :: ss, l :: ls, A, B, off, h, hZ, hl => by
  simp only [gX, aA, Mbx] at h
  obtain ⟨C, h1, h2⟩ := h
  obtain ⟨v, h3, h4, h5⟩ := hl 0 l rfl
  obtain ⟨h6, h7, h8, h9⟩ := Oa9 hR h1 ((qY h2).trans hZ) hG h5
  obtain ⟨h10, h11, h12⟩ := uN hR hG (off := off + 1) h2 hZ fun j l' hj => by
   have := hl (j + 1) l' (by simpa using hj)
   rwa [show off + (j + 1) = off + 1 + j by omega] at this
  rw [h8, h9] at h10
  exact ⟨⟨⟨v, h3, h4, h6⟩, h10⟩, by rw [h11, h8]; simp; omega, by rw [h12, h9]; simp only [qC]; omega⟩
end
end Go.Proofs.YtpgnlmfmlffjcaaGreat.Rf

namespace Go.Proofs.YtpgnlmfmlffjcaaGreat.Rf
set_option linter.unusedVariables false
set_option linter.unusedSimpArgs false
def Abu (tmps : Array Value) : ResultVar -> Sem Value
 | .tmp t => pure (tmps.getD t undef)
 | .cell a t => do loadVar t (<- asAddr (tmps.getD a undef))
def Caa (P : Program) (tmps : Array Value) (w : World) (x : ResultVar) : Value := match (Abu tmps x).run P w with
 | .ok v _ => v
 | _ => undef
theorem Las {P : Program} {tmps : Array Value} {w : World} {x : ResultVar} {v : Value} (h : (Abu tmps x).run P w = .ok v w) : Caa P tmps w x = v /\ (Abu tmps x).run P w = .ok (Caa P tmps w x) w := by
 have : Caa P tmps w x = v := by unfold Caa; rw [h]
 exact ⟨this, by rw [this]; exact h⟩
theorem Uaj (vs : Array Value) : (if h : vs.size = 1 then vs[0] else Value.tuple vs) = Ba9 vs.toList := by
 obtain ⟨l⟩ := vs
 match l with
 | [] => rfl
 | [u] => rfl
 | u :: v :: r => simp [Ba9]
section
variable {P : Program} {E : Env} {F : bB} {σ : Nat -> Option aP} {ρ : List D} {a : Act} {w : World} {G G' : Gh} {cf : Nat -> List D -> Option (List D)} {Z : Fin} {nbx nv : Nat}
theorem Sa9 {A B : Fin} {s : LR} {l : aR} (h : (Fak nv A s l).eval σ = some B) : FLe A B := by
 unfold Fak at h
 split at h
 ·simp only [aC, Option.some.injEq] at h
  subst h
  exact ⟨⟨_, rfl⟩, fun _ h => h, fun _ h => h, ⟨[], by simp⟩, fun _ h => h⟩
 ·exact Qa7 h
 ·exact Qa5 h
 ·simp only [aC, Option.some.injEq] at h
  subst h
  exact ⟨⟨_, rfl⟩, fun _ h => h, fun _ h => h, ⟨[], by simp⟩, fun _ h => h⟩
 ·simp only [aA, Mbx, aC, Option.some.injEq] at h
  obtain ⟨d, -, rfl⟩ := h
  exact ⟨⟨_, rfl⟩, fun _ h => h, fun _ h => Mbz _ h, ⟨[], by simp⟩, fun _ h => h⟩
 ·simp only [aA, Mbx, aC, Option.some.injEq] at h
  obtain ⟨d, -, rfl⟩ := h
  exact ⟨⟨_, rfl⟩, fun _ h => h, fun _ h => Mbz _ h, ⟨_, rfl⟩, fun _ h => h⟩
 ·cases h
theorem Oa8 (hR : R E.ntmps F σ ρ a w G) (hst : aK cf ρ none nv Z.lets) {A B : Fin} {s : LR} {l : aR} (h : (Fak nv A s l).eval σ = some B) (hZ : FLe B Z) (hG : Tas Z nbx G G') {v : Value} (hl : aB σ ρ G w l v) :
  kE G'.own w (Z.xs.map (·.val ρ)) nbx A.xs.length A.q s v /\ B.xs.length = A.xs.length + s.n /\ B.q = A.q + s.q := by
 unfold Fak at h
 split at h
 ·simp only [aC, Option.some.injEq] at h
  subst h
  refine ⟨?_, by simp [LR.n], rfl⟩
  simp only [kE]
  rw [hZ.get (l := A.xs) rfl]
  simpa [aB] using hl
 ·obtain ⟨h1, -, h2, h3⟩ := Ma0 hR h hZ hG hl
  exact ⟨h1, h2, h3⟩
 ·obtain ⟨h1, -, h2, h3⟩ := Maw hR h hZ hG hl
  exact ⟨h1, h2, h3⟩
 ·simp only [aC, Option.some.injEq] at h
  subst h
  refine ⟨?_, by simp [LR.n], rfl⟩
  simp only [kE]
  rw [hZ.get (l := A.xs) rfl]
  simp only [aB] at hl
  exact ⟨by rw [hl]; rfl, .inl ⟨hl, _, rfl⟩⟩
 ·rename_i z deps z' x
  simp only [aA, Mbx, aC, Option.some.injEq] at h
  obtain ⟨ds, h1, rfl⟩ := h
  refine ⟨?_, by simp [LR.n], rfl⟩
  simp only [kE]
  rw [hZ.get (l := A.xs) rfl]
  simp only [aB] at hl
  obtain ⟨h3, h4, h5⟩ := gP h1
  refine ⟨hl.1.1, ?_⟩
  rcases hl.2 h3 with h6 | ⟨ad, row, h6, h7, h8⟩
  ·exact .inl h6
  ·exact .inr ⟨ad, row, h6, h7, (h8.drop hR h5).give hG fun z hz => hZ.frz _ (Mb1 _ (Obn hz))⟩
 ·rename_i z l' z' ix
  simp only [aA, Mbx, aC, Option.some.injEq] at h
  obtain ⟨sl, h1, rfl⟩ := h
  refine ⟨?_, by simp [LR.n], rfl⟩
  simp only [kE]
  rw [hZ.get (l := A.xs) rfl]
  simp only [aB] at hl
  obtain ⟨ad, n, cp, ik, iv, h3, h4, h5, h6, h7⟩ := hl
  have hs := dE hR h1 h3
  obtain ⟨lr, hlr⟩ := hZ.lets
  dsimp only at hlr
  rw [hlr, Mb7] at hst
  have hst1 := (aK.append hst).2
  have hst2 : aK cf ρ none (nv + bA A.lets) [.prim (.one z') [sl.x, ix] 1] := (aK.append hst1).1
  obtain ⟨d, hrun, hd⟩ := eH hst2 rfl
  simp only [Nbm, Nbv, h4] at hrun
  have hrow : ∃ sz rs r, sl.x.val ρ = .rows sz rs /\ sz = z' /\ rs[iv.toNat]? = some r /\ d = .rows z' [r] := by
   cases hx : sl.x.val ρ with
   | rows sz rs =>
    rw [hx] at hrun
    simp only [aO.run] at hrun
    split at hrun
    ·rename_i hc
     split at hrun
     ·rename_i r hr
      simp only [Option.some.injEq, List.cons.injEq, and_true] at hrun
      exact ⟨sz, rs, r, rfl, hc.1, hr, hrun.symm⟩
     ·cases hrun
    ·cases hrun
   | _ => rw [hx] at hrun; simp [aO.run] at hrun
  obtain ⟨sz, rs, r, hx, rfl, hr, rfl⟩ := hrow
  have hrd := hs.rd
  rw [hx] at hrd
  obtain ⟨A', b, n', c', vs, e1, e2, e3, e4, e5, e6, e7⟩ := hrd.inv
  injection e1 with e1 e1' e1''
  have hlt : iv.toNat < rs.length := (List.getElem?_eq_some_iff.1 hr).1
  have hA : some ad = some b := by rw [e1]; exact e4.resolve_left (by omega)
  obtain rfl := Option.some.inj hA
  have hrl : r.length = sz := e5 r (Nbe hr)
  refine ⟨by rw [h7]; rfl, .inr ⟨_, r, h7, by rw [hd, hrl], ?_⟩⟩
  have : Rd (allow G sl.deps) w (.slice (some (ad.add (iv.toNat * sz + 0))) 1 1) (.rows r.length [r]) := by
   refine .rows _ (ad.add (iv.toNat * sz + 0)) 1 1 r.length [r] (fun _ j => vs iv.toNat j) rfl (Nbd _) (.inr rfl) (by simp) (fun i0 r0 hi0 j d0 hj => ?_) (fun i0 r0 hi0 j d0 hj => ?_)
   ·cases i0 with
    | zero =>
     simp only [Mb5, Option.some.injEq] at hi0
     subst hi0
     obtain ⟨k1, k2⟩ := e6 _ _ hr j d0 hj
     refine ⟨by rw [add_block]; exact k1, ?_⟩
     rw [add_add]
     rw [show iv.toNat * sz + 0 + (0 * r.length + j) = iv.toNat * sz + j by omega]
     exact k2
    | succ i0 => simp at hi0
   ·cases i0 with
    | zero =>
     simp only [Mb5, Option.some.injEq] at hi0
     subst hi0
     exact e7 _ _ hr j d0 hj
    | succ i0 => simp at hi0
  exact this.give hG fun z hz => hZ.frz _ (Mb1 _ (Obn hz))
 ·cases h
theorem nX : ∀ {ss : List LR} {ls : List aR} {A B : Fin}, (fP nv A ss ls).eval σ = some B -> FLe A B
 | [], [], A, B, h => by
  simp only [fP, aC, Option.some.injEq] at h
  subst h
  exact .refl _
 | [], _ :: _, A, B, h => by simp [fP, bG] at h
 | _ :: _, [], A, B, h => by simp [fP, bG] at h
 | s :: ss, l :: ls, A, B, h => by
  simp only [fP, aA, Mbx] at h
  obtain ⟨C, h1, h2⟩ := h
  refine FLe.trans ?_ (nX h2)
  split at h1
  ·rename_i cs b
   simp only [aA, aQ, Mb3] at h1
   split at h1
   ·have h0 : FLe A { A with bxs := A.bxs ++ [b] } := ⟨⟨[], by simp⟩, fun _ h => h, fun _ h => h, ⟨[], by simp⟩, fun _ h => Mbz _ h⟩
    exact FLe.trans h0 (qY h1)
   ·cases h1
  ·exact Sa9 h1
theorem qX (hR : R E.ntmps F σ ρ a w G) (hst : aK cf ρ none nv Z.lets) (hG : Tas Z nbx G G') : ∀ {ss : List LR} {ls : List aR} {A B : Fin} {vs : List Value}, (fP nv A ss ls).eval σ = some B -> FLe B Z -> aD σ ρ G w ls vs ->
  nJ G'.own w (Z.xs.map (·.val ρ)) nbx A.xs.length A.q ss vs /\ B.xs.length = A.xs.length + kY ss /\ B.q = A.q + qL ss
 | [], [], A, B, vs, h, _, hl => by
  simp only [fP, aC, Option.some.injEq] at h
  subst h
  simp only [aD] at hl
  exact ⟨hl, rfl, rfl⟩
 | [], _ :: _, A, B, vs, h, _, _ => by simp [fP, bG] at h
 | _ :: _, [], A, B, vs, h, _, _ => by simp [fP, bG] at h
 | s :: ss, l :: ls, A, B, vs, h, hZ, hl => by
  simp only [fP, aA, Mbx] at h
  obtain ⟨C, h1, h2⟩ := h
  simp only [aD] at hl
  obtain ⟨u, us, rfl, h3, h4⟩ := hl
  have hCZ : FLe C Z := (nX h2).trans hZ
  have key : kE G'.own w (Z.xs.map (·.val ρ)) nbx A.xs.length A.q s u /\ C.xs.length = A.xs.length + s.n /\ C.q = A.q + s.q := by
   split at h1
   ·rename_i cs b
    simp only [aA, aQ, Mb3] at h1
    split at h1
    ·rename_i bs hk
     obtain ⟨h5, h6, h7⟩ := hR.box hk
     simp only [Mb6, if_false] at h6
     obtain ⟨h8, h9, h10⟩ := uN hR hG (ad := G.bx b) (off := 0) h1 hCZ fun j l hj => by rw [Nbt]; exact h7 j l hj
     refine ⟨?_, h9, h10⟩
     simp only [aB] at h3
     simp only [kE]
     exact ⟨G.bx b, h3.1, h5, hG.bxs b (hCZ.bxs _ ((qY h1).bxs _ (Mb1 _ (List.mem_singleton.2 rfl)))) _ h6, h8⟩
    ·cases h1
   ·exact Oa8 hR hst h1 hCZ hG h3
  obtain ⟨h5, h6, h7⟩ := key
  obtain ⟨h8, h9, h10⟩ := qX hR hst hG h2 hZ h4
  rw [h6, h7] at h8
  exact ⟨⟨u, us, rfl, h5, h8⟩, by rw [h9, h6]; simp only [kY]; omega, by rw [h10, h7]; simp only [qL]; omega⟩
theorem Aac : ∀ {rs : List (Bool × List LR)} {vars : List ResultVar} {A B : Fin}, (mZ E nv A rs vars).eval σ = some B -> FLe A B
 | [], [], A, B, h => by
  simp only [mZ, aC, Option.some.injEq] at h
  subst h
  exact .refl _
 | [], _ :: _, A, B, h => by simp [mZ, bG] at h
 | _ :: _, [], A, B, h => by simp [mZ, bG] at h
 | (ag, ss) :: rs, .tmp t :: vars, A, B, h => by
  simp only [mZ, aA, aQ, Mb3] at h
  split at h
  ·simp only [aA, Mbx] at h
   obtain ⟨_, -, ls, -, C, h1, h2⟩ := h
   exact (nX h1).trans (Aac h2)
  ·cases h
 | (ag, ss) :: rs, .cell t ty :: vars, A, B, h => by
  simp only [mZ, aA, Mbx] at h
  obtain ⟨ti, -, _, -, _, -, h⟩ := h
  split at h
  ·simp only [aA, aQ, Mb3] at h
   split at h
   ·simp only [aA, Mbx] at h
    obtain ⟨C, h1, h2⟩ := h
    exact (nX h1).trans (Aac h2)
   ·cases h
  ·cases h
theorem Mar {n t : Nat} {gh : Nat -> Value} (h : t < n) : a.tmps.getD t undef = yB n a gh t := by
 unfold yB
 rw [if_pos h]
theorem Baj (hti : sP P E.ti) (hR : R E.ntmps F σ ρ a w G) (hst : aK cf ρ none nv Z.lets) (hG : Tas Z nbx G G') : ∀ {rs : List (Bool × List LR)} {vars : List ResultVar} {A B : Fin}, (mZ E nv A rs vars).eval σ = some B -> FLe B Z ->
  (∀ x ∈ vars, (Abu a.tmps x).run P w = .ok (Caa P a.tmps w x) w) /\ Iak G'.own w (Z.xs.map (·.val ρ)) nbx A.xs.length A.q rs (vars.map (Caa P a.tmps w)) /\ B.xs.length = A.xs.length + bC rs /\ B.q = A.q + qR rs
 | [], [], A, B, h, _ => by
  simp only [mZ, aC, Option.some.injEq] at h
  subst h
  exact ⟨by simp, rfl, rfl, rfl⟩
 | [], _ :: _, A, B, h, _ => by simp [mZ, bG] at h
 | _ :: _, [], A, B, h, _ => by simp [mZ, bG] at h
 | (ag, ss) :: rs, .tmp t :: vars, A, B, h, hZ => by
  simp only [mZ, aA, aQ, Mb3] at h
  split at h
  case h_2 => cases h
  rename_i sv hk
  simp only [aA, Mbx, aI, aT] at h
  obtain ⟨_, h0, ls, h1, C, h2, h3⟩ := h
  split at h0
  case isFalse => cases h0
  rename_i ht
  simp only [Nb6] at ht
  have hv := hR.slot hk rfl
  rw [<- Mar ht] at hv
  have hrun : (Abu a.tmps (.tmp t)).run P w = .ok (a.tmps.getD t undef) w := rfl
  obtain ⟨e1, e2⟩ := Las hrun
  have hC := (Aac h3).trans hZ
  obtain ⟨h4, h5, h6⟩ := qX hR hst hG h2 hC (gB h1 hv)
  obtain ⟨h7, h8, h9, h10⟩ := Baj hti hR hst hG h3 hZ
  rw [h5, h6] at h8
  refine ⟨fun x hx => ?_, ⟨_, _, _, rfl, h4, ?_, h8⟩, by rw [h9, h5]; simp only [bC]; omega, by rw [h10, h6]; simp only [qR]; omega⟩
  ·rcases List.mem_cons.1 hx with rfl | hx
   ·exact e2
   ·exact h7 x hx
  ·rw [e1]
   unfold iQ at h1
   split at h1
   ·cases ag with
    | true => cases h1
    | false =>
     rw [aB.cells hv]
     simp
   ·cases ag with
    | false => cases h1
    | true =>
     obtain ⟨us, e, -⟩ := hv
     rw [e]
     simp [Value.cells]
   ·cases h1
 | (ag, ss) :: rs, .cell t ty :: vars, A, B, h, hZ => by
  simp only [mZ, aA, Mbx, aT, aI, aQ] at h
  obtain ⟨ti, h0, _, h1, c, hc, h⟩ := h
  obtain rfl := Option.some.inj hc
  split at h1
  case isFalse => cases h1
  rename_i hb
  simp only [Mby, beq_iff_eq, Nbu, Oba, Nb6] at hb
  obtain ⟨⟨⟨hag, hsz⟩, hone⟩, ht⟩ := hb
  split at h
  case h_2 => cases h
  rename_i b off hk
  simp only [aA, aQ, Mb3] at h
  split at h
  case h_2 => cases h
  rename_i ro ls hkb
  simp only [aA, Mbx] at h
  obtain ⟨C, h2, h3⟩ := h
  have hv : aB σ ρ G w (.px b off) _ := hR.slot hk rfl
  rw [<- Mar ht] at hv
  simp only [aB] at hv
  obtain ⟨hb1, hb2, hb3⟩ := hR.box hkb
  obtain ⟨vs, h4, h5⟩ := jZ (σ := σ) (ρ := ρ) (G := G) (w := w) ((G.bx b).add off) ((ls.drop off).take ti.size) 0 fun j l hj => by
   rw [List.getElem?_take] at hj
   split at hj
   ·rw [Nby] at hj
    obtain ⟨v, h6, -, h7⟩ := hb3 _ _ hj
    exact ⟨v, by rw [add_add, Nbt]; exact h6, h7⟩
   ·cases hj
  have hC := (Aac h3).trans hZ
  obtain ⟨h6, h7, h8⟩ := qX hR hst hG h2 hC h4
  have hlen : vs.length = ti.size := by
   have hfl : ∀ {ss : List LR} {vs : List Value} {i q : Nat}, nJ G'.own w (Z.xs.map (·.val ρ)) nbx i q ss vs -> vs.length = ss.length := by
    intro ss
    induction ss with
    | nil => intro vs i q h; simp only [nJ] at h; subst h; rfl
    | cons s ss ih =>
     intro vs i q h
     obtain ⟨u, us, rfl, -, h⟩ := h
     simp [ih h]
   rw [hfl h6, hsz]
  obtain ⟨info, ud, hf⟩ := aU (hti.ok _ _ h0)
  have hval : ∃ v, if ti.agg = true then v = .agg vs.toArray else vs = [v] := by
   cases hta : ti.agg with
   | true => exact ⟨_, by rw [if_pos rfl]⟩
   | false =>
    rw [hta] at hone
    simp only [Mb6, false_or] at hone
    rw [hone] at hlen
    match vs, hlen with
    | [v], _ => exact ⟨v, by simp⟩
  obtain ⟨v, hval⟩ := hval
  have hload := jD hf ((G.bx b).add off) vs hlen (fun j u hj => by have := h5 j u hj; rwa [Nbt] at this) hval
  have hrun : (Abu a.tmps (.cell t ty)).run P w = .ok v w := by
   show (do loadVar ty (<- asAddr (a.tmps.getD t undef)) : Sem Value).run P w = .ok v w
   rw [hv.1]
   simp only [asAddr, Sem.run_bind, Sem.run_pure, Result.andThen_ok]
   exact hload
  obtain ⟨e1, e2⟩ := Las hrun
  obtain ⟨h9, h10, h11, h12⟩ := Baj hti hR hst hG h3 hZ
  rw [h7, h8] at h10
  refine ⟨fun x hx => ?_, ⟨_, _, vs, rfl, h6, ?_, h10⟩, by rw [h11, h7]; simp only [bC]; omega, by rw [h12, h8]; simp only [qR]; omega⟩
  ·rcases List.mem_cons.1 hx with rfl | hx
   ·exact e2
   ·exact h9 x hx
  ·rw [e1, hag]; exact hval
theorem Faj {t : Nat} : ∀ {ms : List Nat} {j : Nat} {A B : Fin}, (Cao t j ms A).eval σ = some B -> FLe A B
 | [], j, A, B, h => by
  simp only [Cao, aC, Option.some.injEq] at h
  subst h
  exact .refl _
 | d :: ms, j, A, B, h => by
  simp only [Cao, aA, aQ, Mb3] at h
  split at h
  case h_2 => cases h
  rename_i r hk
  simp only [aA, aQ, Mb3] at h
  split at h
  case h_2 => cases h
  rename_i x m ver hkr
  simp only [aA, Mbx] at h
  obtain ⟨_, -, h⟩ := h
  have h0 : FLe A { A with xs := A.xs ++ [x], own := A.own ++ [(r, 2 * j + 1, d)] } := ⟨⟨_, rfl⟩, fun _ h => Mbz _ h, fun _ h => h, ⟨[], by simp⟩, fun _ h => h⟩
  exact h0.trans (Faj h)
theorem Ha7 (hR : R E.ntmps F σ ρ a w G) (hG : Tas Z nbx G G') : ∀ {ms : List Nat} {j : Nat} {A B : Fin}, (Cao E.ntmps j ms A).eval σ = some B -> FLe B Z ->
  Ran G'.own w (Z.xs.map (·.val ρ)) F.gh A.xs.length j ms /\ B.xs.length = A.xs.length + ms.length /\ B.q = A.q
 | [], j, A, B, h, _ => by
  simp only [Cao, aC, Option.some.injEq] at h
  subst h
  exact ⟨trivial, rfl, rfl⟩
 | d :: ms, j, A, B, h, hZ => by
  simp only [Cao, aA, aQ, Mb3] at h
  split at h
  case h_2 => cases h
  rename_i r hk
  simp only [aA, aQ, Mb3] at h
  split at h
  case h_2 => cases h
  rename_i x m ver hkr
  simp only [aA, Mbx, aI] at h
  obtain ⟨_, h0, h⟩ := h
  split at h0
  case isFalse => cases h0
  rename_i hb
  simp only [Nb7] at hb
  have hv : aB σ ρ G w (.ex r) _ := hR.slot hk rfl
  have e : yB E.ntmps a F.gh (E.ntmps + j) = F.gh j := by
   unfold yB
   rw [if_neg (by omega), Nbx]
  rw [e] at hv
  simp only [aB] at hv
  have hC := (Faj h).trans hZ
  obtain ⟨h1, h2, h3⟩ := Ha7 hR hG h hZ
  simp only [List.length_append, List.length_singleton] at h1 h2
  refine ⟨⟨?_, h1⟩, by rw [h2]; simp; omega, h3⟩
  rw [hC.get (l := A.xs) rfl, hv.1]
  have hr := hR.root hkr
  simp only [bJ] at hr
  exact hr.give hG (hC.own _ (Mb1 _ (List.mem_singleton.2 rfl))) hb
theorem qZ {t : Nat} : ∀ {bs : List (Bool × List (BS × BO))} {b : Nat} {A B : Fin}, (nY t A b bs).eval σ = some B -> FLe A B
 | [], b, A, B, h => by
  simp only [nY, aC, Option.some.injEq] at h
  subst h
  exact .refl _
 | (ro, cs) :: bs, b, A, B, h => by
  simp only [nY] at h
  cases ro with
  | true => exact qZ h
  | false =>
   simp only [cond_false, aA, aQ, Mb3] at h
   split at h
   ·simp only [aA, aQ, Mb3, Mbx] at h
    obtain ⟨_, -, h⟩ := h
    split at h
    ·simp only [aA, Mbx] at h
     obtain ⟨C, h1, h2⟩ := h
     exact (qY h1).trans (qZ h2)
    ·cases h
   ·cases h
theorem uO (hR : R E.ntmps F σ ρ a w G) (hG : Tas Z nbx G G') {nm : Nat} {bx : Nat -> Addr} {nb : Nat} (hgh : ∀ b, b < nb -> F.gh (nm + b) = .pointer (some (bx b))) : ∀ {bs : List (Bool × List (BS × BO))} {b : Nat} {A B : Fin}, b + bs.length <= nb -> (nY (E.ntmps + nm) A b bs).eval σ = some B -> FLe B Z ->
  kF G'.own w (Z.xs.map (·.val ρ)) bx b A.xs.length A.q bs
 | [], b, A, B, _, h, _ => trivial
 | (ro, cs) :: bs, b, A, B, hnb, h, hZ => by
  simp only [Nbc] at hnb
  simp only [nY] at h
  cases ro with
  | true =>
   simp only [kF, if_true]
   exact uO hR hG hgh (by omega) h hZ
  | false =>
   simp only [kF, Mb6, if_false]
   simp only [cond_false, aA, aQ, Mb3] at h
   split at h
   case h_2 => cases h
   rename_i b' hk
   simp only [aA, aQ, Mb3, Mbx, aI] at h
   obtain ⟨_, h0, h⟩ := h
   split at h0
   case isFalse => cases h0
   rename_i hb
   simp only [Nbu] at hb
   subst hb
   split at h
   case h_2 => cases h
   rename_i ls hkb
   simp only [aA, Mbx] at h
   obtain ⟨C, h1, h2⟩ := h
   have hv : aB σ ρ G w (.px b' 0) _ := hR.slot hk rfl
   have e : yB E.ntmps a F.gh (E.ntmps + nm + b') = F.gh (nm + b') := by
    unfold yB
    rw [if_neg (by omega)]
    congr 1
    omega
   rw [e, hgh b' (by omega)] at hv
   simp only [aB] at hv
   have hbx : bx b' = G.bx b' := by
    have := hv.1
    injection this with this
    injection this
   obtain ⟨h5, h6, h7⟩ := hR.box hkb
   obtain ⟨h8, h9, h10⟩ := uN hR hG (ad := G.bx b') (off := 0) h1 ((qZ h2).trans hZ) fun j l hj => by rw [Nbt]; exact h7 j l hj
   have h11 := uO hR hG hgh (b := b' + 1) (by omega) h2 hZ
   rw [h9, h10, Nbb] at h11
   rw [hbx]
   exact ⟨h8, h11⟩
end
theorem Aaj : ∀ {l : List (Nat × Nat × Nat)} {r t m : Nat}, distinct (l.map (·.1)) = true -> (r, t, m) ∈ l -> l.find? (fun z => Nat.beq z.1 r) = some (r, t, m)
 | [], r, t, m, _, h => by simp at h
 | (r', t', m') :: l, r, t, m, hd, h => by
  simp only [Nbm, distinct, Mby, Nbp] at hd
  rcases List.mem_cons.1 h with h1 | h1
  ·obtain ⟨rfl, rfl, rfl⟩ : r = r' /\ t = t' /\ m = m' := by simpa using h1
   simp
  ·have hne : Nat.beq r' r = false := by
    cases e : Nat.beq r' r with
    | false => rfl
    | true =>
     simp only [Nbu] at e
     subst e
     have : has (l.map (·.1)) r' = true := kL.2 (List.mem_map.2 ⟨_, h1, rfl⟩)
     rw [hd.1] at this
     cases this
   rw [List.find?_cons_of_neg (by simp [hne])]
   exact Aaj hd.2 h1
def Ja0 (Z : Fin) (nbx : Nat) (G : Gh) : Gh := { G with own := fun b => match G.own b with
 | .slc r p => (match Z.own.find? (fun z => Nat.beq z.1 r) with
  | some (_, t, m) => if p.length < m then .slc t p else .frz
  | none => if r ∈ Z.frz then .frz else .oth)
 | .box β => if β < nbx then .box β else if β ∈ Z.bxs then .box nbx else .oth
 | o => o }
theorem Zac {Z : Fin} {nbx : Nat} {G : Gh} (hd : distinct (Z.own.map (·.1)) = true) (hm : meets (Z.own.map (·.1)) Z.frz = false) (hb : (Z.bxs.any fun b => Nat.blt b nbx) = false) : Tas Z nbx G (Ja0 Z nbx G) := by
 refine ⟨fun b hb => by simp only [Ja0, hb], fun r t m hz b p hb => ?_, fun r hr b p hb => ?_, fun β hβ b hbb => ?_⟩
 ·simp only [Ja0, hb, Aaj hd hz]
 ·have : Z.own.find? (fun z => Nat.beq z.1 r) = none := by
   rw [List.find?_eq_none]
   intro z hz e
   simp only [Nbu] at e
   exact mM hm (List.mem_map.2 ⟨z, hz, rfl⟩) (by rw [e]; exact hr)
  simp only [Ja0, hb, this, if_pos hr]
 ·rw [Pbj] at hb
  have := hb β hβ
  simp only [Nb6] at this
  simp only [Ja0, hbb, if_neg this, if_pos hβ]
section
variable {P : Program} {E : Env} {F : bB} {ρ : List D} {cf : Nat -> List D -> Option (List D)}
theorem Sa8 (hti : sP P E.ti) {s : Sig} {rvars : List ResultVar} {st : St} {t : Tm St} (h : finish E s rvars st = some t) {o : Out St} (ho : Ec cf t ρ = some o) (hl : ρ.length = st.nv) (hi : Fa7 E st) :
  o.kind = .ret /\ ∀ a w G (fn : Func) (bx : Nat -> Addr), fn.results.toList = rvars -> (∀ b, b < s.boxes.length -> F.gh ((dF (s.params.flatMap (·.2))).length + b) = .pointer (some (bx b))) ->
   (∀ b j, b < F.w0.heap.size -> F.own0 b = .box j -> j < s.boxes.length) -> R E.ntmps F st.get ρ a w G ->
   ∃ v, (results fn a.tmps).run P w = .ok v w /\ Kan s F bx v w o.vals := by
 unfold finish at h
 split at h
 case h_2 => cases h
 rename_i Z hZ
 generalize hb : (distinct (Z.own.map (·.1)) && !(meets (Z.own.map (·.1)) Z.frz) && !(Z.bxs.any fun b => Nat.blt b s.boxes.length) && dM st.nv Z.lets) = b at h
 cases b with
 | false => cases h
 | true =>
  rw [cond_true] at h
  obtain rfl := Option.some.inj h
  simp only [Mby, Nbp] at hb
  obtain ⟨⟨⟨hb1, hb2⟩, hb3⟩, hb4⟩ := hb
  obtain ⟨ds, h4, h5, h6⟩ := sU (g := none) rfl (by rw [hl]; exact hb4) ho
  rw [eG] at h5
  obtain rfl := Option.some.inj h5
  refine ⟨rfl, fun a w G fn bx hfn hgh hbox hR => ?_⟩
  have hst := h6 []
  rw [Nbo, hl] at hst
  have hR := hR.ext hi.sc (by omega) ds
  have hG := Zac (G := G) hb1 hb2 hb3
  simp only [Abv, aA, Mbx] at hZ
  obtain ⟨A, h7, B, h8, h9⟩ := hZ
  have hB := qZ h9
  have hA := (Faj h8).trans hB
  obtain ⟨h10, h11, h12, h13⟩ := Baj (cf := cf) hti hR hst hG h7 hA
  obtain ⟨h14, h15, h16⟩ := Ha7 hR hG h8 hB
  have h17 := uO hR hG hgh (b := 0) (by omega) h9 (.refl _)
  simp only [Nbj, Nbt] at h11 h12 h13
  rw [h12] at h14 h15
  rw [h15, h16, h13] at h17
  refine ⟨Ba9 (fn.results.toList.map (Caa P a.tmps w)), ?_, Ja0 Z s.boxes.length G, _, by rw [hfn], ?_, h11, h14, h17⟩
  ·have hm : (fn.results.mapM (Abu a.tmps)).run P w = .ok (fn.results.map (Caa P a.tmps w)) w := wO _ _ _ (by rw [hfn]; exact h10)
   have e : results fn a.tmps = (do let vs <- fn.results.mapM (Abu a.tmps); pure (if h : vs.size = 1 then vs[0] else Value.tuple vs)) := rfl
   rw [e, Sem.run_bind, hm]
   simp only [Result.andThen_ok, Sem.run_pure]
   rw [Uaj, Array.toList_map]
  ·refine ⟨hR.frame.os, hR.frame.tape, hR.frame.output, hR.frame.size, fun b hb ho => ?_, fun b j hb ho => ?_, fun b hb => ?_⟩
   ·obtain ⟨h18, h19⟩ := hR.frame.keep b hb ho
    refine ⟨h18, ?_⟩
    rcases ho with ho | ho <;> rw [ho] at h19 ⊢ <;> simp only [Ja0, h19]
   ·obtain ⟨h18, h19⟩ := hR.frame.boxes b j hb ho
    refine ⟨?_, h19⟩
    simp only [Ja0, h18, if_pos (hbox b j hb ho)]
   ·simp only [Ja0, hR.frame.fresh b hb]
end
end Go.Proofs.YtpgnlmfmlffjcaaGreat.Rf

namespace Go.Proofs.YtpgnlmfmlffjcaaGreat.Rf
set_option linter.unusedVariables false
set_option linter.unusedSimpArgs false
def Goes (P : Program) (f : Nat) (args : Array Value) (w : World) (K : Value -> World -> Prop) : Prop :=
 ((callFunc f args).run P w = .ok (.enter f args) w /\ Calls P f args w fun
  | .returned v, w' => K v w'
  | _, _ => False) \/ ∃ v w', (callFunc f args).run P w = .ok (.value v) w' /\ K v w'
def rP (P : Program) (T : Nat -> Ent) (n key : Nat) (s : Sig) : Prop :=
 ∀ vals w G ds ds', Xap s vals w G ds -> iV T n key ds = some ds' -> Goes P s.fn vals.toArray w fun v w' => Kan s (nG s G w) G.bx v w' ds'
def Aay (P : Program) (X : (Nat -> Ow) -> World -> Prop) (T : Nat -> Ent) (n key : Nat) (s : Sig) : Prop :=
 ∀ vals w G ds ds', Xap s vals w G ds -> X G.own w -> iV T n key ds = some ds' -> Goes P s.fn vals.toArray w fun v w' => Kan s (nG s G w) G.bx v w' ds'
def Stable (X : (Nat -> Ow) -> World -> Prop) : Prop :=
 ∀ (own0 : Nat -> Ow) (w0 : World) (own : Nat -> Ow) (w : World), w0.heap.size <= w.heap.size -> (∀ b, b < w0.heap.size -> own0 b = .frz -> w.heap[b]? = w0.heap[b]? /\ own b = .frz) -> X own0 w0 -> X own w
theorem fZ {P : Program} {f : FuncId} {fn : Func} {c : Code} (hf : P.funcs[f]? = some fn) (hname : (fn.name == "runtime.NumGoroutine") = false) (hb : fn.body = some c) (args : Array Value) (w : World) :
  (callFunc f args).run P w = .ok (.enter f args) w := by
 have h1 : fn.name ≠ "runtime.NumGoroutine" := by simpa using hname
 simp [callFunc, hf, h1, hb]
theorem Ua2 : ∀ (ss : List LS) (r : Nat), (dN r ss).length = (dF ss).length
 | [], r => rfl
 | s :: ss, r => by
  cases s <;> simp [dN, dF, Ua2 ss]
theorem Lax : ∀ (n a j : Nat), j < n -> (range a n)[j]? = some (a + j)
 | 0, a, j, h => by omega
 | n + 1, a, 0, h => rfl
 | n + 1, a, j + 1, h => by
  simp only [range, Nb2]
  rw [Lax n (a + 1) j (by omega)]
  congr 1
  omega
theorem Xac {s : Sig} {G : Gh} {w : World} {b : Nat} (h : b < s.boxes.length) : (nG s G w).gh ((dF (s.params.flatMap (·.2))).length + b) = .pointer (some (G.bx b)) := by
 simp only [nG, Ea8, Mb4]
 rw [Nbh (by simp [Ua2]), Nbb, Ua2, Nbx, Nbn, Lax _ _ _ h]
 simp
theorem Jaw {P : Program} {X : (Nat -> Ow) -> World -> Prop} {E : Env} {T : Nat -> Ent} {n key : Nat} {s : Sig} {fn : Func} {tm : Tm Unit} (hti : sP P E.ti) (hm : P.follows .mixedOrders = true) (hfn : P.funcs[s.fn]? = some fn) (hname : (fn.name == "runtime.NumGoroutine") = false)
  (hx : Ra2 E s fn = some tm) (hT : T key = .tm tm) (hcalls : ∀ F, X F.own0 F.w0 -> yA P { E with ntmps := fn.ntmps, ngh := lD s } F (iV T n)) : Aay P X T (n + 1) key s := by
 intro vals w G ds ds' hpre hX hrun
 simp only [iV, hT, Mbx] at hrun
 obtain ⟨o, hrun, hret⟩ := hrun
 unfold Bbr at hret
 split at hret
 case isFalse => cases hret
 rename_i hk
 obtain rfl := Option.some.inj hret
 unfold Ra2 at hx
 split at hx
 case h_1 => cases hx
 rename_i c hbody
 cases hle : Nat.ble s.params.length fn.ntmps with
 | false => rw [hle] at hx; cases hx
 | true =>
  rw [hle] at hx
  simp only [Bool.not_true, cond_false, bind, Mbx, Option.some.injEq] at hx
  obtain ⟨tc, htc, t, ht, rfl⟩ := hx
  simp only [Nb7] at hle
  rw [Sag, Option.map_eq_some_iff] at hrun
  obtain ⟨o0, hrun, rfl⟩ := hrun
  have hev : Ec (iV T n) t ds = some o0 := Fa8.2 ⟨n, hrun⟩
  obtain ⟨o1, h1, h2⟩ := jT (fun st r hr ρ o ho => by
   split at hr
   ·rename_i t' hf
    obtain rfl := Option.some.inj hr
    unfold finish at hf
    split at hf
    case h_2 => cases hf
    rename_i Z hZ
    revert hf
    generalize (distinct (Z.own.map (·.1)) && !(meets (Z.own.map (·.1)) Z.frz) && !(Z.bxs.any fun b => Nat.blt b s.boxes.length) && dM st.nv Z.lets) = b
    intro hf
    cases b with
    | false => cases hf
    | true =>
     rw [cond_true] at hf
     obtain rfl := Option.some.inj hf
     exact kI ho
   ·obtain rfl := Option.some.inj hr
    rw [gZ] at ho; cases ho) rfl (fun _ => rfl) ht hev
  rcases h2 with ⟨h2, h3, r, h4, h5⟩ | ⟨h2, h3⟩
  case inr =>
   subst h3
   have hk' : o0.kind = .ret := hk
   rw [hk'] at h2
   cases h2
  unfold Abi at htc
  dsimp only at htc
  generalize hwf : Dav (entry s fn.ntmps) (entry s fn.ntmps).nr _ = b at htc
  cases b with
  | false => simp [iU] at htc
  | true =>
   rw [cond_true] at htc
   have hinv : Fa7 { E with ntmps := fn.ntmps, ngh := lD s } (entry s fn.ntmps) := Wai hwf rfl
   obtain ⟨hlen, hR⟩ := Cbm (n := fn.ntmps) hpre hle
   have hds : ds.length = (entry s fn.ntmps).nv := by rw [(Bal s fn.ntmps).1]; exact hpre.len
   obtain ⟨hp, hw⟩ := oG (E := { E with ntmps := fn.ntmps, ngh := lD s }) (F := nG s G w) hti (hcalls _ hX) hm c htc h1 hds hinv
   refine .inl ⟨fZ hfn hname hbody _ _, ?_⟩
   refine calls_of_wp hfn hbody ?_
   rw [show vals.toArray.size = vals.length by simp]
   refine hw _ w G _ hR fun a' w' G' hR' => ?_
   split at h4
   case h_2 =>
    obtain rfl := Option.some.inj h4
    rw [gZ] at h5; cases h5
   rename_i t' hf
   obtain rfl := Option.some.inj h4
   obtain ⟨h6, h7⟩ := Sa8 (E := { E with ntmps := fn.ntmps, ngh := lD s }) (F := nG s G w) hti hf h5 hp.len hp.inv
   obtain ⟨v, h8, h9⟩ := h7 a' w' G' fn G.bx rfl (fun b hb => Xac hb) (fun b j hb ho => (hpre.cells b j hb ho).1) hR'
   have hd := hR'.defers
   revert h2
   cases o1.kind with
   | fall => exact fun _ => ⟨hd, v, h8, h9⟩
   | ret => exact fun _ => ⟨hd, v, h8, h9⟩
   | exit i => intro h; cases h
   | cont => intro h; cases h
   | yield i => intro h; cases h
end Go.Proofs.YtpgnlmfmlffjcaaGreat.Rf

namespace Go.Proofs.YtpgnlmfmlffjcaaGreat.Rf
set_option linter.unusedVariables false
set_option linter.unusedSimpArgs false
def strip : List Nat -> List Nat -> Option (List Nat)
 | [], p => some p
 | a :: q, b :: p => if a = b then strip q p else none
 | _ :: _, [] => none
theorem Ba6 : ∀ (q t : List Nat), strip q (q ++ t) = some t
 | [], t => rfl
 | a :: q, t => by simp [strip, Ba6 q t]
theorem Ga6 : ∀ {q p t : List Nat}, strip q p = some t -> p = q ++ t
 | [], p, t, h => by simpa [strip] using h
 | a :: q, [], t, h => by simp [strip] at h
 | a :: q, b :: p, t, h => by
  simp only [strip] at h
  split at h
  ·rename_i e
   rw [e, Ga6 h]; rfl
  ·cases h
def Ua0 (w : World) : Value -> List Nat -> Value
 | v, [] => v
 | .slice (some a) _ _, k :: p => Ua0 w ((w.cell? (a.add k)).getD undef) p
 | _, _ :: _ => undef
theorem Bac {own : Nat -> Ow} {w : World} {r : Nat} : ∀ {p q : List Nat} {v u : Value}, yD own w r q v p u -> Ua0 w v p = u
 | [], q, v, u, h => by simp only [yD] at h; rw [h]; cases v <;> rfl
 | k :: p, q, v, u, h => by
  obtain ⟨a, n, c, u', rfl, -, h2, h3⟩ := h
  simp only [Ua0, h2, Obt]
  exact Bac h3
section
variable (ρ : List D) (dr : List Nat)
def kK : Nat -> List RT -> Nat -> List Nat -> Ow
 | _, [], r, _ => if r ∈ dr then .frz else .oth
 | ν, .nil :: t, r, p => kK (ν + 1) t r p
 | ν, .own s d :: t, r, p => if r = s then (if p.length < d then .slc ν p else .frz) else kK (ν + 1) t r p
 | ν, .mu s d q _ :: t, r, p => if r = s then (match strip (aX ρ q) p with | some t' => if t'.length < d then .slc ν t' else .frz | none => .oth) else kK (ν + 1) t r p
end
def Oam (ptrs : List (Nat × Nat × Nat)) (c : Nat) : Nat -> List (Bool × List (BS × BO)) -> Option Nat
 | _, [] => none
 | b, (ro, _) :: r => if ro = true then Oam ptrs c (b + 1) r else match mI b ptrs with
  | some (c', _) => if c' = c then some b else Oam ptrs c (b + 1) r
  | none => Oam ptrs c (b + 1) r
def Ebe (ρ : List D) (G : Gh) (w : World) : RT -> Value
 | .nil => .slice none 0 0
 | .own r _ => G.hdr r
 | .mu r _ q _ => Ua0 w (G.hdr r) (aX ρ q)
def callG (ρ : List D) (G : Gh) (w : World) (s : Sig) (Z : Take) : Gh := {
 own := fun b => match G.own b with
  | .slc r p => kK ρ (Z.deps.map (·.1)) 0 Z.rts r p
  | .box c => (match Oam Z.ptrs c 0 s.boxes with
   | some j => if b = (G.bx c).block then .box j else .oth
   | none => .oth)
  | o => o
 hdr := fun ν => ((Z.rts[ν]?).map (Ebe ρ G w)).getD undef
 bx := fun b => match mI b Z.ptrs with
  | some (c, off) => (G.bx c).add off
  | none => ⟨0, 0, none⟩ }
theorem oZ {ρ : List D} {dr : List Nat} {r : Nat} {p : List Nat} : ∀ {rts : List RT} {ν : Nat}, r ∉ bO rts -> kK ρ dr ν rts r p = if r ∈ dr then .frz else .oth
 | [], ν, h => rfl
 | .nil :: t, ν, h => oZ (rts := t) h
 | .own s d :: t, ν, h => by
  simp only [bO, Nbz, not_or] at h
  simp only [kK, if_neg h.1]
  exact oZ h.2
 | .mu s d q X :: t, ν, h => by
  simp only [bO, Nbz, not_or] at h
  simp only [kK, if_neg h.1]
  exact oZ h.2
theorem qH : ∀ {rts : List RT} {ν r : Nat}, (∃ d, rts[ν]? = some (.own r d)) \/ (∃ d q X, rts[ν]? = some (.mu r d q X)) -> r ∈ bO rts
 | [], ν, r, h => by simp at h
 | x :: t, 0, r, h => by
  simp only [Mb5, Option.some.injEq] at h
  rcases h with ⟨d, rfl⟩ | ⟨d, q, X, rfl⟩ <;> exact Nbf
 | x :: t, ν + 1, r, h => by
  have := qH (rts := t) (ν := ν) (r := r) (by simpa using h)
  cases x with
  | nil => exact this
  | own s d => exact Mb8 _ this
  | mu s d q X => exact Mb8 _ this
theorem yZ {ρ : List D} {dr : List Nat} {r d : Nat} {p : List Nat} : ∀ {rts : List RT} {ν0 ν : Nat}, distinct (bO rts) = true -> rts[ν]? = some (.own r d) -> kK ρ dr ν0 rts r p = if p.length < d then .slc (ν0 + ν) p else .frz
 | [], ν0, ν, _, h => by simp at h
 | x :: t, ν0, 0, hd, h => by
  simp only [Mb5, Option.some.injEq] at h
  subst h
  simp [kK]
 | x :: t, ν0, ν + 1, hd, h => by
  simp only [Nb2] at h
  have hm := qH (.inl ⟨d, h⟩)
  cases x with
  | nil =>
   simp only [kK]
   rw [yZ (rts := t) hd h, show ν0 + 1 + ν = ν0 + (ν + 1) by omega]
  | own s d' =>
   simp only [bO, distinct, Mby, Nbp] at hd
   have hne : r ≠ s := fun e => by rw [e, <- kL, hd.1] at hm; cases hm
   simp only [kK, if_neg hne]
   rw [yZ hd.2 h, show ν0 + 1 + ν = ν0 + (ν + 1) by omega]
  | mu s d' q X =>
   simp only [bO, distinct, Mby, Nbp] at hd
   have hne : r ≠ s := fun e => by rw [e, <- kL, hd.1] at hm; cases hm
   simp only [kK, if_neg hne]
   rw [yZ hd.2 h, show ν0 + 1 + ν = ν0 + (ν + 1) by omega]
theorem Dag {ρ : List D} {dr : List Nat} {r d : Nat} {q : List (aJ × Nat × Nat)} {X : aJ} {p : List Nat} : ∀ {rts : List RT} {ν0 ν : Nat}, distinct (bO rts) = true -> rts[ν]? = some (.mu r d q X) ->
  kK ρ dr ν0 rts r p = match strip (aX ρ q) p with | some t' => if t'.length < d then .slc (ν0 + ν) t' else .frz | none => .oth
 | [], ν0, ν, _, h => by simp at h
 | x :: t, ν0, 0, hd, h => by
  simp only [Mb5, Option.some.injEq] at h
  subst h
  simp [kK]
 | x :: t, ν0, ν + 1, hd, h => by
  simp only [Nb2] at h
  have hm := qH (.inr ⟨d, q, X, h⟩)
  cases x with
  | nil =>
   simp only [kK]
   rw [Dag (rts := t) hd h, show ν0 + 1 + ν = ν0 + (ν + 1) by omega]
  | own s d' =>
   simp only [bO, distinct, Mby, Nbp] at hd
   have hne : r ≠ s := fun e => by rw [e, <- kL, hd.1] at hm; cases hm
   simp only [kK, if_neg hne]
   rw [Dag hd.2 h, show ν0 + 1 + ν = ν0 + (ν + 1) by omega]
  | mu s d' q' X' =>
   simp only [bO, distinct, Mby, Nbp] at hd
   have hne : r ≠ s := fun e => by rw [e, <- kL, hd.1] at hm; cases hm
   simp only [kK, if_neg hne]
   rw [Dag hd.2 h, show ν0 + 1 + ν = ν0 + (ν + 1) by omega]
structure TLe (A B : Take) : Prop where
 xs : ∃ l, B.xs = A.xs ++ l
 ptrs : ∀ z ∈ A.ptrs, z ∈ B.ptrs
 deps : ∀ z ∈ A.deps, z ∈ B.deps
 lets : ∃ l, B.lets = A.lets ++ l
 rts : ∃ l, B.rts = A.rts ++ l
theorem TLe.refl (A : Take) : TLe A A := ⟨⟨[], by simp⟩, fun _ h => h, fun _ h => h, ⟨[], by simp⟩, ⟨[], by simp⟩⟩
theorem TLe.trans {A B C : Take} (h : TLe A B) (h' : TLe B C) : TLe A C := by
 obtain ⟨⟨l, h1⟩, h2, h3, ⟨m, h4⟩, ⟨k, h5⟩⟩ := h
 obtain ⟨⟨l', h1'⟩, h2', h3', ⟨m', h4'⟩, ⟨k', h5'⟩⟩ := h'
 exact ⟨⟨l ++ l', by rw [h1', h1, Mb7]⟩, fun z hz => h2' z (h2 z hz), fun z hz => h3' z (h3 z hz), ⟨m ++ m', by rw [h4', h4, Mb7]⟩, ⟨k ++ k', by rw [h5', h5, Mb7]⟩⟩
theorem TLe.get {A B : Take} (h : TLe A B) {ρ : List D} {x : aJ} {l : List aJ} (hx : A.xs = l ++ [x]) : (aJ.v l.length).val (B.xs.map (·.val ρ)) = x.val ρ := by
 obtain ⟨m, h1⟩ := h.xs
 rw [h1, hx]
 simp only [aJ.val, Mb4]
 simp
theorem TLe.rt {A B : Take} (h : TLe A B) {x : RT} {l : List RT} (hx : A.rts = l ++ [x]) : B.rts[l.length]? = some x := by
 obtain ⟨m, h1⟩ := h.rts
 rw [h1, hx]
 simp
structure Iai (s : Sig) (Z : Take) : Prop where
 ptrs : ∀ b c off, (b, c, off) ∈ Z.ptrs -> b < s.boxes.length /\ mI b Z.ptrs = some (c, off)
 dist : distinct (bO Z.rts) = true
 deps : ∀ z ∈ Z.deps, z.1 ∉ bO Z.rts
 wr : distinct (gJ false Z.ptrs 0 s.boxes) = true
 ro : meets (gJ false Z.ptrs 0 s.boxes) (gJ true Z.ptrs 0 s.boxes) = false
theorem Eak {nbx : Nat} {ptrs : List (Nat × Nat × Nat)} : ∀ {l : List (Nat × Nat × Nat)}, Qal nbx ptrs l = true -> ∀ b c off, (b, c, off) ∈ l -> b < nbx /\ mI b ptrs = some (c, off)
 | [], _, b, c, off, h => by simp at h
 | (b', c', off') :: l, h, b, c, off, hm => by
  simp only [Qal, Mby, Nb6] at h
  rcases List.mem_cons.1 hm with e | hm
  ·obtain ⟨rfl, rfl, rfl⟩ : b = b' /\ c = c' /\ off = off' := by simpa using e
   refine ⟨h.1.1, ?_⟩
   have h2 := h.1.2
   split at h2
   ·rename_i e
    simp only [Mby, Nbu] at h2
    rw [e, h2.1, h2.2]
   ·cases h2
  ·exact Eak h.2 b c off hm
theorem Na5 {s : Sig} {Z : Take} (h : Ta0 s Z = true) : Iai s Z := by
 simp only [Ta0, Mby, Nbp] at h
 obtain ⟨⟨⟨⟨h1, h2⟩, h3⟩, h4⟩, h5⟩ := h
 refine ⟨Eak h1, h2, fun z hz hm => ?_, h4, h5⟩
 rw [Pbj] at h3
 exact h3 z hz (kL.2 hm)
section
variable {E : Env} {F : bB} {σ : Nat -> Option aP} {ρ : List D} {a : Act} {w : World} {G : Gh} {g : Option (aJ × Bool)} {cf : Nat -> List D -> Option (List D)} {s : Sig} {Z : Take} {nv : Nat}
theorem nE {b : Nat} (h : G.own b = .frz) : (callG ρ G w s Z).own b = .frz := by simp only [callG, h]
theorem Xab (hk : Iai s Z) {b r k : Nat} {p : List Nat} (hz : (r, k) ∈ Z.deps) (h : G.own b = .slc r p) : (callG ρ G w s Z).own b = .frz := by
 simp only [callG, h]
 rw [oZ (hk.deps _ hz), if_pos (List.mem_map.2 ⟨_, hz, rfl⟩)]
theorem Xaa (hk : Iai s Z) {b r d ν : Nat} {p : List Nat} (hz : Z.rts[ν]? = some (.own r d)) (h : G.own b = .slc r p) : (callG ρ G w s Z).own b = if p.length < d then .slc ν p else .frz := by
 simp only [callG, h]
 rw [yZ hk.dist hz, Nbt]
theorem Kaa (hk : Iai s Z) {b r d ν : Nat} {q : List (aJ × Nat × Nat)} {X : aJ} {p : List Nat} (hz : Z.rts[ν]? = some (.mu r d q X)) (h : G.own b = .slc r p) :
  (callG ρ G w s Z).own b = match strip (aX ρ q) p with | some t' => if t'.length < d then .slc ν t' else .frz | none => .oth := by
 simp only [callG, h]
 rw [Dag hk.dist hz, Nbt]
theorem Aas {ν : Nat} {x : RT} (h : Z.rts[ν]? = some x) : (callG ρ G w s Z).hdr ν = Ebe ρ G w x := by
 simp only [callG, h]; rfl
theorem Rd.callG (hk : Iai s Z) {deps : List (Nat × Nat)} (hd : ∀ z ∈ deps, z ∈ Z.deps) {v : Value} {d : D} (h : Rd (allow G deps) w v d) : Rd (fun b => (Go.Proofs.YtpgnlmfmlffjcaaGreat.Rf.callG ρ G w s Z).own b = .frz) w v d := by
 refine h.mono fun b hb => ⟨?_, rfl⟩
 rcases hb with hb | ⟨r, k, p, hm, hb⟩
 ·exact nE hb
 ·exact Xab hk (hd _ hm) hb
theorem Rav (hg : gOn ρ g = true) {A B : Take} {l : aR} (h : (Kax g A l).eval σ = some B) {v : Value} (hl : aB σ ρ G w l v) :
  ∃ x, B = { A with xs := A.xs ++ [x] } /\ Sc v (x.val ρ) := by
 simp only [Kax, aA, Mbx, aT, aC, Option.some.injEq] at h
 obtain ⟨x, h1, rfl⟩ := h
 exact ⟨x, rfl, iO hg h1 hl⟩
theorem Ka1 {A B : Take} {nie : Bool} {l : aR} (h : (oO A nie l).eval σ = some B) : TLe A B := by
 simp only [oO, aA, Mbx, aC, Option.some.injEq] at h
 obtain ⟨s, h1, rfl⟩ := h
 exact ⟨⟨_, rfl⟩, fun _ h => h, fun _ h => Mbz _ h, ⟨_, rfl⟩, ⟨[], by simp⟩⟩
theorem Ga3 (hR : R E.ntmps F σ ρ a w G) (hg : gOn ρ g = true) (hst : aK cf ρ g nv Z.lets) (hk : Iai s Z) {A B : Take} {nie : Bool} {l : aR} (h : (oO A nie l).eval σ = some B) (hZ : TLe B Z) {v : Value} (hl : aB σ ρ G w l v) :
  Rd (fun b => (callG ρ G w s Z).own b = .frz) w v ((aJ.v A.xs.length).val (Z.xs.map (·.val ρ))) /\ (nie = true -> ∀ z, (aJ.v A.xs.length).val (Z.xs.map (·.val ρ)) = .rows z [] -> v = .slice none 0 0) /\
  B.xs.length = A.xs.length + 1 /\ B.rts = A.rts := by
 simp only [oO, aA, Mbx, aC, Option.some.injEq] at h
 obtain ⟨sl, h1, rfl⟩ := h
 have hs := dE hR h1 hl
 rw [hZ.get (l := A.xs) rfl]
 refine ⟨hs.rd.callG hk fun z hz => hZ.deps _ (Mb1 _ hz), fun hn z hz => ?_, by simp, rfl⟩
 cases hsn : sl.nie with
 | true => exact hs.nie hsn z hz
 | false =>
  exfalso
  obtain ⟨lr, hlr⟩ := hZ.lets
  dsimp only at hlr
  rw [hlr, hn, hsn] at hst
  simp only [Bool.not_false, Bool.and_self, cond_true] at hst
  rw [Mb7] at hst
  have hst2 := (aK.append (aK.append hst).2).1
  obtain ⟨ds, h2, -, -⟩ := step1 hst2 hg
  simp only [Nbm, Nbv, hz, aO.run] at h2
  simp at h2
theorem Kay {A B : Take} {d : Nat} {l : aR} (h : (rV A d l).eval σ = some B) : TLe A B := by
 unfold rV at h
 split at h
 ·simp only [aA, aQ, Mb3] at h
  split at h
  ·simp only [aA, aI, Mbx, aC, Option.some.injEq] at h
   obtain ⟨_, -, rfl⟩ := h
   exact ⟨⟨_, rfl⟩, fun _ h => h, fun _ h => h, ⟨[], by simp⟩, ⟨_, rfl⟩⟩
  ·cases h
 ·simp only [aC, Option.some.injEq] at h
  subst h
  exact ⟨⟨_, rfl⟩, fun _ h => h, fun _ h => h, ⟨[], by simp⟩, ⟨_, rfl⟩⟩
 ·cases h
theorem Ga0 (hR : R E.ntmps F σ ρ a w G) (hk : Iai s Z) {A B : Take} {d : Nat} {l : aR} (h : (rV A d l).eval σ = some B) (hZ : TLe B Z) {v : Value} (hl : aB σ ρ G w l v) :
  v = (callG ρ G w s Z).hdr A.rts.length /\ Rp (callG ρ G w s Z).own w A.rts.length [] d v ((aJ.v A.xs.length).val (Z.xs.map (·.val ρ))) /\ B.xs.length = A.xs.length + 1 /\ B.rts.length = A.rts.length + 1 := by
 unfold rV at h
 split at h
 ·rename_i r
  simp only [aA, aQ, Mb3] at h
  split at h
  ·rename_i x m ver hkr
   simp only [aA, aI, Mbx, aC, Option.some.injEq] at h
   obtain ⟨_, h1, rfl⟩ := h
   split at h1
   case isFalse => cases h1
   rename_i hb
   simp only [Nb7] at hb
   simp only [aB] at hl
   have hrt := hZ.rt (l := A.rts) rfl
   rw [hZ.get (l := A.xs) rfl]
   refine ⟨by rw [Aas hrt]; exact hl.1, ?_, by simp, by simp⟩
   rw [hl.1]
   have hr := hR.root hkr
   simp only [bJ] at hr
   exact hr.move (fun b hb _ => ⟨nE hb, rfl⟩) [] d hb fun b t hb => ⟨by rw [Xaa hk hrt hb]; rfl, rfl⟩
  ·cases h
 ·rename_i nie z
  simp only [aC, Option.some.injEq] at h
  subst h
  simp only [aB] at hl
  have hv := (hl.2 (by simp)).2.1 trivial z rfl
  have hrt := hZ.rt (l := A.rts) rfl
  rw [hZ.get (l := A.xs) rfl]
  refine ⟨by rw [Aas hrt]; exact hv, ?_, by simp, by simp⟩
  rw [hv]
  cases d with
  | zero => exact .fz (.rows none ⟨0, 0, none⟩ 0 0 z [] (fun _ _ => undef) rfl (Nbd _) (.inl rfl) (by simp) (by simp) (by simp))
  | succ m => exact .sl none ⟨0, 0, none⟩ 0 0 z [] (fun _ _ => undef) rfl (Nbd _) (.inr ⟨rfl, rfl⟩) (by simp) (fun e => by cases e) (by simp) (by simp)
 ·cases h
theorem Ta1 {A B : Take} {d : Nat} {l : aR} (h : (Ga2 A d l).eval σ = some B) : TLe A B := by
 simp only [Ga2, aA, Mbx] at h
 obtain ⟨sl, h1, h⟩ := h
 split at h
 ·simp only [aA, aI, aQ, Mb3, Mbx] at h
  obtain ⟨_, -, h⟩ := h
  split at h
  ·simp only [aC, Option.some.injEq] at h
   subst h
   exact ⟨⟨_, rfl⟩, fun _ h => h, fun _ h => h, ⟨[], by simp⟩, ⟨_, rfl⟩⟩
  ·cases h
 ·cases h
theorem Raz (hR : R E.ntmps F σ ρ a w G) (hk : Iai s Z) {A B : Take} {d : Nat} {l : aR} (h : (Ga2 A d l).eval σ = some B) (hZ : TLe B Z) {v : Value} (hl : aB σ ρ G w l v) :
  v = (callG ρ G w s Z).hdr A.rts.length /\ Rp (callG ρ G w s Z).own w A.rts.length [] d v ((aJ.v A.xs.length).val (Z.xs.map (·.val ρ))) /\ B.xs.length = A.xs.length + 1 /\ B.rts.length = A.rts.length + 1 := by
 simp only [Ga2, aA, Mbx] at h
 obtain ⟨sl, h1, h⟩ := h
 have hs := dE hR h1 hl
 split at h
 case h_2 => cases h
 rename_i r k m q ho
 simp only [aA, aI, aQ, Mb3, Mbx] at h
 obtain ⟨_, h2, h⟩ := h
 split at h2
 case isFalse => cases h2
 rename_i hb
 simp only [Nb7] at hb
 split at h
 case h_2 => cases h
 rename_i X m' v' hkr
 simp only [aC, Option.some.injEq] at h
 subst h
 have hown := hs.own
 unfold sK at hown
 rw [ho] at hown
 obtain ⟨h3, h4, h5, h6, h7⟩ := hown
 have hrt := hZ.rt (l := A.rts) rfl
 rw [hZ.get (l := A.xs) rfl]
 refine ⟨by rw [Aas hrt]; exact (Bac h7).symm, ?_, by simp, by simp⟩
 refine h6.move (fun b hb _ => ⟨nE hb, rfl⟩) [] d (by omega) fun b t hb => ⟨?_, rfl⟩
 rw [Kaa hk hrt hb, Ba6]
 rfl
theorem Taz {A B : Take} {z : Nat} {l : aR} (h : (Da0 A z l).eval σ = some B) : TLe A B := by
 unfold Da0 at h
 split at h
 ·simp only [aA, Mbx, aC, Option.some.injEq] at h
  obtain ⟨_, -, rfl⟩ := h
  exact ⟨⟨_, rfl⟩, fun _ h => h, fun _ h => Mbz _ h, ⟨[], by simp⟩, ⟨[], by simp⟩⟩
 ·simp only [aC, Option.some.injEq] at h
  subst h
  exact ⟨⟨_, rfl⟩, fun _ h => h, fun _ h => h, ⟨[], by simp⟩, ⟨[], by simp⟩⟩
 ·cases h
theorem Rax (hR : R E.ntmps F σ ρ a w G) (hk : Iai s Z) {A B : Take} {z : Nat} {l : aR} (h : (Da0 A z l).eval σ = some B) (hZ : TLe B Z) {v : Value} (hl : aB σ ρ G w l v) :
  v.oneCell' = true /\ Xah (fun b => (callG ρ G w s Z).own b = .frz) w v ((aJ.v A.xs.length).val (Z.xs.map (·.val ρ))) /\ B.xs.length = A.xs.length + 1 /\ B.rts = A.rts := by
 unfold Da0 at h
 split at h
 ·rename_i deps sz' x
  simp only [aA, Mbx, aC, Option.some.injEq] at h
  obtain ⟨ds, h1, rfl⟩ := h
  simp only [aB] at hl
  obtain ⟨h3, h4, h5⟩ := gP h1
  rw [hZ.get (l := A.xs) rfl]
  refine ⟨hl.1.1, ?_, by simp, rfl⟩
  rcases hl.2 h3 with h6 | ⟨ad, row, h6, h7, h8⟩
  ·exact .inl h6
  ·exact .inr ⟨ad, row, h6, h7, (h8.drop hR h5).callG hk fun z hz => hZ.deps _ (Mb1 _ hz)⟩
 ·simp only [aC, Option.some.injEq] at h
  subst h
  simp only [aB] at hl
  rw [hZ.get (l := A.xs) rfl]
  exact ⟨by rw [hl]; rfl, .inl ⟨hl, _, rfl⟩, by simp, rfl⟩
 ·cases h
theorem Nal (hk : Iai s Z) {b c off : Nat} (h : (b, c, off) ∈ Z.ptrs) : (callG ρ G w s Z).bx b = (G.bx c).add off /\ b < s.boxes.length := by
 obtain ⟨h1, h2⟩ := hk.ptrs b c off h
 refine ⟨?_, h1⟩
 simp only [callG, h2]
theorem Aar : ∀ {cs : List LS} {ls : List aR} {acc l : List (Nat × Nat × Nat)}, iK cs ls acc = some l -> ∀ z ∈ acc, z ∈ l
 | [], [], acc, l, h, z, hz => by
  simp only [iK, Option.some.injEq] at h
  rw [<- h]; exact hz
 | [], _ :: _, acc, l, h, z, hz => by simp [iK] at h
 | c :: cs, [], acc, l, h, z, hz => by cases c <;> simp [iK] at h
 | c :: cs, x :: ls, acc, l, h, z, hz => by
  cases c <;> cases x <;> simp only [iK, reduceCtorEq] at h
  exact Aar h z (Mb8 _ hz)
theorem Aaq (hk : Iai s Z) : ∀ {cs : List LS} {ls : List aR} {acc l : List (Nat × Nat × Nat)}, iK cs ls acc = some l -> (∀ z ∈ l, z ∈ Z.ptrs) -> ∀ {vs : List Value}, aD σ ρ G w ls vs -> vD (callG ρ G w s Z) s.boxes.length cs vs
 | [], [], acc, l, h, _, vs, hl => by simpa [vD, aD] using hl
 | [], _ :: _, acc, l, h, _, _, _ => by simp [iK] at h
 | c :: cs, [], acc, l, h, _, _, _ => by cases c <;> simp [iK] at h
 | c :: cs, x :: ls, acc, l, h, hz, vs, hl => by
  cases c <;> cases x <;> simp only [iK, reduceCtorEq] at h
  rename_i b c off
  simp only [aD] at hl
  obtain ⟨u, us, rfl, h1, h2⟩ := hl
  obtain ⟨h3, h4⟩ := Nal (ρ := ρ) (G := G) (w := w) hk (hz _ (Aar h _ Nbf))
  simp only [aB] at h1
  exact ⟨u, us, rfl, ⟨by rw [h3]; exact h1.1, h4⟩, Aaq hk h hz h2⟩
theorem Na6 {A B : Take} {t : LS} {l : aR} (h : (qB g A t l).eval σ = some B) : TLe A B := by
 unfold qB at h
 split at h
 ·simp only [Kax, aA, Mbx, aC, Option.some.injEq] at h
  obtain ⟨x, -, rfl⟩ := h
  exact ⟨⟨_, rfl⟩, fun _ h => h, fun _ h => h, ⟨[], by simp⟩, ⟨[], by simp⟩⟩
 ·exact Ka1 h
 ·exact Ta1 h
 ·exact Kay h
 ·simp only [aC, Option.some.injEq] at h
  subst h
  exact ⟨⟨[], by simp⟩, fun _ h => Mbz _ h, fun _ h => h, ⟨[], by simp⟩, ⟨[], by simp⟩⟩
 ·split at h
  ·rw [fF] at h
   split at h
   ·simp only [aC, Option.some.injEq] at h
    subst h
    exact ⟨⟨[], by simp⟩, fun _ h => Mbz _ h, fun _ h => h, ⟨[], by simp⟩, ⟨[], by simp⟩⟩
   ·cases h
  ·cases h
 ·exact Taz h
 ·cases h
theorem Kaz (hR : R E.ntmps F σ ρ a w G) (hg : gOn ρ g = true) (hst : aK cf ρ g nv Z.lets) (hk : Iai s Z) {A B : Take} {t : LS} {l : aR} (h : (qB g A t l).eval σ = some B) (hZ : TLe B Z) {v : Value} (hl : aB σ ρ G w l v) :
  jL (callG ρ G w s Z) w (Z.xs.map (·.val ρ)) s.boxes.length A.xs.length A.rts.length t v /\ B.xs.length = A.xs.length + t.cnt /\ B.rts.length = A.rts.length + t.rcnt := by
 unfold qB at h
 split at h
 ·obtain ⟨x, rfl, h1⟩ := Rav hg h hl
  refine ⟨?_, by simp [LS.cnt], rfl⟩
  simp only [jL]
  rw [hZ.get (l := A.xs) rfl]
  exact h1
 ·obtain ⟨h1, h2, h3, h4⟩ := Ga3 hR hg hst hk h hZ hl
  exact ⟨⟨h1, h2⟩, h3, by rw [h4]; rfl⟩
 ·obtain ⟨h1, h2, h3, h4⟩ := Raz hR hk h hZ hl
  exact ⟨⟨h1, h2⟩, h3, h4⟩
 ·obtain ⟨h1, h2, h3, h4⟩ := Ga0 hR hk h hZ hl
  exact ⟨⟨h1, h2⟩, h3, h4⟩
 ·rename_i b c off
  simp only [aC, Option.some.injEq] at h
  subst h
  obtain ⟨h1, h2⟩ := Nal (ρ := ρ) (G := G) (w := w) hk (hZ.ptrs _ (Mb1 _ (List.mem_singleton.2 rfl)))
  simp only [aB] at hl
  exact ⟨⟨by rw [h1]; exact hl.1, h2⟩, rfl, rfl⟩
 ·rename_i f cs f' ls
  split at h
  ·rename_i l' hc
   rw [fF] at h
   split at h
   ·rename_i hf
    simp only [Nbu] at hf
    subst hf
    simp only [aC, Option.some.injEq] at h
    subst h
    simp only [aB] at hl
    obtain ⟨vs, h1, h2⟩ := hl
    exact ⟨⟨vs, h1, Aaq hk hc (fun z hz => hZ.ptrs _ (Mb1 _ hz)) h2⟩, rfl, rfl⟩
   ·cases h
  ·cases h
 ·obtain ⟨h1, h2, h3, h4⟩ := Rax hR hk h hZ hl
  exact ⟨⟨h1, h2⟩, h3, by rw [h4]; rfl⟩
 ·cases h
theorem qA : ∀ {ss : List LS} {ls : List aR} {A B : Take}, (bT g A ss ls).eval σ = some B -> TLe A B
 | [], [], A, B, h => by
  simp only [bT, aC, Option.some.injEq] at h
  subst h; exact .refl _
 | [], _ :: _, A, B, h => by simp [bT, bG] at h
 | _ :: _, [], A, B, h => by simp [bT, bG] at h
 | t :: ss, l :: ls, A, B, h => by
  simp only [bT, aA, Mbx] at h
  obtain ⟨C, h1, h2⟩ := h
  exact (Na6 h1).trans (qA h2)
theorem wK (hR : R E.ntmps F σ ρ a w G) (hg : gOn ρ g = true) (hst : aK cf ρ g nv Z.lets) (hk : Iai s Z) : ∀ {ss : List LS} {ls : List aR} {A B : Take}, (bT g A ss ls).eval σ = some B -> TLe B Z -> ∀ {vs : List Value}, aD σ ρ G w ls vs ->
  pW (callG ρ G w s Z) w (Z.xs.map (·.val ρ)) s.boxes.length A.xs.length A.rts.length ss vs /\ B.xs.length = A.xs.length + Taq ss /\ B.rts.length = A.rts.length + iT ss
 | [], [], A, B, h, _, vs, hl => by
  simp only [bT, aC, Option.some.injEq] at h
  subst h
  simp only [aD] at hl
  exact ⟨hl, rfl, rfl⟩
 | [], _ :: _, A, B, h, _, _, _ => by simp [bT, bG] at h
 | _ :: _, [], A, B, h, _, _, _ => by simp [bT, bG] at h
 | t :: ss, l :: ls, A, B, h, hZ, vs, hl => by
  simp only [bT, aA, Mbx] at h
  obtain ⟨C, h1, h2⟩ := h
  simp only [aD] at hl
  obtain ⟨u, us, rfl, h3, h4⟩ := hl
  obtain ⟨h5, h6, h7⟩ := Kaz hR hg hst hk h1 ((qA h2).trans hZ) h3
  obtain ⟨h8, h9, h10⟩ := wK hR hg hst hk h2 hZ h4
  rw [h6, h7] at h8
  exact ⟨⟨u, us, rfl, h5, h8⟩, by rw [h9, h6]; simp only [Taq]; omega, by rw [h10, h7]; simp only [iT]; omega⟩
theorem Da1 : ∀ {ps : List (Bool × List LS)} {vs : List SV} {A B : Take}, (dU g A ps vs).eval σ = some B -> TLe A B
 | [], [], A, B, h => by
  simp only [dU, aC, Option.some.injEq] at h
  subst h; exact .refl _
 | [], _ :: _, A, B, h => by simp [dU, bG] at h
 | _ :: _, [], A, B, h => by simp [dU, bG] at h
 | (ag, ss) :: ps, v :: vs, A, B, h => by
  simp only [dU, aA, Mbx] at h
  obtain ⟨ls, -, C, h1, h2⟩ := h
  exact (qA h1).trans (Da1 h2)
def pV (σ : Nat -> Option aP) (ρ : List D) (G : Gh) (w : World) : List SV -> List Value -> Prop
 | [], us => us = []
 | v :: vs, us => ∃ u us', us = u :: us' /\ bR σ ρ G w v u /\ pV σ ρ G w vs us'
theorem Gal {ag : Bool} {v : SV} {ls : List aR} {u : Value} (h : iQ ag v = some ls) (hv : bR σ ρ G w v u) : if ag = true then u = .agg u.cells.toList.toArray else u.cells.toList = [u] := by
 unfold iQ at h
 split at h
 ·cases ag with
  | true => cases h
  | false =>
   rw [aB.cells hv]
   simp
 ·cases ag with
  | false => cases h
  | true =>
   obtain ⟨us, rfl, -⟩ := hv
   simp [Value.cells]
 ·cases h
theorem Ba5 (hR : R E.ntmps F σ ρ a w G) (hg : gOn ρ g = true) (hst : aK cf ρ g nv Z.lets) (hk : Iai s Z) : ∀ {ps : List (Bool × List LS)} {vs : List SV} {A B : Take}, (dU g A ps vs).eval σ = some B -> TLe B Z -> ∀ {us : List Value}, pV σ ρ G w vs us ->
  jC (callG ρ G w s Z) w (Z.xs.map (·.val ρ)) s.boxes.length A.xs.length A.rts.length ps us /\ B.xs.length = A.xs.length + Iad ps /\ B.rts.length = A.rts.length + iD ps
 | [], [], A, B, h, _, us, hl => by
  simp only [dU, aC, Option.some.injEq] at h
  subst h
  simp only [pV] at hl
  exact ⟨hl, rfl, rfl⟩
 | [], _ :: _, A, B, h, _, _, _ => by simp [dU, bG] at h
 | _ :: _, [], A, B, h, _, _, _ => by simp [dU, bG] at h
 | (ag, ss) :: ps, v :: vs, A, B, h, hZ, us, hl => by
  simp only [dU, aA, Mbx, aT] at h
  obtain ⟨ls, h0, C, h1, h2⟩ := h
  obtain ⟨u, us', rfl, h3, h4⟩ := hl
  obtain ⟨h5, h6, h7⟩ := wK hR hg hst hk h1 ((Da1 h2).trans hZ) (gB h0 h3)
  obtain ⟨h8, h9, h10⟩ := Ba5 hR hg hst hk h2 hZ h4
  rw [h6, h7] at h8
  exact ⟨⟨u, us', _, rfl, h5, Gal h0 h3, h8⟩, by rw [h9, h6]; simp only [Iad]; omega, by rw [h10, h7]; simp only [iD]; omega⟩
end
end Go.Proofs.YtpgnlmfmlffjcaaGreat.Rf

namespace Go.Proofs.YtpgnlmfmlffjcaaGreat.Rf
set_option linter.unusedVariables false
set_option linter.unusedSimpArgs false
theorem rH {wr : Bool} {ptrs : List (Nat × Nat × Nat)} : ∀ {bs : List (Bool × List (BS × BO))} {b j c off : Nat} {cs : List (BS × BO)}, bs[j]? = some (wr, cs) -> mI (b + j) ptrs = some (c, off) -> c ∈ gJ wr ptrs b bs
 | [], b, j, c, off, cs, h, _ => by simp at h
 | (ro, ds) :: bs, b, 0, c, off, cs, h, hp => by
  simp only [Mb5, Option.some.injEq, Prod.mk.injEq] at h
  rw [Nbs] at hp
  simp only [gJ, h.1, hp]
  simp
 | (ro, ds) :: bs, b, j + 1, c, off, cs, h, hp => by
  have := rH (bs := bs) (b := b + 1) (j := j) (by simpa using h) (by rw [show b + 1 + j = b + (j + 1) by omega]; exact hp)
  simp only [gJ]
  cases (ro == wr) with
  | false => exact this
  | true =>
   simp only [cond_true]
   split
   ·exact Mb8 _ this
   ·exact this
theorem yU {ptrs : List (Nat × Nat × Nat)} {c : Nat} : ∀ {bs : List (Bool × List (BS × BO))} {b : Nat}, c ∉ gJ false ptrs b bs -> Oam ptrs c b bs = none
 | [], b, h => rfl
 | (ro, cs) :: bs, b, h => by
  simp only [gJ] at h
  simp only [Oam]
  cases ro with
  | true => simp only [if_true]; exact yU h
  | false =>
   simp only [Mb6, if_false]
   have e : (false == false) = true := rfl
   rw [e, cond_true] at h
   split
   ·rename_i c' off hp
    rw [hp] at h
    simp only [Nbz, not_or] at h
    rw [if_neg fun e => h.1 e.symm]
    exact yU h.2
   ·rename_i hp
    rw [hp] at h
    exact yU h
theorem oW {ptrs : List (Nat × Nat × Nat)} {c off : Nat} {cs : List (BS × BO)} : ∀ {bs : List (Bool × List (BS × BO))} {b j : Nat}, distinct (gJ false ptrs b bs) = true -> bs[j]? = some (false, cs) -> mI (b + j) ptrs = some (c, off) -> Oam ptrs c b bs = some (b + j)
 | [], b, j, _, h, _ => by simp at h
 | (ro, ds) :: bs, b, 0, hd, h, hp => by
  simp only [Mb5, Option.some.injEq, Prod.mk.injEq] at h
  rw [Nbs] at hp
  simp only [Oam, h.1, hp]
  simp
 | (ro, ds) :: bs, b, j + 1, hd, h, hp => by
  have hp' : mI (b + 1 + j) ptrs = some (c, off) := by rw [show b + 1 + j = b + (j + 1) by omega]; exact hp
  have hm := rH (wr := false) (bs := bs) (b := b + 1) (j := j) (by simpa using h) hp'
  simp only [gJ] at hd
  simp only [Oam]
  cases ro with
  | true =>
   have e : (true == false) = false := rfl
   rw [e, cond_false] at hd
   simp only [if_true]
   rw [oW hd (by simpa using h) hp', show b + 1 + j = b + (j + 1) by omega]
  | false =>
   have e : (false == false) = true := rfl
   rw [e, cond_true] at hd
   simp only [Mb6, if_false]
   split
   ·rename_i c' off' hp2
    rw [hp2] at hd
    simp only [distinct, Mby, Nbp] at hd
    have hne : c' ≠ c := fun e => by rw [<- e, <- kL, hd.1] at hm; cases hm
    rw [if_neg hne, oW hd.2 (by simpa using h) hp', show b + 1 + j = b + (j + 1) by omega]
   ·rename_i hp2
    rw [hp2] at hd
    rw [oW hd (by simpa using h) hp', show b + 1 + j = b + (j + 1) by omega]
theorem Dae {ptrs : List (Nat × Nat × Nat)} {c x : Nat} : ∀ {bs : List (Bool × List (BS × BO))} {b : Nat}, Oam ptrs c b bs = some x -> ∃ j cs off, x = b + j /\ bs[j]? = some (false, cs) /\ mI x ptrs = some (c, off)
 | [], b, h => by simp [Oam] at h
 | (ro, cs) :: bs, b, h => by
  simp only [Oam] at h
  have next : Oam ptrs c (b + 1) bs = some x -> ∃ j cs' off, x = b + j /\ ((ro, cs) :: bs)[j]? = some (false, cs') /\ mI x ptrs = some (c, off) := by
   intro h
   obtain ⟨j, cs', off, h1, h2, h3⟩ := Dae h
   exact ⟨j + 1, cs', off, by omega, by simpa using h2, h3⟩
  split at h
  ·exact next h
  ·rename_i hro
   split at h
   ·rename_i c' off hp
    split at h
    ·rename_i e
     subst e
     obtain rfl := Option.some.inj h
     refine ⟨0, cs, off, rfl, ?_, hp⟩
     cases ro with
     | true => exact absurd rfl hro
     | false => rfl
    ·exact next h
   ·exact next h
section
variable {E : Env} {F : bB} {σ : Nat -> Option aP} {ρ : List D} {a : Act} {w : World} {G : Gh} {g : Option (aJ × Bool)} {cf : Nat -> List D -> Option (List D)} {s : Sig} {Z : Take} {nv : Nat}
theorem Na4 {A B : Take} {d : Nat} {l : aR} (h : (rV A d l).eval σ = some B) : B.ptrs = A.ptrs := by
 unfold rV at h
 split at h
 ·simp only [aA, aQ, Mb3] at h
  split at h
  ·simp only [aA, aI, Mbx, aC, Option.some.injEq] at h
   obtain ⟨_, -, rfl⟩ := h; rfl
  ·cases h
 ·simp only [aC, Option.some.injEq] at h
  subst h; rfl
 ·cases h
theorem nO {A B : Take} {t : BS} {l : aR} (h : (yI A t l).eval σ = some B) : (∃ x, t = .sc /\ l = .sc x /\ B = { A with xs := A.xs ++ [x] }) \/ (∃ nie, t = .fz nie /\ (oO A nie l).eval σ = some B) \/ (∃ d, t = .ow d /\ (rV A d l).eval σ = some B) \/ (t = .ot /\ Ka6 l = true /\ B = A) := by
 cases t with
 | sc =>
  cases l <;> simp only [yI, bG, reduceCtorEq] at h
  simp only [aC, Option.some.injEq] at h
  exact .inl ⟨_, rfl, rfl, h.symm⟩
 | fz nie =>
  have h' : (oO A nie l).eval σ = some B := by cases l <;> exact h
  exact .inr (.inl ⟨nie, rfl, h'⟩)
 | ow d =>
  have h' : (rV A d l).eval σ = some B := by cases l <;> exact h
  exact .inr (.inr (.inl ⟨d, rfl, h'⟩))
 | ot =>
  have h' : (bif Ka6 l then RdM.ret A else .no : RdM Take).eval σ = some B := by cases l <;> exact h
  rw [fF] at h'
  split at h'
  ·rename_i hb
   simp only [aC, Option.some.injEq] at h'
   exact .inr (.inr (.inr ⟨rfl, hb, h'.symm⟩))
  ·cases h'
theorem Na7 {A B : Take} {t : BS} {l : aR} (h : (yI A t l).eval σ = some B) : TLe A B /\ B.ptrs = A.ptrs := by
 have hinv := nO h
 clear h
 rcases hinv with ⟨x, rfl, rfl, rfl⟩ | ⟨nie, rfl, h⟩ | ⟨d, rfl, h⟩ | ⟨rfl, -, rfl⟩
 ·exact ⟨⟨⟨_, rfl⟩, fun _ h => h, fun _ h => h, ⟨[], by simp⟩, ⟨[], by simp⟩⟩, rfl⟩
 ·refine ⟨Ka1 h, ?_⟩
  unfold oO at h
  simp only [aA, Mbx, aC, Option.some.injEq] at h
  obtain ⟨s, h1, rfl⟩ := h
  rfl
 ·exact ⟨Kay h, Na4 h⟩
 ·exact ⟨.refl _, rfl⟩
theorem Ka2 (hR : R E.ntmps F σ ρ a w G) (hg : gOn ρ g = true) (hst : aK cf ρ g nv Z.lets) (hk : Iai s Z) {A B : Take} {t : BS} {l : aR} (h : (yI A t l).eval σ = some B) (hZ : TLe B Z) {v : Value} (hl : aB σ ρ G w l v) :
  vC (callG ρ G w s Z) w (Z.xs.map (·.val ρ)) A.xs.length A.rts.length t v /\ B.xs.length = A.xs.length + t.cnt /\ B.rts.length = A.rts.length + t.rcnt := by
 have hinv := nO h
 clear h
 rcases hinv with ⟨x, rfl, rfl, rfl⟩ | ⟨nie, rfl, h⟩ | ⟨d, rfl, h⟩ | ⟨rfl, hs, rfl⟩
 ·refine ⟨?_, by simp [BS.cnt], rfl⟩
  simp only [vC]
  rw [hZ.get (l := A.xs) rfl]
  simpa [aB] using hl
 ·obtain ⟨h1, h2, h3, h4⟩ := Ga3 hR hg hst hk h hZ hl
  exact ⟨⟨h1, h2⟩, h3, by rw [h4]; rfl⟩
 ·obtain ⟨h1, h2, h3, h4⟩ := Ga0 hR hk h hZ hl
  exact ⟨⟨h1, h2⟩, h3, h4⟩
 ·exact ⟨hl.one hs, rfl, rfl⟩
theorem nN : ∀ {ss : List (BS × BO)} {ls : List aR} {A B : Take}, (dH A ss ls).eval σ = some B -> TLe A B /\ B.ptrs = A.ptrs
 | [], ls, A, B, h => by
  simp only [dH, aC, Option.some.injEq] at h
  subst h; exact ⟨.refl _, rfl⟩
 | _ :: _, [], A, B, h => by simp [dH, bG] at h
 | (t, o) :: ss, l :: ls, A, B, h => by
  simp only [dH, aA, Mbx] at h
  obtain ⟨C, h1, h2⟩ := h
  obtain ⟨h3, h4⟩ := Na7 h1
  obtain ⟨h5, h6⟩ := nN h2
  exact ⟨h3.trans h5, h6.trans h4⟩
theorem yG (hR : R E.ntmps F σ ρ a w G) (hg : gOn ρ g = true) (hst : aK cf ρ g nv Z.lets) (hk : Iai s Z) {ad : Addr} : ∀ {ss : List (BS × BO)} {ls : List aR} {A B : Take} {off : Nat}, (dH A ss ls).eval σ = some B -> TLe B Z ->
  (∀ j l, ls[j]? = some l -> ∃ v, w.cell? (ad.add (off + j)) = some v /\ w.frozen? (ad.add (off + j)) = false /\ aB σ ρ G w l v) ->
  Das (callG ρ G w s Z) w (Z.xs.map (·.val ρ)) ad off A.xs.length A.rts.length ss /\ B.xs.length = A.xs.length + Xar ss /\ B.rts.length = A.rts.length + tO ss
 | [], ls, A, B, off, h, _, _ => by
  simp only [dH, aC, Option.some.injEq] at h
  subst h
  exact ⟨trivial, rfl, rfl⟩
 | _ :: _, [], A, B, off, h, _, _ => by simp [dH, bG] at h
 | (t, o) :: ss, l :: ls, A, B, off, h, hZ, hl => by
  simp only [dH, aA, Mbx] at h
  obtain ⟨C, h1, h2⟩ := h
  obtain ⟨v, h3, h4, h5⟩ := hl 0 l rfl
  obtain ⟨h6, h7, h8⟩ := Ka2 hR hg hst hk h1 ((nN h2).1.trans hZ) h5
  obtain ⟨h9, h10, h11⟩ := yG hR hg hst hk (off := off + 1) h2 hZ fun j l' hj => by
   have := hl (j + 1) l' (by simpa using hj)
   rwa [show off + (j + 1) = off + 1 + j by omega] at this
  rw [h7, h8] at h9
  exact ⟨⟨⟨v, h3, h4, h6⟩, h9⟩, by rw [h10, h7]; simp only [Xar]; omega, by rw [h11, h8]; simp only [tO]; omega⟩
def Lbu (σ : Nat -> Option aP) (ptrs : List (Nat × Nat × Nat)) (b : Nat) (ro : Bool) (cs : List (BS × BO)) : Prop :=
 ∃ c off ro' ls, mI b ptrs = some (c, off) /\ σ (kB c) = some (.box ro' ls) /\ off + cs.length <= ls.length /\ (ro = false -> ro' = false /\ 0 < cs.length)
theorem jM {ptrs : List (Nat × Nat × Nat)} : ∀ {bs : List (Bool × List (BS × BO))} {b : Nat} {A B : Take}, (dQ ptrs A b bs).eval σ = some B -> TLe A B /\ B.ptrs = A.ptrs /\ ∀ j ro cs, bs[j]? = some (ro, cs) -> Lbu σ ptrs (b + j) ro cs
 | [], b, A, B, h => by
  simp only [dQ, aC, Option.some.injEq] at h
  subst h; exact ⟨.refl _, rfl, by simp⟩
 | (ro, cs) :: bs, b, A, B, h => by
  simp only [dQ] at h
  split at h
  case h_2 => cases h
  rename_i c off hp
  simp only [aA, aQ, Mb3] at h
  split at h
  case h_2 => cases h
  rename_i ro' ls hkb
  simp only [aA, aI, Mbx] at h
  obtain ⟨_, h0, C, h1, h2⟩ := h
  split at h0
  case isFalse => cases h0
  rename_i hb
  simp only [Mby, Oba, Nbp, Nb7] at hb
  obtain ⟨h3, h4⟩ := nN h1
  obtain ⟨h5, h6, h7⟩ := jM h2
  refine ⟨h3.trans h5, h6.trans h4, fun j ro2 cs2 hj => ?_⟩
  cases j with
  | zero =>
   simp only [Mb5, Option.some.injEq, Prod.mk.injEq] at hj
   obtain ⟨rfl, rfl⟩ := hj
   refine ⟨c, off, ro', ls, hp, hkb, hb.2, fun e => ?_⟩
   rcases hb.1 with h8 | h8
   ·rw [e] at h8; cases h8.1
   ·refine ⟨h8.1.2, ?_⟩
    cases cs with
    | nil => have := h8.2; simp at this
    | cons => simp
  | succ j =>
   rw [show b + (j + 1) = b + 1 + j by omega]
   exact h7 j ro2 cs2 (by simpa using hj)
theorem Rai {ad : Addr} {n : Nat} (h : ad.spot = none) : (ad.add n).spot = none := by
 unfold Addr.add
 split
 ·exact h
 ·rfl
theorem Par {ad : Addr} {n : Nat} : (ad.add n).off = ad.off + n := by
 unfold Addr.add
 split
 ·rename_i h; rw [h]; rfl
 ·rfl
theorem yJ (hR : R E.ntmps F σ ρ a w G) (hg : gOn ρ g = true) (hst : aK cf ρ g nv Z.lets) (hk : Iai s Z) : ∀ {bs : List (Bool × List (BS × BO))} {b : Nat} {A B : Take}, (∀ j x, bs[j]? = some x -> s.boxes[b + j]? = some x) -> (dQ Z.ptrs A b bs).eval σ = some B -> TLe B Z ->
  Dau (callG ρ G w s Z) w (Z.xs.map (·.val ρ)) b A.xs.length A.rts.length bs /\ B.xs.length = A.xs.length + Xas bs
 | [], b, A, B, _, h, _ => by
  simp only [dQ, aC, Option.some.injEq] at h
  subst h
  exact ⟨trivial, rfl⟩
 | (ro, cs) :: bs, b, A, B, hbs, h, hZ => by
  simp only [dQ] at h
  split at h
  case h_2 => cases h
  rename_i c off hp
  simp only [aA, aQ, Mb3] at h
  split at h
  case h_2 => cases h
  rename_i ro' ls hkb
  simp only [aA, aI, Mbx] at h
  obtain ⟨_, h0, C, h1, h2⟩ := h
  split at h0
  case isFalse => cases h0
  rename_i hb
  simp only [Mby, Oba, Nbp, Nb7] at hb
  have hCZ := (jM h2).1.trans hZ
  obtain ⟨h3, h4, h5⟩ := hR.box hkb
  have hbx : (callG ρ G w s Z).bx b = (G.bx c).add off := by simp only [callG, hp]
  have hsb := hbs 0 _ rfl
  rw [Nbs] at hsb
  have hp' : mI (0 + b) Z.ptrs = some (c, off) := by rw [Nbt]; exact hp
  obtain ⟨h6, h7, h8⟩ := yG hR hg hst hk (ad := (G.bx c).add off) (off := 0) h1 hCZ fun j l hj => by
   rw [Nby] at hj
   obtain ⟨v, h9, h10, h11⟩ := h5 _ l hj
   exact ⟨v, by rw [add_add, Nbt]; exact h9, by rw [add_add, Nbt]; exact h10, h11⟩
  obtain ⟨h9, h10⟩ := yJ hR hg hst hk (b := b + 1) (fun j x hj => by
   rw [show b + 1 + j = b + (j + 1) by omega]
   exact hbs (j + 1) x (by simpa using hj)) h2 hZ
  rw [h7, h8] at h9
  refine ⟨⟨by rw [hbx]; exact Rai h3, ?_, by rw [hbx]; exact h6, h9⟩, by rw [h10, h7]; simp only [Xas]; omega⟩
  rw [hbx, add_block]
  cases ro with
  | true =>
   simp only [if_true]
   have hm := rH (wr := true) hsb hp'
   cases ro' with
   | true => simp only [callG, h4, if_true]
   | false =>
    simp only [Mb6, if_false] at h4
    simp only [callG, h4]
    rw [yU fun hm' => mM hk.ro hm' hm]
  | false =>
   simp only [Mb6, if_false]
   rcases hb.1 with h11 | h11
   ·cases h11.1
   ·have hro : ro' = false := h11.1.2
    subst hro
    simp only [Mb6, if_false] at h4
    simp only [callG, h4]
    rw [oW hk.wr hsb hp']
    simp
theorem Za0 (hR : R E.ntmps F σ ρ a w G) (hg : gOn ρ g = true) (hst : aK cf ρ g nv Z.lets) (hk : Iai s Z) {T : Take} {vs : List SV} (h1 : (dU g Take.empty s.params vs).eval σ = some T) (h2 : (dQ T.ptrs T 0 s.boxes).eval σ = some Z)
  {us : List Value} (hu : pV σ ρ G w vs us) : Xap s us w (callG ρ G w s Z) (Z.xs.map (·.val ρ)) := by
 obtain ⟨h3, h4, h5⟩ := jM h2
 obtain ⟨h6, h7, h8⟩ := Ba5 hR hg hst hk h1 h3 hu
 rw [<- h4] at h2
 obtain ⟨h9, h10⟩ := yJ hR hg hst hk (by simp) h2 (.refl _)
 have e1 : Take.empty.xs.length = 0 := rfl
 have e2 : Take.empty.rts.length = 0 := rfl
 rw [e1, e2] at h6
 rw [e1, Nbt] at h7
 rw [e2, Nbt] at h8
 rw [h7, h8] at h9
 refine ⟨h6, h9, by rw [Nbb, h10, h7], fun b hb => nE (hR.frame.fresh b hb), fun b j hb hj => ?_⟩
 cases e : G.own b with
 | slc r p =>
  exfalso
  simp only [callG, e] at hj
  have : ∀ (rts : List RT) (ν : Nat), kK ρ (Z.deps.map (·.1)) ν rts r p ≠ .box j := by
   intro rts
   induction rts with
   | nil => intro ν h; simp only [kK] at h; split at h <;> cases h
   | cons x t ih =>
    intro ν h
    cases x with
    | nil => exact ih _ h
    | own s d =>
     simp only [kK] at h
     split at h
     ·split at h <;> cases h
     ·exact ih _ h
    | mu s d q X =>
     simp only [kK] at h
     split at h
     ·split at h
      ·split at h <;> cases h
      ·cases h
     ·exact ih _ h
  exact this _ _ hj
 | box c =>
  simp only [callG, e] at hj
  split at hj
  case h_2 => cases hj
  rename_i x hx
  split at hj
  case isFalse => cases hj
  rename_i hbk
  injection hj with hj
  subst hj
  obtain ⟨j, cs, off, e1, e2, e3⟩ := Dae hx
  rw [Nbt] at e1
  subst e1
  refine ⟨(List.getElem?_eq_some_iff.1 e2).1, ?_⟩
  rw [h4] at e3
  have := h5 x _ _ e2
  rw [Nbt] at this
  obtain ⟨c', off', ro', ls, h11, h12, h13, h14⟩ := this
  rw [e3] at h11
  obtain ⟨rfl, rfl⟩ : c = c' /\ off = off' := by simpa using h11
  obtain ⟨-, -, h15⟩ := hR.box h12
  have hlt : 0 < ls.length := by have := (h14 rfl).2; omega
  obtain ⟨v, h16, -, -⟩ := h15 0 _ (Mb0 hlt)
  rw [hbk]
  unfold World.cell? at h16
  rw [add_block] at h16
  cases hh : w.heap[(G.bx c).block]? with
  | none => rw [hh] at h16; cases h16
  | some blk =>
   rw [hh] at h16
   cases blk with
   | cells c0 e fr => exact ⟨c0, e, fr, rfl⟩
   | _ => simp at h16
 | frz => rw [nE e] at hj; cases hj
 | oth => simp only [callG, e] at hj; cases hj
end
end Go.Proofs.YtpgnlmfmlffjcaaGreat.Rf

namespace Go.Proofs.YtpgnlmfmlffjcaaGreat.Rf
set_option linter.unusedVariables false
set_option linter.unusedSimpArgs false
def Jap : Ow -> Bool
 | .slc _ _ => true
 | _ => false
def lH (r : Nat) : List RT -> Option RT
 | [] => none
 | .nil :: t => lH r t
 | .own s d :: t => if r = s then some (.own s d) else lH r t
 | .mu s d q X :: t => if r = s then some (.mu s d q X) else lH r t
def xK (ρ : List D) (rts : List RT) : Ow -> Ow
 | .slc r p => match lH r rts with
  | some (.own _ _) => .frz
  | some (.mu _ d q _) => match strip (aX ρ q) p with
   | some t => if t.length < d then .slc r p else .frz
   | none => .slc r p
  | _ => .slc r p
 | o => o
def rM (gd : Bool) (ρ : List D) (nr nb nbx : Nat) (mus : List RT) : Ow -> Ow
 | .slc t p => if t % 2 = 0 then (if gd = true then .frz else if t / 2 < bM then .slc (nr + t / 2) p else .oth) else (match mus[t / 2]? with
  | some (.mu r _ q _) => .slc r (aX ρ q ++ p)
  | _ => .oth)
 | .box β => if β = nbx then .box nb else .oth
 | o => o
def dW (gd : Bool) (ρ : List D) (G : Gh) (w : World) (s : Sig) (Z : Take) (nr nb : Nat) (own' : Nat -> Ow) (hs : List Value) (adn : Addr) : Gh := {
 own := fun b => if b < w.heap.size /\ Jap ((callG ρ G w s Z).own b) = false then xK ρ Z.rts (G.own b) else rM gd ρ nr nb s.boxes.length (Z.rts.filter uG) (own' b)
 hdr := fun r => if nr <= r /\ r < nr + bM then hs.getD (r - nr) undef else G.hdr r
 bx := fun b => if b = nb then adn else G.bx b }
theorem qJ {r : Nat} : ∀ {rts : List RT}, r ∉ bO rts -> lH r rts = none
 | [], _ => rfl
 | .nil :: t, h => qJ (rts := t) h
 | .own s d :: t, h => by
  simp only [bO, Nbz, not_or] at h
  simp only [lH, if_neg h.1]
  exact qJ h.2
 | .mu s d q X :: t, h => by
  simp only [bO, Nbz, not_or] at h
  simp only [lH, if_neg h.1]
  exact qJ h.2
theorem qI {r : Nat} : ∀ {rts : List RT}, r ∈ bO rts -> ∃ (ν : Nat) (x : RT), rts[ν]? = some x /\ lH r rts = some x /\ ((∃ d, x = .own r d) \/ ∃ d q X, x = .mu r d q X)
 | [], h => by simp [bO] at h
 | .nil :: t, h => by
  obtain ⟨ν, x, h1, h2⟩ := qI (rts := t) h
  exact ⟨ν + 1, x, by simpa using h1, h2⟩
 | .own s d :: t, h => by
  by_cases e : r = s
  ·subst e
   exact ⟨0, _, rfl, by simp [lH], .inl ⟨d, rfl⟩⟩
  ·simp only [bO, Nbz, e, false_or] at h
   obtain ⟨ν, x, h1, h2⟩ := qI h
   exact ⟨ν + 1, x, by simpa using h1, by simp only [lH, if_neg e]; exact h2⟩
 | .mu s d q X :: t, h => by
  by_cases e : r = s
  ·subst e
   exact ⟨0, _, rfl, by simp [lH], .inr ⟨d, q, X, rfl⟩⟩
  ·simp only [bO, Nbz, e, false_or] at h
   obtain ⟨ν, x, h1, h2⟩ := qI h
   exact ⟨ν + 1, x, by simpa using h1, by simp only [lH, if_neg e]; exact h2⟩
theorem zA {r d : Nat} {q : List (aJ × Nat × Nat)} {X : aJ} : ∀ {rts : List RT} {ν : Nat}, distinct (bO rts) = true -> rts[ν]? = some (.mu r d q X) -> lH r rts = some (.mu r d q X)
 | [], ν, _, h => by simp at h
 | x :: t, 0, hd, h => by
  simp only [Mb5, Option.some.injEq] at h
  subst h
  simp [lH]
 | x :: t, ν + 1, hd, h => by
  simp only [Nb2] at h
  have hm := qH (.inr ⟨d, q, X, h⟩)
  cases x with
  | nil => exact zA (rts := t) hd h
  | own s d' =>
   simp only [bO, distinct, Mby, Nbp] at hd
   have hne : r ≠ s := fun e => by rw [e, <- kL, hd.1] at hm; cases hm
   simp only [lH, if_neg hne]
   exact zA hd.2 h
  | mu s d' q' X' =>
   simp only [bO, distinct, Mby, Nbp] at hd
   have hne : r ≠ s := fun e => by rw [e, <- kL, hd.1] at hm; cases hm
   simp only [lH, if_neg hne]
   exact zA hd.2 h
theorem Daf {ρ : List D} {dr : List Nat} {r : Nat} {p : List Nat} : ∀ (rts : List RT) (ν : Nat), (∃ ν' t, kK ρ dr ν rts r p = .slc ν' t) \/ kK ρ dr ν rts r p = .frz \/ kK ρ dr ν rts r p = .oth
 | [], ν => by
  simp only [kK]
  split
  ·exact .inr (.inl rfl)
  ·exact .inr (.inr rfl)
 | .nil :: t, ν => Daf t (ν + 1)
 | .own s d :: t, ν => by
  simp only [kK]
  split
  ·split
   ·exact .inl ⟨_, _, rfl⟩
   ·exact .inr (.inl rfl)
  ·exact Daf t (ν + 1)
 | .mu s d q X :: t, ν => by
  simp only [kK]
  split
  ·split
   ·split
    ·exact .inl ⟨_, _, rfl⟩
    ·exact .inr (.inl rfl)
   ·exact .inr (.inr rfl)
  ·exact Daf t (ν + 1)
theorem Rp.remap {own own' : Nat -> Ow} {w : World} {r r' : Nat} {q q' : List Nat} {p : List Nat} {m : Nat} {v : Value} {d : D} (h : Rp own w r p m v d)
  (hs : ∀ b t, own b = .slc r (q ++ t) -> own' b = .slc r' (q' ++ t)) : ∀ s, p = q ++ s -> ((∀ b, own b = .frz -> b < w.heap.size -> own' b = .frz) \/ mY m d = true) -> Rp own' w r' (q' ++ s) m v d := by
 induction h with
 | sc h => exact fun _ _ _ => .sc h
 | hole v h1 => exact fun _ _ _ => .hole v h1
 | fz h =>
  intro s _ hz
  rcases hz with hz | hz
  ·exact .fz (h.mono' fun b hb hlt => ⟨hz b hb hlt, rfl⟩)
  ·cases h with
   | sc h => exact .sc h
   | hole _ h1 => exact .hole _ h1
   | rows => simp [mY, D.isSc] at hz
 | sl A a n c sz rs vs hn hc hA hsz hown hcell hrec ih =>
  rename_i p m
  intro s hp hz
  refine .sl A a n c sz rs vs hn hc hA hsz (fun e => ?_) hcell (fun i row hi j d hj => ?_)
  ·obtain ⟨h1, h2, h3⟩ := hown e
   rw [hp] at h2
   exact ⟨h1, hs _ _ h2, h3⟩
  ·have := ih i row hi j d hj (s ++ [i * sz + j]) (by rw [hp, Mb7]) (hz.imp id fun hz => by
    simp only [mY, Nbq] at hz
    exact hz row (Nbe hi) d (Nbe hj))
   rwa [<- Mb7] at this
theorem Rp.updM {own own' : Nat -> Ow} {w w' : World} {r M : Nat} {full : List Nat} {y : D} {u : Value}
  (hz : ∀ b, own b = .frz -> b < w.heap.size -> own' b = .frz /\ w'.heap[b]? = w.heap[b]?)
  (hs : ∀ b t, own b = .slc r t -> ¬ full <+: t -> own' b = .slc r t /\ w'.heap[b]? = w.heap[b]?)
  (hM : full.length <= M) (hnew : Rp own' w' r full (M - full.length) u y) :
  ∀ (p q : List Nat) (v : Value) (x x' : D), full = q ++ p -> Rp own w r q (M - q.length) v x -> yD own w r q v p u -> Upd p x y x' -> Rp own' w' r q (M - q.length) v x'
 | [], q, v, x, x', hf, hx, hn, hu => by
  cases hu
  simp only [yD] at hn
  rw [Nbo] at hf
  subst hf hn
  exact hnew
 | k :: p, q, v, x, x', hf, hx, hn, hu => by
  generalize hk : k :: p = kp at hu
  cases hu with
  | here => cases hk
  | down sz rs i j row z z' y p' hi hj hu =>
   obtain ⟨rfl, rfl⟩ := List.cons.inj hk
   have hlen : full.length = q.length + (p.length + 1) := by rw [hf]; simp
   obtain ⟨m, hm⟩ : ∃ m, M - q.length = m + 1 := ⟨M - q.length - 1, by omega⟩
   rw [hm] at hx
   rw [hm]
   obtain ⟨A, a, n, c, vs, rfl, h1, h2, h3, h4, h5, h6, h7⟩ := hx.sl_inv
   have hil : i < rs.length := (List.getElem?_eq_some_iff.1 hi).1
   have hA : A = some a := by
    rcases h3 with e | ⟨e, e'⟩
    ·exact e
    ·omega
   subst hA
   obtain ⟨h8, h9, h10⟩ := h5 rfl
   obtain ⟨a', n', c', u', e1, e2, e3, e4⟩ := hn
   obtain ⟨rfl, rfl, rfl⟩ : a = a' /\ n = n' /\ c = c' := by injection e1 with a b c; exact ⟨Option.some.inj a, b, c⟩
   have hcell0 := h6 i row hi j z hj
   rw [hcell0] at e3
   obtain rfl := Option.some.inj e3
   have hq : ¬ full <+: q := by
    intro e
    have := e.length_le
    omega
   obtain ⟨hown', hheap⟩ := hs _ _ h9 hq
   have hkeep : ∀ k, w'.cell? (a.add k) = w.cell? (a.add k) := fun k => dS (w := w) (w' := w') (by rw [add_block]; exact hheap)
   have hkeepf : ∀ k, w'.frozen? (a.add k) = w.frozen? (a.add k) := fun k => jI (w := w) (w' := w') (by rw [add_block]; exact hheap)
   have hrec := Rp.updM hz hs hM hnew p (q ++ [i * sz + j]) (vs i j) z z' (by rw [hf]; simp) (by
    have := h7 i row hi j z hj
    rwa [show M - (q ++ [i * sz + j]).length = m by simp; omega]) e4 hu
   rw [show M - (q ++ [i * sz + j]).length = m by simp; omega] at hrec
   have hrowlen : row.length = sz := h4 row (Nbe hi)
   have hlt : j < sz := by rw [<- hrowlen]; exact (List.getElem?_eq_some_iff.1 hj).1
   have hget : ∀ i' row', (rs.set i (row.set j z'))[i']? = some row' -> ∀ j' d, row'[j']? = some d -> (i' = i /\ j' = j /\ d = z') \/ (∃ row0, rs[i']? = some row0 /\ row0[j']? = some d /\ ¬ (i' = i /\ j' = j)) := by
    intro i' row' hi' j' d hj'
    rw [Obw] at hi'
    by_cases hii : i = i'
    ·subst hii
     rw [if_pos rfl, if_pos hil] at hi'
     obtain rfl := Option.some.inj hi'
     rw [Obw] at hj'
     by_cases hjj : j = j'
     ·subst hjj
      rw [if_pos rfl, if_pos (by omega)] at hj'
      exact .inl ⟨rfl, rfl, (Option.some.inj hj').symm⟩
     ·rw [if_neg hjj] at hj'
      exact .inr ⟨row, hi, hj', fun e => hjj e.2.symm⟩
    ·rw [if_neg hii] at hi'
     exact .inr ⟨row', hi', hj', fun e => hii e.1.symm⟩
   refine .sl _ a n c sz _ vs (by simpa using h1) h2 (.inl rfl) (fun row' hr => ?_) (fun _ => ⟨h8, hown', fun k hk => ?_⟩) (fun i' row' hi' j' d hj' => ?_) (fun i' row' hi' j' d hj' => ?_)
   ·rcases List.mem_or_eq_of_mem_set hr with hr | rfl
    ·exact h4 _ hr
    ·simpa using hrowlen
   ·rw [hkeep, hkeepf]
    exact h10 k hk
   ·rw [hkeep]
    rcases hget i' row' hi' j' d hj' with ⟨rfl, rfl, rfl⟩ | ⟨row0, h11, h12, -⟩
    ·exact hcell0
    ·exact h6 _ _ h11 _ _ h12
   ·rcases hget i' row' hi' j' d hj' with ⟨rfl, rfl, rfl⟩ | ⟨row0, h11, h12, hne⟩
    ·exact hrec
    ·have := (h7 _ _ h11 _ _ h12).mono' (own' := own') (w' := w') (r' := r) (q := q ++ [i' * sz + j']) (q' := q ++ [i' * sz + j']) hz [] (by simp) fun b t hb => by
      have hnp : ¬ full <+: q ++ [i' * sz + j'] ++ t := by
       intro e
       rw [hf, Mb7, List.prefix_append_right_inj] at e
       have e' := (List.cons_prefix_cons.1 e).1
       have hj'l : j' < sz := by
        have := (List.getElem?_eq_some_iff.1 h12).1
        rw [h4 row0 (Nbe h11)] at this
        exact this
       obtain ⟨h15, h16⟩ := Abs hj'l hlt e'.symm
       exact hne ⟨h15, h16⟩
      exact hs b _ hb hnp
     simpa using this
theorem Rp.deeper {own : Nat -> Ow} {w : World} {r : Nat} {p : List Nat} {m : Nat} {v : Value} {d : D} (h : Rp own w r p m v d) : ∀ {m' : Nat}, m <= m' -> mY m d = true -> Rp own w r p m' v d := by
 induction h with
 | sc h => exact fun _ _ => .sc h
 | hole v h1 => exact fun _ _ => .hole v h1
 | fz h =>
  intro m' _ hz
  cases h with
  | sc h => exact .sc h
  | hole _ h1 => exact .hole _ h1
  | rows => simp [mY, D.isSc] at hz
 | sl A a n c sz rs vs hn hc hA hsz hown hcell hrec ih =>
  rename_i p m
  intro m' hm hz
  obtain ⟨k, rfl⟩ : ∃ k, m' = k + 1 := ⟨m' - 1, by omega⟩
  refine .sl A a n c sz rs vs hn hc hA hsz hown hcell (fun i row hi j d hj => ih i row hi j d hj (by omega) ?_)
  simp only [mY, Nbq] at hz
  exact hz row (Nbe hi) d (Nbe hj)
section
variable {E : Env} {F : bB} {σ : Nat -> Option aP} {ρ : List D} {a : Act} {w w' : World} {G G' : Gh} {s : Sig} {Z : Take} {gd : Bool} {nr nb : Nat} {hs : List Value} {adn : Addr}
structure Nav (E : Env) (F : bB) (σ : Nat -> Option aP) (ρ : List D) (a : Act) (w : World) (G : Gh) (s : Sig) (Z : Take) (G' : Gh) (w' : World) : Prop where
 hR : R E.ntmps F σ ρ a w G
 hk : Iai s Z
 hF : kM (nG s (callG ρ G w s Z) w) G' w'
 bx : ∀ j ro cs, s.boxes[j]? = some (ro, cs) -> Lbu σ Z.ptrs j ro cs
 deps : ∀ z ∈ Z.deps, Jah σ z.1 z.2
 mus : ∀ (ν r d : Nat) (q : List (aJ × Nat × Nat)) (X : aJ), Z.rts[ν]? = some (RT.mu r d q X) -> ∃ m ver u, σ (kR r) = some (.root X m ver .live) /\ q.length + d <= m /\ yD G.own w r [] (G.hdr r) (aX ρ q) u
 owns : ∀ (ν r d : Nat), Z.rts[ν]? = some (RT.own r d) -> ∃ x m ver, σ (kR r) = some (.root x m ver .live)
variable (B : Nav E F σ ρ a w G s Z G' w')
include B
theorem Nav.keep {b : Nat} (hb : b < w.heap.size) (h : (callG ρ G w s Z).own b = .frz \/ (callG ρ G w s Z).own b = .oth) : w'.heap[b]? = w.heap[b]? /\ G'.own b = (callG ρ G w s Z).own b := B.hF.keep b hb h
theorem Nav.lt {b r : Nat} {p : List Nat} (h : G.own b = .slc r p) : b < w.heap.size := by
 rcases Nbk b w.heap.size with h1 | h1
 ·exact h1
 ·rw [B.hR.frame.fresh b h1] at h; cases h
theorem Nav.own_eq {b : Nat} (hb : b < w.heap.size) (h : Jap ((callG ρ G w s Z).own b) = false) : (dW gd ρ G w s Z nr nb G'.own hs adn).own b = xK ρ Z.rts (G.own b) := by
 simp only [dW]
 rw [if_pos ⟨hb, h⟩]
theorem Nav.frz {b : Nat} (h : G.own b = .frz) (hb : b < w.heap.size) : (dW gd ρ G w s Z nr nb G'.own hs adn).own b = .frz /\ w'.heap[b]? = w.heap[b]? := by
 have h1 : (callG ρ G w s Z).own b = .frz := nE h
 refine ⟨?_, (B.keep hb (.inl h1)).1⟩
 rw [B.own_eq hb (by rw [h1]; rfl), h]; rfl
theorem Nav.other {b r : Nat} {p : List Nat} (hr : r ∉ bO Z.rts) (h : G.own b = .slc r p) : (dW gd ρ G w s Z nr nb G'.own hs adn).own b = .slc r p /\ w'.heap[b]? = w.heap[b]? := by
 have hb := B.lt h
 have h1 : (callG ρ G w s Z).own b = if r ∈ Z.deps.map (·.1) then .frz else .oth := by
  simp only [callG, h]
  exact oZ hr
 have h2 : (callG ρ G w s Z).own b = .frz \/ (callG ρ G w s Z).own b = .oth := by
  rw [h1]
  split
  ·exact .inl rfl
  ·exact .inr rfl
 refine ⟨?_, (B.keep hb h2).1⟩
 rw [B.own_eq hb (by rcases h2 with e | e <;> rw [e] <;> rfl), h]
 simp only [xK, qJ hr]
theorem Nav.oth {b : Nat} (h : G.own b = .oth) (hb : b < w.heap.size) : (dW gd ρ G w s Z nr nb G'.own hs adn).own b = .oth /\ w'.heap[b]? = w.heap[b]? := by
 have h1 : (callG ρ G w s Z).own b = .oth := by simp only [callG, h]
 refine ⟨?_, (B.keep hb (.inr h1)).1⟩
 rw [B.own_eq hb (by rw [h1]; rfl), h]; rfl
theorem Nav.boxes {b c : Nat} (h : G.own b = .box c) (hb : b < w.heap.size) : (dW gd ρ G w s Z nr nb G'.own hs adn).own b = .box c /\
  (w'.heap[b]? = w.heap[b]? \/ ∃ j cs off ls c0 c1 e fr, s.boxes[j]? = some (false, cs) /\ mI j Z.ptrs = some (c, off) /\ b = (G.bx c).block /\ σ (kB c) = some (.box false ls) /\ off + cs.length <= ls.length /\
   w.heap[b]? = some (.cells c0 e fr) /\ w'.heap[b]? = some (.cells c1 e fr) /\ c1.size = c0.size /\ ∀ k, k < (G.bx c).off + off \/ (G.bx c).off + off + cs.length <= k -> c1[k]? = c0[k]?) := by
 have key : ((callG ρ G w s Z).own b = .oth) \/ ∃ j, Oam Z.ptrs c 0 s.boxes = some j /\ b = (G.bx c).block /\ (callG ρ G w s Z).own b = .box j := by
  simp only [callG, h]
  split
  ·rename_i j hj
   split
   ·rename_i hbk
    exact .inr ⟨j, hj, hbk, rfl⟩
   ·exact .inl rfl
  ·exact .inl rfl
 rcases key with h1 | ⟨j, hj, hbk, h1⟩
 ·refine ⟨?_, .inl (B.keep hb (.inr h1)).1⟩
  rw [B.own_eq hb (by rw [h1]; rfl), h]; rfl
 ·refine ⟨by rw [B.own_eq hb (by rw [h1]; rfl), h]; rfl, .inr ?_⟩
  obtain ⟨j', cs, off, e1, e2, e3⟩ := Dae hj
  rw [Nbt] at e1
  subst e1
  obtain ⟨c', off', ro', ls, h2, h3, h4, h5⟩ := B.bx j false cs e2
  rw [e3] at h2
  obtain ⟨rfl, rfl⟩ : c = c' /\ off = off' := by simpa using h2
  obtain rfl := (h5 rfl).1
  obtain ⟨-, c0, c1, e, fr, h6, h7, h8, h9⟩ := B.hF.boxes b j hb h1
  refine ⟨j, cs, off, ls, c0, c1, e, fr, e2, e3, hbk, h3, h4, h6, h7, h8, fun k hk => h9 k ?_⟩
  have e4 : (nG s (callG ρ G w s Z) w).rng j = ((G.bx c).off + off, (G.bx c).off + off + cs.length) := by
   simp only [nG, callG, e3, Par, Mb4, e2, Obt]
  rw [e4]
  exact hk
theorem Nav.allow {b : Nat} (h : G'.own b = .frz) : allow (dW gd ρ G w s Z nr nb G'.own hs adn) Z.deps b := by
 by_cases hb : b < w.heap.size
 ·cases hsl : Jap ((callG ρ G w s Z).own b) with
  | true =>
   refine .inl ?_
   simp only [dW]
   rw [if_neg (by rw [hsl]; simp), h]; rfl
  | false =>
   have hown := B.own_eq (gd := gd) (nr := nr) (nb := nb) (hs := hs) (adn := adn) hb hsl
   cases hg : G.own b with
   | frz => exact .inl (B.frz hg hb).1
   | oth =>
    have h1 : (callG ρ G w s Z).own b = .oth := by simp only [callG, hg]
    have := (B.keep hb (.inr h1)).2
    rw [h, h1] at this; cases this
   | box c =>
    have hbk := (B.boxes (gd := gd) (nr := nr) (nb := nb) (hs := hs) (adn := adn) hg hb)
    exfalso
    have key : ((callG ρ G w s Z).own b = .oth) \/ ∃ j, (callG ρ G w s Z).own b = .box j := by
     simp only [callG, hg]
     split
     ·split
      ·exact .inr ⟨_, rfl⟩
      ·exact .inl rfl
     ·exact .inl rfl
    rcases key with h1 | ⟨j, h1⟩
    ·have := (B.keep hb (.inr h1)).2
     rw [h, h1] at this; cases this
    ·have := (B.hF.boxes b j hb h1).1
     rw [h] at this; cases this
   | slc r p =>
    by_cases hr : r ∈ bO Z.rts
    ·refine .inl ?_
     rw [hown, hg]
     obtain ⟨ν, x, h1, h2, h3⟩ := qI hr
     simp only [xK, h2]
     rcases h3 with ⟨d, rfl⟩ | ⟨d, q, X, rfl⟩
     ·rfl
     ·have h4 := Kaa (ρ := ρ) (G := G) (w := w) B.hk h1 hg
      dsimp only
      rw [h4] at hsl
      cases hst : strip (aX ρ q) p with
      | some t' =>
       rw [hst] at hsl
       dsimp only at hsl ⊢
       split at hsl
       ·cases hsl
       ·rename_i hle
        rw [if_neg hle]
      | none =>
       have h5 : (callG ρ G w s Z).own b = .oth := by rw [h4, hst]
       have := (B.keep hb (.inr h5)).2
       rw [h, h5] at this; cases this
    ·have h1 : (callG ρ G w s Z).own b = if r ∈ Z.deps.map (·.1) then .frz else .oth := by
      simp only [callG, hg]
      exact oZ hr
     by_cases hd : r ∈ Z.deps.map (·.1)
     ·obtain ⟨z, hz, e⟩ := List.mem_map.1 hd
      refine .inr ⟨r, z.2, p, by rw [<- e]; exact hz, (B.other hr hg).1⟩
     ·rw [if_neg hd] at h1
      have := (B.keep hb (.inr h1)).2
      rw [h, h1] at this; cases this
 ·refine .inl ?_
  simp only [dW]
  rw [if_neg (by simp [hb]), h]; rfl
theorem Nav.rd {v : Value} {d : D} (h : Rd (fun b => G'.own b = .frz) w' v d) : Rd (Go.Proofs.YtpgnlmfmlffjcaaGreat.Rf.allow (dW gd ρ G w s Z nr nb G'.own hs adn) Z.deps) w' v d :=
 h.mono fun b hb => ⟨B.allow hb, rfl⟩
theorem Nav.slc {b t : Nat} {p : List Nat} (h : G'.own b = .slc t p) : (dW gd ρ G w s Z nr nb G'.own hs adn).own b = rM gd ρ nr nb s.boxes.length (Z.rts.filter uG) (.slc t p) := by
 simp only [dW]
 rw [if_neg, h]
 rintro ⟨hb, hsl⟩
 cases hg : (callG ρ G w s Z).own b with
 | frz => have := (B.keep hb (.inl hg)).2; rw [h, hg] at this; cases this
 | oth => have := (B.keep hb (.inr hg)).2; rw [h, hg] at this; cases this
 | slc _ _ => rw [hg] at hsl; cases hsl
 | box j => have := (B.hF.boxes b j hb hg).1; rw [h] at this; cases this
theorem Nav.give {q m : Nat} {v : Value} {d : D} (h : Rp G'.own w' (2 * q) [] m v d) (hfit : Z.deps = [] \/ mY m d = true) (hgd : gd = false) (hq : q < bM) : Rp (dW gd ρ G w s Z nr nb G'.own hs adn).own w' (nr + q) [] m v d := by
 have := h.remap (own' := (dW gd ρ G w s Z nr nb G'.own hs adn).own) (r' := nr + q) (q := []) (q' := []) (fun b t hb => by
  rw [B.slc hb, hgd]
  simp only [rM, Nb5]
  rw [if_pos (by omega), if_neg (by simp), show 2 * q / 2 = q by omega, if_pos hq]) [] rfl (hfit.imp (fun e b hb _ => by
   rcases B.allow (gd := gd) (nr := nr) (nb := nb) (hs := hs) (adn := adn) hb with h1 | ⟨r, k, p, h1, -⟩
   ·exact h1
   ·rw [e] at h1; simp at h1) id)
 simpa using this
theorem Nav.giveGd {q m : Nat} {v : Value} {d : D} (h : Rp G'.own w' (2 * q) [] m v d) (hgd : gd = true) : Rd (Go.Proofs.YtpgnlmfmlffjcaaGreat.Rf.allow (dW gd ρ G w s Z nr nb G'.own hs adn) Z.deps) w' v d := by
 refine h.rd.mono fun b hb => ⟨?_, rfl⟩
 rcases hb with hb | ⟨p, hb⟩
 ·exact B.allow hb
 ·refine .inl ?_
  rw [B.slc hb, hgd]
  simp only [rM]
  rw [if_pos (by omega), if_pos trivial]
theorem Nav.mu {ν j r d m ver : Nat} {q : List (aJ × Nat × Nat)} {X y X' X0 : aJ} (hm : σ (kR r) = some (.root X0 m ver .live)) (hdm : q.length + d = m \/ mY d (y.val ρ) = true) (hν : Z.rts[ν]? = some (.mu r d q X)) (hj : (Z.rts.filter uG)[j]? = some (.mu r d q X)) {u : Value} (hu : ∀ u', yD G.own w r [] (G.hdr r) (aX ρ q) u' -> u = u')
  (h : Rp G'.own w' (2 * j + 1) [] d u (y.val ρ)) (hfit : Z.deps = [] \/ mY d (y.val ρ) = true) (hupd : Upd (aX ρ q) (X.val ρ) (y.val ρ) (X'.val ρ)) :
  Rp (dW gd ρ G w s Z nr nb G'.own hs adn).own w' r [] m (G.hdr r) (X'.val ρ) := by
 obtain ⟨m', ver', u', hσ, hle, hn⟩ := B.mus ν r d q X hν
 rw [hm] at hσ
 obtain ⟨rfl, rfl, rfl⟩ : X0 = X /\ m = m' /\ ver = ver' := by
  have := Option.some.inj hσ
  injection this with e1 e2 e3
  exact ⟨e1, e2, e3⟩
 obtain rfl := hu u' hn
 have hlen : (aX ρ q).length = q.length := by simp [aX]
 have hnew : Rp (dW gd ρ G w s Z nr nb G'.own hs adn).own w' r (aX ρ q) d u (y.val ρ) := by
  have := h.remap (own' := (dW gd ρ G w s Z nr nb G'.own hs adn).own) (r' := r) (q := []) (q' := aX ρ q) (fun b t hb => by
   rw [B.slc hb]
   simp only [rM, Nb5]
   rw [if_neg (by omega), show (2 * j + 1) / 2 = j by omega, hj]) [] rfl (hfit.imp (fun e b hb _ => by
    rcases B.allow (gd := gd) (nr := nr) (nb := nb) (hs := hs) (adn := adn) hb with h1 | ⟨r, k, p, h1, -⟩
    ·exact h1
    ·rw [e] at h1; simp at h1) id)
  simpa using this
 have hnew' : Rp (dW gd ρ G w s Z nr nb G'.own hs adn).own w' r (aX ρ q) (m - (aX ρ q).length) u (y.val ρ) := by
  rcases hdm with e | e
  ·rwa [hlen, show m - q.length = d by omega]
  ·exact hnew.deeper (by omega) e
 have hroot := B.hR.root hm
 simp only [bJ] at hroot
 have := Rp.updM (own := G.own) (own' := (dW gd ρ G w s Z nr nb G'.own hs adn).own) (w := w) (w' := w') (r := r) (M := m) (full := aX ρ q) (y := y.val ρ) (u := u)
  (fun b hb hlt => B.frz hb hlt) (fun b t hb hnp => ?_) (by omega) hnew' (aX ρ q) [] (G.hdr r) (X0.val ρ) (X'.val ρ) (by simp) (by simpa using hroot) hn hupd
 ·simpa using this
 ·have hlt := B.lt hb
  have h1 := Kaa (ρ := ρ) (G := G) (w := w) B.hk hν hb
  have hst : strip (aX ρ q) t = none := by
   cases e : strip (aX ρ q) t with
   | none => rfl
   | some t' => exact absurd ⟨t', (Ga6 e).symm⟩ hnp
  rw [hst] at h1
  refine ⟨?_, (B.keep hlt (.inr h1)).1⟩
  rw [B.own_eq hlt (by rw [h1]; rfl), hb]
  simp only [xK, zA B.hk.dist hν, hst]
theorem Nav.frame : kM F (dW gd ρ G w s Z nr nb G'.own hs adn) w' := by
 have hsz : w.heap.size <= w'.heap.size := B.hF.size
 refine ⟨B.hF.os.trans B.hR.frame.os, B.hF.tape.trans B.hR.frame.tape, B.hF.output.trans B.hR.frame.output, Nat.le_trans B.hR.frame.size hsz, fun b hb ho => ?_, fun b j hb ho => ?_, fun b hb => ?_⟩
 ·obtain ⟨h1, h2⟩ := B.hR.frame.keep b hb ho
  have hlt : b < w.heap.size := Nat.lt_of_lt_of_le hb B.hR.frame.size
  rcases ho with ho | ho
  ·rw [ho] at h2 ⊢
   obtain ⟨h3, h4⟩ := B.frz (gd := gd) (nr := nr) (nb := nb) (hs := hs) (adn := adn) h2 hlt
   exact ⟨h4.trans h1, h3⟩
  ·rw [ho] at h2 ⊢
   obtain ⟨h3, h4⟩ := B.oth (gd := gd) (nr := nr) (nb := nb) (hs := hs) (adn := adn) h2 hlt
   exact ⟨h4.trans h1, h3⟩
 ·obtain ⟨h1, c0, c1, e, fr, h2, h3, h4, h5⟩ := B.hR.frame.boxes b j hb ho
  have hlt : b < w.heap.size := Nat.lt_of_lt_of_le hb B.hR.frame.size
  obtain ⟨h6, h7⟩ := B.boxes (gd := gd) (nr := nr) (nb := nb) (hs := hs) (adn := adn) h1 hlt
  refine ⟨h6, ?_⟩
  rcases h7 with h7 | ⟨i, cs, off, ls, d0, d1, e', fr', h8, h9, h10, h11, h12, h13, h14, h15, h16⟩
  ·exact ⟨c0, c1, e, fr, h2, h7.trans h3, h4, h5⟩
  ·rw [h3] at h13
   obtain ⟨rfl, rfl, rfl⟩ : c1 = d0 /\ e = e' /\ fr = fr' := by
    have := Option.some.inj h13
    injection this with e1 e2 e3
    exact ⟨e1, e2, e3⟩
   have hrng := B.hR.rng j ls h11 (by rw [<- h10]; exact hb) (by rw [<- h10]; exact ho)
   refine ⟨c0, d1, e, fr, h2, h14, h15.trans h4, fun k hk => ?_⟩
   rw [hrng] at hk
   dsimp only at hk
   rw [h16 k (by omega), h5 k (by rw [hrng]; exact hk)]
 ·simp only [dW]
  rw [if_neg (by omega), B.hF.fresh b hb]; rfl
end
end Go.Proofs.YtpgnlmfmlffjcaaGreat.Rf
