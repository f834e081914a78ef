/- Terms for the program's functions, and that they are right: part 7 of 9. -/
import Derived.Test.YtpgnlmfmlffjcaaGreatRf6
import Derived.SizedLaws
import Derived.Carry
import Derived.ChangeOld
import Derived.ChangeShapes
import Derived.RowKit
import Derived.IntWalk
open Bool renaming and_eq_true → Mby, false_eq_true → Mb6
open List renaming mem_append_left → Mbz, getElem?_eq_getElem → Mb0, mem_append_right → Mb1, length_append → Mb2, getD_eq_getElem?_getD → Mb4, getElem?_cons_zero → Mb5, append_assoc → Mb7, mem_cons_of_mem → Mb8, mem_singleton → Mb9, length_map → Nbb, length_cons → Nbc, mem_of_getElem? → Nbe, mem_cons_self → Nbf, replicate → Nbg, getElem?_append_right → Nbh, getElem?_append_left → Nbi, map_cons → Nbm, getElem?_map → Nbn, append_nil → Nbo, all_eq_true → Nbq, length_take → Nbr, map_nil → Nbv, mem_cons → Nbz, nil_append → Nb5, getElem?_take → Nb8, length_replicate → Obh, filter_cons → Obl, cons_append → Obv, getElem?_replicate → Ob1, mem_append → Pbu, getElem?_range → Pb5
open Nat renaming le_refl → Nbd, lt_or_ge → Nbk, add_assoc → Nbl, add_zero → Nbs, zero_add → Nbt, beq_eq → Nbu, add_sub_cancel_left → Nbx, ble_eq → Nb7
open Option renaming bind_eq_some_iff → Mbx, bind_some → Mb3, map_eq_some_iff → Nba, map_some → Nb3, getD_some → Obt
set_option linter.unusedSimpArgs false
set_option linter.unusedVariables false
set_option linter.unnecessarySimpa false
set_option linter.unusedSectionVars false
namespace Go.Proofs.YtpgnlmfmlffjcaaGreat.Rf
set_option linter.unusedVariables false
set_option linter.unusedSimpArgs false
section
variable (w : World)
def owC (ad : Addr) : Nat -> List BO -> List Value
 | _, [] => []
 | off, s :: r => (match s with | .ow _ => [(w.cell? (ad.add off)).getD undef] | _ => []) ++ owC ad (off + 1) r
def Qan : LR -> Value -> List Value
 | .ow _, v => [v]
 | .bx cs, .pointer (some ad) => owC w ad 0 cs
 | _, _ => []
def owL : List LR -> List Value -> List Value
 | s :: ss, v :: vs => Qan w s v ++ owL ss vs
 | _, _ => []
def owR : List (Bool × List LR) -> List Value -> List Value
 | (a, ss) :: rs, u :: us => owL w ss (if a = true then u.cells.toList else [u]) ++ owR rs us
 | _, _ => []
def owB (bx : Nat -> Addr) : Nat -> List (Bool × List (BS × BO)) -> List Value
 | _, [] => []
 | b, (ro, cs) :: r => if ro = true then owB bx (b + 1) r else owC w (bx b) 0 (cs.map (·.2)) ++ owB bx (b + 1) r
end
def Nam : LR -> Value -> List Addr
 | .bx _, .pointer (some ad) => [ad]
 | _, _ => []
def Kab : List LR -> List Value -> List Addr
 | s :: ss, v :: vs => Nam s v ++ Kab ss vs
 | _, _ => []
def Faw : List (Bool × List LR) -> List Value -> List Addr
 | (a, ss) :: rs, u :: us => Kab ss (if a = true then u.cells.toList else [u]) ++ Faw rs us
 | _, _ => []
theorem Tal (s : LR) (v : Value) : (Nam s v).length <= (match s with | .bx _ => 1 | _ => 0) := by
 unfold Nam
 split <;> simp
theorem Nao : ∀ (ss : List LR) (vs : List Value), (Kab ss vs).length <= bxL ss
 | [], vs => by simp [Kab]
 | s :: ss, [] => by simp [Kab]
 | s :: ss, v :: vs => by
  have h1 := Tal s v
  have h2 := Nao ss vs
  simp only [Kab, Mb2]
  cases s <;> simp only [bxL] at * <;> omega
theorem Nan : ∀ (rs : List (Bool × List LR)) (us : List Value), (Faw rs us).length <= jK rs
 | [], us => by simp [Faw]
 | (a, ss) :: rs, [] => by simp [Faw]
 | (a, ss) :: rs, u :: us => by
  have h1 := Nao ss (if a = true then u.cells.toList else [u])
  have h2 := Nan rs us
  simp only [Faw, Mb2, jK]
  omega
def Oaw : List BO -> Bool
 | [] => true
 | .ow _ :: _ => false
 | _ :: r => Oaw r
section
variable {E : Env} {F : bB} {σ σ' : Nat -> Option aP} {ρ : List D} {a : Act} {w w' : World} {G G' : Gh} {s : Sig} {Z : Take} {gd : Bool} {nr nb y0 : Nat} {hs : List Value} {adn : Addr} {ds : List D}
def Nau (ρ : List D) (l : List Step) : Prop := ∀ m y, .prim (.dep m) [.v y] 0 ∈ l -> mY m ((aJ.v y).val ρ) = true
structure Aft (E : Env) (F : bB) (σ σ' : Nat -> Option aP) (ρ : List D) (a : Act) (w : World) (G : Gh) (s : Sig) (Z : Take) (G' : Gh) (w' : World) (y0 : Nat) (ds : List D) : Prop where
 B : Nav E F σ ρ a w G s Z G' w'
 val : ∀ i, i < ds.length -> (aJ.v (y0 + i)).val ρ = ds.getD i .undef
 known : ∀ z ∈ Z.deps, iY σ' z.1 z.2
def UOk (NewB : Nat -> Prop) (σ' : Nat -> Option aP) (ρ : List D) (G2 : Gh) (w' : World) (nr nb y0 : Nat) (u : List (Nat × aP)) : Prop :=
 ∀ k c, (k, c) ∈ u -> (∃ q m i, k = kR (nr + q) /\ c = .root (.v (y0 + i)) m 0 .live /\ Rp G2.own w' (nr + q) [] m (G2.hdr (nr + q)) ((aJ.v (y0 + i)).val ρ)) \/
  (k = kB nb /\ ∃ ls, c = .box false ls /\ Iam σ' ρ G2 w' nb false ls /\ NewB (G2.bx nb).block)
theorem UOk.append {NewB : Nat -> Prop} {G2 : Gh} {u v : List (Nat × aP)} (h : UOk NewB σ' ρ G2 w' nr nb y0 u) (h' : UOk NewB σ' ρ G2 w' nr nb y0 v) : UOk NewB σ' ρ G2 w' nr nb y0 (u ++ v) := fun k c hc => (List.mem_append.1 hc).elim (h k c) (h' k c)
def UIn (σ' : Nat -> Option aP) (nr : Nat) (u : List (Nat × aP)) : Prop := ∀ k c, (k, c) ∈ u -> (σ' k).isSome /\ ∀ q, k = kR (nr + q) -> q < bM
theorem UIn.left {u v : List (Nat × aP)} (h : UIn σ' nr (u ++ v)) : UIn σ' nr u := fun k c hc => h k c (Mbz _ hc)
theorem UIn.right {u v : List (Nat × aP)} (h : UIn σ' nr (u ++ v)) : UIn σ' nr v := fun k c hc => h k c (Mb1 _ hc)
theorem Vay {own' : Nat -> Ow} {q : Nat} (hq : q < bM) {v : Value} (hv : hs[q]? = some v) : (dW gd ρ G w s Z nr nb own' hs adn).hdr (nr + q) = v := by
 simp only [dW]
 rw [if_pos ⟨by omega, by omega⟩, Nbx, Mb4, hv]
 rfl
variable (A : Aft E F σ σ' ρ a w G s Z G' w' y0 ds)
include A
theorem Tam {i q off : Nat} {t : BO} {v : Value} (h : Ba0 G'.own w' ds i q t v) (hi : i < ds.length) (hfit : Z.deps = [] \/ ∀ m, t = .ow m -> mY m ((aJ.v (y0 + i)).val ρ) = true)
  (hgd : gd = false \/ ∀ m, t ≠ .ow m) (hh : ∀ m, t = .ow m -> hs[q]? = some v) (hu : UIn σ' nr (iL Z.deps (y0 + i) (nr + q) t).2.1) :
  (iL Z.deps (y0 + i) (nr + q) t).2.2 = nr + q + t.q /\ aB σ' ρ (dW gd ρ G w s Z nr nb G'.own hs adn) w' (iL Z.deps (y0 + i) (nr + q) t).1 v /\ UOk (fun b => ¬ (b < w.heap.size /\ Jap ((callG ρ G w s Z).own b) = false)) σ' ρ (dW gd ρ G w s Z nr nb G'.own hs adn) w' nr nb y0 (iL Z.deps (y0 + i) (nr + q) t).2.1 := by
 cases t with
 | sc =>
  refine ⟨rfl, ?_, by simp [UOk, iL]⟩
  simp only [iL, aB]
  rw [A.val i hi]
  exact h
 | fz =>
  refine ⟨rfl, ?_, by simp [UOk, iL]⟩
  simp only [iL, aB]
  simp only [Ba0] at h
  rw [A.val i hi]
  exact ⟨⟨h.one, A.known⟩, fun _ => ⟨A.B.rd h, fun e => absurd e (by decide), trivial⟩⟩
 | ow m =>
  have hg : gd = false := hgd.resolve_right fun e => e m rfl
  simp only [Ba0] at h
  have hin := hu (kR (nr + q)) _ (by simp only [iL]; exact List.mem_singleton.2 rfl)
  have hhd := Vay (gd := gd) (ρ := ρ) (G := G) (w := w) (s := s) (Z := Z) (nr := nr) (nb := nb) (adn := adn) (own' := G'.own) (hin.2 q rfl) (hh m rfl)
  have hfit' : Z.deps = [] \/ mY m (ds.getD i .undef) = true := hfit.imp id fun e => by rw [<- A.val i hi]; exact e m rfl
  have hrp := A.B.give (gd := gd) (nr := nr) (nb := nb) (hs := hs) (adn := adn) h hfit' hg (hin.2 q rfl)
  refine ⟨rfl, ?_, ?_⟩
  ·simp only [iL, aB]
   exact ⟨hhd.symm, hin.1, h.one⟩
  ·intro k c hc
   simp only [iL, Mb9, Prod.mk.injEq] at hc
   refine .inl ⟨q, m, i, hc.1, hc.2, ?_⟩
   rw [hhd, A.val i hi]
   exact hrp
 | dead =>
  refine ⟨rfl, ?_, by simp [UOk, iL]⟩
  simp only [iL, aB]
  exact h
theorem xZ : ∀ {cs : List BO} {i q off : Nat} {ad : Addr}, Aax G'.own w' ds ad off i q cs -> i + cs.length <= ds.length -> (Z.deps = [] \/ Nau ρ (lV (y0 + i) cs)) -> (gd = false \/ Oaw cs = true) ->
  (∀ j v, (owC w' ad off cs)[j]? = some v -> hs[q + j]? = some v) -> UIn σ' nr (dA Z.deps (y0 + i) (nr + q) cs).2.1 ->
  (dA Z.deps (y0 + i) (nr + q) cs).2.2 = nr + q + qC cs /\ (dA Z.deps (y0 + i) (nr + q) cs).1.length = cs.length /\ (owC w' ad off cs).length = qC cs /\
  (∀ j l, (dA Z.deps (y0 + i) (nr + q) cs).1[j]? = some l -> ∃ v, w'.cell? (ad.add (off + j)) = some v /\ w'.frozen? (ad.add (off + j)) = false /\ aB σ' ρ (dW gd ρ G w s Z nr nb G'.own hs adn) w' l v) /\
  UOk (fun b => ¬ (b < w.heap.size /\ Jap ((callG ρ G w s Z).own b) = false)) σ' ρ (dW gd ρ G w s Z nr nb G'.own hs adn) w' nr nb y0 (dA Z.deps (y0 + i) (nr + q) cs).2.1
 | [], i, q, off, ad, _, _, _, _, _, _ => ⟨rfl, rfl, rfl, by simp [dA], by simp [UOk, dA]⟩
 | t :: cs, i, q, off, ad, h, hi, hfit, hgd, hh, hu => by
  obtain ⟨⟨v, h1, h2, h3⟩, h4⟩ := h
  simp only [Nbc] at hi
  simp only [dA] at hu
  have hlen : ∀ t : BO, (match t with | .ow _ => [(w'.cell? (ad.add off)).getD undef] | _ => ([] : List Value)).length = t.q := fun t => by cases t <;> rfl
  have hb := Tam A (gd := gd) (nr := nr) (nb := nb) (hs := hs) (adn := adn) (off := off) h3 (by omega) (hfit.imp id fun e m hm => e m _ (by subst hm; simp only [lV]; exact Nbf))
   (hgd.imp id fun e m hm => by subst hm; simp [Oaw] at e) (fun m hm => by
    subst hm
    have := hh 0 v (by simp [owC, h1])
    simpa using this) hu.left
  obtain ⟨h5, h6, h7⟩ := hb
  have hrec := xZ (cs := cs) (i := i + 1) (q := q + t.q) (off := off + 1) (ad := ad) h4 (by omega) (hfit.imp id fun e m y hm => e m y (by
    cases t with
    | ow m' => simp only [lV]; exact Mb8 _ hm
    | _ => exact hm)) (hgd.imp id fun e => by cases t <;> simp [Oaw] at e ⊢ <;> exact e) (fun j x hj => by
    have := hh (t.q + j) x (by
     simp only [owC]
     rw [Nbh (by rw [hlen]; omega), hlen, Nbx]
     exact hj)
    rwa [<- Nbl] at this) (by
    have := hu.right
    rw [h5] at this
    rw [<- Nbl, <- Nbl]
    exact this)
  rw [<- Nbl, <- Nbl] at hrec
  obtain ⟨h8, h9, h10, h11, h12⟩ := hrec
  simp only [dA]
  rw [h5]
  refine ⟨by rw [h8]; simp only [qC]; omega, by simp [h9], by simp only [owC, Mb2, hlen, h10, qC], fun j l hj => ?_, h7.append h12⟩
  cases j with
  | zero =>
   simp only [Mb5, Option.some.injEq] at hj
   subst hj
   exact ⟨v, h1, h2, h6⟩
  | succ j =>
   obtain ⟨v', h13, h14, h15⟩ := h11 j l (by simpa using hj)
   rw [show off + (j + 1) = off + 1 + j by omega]
   exact ⟨v', h13, h14, h15⟩
theorem Oap (hnb : σ' (kB nb) = none \/ True) {i q : Nat} {t : LR} {v : Value} (h : kE G'.own w' ds s.boxes.length i q t v) (hi : i + t.n <= ds.length) (hfit : Z.deps = [] \/ Nau ρ (Pan (y0 + i) [t]))
  (hgd : gd = false \/ bxL [t] = 0) (hh : ∀ j x, (Qan w' t v)[j]? = some x -> hs[q + j]? = some x) (had : ∀ ad ∈ Nam t v, ad = adn) (hu : UIn σ' nr (bP gd Z.deps nb (y0 + i) (nr + q) t).2.1) :
  (bP gd Z.deps nb (y0 + i) (nr + q) t).2.2 = nr + q + t.q /\ (Qan w' t v).length = t.q /\ aB σ' ρ (dW gd ρ G w s Z nr nb G'.own hs adn) w' (bP gd Z.deps nb (y0 + i) (nr + q) t).1 v /\ UOk (fun b => ¬ (b < w.heap.size /\ Jap ((callG ρ G w s Z).own b) = false)) σ' ρ (dW gd ρ G w s Z nr nb G'.own hs adn) w' nr nb y0 (bP gd Z.deps nb (y0 + i) (nr + q) t).2.1 := by
 cases t with
 | sc =>
  refine ⟨rfl, by cases v <;> rfl, ?_, by simp [UOk, bP]⟩
  simp only [LR.n] at hi
  simp only [bP, aB]
  rw [A.val i (by omega)]
  exact h
 | fz =>
  refine ⟨rfl, by cases v <;> rfl, ?_, by simp [UOk, bP]⟩
  simp only [LR.n] at hi
  simp only [kE] at h
  simp only [bP, aB]
  rw [A.val i (by omega)]
  exact ⟨⟨h.one, A.known⟩, fun _ => ⟨A.B.rd h, fun e => absurd e (by decide), trivial⟩⟩
 | ow m =>
  simp only [LR.n] at hi
  simp only [kE] at h
  cases gd with
  | true =>
   refine ⟨rfl, rfl, ?_, by simp [UOk, bP]⟩
   simp only [bP, cond_true, aB]
   rw [A.val i (by omega)]
   exact ⟨⟨h.one, A.known⟩, fun _ => ⟨A.B.giveGd h rfl, fun e => absurd e (by decide), trivial⟩⟩
  | false =>
   have hin := hu (kR (nr + q)) _ (by simp only [bP, cond_false]; exact List.mem_singleton.2 rfl)
   have hhd := Vay (gd := false) (ρ := ρ) (G := G) (w := w) (s := s) (Z := Z) (nr := nr) (nb := nb) (adn := adn) (own' := G'.own) (hin.2 q rfl) (hh 0 v rfl)
   have hfit' : Z.deps = [] \/ mY m (ds.getD i .undef) = true := hfit.imp id fun e => by
    rw [<- A.val i (by omega)]
    exact e m _ (by simp only [Pan]; exact Nbf)
   have hrp := A.B.give (gd := false) (nr := nr) (nb := nb) (hs := hs) (adn := adn) h hfit' rfl (hin.2 q rfl)
   refine ⟨rfl, rfl, ?_, ?_⟩
   ·simp only [bP, cond_false, aB]
    exact ⟨hhd.symm, hin.1, h.one⟩
   ·intro k c hc
    simp only [bP, cond_false, Mb9, Prod.mk.injEq] at hc
    refine .inl ⟨q, m, i, hc.1, hc.2, ?_⟩
    rw [hhd, A.val i (by omega)]
    exact hrp
 | rp z =>
  refine ⟨rfl, by cases v <;> rfl, ?_, by simp [UOk, bP]⟩
  simp only [LR.n] at hi
  simp only [kE] at h
  simp only [bP, aB]
  rw [A.val i (by omega)]
  refine ⟨⟨h.1, A.known⟩, fun _ => ?_⟩
  rcases h.2 with h1 | ⟨ad, row, h1, h2, h3⟩
  ·exact .inl h1
  ·exact .inr ⟨ad, row, h1, h2, A.B.rd h3⟩
 | bx cs =>
  have hg : gd = false := hgd.resolve_right fun e => by simp [bxL] at e
  simp only [LR.n] at hi
  simp only [kE] at h
  obtain ⟨ad, rfl, h1, h2, h3⟩ := h
  have hadn : ad = adn := had ad (by simp [Nam])
  simp only [bP] at hu
  have hu' : UIn σ' nr (dA Z.deps (y0 + i) (nr + q) cs).2.1 := fun k c hc => hu k c (Mb8 _ hc)
  obtain ⟨h4, h5, h6, h7, h8⟩ := xZ A (gd := gd) (nb := nb) (hs := hs) (adn := adn) h3 hi (hfit.imp id fun e m y hm => e m y (by simp only [Pan]; exact Mbz _ hm)) (.inl hg) hh hu'
  have hsome := (hu (kB nb) _ Nbf).1
  have hbx : (dW gd ρ G w s Z nr nb G'.own hs adn).bx nb = ad := by
   simp only [dW, if_pos trivial]; exact hadn.symm
  have hnewb : ¬ (ad.block < w.heap.size /\ Jap ((callG ρ G w s Z).own ad.block) = false) := by
   ·rintro ⟨hb, hsl⟩
    cases hg1 : (callG ρ G w s Z).own ad.block with
    | frz => have := (A.B.keep hb (.inl hg1)).2; rw [h2, hg1] at this; cases this
    | oth => have := (A.B.keep hb (.inr hg1)).2; rw [h2, hg1] at this; cases this
    | slc _ _ => rw [hg1] at hsl; cases hsl
    | box j =>
     have := (A.B.hF.boxes ad.block j hb hg1).1
     rw [h2] at this
     injection this with this
     have hgc : ∃ c, Oam Z.ptrs c 0 s.boxes = some j := by
      simp only [callG] at hg1
      cases hgb : G.own ad.block with
      | box c =>
       rw [hgb] at hg1
       dsimp only at hg1
       split at hg1
       ·rename_i x hx
        split at hg1
        ·injection hg1 with hg1
         exact ⟨c, by rw [hx, hg1]⟩
        ·cases hg1
       ·cases hg1
      | slc r p =>
       rw [hgb] at hg1
       dsimp only at hg1
       rcases Daf (ρ := ρ) (dr := Z.deps.map (·.1)) (r := r) (p := p) Z.rts 0 with ⟨_, _, e⟩ | e | e <;> rw [e] at hg1 <;> cases hg1
      | frz => rw [hgb] at hg1; cases hg1
      | oth => rw [hgb] at hg1; cases hg1
     obtain ⟨c, hc⟩ := hgc
     obtain ⟨j', cs', off', e1, e2, -⟩ := Dae hc
     have := (List.getElem?_eq_some_iff.1 e2).1
     omega
  have hown : (dW gd ρ G w s Z nr nb G'.own hs adn).own ad.block = .box nb := by
   simp only [dW]
   rw [if_neg hnewb, h2]
   simp [rM]
  refine ⟨?_, ?_, ?_, ?_⟩
  ·simp only [bP]; exact h4
  ·simp only [Qan]; exact h6
  ·simp only [bP, aB]
   exact ⟨by rw [hbx]; rfl, hsome⟩
  ·simp only [bP]
   intro k c hc
   rcases List.mem_cons.1 hc with hc | hc
   ·obtain ⟨rfl, rfl⟩ := Prod.mk.inj hc
    refine .inr ⟨rfl, _, rfl, ⟨by rw [hbx]; exact h1, by rw [hbx, hown]; rfl, fun j l hj => ?_⟩, by rw [hbx]; exact hnewb⟩
    rw [hbx]
    have := h7 j l hj
    rwa [Nbt] at this
   ·exact h8 k c hc
theorem zD : ∀ {ss : List LR} {i q : Nat} {vs : List Value}, nJ G'.own w' ds s.boxes.length i q ss vs -> i + kY ss <= ds.length -> (Z.deps = [] \/ Nau ρ (Pan (y0 + i) ss)) ->
  (gd = false \/ bxL ss = 0) -> (∀ j x, (owL w' ss vs)[j]? = some x -> hs[q + j]? = some x) -> (∀ ad ∈ Kab ss vs, ad = adn) -> UIn σ' nr (bX gd Z.deps nb (y0 + i) (nr + q) ss).2.1 ->
  (bX gd Z.deps nb (y0 + i) (nr + q) ss).2.2 = nr + q + qL ss /\ (owL w' ss vs).length = qL ss /\ aD σ' ρ (dW gd ρ G w s Z nr nb G'.own hs adn) w' (bX gd Z.deps nb (y0 + i) (nr + q) ss).1 vs /\ UOk (fun b => ¬ (b < w.heap.size /\ Jap ((callG ρ G w s Z).own b) = false)) σ' ρ (dW gd ρ G w s Z nr nb G'.own hs adn) w' nr nb y0 (bX gd Z.deps nb (y0 + i) (nr + q) ss).2.1
 | [], i, q, vs, h, _, _, _, _, _, _ => by
  simp only [nJ] at h
  subst h
  exact ⟨rfl, rfl, by simp [bX, aD], by simp [UOk, bX]⟩
 | t :: ss, i, q, vs, h, hi, hfit, hgd, hh, had, hu => by
  obtain ⟨u, us, rfl, h1, h2⟩ := h
  simp only [kY] at hi
  simp only [bX] at hu
  obtain ⟨h3, h4, h5, h6⟩ := Oap A (gd := gd) (nb := nb) (hs := hs) (adn := adn) (.inr trivial) h1 (by omega) (hfit.imp id fun e m y hm => e m y (by
    cases t with
    | ow m' => simp only [Pan, Mb9] at hm ⊢; rw [hm]; exact Nbf
    | bx cs => simp only [Pan, Nbo] at hm ⊢; exact Mbz _ hm
    | _ => simp [Pan] at hm))
   (hgd.imp id fun e => by cases t <;> simp only [bxL] at e ⊢ <;> omega) (fun j x hj => hh j x (by
    simp only [owL]
    rw [Nbi (List.getElem?_eq_some_iff.1 hj).1]; exact hj))
   (fun ad hm => had ad (by simp only [Kab]; exact Mbz _ hm)) hu.left
  have hrec := zD (ss := ss) (i := i + t.n) (q := q + t.q) h2 (by omega) (hfit.imp id fun e m y hm => e m y (by
    cases t with
    | ow m' => simp only [Pan]; exact Mb8 _ hm
    | bx cs => simp only [Pan]; rw [Nbl]; exact Mb1 _ hm
    | _ => exact hm)) (hgd.imp id fun e => by cases t <;> simp only [bxL] at e <;> omega) (fun j x hj => by
    have := hh (t.q + j) x (by
     simp only [owL]
     rw [Nbh (by rw [h4]; omega), h4, Nbx]
     exact hj)
    rwa [<- Nbl] at this) (fun ad hm => had ad (by simp only [Kab]; exact Mb1 _ hm)) (by
    have := hu.right
    rw [h3] at this
    rw [<- Nbl, <- Nbl]
    exact this)
  rw [<- Nbl, <- Nbl] at hrec
  obtain ⟨h7, h8, h9, h10⟩ := hrec
  simp only [bX]
  rw [h3]
  refine ⟨by rw [h7]; simp only [qL]; omega, by simp only [owL, Mb2, h4, h8, qL], ?_, h6.append h10⟩
  simp only [aD]
  exact ⟨u, us, rfl, h5, h9⟩
theorem Hag : ∀ {rs : List (Bool × List LR)} {i q : Nat} {us : List Value}, Iak G'.own w' ds s.boxes.length i q rs us -> i + bC rs <= ds.length -> (Z.deps = [] \/ Nau ρ (Wa3 (y0 + i) rs)) ->
  (gd = false \/ jK rs = 0) -> (∀ j x, (owR w' rs us)[j]? = some x -> hs[q + j]? = some x) -> (∀ ad ∈ Faw rs us, ad = adn) -> UIn σ' nr (gW gd Z.deps nb (y0 + i) (nr + q) rs).2.1 ->
  (gW gd Z.deps nb (y0 + i) (nr + q) rs).2.2 = nr + q + qR rs /\ (owR w' rs us).length = qR rs /\ gY σ' ρ (dW gd ρ G w s Z nr nb G'.own hs adn) w' (gW gd Z.deps nb (y0 + i) (nr + q) rs).1 us /\ UOk (fun b => ¬ (b < w.heap.size /\ Jap ((callG ρ G w s Z).own b) = false)) σ' ρ (dW gd ρ G w s Z nr nb G'.own hs adn) w' nr nb y0 (gW gd Z.deps nb (y0 + i) (nr + q) rs).2.1
 | [], i, q, us, h, _, _, _, _, _, _ => by
  simp only [Iak] at h
  subst h
  exact ⟨rfl, rfl, rfl, by simp [UOk, gW]⟩
 | (ag, ss) :: rs, i, q, us, h, hi, hfit, hgd, hh, had, hu => by
  obtain ⟨u, us', vs, rfl, h1, h2, h3⟩ := h
  simp only [bC] at hi
  simp only [gW] at hu
  have hvs : (if ag = true then u.cells.toList else [u]) = vs := by
   cases ag with
   | true =>
    simp only [if_true] at h2 ⊢
    rw [h2]; simp [Value.cells]
   | false => simp only [Mb6, if_false] at h2 ⊢; exact h2.symm
  obtain ⟨h4, h5, h6, h7⟩ := zD A (gd := gd) (nb := nb) (hs := hs) (adn := adn) h1 (by omega) (hfit.imp id fun e m y hm => e m y (by simp only [Wa3]; exact Mbz _ hm))
   (hgd.imp id fun e => by simp only [jK] at e; omega) (fun j x hj => hh j x (by
    simp only [owR, hvs]
    rw [Nbi (List.getElem?_eq_some_iff.1 hj).1]; exact hj))
   (fun ad hm => had ad (by simp only [Faw, hvs]; exact Mbz _ hm)) hu.left
  have hrec := Hag (rs := rs) (i := i + kY ss) (q := q + qL ss) h3 (by omega) (hfit.imp id fun e m y hm => e m y (by
    simp only [Wa3]
    rw [Nbl]
    exact Mb1 _ hm)) (hgd.imp id fun e => by simp only [jK] at e; omega) (fun j x hj => by
    have := hh (qL ss + j) x (by
     simp only [owR, hvs]
     rw [Nbh (by rw [h5]; omega), h5, Nbx]
     exact hj)
    rwa [<- Nbl] at this) (fun ad hm => had ad (by simp only [Faw]; exact Mb1 _ hm)) (by
    have := hu.right
    rw [h4] at this
    rw [<- Nbl, <- Nbl]
    exact this)
  rw [<- Nbl, <- Nbl] at hrec
  obtain ⟨h8, h9, h10, h11⟩ := hrec
  simp only [gW]
  rw [h4]
  exact ⟨by rw [h8]; simp only [qR]; omega, by simp only [owR, hvs, Mb2, h5, h9, qR], ⟨u, us', vs, rfl, h6, h2, h10⟩, h7.append h11⟩
theorem xX (hnb : σ (kB nb) = none) : ∀ {bs : List (Bool × List (BS × BO))} {b i q : Nat} {bu : List (Nat × aP)}, (∀ j x, bs[j]? = some x -> s.boxes[b + j]? = some x) -> (kD Z.ptrs Z.deps b (y0 + i) (nr + q) bs).eval σ = some bu ->
  kF G'.own w' ds (callG ρ G w s Z).bx b i q bs -> i + dK bs <= ds.length -> (Z.deps = [] \/ Nau ρ (Tak (y0 + i) bs)) -> (gd = false \/ ∀ x ∈ bs, x.1 = false -> Oaw (x.2.map (·.2)) = true) ->
  (∀ j x, (owB w' (callG ρ G w s Z).bx b bs)[j]? = some x -> hs[q + j]? = some x) -> UIn σ' nr bu ->
  (∀ k c, (k, c) ∈ bu -> (∃ q m i, k = kR (nr + q) /\ c = .root (.v (y0 + i)) m 0 .live /\ Rp (dW gd ρ G w s Z nr nb G'.own hs adn).own w' (nr + q) [] m ((dW gd ρ G w s Z nr nb G'.own hs adn).hdr (nr + q)) ((aJ.v (y0 + i)).val ρ)) \/
   ∃ c0 ls0 ls, k = kB c0 /\ σ (kB c0) = some (.box false ls0) /\ c = .box false ls /\ ls.length = ls0.length /\
    ((∀ j l, ls0[j]? = some l -> ∃ v, w.cell? ((G.bx c0).add j) = some v /\ (aB σ ρ G w l v -> aB σ' ρ (dW gd ρ G w s Z nr nb G'.own hs adn) w' l v)) -> Iam σ' ρ (dW gd ρ G w s Z nr nb G'.own hs adn) w' c0 false ls)) /\
  (∀ c, c ∈ gJ false Z.ptrs b bs -> ∃ x, (kB c, x) ∈ bu)
 | [], b, i, q, bu, _, h, _, _, _, _, _, _ => by
  simp only [kD, aC, Option.some.injEq] at h
  subst h
  exact ⟨by simp, by simp [gJ]⟩
 | (ro, cs) :: bs, b, i, q, bu, hbs, h, hf, hi, hfit, hgd, hh, hu => by
  simp only [kD] at h
  have hbs' : ∀ j x, bs[j]? = some x -> s.boxes[b + 1 + j]? = some x := fun j x hj => by
   rw [show b + 1 + j = b + (j + 1) by omega]
   exact hbs (j + 1) x (by simpa using hj)
  cases ro with
  | true =>
   simp only [cond_true] at h
   simp only [kF, if_true] at hf
   simp only [dK, cond_true, Nbt] at hi
   obtain ⟨h1, h2⟩ := xX hnb (bs := bs) (b := b + 1) hbs' h hf hi (hfit.imp id fun e m y hm => e m y (by simp only [Tak, cond_true]; exact hm)) (hgd.imp id fun e x hx => e x (Mb8 _ hx))
    (fun j x hj => hh j x (by simp only [owB, if_true]; exact hj)) hu
   refine ⟨h1, fun c hc => h2 c ?_⟩
   have e : (true == false) = false := rfl
   simp only [gJ, e, cond_false] at hc
   exact hc
  | false =>
   simp only [cond_false] at h
   simp only [kF, Mb6, if_false] at hf
   simp only [dK, cond_false] at hi
   split at h
   case h_2 => cases h
   rename_i c off hp
   simp only [aA, aQ, Mb3] at h
   split at h
   case h_2 => cases h
   rename_i ls0 hkb
   simp only [aA, Mbx, aC, Option.some.injEq] at h
   obtain ⟨rest, h1, rfl⟩ := h
   have hbx : (callG ρ G w s Z).bx b = (G.bx c).add off := by simp only [callG, hp]
   rw [hbx] at hf
   have hsb := hbs 0 _ rfl
   rw [Nbs] at hsb
   obtain ⟨c', off', ro', ls', e1, e2, e3, e4⟩ := A.B.bx b false cs hsb
   rw [hp] at e1
   obtain ⟨rfl, rfl⟩ : c = c' /\ off = off' := by simpa using e1
   rw [hkb] at e2
   obtain ⟨rfl, rfl⟩ : false = ro' /\ ls0 = ls' := by simpa using e2
   have hu1 : UIn σ' nr (dA Z.deps (y0 + i) (nr + q) (cs.map (·.2))).2.1 := fun k x hx => hu k x (Mb8 _ (Mbz _ hx))
   have hu2 : UIn σ' nr rest := fun k x hx => hu k x (Mb8 _ (Mb1 _ hx))
   obtain ⟨h2, h3, h4, h5, h6⟩ := xZ A (gd := gd) (nb := nb) (hs := hs) (adn := adn) hf.1 (by simp; omega) (hfit.imp id fun e m y hm => e m y (by simp only [Tak, cond_false]; exact Mbz _ hm))
    (hgd.imp id fun e => e _ Nbf rfl) (fun j x hj => hh j x (by
     simp only [owB, Mb6, if_false, hbx]
     rw [Nbi (List.getElem?_eq_some_iff.1 hj).1]; exact hj)) hu1
   rw [Nbb] at h3
   rw [h2] at h1
   have hrec := xX hnb (bs := bs) (b := b + 1) (i := i + cs.length) (q := q + qC (cs.map (·.2))) hbs' (by rw [<- Nbl, <- Nbl]; exact h1) hf.2 (by omega)
    (hfit.imp id fun e m y hm => e m y (by simp only [Tak, cond_false]; rw [Nbl]; exact Mb1 _ hm)) (hgd.imp id fun e x hx => e x (Mb8 _ hx)) (fun j x hj => by
     have := hh (qC (cs.map (·.2)) + j) x (by
      simp only [owB, Mb6, if_false, hbx]
      rw [Nbh (by rw [h4]; omega), h4, Nbx]
      exact hj)
     rwa [<- Nbl] at this) hu2
   obtain ⟨h7, h8⟩ := hrec
   refine ⟨fun k x hx => ?_, fun c2 hc2 => ?_⟩
   ·rcases List.mem_cons.1 hx with hx | hx
    ·obtain ⟨rfl, rfl⟩ := Prod.mk.inj hx
     refine .inr ⟨c, ls0, _, rfl, hkb, rfl, jO (by rw [h3]; exact e3), fun hold => ?_⟩
     obtain ⟨hb1, hb2, hb3⟩ := A.B.hR.box hkb
     simp only [Mb6, if_false] at hb2
     have hcn : c ≠ nb := fun e => by rw [e, hnb] at hkb; cases hkb
     have hgbx : (dW gd ρ G w s Z nr nb G'.own hs adn).bx c = G.bx c := by simp only [dW, if_neg hcn]
     have hpos : 0 < ls0.length := by have := (e4 rfl).2; omega
     obtain ⟨v0, hc0, -, -⟩ := hb3 0 _ (Mb0 hpos)
     have hlt : (G.bx c).block < w.heap.size := by have := Fau hc0; rwa [add_block] at this
     obtain ⟨h9, h10⟩ := A.B.boxes (gd := gd) (nr := nr) (nb := nb) (hs := hs) (adn := adn) hb2 hlt
     refine ⟨by rw [hgbx]; exact hb1, by rw [hgbx, h9]; rfl, fun j l hj => ?_⟩
     rw [hgbx]
     rw [fV (by rw [h3]; exact e3)] at hj
     split at hj
     ·rename_i hr
      obtain ⟨v, h11, h12, h13⟩ := h5 _ l hj
      rw [add_add, Nbt, show off + (j - off) = j by omega] at h11 h12
      exact ⟨v, h11, h12, h13⟩
     ·rename_i hr
      obtain ⟨v, h11, h12, h13⟩ := hb3 j l hj
      obtain ⟨v', h14, h15⟩ := hold j l hj
      rw [h11] at h14
      obtain rfl := Option.some.inj h14
      rcases h10 with h10 | ⟨j2, cs2, off2, ls2, c0, c1, e, fr, f1, f2, f3, f4, f5, f6, f7, f8, f9⟩
      ·exact ⟨v, (dS (w := w) (w' := w') (by rw [add_block]; exact h10)).trans h11, (jI (w := w) (w' := w') (by rw [add_block]; exact h10)).trans h12, h15 h13⟩
      ·
       have hsb' : mI (0 + b) Z.ptrs = some (c, off) := by rw [Nbt]; exact hp
       have hx1 := oW A.B.hk.wr hsb hsb'
       have f2' : mI (0 + j2) Z.ptrs = some (c, off2) := by rw [Nbt]; exact f2
       have hx2 := oW A.B.hk.wr f1 f2'
       rw [hx1] at hx2
       have hjj : b = j2 := by have := Option.some.inj hx2; omega
       subst hjj
       rw [hp] at f2
       rw [hsb] at f1
       obtain ⟨-, rfl⟩ : c = c /\ off = off2 := by simpa using f2
       obtain rfl : cs = cs2 := by simpa using f1
       rw [h3] at hr
       have hcell : ∀ (ww : World) (cc : Array Value), ww.heap[(G.bx c).block]? = some (.cells cc e fr) -> ww.cell? ((G.bx c).add j) = cc[(G.bx c).off + j]? /\ ww.frozen? ((G.bx c).add j) = (fr.1 <= (G.bx c).off + j && (G.bx c).off + j < fr.2) := by
        intro ww cc hcc
        have := Rai (n := j) hb1
        refine ⟨?_, ?_⟩
        ·unfold World.cell?
         rw [add_block, hcc]
         simp [this, Par]
        ·unfold World.frozen?
         rw [add_block, hcc]
         simp [Par]
       obtain ⟨g1, g2⟩ := hcell w c0 f6
       obtain ⟨g3, g4⟩ := hcell w' c1 f7
       refine ⟨v, ?_, by rw [g4, <- g2]; exact h12, h15 h13⟩
       rw [g3, f9 _ (by omega), <- g1]
       exact h11
    ·rcases List.mem_append.1 hx with hx | hx
     ·rcases h6 k x hx with h9 | ⟨h9, -⟩
      ·exact .inl h9
      ·exfalso
       have : ∀ (l : List BO) (y n : Nat), ∀ z ∈ (dA Z.deps y n l).2.1, ∃ r, z.1 = kR r := by
        intro l
        induction l with
        | nil => intro y n z hz; simp [dA] at hz
        | cons t l ih =>
         intro y n z hz
         simp only [dA] at hz
         rcases List.mem_append.1 hz with hz | hz
         ·cases t <;> simp [iL] at hz
          exact ⟨n, by rw [hz]⟩
         ·exact ih _ _ z hz
       obtain ⟨r, hr⟩ := this _ _ _ _ hx
       rw [h9] at hr
       exact eD hr
     ·exact h7 k x hx
   ·simp only [gJ] at hc2
    have e : (false == false) = true := rfl
    rw [e, cond_true, hp] at hc2
    rcases List.mem_cons.1 hc2 with rfl | hc2
    ·exact ⟨_, Nbf⟩
    ·obtain ⟨x, hx⟩ := h8 c2 hc2
     exact ⟨x, Mb8 _ (Mb1 _ hx)⟩
end
end Go.Proofs.YtpgnlmfmlffjcaaGreat.Rf

namespace Go.Proofs.YtpgnlmfmlffjcaaGreat.Rf
set_option linter.unusedVariables false
set_option linter.unusedSimpArgs false
theorem Fah {f : Nat} {vs : List SV} : ∀ {l : List (Nat × Sig)} {key : Nat} {s : Sig}, Fai f vs l = some (key, s) -> (key, s) ∈ l /\ s.fn = f
 | [], key, s, h => by simp [Fai] at h
 | (k, t) :: l, key, s, h => by
  simp only [Fai] at h
  revert h
  generalize hb : (Nat.beq t.fn f && Pap t.params vs) = b
  intro h
  cases b with
  | false =>
   rw [cond_false] at h
   obtain ⟨h1, h2⟩ := Fah h
   exact ⟨Mb8 _ h1, h2⟩
  | true =>
   rw [cond_true] at h
   obtain ⟨rfl, rfl⟩ := Prod.mk.inj (Option.some.inj h)
   simp only [Mby, Nbu] at hb
   exact ⟨Nbf, hb.1⟩
section
variable {E : Env} {F : bB} {σ : Nat -> Option aP} {ρ : List D} {a : Act} {w : World} {G : Gh} {g : Option (aJ × Bool)} {cf : Nat -> List D -> Option (List D)}
theorem Uam {l : aR} {s : SlR} (h : (vL l).eval σ = some s) : ∀ z ∈ s.deps, Jah σ z.1 z.2 := by
 unfold vL at h
 split at h
 ·rename_i r
  simp only [aA, aQ, Mb3] at h
  split at h
  ·rename_i x m ver hk
   simp only [aC, Option.some.injEq] at h
   subst h
   intro z hz
   simp only [Mb9] at hz
   subst hz
   exact ⟨m, x, hk⟩
  ·simp only [aC, Option.some.injEq] at h
   subst h
   simp
  ·cases h
 ·rename_i deps p nie x
  simp only [aA, Mbx] at h
  obtain ⟨ds, h1, h2⟩ := h
  obtain ⟨h3, h4, h5⟩ := gP h1
  split at h2
  ·simp only [aC, Option.some.injEq] at h2
   subst h2
   exact fun z hz => (h4 z hz).2
  ·rename_i r k z hne
   simp only [aA, aQ, Mb3] at h2
   split at h2
   ·simp only [aC, Option.some.injEq] at h2
    subst h2
    intro z' hz'
    simp only [Mb9] at hz'
    subst hz'
    have := h4 z (by simp)
    have e := this.1
    simp only [Mb9] at e
    rw [e] at this
    exact this.2
   ·cases h2
  ·simp only [aC, Option.some.injEq] at h2
   subst h2
   exact fun z hz => (h4 z hz).2
 ·cases h
def rtD : RT -> Nat
 | .mu _ d _ _ => d
 | _ => 0
def xN : Nat -> List RT -> List Nat
 | _, [] => []
 | ν, .mu _ _ _ _ :: t => ν :: xN (ν + 1) t
 | ν, _ :: t => xN (ν + 1) t
theorem Mam : ∀ {rts : List RT} {ν0 j ν : Nat}, (xN ν0 rts)[j]? = some ν -> ∃ x : RT, (rts.filter uG)[j]? = some x /\ ν0 <= ν /\ rts[ν - ν0]? = some x
 | [], ν0, j, ν, h => by simp [xN] at h
 | x :: t, ν0, j, ν, h => by
  have next : ∀ {j : Nat}, (xN (ν0 + 1) t)[j]? = some ν -> ∃ y : RT, (t.filter uG)[j]? = some y /\ ν0 <= ν /\ (x :: t)[ν - ν0]? = some y := by
   intro j h
   obtain ⟨y, h1, h2, h3⟩ := Mam h
   refine ⟨y, h1, by omega, ?_⟩
   rw [show ν - ν0 = (ν - (ν0 + 1)) + 1 by omega]
   simpa using h3
  cases x with
  | mu r d q X =>
   simp only [xN] at h
   cases j with
   | zero =>
    simp only [Mb5, Option.some.injEq] at h
    subst h
    exact ⟨.mu r d q X, by simp [uG, Obl], Nbd _, by simp⟩
   | succ j =>
    obtain ⟨y, h1, h2, h3⟩ := next (by simpa using h)
    exact ⟨y, by simpa [uG, Obl] using h1, h2, h3⟩
  | nil =>
   obtain ⟨y, h1, h2, h3⟩ := next h
   exact ⟨y, by simpa [uG, Obl] using h1, h2, h3⟩
  | own r d =>
   obtain ⟨y, h1, h2, h3⟩ := next h
   exact ⟨y, by simpa [uG, Obl] using h1, h2, h3⟩
theorem Mal : ∀ (rts : List RT) (ν0 : Nat), (xN ν0 rts).length = (rts.filter uG).length
 | [], ν0 => rfl
 | x :: t, ν0 => by cases x <;> simp [xN, uG, Mal t, Obl]
theorem Caj : ∀ (a b : List RT) (ν0 : Nat), xN ν0 (a ++ b) = xN ν0 a ++ xN (ν0 + a.length) b
 | [], b, ν0 => rfl
 | x :: a, b, ν0 => by
  have := Caj a b (ν0 + 1)
  rw [show ν0 + 1 + a.length = ν0 + (a.length + 1) by omega] at this
  cases x <;> simp [xN, this]
def Ab5 (σ : Nat -> Option aP) (ρ : List D) (G : Gh) (w : World) : RT -> Prop
 | .nil => True
 | .own r _ => ∃ x m ver, σ (kR r) = some (.root x m ver .live)
 | .mu r d q X => ∃ m ver u, σ (kR r) = some (.root X m ver .live) /\ q.length + d <= m /\ yD G.own w r [] (G.hdr r) (aX ρ q) u
structure Tao (σ : Nat -> Option aP) (A B : Take) (rn : List RT) (ms : List Nat) (mr : List Nat) : Prop where
 rts : B.rts = A.rts ++ rn
 deps : ∀ z ∈ B.deps, z ∈ A.deps \/ Jah σ z.1 z.2
 ms : (rn.filter uG).map rtD = ms
 mr : xN A.rts.length rn = mr
theorem Ga1 {A B : Take} {d : Nat} {l : aR} (h : (rV A d l).eval σ = some B) : ∃ rn, Tao σ A B rn [] [] /\ rn.length = 1 /\ ∀ x ∈ rn, Ab5 σ ρ G w x := by
 unfold rV at h
 split at h
 ·rename_i r
  simp only [aA, aQ, Mb3] at h
  split at h
  ·rename_i x m ver hk
   simp only [aA, aI, Mbx, aC, Option.some.injEq] at h
   obtain ⟨_, -, rfl⟩ := h
   refine ⟨[.own r d], ⟨rfl, fun z hz => .inl hz, rfl, rfl⟩, rfl, fun y hy => ?_⟩
   simp only [Mb9] at hy
   subst hy
   exact ⟨x, m, ver, hk⟩
  ·cases h
 ·simp only [aC, Option.some.injEq] at h
  subst h
  refine ⟨[.nil], ⟨rfl, fun z hz => .inl hz, rfl, rfl⟩, rfl, fun y hy => ?_⟩
  simp only [Mb9] at hy
  subst hy
  trivial
 ·cases h
theorem Ga4 {A B : Take} {nie : Bool} {l : aR} (h : (oO A nie l).eval σ = some B) : Tao σ A B [] [] [] := by
 unfold oO at h
 simp only [aA, Mbx, aC, Option.some.injEq] at h
 obtain ⟨s, h1, rfl⟩ := h
 exact ⟨by simp, fun z hz => (List.mem_append.1 hz).imp id fun hz => Uam h1 z hz, rfl, rfl⟩
theorem Ray {A B : Take} {z : Nat} {l : aR} (h : (Da0 A z l).eval σ = some B) : Tao σ A B [] [] [] := by
 unfold Da0 at h
 split at h
 ·simp only [aA, Mbx, aC, Option.some.injEq] at h
  obtain ⟨ds, h1, rfl⟩ := h
  exact ⟨by simp, fun z hz => (List.mem_append.1 hz).imp id fun hz => ((gP h1).2.1 z hz).2, rfl, rfl⟩
 ·simp only [aC, Option.some.injEq] at h
  subst h
  exact ⟨by simp, fun z hz => .inl hz, rfl, rfl⟩
 ·cases h
theorem Ka0 (P : Prop) (hR : P -> R E.ntmps F σ ρ a w G) {A B : Take} {t : LS} {l : aR} (h : (qB g A t l).eval σ = some B) (hl : P -> ∃ v, aB σ ρ G w l v) :
  ∃ rn, Tao σ A B rn (dF [t]) (dN A.rts.length [t]) /\ rn.length = t.rcnt /\ (P -> ∀ x ∈ rn, Ab5 σ ρ G w x) := by
 unfold qB at h
 split at h
 ·simp only [Kax, aA, Mbx, aC, Option.some.injEq] at h
  obtain ⟨x, -, rfl⟩ := h
  exact ⟨[], ⟨by simp, fun z hz => .inl hz, rfl, rfl⟩, rfl, by simp⟩
 ·exact ⟨[], Ga4 h, rfl, by simp⟩
 ·rename_i _ d
  unfold Ga2 at h
  simp only [aA, Mbx] at h
  obtain ⟨sl, h1, h⟩ := h
  split at h
  case h_2 => cases h
  rename_i r k m q ho
  simp only [aA, aI, aQ, Mb3, Mbx] at h
  obtain ⟨_, h2, h⟩ := h
  split at h2
  case isFalse => cases h2
  rename_i hb
  simp only [Nb7] at hb
  split at h
  case h_2 => cases h
  rename_i X m' v' hkr
  simp only [aC, Option.some.injEq] at h
  subst h
  refine ⟨[.mu r d q X], ⟨rfl, fun z hz => .inl hz, rfl, rfl⟩, rfl, fun hP y hy => ?_⟩
  simp only [Mb9] at hy
  subst hy
  obtain ⟨v, hv⟩ := hl hP
  have hown := (dE (hR hP) h1 hv).own
  unfold sK at hown
  rw [ho] at hown
  obtain ⟨h3, ⟨x, h4⟩, h5, h6, h7⟩ := hown
  rw [hkr] at h4
  obtain ⟨rfl, rfl, rfl⟩ : X = x /\ m' = m /\ v' = k := by
   have := Option.some.inj h4
   injection this with e1 e2 e3
   exact ⟨e1, e2, e3⟩
  exact ⟨_, _, _, hkr, hb, h7⟩
 ·obtain ⟨rn, h1, h2, h3⟩ := Ga1 (ρ := ρ) (G := G) (w := w) h
  exact ⟨rn, h1, h2, fun _ => h3⟩
 ·simp only [aC, Option.some.injEq] at h
  subst h
  exact ⟨[], ⟨by simp, fun z hz => .inl hz, rfl, rfl⟩, rfl, by simp⟩
 ·split at h
  ·rw [fF] at h
   split at h
   ·simp only [aC, Option.some.injEq] at h
    subst h
    exact ⟨[], ⟨by simp, fun z hz => .inl hz, rfl, rfl⟩, rfl, by simp⟩
   ·cases h
  ·cases h
 ·exact ⟨[], Ray h, rfl, by simp⟩
 ·cases h
theorem Tao.trans {A B C : Take} {rn rn' : List RT} {ms ms' mr mr' : List Nat} (h : Tao σ A B rn ms mr) (h' : Tao σ B C rn' ms' mr') : Tao σ A C (rn ++ rn') (ms ++ ms') (mr ++ mr') := by
 refine ⟨by rw [h'.rts, h.rts, Mb7], fun z hz => ?_, by rw [List.filter_append, List.map_append, h.ms, h'.ms], ?_⟩
 ·rcases h'.deps z hz with h1 | h1
  ·exact h.deps z h1
  ·exact .inr h1
 ·rw [Caj, h.mr]
  have := h'.mr
  rw [h.rts, Mb2] at this
  rw [this]
theorem qQ (t : LS) (ss : List LS) : dF (t :: ss) = dF [t] ++ dF ss := by cases t <;> rfl
theorem uC (t : LS) (ss : List LS) (r : Nat) : dN r (t :: ss) = dN r [t] ++ dN (r + t.rcnt) ss := by cases t <;> rfl
theorem uD : ∀ (x y : List LS), dF (x ++ y) = dF x ++ dF y
 | [], y => rfl
 | t :: x, y => by rw [Obv, qQ, qQ t x, uD x y, Mb7]
theorem wS : ∀ (x y : List LS) (r : Nat), dN r (x ++ y) = dN r x ++ dN (r + iT x) y
 | [], y, r => rfl
 | t :: x, y, r => by
  rw [Obv, uC, uC t x, wS x y, Mb7]
  simp only [iT, Nbl]
theorem wL (P : Prop) (hR : P -> R E.ntmps F σ ρ a w G) : ∀ {ss : List LS} {ls : List aR} {A B : Take}, (bT g A ss ls).eval σ = some B -> (P -> ∃ vs, aD σ ρ G w ls vs) ->
  ∃ rn, Tao σ A B rn (dF ss) (dN A.rts.length ss) /\ rn.length = iT ss /\ (P -> ∀ x ∈ rn, Ab5 σ ρ G w x)
 | [], [], A, B, h, _ => by
  simp only [bT, aC, Option.some.injEq] at h
  subst h
  exact ⟨[], ⟨by simp, fun z hz => .inl hz, rfl, rfl⟩, rfl, by simp⟩
 | [], _ :: _, A, B, h, _ => by simp [bT, bG] at h
 | _ :: _, [], A, B, h, _ => by simp [bT, bG] at h
 | t :: ss, l :: ls, A, B, h, hl => by
  simp only [bT, aA, Mbx] at h
  obtain ⟨C, h1, h2⟩ := h
  obtain ⟨rn, h3, h4, h5⟩ := Ka0 P hR h1 (fun hP => by
   obtain ⟨vs, hv⟩ := hl hP
   simp only [aD] at hv
   obtain ⟨u, us, -, hu, -⟩ := hv
   exact ⟨u, hu⟩)
  obtain ⟨rn', h6, h7, h8⟩ := wL P hR h2 (fun hP => by
   obtain ⟨vs, hv⟩ := hl hP
   simp only [aD] at hv
   obtain ⟨u, us, -, -, hu⟩ := hv
   exact ⟨us, hu⟩)
  have := h3.trans h6
  rw [h3.rts, Mb2, h4, <- uC, <- qQ] at this
  exact ⟨rn ++ rn', this, by simp [h4, h7, iT], fun hP x hx => (List.mem_append.1 hx).elim (h5 hP x) (h8 hP x)⟩
theorem sQ (P : Prop) (hR : P -> R E.ntmps F σ ρ a w G) : ∀ {ps : List (Bool × List LS)} {vs : List SV} {A B : Take}, (dU g A ps vs).eval σ = some B -> (P -> ∃ us, pV σ ρ G w vs us) ->
  ∃ rn, Tao σ A B rn (dF (ps.flatMap (·.2))) (dN A.rts.length (ps.flatMap (·.2))) /\ rn.length = iD ps /\ (P -> ∀ x ∈ rn, Ab5 σ ρ G w x)
 | [], [], A, B, h, _ => by
  simp only [dU, aC, Option.some.injEq] at h
  subst h
  exact ⟨[], ⟨by simp, fun z hz => .inl hz, rfl, rfl⟩, rfl, by simp⟩
 | [], _ :: _, A, B, h, _ => by simp [dU, bG] at h
 | _ :: _, [], A, B, h, _ => by simp [dU, bG] at h
 | (ag, ss) :: ps, v :: vs, A, B, h, hl => by
  simp only [dU, aA, Mbx, aT] at h
  obtain ⟨ls, h0, C, h1, h2⟩ := h
  obtain ⟨rn, h3, h4, h5⟩ := wL P hR h1 (fun hP => by
   obtain ⟨us, u, us', rfl, hu, -⟩ := hl hP
   exact ⟨_, gB h0 hu⟩)
  obtain ⟨rn', h6, h7, h8⟩ := sQ P hR h2 (fun hP => by
   obtain ⟨us, u, us', rfl, -, hu⟩ := hl hP
   exact ⟨us', hu⟩)
  have := h3.trans h6
  rw [h3.rts, Mb2, h4, <- wS, <- uD] at this
  exact ⟨rn ++ rn', by rw [List.flatMap_cons]; exact this, by simp [h4, h7, iD], fun hP x hx => (List.mem_append.1 hx).elim (h5 hP x) (h8 hP x)⟩
theorem yH : ∀ {ss : List (BS × BO)} {ls : List aR} {A B : Take}, (dH A ss ls).eval σ = some B -> ∃ rn, Tao σ A B rn [] [] /\ ∀ x ∈ rn, Ab5 σ ρ G w x
 | [], ls, A, B, h => by
  simp only [dH, aC, Option.some.injEq] at h
  subst h
  exact ⟨[], ⟨by simp, fun z hz => .inl hz, rfl, rfl⟩, by simp⟩
 | _ :: _, [], A, B, h => by simp [dH, bG] at h
 | (t, o) :: ss, l :: ls, A, B, h => by
  simp only [dH, aA, Mbx] at h
  obtain ⟨C, h1, h2⟩ := h
  obtain ⟨rn', h6, h8⟩ := yH h2
  have key : ∃ rn, Tao σ A C rn [] [] /\ ∀ x ∈ rn, Ab5 σ ρ G w x := by
   have hinv := nO h1
   clear h1
   rcases hinv with ⟨x, rfl, rfl, rfl⟩ | ⟨nie, rfl, h⟩ | ⟨d, rfl, h⟩ | ⟨rfl, -, rfl⟩
   ·exact ⟨[], ⟨by simp, fun z hz => .inl hz, rfl, rfl⟩, by simp⟩
   ·exact ⟨[], Ga4 h, by simp⟩
   ·obtain ⟨rn, h3, -, h5⟩ := Ga1 (ρ := ρ) (G := G) (w := w) h
    exact ⟨rn, h3, h5⟩
   ·exact ⟨[], ⟨by simp, fun z hz => .inl hz, rfl, rfl⟩, by simp⟩
  obtain ⟨rn, h3, h5⟩ := key
  exact ⟨rn ++ rn', h3.trans h6, fun x hx => (List.mem_append.1 hx).elim (h5 x) (h8 x)⟩
theorem qD {ptrs : List (Nat × Nat × Nat)} : ∀ {bs : List (Bool × List (BS × BO))} {b : Nat} {A B : Take}, (dQ ptrs A b bs).eval σ = some B -> ∃ rn, Tao σ A B rn [] [] /\ ∀ x ∈ rn, Ab5 σ ρ G w x
 | [], b, A, B, h => by
  simp only [dQ, aC, Option.some.injEq] at h
  subst h
  exact ⟨[], ⟨by simp, fun z hz => .inl hz, rfl, rfl⟩, by simp⟩
 | (ro, cs) :: bs, b, A, B, h => by
  simp only [dQ] at h
  split at h
  case h_2 => cases h
  simp only [aA, aQ, Mb3] at h
  split at h
  case h_2 => cases h
  simp only [aA, aI, Mbx] at h
  obtain ⟨_, -, C, h1, h2⟩ := h
  obtain ⟨rn, h3, h5⟩ := yH (ρ := ρ) (G := G) (w := w) h1
  obtain ⟨rn', h6, h8⟩ := qD h2
  exact ⟨rn ++ rn', h3.trans h6, fun x hx => (List.mem_append.1 hx).elim (h5 x) (h8 x)⟩
theorem vS (hg : gOn ρ g = true) : ∀ {rts : List RT} {y nv : Nat} {ml : List Step} {mu : List (Nat × aP)}, (wT y nv rts).eval σ = some (ml, mu) -> aK cf ρ g nv ml ->
  (∀ k c, (k, c) ∈ mu -> ∃ (j r d : Nat) (q : List (aJ × Nat × Nat)) (X X0 : aJ) (m ver : Nat) (X' : aJ), (rts.filter uG)[j]? = some (RT.mu r d q X) /\ k = kR r /\ c = .root X' m (ver + 1) .live /\ σ (kR r) = some (.root X0 m ver .live) /\ (q.length + d = m \/ mY d ((aJ.v (y + j)).val ρ) = true) /\ Upd (aX ρ q) (X.val ρ) ((aJ.v (y + j)).val ρ) (X'.val ρ))
 | [], y, nv, ml, mu, h, _ => by
  simp only [wT, aC, Option.some.injEq, Prod.mk.injEq] at h
  obtain ⟨rfl, rfl⟩ := h
  simp
 | .nil :: t, y, nv, ml, mu, h, hst => by
  have := vS hg (rts := t) h hst
  simpa [uG, Obl] using this
 | .own r d :: t, y, nv, ml, mu, h, hst => by
  have := vS hg (rts := t) h hst
  simpa [uG, Obl] using this
 | .mu r d q X :: t, y, nv, ml, mu, h, hst => by
  simp only [wT, aA, aQ, Mb3] at h
  split at h
  case h_2 => cases h
  rename_i X0 m ver hk
  simp only [aA, Mbx, aC, Option.some.injEq, Prod.mk.injEq] at h
  obtain ⟨⟨ls, us⟩, h1, rfl, rfl⟩ := h
  obtain ⟨hs0, hst'⟩ := aK.append hst
  obtain ⟨hfd, hn0⟩ : (q.length + d = m \/ mY d ((aJ.v y).val ρ) = true) /\ bA (bif Nat.beq (q.length + d) m then [] else [Step.prim (.dep d) [.v y] 0]) = 0 := by
   cases hb : Nat.beq (q.length + d) m with
   | true => exact ⟨.inl (Nat.eq_of_beq_eq_true hb), rfl⟩
   | false =>
    rw [hb, cond_false] at hs0
    obtain ⟨ds, h1, -, -⟩ := hs0.1.1 hg
    simp only [Nbm, Nbv, aO.run] at h1
    split at h1
    ·rename_i hf; exact ⟨.inr hf, rfl⟩
    ·cases h1
  rw [hn0, Nbs] at hst'
  obtain ⟨hs1, hs2⟩ := aK.append hst'
  have hrec := vS hg h1 hs2
  intro k c hc
  rcases List.mem_cons.1 hc with hc | hc
  ·obtain ⟨rfl, rfl⟩ := Prod.mk.inj hc
   exact ⟨0, r, d, q, X, X0, m, ver, _, by simp [uG, Obl], rfl, rfl, hk, hfd, zM hg q nv X (.v y) hs1⟩
  ·obtain ⟨j, r', d', q', X', X1, m', ver', X2, h2, h3, h4, h5, h5', h6⟩ := hrec k c hc
   exact ⟨j + 1, r', d', q', X', X1, m', ver', X2, by simpa [uG, Obl] using h2, h3, h4, h5, by rw [show y + (j + 1) = y + 1 + j by omega]; exact h5', by rw [show y + (j + 1) = y + 1 + j by omega]; exact h6⟩
theorem vT : ∀ {rts : List RT} {y nv : Nat} {ml : List Step} {mu : List (Nat × aP)}, (wT y nv rts).eval σ = some (ml, mu) -> ∀ r, r ∈ bO rts -> (∃ c, (kR r, c) ∈ mu) \/ ∃ c, (kR r, c) ∈ eT rts
 | [], y, nv, ml, mu, h, r, hr => by simp [bO] at hr
 | .nil :: t, y, nv, ml, mu, h, r, hr => vT (rts := t) h r hr
 | .own s d :: t, y, nv, ml, mu, h, r, hr => by
  simp only [bO, Nbz] at hr
  rcases hr with rfl | hr
  ·exact .inr ⟨_, by simp only [eT]; exact Nbf⟩
  ·exact (vT (rts := t) h r hr).imp id fun ⟨c, hc⟩ => ⟨c, by simp only [eT]; exact Mb8 _ hc⟩
 | .mu s d q X :: t, y, nv, ml, mu, h, r, hr => by
  simp only [wT, aA, aQ, Mb3] at h
  split at h
  case h_2 => cases h
  simp only [aA, Mbx, aC, Option.some.injEq, Prod.mk.injEq] at h
  obtain ⟨⟨ls, us⟩, h1, rfl, rfl⟩ := h
  simp only [bO, Nbz] at hr
  rcases hr with rfl | hr
  ·exact .inl ⟨_, Nbf⟩
  ·exact (vT h1 r hr).imp (fun ⟨c, hc⟩ => ⟨c, Mb8 _ hc⟩) id
theorem jS : ∀ {rts : List RT} {k : Nat} {c : aP}, (k, c) ∈ eT rts -> ∃ r, k = kR r /\ c = .root (.c .hole) 0 0 .gone
 | [], k, c, h => by simp [eT] at h
 | .nil :: t, k, c, h => jS (rts := t) h
 | .mu s d q X :: t, k, c, h => jS (rts := t) h
 | .own s d :: t, k, c, h => by
  simp only [eT, Nbz, Prod.mk.injEq] at h
  rcases h with ⟨rfl, rfl⟩ | h
  ·exact ⟨s, rfl, rfl⟩
  ·exact jS h
end
end Go.Proofs.YtpgnlmfmlffjcaaGreat.Rf

namespace Go.Proofs.YtpgnlmfmlffjcaaGreat.Rf
set_option linter.unusedVariables false
set_option linter.unusedSimpArgs false
theorem uV {deps : List (Nat × Nat)} : ∀ (cs : List BO) (y n : Nat), (dA deps y n cs).2.2 = n + qC cs /\ ∀ k c, (k, c) ∈ (dA deps y n cs).2.1 -> ∃ r y m, n <= r /\ k = kR r /\ c = .root (.v y) m 0 .live
 | [], y, n => ⟨rfl, by simp [dA]⟩
 | t :: cs, y, n => by
  have hb : (iL deps y n t).2.2 = n + t.q /\ ∀ k c, (k, c) ∈ (iL deps y n t).2.1 -> ∃ r y m, n <= r /\ k = kR r /\ c = .root (.v y) m 0 .live := by
   cases t <;> refine ⟨rfl, fun k c hc => ?_⟩ <;> simp [iL] at hc
   exact ⟨n, y, _, Nbd _, hc.1, hc.2⟩
  obtain ⟨h1, h2⟩ := hb
  simp only [dA]
  rw [h1]
  obtain ⟨h3, h4⟩ := uV (deps := deps) cs (y + 1) (n + t.q)
  refine ⟨by rw [h3]; simp only [qC]; omega, fun k c hc => ?_⟩
  rcases List.mem_append.1 hc with hc | hc
  ·exact h2 k c hc
  ·obtain ⟨r, y', m, h5, h6, h7⟩ := h4 k c hc
   exact ⟨r, y', m, by omega, h6, h7⟩
theorem Lat {gd : Bool} {deps : List (Nat × Nat)} {nb : Nat} (t : LR) (y n : Nat) : (bP gd deps nb y n t).2.2 = n + t.q /\ ∀ k c, (k, c) ∈ (bP gd deps nb y n t).2.1 -> (∃ r y m, n <= r /\ k = kR r /\ c = .root (.v y) m 0 .live) \/ (k = kB nb /\ ∃ ls, c = .box false ls) := by
 cases t with
 | bx cs =>
  obtain ⟨h3, h4⟩ := uV (deps := deps) cs y n
  simp only [bP]
  refine ⟨h3, fun k c hc => ?_⟩
  rcases List.mem_cons.1 hc with hc | hc
  ·obtain ⟨rfl, rfl⟩ := Prod.mk.inj hc
   exact .inr ⟨rfl, _, rfl⟩
  ·exact .inl (h4 k c hc)
 | ow m =>
  cases gd with
  | true => exact ⟨rfl, by simp [bP]⟩
  | false =>
   refine ⟨rfl, fun k c hc => ?_⟩
   simp [bP] at hc
   exact .inl ⟨n, y, m, Nbd _, hc.1, hc.2⟩
 | _ => exact ⟨rfl, by simp [bP]⟩
theorem wP {gd : Bool} {deps : List (Nat × Nat)} {nb : Nat} : ∀ (ss : List LR) (y n : Nat), (bX gd deps nb y n ss).2.2 = n + qL ss /\ ∀ k c, (k, c) ∈ (bX gd deps nb y n ss).2.1 -> (∃ r y m, n <= r /\ k = kR r /\ c = .root (.v y) m 0 .live) \/ (k = kB nb /\ ∃ ls, c = .box false ls)
 | [], y, n => ⟨rfl, by simp [bX]⟩
 | t :: ss, y, n => by
  obtain ⟨h1, h2⟩ := Lat (gd := gd) (deps := deps) (nb := nb) t y n
  simp only [bX]
  rw [h1]
  obtain ⟨h3, h4⟩ := wP (gd := gd) (deps := deps) (nb := nb) ss (y + t.n) (n + t.q)
  refine ⟨by rw [h3]; simp only [qL]; omega, fun k c hc => ?_⟩
  rcases List.mem_append.1 hc with hc | hc
  ·exact h2 k c hc
  ·exact (h4 k c hc).imp (fun ⟨r, y', m, h5, h6⟩ => ⟨r, y', m, by omega, h6⟩) id
theorem Eah {gd : Bool} {deps : List (Nat × Nat)} {nb : Nat} : ∀ (rs : List (Bool × List LR)) (y n : Nat), (gW gd deps nb y n rs).2.2 = n + qR rs /\ ∀ k c, (k, c) ∈ (gW gd deps nb y n rs).2.1 -> (∃ r y m, n <= r /\ k = kR r /\ c = .root (.v y) m 0 .live) \/ (k = kB nb /\ ∃ ls, c = .box false ls)
 | [], y, n => ⟨rfl, by simp [gW]⟩
 | (ag, ss) :: rs, y, n => by
  obtain ⟨h1, h2⟩ := wP (gd := gd) (deps := deps) (nb := nb) ss y n
  simp only [gW]
  rw [h1]
  obtain ⟨h3, h4⟩ := Eah (gd := gd) (deps := deps) (nb := nb) rs (y + kY ss) (n + qL ss)
  refine ⟨by rw [h3]; simp only [qR]; omega, fun k c hc => ?_⟩
  rcases List.mem_append.1 hc with hc | hc
  ·exact h2 k c hc
  ·exact (h4 k c hc).imp (fun ⟨r, y', m, h5, h6⟩ => ⟨r, y', m, by omega, h6⟩) id
theorem uU {σ : Nat -> Option aP} {ptrs : List (Nat × Nat × Nat)} {deps : List (Nat × Nat)} : ∀ {bs : List (Bool × List (BS × BO))} {b y n : Nat} {bu : List (Nat × aP)}, (kD ptrs deps b y n bs).eval σ = some bu ->
  ∀ k c, (k, c) ∈ bu -> (∃ r y m, n <= r /\ k = kR r /\ c = .root (.v y) m 0 .live) \/ (∃ c0 ls0 ls, k = kB c0 /\ σ (kB c0) = some (.box false ls0) /\ c = .box false ls)
 | [], b, y, n, bu, h => by
  simp only [kD, aC, Option.some.injEq] at h
  subst h; simp
 | (ro, cs) :: bs, b, y, n, bu, h => by
  simp only [kD] at h
  cases ro with
  | true => exact uU (bs := bs) h
  | false =>
   simp only [cond_false] at h
   split at h
   case h_2 => cases h
   simp only [aA, aQ, Mb3] at h
   split at h
   case h_2 => cases h
   rename_i ls0 hkb
   simp only [aA, Mbx, aC, Option.some.injEq] at h
   obtain ⟨rest, h1, rfl⟩ := h
   obtain ⟨h3, h4⟩ := uV (deps := deps) (cs.map (·.2)) y n
   rw [h3] at h1
   intro k c hc
   rcases List.mem_cons.1 hc with hc | hc
   ·obtain ⟨rfl, rfl⟩ := Prod.mk.inj hc
    exact .inr ⟨_, _, _, rfl, hkb, rfl⟩
   ·rcases List.mem_append.1 hc with hc | hc
    ·exact .inl (h4 k c hc)
    ·exact (uU h1 k c hc).imp (fun ⟨r, y', m, h5, h6⟩ => ⟨r, y', m, by omega, h6⟩) id
theorem Ial {own : Nat -> Ow} {w : World} {ds : List D} {gh : Nat -> Value} : ∀ {ms : List Nat} {i j k d : Nat}, Ran own w ds gh i j ms -> ms[k]? = some d -> Rp own w (2 * (j + k) + 1) [] d (gh (j + k)) (ds.getD (i + k) .undef)
 | [], i, j, k, d, _, h => by simp at h
 | e :: ms, i, j, 0, d, h, hk => by
  simp only [Mb5, Option.some.injEq] at hk
  subst hk
  exact h.1
 | e :: ms, i, j, k + 1, d, h, hk => by
  have := Ial h.2 (k := k) (by simpa using hk)
  rw [show j + (k + 1) = j + 1 + k by omega, show i + (k + 1) = i + 1 + k by omega]
  exact this
theorem gY.len {σ : Nat -> Option aP} {ρ : List D} {G : Gh} {w : World} : ∀ {ts : List (Bool × List aR)} {us : List Value}, gY σ ρ G w ts us -> us.length = ts.length
 | [], us, h => by simp only [gY] at h; subst h; rfl
 | (a, ls) :: r, us, h => by
  obtain ⟨u, us', vs, rfl, -, -, h3⟩ := h
  simp [gY.len h3]
theorem Uak {σ : Nat -> Option aP} {ρ : List D} {G : Gh} {w : World} {g : Option (aJ × Bool)} (hg : gOn ρ g = true) {rs : List (Bool × List aR)} {us : List Value} (h : gY σ ρ G w rs us) : bR σ ρ G w (zC g rs) (Ba9 us) := by
 unfold zC
 split
 ·rename_i x
  obtain ⟨u, us', vs, rfl, h1, h2, h3⟩ := h
  simp only [gY] at h3
  subst h3
  simp only [Mb6, if_false] at h2
  subst h2
  simp only [aD, List.cons.injEq] at h1
  obtain ⟨u', us', ⟨rfl, rfl⟩, h4, -⟩ := h1
  simp only [aB] at h4
  simp only [Ba9]
  cases g with
  | none => simp only [mkS, bR, aB]; exact h4
  | some z => simp only [mkS, bR, aB]; exact ⟨.inl h4, fun _ => h4⟩
 ·rename_i l _
  obtain ⟨u, us', vs, rfl, h1, h2, h3⟩ := h
  simp only [gY] at h3
  subst h3
  simp only [Mb6, if_false] at h2
  subst h2
  simp only [aD, List.cons.injEq] at h1
  obtain ⟨u', us', ⟨rfl, rfl⟩, h4, -⟩ := h1
  simp only [Ba9, bR]
  exact h4
 ·rename_i ls
  obtain ⟨u, us', vs, rfl, h1, h2, h3⟩ := h
  simp only [gY] at h3
  subst h3
  simp only [if_true] at h2
  simp only [Ba9, bR]
  exact ⟨vs, h2, h1⟩
 ·rename_i _ h1 h2 h3
  simp only [bR]
  match us, rs, h with
  | [], [], h => exact ⟨[], rfl, h⟩
  | [u], [(a, ls)], h =>
   exfalso
   obtain ⟨u', us', vs, e, h4, h5, h6⟩ := h
   obtain ⟨rfl, rfl⟩ := List.cons.inj e
   cases a with
   | true => exact h3 ls rfl
   | false =>
    simp only [Mb6, if_false] at h5
    subst h5
    have := h4.len
    match ls, this with
    | [l], _ => exact h2 l rfl
  | u :: u' :: us, r :: r' :: rs, h => exact ⟨_, rfl, h⟩
  | [], _ :: _, h => have := h.len; simp at this
  | [_], [], h => have := h.len; simp at this
  | [_], _ :: _ :: _, h => have := h.len; simp at this
  | _ :: _ :: _, [], h => have := h.len; simp at this
  | _ :: _ :: _, [_], h => have := h.len; simp at this
theorem rJ {σ : Nat -> Option aP} {ptrs : List (Nat × Nat × Nat)} : ∀ {bs : List (Bool × List (BS × BO))} {b : Nat} {xs : List aJ}, (gK ptrs b bs).eval σ = some xs -> ∀ x ∈ bs, x.1 = false -> Oaw (x.2.map (·.2)) = true
 | [], b, xs, h, x, hx, _ => by simp at hx
 | (ro, cs) :: bs, b, xs, h, x, hx, hro => by
  simp only [gK] at h
  cases ro with
  | true =>
   simp only [cond_true] at h
   rcases List.mem_cons.1 hx with rfl | hx
   ·cases hro
   ·exact rJ h x hx hro
  | false =>
   simp only [cond_false] at h
   split at h
   case h_2 => cases h
   simp only [aA, aQ, Mb3] at h
   split at h
   case h_2 => cases h
   simp only [aA, Mbx, aC, Option.some.injEq] at h
   obtain ⟨l, h1, m, h2, -⟩ := h
   rcases List.mem_cons.1 hx with rfl | hx
   ·clear h2
    rename_i ls0 _
    generalize ls0.drop _ = ls at h1
    dsimp only
    clear hx hro
    induction cs generalizing ls l with
    | nil => rfl
    | cons t cs ih =>
     obtain ⟨s, o⟩ := t
     cases ls with
     | nil => simp [jE, bG] at h1
     | cons x ls =>
      simp only [jE, aA, Mbx] at h1
      obtain ⟨y, h3, r, h4, -⟩ := h1
      have := ih _ _ h4
      cases o with
      | ow m => cases s <;> simp [bG] at h3
      | _ => simpa [Oaw] using this
   ·exact rJ h2 x hx hro
end Go.Proofs.YtpgnlmfmlffjcaaGreat.Rf

namespace Go.Proofs.YtpgnlmfmlffjcaaGreat.Rf
set_option linter.unusedVariables false
set_option linter.unusedSimpArgs false
def Tae (o : Oper) (g : Option (aJ × Bool)) (rs : List (Bool × List aR)) : List (Nat × aP) := match o.dst with
 | some d => [(kT d, .slot (Yaj g (zC g rs)) (zC g rs))]
 | none => []
section
variable {E : Env} {F : bB} {σ : Nat -> Option aP} {ρ : List D} {a : Act} {w w' : World} {G : Gh} {g : Option (aJ × Bool)} {cf : Nat -> List D -> Option (List D)} {o : Oper} {s : Sig} {T Z : Take} {nb nr y0 nvm : Nat}
theorem Aai {rs : List (Bool × List aR)} : Tae o g rs = dD o (Yaj g (zC g rs)) (zC g rs) := rfl
theorem Wa9 (hR : R E.ntmps F σ ρ a w G) (hg : gOn ρ g = true) (hd : dX E.ntmps o) (hf : Aaw σ nb nr) {vs : List SV} {us0 : List Value} (hu0 : pV σ ρ G w vs us0)
  (hT : (dU g Take.empty s.params vs).eval σ = some T) (hZ : (dQ T.ptrs T 0 s.boxes).eval σ = some Z) (hk : Iai s Z) (hbx1 : jK s.results <= 1)
  (hgd : noG g = true \/ (jK s.results = 0 /\ ∃ olds, (gK Z.ptrs 0 s.boxes).eval σ = some olds))
  {rs : List (Bool × List aR)} {us bu mu : List (Nat × aP)} {nr1 : Nat} {ml : List Step} {ds : List D} (hres : gW (!noG g) Z.deps nb y0 nr s.results = (rs, us, nr1))
  (hbu : (kD Z.ptrs Z.deps 0 (y0 + bC s.results + (Z.rts.filter uG).length) nr1 s.boxes).eval σ = some bu) {nv1 : Nat} (hmu : (wT (y0 + bC s.results) nv1 Z.rts).eval σ = some (ml, mu))
  (hlen : ds.length = bC s.results + (Z.rts.filter uG).length + dK s.boxes) (hval : ∀ j d, ds[j]? = some d -> (aJ.v (y0 + j)).val ρ = d)
  (hchk : Z.deps = [] \/ Nau ρ (Wa3 y0 s.results ++ Wa4 (y0 + bC s.results) Z.rts ++ Tak (y0 + bC s.results + (Z.rts.filter uG).length) s.boxes)) (hml : aK cf ρ g nv1 ml)
  (hkey : (Tae o g rs ++ (us ++ bu ++ mu ++ eT Z.rts)).all (fun x => wE E.ntmps nb nr x.1) = true)
  {v : Value} (hpost : Kan s (nG s (callG ρ G w s Z) w) (callG ρ G w s Z).bx v w' ds) :
  ∃ G2, R E.ntmps F (upds σ (Tae o g rs ++ (us ++ bu ++ mu ++ eT Z.rts))) ρ (a.put o.dst v) w' G2 := by
 obtain ⟨G', us', rfl, hF, hres', hmus, hboxes⟩ := hpost
 obtain ⟨hle1, hptr, hbxok⟩ := jM hZ
 rw [<- hptr] at hbxok
 obtain ⟨rn, hn1, hn2, hn3⟩ := sQ True (fun _ => hR) hT (fun _ => ⟨us0, hu0⟩)
 obtain ⟨rn', hn4, hn5⟩ := qD (ρ := ρ) (G := G) (w := w) hZ
 have hnew := hn1.trans hn4
 have hZrts : Z.rts = rn ++ rn' := by have := hnew.rts; simpa [Take.empty] using this
 have hrtok : ∀ x ∈ Z.rts, Ab5 σ ρ G w x := by
  rw [hZrts]
  exact fun x hx => (List.mem_append.1 hx).elim (hn3 trivial x) (hn5 x)
 have hms : (Z.rts.filter uG).map rtD = dF (s.params.flatMap (·.2)) := by
  have := hnew.ms
  rw [<- hZrts, Nbo] at this
  exact this
 have hmr : xN 0 Z.rts = dN 0 (s.params.flatMap (·.2)) := by
  have := hnew.mr
  rw [<- hZrts, Nbo] at this
  exact this
 have hdeps : ∀ z ∈ Z.deps, Jah σ z.1 z.2 := fun z hz => by
  rcases hnew.deps z hz with h | h
  ·simp [Take.empty] at h
  ·exact h
 have B : Nav E F σ ρ a w G s Z G' w' := by
  refine ⟨hR, hk, hF, fun j ro cs hj => by have := hbxok j ro cs hj; rwa [Nbt] at this, hdeps, fun ν r d q X hν => ?_, fun ν r d hν => ?_⟩
  ·obtain ⟨m, ver, u, h1, h2, h3⟩ := hrtok _ (Nbe hν)
   exact ⟨m, ver, u, h1, h2, h3⟩
  ·obtain ⟨x, m, ver, h1⟩ := hrtok _ (Nbe hν)
   exact ⟨x, m, ver, h1⟩
 generalize hU : Tae o g rs ++ (us ++ bu ++ mu ++ eT Z.rts) = U at hkey ⊢
 let hs := owR w' s.results us' ++ owB w' (callG ρ G w s Z).bx 0 s.boxes
 let adn := (Faw s.results us').headD ⟨0, 0, none⟩
 let G2 := dW (!noG g) ρ G w s Z nr nb G'.own hs adn
 have hUin : ∀ k c, (k, c) ∈ U -> (k, c) ∈ Tae o g rs \/ (k, c) ∈ us \/ (k, c) ∈ bu \/ (k, c) ∈ mu \/ (k, c) ∈ eT Z.rts := by
  intro k c hc
  rw [<- hU] at hc
  rcases List.mem_append.1 hc with hc | hc
  ·exact .inl hc
  ·rcases List.mem_append.1 hc with hc | hc
   ·rcases List.mem_append.1 hc with hc | hc
    ·rcases List.mem_append.1 hc with hc | hc
     ·exact .inr (.inl hc)
     ·exact .inr (.inr (.inl hc))
    ·exact .inr (.inr (.inr (.inl hc)))
   ·exact .inr (.inr (.inr (.inr hc)))
 have hUdst : ∀ z ∈ Tae o g rs, z ∈ U := fun z hz => by rw [<- hU]; exact Mbz _ hz
 have hUus : ∀ z ∈ us, z ∈ U := fun z hz => by rw [<- hU]; exact Mb1 _ (Mbz _ (Mbz _ (Mbz _ hz)))
 have hUbu : ∀ z ∈ bu, z ∈ U := fun z hz => by rw [<- hU]; exact Mb1 _ (Mbz _ (Mbz _ (Mb1 _ hz)))
 have hUmu : ∀ z ∈ mu, z ∈ U := fun z hz => by rw [<- hU]; exact Mb1 _ (Mbz _ (Mb1 _ hz))
 have hUgo : ∀ z ∈ eT Z.rts, z ∈ U := fun z hz => by rw [<- hU]; exact Mb1 _ (Mb1 _ hz)
 have hkin : ∀ k c, (k, c) ∈ U -> wE E.ntmps nb nr k = true := fun k c hc => by
  rw [Nbq] at hkey
  exact hkey _ hc
 obtain ⟨hnr1, hkres⟩ := Eah (gd := !noG g) (deps := Z.deps) (nb := nb) s.results y0 nr
 rw [hres] at hnr1 hkres
 dsimp only at hnr1 hkres
 subst hnr1
 have hkbu := uU hbu
 have hmurep := vS hg hmu hml
 have hnewroot : ∀ r c, (kR r, c) ∈ U -> nr <= r -> σ (kR r) = none := fun r c hc hr => hf.nr r hr (Bag (hkin _ _ hc))
 have hdk : ∀ k c, (k, c) ∈ Tae o g rs -> ∃ d, o.dst = some d /\ k = kT d /\ c = .slot (Yaj g (zC g rs)) (zC g rs) := fun k c hc => by
  rw [Aai] at hc
  exact vY hc
 have hfr : Fr σ G w (upds σ U) G2 w' := by
  refine Fr.of (fun b hb hlt => B.frz hb hlt) (fun r b p hnot hb => ?_) (fun r c hc hc' => ?_) (fun r x m k hkz b p hb => ?_) (fun r hr => ?_) (fun b hb => ?_)
  ·refine B.other (fun hr => ?_) hb
   rcases vT hmu r hr with ⟨c, hc⟩ | ⟨c, hc⟩
   ·exact hnot c (hUmu _ hc)
   ·exact hnot c (hUgo _ hc)
  ·rcases hUin _ _ hc with h | h | h | h | h
   ·obtain ⟨d, -, e, -⟩ := hdk _ _ h
    exact absurd e.symm gG
   ·rcases hkres _ _ h with ⟨r', y, m, h1, h2, rfl⟩ | ⟨h1, -⟩
    ·obtain rfl := dR h2
     exact .inl ⟨hnewroot r _ hc h1, _, _, _, _, rfl⟩
    ·exact absurd h1.symm eD
   ·rcases hkbu _ _ h with ⟨r', y, m, h1, h2, rfl⟩ | ⟨c0, ls0, ls, h1, -⟩
    ·obtain rfl := dR h2
     exact .inl ⟨hnewroot r _ hc (by omega), _, _, _, _, rfl⟩
    ·exact absurd h1.symm eD
   ·obtain ⟨j, r', d, q, X, X0, m, ver, X', h1, h2, rfl, h3, -⟩ := hmurep _ _ h
    obtain rfl := dR h2
    exact .inr (.inl ⟨_, _, _, _, _, h3, rfl⟩)
   ·obtain ⟨r', h1, rfl⟩ := jS h
    exact .inr (.inr (.inl ⟨_, _, _, _, rfl, by simp, by simp⟩))
  ·have hb : G2.own b = .slc r p := hb
   simp only [G2, dW] at hb
   split at hb
   ·cases e : G.own b with
    | slc r' p' =>
     rw [e] at hb
     simp only [xK] at hb
     split at hb
     ·cases hb
     ·split at hb
      ·split at hb
       ·exact hb
       ·cases hb
      ·exact hb
     ·exact hb
    | _ => rw [e] at hb; simp [xK] at hb
   ·cases e : G'.own b with
    | slc t p' =>
     rw [e] at hb
     simp only [rM] at hb
     split at hb
     ·split at hb
      ·cases hb
      ·split at hb
       ·rename_i hlt
        injection hb with e1 e2
        have := hf.nr r (by omega) (by omega)
        rw [this] at hkz; cases hkz
       ·cases hb
     ·split at hb
      ·rename_i r' d q X hmuj
       injection hb with e1 e2
       subst e1
       have hm := (List.mem_filter.1 (Nbe hmuj)).1
       obtain ⟨m', ver', u', h1, -⟩ := hrtok _ hm
       rw [h1] at hkz; cases hkz
      ·cases hb
    | box β =>
     rw [e] at hb
     simp only [rM] at hb
     split at hb <;> cases hb
    | _ => rw [e] at hb; simp [rM] at hb
  ·show (if nr <= r /\ r < nr + bM then _ else G.hdr r) = _
   rw [if_neg]
   rintro ⟨h1, h2⟩
   rw [hf.nr r h1 h2] at hr
   cases hr
  ·show (if b = nb then adn else G.bx b) = _
   rw [if_neg]
   intro e
   rw [e, hf.nb] at hb
   cases hb
 have hsome : ∀ k c, (k, c) ∈ U -> (upds σ U k).isSome := fun k c hc => dG _ _ _ (.inr ⟨c, hc⟩)
 have huin : ∀ l : List (Nat × aP), (∀ z ∈ l, z ∈ U) -> UIn (upds σ U) nr l := fun l hl k c hc => by
  refine ⟨hsome k c (hl _ hc), fun q e => ?_⟩
  have := hkin _ _ (hl _ hc)
  rw [e] at this
  have := Bag this
  omega
 have hval' : ∀ i, i < ds.length -> (aJ.v (y0 + i)).val ρ = ds.getD i .undef := fun i hi => by
  rw [Mb4, Mb0 hi, Obt]
  exact hval i _ (Mb0 hi)
 have A : Aft E F σ (upds σ U) ρ a w G s Z G' w' y0 ds := by
  refine ⟨B, hval', fun z hz => hfr.known _ _ ?_⟩
  obtain ⟨m, x, hx⟩ := hdeps z hz
  exact ⟨x, m, z.2, .live, hx, fun _ => Nbd _⟩
 have hgdb : (!noG g) = false \/ jK s.results = 0 := by
  rcases hgd with h | h
  ·exact .inl (by rw [h]; rfl)
  ·exact .inr h.1
 have hres2 := Hag A (gd := !noG g) (nb := nb) (nr := nr) (hs := hs) (adn := adn) (i := 0) (q := 0) hres' (by omega) (hchk.imp id fun h m y hm => h m y (Mbz _ (Mbz _ hm)))
  hgdb (fun j x hj => by
   rw [Nbt]
   show (owR w' s.results us' ++ _)[j]? = some x
   rw [Nbi (List.getElem?_eq_some_iff.1 hj).1]
   exact hj) (fun ad had => by
   have hl := Nan s.results us'
   show ad = (Faw s.results us').headD _
   match hb : Faw s.results us', had with
   | [x], had => simpa using had
   | x :: y :: l, had => rw [hb] at hl; simp at hl; omega) (by
   rw [Nbs, Nbs, hres]
   exact huin us hUus)
 rw [Nbs, Nbs, hres] at hres2
 dsimp only at hres2
 obtain ⟨-, hq1, htup, huok⟩ := hres2
 have hmslen : (dF (s.params.flatMap (·.2))).length = (Z.rts.filter uG).length := by rw [<- hms]; simp
 rw [hmslen] at hboxes
 have hbu2 := xX A (gd := !noG g) (nb := nb) (nr := nr) (hs := hs) (adn := adn) hf.nb (bs := s.boxes) (b := 0) (i := bC s.results + (Z.rts.filter uG).length) (q := qR s.results) (bu := bu) (by simp)
  (by rw [<- Nbl]; exact hbu) hboxes (by omega) (hchk.imp id fun h m y hm => h m y (Mb1 _ (by rw [Nbl]; exact hm)))
  (by
   rcases hgd with h | ⟨-, olds, h⟩
   ·exact .inl (by rw [h]; rfl)
   ·exact .inr (rJ h)) (fun j x hj => by
   show (owR w' s.results us' ++ owB w' (callG ρ G w s Z).bx 0 s.boxes)[qR s.results + j]? = some x
   rw [Nbh (by omega), hq1, Nbx]
   exact hj) (huin bu hUbu)
 obtain ⟨hbu3, hbu4⟩ := hbu2
 refine ⟨G2, hR.upd U hfr (by rw [zH]; exact hR.tmps) (by rw [put_defers]; exact hR.defers) B.frame (fun t ht => ?_) (fun b ro ls hb hnot => ?_) (fun b ls hb hlt ho => ?_) (fun k c hc hc' => ?_)⟩
 ·rw [<- hU, Aai] at ht
  exact Dac ht
 ·
  obtain ⟨h1, h2, h3⟩ := hR.box hb
  have hlt : (G.bx b).block < w.heap.size := by
   rcases Nbk (G.bx b).block w.heap.size with h | h
   ·exact h
   ·rw [hR.frame.fresh _ h] at h2
    split at h2 <;> cases h2
  cases ro with
  | true =>
   simp only [if_true] at h2
   obtain ⟨h4, h5⟩ := B.oth (gd := !noG g) (nr := nr) (nb := nb) (hs := hs) (adn := adn) h2 hlt
   exact ⟨h4.trans h2.symm, h5⟩
  | false =>
   simp only [Mb6, if_false] at h2
   obtain ⟨h4, h5⟩ := B.boxes (gd := !noG g) (nr := nr) (nb := nb) (hs := hs) (adn := adn) h2 hlt
   refine ⟨h4.trans h2.symm, ?_⟩
   rcases h5 with h5 | ⟨j, cs, off, ls2, c0, c1, e, fr, e1, e2, e3, e4, -⟩
   ·exact h5
   ·exfalso
    have hm := rH (wr := false) (b := 0) e1 (by rw [Nbt]; exact e2)
    obtain ⟨x, hx⟩ := hbu4 b hm
    exact hnot x (hUbu _ hx)
 ·
  rcases hUin _ _ hb with h | h | h | h | h
  ·obtain ⟨d, -, e, -⟩ := hdk _ _ h
   exact absurd e.symm kP
  ·rcases huok _ _ h with ⟨q, m, i, e, -⟩ | ⟨e, ls', e2, hbr, hnb⟩
   ·exact absurd e eD
   ·exfalso
    have e := Cah e
    subst e
    refine hnb ⟨Nat.lt_of_lt_of_le hlt hR.frame.size, ?_⟩
    have h1 := (hR.frame.boxes _ _ hlt ho).1
    have h2 : (callG ρ G w s Z).own ((dW (!noG g) ρ G w s Z nr b G'.own hs adn).bx b).block = .oth \/ ∃ j, (callG ρ G w s Z).own ((dW (!noG g) ρ G w s Z nr b G'.own hs adn).bx b).block = .box j := by
     have h1' : G.own ((dW (!noG g) ρ G w s Z nr b G'.own hs adn).bx b).block = .box b := h1
     simp only [callG, h1']
     split
     ·split
      ·exact .inr ⟨_, rfl⟩
      ·exact .inl rfl
     ·exact .inl rfl
    rcases h2 with h2 | ⟨j, h2⟩ <;> rw [h2] <;> rfl
  ·rcases hbu3 _ _ h with ⟨q, m, i, e, -⟩ | ⟨c0, ls0, ls', e, h1, h2, h3, -⟩
   ·exact absurd e eD
   ·obtain rfl := Cah e
    injection h2 with e1 e2
    have hbn : G2.bx b = G.bx b := hfr.bx b (by rw [h1]; rfl)
    rw [hbn] at hlt ho ⊢
    rw [hR.rng b ls0 h1 hlt ho, e2, h3]
  ·obtain ⟨j, r', d, q, X, X0, m, ver, X', h1, h2, -⟩ := hmurep _ _ h
   exact absurd h2 eD
  ·obtain ⟨r', h1, -⟩ := jS h
   exact absurd h1 eD
 ·rcases hUin _ _ hc with h | h | h | h | h
  ·obtain ⟨d, hd', rfl, rfl⟩ := hdk _ _ h
   refine ⟨d, rfl, fun _ => ?_⟩
   rw [hd', mE _ _ _ _ _ (hd d hd') hR.tmps]
   exact Uak hg htup
  ·rcases huok _ _ h with ⟨q, m, i, rfl, rfl, hrp⟩ | ⟨rfl, ls', rfl, hbr, -⟩
   ·exact ⟨nr + q, rfl, by rw [hc']; rfl, hrp⟩
   ·exact ⟨nb, rfl, hbr⟩
  ·rcases hbu3 _ _ h with ⟨q, m, i, rfl, rfl, hrp⟩ | ⟨c0, ls0, ls', rfl, h1, rfl, h3, h4⟩
   ·exact ⟨nr + q, rfl, by rw [hc']; rfl, hrp⟩
   ·refine ⟨c0, rfl, h4 fun j l hj => ?_⟩
    obtain ⟨-, -, hcells⟩ := hR.box h1
    obtain ⟨v, hv1, hv2, hv3⟩ := hcells j l hj
    exact ⟨v, hv1, fun hl => aB.mono hfr l v hl⟩
  ·obtain ⟨j, r', d, q, X, X0, m, ver, X', h1, rfl, rfl, h3, hfd, h4⟩ := hmurep _ _ h
   refine ⟨r', rfl, by rw [hc']; rfl, ?_⟩
   show Rp G2.own w' r' [] m (G2.hdr r') (X'.val ρ)
   have hhd : G2.hdr r' = G.hdr r' := hfr.hdr r' (by rw [h3]; rfl)
   rw [hhd]
   have hjlt := (List.getElem?_eq_some_iff.1 h1).1
   have hidx : j < (xN 0 Z.rts).length := by rw [Mal]; exact hjlt
   have hν := Mb0 hidx
   obtain ⟨x, hx1, -, hx2⟩ := Mam hν
   rw [h1] at hx1
   obtain rfl := Option.some.inj hx1
   rw [Nat.sub_zero] at hx2
   have hd0 : (dF (s.params.flatMap (·.2)))[j]? = some d := by
    rw [<- hms, Nbn, h1]; rfl
   have hfin := Ial hmus hd0
   rw [Nbt] at hfin
   have hy : (aJ.v (y0 + bC s.results + j)).val ρ = ds.getD (bC s.results + j) .undef := by
    rw [Nbl]
    exact hval' _ (by omega)
   rw [<- hy] at hfin
   have hgh : (nG s (callG ρ G w s Z) w).gh j = Ua0 w (G.hdr r') (aX ρ q) := by
    simp only [nG, Ea8, Mb4]
    rw [<- hmr, Nbi (by simpa using hidx), Nbn, hν]
    simp only [Nb3, Obt]
    rw [Aas hx2]
    rfl
   rw [hgh] at hfin
   refine B.mu h3 hfd hx2 h1 (fun u' hn => Bac hn) hfin (hchk.imp id fun hc => ?_) h4
   have hmem : ∀ (rts : List RT) (y j : Nat) (r d : Nat) (q : List (aJ × Nat × Nat)) (X : aJ), (rts.filter uG)[j]? = some (RT.mu r d q X) -> Step.prim (.dep d) [.v (y + j)] 0 ∈ Wa4 y rts := by
    intro rts
    induction rts with
    | nil => intro y j r d q X h; simp at h
    | cons x t ih =>
     intro y j r d q X h
     cases x with
     | nil => exact ih y j r d q X (by simpa [uG, Obl] using h)
     | own _ _ => exact ih y j r d q X (by simpa [uG, Obl] using h)
     | mu r' d' q' X' =>
      simp only [Wa4]
      cases j with
      | zero =>
       simp [uG, Obl] at h
       rw [h.2.1]
       exact Nbf
      | succ j =>
       have := ih (y + 1) j r d q X (by simpa [uG, Obl] using h)
       rw [show y + 1 + j = y + (j + 1) by omega] at this
       exact Mb8 _ this
   exact hc d _ (Mbz _ (Mb1 _ (hmem _ _ _ _ _ _ _ h1)))
  ·obtain ⟨r', rfl, rfl⟩ := jS h
   exact ⟨r', rfl, by rw [hc']; rfl, trivial⟩
end
end Go.Proofs.YtpgnlmfmlffjcaaGreat.Rf

namespace Go.Proofs.YtpgnlmfmlffjcaaGreat.Rf
set_option linter.unusedVariables false
set_option linter.unusedSimpArgs false
theorem Bav : ∀ (cs : List BO) (y : Nat), bA (lV y cs) = 0
 | [], y => rfl
 | t :: cs, y => by cases t <;> simp only [lV, gD, Step.n, Bav cs]
theorem Ab1 : ∀ (ss : List LR) (y : Nat), bA (Pan y ss) = 0
 | [], y => rfl
 | t :: ss, y => by cases t <;> simp only [Pan, gD, dV, Step.n, Bav, Ab1 ss]
theorem Abz : ∀ (rs : List (Bool × List LR)) (y : Nat), bA (Wa3 y rs) = 0
 | [], y => rfl
 | (a, ss) :: rs, y => by simp only [Wa3, dV, Ab1, Abz rs]
theorem Ab0 : ∀ (ts : List RT) (y : Nat), bA (Wa4 y ts) = 0
 | [], y => rfl
 | t :: ts, y => by cases t <;> simp only [Wa4, gD, Step.n, Ab0 ts]
theorem Ab2 : ∀ (bs : List (Bool × List (BS × BO))) (y : Nat), bA (Tak y bs) = 0
 | [], y => rfl
 | (ro, cs) :: bs, y => by cases ro <;> simp only [Tak, cond_true, cond_false, dV, Bav, Ab2 bs]
theorem Qa4 {ρ : List D} {g : Option (aJ × Bool)} {cf : Nat -> List D -> Option (List D)} (hg : gOn ρ g = true) : ∀ {l : List Step} {nv : Nat}, aK cf ρ g nv l -> Nau ρ l
 | [], nv, h => fun m y hm => by simp at hm
 | t :: l, nv, h => fun m y hm => by
  rcases List.mem_cons.1 hm with e | hm
  ·subst e
   obtain ⟨ds, h1, -, -⟩ := h.1.1 hg
   simp only [Nbm, Nbv, aO.run] at h1
   split at h1
   ·rename_i hf; exact hf
   ·cases h1
  ·exact Qa4 hg h.2 m y hm
theorem Lau {deps : List (Nat × Nat)} {nb : Nat} : ∀ (rs : List (Bool × List LR)) (y n : Nat), jK rs = 0 -> (gW true deps nb y n rs).2.1 = []
 | [], y, n, _ => rfl
 | (a, ss) :: rs, y, n, h => by
  simp only [jK] at h
  have hl : ∀ (ss : List LR) (y n : Nat), bxL ss = 0 -> (bX true deps nb y n ss).2.1 = [] := by
   intro ss
   induction ss with
   | nil => intro y n _; rfl
   | cons t ss ih =>
    intro y n h
    cases t with
    | bx cs => simp [bxL] at h
    | _ => simp only [bX, bP, cond_true, Nb5]; exact ih _ _ (by simpa [bxL] using h)
  simp only [gW, hl ss y n (by omega), Nb5]
  exact Lau rs _ _ (by omega)
theorem Hah {gd : Bool} {deps : List (Nat × Nat)} {nb y n : Nat} {rs : List (Bool × List LR)} {l : aR} (h : (gW gd deps nb y n rs).1 = [(false, [l])]) : (∀ g x, l ≠ .su g x) /\ ∀ x, l = .sc x -> x = .v y /\ 1 <= bC rs := by
 match rs, h with
 | [], h => simp [gW] at h
 | (a, ss) :: r :: rs, h => simp [gW] at h
 | [(a, ss)], h =>
  simp only [gW, List.cons.injEq, Prod.mk.injEq, and_true] at h
  obtain ⟨-, h⟩ := h
  match ss, h with
  | [], h => simp [bX] at h
  | t :: t' :: ss, h => simp [bX] at h
  | [t], h =>
   simp only [bX, List.cons.injEq, and_true] at h
   subst h
   cases t with
   | sc => exact ⟨fun g x e => by simp [bP] at e, fun x e => by simp [bP] at e; exact ⟨e.symm, by simp [bC, kY, LR.n]⟩⟩
   | ow m => cases gd <;> exact ⟨fun g x e => by simp [bP] at e, fun x e => by simp [bP] at e⟩
   | _ => exact ⟨fun g x e => by simp [bP] at e, fun x e => by simp [bP] at e⟩
theorem Ual {σ : Nat -> Option aP} {ρ : List D} {G : Gh} {w : World} {z : aJ × Bool} (hg : gOn ρ (some z) = false) {gd : Bool} {deps : List (Nat × Nat)} {nb y n : Nat} {rs0 : List (Bool × List LR)} {rs : List (Bool × List aR)}
  (hrs : (gW gd deps nb y n rs0).1 = rs) (hv : 1 <= bC rs0 -> (aJ.v y).val ρ = .undef) (h : gOn ρ (Yaj (some z) (zC (some z) rs)) = true) : bR σ ρ G w (zC (some z) rs) undef := by
 unfold zC at h ⊢
 split at h
 ·rename_i x
  obtain ⟨h1, h2⟩ := (Hah hrs).2 x rfl
  subst h1
  simp only [mkS, bR, aB]
  exact ⟨.inr ⟨trivial, hv h2⟩, fun e => by rw [hg] at e; cases e⟩
 ·rename_i l hne
  have hns := (Hah hrs).1
  exfalso
  revert h hns
  cases l with
  | su g' x' => exact fun _ hns => hns g' x' rfl
  | _ => intro e _; simp only [Yaj] at e; rw [hg] at e; cases e
 ·simp only [Yaj] at h; rw [hg] at h; cases h
 ·simp only [Yaj] at h; rw [hg] at h; cases h
section
variable {P : Program} {E : Env} {F : bB} {σ : Nat -> Option aP} {ρ : List D} {a : Act} {w w' : World} {G : Gh} {g : Option (aJ × Bool)} {cf : Nat -> List D -> Option (List D)} {o : Oper} {s : Sig} {T Z : Take} {nb nr y0 nvm : Nat}
theorem Cad (hR : R E.ntmps F σ ρ a w G) {σ' : Nat -> Option aP} (hfr : Fr σ G w σ' G w) {deps : List (Nat × Nat)} (hkn : ∀ z ∈ deps, iY σ z.1 z.2) : ∀ {cs : List (BS × BO)} {ls : List aR} {xs : List aJ} {y n : Nat}, (jE cs ls).eval σ = some xs ->
  (∀ j x, xs[j]? = some x -> (aJ.v (y + j)).val ρ = x.val ρ) -> (∀ (j : Nat) (nie : Bool) (o : BO) (l : aR), cs[j]? = some (BS.fz nie, o) -> ls[j]? = some l -> ∃ r, (vL l).eval σ = some r /\ ∀ z ∈ r.deps, z ∈ deps) ->
  xs.length = cs.length /\ (dA deps y n (cs.map (·.2))).2.1 = [] /\ (dA deps y n (cs.map (·.2))).1.length = cs.length /\
  ∀ (j : Nat) (l l0 : aR) (v : Value), (dA deps y n (cs.map (·.2))).1[j]? = some l -> ls[j]? = some l0 -> aB σ ρ G w l0 v -> aB σ' ρ G w l v
 | [], ls, xs, y, n, h, _, _ => by
  simp only [jE, aC, Option.some.injEq] at h
  subst h
  exact ⟨rfl, rfl, rfl, by simp [dA]⟩
 | _ :: _, [], xs, y, n, h, _, _ => by simp [jE, bG] at h
 | (t, o) :: cs, l0 :: ls, xs, y, n, h, hx, hz => by
  simp only [jE, aA, Mbx, aC, Option.some.injEq] at h
  obtain ⟨x, h1, r, h2, rfl⟩ := h
  have hx0 : (aJ.v y).val ρ = x.val ρ := by have := hx 0 x rfl; rwa [Nbs] at this
  have key : (iL deps y n o).2.1 = [] /\ ∀ v, aB σ ρ G w l0 v -> aB σ' ρ G w (iL deps y n o).1 v := by
   split at h1
   ·rename_i x'
    simp only [aC, Option.some.injEq] at h1
    subst h1
    refine ⟨rfl, fun v hv => ?_⟩
    simp only [iL, aB] at hv ⊢
    rw [hx0]; exact hv
   ·rename_i _ nie
    simp only [aA, Mbx, aC, Option.some.injEq] at h1
    obtain ⟨sl, h3, rfl⟩ := h1
    refine ⟨rfl, fun v hv => ?_⟩
    obtain ⟨sl', h4, h5⟩ := hz 0 nie .fz _ rfl rfl
    rw [h3] at h4
    obtain rfl := Option.some.inj h4
    have hs := dE hR h3 hv
    have hone : v.oneCell' = true := hv.one (by cases l0 <;> first | rfl | cases h3)
    have hl : aB σ ρ G w (.sn deps .no false (.v y)) v := by
     simp only [aB]
     refine ⟨⟨hone, hkn⟩, fun _ => ⟨?_, fun e => absurd e (by decide), trivial⟩⟩
     rw [hx0]
     refine hs.rd.mono fun b hb => ⟨?_, rfl⟩
     rcases hb with hb | ⟨r, k, p, hm, hb⟩
     ·exact .inl hb
     ·exact .inr ⟨r, k, p, h5 _ hm, hb⟩
    exact aB.mono hfr _ v hl
   ·rw [fF] at h1
    split at h1
    ·rename_i hs
     simp only [aC, Option.some.injEq] at h1
     refine ⟨rfl, fun v hv => ?_⟩
     simp only [iL, aB]
     exact hv.one hs
    ·cases h1
   ·cases h1
  obtain ⟨h3, h4, h5, h6⟩ := Cad hR hfr hkn (cs := cs) (y := y + 1) (n := (iL deps y n o).2.2) h2 (fun j x hj => by
   have := hx (j + 1) x (by simpa using hj)
   rwa [show y + (j + 1) = y + 1 + j by omega] at this) (fun j nie o' l hj hl => hz (j + 1) nie o' l (by simpa using hj) (by simpa using hl))
  refine ⟨by simp [h3], by simp only [Nbm, dA, key.1, Nb5]; exact h4, by simp only [Nbm, dA, Nbc]; rw [h5], fun j l l1 v hj hl hv => ?_⟩
  simp only [Nbm, dA] at hj
  cases j with
  | zero =>
   simp only [Mb5, Option.some.injEq] at hj hl
   subst hj hl
   exact key.2 v hv
  | succ j => exact h6 j l l1 v (by simpa using hj) (by simpa using hl) hv
theorem Ba3 : ∀ {ss : List (BS × BO)} {ls : List aR} {A B : Take}, (dH A ss ls).eval σ = some B -> ∀ (j : Nat) (nie : Bool) (o : BO) (l : aR), ss[j]? = some (BS.fz nie, o) -> ls[j]? = some l -> ∃ r, (vL l).eval σ = some r /\ ∀ z ∈ r.deps, z ∈ B.deps
 | [], ls, A, B, h, j, nie, o, l, hj, _ => by simp at hj
 | _ :: _, [], A, B, h, _, _, _, _, _, _ => by simp [dH, bG] at h
 | (t, o) :: ss, l0 :: ls, A, B, h, j, nie, o', l, hj, hl => by
  simp only [dH, aA, Mbx] at h
  obtain ⟨C, h1, h2⟩ := h
  cases j with
  | zero =>
   simp only [Mb5, Option.some.injEq, Prod.mk.injEq] at hj hl
   obtain ⟨rfl, rfl⟩ := hj
   subst hl
   have h3 : (oO A nie l0).eval σ = some C := by
    have hinv := nO h1
    clear h1
    rcases hinv with ⟨x, e, -⟩ | ⟨nie', e, h⟩ | ⟨d, e, -⟩ | ⟨e, -⟩
    ·cases e
    ·injection e with e; subst e; exact h
    ·cases e
    ·cases e
   unfold oO at h3
   simp only [aA, Mbx, aC, Option.some.injEq] at h3
   obtain ⟨sl, h4, rfl⟩ := h3
   exact ⟨sl, h4, fun z hz => (nN h2).1.deps z (Mb1 _ hz)⟩
  | succ j => exact Ba3 h2 j nie o' l (by simpa using hj) (by simpa using hl)
theorem Ba4 {ptrs : List (Nat × Nat × Nat)} : ∀ {bs : List (Bool × List (BS × BO))} {b : Nat} {A B : Take}, (dQ ptrs A b bs).eval σ = some B -> ∀ (i : Nat) (ro : Bool) (cs : List (BS × BO)), bs[i]? = some (ro, cs) ->
  ∃ c off ro' ls, mI (b + i) ptrs = some (c, off) /\ σ (kB c) = some (.box ro' ls) /\ off + cs.length <= ls.length /\ ∀ (j : Nat) (nie : Bool) (o : BO) (l : aR), cs[j]? = some (BS.fz nie, o) -> (ls.drop off)[j]? = some l -> ∃ r, (vL l).eval σ = some r /\ ∀ z ∈ r.deps, z ∈ B.deps
 | [], b, A, B, h, i, ro, cs, hi => by simp at hi
 | (ro0, cs0) :: bs, b, A, B, h, i, ro, cs, hi => by
  simp only [dQ] at h
  split at h
  case h_2 => cases h
  rename_i c off hp
  simp only [aA, aQ, Mb3] at h
  split at h
  case h_2 => cases h
  rename_i ro' ls hkb
  simp only [aA, aI, Mbx] at h
  obtain ⟨_, h0, C, h1, h2⟩ := h
  split at h0
  case isFalse => cases h0
  rename_i hb
  simp only [Mby, Nb7] at hb
  cases i with
  | zero =>
   simp only [Mb5, Option.some.injEq, Prod.mk.injEq] at hi
   obtain ⟨rfl, rfl⟩ := hi
   refine ⟨c, off, ro', ls, hp, hkb, hb.2, fun j nie o l hj hl => ?_⟩
   obtain ⟨r, h3, h4⟩ := Ba3 h1 j nie o l hj hl
   exact ⟨r, h3, fun z hz => (jM h2).1.deps z (h4 z hz)⟩
  | succ i =>
   obtain ⟨c', off', ro'', ls', h3, h4, h5, h6⟩ := Ba4 h2 i ro cs (by simpa using hi)
   exact ⟨c', off', ro'', ls', by rw [show b + (i + 1) = b + 1 + i by omega]; exact h3, h4, h5, h6⟩
theorem xY (hR : R E.ntmps F σ ρ a w G) {deps : List (Nat × Nat)} (hkn : ∀ z ∈ deps, iY σ z.1 z.2) {ptrs : List (Nat × Nat × Nat)} : ∀ {bs : List (Bool × List (BS × BO))} {b y n : Nat} {bu : List (Nat × aP)} {xs : List aJ},
  (kD ptrs deps b y n bs).eval σ = some bu -> (gK ptrs b bs).eval σ = some xs -> (∀ j x, xs[j]? = some x -> (aJ.v (y + j)).val ρ = x.val ρ) ->
  (∀ (i : Nat) (ro : Bool) (cs : List (BS × BO)), bs[i]? = some (ro, cs) -> ∃ c off ro' ls, mI (b + i) ptrs = some (c, off) /\ σ (kB c) = some (.box ro' ls) /\ off + cs.length <= ls.length /\ ∀ (j : Nat) (nie : Bool) (o : BO) (l : aR), cs[j]? = some (BS.fz nie, o) -> (ls.drop off)[j]? = some l -> ∃ r, (vL l).eval σ = some r /\ ∀ z ∈ r.deps, z ∈ deps) ->
  xs.length = dK bs /\ ∀ k c, (k, c) ∈ bu -> ∃ (c0 : Nat) (ls0 ls : List aR), k = kB c0 /\ σ (kB c0) = some (.box false ls0) /\ c = .box false ls /\ ls.length = ls0.length /\ ∀ (σ' : Nat -> Option aP), Fr σ G w σ' G w -> ∀ (j : Nat) (l l0 : aR) (v : Value), ls[j]? = some l -> ls0[j]? = some l0 -> aB σ ρ G w l0 v -> aB σ' ρ G w l v
 | [], b, y, n, bu, xs, h, hx, _, _ => by
  simp only [kD, aC, Option.some.injEq] at h
  simp only [gK, aC, Option.some.injEq] at hx
  subst h hx
  exact ⟨rfl, by simp⟩
 | (ro, cs) :: bs, b, y, n, bu, xs, h, hx, hv, hz => by
  have hz' : ∀ (i : Nat) (ro : Bool) (cs : List (BS × BO)), bs[i]? = some (ro, cs) -> ∃ c off ro' ls, mI (b + 1 + i) ptrs = some (c, off) /\ σ (kB c) = some (.box ro' ls) /\ off + cs.length <= ls.length /\ ∀ (j : Nat) (nie : Bool) (o : BO) (l : aR), cs[j]? = some (BS.fz nie, o) -> (ls.drop off)[j]? = some l -> ∃ r, (vL l).eval σ = some r /\ ∀ z ∈ r.deps, z ∈ deps := fun i ro cs hi => by
   have := hz (i + 1) ro cs (by simpa using hi)
   rwa [show b + (i + 1) = b + 1 + i by omega] at this
  simp only [kD] at h
  simp only [gK] at hx
  cases ro with
  | true =>
   simp only [cond_true] at h hx
   obtain ⟨h1, h2⟩ := xY hR hkn h hx hv hz'
   exact ⟨by rw [h1]; simp only [dK, cond_true, Nbt], h2⟩
  | false =>
   simp only [cond_false] at h hx
   obtain ⟨c, off, ro', ls0, e1, e2, e3, e4⟩ := hz 0 false cs rfl
   rw [Nbs] at e1
   rw [e1] at h hx
   simp only [aA, aQ, Mb3] at h hx
   rw [e2] at h hx
   cases ro' with
   | true => simp [bG] at h
   | false =>
    simp only [aA, Mbx, aC, Option.some.injEq] at h hx
    obtain ⟨rest, h1, rfl⟩ := h
    obtain ⟨l1, h2, m1, h3, rfl⟩ := hx
    have hold := fun σ' (hfr : Fr σ G w σ' G w) => Cad (E := E) (F := F) (a := a) hR hfr hkn (cs := cs) (ls := ls0.drop off) (y := y) (n := n) h2 (fun j x hj => hv j x (by rw [Nbi (List.getElem?_eq_some_iff.1 hj).1]; exact hj)) e4
    obtain ⟨h4, h5, h6, -⟩ := hold σ (Fr.same σ G w [] (by simp))
    obtain ⟨h7, h8⟩ := xY hR hkn h1 h3 (fun j x hj => by
     have := hv (cs.length + j) x (by rw [Nbh (by omega), h4, Nbx]; exact hj)
     rwa [<- Nbl] at this) hz'
    refine ⟨by rw [Mb2, h4, h7]; simp only [dK, cond_false], fun k x hkx => ?_⟩
    rw [h5] at hkx
    simp only [Obv, Nb5] at hkx
    rcases List.mem_cons.1 hkx with hkx | hkx
    ·obtain ⟨rfl, rfl⟩ := Prod.mk.inj hkx
     refine ⟨c, ls0, _, rfl, e2, rfl, jO (by rw [h6]; exact e3), fun σ' hfr j l l0 v hj hl0 hlv => ?_⟩
     rw [fV (by rw [h6]; exact e3)] at hj
     split at hj
     ·rename_i hr
      refine (hold σ' hfr).2.2.2 (j - off) l l0 v hj ?_ hlv
      rw [List.getElem?_drop, show off + (j - off) = j by omega]
      exact hl0
     ·rw [hl0] at hj
      obtain rfl := Option.some.inj hj
      exact aB.mono hfr _ v hlv
    ·exact h8 k x hkx
theorem Za1 (hR : R E.ntmps F σ ρ a w G) (hg : gOn ρ g = false) (hd : dX E.ntmps o) (hZdeps : ∀ z ∈ Z.deps, Jah σ z.1 z.2) (hrts : Z.rts = []) (hbx0 : jK s.results = 0)
  (hZ : (dQ T.ptrs T 0 s.boxes).eval σ = some Z) {olds : List aJ} (hold : (gK Z.ptrs 0 s.boxes).eval σ = some olds)
  {rs : List (Bool × List aR)} {us bu : List (Nat × aP)} {nr1 : Nat} (hres : gW true Z.deps nb y0 nr s.results = (rs, us, nr1)) (hgn : noG g = false)
  (hbu : (kD Z.ptrs Z.deps 0 (y0 + bC s.results) nr1 s.boxes).eval σ = some bu)
  (hval : ∀ j d, (Nbg (bC s.results + dK s.boxes - olds.length) D.undef ++ olds.map (·.val ρ))[j]? = some d -> (aJ.v (y0 + j)).val ρ = d) :
  R E.ntmps F (upds σ (Tae o g rs ++ (us ++ bu))) ρ (a.put o.dst undef) w G := by
 have hus : us = [] := by
  have := Lau (deps := Z.deps) (nb := nb) s.results y0 nr hbx0
  rw [hres] at this
  exact this
 subst hus
 rw [Nb5]
 obtain ⟨-, hptr, -⟩ := jM hZ
 have hkn : ∀ z ∈ Z.deps, iY σ z.1 z.2 := fun z hz => by
  obtain ⟨m, x, hx⟩ := hZdeps z hz
  exact ⟨x, m, z.2, .live, hx, fun _ => Nbd _⟩
 have hfz := Ba4 hZ
 rw [<- hptr] at hfz
 have hlen0 : olds.length = dK s.boxes := by
  have hln : ∀ {bs : List (Bool × List (BS × BO))} {b : Nat} {xs : List aJ}, (gK Z.ptrs b bs).eval σ = some xs -> xs.length = dK bs := by
   intro bs
   induction bs with
   | nil => intro b xs h; simp only [gK, aC, Option.some.injEq] at h; subst h; rfl
   | cons x bs ih =>
    intro b xs h
    obtain ⟨ro, cs⟩ := x
    simp only [gK] at h
    cases ro with
    | true => simp only [cond_true] at h; rw [ih h]; simp only [dK, cond_true, Nbt]
    | false =>
     simp only [cond_false] at h
     split at h
     case h_2 => cases h
     simp only [aA, aQ, Mb3] at h
     split at h
     case h_2 => cases h
     simp only [aA, Mbx, aC, Option.some.injEq] at h
     obtain ⟨l, h1, m, h2, rfl⟩ := h
     have hc : ∀ {cs : List (BS × BO)} {ls : List aR} {ys : List aJ}, (jE cs ls).eval σ = some ys -> ys.length = cs.length := by
      intro cs
      induction cs with
      | nil => intro ls ys h; simp only [jE, aC, Option.some.injEq] at h; subst h; rfl
      | cons t cs ihc =>
       intro ls ys h
       obtain ⟨t1, t2⟩ := t
       cases ls with
       | nil => simp [jE, bG] at h
       | cons x ls =>
        simp only [jE, aA, Mbx, aC, Option.some.injEq] at h
        obtain ⟨y, -, r, h4, rfl⟩ := h
        simp [ihc h4]
     rw [Mb2, hc h1, ih h2]
     simp only [dK, cond_false]
  exact hln hold
 have hrep : bC s.results + dK s.boxes - olds.length = bC s.results := by omega
 rw [hrep] at hval
 obtain ⟨-, hboxes⟩ := xY hR hkn hbu hold (fun j x hj => by
  rw [Nbl]
  refine hval _ _ ?_
  rw [Nbh (by simp), Obh, Nbx, Nbn, hj]
  rfl) hfz
 have hdk : ∀ k c, (k, c) ∈ Tae o g rs -> ∃ d, o.dst = some d /\ k = kT d /\ c = .slot (Yaj g (zC g rs)) (zC g rs) := fun k c hc => by
  rw [Aai] at hc
  exact vY hc
 have hnr : ∀ k c, (k, c) ∈ Tae o g rs ++ bu -> ∀ r, k ≠ kR r := by
  intro k c hc r
  rcases List.mem_append.1 hc with hc | hc
  ·obtain ⟨d, -, e, -⟩ := hdk _ _ hc
   rw [e]; exact gG
  ·obtain ⟨c0, ls0, ls, e, -⟩ := hboxes _ _ hc
   rw [e]; exact eD
 have hfr := Fr.nonroot σ G w (Tae o g rs ++ bu) hnr
 refine hR.upd _ hfr (by rw [zH]; exact hR.tmps) (by rw [put_defers]; exact hR.defers) hR.frame (fun t ht => ?_) (fun _ _ _ _ _ => ⟨rfl, rfl⟩) (fun b ls hb hlt ho => ?_) (fun k c hc hc' => ?_)
 ·rw [Aai] at ht
  exact Dac ht
 ·rcases List.mem_append.1 hb with hb | hb
  ·obtain ⟨d, -, e, -⟩ := hdk _ _ hb
   exact absurd e.symm kP
  ·obtain ⟨c0, ls0, ls', e, h1, h2, h3, -⟩ := hboxes _ _ hb
   obtain rfl := Cah e
   injection h2 with e1 e2
   rw [hR.rng b ls0 h1 hlt ho, e2, h3]
 ·rcases List.mem_append.1 hc with hc | hc
  ·obtain ⟨d, hd', rfl, rfl⟩ := hdk _ _ hc
   refine ⟨d, rfl, fun hgo => ?_⟩
   rw [hd', mE _ _ _ _ _ (hd d hd') hR.tmps]
   have hrs : (gW true Z.deps nb y0 nr s.results).1 = rs := by rw [hres]
   cases g with
   | none => simp [gOn] at hg
   | some z =>
    refine Ual hg hrs (fun hpos => ?_) hgo
    have := hval 0 .undef (by
     rw [Nbi (by simp; omega)]
     rw [Ob1, if_pos (by omega)])
    rwa [Nbs] at this
  ·obtain ⟨c0, ls0, ls, rfl, h1, rfl, h3, h4⟩ := hboxes _ _ hc
   obtain ⟨h5, h6, h7⟩ := hR.box h1
   refine ⟨c0, rfl, h5, h6, fun j l hj => ?_⟩
   have hlt : j < ls0.length := by rw [<- h3]; exact (List.getElem?_eq_some_iff.1 hj).1
   obtain ⟨v, h8, h9, h10⟩ := h7 j _ (Mb0 hlt)
   exact ⟨v, h8, h9, h4 _ hfr j l _ v hj (Mb0 hlt) h10⟩
end
end Go.Proofs.YtpgnlmfmlffjcaaGreat.Rf

namespace Go.Proofs.YtpgnlmfmlffjcaaGreat.Rf
set_option linter.unusedVariables false
set_option linter.unusedSimpArgs false
section
variable {P : Program} {E : Env} {F : bB} {σ : Nat -> Option aP} {ρ : List D} {a : Act} {w : World} {G : Gh} {g : Option (aJ × Bool)} {o : Oper}
theorem Ka3 : ∀ {vs : List SV} {us : List Value}, vs.length = us.length -> (∀ (i : Nat) (v : SV) (u : Value), vs[i]? = some v -> us[i]? = some u -> bR σ ρ G w v u) -> pV σ ρ G w vs us
 | [], [], _, _ => rfl
 | [], _ :: _, h, _ => by simp at h
 | _ :: _, [], h, _ => by simp at h
 | v :: vs, u :: us, h, hr => ⟨u, us, rfl, hr 0 v u rfl rfl, Ka3 (by simpa using h) fun i v' u' hv hu => hr (i + 1) v' u' (by simpa using hv) (by simpa using hu)⟩
theorem yK : ∀ {vs vs' : List SV} {us us' : List Value}, pV σ ρ G w vs us -> pV σ ρ G w vs' us' -> pV σ ρ G w (vs ++ vs') (us ++ us')
 | [], vs', us, us', h, h' => by simp only [pV] at h; subst h; exact h'
 | v :: vs, vs', us, us', h, h' => by
  obtain ⟨u, us2, rfl, h1, h2⟩ := h
  exact ⟨u, us2 ++ us', rfl, h1, yK h2 h'⟩
theorem Da4 : ∀ {ls : List aR} {vs : List Value}, aD σ ρ G w ls vs -> pV σ ρ G w (ls.map SV.one) vs
 | [], vs, h => by simp only [aD] at h; subst h; rfl
 | l :: ls, vs, h => by
  simp only [aD] at h
  obtain ⟨u, us, rfl, h1, h2⟩ := h
  exact ⟨u, us, rfl, h1, Da4 h2⟩
theorem Yai {f : Operand} {args : Array Operand} {argTypes : Array TypeId} (ho : o.op = .call { callee := .value f, args, argTypes }) {fn : Nat} {vs : List Value} (hf : a.eval f = .func (.func fn) #[] vs.toArray) :
  (execOp a.eval o).run P w = (callFunc fn (args.toList.map a.eval ++ vs).toArray).run P w := by
 unfold execOp
 simp only [ho, resolve, hf, Deferred.ofValue, invoke, Sem.run_bind, Sem.run_pure, Result.andThen_ok]
 congr 2
 apply Array.ext'
 simp
theorem Zaz {X : (Nat -> Ow) -> World -> Prop} {T : Nat -> Ent} {n : Nat} (hst : Stable X) (hX : X F.own0 F.w0) (hc : ∀ key s, (key, s) ∈ E.sigs -> Aay P X T n key s) : yA P E F (iV T n) := by
 intro σ ρ a w G g o Q mv mvs nv nb nr res f args argTypes hR hd hf ho h hkey hst0
 simp only [nQ, ho, aA, Mbx] at h
 obtain ⟨l, h1, h⟩ := h
 split at h
 case h_2 => cases h
 rename_i fn caps
 simp only [aA, Mbx] at h
 obtain ⟨vs0, h2, h⟩ := h
 unfold Abh at h
 split at h
 ·cases h
 rename_i key s hsig
 obtain ⟨hmem, hfn⟩ := Fah hsig
 simp only [aA, Mbx, aI] at h
 obtain ⟨T1, hT, Z, hZ, _, hgd, h⟩ := h
 split at hgd
 case isFalse => cases hgd
 rename_i hb
 simp only [Mby, Bool.or_eq_true, Nb7, List.isEmpty_iff, Nbu] at hb
 obtain ⟨⟨hok, hbx1⟩, hgd⟩ := hb
 have hk := Na5 hok
 obtain ⟨bu, hbu, ⟨ml, mu⟩, hmu, olds, hold, h⟩ := h
 simp only [aC, Option.some.injEq] at h
 subst h
 dsimp only at hkey hst0 ⊢
 generalize hres : gW (!noG g) Z.deps nb (nv + bA Z.lets) nr s.results = res at hkey hst0 hbu ⊢
 obtain ⟨rs, us, nr1⟩ := res
 dsimp only at hkey hst hbu hmu ⊢
 refine ⟨fun hg => ?_, fun hg => ?_⟩
 ·
  obtain ⟨hst1, hml⟩ := aK.append hst0
  obtain ⟨hst2, hchk⟩ := aK.append hst1
  obtain ⟨hst3, hcall⟩ := aK.append hst2
  obtain ⟨ds, hrun, hlen, hval⟩ := hcall.1.1 hg
  have hn : nv + bA (Z.lets ++ [Step.call key Z.xs (bC s.results + (Z.rts.filter uG).length + dK s.boxes) olds] ++ (bif Z.deps.isEmpty then [] else Wa3 (nv + bA Z.lets) s.results ++ Wa4 (nv + bA Z.lets + bC s.results) Z.rts ++ Tak (nv + bA Z.lets + bC s.results + (Z.rts.filter uG).length) s.boxes)) = nv + bA Z.lets + (bC s.results + (Z.rts.filter uG).length + dK s.boxes) := by
   have e0 : bA (bif Z.deps.isEmpty then [] else Wa3 (nv + bA Z.lets) s.results ++ Wa4 (nv + bA Z.lets + bC s.results) Z.rts ++ Tak (nv + bA Z.lets + bC s.results + (Z.rts.filter uG).length) s.boxes) = 0 := by
    cases Z.deps.isEmpty with
    | true => rfl
    | false => simp only [cond_false, dV, Abz, Ab0, Ab2]
   rw [dV, dV, e0]
   simp only [gD, Step.n]
   show nv + (bA Z.lets + (_ + bA []) + 0) = _
   have : bA ([] : List Step) = 0 := rfl
   omega
  rw [hn] at hml
  have hv1 := dZ hR hg h1
  simp only [aB] at hv1
  obtain ⟨cvs, hcv, hcl⟩ := hv1
  obtain ⟨hl1, hl2⟩ := vM hR hg h2
  have hus : pV σ ρ G w (vs0 ++ caps.map SV.one) (args.toList.map a.eval ++ cvs) := by
   refine yK (Ka3 (by rw [hl1]; simp) fun i v u hv hu => ?_) (Da4 hcl)
   rw [Nbn, Nba] at hu
   obtain ⟨x, hx, rfl⟩ := hu
   exact hl2 i v x hv hx
  have hpre := Za0 hR hg hst3 hk hT hZ hus
  have hXc : X (callG ρ G w s Z).own w := hst _ _ _ _ hR.frame.size (fun b hb he => by
   have hkp := hR.frame.keep b hb (.inl he)
   exact ⟨hkp.1, nE (hkp.2.trans he)⟩) hX
  have hgo := hc key s hmem _ w _ _ ds hpre hXc hrun
  have hchk' : Z.deps = [] \/ Nau ρ (Wa3 (nv + bA Z.lets) s.results ++ Wa4 (nv + bA Z.lets + bC s.results) Z.rts ++ Tak (nv + bA Z.lets + bC s.results + (Z.rts.filter uG).length) s.boxes) := by
   cases hde : Z.deps.isEmpty with
   | true => exact .inl (by simpa using hde)
   | false =>
    rw [hde, cond_false] at hchk
    exact .inr (Qa4 hg hchk)
  have hgd' : noG g = true \/ (jK s.results = 0 /\ ∃ olds, (gK Z.ptrs 0 s.boxes).eval σ = some olds) := by
   cases g with
   | none => exact .inl rfl
   | some z => exact .inr ⟨(hgd.resolve_left (by simp [noG])).2, olds, hold⟩
  have hnx : ∀ v w', Kan s (nG s (callG ρ G w s Z) w) (callG ρ G w s Z).bx v w' ds -> Nx E.ntmps F σ ρ (Tae o g rs ++ (us ++ bu ++ mu ++ eT Z.rts)) (a.put o.dst v) w' := by
   intro v w' hpost
   exact Wa9 hR hg hd hf hus hT hZ hk hbx1 hgd' hres hbu hmu hlen hval hchk' hml hkey hpost
  unfold Oper.wp
  rw [Yai ho hcv, <- hfn]
  rcases hgo with ⟨hr, hcalls⟩ | ⟨v, w', hr, hpost⟩
  ·rw [hr, Oper.upon_enter]
   refine Calls.mono hcalls fun e w' he => ?_
   cases e with
   | returned v => exact hnx v w' he
   | panicked c => exact he.elim
   | outgrown => exact he.elim
  ·rw [hr, Oper.upon_value]
   exact hnx v w' hpost
 ·
  have hgn : noG g = false := by
   cases g with
   | none => simp [gOn] at hg
   | some z => rfl
  have h5 := hgd.resolve_left (by rw [hgn]; simp)
  obtain ⟨hrts, hbx0⟩ := h5
  have hmu0 : mu = [] := by
   rw [hrts] at hmu
   simp only [wT, aC, Option.some.injEq, Prod.mk.injEq] at hmu
   exact hmu.2.symm
  have hgo0 : eT Z.rts = [] := by rw [hrts]; rfl
  have hf0 : (Z.rts.filter uG).length = 0 := by rw [hrts]; rfl
  obtain ⟨hst1, hml⟩ := aK.append hst0
  obtain ⟨hst2, hchk⟩ := aK.append hst1
  obtain ⟨hst3, hcall⟩ := aK.append hst2
  have hval := hcall.1.2 hg
  rw [hf0, Nbs] at hval hbu
  have hold' : (gK Z.ptrs 0 s.boxes).eval σ = some olds := by
   cases g with
   | none => cases hgn
   | some z => exact hold
  have hdeps : ∀ z ∈ Z.deps, Jah σ z.1 z.2 := by
   obtain ⟨rn, hn1, -, -⟩ := sQ (E := E) (F := F) (ρ := ρ) (a := a) (w := w) (G := G) False (fun h => h.elim) hT (fun h => h.elim)
   obtain ⟨rn', hn4, -⟩ := qD (ρ := ρ) (G := G) (w := w) hZ
   intro z hz
   rcases (hn1.trans hn4).deps z hz with h | h
   ·simp [Take.empty] at h
   ·exact h
  rw [hgn] at hres
  have := Za1 hR hg hd hdeps hrts hbx0 hZ hold' hres hgn hbu hval
  refine ⟨G, ?_⟩
  show R E.ntmps F (upds σ (Tae o g rs ++ (us ++ bu ++ mu ++ eT Z.rts))) ρ _ w G
  rw [hmu0, hgo0, Nbo, Nbo]
  exact this
end
end Go.Proofs.YtpgnlmfmlffjcaaGreat.Rf

namespace Go.Proofs.YtpgnlmfmlffjcaaGreat.Rf
set_option linter.unusedVariables false
set_option linter.unusedSimpArgs false
def Xam (P : Program) (s : Sig) (e : List D -> Option (List D)) : Prop :=
 ∀ vals w G ds ds', Xap s vals w G ds -> e ds = some ds' -> Goes P s.fn vals.toArray w fun v w' => Kan s (nG s G w) G.bx v w' ds'
def Ram (P : Program) (T : Nat -> Ent) (ti : Nat -> Option TI) (sigs : List (Nat × Sig)) (key : Nat) (s : Sig) : Prop :=
 (∃ (E : Env) (fn : Func) (tm : Tm Unit), E.ti = ti /\ E.sigs = sigs /\ P.funcs[s.fn]? = some fn /\ (fn.name == "runtime.NumGoroutine") = false /\ Ra2 E s fn = some tm /\ T key = .tm tm) \/ ∃ e, T key = .ext e /\ Xam P s e
def Eb4 (P : Program) (X : (Nat -> Ow) -> World -> Prop) (s : Sig) (e : List D -> Option (List D)) : Prop :=
 ∀ vals w G ds ds', Xap s vals w G ds -> X G.own w -> e ds = some ds' -> Goes P s.fn vals.toArray w fun v w' => Kan s (nG s G w) G.bx v w' ds'
def Eb3 (P : Program) (X : (Nat -> Ow) -> World -> Prop) (T : Nat -> Ent) (ti : Nat -> Option TI) (sigs : List (Nat × Sig)) (key : Nat) (s : Sig) : Prop :=
 (∃ (E : Env) (fn : Func) (tm : Tm Unit), E.ti = ti /\ E.sigs = sigs /\ P.funcs[s.fn]? = some fn /\ (fn.name == "runtime.NumGoroutine") = false /\ Ra2 E s fn = some tm /\ T key = .tm tm) \/ ∃ e, T key = .ext e /\ Eb4 P X s e
theorem Ram.toX {P : Program} {X : (Nat -> Ow) -> World -> Prop} {T : Nat -> Ent} {ti : Nat -> Option TI} {sigs : List (Nat × Sig)} {key : Nat} {s : Sig} (h : Ram P T ti sigs key s) : Eb3 P X T ti sigs key s := by
 rcases h with h | ⟨e, h1, h2⟩
 ·exact .inl h
 ·exact .inr ⟨e, h1, fun vals w G ds ds' hp _ he => h2 vals w G ds ds' hp he⟩
theorem Tai {P : Program} {X : (Nat -> Ow) -> World -> Prop} {T : Nat -> Ent} {ti : Nat -> Option TI} {sigs : List (Nat × Sig)} (hst : Stable X) (hti : sP P ti) (hm : P.follows .mixedOrders = true) (H : ∀ key s, (key, s) ∈ sigs -> Eb3 P X T ti sigs key s) :
  ∀ n key s, (key, s) ∈ sigs -> Aay P X T n key s := by
 intro n
 induction n with
 | zero =>
  intro key s _ vals w G ds ds' _ _ h
  cases h
 | succ n ih =>
  intro key s hmem
  rcases H key s hmem with ⟨E, fn, tm, rfl, rfl, h1, h2, h3, h4⟩ | ⟨e, h1, h2⟩
  ·exact Jaw hti hm h1 h2 h3 h4 fun F hX => Zaz hst hX fun key s h => ih key s h
  ·intro vals w G ds ds' hpre hX hrun
   simp only [iV, h1] at hrun
   exact h2 vals w G ds ds' hpre hX hrun
theorem contracts {P : Program} {T : Nat -> Ent} {ti : Nat -> Option TI} {sigs : List (Nat × Sig)} (hti : sP P ti) (hm : P.follows .mixedOrders = true) (H : ∀ key s, (key, s) ∈ sigs -> Ram P T ti sigs key s) :
  ∀ n key s, (key, s) ∈ sigs -> rP P T n key s :=
 fun n key s hmem vals w G ds ds' hpre hrun => Tai (X := fun _ _ => True) (fun _ _ _ _ _ _ _ => trivial) hti hm (fun key s h => (H key s h).toX) n key s hmem vals w G ds ds' hpre trivial hrun
inductive Ty where
 | int (k : IntKind)
 | bool
 | str
 | sl (bytes : Nat) (row : List Ty)
mutual
def WT : Ty -> D -> Prop
 | .int k, d => ∃ n, d = .int k n /\ k.min <= n /\ n <= k.max
 | .bool, d => ∃ b, d = .bool b
 | .str, d => ∃ s, d = .str s /\ s.length <= reachBytes
 | .sl bytes row, d => ∃ rs, d = .rows row.length rs /\ rs.length * bytes <= reachBytes /\ ∀ r ∈ rs, WTs row r
def WTs : List Ty -> List D -> Prop
 | [], ds => ds = []
 | t :: ts, ds => ∃ d ds', ds = d :: ds' /\ WT t d /\ WTs ts ds'
end
def Tau (P : Program) (rec : TypeId -> Option (List Ty)) : Nat -> List Field -> Option (List Ty)
 | _, [] => some []
 | off, f :: fs => match rec f.type with
  | some r => bif Nat.beq f.offset off && Nat.beq r.length (P.cellsOf f.type) then (Tau P rec (off + r.length) fs).map (r ++ ·) else none
  | none => none
def Gaa (P : Program) : Nat -> TypeId -> Option (List Ty)
 | 0, _ => none
 | n + 1, t => match P.underlying t with
  | some .bool => some [.bool]
  | some (.int k) => some [.int k]
  | some .string => some [.str]
  | some (.slice e) => match Gaa P n e with
   | some r => bif Nat.beq r.length (P.cellsOf e) then some [.sl (P.bytesOf e) r] else none
   | none => none
  | some (.struct fs) => match Tau P (Gaa P n) 0 fs.toList with
   | some r => bif Nat.beq r.length (P.cellsOf t) then some r else none
   | none => none
  | _ => none
def gT (w : World) : List Ty -> List Value -> List D -> Prop
 | [], cs, ds => cs = [] /\ ds = []
 | t :: ts, cs, ds => ∃ c cs' d ds', cs = c :: cs' /\ ds = d :: ds' /\ Rd (fun _ => True) w c d /\ WT t d /\ gT w ts cs' ds'
theorem gT.append {w : World} : ∀ {ts ts' : List Ty} {cs cs' : List Value} {ds ds' : List D}, gT w ts cs ds -> gT w ts' cs' ds' -> gT w (ts ++ ts') (cs ++ cs') (ds ++ ds')
 | [], ts', cs, cs', ds, ds', h, h' => by
  obtain ⟨rfl, rfl⟩ := h
  exact h'
 | t :: ts, ts', cs, cs', ds, ds', h, h' => by
  obtain ⟨c, c1, d, d1, rfl, rfl, h1, h2, h3⟩ := h
  exact ⟨c, c1 ++ cs', d, d1 ++ ds', rfl, rfl, h1, h2, h3.append h'⟩
theorem gT.len {w : World} : ∀ {ts : List Ty} {cs : List Value} {ds : List D}, gT w ts cs ds -> cs.length = ts.length /\ ds.length = ts.length
 | [], cs, ds, h => by obtain ⟨rfl, rfl⟩ := h; exact ⟨rfl, rfl⟩
 | t :: ts, cs, ds, h => by
  obtain ⟨c, c1, d, d1, rfl, rfl, h1, h2, h3⟩ := h
  obtain ⟨h4, h5⟩ := h3.len
  simp [h4, h5]
theorem gT.get {w : World} : ∀ {ts : List Ty} {cs : List Value} {ds : List D}, gT w ts cs ds -> ∀ {j : Nat} {d : D}, ds[j]? = some d -> ∃ c, cs[j]? = some c /\ Rd (fun _ => True) w c d
 | [], cs, ds, h, j, d, hj => by obtain ⟨rfl, rfl⟩ := h; simp at hj
 | t :: ts, cs, ds, h, j, d, hj => by
  obtain ⟨c, c1, d', d1, rfl, rfl, h1, h2, h3⟩ := h
  cases j with
  | zero =>
   simp only [Mb5, Option.some.injEq] at hj
   subst hj
   exact ⟨c, rfl, h1⟩
  | succ j =>
   obtain ⟨c', h4, h5⟩ := h3.get (j := j) (by simpa using hj)
   exact ⟨c', by simpa using h4, h5⟩
theorem gT.wts {w : World} : ∀ {ts : List Ty} {cs : List Value} {ds : List D}, gT w ts cs ds -> WTs ts ds
 | [], cs, ds, h => by obtain ⟨rfl, rfl⟩ := h; simp [WTs]
 | t :: ts, cs, ds, h => by
  obtain ⟨c, c1, d', d1, rfl, rfl, h1, h2, h3⟩ := h
  simp only [WTs]
  exact ⟨d', d1, rfl, h2, h3.wts⟩
theorem Eaq {α β : Type} {f : α -> Option β} : ∀ {l : List α} {ys : List β}, l.mapM f = some ys -> ys.length = l.length /\ ∀ (i : Nat) (x : α), l[i]? = some x -> ∃ y, ys[i]? = some y /\ f x = some y
 | [], ys, h => by
  simp at h
  subst h
  simp
 | x :: l, ys, h => by
  simp only [List.mapM_cons, bind, Mbx, pure, Option.some.injEq] at h
  obtain ⟨y, h1, ys', h2, rfl⟩ := h
  obtain ⟨h3, h4⟩ := Eaq h2
  refine ⟨by simp [h3], fun i z hz => ?_⟩
  cases i with
  | zero =>
   simp only [Mb5, Option.some.injEq] at hz
   subst hz
   exact ⟨y, rfl, h1⟩
  | succ i =>
   obtain ⟨y', h5, h6⟩ := h4 i z (by simpa using hz)
   exact ⟨y', by simpa using h5, h6⟩
theorem Jaj {β : Type} {p : Nat -> β -> Prop} : ∀ (n : Nat), (∀ i, i < n -> ∃ y, p i y) -> ∃ l : List β, l.length = n /\ ∀ i y, l[i]? = some y -> p i y
 | 0, _ => ⟨[], rfl, by simp⟩
 | n + 1, h => by
  obtain ⟨l, h1, h2⟩ := Jaj n fun i hi => h i (by omega)
  obtain ⟨y, hy⟩ := h n (by omega)
  refine ⟨l ++ [y], by simp [h1], fun i z hz => ?_⟩
  rcases Nat.lt_trichotomy i n with hi | hi | hi
  ·rw [Nbi (by omega)] at hz
   exact h2 i z hz
  ·subst hi
   rw [Nbh (by omega), h1, Nat.sub_self] at hz
   simp only [Mb5, Option.some.injEq] at hz
   subst hz
   exact hy
  ·have := (List.getElem?_eq_some_iff.1 hz).1
   simp [h1] at this
   omega
theorem wJ {H : Type} {P : Program} {e : TypeId} : ∀ {l : List (DataW H)} {d : DataW H}, d ∈ l -> ∀ n ∈ d.weights P e, n ∈ DataW.weightsAll P e l
 | [], d, h, _, _ => by simp at h
 | x :: l, d, h, n, hn => by
  simp only [DataW.weightsAll, Pbu]
  rcases List.mem_cons.1 h with rfl | h
  ·exact .inl hn
  ·exact .inr (wJ h n hn)
theorem rR {H : Type} {P : Program} {t : TypeId} {ts : List TypeId} {d : DataW H} {ds : List (DataW H)} : DataW.weightsEach P (t :: ts) (d :: ds) = d.weights P t ++ DataW.weightsEach P ts ds := by
 simp only [DataW.weightsEach]
theorem Daz {P : Program} {w : World} {H : Type} {cs : List Value} {f : Field -> List Value -> Option (DataW H × List MemPlace)} {rec : TypeId -> Option (List Ty)}
  (hrec : ∀ (fd : Field) (r : List Ty) (l : List Value) (y : DataW H × List MemPlace), rec fd.type = some r -> f fd l = some y -> (∀ m ∈ y.1.weights P fd.type, m <= reachBytes) -> ∃ ds, gT w r l ds) :
  ∀ {fs : List Field} {off : Nat} {tys : List Ty} {xs : List (DataW H × List MemPlace)}, Tau P rec off fs = some tys -> fs.mapM (fun fd => f fd ((cs.drop fd.offset).take (P.cellsOf fd.type))) = some xs ->
  (∀ m ∈ DataW.weightsEach P (fs.map (·.type)) (xs.map (·.1)), m <= reachBytes) -> cs.length = off + tys.length -> ∃ ds, gT w tys (cs.drop off) ds
 | [], off, tys, xs, h, _, _, hl => by
  simp only [Tau, Option.some.injEq] at h
  subst h
  refine ⟨[], ?_, rfl⟩
  rw [List.drop_eq_nil_iff]
  simp only [List.length_nil] at hl
  omega
 | fd :: fs, off, tys, xs, h, hm, hw, hl => by
  simp only [Tau] at h
  split at h
  case h_2 => cases h
  rename_i r hr
  cases hb : (Nat.beq fd.offset off && Nat.beq r.length (P.cellsOf fd.type)) with
  | false => rw [hb] at h; cases h
  | true =>
   rw [hb, cond_true, Nba] at h
   obtain ⟨tys', h1, rfl⟩ := h
   simp only [Mby, Nbu] at hb
   obtain ⟨rfl, hcl⟩ := hb
   simp only [List.mapM_cons, bind, Mbx, pure, Option.some.injEq] at hm
   obtain ⟨y, h2, ys, h3, rfl⟩ := hm
   simp only [Nbm, rR, Pbu] at hw
   obtain ⟨ds, h4⟩ := hrec fd r _ y hr h2 fun m hm => hw m (.inl hm)
   rw [Mb2] at hl
   obtain ⟨ds', h5⟩ := Daz hrec (off := fd.offset + r.length) h1 h3 (fun m hm => hw m (.inr hm)) (by omega)
   refine ⟨ds ++ ds', ?_⟩
   have := h4.append h5
   rw [<- hcl] at this
   have e : List.take r.length (List.drop fd.offset cs) ++ List.drop (fd.offset + r.length) cs = List.drop fd.offset cs := by
    rw [<- List.drop_drop, List.take_append_drop]
   rw [e] at this
   exact this
theorem Aa0 {P : Program} {H : Type} {enc : TypeId × Value -> H} {w : World} {sp : Nat -> Bool} {held : Bool} : ∀ (n fuel : Nat) {t : TypeId} {cs : List Value} {x : DataW H} {ps : List MemPlace} {tys : List Ty}, Gaa P n t = some tys -> DataW.trod enc P w 0 sp held fuel t cs = some (x, ps) ->
  (∀ m ∈ x.weights P t, m <= reachBytes) -> ∃ ds, gT w tys cs ds
 | 0, _, t, cs, x, ps, tys, h, _, _ => by simp [Gaa] at h
 | n + 1, 0, t, cs, x, ps, tys, _, h, _ => by simp [DataW.trod] at h
 | n + 1, fuel + 1, t, cs, x, ps, tys, ht, h, hw => by
  simp only [Gaa] at ht
  unfold DataW.trod at h
  split at ht
  ·
   rename_i hu
   rw [hu] at h
   simp only [Option.some.injEq] at ht
   subst ht
   split at h <;> rename_i heq <;> first | (cases heq; done) | skip
   all_goals first | (injection heq with heq; cases heq; done) | skip
   ·exact ⟨_, _, [], _, [], rfl, rfl, .sc (.bool _), ⟨_, rfl⟩, rfl, rfl⟩
   ·cases h
  ·
   rename_i k hu
   rw [hu] at h
   simp only [Option.some.injEq] at ht
   subst ht
   split at h <;> rename_i heq <;> first | (cases heq; done) | skip
   all_goals first | (injection heq with heq; cases heq; done) | skip
   ·rename_i k0 k' m
    injection heq with heq
    injection heq with heq
    subst heq
    split at h
    ·rename_i hc
     obtain ⟨rfl, hwf⟩ := hc
     simp only [Lit.wf, Mby, decide_eq_true_eq] at hwf
     exact ⟨_, _, [], _, [], rfl, rfl, .sc (.int _ _), ⟨_, rfl, hwf.1, hwf.2⟩, rfl, rfl⟩
    ·cases h
   ·cases h
  ·
   rename_i hu
   rw [hu] at h
   simp only [Option.some.injEq] at ht
   subst ht
   split at h <;> rename_i heq <;> first | (cases heq; done) | skip
   all_goals first | (injection heq with heq; cases heq; done) | skip
   ·rename_i s0
    split at h
    ·simp only [Option.some.injEq, Prod.mk.injEq] at h
     obtain ⟨rfl, rfl⟩ := h
     refine ⟨_, _, [], _, [], rfl, rfl, .sc (.str s0.data.toList), ⟨_, rfl, hw _ ?_⟩, rfl, rfl⟩
     simp only [DataW.weights, Mb9]
    ·cases h
   ·cases h
  ·
   rename_i e hu
   split at ht
   case h_2 => cases ht
   rename_i r hr
   cases hb : Nat.beq r.length (P.cellsOf e) with
   | false => rw [hb] at ht; cases ht
   | true =>
    rw [hb, cond_true] at ht
    simp only [Option.some.injEq] at ht
    subst ht
    simp only [Nbu] at hb
    rw [hu] at h
    split at h <;> rename_i heq <;> first | (cases heq; done) | skip
    all_goals first | (injection heq with heq; cases heq; done) | skip
    ·injection heq with heq
     injection heq with heq
     subst heq
     simp only [Option.some.injEq, Prod.mk.injEq] at h
     obtain ⟨rfl, rfl⟩ := h
     refine ⟨_, _, [], .rows r.length [], [], rfl, rfl, .rows none ⟨0, 0, none⟩ 0 0 r.length [] (fun _ _ => undef) rfl (Nbd _) (.inl rfl) (by simp) (by simp) (by simp), ⟨[], rfl, by simp, by simp⟩, rfl, rfl⟩
    ·rename_i e0 ad len cap
     injection heq with heq
     injection heq with heq
     subst heq
     dsimp only at h
     split at h
     case isFalse => cases h
     rename_i hc
     simp only [Mbx, Nba, Prod.mk.injEq] at h
     obtain ⟨elems, h1, rest, h2, rfl, rfl⟩ := h
     obtain ⟨h3, h4⟩ := Eaq h1
     rw [List.length_range] at h3
     simp only [DataW.weights, hu, Nbz, Pbu] at hw
     have hrow : ∀ i, i < len -> ∃ ds : List D, ∃ cs : List Value, (∀ j c, cs[j]? = some c -> w.cell? (ad.add (i * r.length + j)) = some c) /\ gT w r cs ds := by
      intro i hi
      obtain ⟨y, h5, h6⟩ := h4 i i (by rw [Pb5 hi])
      simp only [Mbx] at h6
      obtain ⟨cs, h7, h8⟩ := h6
      obtain ⟨x, ps⟩ := y
      obtain ⟨ds, h9⟩ := Aa0 n fuel hr h8 fun m hm => hw m (.inr (.inl (wJ (List.mem_map.2 ⟨_, Nbe h5, rfl⟩) m hm)))
      refine ⟨ds, cs, fun j c hj => ?_, h9⟩
      unfold World.cells? at h7
      split at h7
      ·obtain ⟨h10, h11⟩ := Eaq h7
       have hjl := (List.getElem?_eq_some_iff.1 hj).1
       rw [h10, List.length_range] at hjl
       obtain ⟨c', h12, h13⟩ := h11 j j (by rw [Pb5 hjl])
       rw [hj] at h12
       obtain rfl := Option.some.inj h12
       rw [add_add, <- hb] at h13
       exact h13
      ·cases h7
     obtain ⟨rs, h5, h6⟩ := Jaj len hrow
     have hex : ∀ i, ∃ cs : List Value, ∀ ds, rs[i]? = some ds -> (∀ j c, cs[j]? = some c -> w.cell? (ad.add (i * r.length + j)) = some c) /\ gT w r cs ds := by
      intro i
      cases hi : rs[i]? with
      | none => exact ⟨[], fun ds h => by cases h⟩
      | some ds =>
       obtain ⟨cs, h7, h8⟩ := h6 i ds hi
       exact ⟨cs, fun ds' h => by obtain rfl := Option.some.inj h; exact ⟨h7, h8⟩⟩
     have hch : ∃ cf : Nat -> List Value, ∀ i ds, rs[i]? = some ds -> (∀ j c, (cf i)[j]? = some c -> w.cell? (ad.add (i * r.length + j)) = some c) /\ gT w r (cf i) ds := ⟨fun i => (hex i).choose, fun i => (hex i).choose_spec⟩
     obtain ⟨cf, hcf⟩ := hch
     have hlen : ∀ row ∈ rs, row.length = r.length := fun row hrow => by
      obtain ⟨i, hi⟩ := List.mem_iff_getElem?.1 hrow
      exact ((hcf i row hi).2.len).2
     refine ⟨[.rows r.length rs], _, [], _, [], rfl, rfl, ?_, ⟨rs, rfl, ?_, fun row hrow => ?_⟩, rfl, rfl⟩
     ·refine .rows _ ad len cap r.length rs (fun i j => ((cf i)[j]?).getD undef) h5 hc.2.1 (.inr rfl) hlen (fun i row hi j d hj => ?_) (fun i row hi j d hj => ?_)
      ·obtain ⟨c, h7, h8⟩ := (hcf i row hi).2.get hj
       refine ⟨trivial, ?_⟩
       rw [(hcf i row hi).1 j c h7, h7]
       rfl
      ·obtain ⟨c, h7, h8⟩ := (hcf i row hi).2.get hj
       rw [h7]
       exact h8
     ·have := hw _ (.inl rfl)
      rw [Nbb, Nbb, h3] at this
      rw [h5]
      exact Nat.le_trans (Nat.mul_le_mul_right _ (Nat.le_add_right ..)) this
     ·obtain ⟨i, hi⟩ := List.mem_iff_getElem?.1 hrow
      exact (hcf i row hi).2.wts
    ·cases h
  ·
   rename_i fs hu
   split at ht
   case h_2 => cases ht
   rename_i r hr
   cases hb : Nat.beq r.length (P.cellsOf t) with
   | false => rw [hb] at ht; cases ht
   | true =>
    rw [hb, cond_true] at ht
    simp only [Option.some.injEq] at ht
    subst ht
    simp only [Nbu] at hb
    rw [hu] at h
    split at h <;> rename_i heq <;> first | (cases heq; done) | skip
    all_goals first | (injection heq with heq; cases heq; done) | skip
    ·rename_i cs0 x0 cs1 fs2
     injection heq with heq
     injection heq with heq
     subst heq
     split at h
     case isFalse => cases h
     rename_i hc
     simp only [Nba, Prod.mk.injEq] at h
     obtain ⟨xs, h1, rfl, rfl⟩ := h
     simp only [DataW.weights, hu] at hw
     obtain ⟨ds, h2⟩ := Daz (w := w) (cs := cs0) (f := fun fd l => DataW.trod enc P w 0 sp held fuel fd.type l) (rec := Gaa P n)
      (fun fd r l y hr' hy hw' => Aa0 n fuel hr' (x := y.1) (ps := y.2) hy hw') hr h1 hw (by omega)
     exact ⟨ds, by simpa using h2⟩
    ·exact ((by assumption : ∀ (fs_1 : Array Field), some (TypeDesc.struct fs) = some (TypeDesc.struct fs_1) -> False) fs rfl).elim
  ·cases ht
end Go.Proofs.YtpgnlmfmlffjcaaGreat.Rf

namespace Go.Proofs.YtpgnlmfmlffjcaaGreat.Rf
open Go.ChangeShapes Go.RowKit
set_option linter.unusedVariables false
set_option linter.unusedSimpArgs false
def Ua6 : Ty -> LS
 | .sl _ _ => .fz false
 | _ => .sc
def Cbz (P : Program) (t : TypeId) : Bool := match P.underlying t with
 | some (.struct _) => true
 | _ => false
def mP (P : Program) : List TypeId -> Option (List (Bool × List LS) × List Ty)
 | [] => some ([], [])
 | t :: ts => match Gaa P 12 t, mP P ts with
  | some r, some (ps, tys) => some ((Cbz P t, r.map Ua6) :: ps, r ++ tys)
  | _, _ => none
def Hbx : Gh := ⟨fun _ => .frz, fun _ => undef, fun _ => ⟨0, 0, none⟩⟩
theorem Wa1 : ∀ (tys : List Ty), Taq (tys.map Ua6) = tys.length /\ iT (tys.map Ua6) = 0
 | [] => ⟨rfl, rfl⟩
 | t :: tys => by
  obtain ⟨h1, h2⟩ := Wa1 tys
  cases t <;> simp [Taq, iT, Ua6, LS.cnt, LS.rcnt, h1, h2] <;> omega
theorem Cas {w : World} {ρ : List D} : ∀ {tys : List Ty} {cs : List Value} {ds : List D} {i : Nat}, gT w tys cs ds -> (∀ j d, ds[j]? = some d -> (aJ.v (i + j)).val ρ = d) -> pW Hbx w ρ 0 i 0 (tys.map Ua6) cs
 | [], cs, ds, i, h, _ => by obtain ⟨rfl, rfl⟩ := h; rfl
 | t :: tys, cs, ds, i, h, hv => by
  obtain ⟨c, cs', d, ds', rfl, rfl, h1, h2, h3⟩ := h
  have hv0 : (aJ.v i).val ρ = d := by have := hv 0 d rfl; rwa [Nbs] at this
  have hr : (Ua6 t).rcnt = 0 := by cases t <;> rfl
  have hc : (Ua6 t).cnt = 1 := by cases t <;> rfl
  refine ⟨c, cs', rfl, ?_, ?_⟩
  ·cases t with
   | int k =>
    obtain ⟨n, rfl, -⟩ := h2
    simp only [Ua6, jL, hv0]
    exact h1.sc_inv rfl
   | bool =>
    obtain ⟨n, rfl⟩ := h2
    simp only [Ua6, jL, hv0]
    exact h1.sc_inv rfl
   | str =>
    obtain ⟨n, rfl, -⟩ := h2
    simp only [Ua6, jL, hv0]
    exact h1.sc_inv rfl
   | sl bytes row =>
    simp only [Ua6, jL, hv0]
    exact ⟨h1.mono fun b _ => ⟨rfl, rfl⟩, fun e => absurd e (by decide)⟩
  ·rw [hr, hc]
   refine Cas (i := i + 1) h3 fun j d' hj => ?_
   have := hv (j + 1) d' (by simpa using hj)
   rwa [show i + (j + 1) = i + 1 + j by omega] at this
theorem La3 {P : Program} {W : World} {base : Nat} {n : Nat} {t : TypeId} {tys : List Ty} {v : Value} (h : Gaa P n t = some tys) (hv : Value.okWide P W .any base t v) : if Cbz P t = true then v = .agg v.cells.toList.toArray else v.cells.toList = [v] := by
 cases n with
 | zero => simp [Gaa] at h
 | succ n =>
  unfold Value.okWide at hv
  unfold Cbz
  simp only [Gaa] at h
  cases hu : P.underlying t with
  | none => rw [hu] at h; cases h
  | some u =>
   rw [hu] at h hv
   cases u with
   | struct fs =>
    obtain ⟨cs, rfl, -⟩ := hv
    simp [Value.cells]
   | bool =>
    simp only [Cell.okWide, Cell.ok, hu] at hv
    cases v <;> simp at hv
    simp [Value.cells]
   | int k =>
    simp only [Cell.okWide, Cell.ok, hu] at hv
    cases v <;> simp at hv
    simp [Value.cells]
   | string =>
    simp only [Cell.okWide, Cell.ok, hu] at hv
    cases v <;> simp at hv
    simp [Value.cells]
   | slice e =>
    simp only [Cell.okWide, Cell.ok, hu] at hv
    cases v <;> simp at hv
    simp [Value.cells]
   | _ => cases h
theorem Haz {P : Program} {H : Type} {enc : TypeId × Value -> H} {W : World} {sp : Nat -> Bool} {held : Bool} {base : Nat} : ∀ {ts : List TypeId} {vs : List Value} {ds : List (DataW H)} {ps : List MemPlace} {sps : List (Bool × List LS)} {tys : List Ty},
  mP P ts = some (sps, tys) -> DataW.TrodAll enc P W 0 sp held ts vs ds ps -> (∀ (j : Nat) t v, ts[j]? = some t -> vs[j]? = some v -> Value.okWide P W .any base t v) -> (∀ m ∈ DataW.weightsEach P ts ds, m <= reachBytes) ->
  ∃ dd, WTs tys dd /\ dd.length = tys.length /\ tys.length = Iad sps /\ iD sps = 0 /\ ∀ (ρ : List D) (i : Nat), (∀ j d, dd[j]? = some d -> (aJ.v (i + j)).val ρ = d) -> jC Hbx W ρ 0 i 0 sps vs
 | [], vs, ds, ps, sps, tys, h, ht, _, _ => by
  simp only [mP, Option.some.injEq, Prod.mk.injEq] at h
  obtain ⟨rfl, rfl⟩ := h
  cases vs with
  | cons v vs => cases ds <;> exact ht.elim
  | nil => exact ⟨[], rfl, rfl, rfl, rfl, fun ρ i _ => rfl⟩
 | t :: ts, vs, ds, ps, sps, tys, h, ht, hv, hw => by
  simp only [mP] at h
  split at h
  case h_2 => cases h
  rename_i r sps' tys' hr hl
  simp only [Option.some.injEq, Prod.mk.injEq] at h
  obtain ⟨rfl, rfl⟩ := h
  cases vs with
  | nil => cases ds <;> exact ht.elim
  | cons v vs =>
   cases ds with
   | nil => exact ht.elim
   | cons d ds =>
    obtain ⟨p, q, ⟨fuel, h1⟩, h2, rfl⟩ := ht
    rw [rR] at hw
    obtain ⟨dd, h3⟩ := Aa0 12 fuel hr h1 fun m hm => hw m (Mbz _ hm)
    obtain ⟨dd', h4, h5, h6, h7, h8⟩ := Haz hl h2 (fun j t' v' hj hj' => hv (j + 1) t' v' (by simpa using hj) (by simpa using hj')) fun m hm => hw m (Mb1 _ hm)
    obtain ⟨hc1, hc2⟩ := Wa1 r
    obtain ⟨hn1, hn2⟩ := h3.len
    refine ⟨dd ++ dd', ?_, by simp [hn2, h5], by simp only [Mb2, Iad, hc1, h6], by simp only [iD, hc2, h7], fun ρ i hval => ?_⟩
    ·have : ∀ {a : List Ty} {x : List D}, WTs a x -> WTs (a ++ tys') (x ++ dd') := by
      intro a
      induction a with
      | nil => intro x hx; simp only [WTs] at hx; subst hx; exact h4
      | cons t a ih =>
       intro x hx
       simp only [WTs] at hx
       obtain ⟨y, ys, rfl, hy1, hy2⟩ := hx
       simp only [Obv, WTs]
       exact ⟨y, _, rfl, hy1, ih hy2⟩
     exact this h3.wts
    ·refine ⟨v, vs, v.cells.toList, rfl, Cas h3 fun j d' hj => hval j d' (by rw [Nbi (List.getElem?_eq_some_iff.1 hj).1]; exact hj), La3 hr (hv 0 t v rfl rfl), ?_⟩
     rw [hc1, hc2]
     refine h8 ρ (i + r.length) fun j d' hj => ?_
     rw [Nbl, <- hn2]
     exact hval _ _ (by rw [Nbh (by omega), Nbx]; exact hj)
theorem yF {P : Program} {H : Type} {enc : TypeId × Value -> H} (hl : laidOutB P = true) {W W' : World} (hb : Below W.heap.size W W') : ∀ {ts : List TypeId} {vs : List Value} {ds : List (DataW H)} {ps : List MemPlace}, (ts.all fun t => P.readableRec t && decide (t < P.types.size)) = true ->
  DataW.TrodAll enc P W 0 (fun _ => true) true ts vs ds ps -> DataW.TrodAll enc P W' 0 (fun b => decide (b < W.heap.size)) true ts vs ds ps
 | [], [], [], ps, _, h => h
 | [], [], _ :: _, ps, _, h => h.elim
 | [], _ :: _, _, ps, _, h => h.elim
 | _ :: _, [], _, ps, _, h => h.elim
 | _ :: _, _ :: _, [], ps, _, h => h.elim
 | t :: ts, v :: vs, d :: ds, ps, hr, h => by
  simp only [List.all_cons, Mby, decide_eq_true_eq] at hr
  obtain ⟨p, q, h1, h2, rfl⟩ := h
  refine ⟨p, q, Below.trod hl hr.1.1 hr.1.2 h1 hb ?_, yF hl hb hr.2 h2, rfl⟩
  obtain ⟨m, hm⟩ := h1
  exact DataW.trod_lt m _ _ _ hm
theorem Sao {P : Program} {X : (Nat -> Ow) -> World -> Prop} {T : Nat -> Ent} {key : Nat} {s : Sig} {fn : Func} {c : Code} (hc : ∀ n, Aay P X T n key s) (hfn : P.funcs[s.fn]? = some fn) (hname : (fn.name == "runtime.NumGoroutine") = false) (hbody : fn.body = some c)
  {tys : List Ty} (hpar : mP P fn.params.toList = some (s.params, tys)) (hbx : s.boxes = []) (hres : s.results = [(false, [.sc])]) (hpure : ∀ ds, WTs tys ds -> ∃ n, iV T n key ds = some [.bool true])
  {H : Type} {enc : TypeId × Value -> H} {W : World} {base : Nat} {args : Array Value} {ds : List (DataW H)} {ps : List MemPlace}
  (hval : ∀ (j : Nat) t v, fn.params[j]? = some t -> args[j]? = some v -> Value.okWide P W .any base t v) (ht : DataW.TrodAll enc P W 0 (fun _ => true) true fn.params.toList args.toList ds ps)
  (hw : ∀ m ∈ DataW.weightsEach P fn.params.toList ds, m <= reachBytes) (hX : X (fun _ => .frz) W) : Calls P s.fn args W fun e W' => e = .returned (.bool true) /\ Below W.heap.size W W' := by
 obtain ⟨dd, h1, h2, h3, h4, h5⟩ := Haz (base := base) hpar ht (fun j t v hj hv => hval j t v (by simpa using hj) (by simpa using hv)) hw
 obtain ⟨n, hn⟩ := hpure dd h1
 have hpre : Xap s args.toList W Hbx dd := by
  refine ⟨?_, ?_, ?_, fun _ _ => rfl, fun b j _ e => by cases e⟩
  ·rw [hbx]
   exact h5 dd 0 fun j d hj => by simp [aJ.val, Mb4, hj]
  ·rw [hbx]; trivial
  ·rw [h2, h3, hbx]; rfl
 have hgo := hc n args.toList W Hbx dd _ hpre hX hn
 have e : args.toList.toArray = args := by simp
 rw [e] at hgo
 rcases hgo with ⟨-, hcalls⟩ | ⟨v, w', hr, -⟩
 ·refine Calls.mono hcalls fun en W' he => ?_
  cases en with
  | returned v =>
   obtain ⟨G, us, rfl, hF, hfr, -⟩ := he
   rw [hres] at hfr
   obtain ⟨u, us', vs, rfl, hl, hsh, hnil⟩ := hfr
   simp only [Iak] at hnil
   subst hnil
   simp only [Mb6, if_false] at hsh
   subst hsh
   obtain ⟨u', us2, e2, hsc, -⟩ := hl
   obtain ⟨rfl, rfl⟩ := List.cons.inj e2
   simp only [kE] at hsc
   have hu : u = .bool true := by
    have : ([D.bool true].getD 0 .undef) = D.bool true := rfl
    rw [this] at hsc
    exact hsc.bool_inv
   subst hu
   exact ⟨rfl, hF.os, hF.tape, hF.output, hF.size, fun k hk => (hF.keep k hk (.inl rfl)).1⟩
  | panicked c => exact he.elim
  | outgrown => exact he.elim
 ·rw [fZ hfn hname hbody] at hr
  cases hr
theorem Vad {P : Program} {T : Nat -> Ent} {key : Nat} {s : Sig} {fn : Func} {c : Code} (hc : ∀ n, rP P T n key s) (hfn : P.funcs[s.fn]? = some fn) (hname : (fn.name == "runtime.NumGoroutine") = false) (hbody : fn.body = some c)
  {tys : List Ty} (hpar : mP P fn.params.toList = some (s.params, tys)) (hbx : s.boxes = []) (hres : s.results = [(false, [.sc])]) (hpure : ∀ ds, WTs tys ds -> ∃ n, iV T n key ds = some [.bool true])
  {H : Type} {enc : TypeId × Value -> H} {W : World} {base : Nat} {args : Array Value} {ds : List (DataW H)} {ps : List MemPlace}
  (hval : ∀ (j : Nat) t v, fn.params[j]? = some t -> args[j]? = some v -> Value.okWide P W .any base t v) (ht : DataW.TrodAll enc P W 0 (fun _ => true) true fn.params.toList args.toList ds ps)
  (hw : ∀ m ∈ DataW.weightsEach P fn.params.toList ds, m <= reachBytes) : Calls P s.fn args W fun e W' => e = .returned (.bool true) /\ Below W.heap.size W W' :=
 Sao (X := fun _ _ => True) (fun n vals w G ds ds' hp _ h => hc n vals w G ds ds' hp h) hfn hname hbody hpar hbx hres hpure hval ht hw trivial
open Go.ChangeShapes Go.RowKit in
theorem San {C : Checked} {spec : ChangeSpec} {T : Nat -> Ent} {key : Nat} {s : Sig} {fn : Func} {c : Code} {conds : List PathCond} (own : ownKnob C.prog.godebug = none) (laid : laidOutB C.prog = true) (hc : ∀ n, rP C.prog T n key s) (hfn : C.prog.funcs[s.fn]? = some fn) (hname : (fn.name == "runtime.NumGoroutine") = false) (hbody : fn.body = some c)
  {tys : List Ty} (hpar : mP C.prog fn.params.toList = some (s.params, tys)) (hbx : s.boxes = []) (hres : s.results = [(false, [.sc])]) (hpure : ∀ ds, WTs tys ds -> ∃ n, iV T n key ds = some [.bool true])
  (hread : (fn.params.toList.all fun t => C.prog.readableRec t && decide (t < C.prog.types.size)) = true) {rt : TypeId} (hrt : fn.resultTypes = #[rt]) (hrb : C.prog.underlying rt = some .bool)
  (hvars : spec.vars = []) (hspec : ∀ (H : Type) (ds : List (DataW H)), ds.length = fn.params.size -> spec.fn H ds = { results := [.lit (.bool true)], args := ds, vars := [] }) (hinit : C.prog.inits.idxOf? s.fn = none)
  (os : Os) (started : os.Started) (H : Type) (enc : TypeId × Value -> H)
  (witness : ∃ (w : World) (tape : Tape) (i : Input), w.os = os /\ (w.forCall tape i).Shaped C.prog /\ i.vars = [] /\ Input.okWide C.prog (w.forCall tape i) .any w.heap.size s.fn i /\
   spec.pre6 enc C.prog fn conds false (w.forCall tape i).memory i.args /\ ({} : Assume).holds C.prog (lone (Frame.enter C.prog s.fn i.args .normal) [] (w.forCall tape i))) :
  ReturnsInHanded {} C os s.fn .any (spec.pre6 enc C.prog fn conds false) (spec.post enc C.prog fn false true false false) := by
 refine returnsInHanded_of_change_sized own started hinit hfn witness ?_
 intro W base args ds gs before hval hW _ hsz _
 have hW' := hW
 obtain ⟨p, q, hA, hV, rfl, hfz, hnd⟩ := hW
 rw [hvars] at hV
 obtain ⟨rfl, rfl⟩ := trodVars_none hV
 have hvt : spec.plain.varTypes C.prog = [] := by
  simp [ChangeSpec.plain, DataSpec.varTypes, hvars]
 rw [hvt, Nbo, Nbo] at hsz
 have hlen : ∀ {ts : List TypeId} {vs : List Value} {ds : List (DataW H)} {ps : List MemPlace}, DataW.TrodAll enc C.prog W 0 (fun _ => true) true ts vs ds ps -> ds.length = ts.length := by
  intro ts
  induction ts with
  | nil =>
   intro vs ds ps h
   cases vs <;> cases ds <;> first | rfl | exact h.elim
  | cons t ts ih =>
   intro vs ds ps h
   cases vs <;> cases ds <;> first | exact h.elim | skip
   obtain ⟨p, q, -, h2, -⟩ := h
   simp [ih h2]
 have hl := hlen hA
 refine (Vad hc hfn hname hbody hpar hbx hres hpure hval hA (fun m hm => ?_)).mono fun e W' ⟨he, bel⟩ => ?_
 ·rw [Nbq] at hsz
  simpa using hsz m hm
 ·subst he
  have hsp := hspec H (ds ++ []) (by simpa using hl)
  refine ⟨_, rfl, ds, [], _, [], p, [], hW', ?_, ?_, ?_, bel.frame _, fun h => by cases h⟩
  ·rw [hsp, hrt]
   exact trodAll_mk1 (shut_bool hrb _)
  ·rw [hsp]
   simp only [Nbo]
   exact yF laid bel hread hA
  ·rw [hsp, hvars]
   rfl
end Go.Proofs.YtpgnlmfmlffjcaaGreat.Rf

namespace Go.Proofs.YtpgnlmfmlffjcaaGreat.Rf
set_option linter.unusedVariables false
set_option linter.unusedSimpArgs false
def jU : List (Nat × TI) -> Nat -> Option TI
 | [], _ => none
 | (k, i) :: r, t => bif Nat.beq k t then some i else jU r t
theorem Pa3 {P : Program} : ∀ {l : List (Nat × TI)}, (∀ p ∈ l, Gac P p.1 = some p.2) -> sP P (jU l)
 | [], _ => ⟨fun t i h => by cases h⟩
 | (k, i) :: r, h => ⟨fun t j ht => by
  simp only [jU] at ht
  cases hb : Nat.beq k t with
  | true =>
   rw [hb, cond_true] at ht
   simp only [Nbu] at hb
   subst hb
   rw [<- ht]
   exact h (k, i) Nbf
  | false =>
   rw [hb, cond_false] at ht
   exact (Pa3 fun p hp => h p (Mb8 _ hp)).ok t j ht⟩
def Ma7 : List (Nat × Ent) -> Nat -> Ent
 | [], _ => .none
 | (k, e) :: r, t => bif Nat.beq k t then e else Ma7 r t
theorem Qa3 {P : Program} {T : Nat -> Ent} {ti : Nat -> Option TI} {sigs : List (Nat × Sig)} (h : ∀ p ∈ sigs, Ram P T ti sigs p.1 p.2) : ∀ key s, (key, s) ∈ sigs -> Ram P T ti sigs key s := fun key s hm => h (key, s) hm
theorem Wab {P : Program} {T : Nat -> Ent} {E : Env} {key : Nat} {s : Sig} {fn : Func} {tm : Tm Unit} (h1 : P.funcs[s.fn]? = some fn) (h2 : (fn.name == "runtime.NumGoroutine") = false) (h3 : Ra2 E s fn = some tm) (h4 : T key = .tm tm) : Ram P T E.ti E.sigs key s :=
 .inl ⟨E, fn, tm, rfl, rfl, h1, h2, h3, h4⟩
theorem fnK {P : Program} {T : Nat -> Ent} {E : Env} {key : Nat} {s : Sig} {fn : Func} {tm : Tm Unit} (h1 : P.funcs[s.fn]? = some fn) (h : (fn.name == "runtime.NumGoroutine", Ra2 E s fn, T key) = (false, some tm, .tm tm)) : Ram P T E.ti E.sigs key s :=
 Wab h1 (congrArg (·.1) h) (congrArg (·.2.1) h) (congrArg (·.2.2) h)
theorem fc {α : Type} {p : α -> Prop} {a : α} {l : List α} (h : p a) (h' : ∀ x ∈ l, p x) : ∀ x ∈ a :: l, p x := List.forall_mem_cons.2 ⟨h, h'⟩
theorem fc0 {α : Type} {p : α -> Prop} : ∀ x ∈ ([] : List α), p x := List.forall_mem_nil _
theorem Bbu {T : Nat -> Ent} {key : Nat} {ds r : List D} (h : Fun T key ds = some r) : ∃ n, iV T n key ds = some r := Dar.1 h
def apL (e d : Nat) : Nat -> List Nat
 | 0 => []
 | n + 1 => (e - d * (n + 1)) :: apL e d n
end Go.Proofs.YtpgnlmfmlffjcaaGreat.Rf

namespace Go.Proofs.YtpgnlmfmlffjcaaGreat.Rf
set_option linter.unusedVariables false
set_option linter.unusedSimpArgs false
abbrev i64 (n : Int) : D := .int .i64 n
theorem wrap_i64 {n : Int} (h1 : -9223372036854775808 <= n) (h2 : n <= 9223372036854775807) : IntKind.i64.wrap n = n := IntWalk.i64_in n ⟨h1, h2⟩
section
variable {T : Nat -> Ent} {β : Type}
end
theorem Bbj {a b : Int} : (aO.bin .lss).run [i64 a, i64 b] = some [.bool (decide (a < b))] := by simp [aO.run, Kap, xL]
theorem Bbl {a b : Int} : (aO.bin .gtr).run [i64 a, i64 b] = some [.bool (decide (a > b))] := by simp [aO.run, Kap, xL]
theorem Bbk {a b : Int} : (aO.bin .leq).run [i64 a, i64 b] = some [.bool (decide (a <= b))] := by simp [aO.run, Kap, xL]
theorem Bbm {a b : Int} : (aO.bin .geq).run [i64 a, i64 b] = some [.bool (decide (a ≥ b))] := by simp [aO.run, Kap, xL]
theorem Bbi {a b : Int} : (aO.bin .neq).run [i64 a, i64 b] = some [.bool (!(a == b))] := by simp [aO.run, Kap, xL, bne]
theorem Bbn {a b : Int} : (aO.bin .eql).run [i64 a, i64 b] = some [.bool (a == b)] := by simp [aO.run, Kap, xL]
theorem Bbq {a b : Int} (h1 : -9223372036854775808 <= a + b) (h2 : a + b <= 9223372036854775807) : (aO.bin .add).run [i64 a, i64 b] = some [i64 (a + b)] := by simp [aO.run, Kap, xL, wrap_i64 h1 h2]
theorem Oan {a b : Int} (h1 : -9223372036854775808 <= a - b) (h2 : a - b <= 9223372036854775807) : (aO.bin .sub).run [i64 a, i64 b] = some [i64 (a - b)] := by simp [aO.run, Kap, xL, wrap_i64 h1 h2]
theorem Bbh {b : Bool} : aO.not.run [.bool b] = some [.bool (!b)] := rfl
theorem Bbo {a b : Bool} : (aO.eqb true).run [.bool a, .bool b] = some [.bool (!(a == b))] := rfl
section
variable {T : Nat -> Ent}
end
def upto {α : Type} (z : α) (ys : List α) (i : Nat) : List α := ys.take i ++ Nbg (ys.length - i) z
theorem Kat {α : Type} (z : α) (ys : List α) : upto z ys 0 = Nbg ys.length z := by simp [upto]
theorem Paz {α : Type} (z : α) (ys : List α) : upto z ys ys.length = ys := by simp [upto]
theorem Pay {α : Type} (z : α) (ys : List α) {i : Nat} (h : i <= ys.length) : (upto z ys i).length = ys.length := by simp [upto]; omega
theorem Pax {α : Type} (z : α) (ys : List α) {i : Nat} {y : α} (h : ys[i]? = some y) : (upto z ys i).set i y = upto z ys (i + 1) := by
 have hlt := (List.getElem?_eq_some_iff.1 h).1
 apply List.ext_getElem?
 intro j
 rw [List.getElem?_set]
 unfold upto
 rw [Mb2, Nbr, Obh]
 by_cases e : i = j
 ·subst e
  rw [if_pos rfl, if_pos (by omega), Nbi (by simp; omega), Nb8, if_pos (by omega)]
  exact h.symm
 ·rw [if_neg e]
  rcases Nbk j i with hj | hj
  ·rw [Nbi (by simp; omega), Nbi (by simp; omega), Nb8, Nb8, if_pos hj, if_pos (by omega)]
  ·rw [Nbh (by simp; omega), Nbh (by simp; omega), Ob1, Ob1]
   simp only [Nbr]
   by_cases h2 : j < ys.length
   ·rw [if_pos (by omega), if_pos (by omega)]
   ·rw [if_neg (by omega), if_neg (by omega)]
end Go.Proofs.YtpgnlmfmlffjcaaGreat.Rf

namespace Go.Proofs.YtpgnlmfmlffjcaaGreat.Rf
set_option linter.unusedVariables false
set_option linter.unusedSimpArgs false
section
variable {T : Nat -> Ent} {β : Type}
noncomputable def Er (T : Nat -> Ent) (t : Tm β) (ρ : List D) : Option (Kind × List D) := (Ev T t ρ).map fun o => (o.kind, o.vals)
def Lbk (r : Kind × List D) : Option (List D) := if r.1 = .ret then some r.2 else none
def Lbq {α : Type} (d : D) (a b : Option α) : Option α := match d with
 | .bool true => a
 | .bool false => b
 | _ => none
def gdR (d : D) (w : Bool) : Bool := match d with
 | .bool b => b == w
 | _ => false
theorem Ibw {f : Nat} {t : Tm Unit} (h : T f = .tm t) (args : List D) : Fun T f args = (Er T t args).bind Lbk := by
 rw [Eb1 h, Er]
 cases Ev T t args <;> rfl
theorem Cb8 (k : Kind) (xs : List aJ) (e : β) (ρ : List D) : Er T (.leaf k xs e) ρ = some (k, xs.map (·.val ρ)) := by
 rw [Er, Cb6]; rfl
noncomputable def stepT (T : Nat -> Ent) (k : Tm β) (ρ : List D) (n : Nat) (a : Option (List D)) : Option (Kind × List D) := a.bind fun ds => if ds.length = n then Er T k (ρ ++ ds) else none
noncomputable def Ibm (T : Nat -> Ent) (t e : Tm β) (ρ : List D) (c : D) : Option (Kind × List D) := Lbq c (Er T t ρ) (Er T e ρ)
noncomputable def ltT (T : Nat -> Ent) (p : aO) (xs : List aJ) (n : Nat) (k : Tm β) (ρ : List D) (w : Bool) (c : D) : Option (Kind × List D) :=
 if gdR c w = true then stepT T k ρ n (p.run (xs.map (·.val ρ))) else Er T k (ρ ++ Nbg n .undef)
noncomputable def Cbt (T : Nat -> Ent) (f : Nat) (xs : List aJ) (n : Nat) (os : List aJ) (k : Tm β) (ρ : List D) (w : Bool) (c : D) : Option (Kind × List D) :=
 if gdR c w = true then stepT T k ρ n (Fun T f (xs.map (·.val ρ))) else Er T k (ρ ++ (Nbg (n - os.length) .undef ++ os.map (·.val ρ)))
theorem Eb8 (p : aO) (xs : List aJ) (n : Nat) (k : Tm β) (ρ : List D) : Er T (.lt none p xs n k) ρ = stepT T k ρ n (p.run (xs.map (·.val ρ))) := by
 rw [Er, Eb5, stepT]
 simp only [gOn, if_true]
 cases p.run (xs.map (·.val ρ)) with
 | none => rfl
 | some ds =>
  simp only [Mb3]
  split <;> rfl
theorem Eb7 (a : aJ) (w : Bool) (p : aO) (xs : List aJ) (n : Nat) (k : Tm β) (ρ : List D) : Er T (.lt (some (a, w)) p xs n k) ρ = ltT T p xs n k ρ w (a.val ρ) := by
 rw [Er, Eb5, ltT, stepT]
 have : gOn ρ (some (a, w)) = gdR (a.val ρ) w := rfl
 rw [this]
 cases gdR (a.val ρ) w with
 | false => rfl
 | true =>
  simp only [if_true]
  cases p.run (xs.map (·.val ρ)) with
  | none => rfl
  | some ds =>
   simp only [Mb3]
   split <;> rfl
theorem Abd (f : Nat) (xs : List aJ) (n : Nat) (os : List aJ) (k : Tm β) (ρ : List D) : Er T (.call none f xs n os k) ρ = stepT T k ρ n (Fun T f (xs.map (·.val ρ))) := by
 rw [Er, Xan, stepT]
 simp only [gOn, if_true]
 cases Fun T f (xs.map (·.val ρ)) with
 | none => rfl
 | some ds =>
  simp only [Mb3]
  split <;> rfl
theorem Abc (a : aJ) (w : Bool) (f : Nat) (xs : List aJ) (n : Nat) (os : List aJ) (k : Tm β) (ρ : List D) : Er T (.call (some (a, w)) f xs n os k) ρ = Cbt T f xs n os k ρ w (a.val ρ) := by
 rw [Er, Xan, Cbt, stepT]
 have : gOn ρ (some (a, w)) = gdR (a.val ρ) w := rfl
 rw [this]
 cases gdR (a.val ρ) w with
 | false => rfl
 | true =>
  simp only [if_true]
  cases Fun T f (xs.map (·.val ρ)) with
  | none => rfl
  | some ds =>
   simp only [Mb3]
   split <;> rfl
theorem Eb9 (c : aJ) (t e : Tm β) (ρ : List D) : Er T (.ite c t e) ρ = Ibm T t e ρ (c.val ρ) := by
 rw [Er, Eb6, Ibm]
 cases c.val ρ with
 | bool b => cases b <;> rfl
 | _ => rfl
noncomputable def lM (T : Nat -> Ent) (i : Nat) (k : Tm β) (ρ : List D) (r : Option (Kind × List D)) : Option (Kind × List D) := r.bind fun r => if r.1 = .yield i then Er T k (ρ ++ r.2) else some r
theorem Rar {i : Nat} {k : Tm β} {ρ ds : List D} : lM T i k ρ (some (.yield i, ds)) = Er T k (ρ ++ ds) := by simp [lM]
theorem Tay {i : Nat} {k : Tm β} {ρ ds : List D} : lM T i k ρ (some (.ret, ds)) = some (.ret, ds) := by simp [lM]
theorem Rat {i : Nat} {k : Tm β} {ρ ds : List D} : lM T i k ρ (some (.cont, ds)) = some (.cont, ds) := by simp [lM]
theorem Xa8 {i j : Nat} {k : Tm β} {ρ ds : List D} (h : j ≠ i) : lM T i k ρ (some (.yield j, ds)) = some (.yield j, ds) := by simp [lM, h]
theorem Cb9 (i : Nat) (t k : Tm β) (ρ : List D) : Er T (.bind i t k) ρ = lM T i k ρ (Er T t ρ) := by
 rw [Er, Cb7, lM, Er]
 cases Ev T t ρ with
 | none => rfl
 | some o =>
  simp only [Mb3, Nb3]
  split <;> rfl
theorem Abm {t : Tm β} {ρ : List D} {k : Kind} {ds : List D} (h : Er T t ρ = some (k, ds)) : ∃ o, Ev T t ρ = some o /\ o.kind = k /\ o.vals = ds := by
 unfold Er at h
 cases e : Ev T t ρ with
 | none => rw [e] at h; cases h
 | some o =>
  rw [e, Nb3] at h
  have := Option.some.inj h
  exact ⟨o, rfl, congrArg Prod.fst this, congrArg Prod.snd this⟩
theorem La7 {γ : Type} {body : Tm β} {ρ : List D} (m : γ -> Nat) (inv : γ -> Prop) (vs : γ -> List D) (Q : Kind × List D -> Prop)
  (h : ∀ c, inv c -> ∃ r, Er T body (ρ ++ vs c) = some r /\ (r.1 = .cont /\ (∃ c', inv c' /\ m c' < m c /\ r.2 = vs c') \/ r.1 ≠ .cont /\ Q r)) :
  ∀ (n : Nat) c, m c <= n -> inv c -> ∀ xs : List aJ, xs.map (·.val ρ) = vs c -> ∃ r, Er T (.loop xs body) ρ = some r /\ Q r := by
 have key : ∀ (n : Nat) c, m c <= n -> inv c -> ∃ o, Lp T body ρ (vs c) = some o /\ Q (o.kind, o.vals) := by
  intro n
  induction n with
  | zero =>
   intro c hm hc
   obtain ⟨⟨k, ds⟩, h1, h2⟩ := h c hc
   obtain ⟨o, h3, rfl, rfl⟩ := Abm h1
   rcases h2 with ⟨-, c', -, h5, -⟩ | ⟨h4, h5⟩
   ·omega
   ·exact ⟨o, by rw [Cb4, h3, Mb3, if_neg h4], h5⟩
  | succ n ih =>
   intro c hm hc
   obtain ⟨⟨k, ds⟩, h1, h2⟩ := h c hc
   obtain ⟨o, h3, rfl, rfl⟩ := Abm h1
   rcases h2 with ⟨h4, c', h5, h6, h7⟩ | ⟨h4, h5⟩
   ·obtain ⟨o', h8, h9⟩ := ih c' (by omega) h5
    refine ⟨o', ?_, h9⟩
    rw [Cb4, h3, Mb3, if_pos h4]
    show Lp T body ρ o.vals = _
    rw [show o.vals = vs c' from h7, h8]
   ·exact ⟨o, by rw [Cb4, h3, Mb3, if_neg h4], h5⟩
 intro n c hm hc xs hx
 obtain ⟨o, h1, h2⟩ := key n c hm hc
 exact ⟨_, by rw [Er, Cb5, hx, h1, Nb3], h2⟩
end
end Go.Proofs.YtpgnlmfmlffjcaaGreat.Rf

namespace Go.Proofs.YtpgnlmfmlffjcaaGreat.Rf
set_option linter.unusedVariables false
set_option linter.unusedSimpArgs false
def Xaf (ok : Nat -> Bool) : Nat -> Bool
 | 0 => true
 | n + 1 => Xaf ok n && ok n
theorem nI {ok : Nat -> Bool} : ∀ {n : Nat}, Xaf ok n = true ↔ ∀ i, i < n -> ok i = true
 | 0 => by simp [Xaf]
 | n + 1 => by
  simp only [Xaf, Mby, nI (n := n)]
  constructor
  ·rintro ⟨h1, h2⟩ i hi
   rcases Nbk i n with h | h
   ·exact h1 i h
   ·obtain rfl : i = n := by omega
    exact h2
  ·exact fun h => ⟨fun i hi => h i (by omega), h n (by omega)⟩
theorem Iah {ok : Nat -> Bool} {n : Nat} : Xaf ok n = false ↔ ∃ i, i < n /\ ok i = false := by
 constructor
 ·intro h
  apply Classical.byContradiction
  intro hn
  have : Xaf ok n = true := nI.2 fun i hi => by
   cases e : ok i with
   | true => rfl
   | false => exact absurd ⟨i, hi, e⟩ hn
  rw [this] at h; cases h
 ·rintro ⟨i, hi, h⟩
  cases e : Xaf ok n with
  | false => rfl
  | true => rw [nI.1 e i hi] at h; cases h
section
variable {T : Nat -> Ent} {β : Type}
end
theorem Ebc {d : D} : aO.id.run [d] = some [d] := rfl
def inR (x lo hi : Int) : Bool := decide (lo <= x) && decide (x <= hi)
end Go.Proofs.YtpgnlmfmlffjcaaGreat.Rf
