/- Terms for the program's functions, and that they are right: part 8 of 9. -/
import Derived.Test.YtpgnlmfmlffjcaaGreatRf7
import Derived.Shelf.SlicesE.Clone
import Derived.Laws.CopyOwn
import Derived.LoopN
import Derived.WalkKit
import Derived.RegionTactic
import Derived.ChangeAlike
import Derived.Lib.Bytealg
import Derived.Lib.SplitLaws
import Derived.LaidLaws
import Derived.Lay
import Derived.Shelf.Strings.OnBuilder
import Derived.Shelf.Strconv.Itoa3
import Derived.Lib.AppendIntMem
import Derived.Lib.LaidTab
import Derived.Shelf.Lay
import Derived.Shelf.SlSortCmp.NoneTotal
import Derived.Shelf.SlicesE.Delete
set_option linter.unusedSimpArgs false
set_option linter.unusedVariables false
set_option linter.unnecessarySimpa false
set_option linter.unusedSectionVars false
namespace Go.Proofs.YtpgnlmfmlffjcaaGreat.Rf
set_option linter.unusedVariables false
set_option linter.unusedSimpArgs false
open Go.Proofs Go.Shelf Go.RowKit Go.Lib
section
variable {P : Program} {ρ : Ren}
set_option maxHeartbeats 2000000 in
set_option maxRecDepth 100000 in
theorem clone_empty (L : SlLaysE0.n41 P ρ) (i0 : TypeInfo) (z : Value) (size bytes : Nat) (hi : P.info? (ρ.t 23) = some i0) (hz0 : i0.zero = some z) (hz1 : i0.size = size) (hz2 : i0.bytes = bytes) (hzs : z.cells.size = size) (hsz : 0 < size)
  (z23 : ∀ w, (Go.sizeOf (ρ.t 23)).run P w = .ok size w) (a : Addr) (c : Nat) (w : World) :
  Calls P (ρ.f 41) #[.slice (some a) 0 c] w fun e w' => ∃ v', e = .returned v' /\ w'.ownsRow w.heap.size (ρ.t 23) size v' 0 [] /\ Below w.heap.size w w' := by
 have mixed := L.mixed; have t4 := L.t4; have a4 := L.a4; have z4 := L.z4; have v4 := L.v4; have t22 := L.t22; have a22 := L.a22; have z22 := L.z22; have v22 := L.v22
 have q22 : ∀ (w : World) (a : Option Addr) (n c n' c' : Nat), (binOp .eql (ρ.t 22) (.slice a n c) (.slice none n' c')).run P w = .ok (.bool a.isNone) w := fun w a n c n' c' => Lib.run_eql_slice_nil w _ _ a n c n' c' L.t22
 have u22 : ∀ w, Sem.run P (underlying (ρ.t 22)) w = .ok (TypeDesc.slice (ρ.t 23)) w := run_underlying t22
 obtain ⟨_, _, FG⟩ := L.f41
 go_enter FG, SlBodyN.n41_ntmps ρ
 go_wp2_with (at_builtin; refine wpList_append_own _ rfl _ _ (ρ.t 22) rfl w.heap.size (ρ.t 23) i0 z size bytes t22 hi hz0 hz1 hz2 hzs hsz _ _ _ rfl (World.ownsRow_made w #[] 0 (Nat.le_refl _) (Nat.zero_le _) (by simp)) a 0 c [] rfl ?qc1 ?qc2 ?qc3 ?qc4 ?qc5 ?qc6 ?_)
 case qc1 => simp
 case qc2 => intro j u hj; simp at hj
 case qc3 => intro u hu; cases hu
 case qc4 => exact Nat.zero_le _
 case qc5 => simp
 case qc6 => simp
 intro v' w1 hown hgrow hnil
 go_wp2
 go_ret
 exact ⟨v', rfl, by simpa using hown, ((Below.refl _ w).alloc (Nat.le_refl _) _).grown hgrow (by simp) (by intro k hk; simp [Value.ownBlock] at hk; omega)⟩
theorem frameOk_refl {s : Sig} {G : Gh} {w : World} {vals : List Value} {ds : List D} (h : CPre s vals w G ds) (hb : s.boxes = []) : FrameOk (callF s G w) G w :=
 ⟨rfl, rfl, rfl, Nat.le_refl _, fun b _ _ => ⟨rfl, rfl⟩, fun b j hj he => by
  obtain ⟨h1, -⟩ := h.cells b j hj he
  rw [hb] at h1
  exact absurd h1 (Nat.not_lt_zero _), h.fresh⟩
theorem frameOk_below {s : Sig} {G : Gh} {w w' : World} {vals : List Value} {ds : List D} {own' : Nat -> Ow} (h : CPre s vals w G ds) (hb : s.boxes = []) (hbel : Below w.heap.size w w') (h1 : ∀ b, b < w.heap.size -> own' b = G.own b) (h2 : ∀ b, w'.heap.size <= b -> own' b = .frz) :
  FrameOk (callF s G w) { G with own := own' } w' :=
 ⟨hbel.os, hbel.tape, hbel.output, hbel.size, fun b hlt _ => ⟨hbel.block b hlt, h1 b hlt⟩, fun b j hj he => by
  obtain ⟨h1, -⟩ := h.cells b j hj he
  rw [hb] at h1
  exact absurd h1 (Nat.not_lt_zero _), h2⟩
theorem clone_ok (L : SlLaysE0.n41 P ρ) {i0 : TypeInfo} {z : Value} {size bytes m key : Nat} {T1 : Nat -> Ent} (hi : P.info? (ρ.t 23) = some i0) (hz0 : i0.zero = some z) (hz1 : i0.size = size) (hz2 : i0.bytes = bytes) (hzs : z.cells.size = size) (hsz : 0 < size)
  (z23 : ∀ w, (Go.sizeOf (ρ.t 23)).run P w = .ok size w) (hK : ∀ n, Contract P T1 n key ⟨ρ.f 41, [(false, [.fz false])], [], [(false, [.ow (m + 1)])]⟩) :
  ExtOk P ⟨ρ.f 41, [(false, [.fz false])], [], [(false, [.ow (m + 1)])]⟩ (fun ds => match ds with
   | [.rows _ []] => some [.rows size []]
   | ds => Fun T1 key ds) := by
 intro vals w G ds ds' hpre he
 by_cases hds : ∃ sz, ds = [.rows sz []]
 ·obtain ⟨sz, rfl⟩ := hds
  simp only [Option.some.injEq] at he
  subst he
  obtain ⟨u, us, vs, rfl, ⟨v, vs', rfl, ⟨hrd, -⟩, rfl⟩, hsh, hnil⟩ := hpre.params
  simp only [Bool.false_eq_true, if_false] at hsh
  obtain rfl : v = u := by simpa using hsh
  simp only [EntParams] at hnil
  subst hnil
  have hrd' : Rd (fun b => G.own b = .frz) w v (.rows sz []) := hrd
  obtain ⟨A, a, n, c, vs, rfl, hn, hc, -, -⟩ := hrd'.inv
  obtain rfl : n = 0 := hn.symm
  obtain ⟨nm, hnm, hfn⟩ := L.f41
  refine .inl ⟨run_callFunc hfn hnm rfl _ _, ?_⟩
  cases A with
  | none =>
   refine Calls.mono (AnyE.slices_Clone_nil L 0 c w) fun e w' ⟨h1, h2⟩ => ?_
   subst h1; subst h2
   refine ⟨G, [.slice none 0 0], rfl, frameOk_refl hpre rfl, ⟨_, _, _, rfl, ⟨_, _, rfl, ?_, rfl⟩, rfl, rfl⟩, trivial, trivial⟩
   exact .sl none ⟨0, 0, none⟩ 0 0 _ [] (fun _ _ => undef) rfl (Nat.le_refl _) (.inr ⟨rfl, rfl⟩) (by simp) (fun e => by cases e) (by simp) (by simp)
  | some a' =>
   refine Calls.mono (clone_empty L i0 z size bytes hi hz0 hz1 hz2 hzs hsz z23 a' c w) fun e w' ⟨v', h1, h2, h3⟩ => ?_
   subst h1
   rcases h2.2 with ⟨rfl, -⟩ | ⟨g, cap, cur, rfl, hg, hcell, -, -, hcur, -⟩
   ·refine ⟨{ G with own := G.own }, [.slice none 0 0], rfl, frameOk_below hpre rfl h3 (fun _ _ => rfl) (fun b hb => hpre.fresh b (Nat.le_trans h3.size hb)), ⟨_, _, _, rfl, ⟨_, _, rfl, ?_, rfl⟩, rfl, rfl⟩, trivial, trivial⟩
    exact .sl none ⟨0, 0, none⟩ 0 0 _ [] (fun _ _ => undef) rfl (Nat.le_refl _) (.inr ⟨rfl, rfl⟩) (by simp) (fun e => by cases e) (by simp) (by simp)
   ·have hlt : g < w'.heap.size := (Array.getElem?_eq_some_iff.1 hcell).1
    refine ⟨{ G with own := fun b => if b = g then .slc 0 [] else G.own b }, [.slice (some ⟨g, 0, none⟩) 0 cap], rfl, frameOk_below hpre rfl h3 (fun b hb => if_neg (by omega)) (fun b hb => ?_), ⟨_, _, _, rfl, ⟨_, _, rfl, ?_, rfl⟩, rfl, rfl⟩, trivial, trivial⟩
    ·show (if b = g then _ else _) = _
     rw [if_neg (by omega)]
     exact hpre.fresh b (Nat.le_trans h3.size hb)
    ·refine .sl (some ⟨g, 0, none⟩) ⟨g, 0, none⟩ 0 cap _ [] (fun _ _ => undef) rfl (Nat.zero_le _) (.inl rfl) (by simp) (fun _ => ⟨rfl, if_pos rfl, fun k hk => ?_⟩) (by simp) (by simp)
     have hk' : k < cur.size := by omega
     refine ⟨cur[k], ?_, ?_⟩
     ·have hb : ((⟨g, 0, none⟩ : Addr).add k).block = g := add_block _ _
      have ho : ((⟨g, 0, none⟩ : Addr).add k) = ⟨g, k, none⟩ := by unfold Addr.add; split <;> simp_all
      rw [ho]
      simp [World.cell?, hcell, hk']
     ·have ho : ((⟨g, 0, none⟩ : Addr).add k) = ⟨g, k, none⟩ := by unfold Addr.add; split <;> simp_all
      rw [ho]
      simp [World.frozen?, hcell]
 ·have he' : Fun T1 key ds = some ds' := by
   dsimp only at he
   split at he
   ·rename_i sz
    exact absurd ⟨sz, rfl⟩ hds
   ·exact he
  obtain ⟨n, hn⟩ := Fun_some.1 he'
  exact hK n vals w G ds ds' hpre hn
def cloneSize (P : Program) (t : TypeId) : Option Nat := match P.info? t with
 | some i => match i.zero with
  | some z => if z.cells.size = i.size /\ 0 < i.size then some i.size else none
  | none => none
 | none => none
noncomputable def cloneE (size : Nat) (T1 : Nat -> Ent) (key : Nat) : List D -> Option (List D) := fun ds => match ds with
 | [.rows _ []] => some [.rows size []]
 | ds => Fun T1 key ds
theorem clone_ent (L : SlLaysE0.n41 P ρ) {size m key f : Nat} {T T1 : Nat -> Ent} {ti : Nat -> Option TI} {sigs : List (Nat × Sig)} (hf : ρ.f 41 = f) (h : cloneSize P (ρ.t 23) = some size) (z23 : ∀ w, (Go.sizeOf (ρ.t 23)).run P w = .ok size w)
  (hK : ∀ n, Contract P T1 n key ⟨f, [(false, [.fz false])], [], [(false, [.ow (m + 1)])]⟩) (hT : T key = .ext (cloneE size T1 key)) :
  FnOk P T ti sigs key ⟨f, [(false, [.fz false])], [], [(false, [.ow (m + 1)])]⟩ := by
 subst hf
 unfold cloneSize at h
 split at h
 ·rename_i i hi
  split at h
  ·rename_i z hz
   split at h
   ·rename_i h1
    cases h
    exact .inr ⟨_, hT, clone_ok L hi hz rfl rfl h1.1 h1.2 z23 hK⟩
   ·cases h
  ·cases h
 ·cases h
end
end Go.Proofs.YtpgnlmfmlffjcaaGreat.Rf

namespace Go.Proofs.YtpgnlmfmlffjcaaGreat.Rf
set_option linter.unusedVariables false
set_option linter.unusedSimpArgs false
open Go.RowKit
section
variable {P : Program}
end
end Go.Proofs.YtpgnlmfmlffjcaaGreat.Rf

namespace Go.Proofs.YtpgnlmfmlffjcaaGreat.Rf
set_option linter.unusedVariables false
set_option linter.unusedSimpArgs false
section
variable {P : Program}
end
end Go.Proofs.YtpgnlmfmlffjcaaGreat.Rf

namespace Go.Proofs.YtpgnlmfmlffjcaaGreat.Rf
set_option linter.unusedVariables false
set_option linter.unusedSimpArgs false
end Go.Proofs.YtpgnlmfmlffjcaaGreat.Rf

namespace Go.Proofs.YtpgnlmfmlffjcaaGreat.Rf
set_option linter.unusedVariables false
set_option linter.unusedSimpArgs false
open Go.Proofs Go.Shelf Go.RowKit Go.Lib
section
variable {P : Program} {ρ : Ren}
end
end Go.Proofs.YtpgnlmfmlffjcaaGreat.Rf

namespace Go.Proofs.YtpgnlmfmlffjcaaGreat.Rf
set_option linter.unusedVariables false
set_option linter.unusedSimpArgs false
def ltQ (p q : Int × Int) : Bool := decide (p.1 < q.1) || (p.1 == q.1 && decide (p.2 < q.2))
theorem ltQ_iff {p q : Int × Int} : ltQ p q = true ↔ p.1 < q.1 \/ (p.1 = q.1 /\ p.2 < q.2) := by
 unfold ltQ
 simp only [Bool.or_eq_true, Bool.and_eq_true, decide_eq_true_eq, beq_iff_eq]
theorem ltQ_false {p q : Int × Int} : ltQ p q = false ↔ q.1 < p.1 \/ (p.1 = q.1 /\ q.2 <= p.2) := by
 rw [<- Bool.not_eq_true, ltQ_iff]
 omega
theorem ltQ_anti {p q : Int × Int} (h : ltQ p q = false) (h' : ltQ q p = false) : p = q := by
 rw [ltQ_false] at h h'
 apply Prod.ext <;> omega
def insQ {β : Type} (k : β -> Int × Int) (x : β) : List β -> List β
 | [] => [x]
 | y :: r => if ltQ (k x) (k y) then x :: y :: r else y :: insQ k x r
def sortQ {β : Type} (k : β -> Int × Int) : List β -> List β
 | [] => []
 | x :: r => insQ k x (sortQ k r)
theorem insQ_perm {β : Type} (k : β -> Int × Int) (x : β) : ∀ l : List β, (insQ k x l).Perm (x :: l)
 | [] => .refl _
 | y :: r => by
  unfold insQ
  split
  ·exact .refl _
  ·exact ((insQ_perm k x r).cons y).trans (.swap x y r)
theorem sortQ_perm {β : Type} (k : β -> Int × Int) : ∀ l : List β, (sortQ k l).Perm l
 | [] => .refl _
 | x :: r => (insQ_perm k x _).trans ((sortQ_perm k r).cons x)
def SortedQ {β : Type} (k : β -> Int × Int) (l : List β) : Prop := l.Pairwise fun x y => ltQ (k y) (k x) = false
theorem insQ_sorted {β : Type} (k : β -> Int × Int) (x : β) : ∀ {l : List β}, SortedQ k l -> SortedQ k (insQ k x l)
 | [], _ => by unfold insQ SortedQ; simp
 | y :: r, h => by
  obtain ⟨h1, h2⟩ := List.pairwise_cons.1 h
  unfold insQ
  split
  ·rename_i hx
   refine List.pairwise_cons.2 ⟨fun z hz => ?_, h⟩
   rw [ltQ_iff] at hx
   rcases List.mem_cons.1 hz with rfl | hz
   ·rw [ltQ_false]; omega
   ·have := h1 z hz
    rw [ltQ_false] at this ⊢
    omega
  ·rename_i hx
   refine List.pairwise_cons.2 ⟨fun z hz => ?_, insQ_sorted k x h2⟩
   rcases List.mem_cons.1 ((insQ_perm k x r).mem_iff.1 hz) with rfl | hz
   ·simpa using hx
   ·exact h1 z hz
theorem sortQ_sorted {β : Type} (k : β -> Int × Int) : ∀ l : List β, SortedQ k (sortQ k l)
 | [] => List.Pairwise.nil
 | x :: r => insQ_sorted k x (sortQ_sorted k r)
theorem sortQ_unique {β : Type} (k : β -> Int × Int) {l l' : List β} (hp : l'.Perm l) (hs : SortedQ k l') (hi : ∀ x ∈ l, ∀ y ∈ l, k x = k y -> x = y) : l' = sortQ k l :=
 List.Perm.eq_of_pairwise (le := fun x y => ltQ (k y) (k x) = false) (fun a b ha hb h1 h2 => hi a (hp.mem_iff.1 ha) b ((sortQ_perm k l).mem_iff.1 hb) (ltQ_anti h2 h1)) hs (sortQ_sorted k l) (hp.trans (sortQ_perm k l).symm)
def cmpQ (p q : Int × Int) : Int := if ltQ p q then -1 else if ltQ q p then 1 else 0
theorem cmpQ_lt {p q : Int × Int} : decide (cmpQ p q < 0) = ltQ p q := by
 unfold cmpQ
 cases h : ltQ p q with
 | true => rfl
 | false =>
  simp only [Bool.false_eq_true, if_false]
  split <;> rfl
def pairD (p : Int × Int) : D := .rows 1 [[.int .i64 p.1], [.int .i64 p.2]]
def pairsD : List (List D) -> Option (List (Int × Int))
 | [] => some []
 | [.rows 1 [[.int .i64 a], [.int .i64 b]]] :: r => (pairsD r).map ((a, b) :: ·)
 | _ => none
theorem pairsD_inv : ∀ {rs : List (List D)} {l : List (Int × Int)}, pairsD rs = some l -> rs = l.map fun p => [pairD p]
 | [], l, h => by obtain rfl := Option.some.inj h; rfl
 | r :: rs, l, h => by
  unfold pairsD at h
  split at h
  ·rename_i he; cases he
  ·rename_i a b r' he
   obtain ⟨rfl, rfl⟩ := List.cons.inj he
   rw [Option.map_eq_some_iff] at h
   obtain ⟨l', h1, rfl⟩ := h
   rw [pairsD_inv h1]
   rfl
  ·cases h
theorem pairsD_map : ∀ l : List (Int × Int), pairsD (l.map fun p => [pairD p]) = some l
 | [] => rfl
 | p :: r => by
  show (pairsD (r.map fun p => [pairD p])).map ((p.1, p.2) :: ·) = _
  rw [pairsD_map r]
  rfl
def sortBound : Nat := 1000000
def sortPE : List D -> Option (List D)
 | [.rows 1 rs] => (pairsD rs).bind fun l => if l.length <= sortBound then some [.rows 1 ((sortQ id l).map fun p => [pairD p])] else none
 | _ => none
section
open Go.Proofs Go.Shelf Go.Sort
variable {P : Program} {ρ : Ren} {own : Nat -> Ow} {w : World}
theorem Rp.zero1 {r : Nat} {p : List Nat} {v : Value} {d : D} (h : Rp own w r p 0 v d) : Rd (fun b => own b = .frz) w v d := by
 cases h with
 | sc h => exact .sc h
 | hole v h1 => exact .hole v h1
 | fz h => exact h
theorem finBoxes_ro {ds : List D} {bx : Nat -> Addr} : ∀ {b i q : Nat} {bs : List (Bool × List (BS × BO))}, (bs.all (·.1)) = true -> FinBoxes own w ds bx b i q bs
 | b, i, q, [], _ => trivial
 | b, i, q, (ro, cs) :: bs, h => by
  simp only [List.all_cons, Bool.and_eq_true] at h
  simp only [FinBoxes]
  rw [if_pos h.1]
  exact finBoxes_ro h.2
theorem sw_heap {α : Type} [Inhabited α] (enc : α -> Value) (blk off m : Nat) (dk : Array α) (os : Array Obj) {b : Nat} (hb : b < w.heap.size) (hne : b ≠ blk) : (sortWorld enc w blk off m dk os).heap[b]? = w.heap[b]? := by
 unfold sortWorld
 rw [heap_grow_old _ _ (by simpa using hb)]
 simp [putRow, mapBlock, Array.getElem?_modify, Ne.symm hne]
theorem sw_size {α : Type} [Inhabited α] (enc : α -> Value) (blk off m : Nat) (dk : Array α) (os : Array Obj) : w.heap.size <= (sortWorld enc w blk off m dk os).heap.size := by
 unfold sortWorld
 rw [size_grow]
 simp
theorem pair_ix {α : Type} {lt : α -> α -> Prop} : ∀ {l : List α}, (∀ i j (hi : i < l.length) (hj : j < l.length), i < j -> lt l[i] l[j]) -> l.Pairwise lt := fun h => List.pairwise_iff_getElem.2 fun i j hi hj hij => h i j hi hj hij
theorem addr_lit {a : Addr} (h : a.spot = none) (k : Nat) : a.add k = ⟨a.block, a.off + k, none⟩ := by
 cases a with
 | mk b o s =>
  obtain rfl : s = none := h
  unfold Addr.add
  split
  ·rename_i h0; subst h0; rfl
  ·rfl
theorem sort_core (L : SlLaysF.n6 P ρ) {α β : Type} [Inhabited α] (enc : α -> Value) (b : α -> β) (datβ : β -> D) (kβ : β -> Int × Int) (cf : α -> α -> Int) (hcf : ∀ x y, ltOf cf x y = ltQ (kβ (b x)) (kβ (b y)))
  {g : Nat} {cs : List LS} {bxs : List (Bool × List (BS × BO))} {vals : List Value} {G : Gh} {ds : List D} (hpre : CPre ⟨ρ.f 6, [(false, [.mu 1]), (false, [.clo g cs])], bxs, []⟩ vals w G ds)
  (hro : (bxs.all (·.1)) = true) (eg : ∀ args w, (callFunc g args).run P w = .ok (.enter g args) w)
  {v : Value} (hv : v = G.hdr 0) (cb : List Value) (hvals : vals = [v, .func (.func g) #[] cb.toArray])
  (hcmp : ∀ blk off size, G.own blk = .slc 0 [] -> CmpLays1 P g cb.toArray enc cf blk off size w) (hdat : ∀ x, Rd (fun b => G.own b = .frz) w (enc x) (datβ (b x)))
  {a : Addr} {n c : Nat} (ev : v = .slice (some a) n c) (hspot : a.spot = none) (hown : G.own a.block = .slc 0 []) (hcells : ∀ k, k < c -> ∃ u, w.cell? (a.add k) = some u /\ w.frozen? (a.add k) = false)
  (hnc : n <= c) (hn : n <= sortBound) (hpos : 0 < n) (xs : List α) (hxl : xs.length = n) (hxs : ∀ i x, xs[i]? = some x -> w.cell? (a.add i) = some (enc x)) (hinj : ∀ x ∈ xs.map b, ∀ y ∈ xs.map b, kβ x = kβ y -> x = y) :
  Calls P (ρ.f 6) vals.toArray w fun e w' => ∃ u, e = .returned u /\ CPost ⟨ρ.f 6, [(false, [.mu 1]), (false, [.clo g cs])], bxs, []⟩ (callF ⟨ρ.f 6, [(false, [.mu 1]), (false, [.clo g cs])], bxs, []⟩ G w) G.bx u w' [.rows 1 ((sortQ kβ (xs.map b)).map fun p => [datβ p])] := by
 have hadd := addr_lit hspot
 have h1 : OneCell enc := fun x => (hdat x).one
 have hblk : a.block < w.heap.size := by
  obtain ⟨u, hu, -⟩ := hcells 0 (by omega)
  have := cell_lt hu
  rwa [add_block] at this
 have hsz : xs.toArray.size = n := by simpa using hxl
 have hH : Holds enc w a.block a.off xs.toArray := by
  intro j hj
  rw [hsz] at hj
  have hjx : j < xs.length := by omega
  have hx := hxs j xs[j] (by rw [List.getElem?_eq_getElem hjx])
  obtain ⟨u, hu, hf⟩ := hcells j (by omega)
  rw [hadd] at hx hf
  refine ⟨?_, hf⟩
  rw [hx, getElem!_pos xs.toArray j (by simpa using hjx)]
  simp
 have hO : SWO (ltOf cf) := by
  refine ⟨fun x => ?_, fun x y z h h' => ?_, fun x y z h h' => ?_⟩
  ·rw [hcf, ltQ_false]; omega
  ·rw [hcf, ltQ_iff] at *; omega
  ·rw [hcf, ltQ_false] at *; omega
 have hS := Any.slices_SortFunc L enc h1 cf hO g cb.toArray a.block a.off c xs.toArray w eg (hcmp _ _ _ hown) hH hblk (by rw [hsz]; unfold sortBound at hn; omega)
 have ea : (⟨a.block, a.off, none⟩ : Addr) = a := by
  cases a with
  | mk b o s =>
   obtain rfl : s = none := hspot
   rfl
 rw [hsz, ea, <- ev] at hS
 rw [hvals]
 refine hS.mono ?_
 rintro e w' ⟨rfl, d', m, os, hP, hSo, rfl⟩
 refine ⟨_, rfl, ?_⟩
 obtain ⟨hds, -, hperm⟩ := hP
 rw [hsz] at hds
 have e1 : d'.extract 0 n = d' := by rw [<- hds]; exact Array.extract_size
 have e2 : xs.toArray.extract 0 n = xs.toArray := by rw [<- hsz]; exact Array.extract_size
 rw [e1, e2] at hperm
 have hsorted : d'.toList.map b = sortQ kβ (xs.map b) := by
  refine sortQ_unique kβ (by simpa using hperm.map b) ?_ hinj
  refine pair_ix fun i j hi hj hij => ?_
  have hi' : i < d'.size := by simpa using hi
  have hj' : j < d'.size := by simpa using hj
  have := hSo i j (Nat.zero_le _) hij (by omega)
  rw [hcf, getElem!_pos d' i hi', getElem!_pos d' j hj'] at this
  simpa using this
 have hlen : (sortQ kβ (xs.map b)).length = n := by rw [(sortQ_perm kβ _).length_eq, List.length_map, hxl]
 have hH' : Holds enc (sortWorld enc w a.block a.off m d' os) a.block a.off d' := by
  unfold sortWorld
  refine holds_grow _ _ _ _ _ _ (by simpa using hblk) (holds_putRow enc _ _ _ xs.toArray d' hH (by rw [hsz, hds]))
 refine ⟨{ G with own := fun b => if b = a.block then .slc 1 [] else G.own b }, [], rfl, ?_, rfl, ⟨?_, trivial⟩, finBoxes_ro hro⟩
 ·refine ⟨rfl, rfl, rfl, sw_size enc _ _ _ _ _, fun b hb ho => ?_, fun b j hb ho => ?_, fun b hb => ?_⟩
  ·have hne : b ≠ a.block := by rintro rfl; change G.own a.block = _ \/ G.own a.block = _ at ho; rw [hown] at ho; rcases ho with h | h <;> cases h
   exact ⟨sw_heap enc _ _ _ _ _ hb hne, if_neg hne⟩
  ·have hne : b ≠ a.block := by rintro rfl; change G.own a.block = _ at ho; rw [hown] at ho; cases ho
   obtain ⟨-, c0, e0, fr, hc0⟩ := hpre.cells b j hb ho
   refine ⟨(if_neg hne).trans ho, c0, c0, e0, fr, hc0, (sw_heap enc _ _ _ _ _ hb hne).trans hc0, rfl, fun _ _ => rfl⟩
  ·have h0 := Nat.le_trans (sw_size enc a.block a.off m d' os) hb
   show (if b = a.block then _ else _) = _
   rw [if_neg (by omega)]
   exact hpre.fresh b h0
 ·show Rp _ _ _ _ _ (G.hdr 0) _
  rw [<- hv, ev]
  have hat : ∀ i p, (sortQ kβ (xs.map b))[i]? = some p -> ∃ x, d'[i]? = some x /\ b x = p /\ i < d'.size := by
   intro i p hi
   rw [<- hsorted, List.getElem?_map, Option.map_eq_some_iff] at hi
   obtain ⟨x, hx, rfl⟩ := hi
   rw [Array.getElem?_toList] at hx
   exact ⟨x, hx, rfl, (Array.getElem?_eq_some_iff.1 hx).1⟩
  refine .sl (some a) a n c 1 _ (fun i _ => enc d'[i]!) (by rw [List.length_map, hlen]) hnc (.inl rfl) (by simp) (fun _ => ⟨hspot, if_pos rfl, fun k hk => ?_⟩) (fun i row hi j d hj => ?_) (fun i row hi j d hj => ?_)
  ·rw [Nat.mul_one] at hk
   rcases Nat.lt_or_ge k n with hkn | hkn
   ·obtain ⟨h3, h4⟩ := hH' k (by omega)
    rw [hadd]
    exact ⟨_, h3, h4⟩
   ·obtain ⟨u, hu, hf⟩ := hcells k hk
    rw [hadd] at hu hf ⊢
    refine ⟨u, ?_, ?_⟩
    ·unfold sortWorld
     rw [cell?_grow _ _ _ (by simpa using hblk), cell?_putRow_other _ _ _ _ _ _ (.inr (.inr (by simp only [hds]; omega)))]
     exact hu
    ·unfold sortWorld
     rw [frozen?_grow _ _ _ (by simpa using hblk), frozen?_putRow]
     exact hf
  ·rw [List.getElem?_map, Option.map_eq_some_iff] at hi
   obtain ⟨p, hp, rfl⟩ := hi
   obtain ⟨x, hx, -, hlt⟩ := hat i p hp
   cases j with
   | succ j => simp at hj
   | zero =>
    rw [Nat.mul_one, Nat.add_zero, hadd]
    exact (hH' i hlt).1
  ·rw [List.getElem?_map, Option.map_eq_some_iff] at hi
   obtain ⟨p, hp, rfl⟩ := hi
   obtain ⟨x, hx, hb, hlt⟩ := hat i p hp
   cases j with
   | succ j => simp at hj
   | zero =>
    simp only [List.getElem?_cons_zero, Option.some.injEq] at hj
    subst hj
    have ex : d'[i]! = x := by
     rw [getElem!_pos d' i hlt]
     exact (Array.getElem?_eq_some_iff.1 hx).2
    rw [ex, <- hb]
    refine .fz ((hdat x).mono' fun b hb hlt => ?_)
    have hne : b ≠ a.block := by rintro rfl; rw [hown] at hb; cases hb
    exact ⟨(if_neg hne).trans hb, sw_heap enc _ _ _ _ _ hlt hne⟩
end
section
open Go.Proofs Go.Shelf Go.Sort
variable {P : Program} {ρ : Ren} {own : Nat -> Ow} {w : World}
theorem mu_same {f g : Nat} {cs : List LS} {bxs : List (Bool × List (BS × BO))} {vals : List Value} {G : Gh} {ds : List D} (hpre : CPre ⟨f, [(false, [.mu 1]), (false, [.clo g cs])], bxs, []⟩ vals w G ds)
  (hro : (bxs.all (·.1)) = true) {d : D} (h : Rp G.own w 0 [] 1 (G.hdr 0) d) :
  CPost ⟨f, [(false, [.mu 1]), (false, [.clo g cs])], bxs, []⟩ (callF ⟨f, [(false, [.mu 1]), (false, [.clo g cs])], bxs, []⟩ G w) G.bx (.tuple #[]) w [d] := by
 let own1 : Nat -> Ow := fun b => match G.own b with
  | .slc s p => if s = 0 then (if p.length < 1 then .slc 1 p else .frz) else .slc s p
  | o => o
 refine ⟨{ G with own := own1 }, [], rfl, ⟨rfl, rfl, rfl, Nat.le_refl _, fun b hb ho => ⟨rfl, ?_⟩, fun b j hb ho => ?_, fun b hb => ?_⟩, rfl, ⟨?_, trivial⟩, finBoxes_ro hro⟩
 ·change G.own b = _ \/ G.own b = _ at ho
  show own1 b = G.own b
  rcases ho with ho | ho <;> simp only [own1, ho]
 ·change G.own b = _ at ho
  obtain ⟨-, c0, e0, fr, hc0⟩ := hpre.cells b j hb ho
  refine ⟨?_, c0, c0, e0, fr, hc0, hc0, rfl, fun _ _ => rfl⟩
  show own1 b = _
  simp only [own1, ho]
 ·show own1 b = _
  simp only [own1, hpre.fresh b hb]
 ·show Rp own1 w 1 [] 1 (G.hdr 0) d
  refine h.move (fun b hb _ => ⟨by simp only [own1, hb], rfl⟩) [] 1 (Nat.le_refl _) fun b t hb => ⟨?_, rfl⟩
  simp only [List.nil_append] at hb ⊢
  simp only [own1, hb, if_true]
def PairWalk (P : Program) (g : Nat) : Prop :=
 ∀ (a b : Addr) (ca cb : Nat) (x y : Int × Int) (w : World), w.cell? a = some (.int .i64 x.1) -> w.cell? (a.add 1) = some (.int .i64 x.2) -> w.cell? b = some (.int .i64 y.1) -> w.cell? (b.add 1) = some (.int .i64 y.2) ->
  Calls P g #[.slice (some a) 2 ca, .slice (some b) 2 cb] w fun e w' => e = .returned (.int .i64 (cmpQ x y)) /\ ∃ q os, w' = grow (w.drewN q) os
def IsPair (own : Nat -> Ow) (w : World) (v : Value) (p : Int × Int) : Prop :=
 ∃ a c, v = .slice (some a) 2 c /\ 2 <= c /\ own a.block = .frz /\ w.cell? a = some (.int .i64 p.1) /\ w.cell? (a.add 1) = some (.int .i64 p.2)
theorem isPair_of {v : Value} {p : Int × Int} (h : Rd (fun b => own b = .frz) w v (pairD p)) : IsPair own w v p := by
 obtain ⟨A, a, n, c, vs, rfl, hn, hc, hA, hsz, hcell, hrec⟩ := h.inv
 obtain rfl : n = 2 := hn.symm
 obtain rfl : A = some a := hA.resolve_left (by omega)
 obtain ⟨h1, h2⟩ := hcell 0 _ rfl 0 _ rfl
 obtain ⟨-, h3⟩ := hcell 1 _ rfl 0 _ rfl
 have h4 := hrec 0 _ rfl 0 _ rfl
 have h5 := hrec 1 _ rfl 0 _ rfl
 have e0 : a.add 0 = a := if_pos rfl
 simp only [Nat.zero_mul, Nat.add_zero, Nat.one_mul, e0] at h2 h3
 generalize vs 0 0 = u0 at h2 h4
 generalize vs 1 0 = u1 at h3 h5
 obtain rfl : u0 = .int .i64 p.1 := by cases h4 with | sc h => cases h; rfl
 obtain rfl : u1 = .int .i64 p.2 := by cases h5 with | sc h => cases h; rfl
 exact ⟨a, c, rfl, hc, h1, h2, h3⟩
theorem IsPair.rd {v : Value} {p : Int × Int} (h : IsPair own w v p) : Rd (fun b => own b = .frz) w v (pairD p) := by
 obtain ⟨a, c, rfl, hc, ho, h1, h2⟩ := h
 have e0 : a.add 0 = a := if_pos rfl
 refine .rows (some a) a 2 c 1 _ (fun i _ => if i = 0 then .int .i64 p.1 else .int .i64 p.2) rfl hc (.inr rfl) (by simp) (fun i r hi j d hj => ?_) (fun i r hi j d hj => ?_)
 ·match i, j with
  | 0, 0 => exact ⟨ho, by simpa [e0] using h1⟩
  | 1, 0 => exact ⟨ho, by simpa using h2⟩
  | 0, j + 1 => simp at hi; subst hi; simp at hj
  | 1, j + 1 => simp at hi; subst hi; simp at hj
  | i + 2, _ => simp at hi
 ·match i, j with
  | 0, 0 => simp at hi; subst hi; simp at hj; subst hj; exact .sc (.int _ _)
  | 1, 0 => simp at hi; subst hi; simp at hj; subst hj; exact .sc (.int _ _)
  | 0, j + 1 => simp at hi; subst hi; simp at hj
  | 1, j + 1 => simp at hi; subst hi; simp at hj
  | i + 2, _ => simp at hi
theorem Rp.sl1 {v : Value} {sz : Nat} {rs : List (List D)} (h : Rp own w 0 [] 1 v (.rows sz rs)) : ∃ (A : Option Addr) (a : Addr) (n c : Nat) (vs : Nat -> Nat -> Value), v = .slice A n c /\ rs.length = n /\ n <= c /\ (A = some a \/ (A = none /\ c = 0)) /\ (∀ r ∈ rs, r.length = sz) /\
  (A = some a -> a.spot = none /\ own a.block = .slc 0 [] /\ ∀ k, k < c * sz -> ∃ u, w.cell? (a.add k) = some u /\ w.frozen? (a.add k) = false) /\
  (∀ i row, rs[i]? = some row -> ∀ j d, row[j]? = some d -> w.cell? (a.add (i * sz + j)) = some (vs i j)) /\ ∀ i row, rs[i]? = some row -> ∀ j d, row[j]? = some d -> Rd (fun b => own b = .frz) w (vs i j) d := by
 obtain ⟨A, a, n, c, vs, e1, e2, e3, e4, e5, e6, e7, e8⟩ := h.sl_inv
 exact ⟨A, a, n, c, vs, e1, e2, e3, e4, e5, e6, e7, fun i row hi j d hj => (e8 i row hi j d hj).zero1⟩
theorem sortP_ok (L : SlLaysF.n6 P ρ) {g : Nat} {fn : Func} {c : Code} (hg : P.funcs[g]? = some fn) (hname : (fn.name == "runtime.NumGoroutine") = false) (hb : fn.body = some c) (W : PairWalk P g) :
  ExtOk P ⟨ρ.f 6, [(false, [.mu 1]), (false, [.clo g []])], [], []⟩ sortPE := by
 intro vals w G ds ds' hpre hr
 unfold sortPE at hr
 split at hr
 case h_2 => cases hr
 rename_i rs
 rw [Option.bind_eq_some_iff] at hr
 obtain ⟨l, hl, hr⟩ := hr
 split at hr
 case isFalse => cases hr
 rename_i hlen
 obtain rfl := Option.some.inj hr
 obtain ⟨u, us, vs, rfl, ⟨v, vs', rfl, ⟨hv, hrp⟩, rfl⟩, hsh, u2, us2, vs2, rfl, ⟨v2, vs3, rfl, ⟨cb, rfl, hcb⟩, rfl⟩, hsh2, hnil⟩ := hpre.params
 simp only [Bool.false_eq_true, if_false] at hsh hsh2
 obtain rfl : v = u := by simpa using hsh
 obtain rfl : Value.func (.func g) #[] cb.toArray = u2 := by simpa using hsh2
 simp only [EntParams] at hnil
 subst hnil
 simp only [CapsRep] at hcb
 subst hcb
 have hrp' : Rp G.own w 0 [] 1 v (.rows 1 rs) := hrp
 obtain ⟨A, a, n, c, cv, hval, hn, hcap, hA, hsz, hown, hcell, hrec⟩ := hrp'.sl1
 obtain rfl := pairsD_inv hl
 rw [List.length_map] at hn
 obtain ⟨nm, hnm, hfn⟩ := L.f6
 refine .inl ⟨run_callFunc hfn hnm rfl _ _, ?_⟩
 rcases Nat.eq_zero_or_pos n with h0 | hpos
 ·subst h0
  obtain rfl : l = [] := List.eq_nil_of_length_eq_zero hn
  have h := AnyF.slices_SortFunc_none (P := P) (ρ := ρ) { L with } A c (.func (.func g) #[] #[]) w
  rw [hval]
  refine h.mono ?_
  rintro e w' ⟨rfl, rfl⟩
  exact mu_same hpre rfl (hv ▸ hrp')
 ·obtain rfl : A = some a := by
   rcases hA with h | ⟨-, h⟩
   ·exact h
   ·omega
  obtain ⟨hspot, hob, hcells⟩ := hown rfl
  let α := { x : Value × (Int × Int) // IsPair G.own w x.1 x.2 }
  have hex : ∀ i, i < n -> ∃ x : α, l[i]? = some x.1.2 /\ cv i 0 = x.1.1 := by
   intro i hi
   have hi' : l[i]? = some (l[i]'(by omega)) := List.getElem?_eq_getElem (by omega)
   have hr := hrec i [pairD (l[i]'(by omega))] (by rw [List.getElem?_map, hi']; rfl) 0 _ rfl
   exact ⟨⟨(cv i 0, l[i]'(by omega)), isPair_of hr⟩, hi', rfl⟩
  obtain ⟨xs, hxl, hxs⟩ := list_of n hex
  haveI : Inhabited α := ⟨(hex 0 hpos).choose⟩
  have hmap : xs.map (fun x : α => x.1.2) = l := by
   apply List.ext_getElem?
   intro i
   rw [List.getElem?_map]
   rcases Nat.lt_or_ge i n with hi | hi
   ·have hx : xs[i]? = some (xs[i]'(by omega)) := List.getElem?_eq_getElem (by omega)
    rw [hx]
    exact (hxs i _ hx).1.symm
   ·rw [List.getElem?_eq_none (by omega), List.getElem?_eq_none (by omega)]
    rfl
  have hcore := sort_core (w := w) (G := G) L (α := α) (fun x => x.1.1) (fun x => x.1.2) pairD id (fun x y => cmpQ x.1.2 y.1.2) (fun x y => cmpQ_lt) (g := g) hpre rfl (fun args w => run_callFunc hg hname hb args w) hv [] rfl
   (fun blk off size hbl m os dk hs x y => ?_) (fun x => x.2.rd) hval hspot hob (fun k hk => hcells k (by omega)) hcap (by omega) hpos xs hxl (fun i x hx => ?_) (fun x _ y _ h => h)
  ·rw [hmap] at hcore
   refine hcore.mono ?_
   rintro e w' ⟨u, rfl, h⟩
   exact h
  ·obtain ⟨ax, cx, hxv, hcx, hox, hx1, hx2⟩ := x.2
   obtain ⟨ay, cy, hyv, hcy, hoy, hy1, hy2⟩ := y.2
   have hkeep : ∀ (b : Addr) (u : Value), G.own b.block = .frz -> w.cell? b = some u -> (sortWorld (fun x : α => x.1.1) w blk off m dk os).cell? b = some u := by
    intro b u ho hc
    refine (heap_cell (sw_heap _ _ _ _ _ _ (cell_lt hc) ?_)).trans hc
    intro e
    rw [e, hbl] at ho
    cases ho
   show Calls P g #[x.1.1, y.1.1] _ _
   rw [hxv, hyv]
   exact (W ax ay cx cy x.1.2 y.1.2 _ (hkeep _ _ hox hx1) (hkeep _ _ (by rw [add_block]; exact hox) hx2) (hkeep _ _ hoy hy1) (hkeep _ _ (by rw [add_block]; exact hoy) hy2))
  ·obtain ⟨h1, h2⟩ := hxs i x hx
   have := hcell i [pairD x.1.2] (by rw [List.getElem?_map, h1]; rfl) 0 _ rfl
   rw [Nat.mul_one, Nat.add_zero, h2] at this
   exact this
theorem sortP_ent (L : SlLaysF.n6 P ρ) {f g key : Nat} {fn : Func} {c : Code} {T : Nat -> Ent} {ti : Nat -> Option TI} {sigs : List (Nat × Sig)} (hf : ρ.f 6 = f) (hg : P.funcs[g]? = some fn) (hname : (fn.name == "runtime.NumGoroutine") = false) (hb : fn.body = some c) (W : PairWalk P g)
  (hT : T key = .ext sortPE) : FnOk P T ti sigs key ⟨f, [(false, [.mu 1]), (false, [.clo g []])], [], []⟩ := by
 subst hf
 exact .inr ⟨_, hT, sortP_ok L hg hname hb W⟩
end
section
open Go.Proofs Go.Shelf Go.Sort
variable {P : Program} {ρ : Ren} {own : Nat -> Ow} {w : World}
end
end Go.Proofs.YtpgnlmfmlffjcaaGreat.Rf

namespace Go.Proofs.YtpgnlmfmlffjcaaGreat.Rf
set_option linter.unusedVariables false
set_option linter.unusedSimpArgs false
section
open Go.Proofs Go.Shelf Go.RowKit Go.Lib Go.Sort
variable {P : Program} {ρ : Ren}
set_option maxHeartbeats 4000000 in
set_option maxRecDepth 1000000 in
theorem delete_walk (L : SlLaysE0.n45 P ρ) {K : Nat} {i0 : TypeInfo} {z : Value} (hi0 : P.info? (ρ.t 23) = some i0) (hz0 : i0.zero = some z) (hz1 : i0.size = K) (hzs : z.cells.size = K) (hK : 0 < K) (hzo : ∀ u ∈ z.cells.toList, u.oneCell' = true)
  (z23 : ∀ w, (Go.sizeOf (ρ.t 23)).run P w = .ok K w) (blk off n cap i j : Nat) (w : World) (olds : List Value) (hol : olds.length = n * K) (hoc : ∀ k u, olds[k]? = some u -> w.cell? ⟨blk, off + k, none⟩ = some u) (ho1 : ∀ u ∈ olds, u.oneCell' = true)
  (hall : ∀ k, k < cap * K -> ∃ u, w.cell? ⟨blk, off + k, none⟩ = some u /\ w.frozen? ⟨blk, off + k, none⟩ = false) (hcap : n <= cap) (hn : n <= 4611686018427387904) (hij : i <= j) (hj : j <= n) :
  Calls P (ρ.f 45) #[.slice (some ⟨blk, off, none⟩) n cap, .int .i64 i, .int .i64 j] w fun e w' => e = .returned (.slice (some ⟨blk, off, none⟩) (n - (j - i)) cap) /\
   ((i = j /\ w' = w) \/ (i < j /\ w' = (w.drew.setCells blk (off + i * K) (olds.drop (j * K))).setCells blk (off + (i + (n - j)) * K) (Builtin.zeroCells z.cells (n - (i + (n - j)))).toList)) := by
 have mixed := L.mixed; have t0 := L.t0; have a0 := L.a0; have z0 := L.z0; have v0 := L.v0; have t3 := L.t3; have a3 := L.a3; have z3 := L.z3; have v3 := L.v3; have t4 := L.t4; have a4 := L.a4; have z4 := L.z4; have v4 := L.v4; have t22 := L.t22; have a22 := L.a22; have z22 := L.z22; have v22 := L.v22
 by_cases heq : i = j
 ·subst heq
  have h0 : Calls P (ρ.f 45) #[.slice (some ⟨blk, off, none⟩) n cap, .int .i64 i, .int .i64 i] w fun e w' => e = .returned (.slice (some ⟨blk, off, none⟩) n cap) /\ w' = w := by
   clear hoc ho1 hall hol
   obtain ⟨_, _, FG⟩ := L.f45
   go_enter FG, SlBodyN.n45_ntmps ρ
   go_wp2
   all_goals (go_ret; exact ⟨rfl, rfl⟩)
  refine h0.mono ?_
  rintro e w' ⟨rfl, rfl⟩
  exact ⟨by rw [Nat.sub_self, Nat.sub_zero], .inl ⟨rfl, rfl⟩⟩
 ·have hlt : i < j := by omega
  obtain ⟨news, hnews⟩ : ∃ news, news = olds.drop (j * K) := ⟨_, rfl⟩
  have hlen : news.length = (n - j) * K := by rw [hnews, List.length_drop, hol, Nat.sub_mul]
  have hjc : cap ≠ j -> j < cap := by omega
  have hmul : ∀ a b : Nat, a <= b -> a * K <= b * K := fun a b h => Nat.mul_le_mul_right K h
  obtain ⟨A, hA, hsrc⟩ : ∃ A : Addr, (if cap = j then (some (⟨blk, off, none⟩ : Addr)) else some ⟨blk, off + j * K, none⟩) = some A /\ Hid (∀ t u, news[t]? = some u -> w.drew.cell? (A.add t) = some u) := by
   by_cases h : cap = j
   ·refine ⟨⟨blk, off, none⟩, by simp [h], fun t u hu => ?_⟩
    have h0 : news.length = 0 := by rw [hlen, show n - j = 0 by omega, Nat.zero_mul]
    rw [List.length_eq_zero_iff.1 h0] at hu
    simp at hu
   ·refine ⟨⟨blk, off + j * K, none⟩, by simp [h], fun t u hu => ?_⟩
    rw [hnews, List.getElem?_drop] at hu
    have := hoc _ u hu
    rw [Addr.add_lit, show off + j * K + t = off + (j * K + t) by omega]
    exact this
  have s1 : Hid (news.length = (n - j) * K) := hlen
  have s2 : Hid (∀ u ∈ news, u.oneCell' = true) := fun u hu => ho1 u (List.mem_of_mem_drop (hnews ▸ hu))
  have hroom : i * K + (n - j) * K <= cap * K := by rw [<- Nat.add_mul]; exact hmul _ _ (by omega)
  have s3 : Hid (∀ t, t < news.length -> (w.drew.cell? ⟨blk, off + i * K + t, none⟩).isSome = true /\ w.drew.frozen? ⟨blk, off + i * K + t, none⟩ = false) := by
   intro t ht
   rw [hlen] at ht
   obtain ⟨u, h1, h2⟩ := hall (i * K + t) (by omega)
   rw [Nat.add_assoc]
   exact ⟨by show (w.cell? _).isSome = true; rw [h1]; rfl, h2⟩
  obtain ⟨W1, hW1⟩ : ∃ W1, W1 = w.drew.setCells blk (off + i * K) news := ⟨_, rfl⟩
  have hall1 : ∀ k, k < cap * K -> ∃ u, W1.cell? ⟨blk, off + k, none⟩ = some u /\ W1.frozen? ⟨blk, off + k, none⟩ = false := by
   intro k hk
   obtain ⟨u, h1, h2⟩ := hall k hk
   rw [hW1]
   obtain ⟨u', h3⟩ := setCells_cell (w := w.drew) (B := blk) (o := off + i * K) (vs := news) (b := ⟨blk, off + k, none⟩) (fun _ => rfl) (fun t ht => (s3.out t ht).1) h1
   exact ⟨u', h3, by rw [World.frozen?_setCells]; exact h2⟩
  generalize hZ : (Builtin.zeroCells z.cells (n - (i + (n - j)))).toList = Z
  have hZl : Z.length = (n - (i + (n - j))) * K := by rw [<- hZ]; simp [Builtin.zeroCells, hzs]
  have hZ1 : ∀ u ∈ Z, u.oneCell' = true := by
   intro u hu
   rw [<- hZ, Builtin.zeroCells, Array.mem_toList_iff, Array.mem_map] at hu
   obtain ⟨q, hq, rfl⟩ := hu
   have hlt : q % z.cells.size < z.cells.size := Nat.mod_lt _ (by omega)
   rw [getElem!_pos z.cells _ hlt]
   exact hzo _ (Array.getElem_mem_toList hlt)
  have hcl : ∀ ty, (Builtin.clear_ #[ρ.t 22] ty #[.slice (some ⟨blk, off + (i + (n - j)) * K, none⟩) (n - (i + (n - j))) (cap - (i + (n - j)))]).run P W1 = .ok (.tuple #[]) (W1.setCells blk (off + (i + (n - j)) * K) Z) := by
   intro ty
   have hcells : ∀ t, t < Z.length -> ∃ u, W1.cell? ⟨blk, off + (i + (n - j)) * K + t, none⟩ = some u /\ W1.frozen? ⟨blk, off + (i + (n - j)) * K + t, none⟩ = false := fun t ht => by
    have h1 : (i + (n - j)) * K + (n - (i + (n - j))) * K <= cap * K := by rw [<- Nat.add_mul]; exact hmul _ _ (by omega)
    have := hall1 ((i + (n - j)) * K + t) (by omega)
    rwa [<- Nat.add_assoc] at this
   have hst := run_storeCells_cells (P := P) blk (off + (i + (n - j)) * K) Z 0 W1 (fun t ht => by obtain ⟨u, h1, -⟩ := hcells t ht; rw [Nat.add_zero, h1]; rfl) (fun t ht => by rw [Nat.add_zero]; exact (hcells t ht).choose_spec.2) hZ1
   obtain ⟨q, hq⟩ : ∃ q, n - (i + (n - j)) = q + 1 := ⟨n - (i + (n - j)) - 1, by omega⟩
   rw [hq] at hZ ⊢
   simp only [Nat.add_zero] at hst
   simp [Builtin.clear_, run_underlying t22, run_zeroValue hi0 hz0, hZ, hst]
  have hW : Hid (W1 = w.drew.setCells blk (off + i * K) news) := hW1
  have hn' : Hid (news = olds.drop (j * K)) := hnews
  have hic : i <= cap := by omega
  have hjc : j <= cap := by omega
  have hK0 : Hid (0 < K) := hK
  clear hW1 hnews hlen hall1 hall hoc ho1 hol hmul hroom hZ hZl hZ1 hK
  obtain ⟨_, _, FG⟩ := L.f45
  go_enter FG, SlBodyN.n45_ntmps ρ
  go_wp2_with fail
  go_region_law_o (refine step_append_room rfl (.tmp 22) (.tmp 25) (ρ.t 22) rfl (ρ.t 23) i0 K t22 hi0 hz1 blk off i cap (by simp [Act.eval, Act.put]) A (n - j) (cap - j) news (by simp [Act.eval, Act.put]) s1.out hsrc.out s2.out (by omega) s3.out ?_; rw [<- hW.out])
  go_wp2
  go_ret
  refine ⟨by rw [show n - (j - i) = i + (n - j) by omega]; rfl, .inr ⟨hlt, ?_⟩⟩
  rw [hW.out, hn'.out]
end
section
open Go.Proofs Go.Shelf
variable {P : Program} {ρ : Ren}
end
end Go.Proofs.YtpgnlmfmlffjcaaGreat.Rf

namespace Go.Proofs.YtpgnlmfmlffjcaaGreat.Rf
set_option linter.unusedVariables false
set_option linter.unusedSimpArgs false
class Enc (α : Type) where
 sz : Nat
 enc : α -> List D
 len : ∀ a, (enc a).length = sz
instance : Enc Int := ⟨1, fun n => [i64 n], fun _ => rfl⟩
instance : Enc Bool := ⟨1, fun b => [.bool b], fun _ => rfl⟩
instance : Enc (List UInt8) := ⟨1, fun s => [.str s], fun _ => rfl⟩
def rL {α : Type} [Enc α] (xs : List α) : D := .rows (Enc.sz α) (xs.map Enc.enc)
instance {α : Type} [Enc α] : Enc (List α) := ⟨1, fun xs => [rL xs], fun _ => rfl⟩
def InB {α : Type} (xs : List α) (k : Int) : Prop := 0 <= k /\ k < xs.length
def atI {α : Type} [Inhabited α] (xs : List α) (k : Int) : α := xs.getD k.toNat default
def setI {α : Type} (xs : List α) (k : Int) (a : α) : List α := xs.set k.toNat a
theorem InB_nat {α : Type} {xs : List α} {i : Nat} : InB xs (i : Int) ↔ i < xs.length := by unfold InB; omega
theorem atI_nat {α : Type} [Inhabited α] {xs : List α} {i : Nat} : atI xs (i : Int) = xs.getD i default := rfl
theorem atI_get {α : Type} [Inhabited α] {xs : List α} {i : Nat} (h : i < xs.length) : atI xs (i : Int) = xs[i] := by
 rw [atI_nat, List.getD_eq_getElem?_getD, List.getElem?_eq_getElem h]; rfl
theorem InB.lt {α : Type} {xs : List α} {k : Int} (h : InB xs k) : k.toNat < xs.length := by unfold InB at h; omega
def tick : Nat := 0
def tock : Nat := 0
def forkT {γ : Type} (c : Bool) (a b : γ) : γ := match c with
 | true => a
 | false => b
theorem forkT_true {γ : Type} {a b : γ} : forkT true a b = a := rfl
theorem forkT_false {γ : Type} {a b : γ} : forkT false a b = b := rfl
@[congr] theorem forkT_congr {γ : Type} {c c' : Bool} {a b : γ} (h : c = c') {dd : Nat} (hd : tick = dd) : forkT c a b = forkT c' a b := by rw [h]
theorem fork_eq {γ : Type} {c : Bool} {a b r : γ} (h1 : c = true -> a = r) (h2 : c = false -> b = r) : forkT c a b = r := by
 cases c with
 | true => exact h1 rfl
 | false => exact h2 rfl
section
variable {T : Nat -> Ent} {β : Type}
@[congr] theorem Er_congr {t : Tm β} {ρ ρ' : List D} (h : ρ = ρ') {dd : Nat} (hd : tick = dd) : Er T t ρ = Er T t ρ' := by rw [h]
@[congr] theorem stepT_congr {k : Tm β} {ρ ρ' : List D} {n : Nat} {a a' : Option (List D)} (h : ρ = ρ') (h2 : a = a') {dd : Nat} (hd : tick = dd) : stepT T k ρ n a = stepT T k ρ' n a' := by rw [h, h2]
@[congr] theorem thenT_congr {i : Nat} {k : Tm β} {ρ ρ' : List D} {r r' : Option (Kind × List D)} (h : ρ = ρ') (h2 : r = r') {dd : Nat} (hd : tick = dd) : thenT T i k ρ r = thenT T i k ρ' r' := by rw [h, h2]
@[congr] theorem run_congr {p : Prim} {xs xs' : List D} (h : xs = xs') {dd : Nat} (hd : tick = dd) : p.run xs = p.run xs' := by rw [h]
def nth : List D -> Nat -> D
 | [], _ => .undef
 | a :: _, 0 => a
 | _ :: r, n + 1 => nth r n
theorem nth_0 {a : D} {r : List D} : nth (a :: r) 0 = a := rfl
theorem nth_s {a : D} {r : List D} {n : Nat} : nth (a :: r) (n + 1) = nth r n := rfl
theorem nth_getD (r : List D) (n : Nat) : r.getD n .undef = nth r n := by
 induction r generalizing n with
 | nil => rfl
 | cons a r ih => cases n with
  | zero => rfl
  | succ n => exact ih n
def vals (ρ : List D) : List Atom -> List D
 | [] => []
 | .v i :: r => nth ρ i :: vals ρ r
 | .c d :: r => d :: vals ρ r
@[congr] theorem vals_congr {ρ ρ' : List D} {xs : List Atom} (h : ρ = ρ') {dd : Nat} (hd : tick = dd) : vals ρ xs = vals ρ' xs := by rw [h]
theorem vals_map (ρ : List D) (xs : List Atom) : xs.map (·.val ρ) = vals ρ xs := by
 induction xs with
 | nil => rfl
 | cons x xs ih =>
  rw [List.map_cons, ih]
  cases x with
  | v i => show ρ.getD i .undef :: _ = _; rw [nth_getD]; rfl
  | c d => rfl
theorem vals_n {ρ : List D} : vals ρ [] = [] := rfl
theorem vals_v {ρ : List D} {i : Nat} {r : List Atom} : vals ρ (.v i :: r) = nth ρ i :: vals ρ r := rfl
theorem vals_c {ρ : List D} {d : D} {r : List Atom} : vals ρ (.c d :: r) = d :: vals ρ r := rfl
def val1 (ρ : List D) : Atom -> D
 | .v i => nth ρ i
 | .c d => d
theorem val1_v {ρ : List D} {i : Nat} : val1 ρ (.v i) = nth ρ i := rfl
theorem val1_c {ρ : List D} {d : D} : val1 ρ (.c d) = d := rfl
theorem val_val1 (ρ : List D) (a : Atom) : a.val ρ = val1 ρ a := by
 cases a with
 | v i => exact nth_getD ρ i
 | c d => rfl
@[congr] theorem val1_congr {ρ ρ' : List D} {a : Atom} (h : ρ = ρ') {dd : Nat} (hd : tick = dd) : val1 ρ a = val1 ρ' a := by rw [h]
theorem Ek_leaf (k : Kind) (xs : List Atom) (e : β) (ρ : List D) : Er T (.leaf k xs e) ρ = some (k, vals ρ xs) := by rw [Er_leaf, vals_map]
theorem Ek_lt (p : Prim) (xs : List Atom) (n : Nat) (k : Tm β) (ρ : List D) : Er T (.lt none p xs n k) ρ = stepT T k ρ n (p.run (vals ρ xs)) := by rw [Er_lt0, vals_map]
theorem Ek_call (f : Nat) (xs : List Atom) (n : Nat) (os : List Atom) (k : Tm β) (ρ : List D) : Er T (.call none f xs n os k) ρ = stepT T k ρ n (Fun T f (vals ρ xs)) := by rw [Er_call0, vals_map]
def gateT (w : Bool) (a b : Option (Kind × List D)) (c : D) : Option (Kind × List D) := if gdR c w = true then a else b
@[congr] theorem gateT_congr {w : Bool} {a b : Option (Kind × List D)} {c c' : D} (h : c = c') {dd : Nat} (hd : tick = dd) : gateT w a b c = gateT w a b c' := by rw [h]
theorem gateT_t {a b : Option (Kind × List D)} {c : Bool} : gateT true a b (.bool c) = forkT c a b := by cases c <;> rfl
theorem gateT_f {a b : Option (Kind × List D)} {c : Bool} : gateT false a b (.bool c) = forkT c b a := by cases c <;> rfl
theorem gateT_u {w : Bool} {a b : Option (Kind × List D)} : gateT w a b .undef = b := by simp [gateT, gdR]
theorem Ek_ltg (a : Atom) (w : Bool) (p : Prim) (xs : List Atom) (n : Nat) (k : Tm β) (ρ : List D) :
  Er T (.lt (some (a, w)) p xs n k) ρ = gateT w (stepT T k ρ n (p.run (vals ρ xs))) (Er T k (ρ ++ List.replicate n .undef)) (val1 ρ a) := by
 rw [Er_ltg, ltT, gateT, vals_map, val_val1]
theorem Ek_callg (a : Atom) (w : Bool) (f : Nat) (xs : List Atom) (n : Nat) (os : List Atom) (k : Tm β) (ρ : List D) :
  Er T (.call (some (a, w)) f xs n os k) ρ = gateT w (stepT T k ρ n (Fun T f (vals ρ xs))) (Er T k (ρ ++ (List.replicate (n - os.length) .undef ++ vals ρ os))) (val1 ρ a) := by
 rw [Er_callg, callT, gateT, vals_map, vals_map, val_val1]
def testT {γ : Type} (a b : Option γ) (c : D) : Option γ := iteR c a b
@[congr] theorem testT_congr {γ : Type} {a b : Option γ} {c c' : D} (h : c = c') {dd : Nat} (hd : tick = dd) : testT a b c = testT a b c' := by rw [h]
theorem testT_b {γ : Type} {a b : Option γ} {c : Bool} : testT a b (.bool c) = forkT c a b := by cases c <;> rfl
theorem Ek_ite (c : Atom) (t e : Tm β) (ρ : List D) : Er T (.ite c t e) ρ = testT (Er T t ρ) (Er T e ρ) (val1 ρ c) := by rw [Er_ite, iteT, testT, val_val1]
theorem Ek_bind (i : Nat) (t k : Tm β) (ρ : List D) : Er T (.bind i t k) ρ = thenT T i k ρ (Er T t ρ) := Er_bind i t k ρ
theorem thenT_fork {i : Nat} {k : Tm β} {ρ : List D} {c : Bool} {a b : Option (Kind × List D)} : thenT T i k ρ (forkT c a b) = forkT c (thenT T i k ρ a) (thenT T i k ρ b) := by cases c <;> rfl
theorem thenT_yield {i j : Nat} {k : Tm β} {ρ ds : List D} : thenT T i k ρ (some (.yield j, ds)) = if j = i then Er T k (ρ ++ ds) else some (.yield j, ds) := by
 by_cases h : j = i
 ·subst h; rw [thenT_same, if_pos rfl]
 ·rw [thenT_ne h, if_neg h]
noncomputable def fin (o : Option (Kind × List D)) : Option (List D) := o.bind retR
theorem fin_fork {c : Bool} {a b : Option (Kind × List D)} : fin (forkT c a b) = forkT c (fin a) (fin b) := by cases c <;> rfl
theorem fin_ret {ds : List D} : fin (some (.ret, ds)) = some ds := rfl
theorem Fun_k {f : Nat} {t : Tm Unit} (h : T f = .tm t) (args : List D) : Fun T f args = fin (Er T t args) := Fun_r h args
theorem app_n {ρ : List D} : ρ ++ [] = ρ := List.append_nil ρ
theorem app_c {a : D} {r s : List D} : (a :: r) ++ s = a :: (r ++ s) := rfl
theorem app_0 {s : List D} : [] ++ s = s := rfl
theorem stepT_l {k : Tm β} {ρ ds : List D} {n : Nat} : stepT T k ρ n (some ds) = if ds.length = n then Er T k (ρ ++ ds) else none := rfl
end
section
variable {α : Type} [Enc α]
theorem rL_len {xs : List α} : Prim.len.run [rL xs] = some [i64 xs.length] := by simp [rL, Prim.run]
theorem rL_inb {xs : List α} {k : Int} (h : InB xs k) : Prim.inb.run [rL xs, i64 k] = some [] := by
 unfold InB at h
 simp only [rL, Prim.run, List.length_map]
 rw [if_pos ⟨h.1, h.2⟩]
def rowOf (off : Nat) (ks : List Bool) (r : List D) : Option (List D) := if off + ks.length <= r.length /\ kindsOk ks (r.drop off) = true then some ((r.drop off).take ks.length) else none
theorem rL_row [Inhabited α] {xs : List α} {k : Int} {sz off : Nat} {ks : List Bool} (hs : Enc.sz α = sz) (h : InB xs k) : (Prim.row sz off ks).run [rL xs, i64 k] = rowOf off ks (Enc.enc (atI xs k)) := by
 have h2 := h.lt
 unfold InB at h
 subst hs
 have e : xs[k.toNat]? = some (atI xs k) := by
  rw [List.getElem?_eq_getElem h2, atI, List.getD_eq_getElem?_getD, List.getElem?_eq_getElem h2]; rfl
 simp only [rL, Prim.run, List.getElem?_map, e, Option.map_some]
 simp only [true_and]
 rw [if_pos h.1]
 rfl
theorem rL_set [Inhabited α] {xs : List α} {k : Int} {sz off n : Nat} {vs : List D} {a : α} (hs : Enc.sz α = sz) (hl : vs.length = n) (ho : off + n <= sz) (ha : Enc.enc a = (Enc.enc (atI xs k)).take off ++ vs ++ (Enc.enc (atI xs k)).drop (off + n)) (h : InB xs k) :
  (Prim.set sz off n).run (rL xs :: i64 k :: vs) = some [rL (setI xs k a)] := by
 have h2 := h.lt
 unfold InB at h
 subst hs
 have e : xs[k.toNat]? = some (atI xs k) := by
  rw [List.getElem?_eq_getElem h2, atI, List.getD_eq_getElem?_getD, List.getElem?_eq_getElem h2]; rfl
 simp only [rL, Prim.run, List.getElem?_map, e, Option.map_some]
 simp only [true_and]
 rw [if_pos h.1, if_pos ⟨by rw [Enc.len]; exact ho, hl⟩, <- ha, setI, List.map_set]
theorem rL_make {b : Nat} {n : Int} {zero : List D} {a : α} (ha : Enc.enc a = zero) (h : 0 <= n) (h2 : n.toNat * b <= boundB) : (Prim.make b zero).run [i64 n] = some [rL (List.replicate n.toNat a)] := by
 simp only [Prim.run]
 rw [if_pos ⟨h, h2⟩, rL, List.map_replicate, ha, <- Enc.len a, ha]
theorem rL_mk1 {sz : Nat} {vs : List D} {a : α} (hs : Enc.sz α = sz) (ha : Enc.enc a = vs) : (Prim.mk sz 1).run vs = some [rL [a]] := by
 subst hs; subst ha
 have := Enc.len a
 simp [rL, Prim.run, chunk, this, List.take_of_length_le (Nat.le_of_eq this)]
theorem rL_app {sz b : Nat} {fl : Bool} {xs ys : List α} (hs : Enc.sz α = sz) (hf : fl = true -> ∀ a : α, (Enc.enc a).all D.isSc = true) (h : (xs.length + ys.length) * b <= boundB) : (Prim.app sz b fl).run [rL xs, rL ys] = some [rL (xs ++ ys)] := by
 subst hs
 have hall : (!fl || (xs.map Enc.enc ++ ys.map Enc.enc).all fun r => r.all D.isSc) = true := by
  cases fl with
  | false => rfl
  | true =>
   rw [Bool.not_true, Bool.false_or, <- List.map_append, List.all_map, List.all_eq_true]
   exact fun a _ => hf rfl a
 simp only [rL, Prim.run, List.length_map]
 rw [if_pos ⟨trivial, trivial, hall, h⟩, <- List.map_append]
theorem rL_app0 {sz b : Nat} {fl : Bool} {ys : List α} (hs : Enc.sz α = sz) (hf : fl = true -> ∀ a : α, (Enc.enc a).all D.isSc = true) (h : ys.length * b <= boundB) : (Prim.app sz b fl).run [.rows sz [], rL ys] = some [rL ys] := by
 have := rL_app (xs := []) (ys := ys) (b := b) hs hf (by simpa using h)
 subst hs
 exact this
theorem rL_sub {sz : Nat} {fl : Bool} {xs : List α} {lo hi : Int} (hs : Enc.sz α = sz) (hf : fl = true -> ∀ a : α, (Enc.enc a).all D.isSc = true) (h0 : 0 <= lo) (h1 : lo <= hi) (h2 : hi <= xs.length) : (Prim.sub sz fl).run [rL xs, i64 lo, i64 hi] = some [rL ((xs.take hi.toNat).drop lo.toNat)] := by
 subst hs
 have hall : (!fl || (xs.map Enc.enc).all fun r => r.all D.isSc) = true := by
  cases fl with
  | false => rfl
  | true =>
   rw [Bool.not_true, Bool.false_or, List.all_map, List.all_eq_true]
   exact fun a _ => hf rfl a
 simp only [rL, Prim.run, List.length_map]
 rw [if_pos ⟨trivial, hall, h0, h1, h2⟩, <- List.map_take, <- List.map_drop]
theorem rL_emp {xs : List α} : Prim.emp.run [rL xs] = some [.bool xs.isEmpty] := by simp [rL, Prim.run]
theorem rL_ne {x : α} {xs : List α} : Prim.ne.run [rL (x :: xs)] = some [] := by simp [rL, Prim.run]
class Fits (α : Type) [Enc α] (m : Nat) : Prop where
 fits : ∀ a : α, (Enc.enc a).all (fitsD m) = true
theorem rL_dep {m : Nat} [Fits α m] {xs : List α} : (Prim.dep (m + 1)).run [rL xs] = some [] := by
 have : fitsD (m + 1) (rL xs) = true := by
  unfold rL
  simp only [fitsD, List.all_map, List.all_eq_true]
  intro a _
  exact Fits.fits a
 simp only [Prim.run, this, if_true]
end
instance {m : Nat} : Fits Int m := ⟨fun a => by cases m <;> rfl⟩
instance {m : Nat} : Fits Bool m := ⟨fun a => by cases m <;> rfl⟩
instance {m : Nat} : Fits (List UInt8) m := ⟨fun a => by cases m <;> rfl⟩
theorem fits_rL {α : Type} [Enc α] {m : Nat} [Fits α m] (xs : List α) : fitsD (m + 1) (rL xs) = true := by
 unfold rL
 simp only [fitsD, List.all_map, List.all_eq_true]
 intro a _
 exact Fits.fits a
instance {α : Type} [Enc α] {m : Nat} [Fits α m] : Fits (List α) (m + 1) := ⟨fun xs => by
 show [rL xs].all (fitsD (m + 1)) = true
 simp [fits_rL]⟩
theorem run_minI {a b : Int} : Prim.min.run [i64 a, i64 b] = some [i64 (min a b)] := by
 simp only [Prim.run, foldD, minD, if_true, Option.bind_some, Option.map_some]
 congr 3
 by_cases h : b < a
 ·rw [if_pos (by simpa using h)]; omega
 ·rw [if_neg (by simpa using h)]; omega
theorem run_maxI {a b : Int} : Prim.max.run [i64 a, i64 b] = some [i64 (max a b)] := by
 simp only [Prim.run, foldD, minD, if_true, Option.bind_some, Option.map_some]
 congr 3
 by_cases h : b > a
 ·rw [if_pos (by simpa using h)]; omega
 ·rw [if_neg (by simpa using h)]; omega
theorem tdiv_range {a b : Int} (ha : -9223372036854775808 <= a) (ha' : a <= 9223372036854775807) (hb : 0 < b) : -9223372036854775808 <= a.tdiv b /\ a.tdiv b <= 9223372036854775807 := by
 rcases Int.le_total 0 a with h | h
 ·have h1 := Int.tdiv_nonneg h (Int.le_of_lt hb)
  have h2 := Int.tdiv_le_self b h
  omega
 ·have h1 : (-a).tdiv b = -(a.tdiv b) := Int.neg_tdiv ..
  have h2 := Int.tdiv_nonneg (show 0 <= -a by omega) (Int.le_of_lt hb)
  have h3 := Int.tdiv_le_self b (show 0 <= -a by omega)
  omega
theorem run_quoI {a b : Int} (ha : 0 <= a) (ha' : a <= 9223372036854775807) (hb : 0 < b) : (Prim.bin .quo).run [i64 a, i64 b] = some [i64 (a / b)] := by
 have h := tdiv_range (by omega) ha' hb
 have hb' : ¬ b = 0 := by omega
 rw [<- Int.tdiv_eq_ediv_of_nonneg ha]
 simp only [Prim.run, binD, intOp, if_true, if_neg hb', Option.map_some, wrap_i64 h.1 h.2]
theorem run_remI {a b : Int} (ha : 0 <= a) (hb : 0 < b) : (Prim.bin .rem).run [i64 a, i64 b] = some [i64 (a % b)] := by
 have hb' : ¬ b = 0 := by omega
 simp only [Prim.run, binD, intOp, if_true, if_neg hb', Option.map_some, Int.tmod_eq_emod_of_nonneg ha]
theorem eqsD_ints : ∀ xs ys : List Int, xs.length = ys.length -> eqsD (List.replicate xs.length 0) (xs.map i64) (ys.map i64) = some (decide (xs = ys))
 | [], [], _ => rfl
 | x :: xs, y :: ys, h => by
  have ih := eqsD_ints xs ys (by simpa using h)
  simp only [List.length_cons, List.replicate_succ, List.map_cons, eqsD, eqD, if_true, Option.bind_some, ih, List.cons.injEq, Bool.decide_and]
  by_cases e : x = y
  ·simp [e]
  ·simp [e]
theorem eqs_ints {p : Prop} [Decidable p] (xs ys : List Int) (h : xs.length = ys.length) (hp : p ↔ xs = ys) : (eqsD (List.replicate xs.length 0) (xs.map i64) (ys.map i64)).map (fun b => [D.bool b]) = some [.bool (decide p)] := by
 rw [eqsD_ints xs ys h, Option.map_some, decide_eq_decide.2 hp]
theorem cast1 (i : Nat) : ((i + 1 : Nat) : Int) = (i : Int) + 1 := rfl
theorem SA : (∀ {T β} (k : Kind) (xs : List Atom) (e : β) (ρ : List D), Er T (.leaf k xs e) ρ = some (k, vals ρ xs)) /\
  (∀ {T} {β : Type} (p : Prim) (xs : List Atom) (n : Nat) (k : Tm β) (ρ : List D), Er T (.lt none p xs n k) ρ = stepT T k ρ n (p.run (vals ρ xs))) /\
  (∀ {T} {β : Type} (f : Nat) (xs : List Atom) (n : Nat) (os : List Atom) (k : Tm β) (ρ : List D), Er T (.call none f xs n os k) ρ = stepT T k ρ n (Fun T f (vals ρ xs))) /\
  (∀ {T} {β : Type} (c : Atom) (t e : Tm β) (ρ : List D), Er T (.ite c t e) ρ = testT (Er T t ρ) (Er T e ρ) (val1 ρ c)) /\
  (∀ {T} {β : Type} (i : Nat) (t k : Tm β) (ρ : List D), Er T (.bind i t k) ρ = thenT T i k ρ (Er T t ρ)) /\
  (∀ {T} {β : Type} (a : Atom) (w : Bool) (p : Prim) (xs : List Atom) (n : Nat) (k : Tm β) (ρ : List D),
   Er T (.lt (some (a, w)) p xs n k) ρ = gateT w (stepT T k ρ n (p.run (vals ρ xs))) (Er T k (ρ ++ List.replicate n .undef)) (val1 ρ a)) /\
  (∀ {T} {β : Type} (a : Atom) (w : Bool) (f : Nat) (xs : List Atom) (n : Nat) (os : List Atom) (k : Tm β) (ρ : List D),
   Er T (.call (some (a, w)) f xs n os k) ρ = gateT w (stepT T k ρ n (Fun T f (vals ρ xs))) (Er T k (ρ ++ (List.replicate (n - os.length) .undef ++ vals ρ os))) (val1 ρ a)) :=
 ⟨Ek_leaf, Ek_lt, Ek_call, Ek_ite, Ek_bind, Ek_ltg, Ek_callg⟩
theorem SB : (tick = tock) /\ (∀ {γ : Type} {c : Bool} {a b : γ}, forkT (!c) a b = forkT c b a) /\ (∀ {a b : Option (Kind × List D)} {c : Bool}, gateT true a b (.bool c) = forkT c a b) /\ (∀ {a b : Option (Kind × List D)} {c : Bool}, gateT false a b (.bool c) = forkT c b a) /\
  (∀ {w : Bool} {a b : Option (Kind × List D)}, gateT w a b .undef = b) /\ (∀ {γ : Type} {a b : Option γ} {c : Bool}, testT a b (.bool c) = forkT c a b) /\
  (∀ {T} {β : Type} {i : Nat} {k : Tm β} {ρ : List D} {c : Bool} {a b : Option (Kind × List D)}, thenT T i k ρ (forkT c a b) = forkT c (thenT T i k ρ a) (thenT T i k ρ b)) /\
  (∀ {T} {β : Type} {i j : Nat} {k : Tm β} {ρ ds : List D}, thenT T i k ρ (some (.yield j, ds)) = if j = i then Er T k (ρ ++ ds) else some (.yield j, ds)) /\
  (∀ {T} {β : Type} {i : Nat} {k : Tm β} {ρ ds : List D}, thenT T i k ρ (some (.ret, ds)) = some (.ret, ds)) /\ (∀ {T} {β : Type} {i : Nat} {k : Tm β} {ρ ds : List D}, thenT T i k ρ (some (.cont, ds)) = some (.cont, ds)) /\
  (∀ {c : Bool} {a b : Option (Kind × List D)}, fin (forkT c a b) = forkT c (fin a) (fin b)) /\ (∀ {ds : List D}, fin (some (.ret, ds)) = some ds) /\
  (∀ {γ : Type} {a b : γ}, forkT true a b = a) /\ (∀ {γ : Type} {a b : γ}, forkT false a b = b) :=
 ⟨rfl, by intro γ c a b; cases c <;> rfl, gateT_t, gateT_f, gateT_u, testT_b, thenT_fork, thenT_yield, thenT_ret, thenT_cont, fin_fork, fin_ret, forkT_true, forkT_false⟩
theorem SC : (∀ {a : D} {r : List D}, nth (a :: r) 0 = a) /\ (∀ {a : D} {r : List D} {n : Nat}, nth (a :: r) (n + 1) = nth r n) /\
  (∀ {ρ : List D}, vals ρ [] = []) /\ (∀ {ρ : List D} {i : Nat} {r : List Atom}, vals ρ (.v i :: r) = nth ρ i :: vals ρ r) /\ (∀ {ρ : List D} {d : D} {r : List Atom}, vals ρ (.c d :: r) = d :: vals ρ r) /\
  (∀ {ρ : List D} {i : Nat}, val1 ρ (.v i) = nth ρ i) /\ (∀ {ρ : List D} {d : D}, val1 ρ (.c d) = d) /\
  (∀ {ρ : List D}, ρ ++ [] = ρ) /\ (∀ {a : D} {r s : List D}, (a :: r) ++ s = a :: (r ++ s)) /\ (∀ {s : List D}, [] ++ s = s) /\
  (∀ {T} {β : Type} {k : Tm β} {ρ ds : List D} {n : Nat}, stepT T k ρ n (some ds) = if ds.length = n then Er T k (ρ ++ ds) else none) /\
  (∀ {α : Type} {a : α} {l : List α}, (a :: l).length = l.length + 1) /\ (∀ {α : Type}, ([] : List α).length = 0) /\ (∀ {α : Type} {x : α} {n : Nat}, List.replicate (n + 1) x = x :: List.replicate n x) /\ (∀ {α : Type} {x : α}, List.replicate 0 x = []) :=
 ⟨nth_0, nth_s, vals_n, vals_v, vals_c, val1_v, val1_c, app_n, app_c, app_0, stepT_l, List.length_cons, List.length_nil, List.replicate_succ, List.replicate_zero⟩
theorem SP : (∀ {a b : Int}, (Prim.bin .lss).run [i64 a, i64 b] = some [.bool (decide (a < b))]) /\ (∀ {a b : Int}, (Prim.bin .gtr).run [i64 a, i64 b] = some [.bool (decide (b < a))]) /\
  (∀ {a b : Int}, (Prim.bin .leq).run [i64 a, i64 b] = some [.bool (decide (a <= b))]) /\ (∀ {a b : Int}, (Prim.bin .geq).run [i64 a, i64 b] = some [.bool (decide (b <= a))]) /\
  (∀ {a b : Int}, (Prim.bin .neq).run [i64 a, i64 b] = some [.bool (!(a == b))]) /\ (∀ {a b : Int}, (Prim.bin .eql).run [i64 a, i64 b] = some [.bool (a == b)]) /\
  (∀ {b : Bool}, Prim.not.run [.bool b] = some [.bool (!b)]) /\ (∀ {c : Bool} {a b : D}, Prim.pick.run [.bool c, a, b] = some [forkT c a b]) /\ (∀ {a b : Bool}, (Prim.eqb true).run [.bool a, .bool b] = some [.bool (!(a == b))]) /\ (∀ {a b : Bool}, (Prim.eqb false).run [.bool a, .bool b] = some [.bool (a == b)]) /\
  (∀ {d : D}, Prim.id.run [d] = some [d]) /\ (∀ {α : Type} [Enc α] {xs : List α}, Prim.len.run [rL xs] = some [i64 xs.length]) /\
  (∀ {α : Type} [Enc α] {xs : List α} {k : Int}, InB xs k -> Prim.inb.run [rL xs, i64 k] = some []) /\
  (∀ {a b : Int}, Prim.min.run [i64 a, i64 b] = some [i64 (min a b)]) /\ (∀ {a b : Int}, Prim.max.run [i64 a, i64 b] = some [i64 (max a b)]) /\
  (∀ {α : Type} [Enc α] {m : Nat} [Fits α m] {xs : List α}, (Prim.dep (m + 1)).run [rL xs] = some []) :=
 ⟨run_lss, run_gtr, run_leq, run_geq, run_neq, run_eql, run_not, by intro c a b; cases c <;> rfl, run_eqb, rfl, run_id, rL_len, rL_inb, run_minI, run_maxI, rL_dep⟩
end Go.Proofs.YtpgnlmfmlffjcaaGreat.Rf

namespace Go.Proofs.YtpgnlmfmlffjcaaGreat.Rf
set_option linter.unusedVariables false
set_option maxRecDepth 4000
structure TCmd where
 kind : Int
 id : Int
 src : Int
 dst : Int
 amt : Int
 deriving DecidableEq
instance : Inhabited TCmd := ⟨⟨0, 0, 0, 0, 0⟩⟩
instance : Enc TCmd := ⟨5, fun x => [i64 x.kind, i64 x.id, i64 x.src, i64 x.dst, i64 x.amt], fun _ => rfl⟩
instance {m : Nat} : Fits TCmd m := ⟨fun x => by cases m <;> rfl⟩
structure TAttr where
 seq : Int
 deps : (List Int)
 deriving DecidableEq
instance : Inhabited TAttr := ⟨⟨0, []⟩⟩
instance : Enc TAttr := ⟨2, fun x => [i64 x.seq, rL x.deps], fun _ => rfl⟩
theorem enc_TAttr (x : TAttr) : Enc.enc x = [i64 x.seq, rL x.deps] := rfl
instance {m : Nat} : Fits TAttr (m + 1) := ⟨fun x => by
 rw [enc_TAttr]
 simp only [List.all_cons, List.all_nil, Bool.and_true, Bool.and_eq_true]
 refine ⟨?_, ?_⟩
 all_goals first | rfl | exact fits_rL _⟩
structure TRow where
 ballot : Int
 vote : Int
 state : Int
 cmd : TCmd
 attr : TAttr
 deriving DecidableEq
instance : Inhabited TRow := ⟨⟨0, 0, 0, default, default⟩⟩
instance : Enc TRow := ⟨10, fun x => [i64 x.ballot, i64 x.vote, i64 x.state, i64 x.cmd.kind, i64 x.cmd.id, i64 x.cmd.src, i64 x.cmd.dst, i64 x.cmd.amt, i64 x.attr.seq, rL x.attr.deps], fun _ => rfl⟩
theorem enc_TRow (x : TRow) : Enc.enc x = [i64 x.ballot, i64 x.vote, i64 x.state, i64 x.cmd.kind, i64 x.cmd.id, i64 x.cmd.src, i64 x.cmd.dst, i64 x.cmd.amt, i64 x.attr.seq, rL x.attr.deps] := rfl
instance {m : Nat} : Fits TRow (m + 1) := ⟨fun x => by
 rw [enc_TRow]
 simp only [List.all_cons, List.all_nil, Bool.and_true, Bool.and_eq_true]
 refine ⟨?_, ?_, ?_, ?_, ?_, ?_, ?_, ?_, ?_, ?_⟩
 all_goals first | rfl | exact fits_rL _⟩
structure TTable where
 n : Int
 rows : (List (List TRow))
 deriving DecidableEq
instance : Inhabited TTable := ⟨⟨0, []⟩⟩
instance : Enc TTable := ⟨2, fun x => [i64 x.n, rL x.rows], fun _ => rfl⟩
theorem enc_TTable (x : TTable) : Enc.enc x = [i64 x.n, rL x.rows] := rfl
instance {m : Nat} : Fits TTable (m + 3) := ⟨fun x => by
 rw [enc_TTable]
 simp only [List.all_cons, List.all_nil, Bool.and_true, Bool.and_eq_true]
 refine ⟨?_, ?_⟩
 all_goals first | rfl | exact fits_rL _⟩
structure TLead where
 rep : Int
 no : Int
 ballot : Int
 phase : Int
 cmd : TCmd
 first : TAttr
 attr : TAttr
 same : Bool
 who : (List Int)
 seen : (List TRow)
 deriving DecidableEq
instance : Inhabited TLead := ⟨⟨0, 0, 0, 0, default, default, default, false, [], []⟩⟩
instance : Enc TLead := ⟨16, fun x => [i64 x.rep, i64 x.no, i64 x.ballot, i64 x.phase, i64 x.cmd.kind, i64 x.cmd.id, i64 x.cmd.src, i64 x.cmd.dst, i64 x.cmd.amt, i64 x.first.seq, rL x.first.deps, i64 x.attr.seq, rL x.attr.deps, .bool x.same, rL x.who, rL x.seen], fun _ => rfl⟩
theorem enc_TLead (x : TLead) : Enc.enc x = [i64 x.rep, i64 x.no, i64 x.ballot, i64 x.phase, i64 x.cmd.kind, i64 x.cmd.id, i64 x.cmd.src, i64 x.cmd.dst, i64 x.cmd.amt, i64 x.first.seq, rL x.first.deps, i64 x.attr.seq, rL x.attr.deps, .bool x.same, rL x.who, rL x.seen] := rfl
instance {m : Nat} : Fits TLead (m + 2) := ⟨fun x => by
 rw [enc_TLead]
 simp only [List.all_cons, List.all_nil, Bool.and_true, Bool.and_eq_true]
 refine ⟨?_, ?_, ?_, ?_, ?_, ?_, ?_, ?_, ?_, ?_, ?_, ?_, ?_, ?_, ?_, ?_⟩
 all_goals first | rfl | exact fits_rL _⟩
structure TRep where
 me : Int
 table : TTable
 leads : (List TLead)
 deriving DecidableEq
instance : Inhabited TRep := ⟨⟨0, default, []⟩⟩
instance : Enc TRep := ⟨4, fun x => [i64 x.me, i64 x.table.n, rL x.table.rows, rL x.leads], fun _ => rfl⟩
theorem enc_TRep (x : TRep) : Enc.enc x = [i64 x.me, i64 x.table.n, rL x.table.rows, rL x.leads] := rfl
instance {m : Nat} : Fits TRep (m + 3) := ⟨fun x => by
 rw [enc_TRep]
 simp only [List.all_cons, List.all_nil, Bool.and_true, Bool.and_eq_true]
 refine ⟨?_, ?_, ?_, ?_⟩
 all_goals first | rfl | exact fits_rL _⟩
structure TMsg where
 kind : Int
 src : Int
 dst : Int
 rep : Int
 no : Int
 ballot : Int
 vote : Int
 state : Int
 cmd : TCmd
 attr : TAttr
 deriving DecidableEq
instance : Inhabited TMsg := ⟨⟨0, 0, 0, 0, 0, 0, 0, 0, default, default⟩⟩
instance : Enc TMsg := ⟨15, fun x => [i64 x.kind, i64 x.src, i64 x.dst, i64 x.rep, i64 x.no, i64 x.ballot, i64 x.vote, i64 x.state, i64 x.cmd.kind, i64 x.cmd.id, i64 x.cmd.src, i64 x.cmd.dst, i64 x.cmd.amt, i64 x.attr.seq, rL x.attr.deps], fun _ => rfl⟩
theorem enc_TMsg (x : TMsg) : Enc.enc x = [i64 x.kind, i64 x.src, i64 x.dst, i64 x.rep, i64 x.no, i64 x.ballot, i64 x.vote, i64 x.state, i64 x.cmd.kind, i64 x.cmd.id, i64 x.cmd.src, i64 x.cmd.dst, i64 x.cmd.amt, i64 x.attr.seq, rL x.attr.deps] := rfl
instance {m : Nat} : Fits TMsg (m + 1) := ⟨fun x => by
 rw [enc_TMsg]
 simp only [List.all_cons, List.all_nil, Bool.and_true, Bool.and_eq_true]
 refine ⟨?_, ?_, ?_, ?_, ?_, ?_, ?_, ?_, ?_, ?_, ?_, ?_, ?_, ?_, ?_⟩
 all_goals first | rfl | exact fits_rL _⟩
structure TAsked where
 rep : Int
 no : Int
 cmd : TCmd
 deriving DecidableEq
instance : Inhabited TAsked := ⟨⟨0, 0, default⟩⟩
instance : Enc TAsked := ⟨7, fun x => [i64 x.rep, i64 x.no, i64 x.cmd.kind, i64 x.cmd.id, i64 x.cmd.src, i64 x.cmd.dst, i64 x.cmd.amt], fun _ => rfl⟩
instance {m : Nat} : Fits TAsked m := ⟨fun x => by cases m <;> rfl⟩
structure TNet where
 reps : (List TRep)
 bag : (List TMsg)
 asked : (List TAsked)
 deriving DecidableEq
instance : Inhabited TNet := ⟨⟨[], [], []⟩⟩
instance : Enc TNet := ⟨3, fun x => [rL x.reps, rL x.bag, rL x.asked], fun _ => rfl⟩
theorem enc_TNet (x : TNet) : Enc.enc x = [rL x.reps, rL x.bag, rL x.asked] := rfl
instance {m : Nat} : Fits TNet (m + 4) := ⟨fun x => by
 rw [enc_TNet]
 simp only [List.all_cons, List.all_nil, Bool.and_true, Bool.and_eq_true]
 refine ⟨?_, ?_, ?_⟩
 all_goals first | rfl | exact fits_rL _⟩
structure TTold where
 code : Int
 sum : Int
 deriving DecidableEq
instance : Inhabited TTold := ⟨⟨0, 0⟩⟩
instance : Enc TTold := ⟨2, fun x => [i64 x.code, i64 x.sum], fun _ => rfl⟩
instance {m : Nat} : Fits TTold m := ⟨fun x => by cases m <;> rfl⟩
structure TEntry where
 rep : Int
 no : Int
 cmd : TCmd
 told : TTold
 deriving DecidableEq
instance : Inhabited TEntry := ⟨⟨0, 0, default, default⟩⟩
instance : Enc TEntry := ⟨9, fun x => [i64 x.rep, i64 x.no, i64 x.cmd.kind, i64 x.cmd.id, i64 x.cmd.src, i64 x.cmd.dst, i64 x.cmd.amt, i64 x.told.code, i64 x.told.sum], fun _ => rfl⟩
instance {m : Nat} : Fits TEntry m := ⟨fun x => by cases m <;> rfl⟩
structure TClerk where
 sums : (List Int)
 last : (List Int)
 told : (List TTold)
 deriving DecidableEq
instance : Inhabited TClerk := ⟨⟨[], [], []⟩⟩
instance : Enc TClerk := ⟨3, fun x => [rL x.sums, rL x.last, rL x.told], fun _ => rfl⟩
theorem enc_TClerk (x : TClerk) : Enc.enc x = [rL x.sums, rL x.last, rL x.told] := rfl
instance {m : Nat} : Fits TClerk (m + 1) := ⟨fun x => by
 rw [enc_TClerk]
 simp only [List.all_cons, List.all_nil, Bool.and_true, Bool.and_eq_true]
 refine ⟨?_, ?_, ?_⟩
 all_goals first | rfl | exact fits_rL _⟩
structure TAsk where
 client : Int
 no : Int
 cmd : TCmd
 deriving DecidableEq
instance : Inhabited TAsk := ⟨⟨0, 0, default⟩⟩
instance : Enc TAsk := ⟨7, fun x => [i64 x.client, i64 x.no, i64 x.cmd.kind, i64 x.cmd.id, i64 x.cmd.src, i64 x.cmd.dst, i64 x.cmd.amt], fun _ => rfl⟩
instance {m : Nat} : Fits TAsk m := ⟨fun x => by cases m <;> rfl⟩
theorem S_eta : (∀ x : TCmd, TCmd.mk x.kind x.id x.src x.dst x.amt = x) /\ (∀ x : TAttr, TAttr.mk x.seq x.deps = x) /\ (∀ x : TRow, TRow.mk x.ballot x.vote x.state x.cmd x.attr = x) /\ (∀ x : TTable, TTable.mk x.n x.rows = x) /\ (∀ x : TLead, TLead.mk x.rep x.no x.ballot x.phase x.cmd x.first x.attr x.same x.who x.seen = x) /\ (∀ x : TRep, TRep.mk x.me x.table x.leads = x) /\ (∀ x : TMsg, TMsg.mk x.kind x.src x.dst x.rep x.no x.ballot x.vote x.state x.cmd x.attr = x) /\ (∀ x : TAsked, TAsked.mk x.rep x.no x.cmd = x) /\ (∀ x : TNet, TNet.mk x.reps x.bag x.asked = x) /\ (∀ x : TTold, TTold.mk x.code x.sum = x) /\ (∀ x : TEntry, TEntry.mk x.rep x.no x.cmd x.told = x) /\ (∀ x : TClerk, TClerk.mk x.sums x.last x.told = x) /\ (∀ x : TAsk, TAsk.mk x.client x.no x.cmd = x) :=
 ⟨fun _ => rfl, fun _ => rfl, fun _ => rfl, fun _ => rfl, fun _ => rfl, fun _ => rfl, fun _ => rfl, fun _ => rfl, fun _ => rfl, fun _ => rfl, fun _ => rfl, fun _ => rfl, fun _ => rfl⟩
theorem S_row : (∀ {xs : List Int} {k : Int}, InB xs k -> (Prim.row 1 0 [true]).run [rL xs, i64 k] = some [i64 (atI xs k)]) /\
  (∀ {xs : List (List UInt8)} {k : Int}, InB xs k -> (Prim.row 1 0 [true]).run [rL xs, i64 k] = some [.str (atI xs k)]) /\
  (∀ {xs : List (List Int)} {k : Int}, InB xs k -> (Prim.row 1 0 [false]).run [rL xs, i64 k] = some [rL (atI xs k)]) /\
  (∀ {xs : List (List TRow)} {k : Int}, InB xs k -> (Prim.row 1 0 [false]).run [rL xs, i64 k] = some [rL (atI xs k)]) /\
  (∀ {xs : List (List (List Int))} {k : Int}, InB xs k -> (Prim.row 1 0 [false]).run [rL xs, i64 k] = some [rL (atI xs k)]) /\
  (∀ {xs : List TCmd} {k : Int}, InB xs k -> (Prim.row 5 0 [true, true, true, true, true]).run [rL xs, i64 k] = some [i64 (atI xs k).kind, i64 (atI xs k).id, i64 (atI xs k).src, i64 (atI xs k).dst, i64 (atI xs k).amt]) /\
  (∀ {xs : List TRow} {k : Int}, InB xs k -> (Prim.row 10 0 [true, true, true, true, true, true, true, true, true, false]).run [rL xs, i64 k] = some [i64 (atI xs k).ballot, i64 (atI xs k).vote, i64 (atI xs k).state, i64 (atI xs k).cmd.kind, i64 (atI xs k).cmd.id, i64 (atI xs k).cmd.src, i64 (atI xs k).cmd.dst, i64 (atI xs k).cmd.amt, i64 (atI xs k).attr.seq, rL (atI xs k).attr.deps]) /\
  (∀ {xs : List TRow} {k : Int}, InB xs k -> (Prim.row 10 0 [true]).run [rL xs, i64 k] = some [i64 (atI xs k).ballot]) /\
  (∀ {xs : List TRow} {k : Int}, InB xs k -> (Prim.row 10 1 [true]).run [rL xs, i64 k] = some [i64 (atI xs k).vote]) /\
  (∀ {xs : List TRow} {k : Int}, InB xs k -> (Prim.row 10 2 [true]).run [rL xs, i64 k] = some [i64 (atI xs k).state]) /\
  (∀ {xs : List TRow} {k : Int}, InB xs k -> (Prim.row 10 3 [true, true, true, true, true]).run [rL xs, i64 k] = some [i64 (atI xs k).cmd.kind, i64 (atI xs k).cmd.id, i64 (atI xs k).cmd.src, i64 (atI xs k).cmd.dst, i64 (atI xs k).cmd.amt]) /\
  (∀ {xs : List TRow} {k : Int}, InB xs k -> (Prim.row 10 3 [true]).run [rL xs, i64 k] = some [i64 (atI xs k).cmd.kind]) /\
  (∀ {xs : List TRow} {k : Int}, InB xs k -> (Prim.row 10 4 [true]).run [rL xs, i64 k] = some [i64 (atI xs k).cmd.id]) /\
  (∀ {xs : List TRow} {k : Int}, InB xs k -> (Prim.row 10 5 [true]).run [rL xs, i64 k] = some [i64 (atI xs k).cmd.src]) /\
  (∀ {xs : List TRow} {k : Int}, InB xs k -> (Prim.row 10 6 [true]).run [rL xs, i64 k] = some [i64 (atI xs k).cmd.dst]) /\
  (∀ {xs : List TRow} {k : Int}, InB xs k -> (Prim.row 10 7 [true]).run [rL xs, i64 k] = some [i64 (atI xs k).cmd.amt]) /\
  (∀ {xs : List TRow} {k : Int}, InB xs k -> (Prim.row 10 8 [true, false]).run [rL xs, i64 k] = some [i64 (atI xs k).attr.seq, rL (atI xs k).attr.deps]) /\
  (∀ {xs : List TRow} {k : Int}, InB xs k -> (Prim.row 10 8 [true]).run [rL xs, i64 k] = some [i64 (atI xs k).attr.seq]) /\
  (∀ {xs : List TRow} {k : Int}, InB xs k -> (Prim.row 10 9 [false]).run [rL xs, i64 k] = some [rL (atI xs k).attr.deps]) /\
  (∀ {xs : List TTable} {k : Int}, InB xs k -> (Prim.row 2 0 [true]).run [rL xs, i64 k] = some [i64 (atI xs k).n]) /\
  (∀ {xs : List TLead} {k : Int}, InB xs k -> (Prim.row 16 0 [true, true, true, true, true, true, true, true, true, true, false, true, false, true, false, false]).run [rL xs, i64 k] = some [i64 (atI xs k).rep, i64 (atI xs k).no, i64 (atI xs k).ballot, i64 (atI xs k).phase, i64 (atI xs k).cmd.kind, i64 (atI xs k).cmd.id, i64 (atI xs k).cmd.src, i64 (atI xs k).cmd.dst, i64 (atI xs k).cmd.amt, i64 (atI xs k).first.seq, rL (atI xs k).first.deps, i64 (atI xs k).attr.seq, rL (atI xs k).attr.deps, .bool (atI xs k).same, rL (atI xs k).who, rL (atI xs k).seen]) /\
  (∀ {xs : List TLead} {k : Int}, InB xs k -> (Prim.row 16 0 [true]).run [rL xs, i64 k] = some [i64 (atI xs k).rep]) /\
  (∀ {xs : List TLead} {k : Int}, InB xs k -> (Prim.row 16 1 [true]).run [rL xs, i64 k] = some [i64 (atI xs k).no]) /\
  (∀ {xs : List TLead} {k : Int}, InB xs k -> (Prim.row 16 10 [false]).run [rL xs, i64 k] = some [rL (atI xs k).first.deps]) /\
  (∀ {xs : List TLead} {k : Int}, InB xs k -> (Prim.row 16 11 [true]).run [rL xs, i64 k] = some [i64 (atI xs k).attr.seq]) /\
  (∀ {xs : List TLead} {k : Int}, InB xs k -> (Prim.row 16 12 [false]).run [rL xs, i64 k] = some [rL (atI xs k).attr.deps]) /\
  (∀ {xs : List TLead} {k : Int}, InB xs k -> (Prim.row 16 13 [true]).run [rL xs, i64 k] = some [.bool (atI xs k).same]) /\
  (∀ {xs : List TLead} {k : Int}, InB xs k -> (Prim.row 16 14 [false]).run [rL xs, i64 k] = some [rL (atI xs k).who]) /\
  (∀ {xs : List TLead} {k : Int}, InB xs k -> (Prim.row 16 15 [false]).run [rL xs, i64 k] = some [rL (atI xs k).seen]) /\
  (∀ {xs : List TLead} {k : Int}, InB xs k -> (Prim.row 16 2 [true]).run [rL xs, i64 k] = some [i64 (atI xs k).ballot]) /\
  (∀ {xs : List TLead} {k : Int}, InB xs k -> (Prim.row 16 3 [true]).run [rL xs, i64 k] = some [i64 (atI xs k).phase]) /\
  (∀ {xs : List TLead} {k : Int}, InB xs k -> (Prim.row 16 4 [true]).run [rL xs, i64 k] = some [i64 (atI xs k).cmd.kind]) /\
  (∀ {xs : List TLead} {k : Int}, InB xs k -> (Prim.row 16 5 [true]).run [rL xs, i64 k] = some [i64 (atI xs k).cmd.id]) /\
  (∀ {xs : List TLead} {k : Int}, InB xs k -> (Prim.row 16 6 [true]).run [rL xs, i64 k] = some [i64 (atI xs k).cmd.src]) /\
  (∀ {xs : List TLead} {k : Int}, InB xs k -> (Prim.row 16 7 [true]).run [rL xs, i64 k] = some [i64 (atI xs k).cmd.dst]) /\
  (∀ {xs : List TLead} {k : Int}, InB xs k -> (Prim.row 16 8 [true]).run [rL xs, i64 k] = some [i64 (atI xs k).cmd.amt]) /\
  (∀ {xs : List TLead} {k : Int}, InB xs k -> (Prim.row 16 9 [true]).run [rL xs, i64 k] = some [i64 (atI xs k).first.seq]) /\
  (∀ {xs : List TRep} {k : Int}, InB xs k -> (Prim.row 4 0 [true, true, false, false]).run [rL xs, i64 k] = some [i64 (atI xs k).me, i64 (atI xs k).table.n, rL (atI xs k).table.rows, rL (atI xs k).leads]) /\
  (∀ {xs : List TRep} {k : Int}, InB xs k -> (Prim.row 4 1 [true, false]).run [rL xs, i64 k] = some [i64 (atI xs k).table.n, rL (atI xs k).table.rows]) /\
  (∀ {xs : List TRep} {k : Int}, InB xs k -> (Prim.row 4 2 [false]).run [rL xs, i64 k] = some [rL (atI xs k).table.rows]) /\
  (∀ {xs : List TRep} {k : Int}, InB xs k -> (Prim.row 4 3 [false]).run [rL xs, i64 k] = some [rL (atI xs k).leads]) /\
  (∀ {xs : List TMsg} {k : Int}, InB xs k -> (Prim.row 15 0 [true, true, true, true, true, true, true, true, true, true, true, true, true, true, false]).run [rL xs, i64 k] = some [i64 (atI xs k).kind, i64 (atI xs k).src, i64 (atI xs k).dst, i64 (atI xs k).rep, i64 (atI xs k).no, i64 (atI xs k).ballot, i64 (atI xs k).vote, i64 (atI xs k).state, i64 (atI xs k).cmd.kind, i64 (atI xs k).cmd.id, i64 (atI xs k).cmd.src, i64 (atI xs k).cmd.dst, i64 (atI xs k).cmd.amt, i64 (atI xs k).attr.seq, rL (atI xs k).attr.deps]) /\
  (∀ {xs : List TMsg} {k : Int}, InB xs k -> (Prim.row 15 0 [true]).run [rL xs, i64 k] = some [i64 (atI xs k).kind]) /\
  (∀ {xs : List TMsg} {k : Int}, InB xs k -> (Prim.row 15 1 [true]).run [rL xs, i64 k] = some [i64 (atI xs k).src]) /\
  (∀ {xs : List TMsg} {k : Int}, InB xs k -> (Prim.row 15 10 [true]).run [rL xs, i64 k] = some [i64 (atI xs k).cmd.src]) /\
  (∀ {xs : List TMsg} {k : Int}, InB xs k -> (Prim.row 15 11 [true]).run [rL xs, i64 k] = some [i64 (atI xs k).cmd.dst]) /\
  (∀ {xs : List TMsg} {k : Int}, InB xs k -> (Prim.row 15 12 [true]).run [rL xs, i64 k] = some [i64 (atI xs k).cmd.amt]) /\
  (∀ {xs : List TMsg} {k : Int}, InB xs k -> (Prim.row 15 13 [true]).run [rL xs, i64 k] = some [i64 (atI xs k).attr.seq]) /\
  (∀ {xs : List TMsg} {k : Int}, InB xs k -> (Prim.row 15 14 [false]).run [rL xs, i64 k] = some [rL (atI xs k).attr.deps]) /\
  (∀ {xs : List TMsg} {k : Int}, InB xs k -> (Prim.row 15 2 [true]).run [rL xs, i64 k] = some [i64 (atI xs k).dst]) /\
  (∀ {xs : List TMsg} {k : Int}, InB xs k -> (Prim.row 15 3 [true]).run [rL xs, i64 k] = some [i64 (atI xs k).rep]) /\
  (∀ {xs : List TMsg} {k : Int}, InB xs k -> (Prim.row 15 4 [true]).run [rL xs, i64 k] = some [i64 (atI xs k).no]) /\
  (∀ {xs : List TMsg} {k : Int}, InB xs k -> (Prim.row 15 5 [true]).run [rL xs, i64 k] = some [i64 (atI xs k).ballot]) /\
  (∀ {xs : List TMsg} {k : Int}, InB xs k -> (Prim.row 15 6 [true]).run [rL xs, i64 k] = some [i64 (atI xs k).vote]) /\
  (∀ {xs : List TMsg} {k : Int}, InB xs k -> (Prim.row 15 7 [true]).run [rL xs, i64 k] = some [i64 (atI xs k).state]) /\
  (∀ {xs : List TMsg} {k : Int}, InB xs k -> (Prim.row 15 8 [true]).run [rL xs, i64 k] = some [i64 (atI xs k).cmd.kind]) /\
  (∀ {xs : List TMsg} {k : Int}, InB xs k -> (Prim.row 15 9 [true]).run [rL xs, i64 k] = some [i64 (atI xs k).cmd.id]) /\
  (∀ {xs : List TAsked} {k : Int}, InB xs k -> (Prim.row 7 0 [true, true, true, true, true, true, true]).run [rL xs, i64 k] = some [i64 (atI xs k).rep, i64 (atI xs k).no, i64 (atI xs k).cmd.kind, i64 (atI xs k).cmd.id, i64 (atI xs k).cmd.src, i64 (atI xs k).cmd.dst, i64 (atI xs k).cmd.amt]) /\
  (∀ {xs : List TAsked} {k : Int}, InB xs k -> (Prim.row 7 0 [true]).run [rL xs, i64 k] = some [i64 (atI xs k).rep]) /\
  (∀ {xs : List TAsked} {k : Int}, InB xs k -> (Prim.row 7 1 [true]).run [rL xs, i64 k] = some [i64 (atI xs k).no]) /\
  (∀ {xs : List TAsked} {k : Int}, InB xs k -> (Prim.row 7 2 [true, true, true, true, true]).run [rL xs, i64 k] = some [i64 (atI xs k).cmd.kind, i64 (atI xs k).cmd.id, i64 (atI xs k).cmd.src, i64 (atI xs k).cmd.dst, i64 (atI xs k).cmd.amt]) /\
  (∀ {xs : List TAsked} {k : Int}, InB xs k -> (Prim.row 7 2 [true]).run [rL xs, i64 k] = some [i64 (atI xs k).cmd.kind]) /\
  (∀ {xs : List TAsked} {k : Int}, InB xs k -> (Prim.row 7 3 [true]).run [rL xs, i64 k] = some [i64 (atI xs k).cmd.id]) /\
  (∀ {xs : List TAsked} {k : Int}, InB xs k -> (Prim.row 7 4 [true]).run [rL xs, i64 k] = some [i64 (atI xs k).cmd.src]) /\
  (∀ {xs : List TAsked} {k : Int}, InB xs k -> (Prim.row 7 5 [true]).run [rL xs, i64 k] = some [i64 (atI xs k).cmd.dst]) /\
  (∀ {xs : List TAsked} {k : Int}, InB xs k -> (Prim.row 7 6 [true]).run [rL xs, i64 k] = some [i64 (atI xs k).cmd.amt]) /\
  (∀ {xs : List TTold} {k : Int}, InB xs k -> (Prim.row 2 0 [true, true]).run [rL xs, i64 k] = some [i64 (atI xs k).code, i64 (atI xs k).sum]) /\
  (∀ {xs : List TTold} {k : Int}, InB xs k -> (Prim.row 2 0 [true]).run [rL xs, i64 k] = some [i64 (atI xs k).code]) /\
  (∀ {xs : List TTold} {k : Int}, InB xs k -> (Prim.row 2 1 [true]).run [rL xs, i64 k] = some [i64 (atI xs k).sum]) /\
  (∀ {xs : List TEntry} {k : Int}, InB xs k -> (Prim.row 9 0 [true, true, true, true, true, true, true, true, true]).run [rL xs, i64 k] = some [i64 (atI xs k).rep, i64 (atI xs k).no, i64 (atI xs k).cmd.kind, i64 (atI xs k).cmd.id, i64 (atI xs k).cmd.src, i64 (atI xs k).cmd.dst, i64 (atI xs k).cmd.amt, i64 (atI xs k).told.code, i64 (atI xs k).told.sum]) /\
  (∀ {xs : List TEntry} {k : Int}, InB xs k -> (Prim.row 9 0 [true]).run [rL xs, i64 k] = some [i64 (atI xs k).rep]) /\
  (∀ {xs : List TEntry} {k : Int}, InB xs k -> (Prim.row 9 1 [true]).run [rL xs, i64 k] = some [i64 (atI xs k).no]) /\
  (∀ {xs : List TEntry} {k : Int}, InB xs k -> (Prim.row 9 2 [true]).run [rL xs, i64 k] = some [i64 (atI xs k).cmd.kind]) /\
  (∀ {xs : List TEntry} {k : Int}, InB xs k -> (Prim.row 9 3 [true]).run [rL xs, i64 k] = some [i64 (atI xs k).cmd.id]) /\
  (∀ {xs : List TEntry} {k : Int}, InB xs k -> (Prim.row 9 4 [true]).run [rL xs, i64 k] = some [i64 (atI xs k).cmd.src]) /\
  (∀ {xs : List TEntry} {k : Int}, InB xs k -> (Prim.row 9 5 [true]).run [rL xs, i64 k] = some [i64 (atI xs k).cmd.dst]) /\
  (∀ {xs : List TEntry} {k : Int}, InB xs k -> (Prim.row 9 6 [true]).run [rL xs, i64 k] = some [i64 (atI xs k).cmd.amt]) /\
  (∀ {xs : List TEntry} {k : Int}, InB xs k -> (Prim.row 9 7 [true, true]).run [rL xs, i64 k] = some [i64 (atI xs k).told.code, i64 (atI xs k).told.sum]) /\
  (∀ {xs : List TEntry} {k : Int}, InB xs k -> (Prim.row 9 7 [true]).run [rL xs, i64 k] = some [i64 (atI xs k).told.code]) /\
  (∀ {xs : List TEntry} {k : Int}, InB xs k -> (Prim.row 9 8 [true]).run [rL xs, i64 k] = some [i64 (atI xs k).told.sum]) /\
  (∀ {xs : List TAsk} {k : Int}, InB xs k -> (Prim.row 7 0 [true, true, true, true, true, true, true]).run [rL xs, i64 k] = some [i64 (atI xs k).client, i64 (atI xs k).no, i64 (atI xs k).cmd.kind, i64 (atI xs k).cmd.id, i64 (atI xs k).cmd.src, i64 (atI xs k).cmd.dst, i64 (atI xs k).cmd.amt]) /\
  (∀ {xs : List TAsk} {k : Int}, InB xs k -> (Prim.row 7 0 [true]).run [rL xs, i64 k] = some [i64 (atI xs k).client]) /\
  (∀ {xs : List TAsk} {k : Int}, InB xs k -> (Prim.row 7 1 [true]).run [rL xs, i64 k] = some [i64 (atI xs k).no]) /\
  (∀ {xs : List TAsk} {k : Int}, InB xs k -> (Prim.row 7 2 [true, true, true, true, true]).run [rL xs, i64 k] = some [i64 (atI xs k).cmd.kind, i64 (atI xs k).cmd.id, i64 (atI xs k).cmd.src, i64 (atI xs k).cmd.dst, i64 (atI xs k).cmd.amt]) /\
  (∀ {xs : List TAsk} {k : Int}, InB xs k -> (Prim.row 7 2 [true]).run [rL xs, i64 k] = some [i64 (atI xs k).cmd.kind]) /\
  (∀ {xs : List TAsk} {k : Int}, InB xs k -> (Prim.row 7 3 [true]).run [rL xs, i64 k] = some [i64 (atI xs k).cmd.id]) /\
  (∀ {xs : List TAsk} {k : Int}, InB xs k -> (Prim.row 7 4 [true]).run [rL xs, i64 k] = some [i64 (atI xs k).cmd.src]) /\
  (∀ {xs : List TAsk} {k : Int}, InB xs k -> (Prim.row 7 5 [true]).run [rL xs, i64 k] = some [i64 (atI xs k).cmd.dst]) /\
  (∀ {xs : List TAsk} {k : Int}, InB xs k -> (Prim.row 7 6 [true]).run [rL xs, i64 k] = some [i64 (atI xs k).cmd.amt]) :=
 ⟨fun h => (rL_row rfl h),
  fun h => (rL_row rfl h),
  fun h => (rL_row rfl h),
  fun h => (rL_row rfl h),
  fun h => (rL_row rfl h),
  fun h => (rL_row rfl h),
  fun h => (rL_row rfl h),
  fun h => (rL_row rfl h),
  fun h => (rL_row rfl h),
  fun h => (rL_row rfl h),
  fun h => (rL_row rfl h),
  fun h => (rL_row rfl h),
  fun h => (rL_row rfl h),
  fun h => (rL_row rfl h),
  fun h => (rL_row rfl h),
  fun h => (rL_row rfl h),
  fun h => (rL_row rfl h),
  fun h => (rL_row rfl h),
  fun h => (rL_row rfl h),
  fun h => (rL_row rfl h),
  fun h => (rL_row rfl h),
  fun h => (rL_row rfl h),
  fun h => (rL_row rfl h),
  fun h => (rL_row rfl h),
  fun h => (rL_row rfl h),
  fun h => (rL_row rfl h),
  fun h => (rL_row rfl h),
  fun h => (rL_row rfl h),
  fun h => (rL_row rfl h),
  fun h => (rL_row rfl h),
  fun h => (rL_row rfl h),
  fun h => (rL_row rfl h),
  fun h => (rL_row rfl h),
  fun h => (rL_row rfl h),
  fun h => (rL_row rfl h),
  fun h => (rL_row rfl h),
  fun h => (rL_row rfl h),
  fun h => (rL_row rfl h),
  fun h => (rL_row rfl h),
  fun h => (rL_row rfl h),
  fun h => (rL_row rfl h),
  fun h => (rL_row rfl h),
  fun h => (rL_row rfl h),
  fun h => (rL_row rfl h),
  fun h => (rL_row rfl h),
  fun h => (rL_row rfl h),
  fun h => (rL_row rfl h),
  fun h => (rL_row rfl h),
  fun h => (rL_row rfl h),
  fun h => (rL_row rfl h),
  fun h => (rL_row rfl h),
  fun h => (rL_row rfl h),
  fun h => (rL_row rfl h),
  fun h => (rL_row rfl h),
  fun h => (rL_row rfl h),
  fun h => (rL_row rfl h),
  fun h => (rL_row rfl h),
  fun h => (rL_row rfl h),
  fun h => (rL_row rfl h),
  fun h => (rL_row rfl h),
  fun h => (rL_row rfl h),
  fun h => (rL_row rfl h),
  fun h => (rL_row rfl h),
  fun h => (rL_row rfl h),
  fun h => (rL_row rfl h),
  fun h => (rL_row rfl h),
  fun h => (rL_row rfl h),
  fun h => (rL_row rfl h),
  fun h => (rL_row rfl h),
  fun h => (rL_row rfl h),
  fun h => (rL_row rfl h),
  fun h => (rL_row rfl h),
  fun h => (rL_row rfl h),
  fun h => (rL_row rfl h),
  fun h => (rL_row rfl h),
  fun h => (rL_row rfl h),
  fun h => (rL_row rfl h),
  fun h => (rL_row rfl h),
  fun h => (rL_row rfl h),
  fun h => (rL_row rfl h),
  fun h => (rL_row rfl h),
  fun h => (rL_row rfl h),
  fun h => (rL_row rfl h),
  fun h => (rL_row rfl h),
  fun h => (rL_row rfl h),
  fun h => (rL_row rfl h),
  fun h => (rL_row rfl h),
  fun h => (rL_row rfl h),
  fun h => (rL_row rfl h)⟩
theorem S_set : (∀ {xs : List Int} {k : Int} {v : Int}, InB xs k -> (Prim.set 1 0 1).run [rL xs, i64 k, i64 v] = some [rL (setI xs k v)]) /\
  (∀ {xs : List (List UInt8)} {k : Int} {v : (List UInt8)}, InB xs k -> (Prim.set 1 0 1).run [rL xs, i64 k, .str v] = some [rL (setI xs k v)]) /\
  (∀ {xs : List (List Int)} {k : Int} {v : (List Int)}, InB xs k -> (Prim.set 1 0 1).run [rL xs, i64 k, rL v] = some [rL (setI xs k v)]) /\
  (∀ {xs : List (List TRow)} {k : Int} {v : (List TRow)}, InB xs k -> (Prim.set 1 0 1).run [rL xs, i64 k, rL v] = some [rL (setI xs k v)]) /\
  (∀ {xs : List (List (List Int))} {k : Int} {v : (List (List Int))}, InB xs k -> (Prim.set 1 0 1).run [rL xs, i64 k, rL v] = some [rL (setI xs k v)]) /\
  (∀ {xs : List TRow} {k : Int} {v : Int}, InB xs k -> (Prim.set 10 0 1).run [rL xs, i64 k, i64 v] = some [rL (setI xs k { (atI xs k) with ballot := v })]) /\
  (∀ {xs : List TRow} {k : Int} {v_ballot v_vote v_state v_cmd_kind v_cmd_id v_cmd_src v_cmd_dst v_cmd_amt v_attr_seq : Int} {v_attr_deps : (List Int)}, InB xs k -> (Prim.set 10 0 10).run [rL xs, i64 k, i64 v_ballot, i64 v_vote, i64 v_state, i64 v_cmd_kind, i64 v_cmd_id, i64 v_cmd_src, i64 v_cmd_dst, i64 v_cmd_amt, i64 v_attr_seq, rL v_attr_deps] = some [rL (setI xs k ⟨v_ballot, v_vote, v_state, ⟨v_cmd_kind, v_cmd_id, v_cmd_src, v_cmd_dst, v_cmd_amt⟩, ⟨v_attr_seq, v_attr_deps⟩⟩)]) /\
  (∀ {xs : List TRow} {k : Int} {v : Int}, InB xs k -> (Prim.set 10 1 1).run [rL xs, i64 k, i64 v] = some [rL (setI xs k { (atI xs k) with vote := v })]) /\
  (∀ {xs : List TRow} {k : Int} {v : Int}, InB xs k -> (Prim.set 10 2 1).run [rL xs, i64 k, i64 v] = some [rL (setI xs k { (atI xs k) with state := v })]) /\
  (∀ {xs : List TRow} {k : Int} {v : Int}, InB xs k -> (Prim.set 10 3 1).run [rL xs, i64 k, i64 v] = some [rL (setI xs k { (atI xs k) with cmd := { (atI xs k).cmd with kind := v } })]) /\
  (∀ {xs : List TRow} {k : Int} {v : Int}, InB xs k -> (Prim.set 10 4 1).run [rL xs, i64 k, i64 v] = some [rL (setI xs k { (atI xs k) with cmd := { (atI xs k).cmd with id := v } })]) /\
  (∀ {xs : List TRow} {k : Int} {v : Int}, InB xs k -> (Prim.set 10 5 1).run [rL xs, i64 k, i64 v] = some [rL (setI xs k { (atI xs k) with cmd := { (atI xs k).cmd with src := v } })]) /\
  (∀ {xs : List TRow} {k : Int} {v : Int}, InB xs k -> (Prim.set 10 6 1).run [rL xs, i64 k, i64 v] = some [rL (setI xs k { (atI xs k) with cmd := { (atI xs k).cmd with dst := v } })]) /\
  (∀ {xs : List TRow} {k : Int} {v : Int}, InB xs k -> (Prim.set 10 7 1).run [rL xs, i64 k, i64 v] = some [rL (setI xs k { (atI xs k) with cmd := { (atI xs k).cmd with amt := v } })]) /\
  (∀ {xs : List TRow} {k : Int} {v : Int}, InB xs k -> (Prim.set 10 8 1).run [rL xs, i64 k, i64 v] = some [rL (setI xs k { (atI xs k) with attr := { (atI xs k).attr with seq := v } })]) /\
  (∀ {xs : List TRow} {k : Int} {v : (List Int)}, InB xs k -> (Prim.set 10 9 1).run [rL xs, i64 k, rL v] = some [rL (setI xs k { (atI xs k) with attr := { (atI xs k).attr with deps := v } })]) /\
  (∀ {xs : List TTable} {k : Int} {v : Int}, InB xs k -> (Prim.set 2 0 1).run [rL xs, i64 k, i64 v] = some [rL (setI xs k { (atI xs k) with n := v })]) /\
  (∀ {xs : List TTable} {k : Int} {v_n : Int} {v_rows : (List (List TRow))}, InB xs k -> (Prim.set 2 0 2).run [rL xs, i64 k, i64 v_n, rL v_rows] = some [rL (setI xs k ⟨v_n, v_rows⟩)]) /\
  (∀ {xs : List TTable} {k : Int} {v : (List (List TRow))}, InB xs k -> (Prim.set 2 1 1).run [rL xs, i64 k, rL v] = some [rL (setI xs k { (atI xs k) with rows := v })]) /\
  (∀ {xs : List TLead} {k : Int} {v : Int}, InB xs k -> (Prim.set 16 0 1).run [rL xs, i64 k, i64 v] = some [rL (setI xs k { (atI xs k) with rep := v })]) /\
  (∀ {xs : List TLead} {k : Int} {v_rep v_no v_ballot v_phase v_cmd_kind v_cmd_id v_cmd_src v_cmd_dst v_cmd_amt v_first_seq : Int} {v_first_deps : (List Int)} {v_attr_seq : Int} {v_attr_deps : (List Int)} {v_same : Bool} {v_who : (List Int)} {v_seen : (List TRow)}, InB xs k -> (Prim.set 16 0 16).run [rL xs, i64 k, i64 v_rep, i64 v_no, i64 v_ballot, i64 v_phase, i64 v_cmd_kind, i64 v_cmd_id, i64 v_cmd_src, i64 v_cmd_dst, i64 v_cmd_amt, i64 v_first_seq, rL v_first_deps, i64 v_attr_seq, rL v_attr_deps, .bool v_same, rL v_who, rL v_seen] = some [rL (setI xs k ⟨v_rep, v_no, v_ballot, v_phase, ⟨v_cmd_kind, v_cmd_id, v_cmd_src, v_cmd_dst, v_cmd_amt⟩, ⟨v_first_seq, v_first_deps⟩, ⟨v_attr_seq, v_attr_deps⟩, v_same, v_who, v_seen⟩)]) /\
  (∀ {xs : List TLead} {k : Int} {v : Int}, InB xs k -> (Prim.set 16 1 1).run [rL xs, i64 k, i64 v] = some [rL (setI xs k { (atI xs k) with no := v })]) /\
  (∀ {xs : List TLead} {k : Int} {v : (List Int)}, InB xs k -> (Prim.set 16 10 1).run [rL xs, i64 k, rL v] = some [rL (setI xs k { (atI xs k) with first := { (atI xs k).first with deps := v } })]) /\
  (∀ {xs : List TLead} {k : Int} {v : Int}, InB xs k -> (Prim.set 16 11 1).run [rL xs, i64 k, i64 v] = some [rL (setI xs k { (atI xs k) with attr := { (atI xs k).attr with seq := v } })]) /\
  (∀ {xs : List TLead} {k : Int} {v : (List Int)}, InB xs k -> (Prim.set 16 12 1).run [rL xs, i64 k, rL v] = some [rL (setI xs k { (atI xs k) with attr := { (atI xs k).attr with deps := v } })]) /\
  (∀ {xs : List TLead} {k : Int} {v : Bool}, InB xs k -> (Prim.set 16 13 1).run [rL xs, i64 k, .bool v] = some [rL (setI xs k { (atI xs k) with same := v })]) /\
  (∀ {xs : List TLead} {k : Int} {v : (List Int)}, InB xs k -> (Prim.set 16 14 1).run [rL xs, i64 k, rL v] = some [rL (setI xs k { (atI xs k) with who := v })]) /\
  (∀ {xs : List TLead} {k : Int} {v : (List TRow)}, InB xs k -> (Prim.set 16 15 1).run [rL xs, i64 k, rL v] = some [rL (setI xs k { (atI xs k) with seen := v })]) /\
  (∀ {xs : List TLead} {k : Int} {v : Int}, InB xs k -> (Prim.set 16 2 1).run [rL xs, i64 k, i64 v] = some [rL (setI xs k { (atI xs k) with ballot := v })]) /\
  (∀ {xs : List TLead} {k : Int} {v : Int}, InB xs k -> (Prim.set 16 3 1).run [rL xs, i64 k, i64 v] = some [rL (setI xs k { (atI xs k) with phase := v })]) /\
  (∀ {xs : List TLead} {k : Int} {v : Int}, InB xs k -> (Prim.set 16 4 1).run [rL xs, i64 k, i64 v] = some [rL (setI xs k { (atI xs k) with cmd := { (atI xs k).cmd with kind := v } })]) /\
  (∀ {xs : List TLead} {k : Int} {v : Int}, InB xs k -> (Prim.set 16 5 1).run [rL xs, i64 k, i64 v] = some [rL (setI xs k { (atI xs k) with cmd := { (atI xs k).cmd with id := v } })]) /\
  (∀ {xs : List TLead} {k : Int} {v : Int}, InB xs k -> (Prim.set 16 6 1).run [rL xs, i64 k, i64 v] = some [rL (setI xs k { (atI xs k) with cmd := { (atI xs k).cmd with src := v } })]) /\
  (∀ {xs : List TLead} {k : Int} {v : Int}, InB xs k -> (Prim.set 16 7 1).run [rL xs, i64 k, i64 v] = some [rL (setI xs k { (atI xs k) with cmd := { (atI xs k).cmd with dst := v } })]) /\
  (∀ {xs : List TLead} {k : Int} {v : Int}, InB xs k -> (Prim.set 16 8 1).run [rL xs, i64 k, i64 v] = some [rL (setI xs k { (atI xs k) with cmd := { (atI xs k).cmd with amt := v } })]) /\
  (∀ {xs : List TLead} {k : Int} {v : Int}, InB xs k -> (Prim.set 16 9 1).run [rL xs, i64 k, i64 v] = some [rL (setI xs k { (atI xs k) with first := { (atI xs k).first with seq := v } })]) /\
  (∀ {xs : List TRep} {k : Int} {v : Int}, InB xs k -> (Prim.set 4 0 1).run [rL xs, i64 k, i64 v] = some [rL (setI xs k { (atI xs k) with me := v })]) /\
  (∀ {xs : List TRep} {k : Int} {v_me v_table_n : Int} {v_table_rows : (List (List TRow))} {v_leads : (List TLead)}, InB xs k -> (Prim.set 4 0 4).run [rL xs, i64 k, i64 v_me, i64 v_table_n, rL v_table_rows, rL v_leads] = some [rL (setI xs k ⟨v_me, ⟨v_table_n, v_table_rows⟩, v_leads⟩)]) /\
  (∀ {xs : List TRep} {k : Int} {v : Int}, InB xs k -> (Prim.set 4 1 1).run [rL xs, i64 k, i64 v] = some [rL (setI xs k { (atI xs k) with table := { (atI xs k).table with n := v } })]) /\
  (∀ {xs : List TRep} {k : Int} {v : (List (List TRow))}, InB xs k -> (Prim.set 4 2 1).run [rL xs, i64 k, rL v] = some [rL (setI xs k { (atI xs k) with table := { (atI xs k).table with rows := v } })]) /\
  (∀ {xs : List TRep} {k : Int} {v : (List TLead)}, InB xs k -> (Prim.set 4 3 1).run [rL xs, i64 k, rL v] = some [rL (setI xs k { (atI xs k) with leads := v })]) /\
  (∀ {xs : List TMsg} {k : Int} {v : Int}, InB xs k -> (Prim.set 15 0 1).run [rL xs, i64 k, i64 v] = some [rL (setI xs k { (atI xs k) with kind := v })]) /\
  (∀ {xs : List TMsg} {k : Int} {v_kind v_src v_dst v_rep v_no v_ballot v_vote v_state v_cmd_kind v_cmd_id v_cmd_src v_cmd_dst v_cmd_amt v_attr_seq : Int} {v_attr_deps : (List Int)}, InB xs k -> (Prim.set 15 0 15).run [rL xs, i64 k, i64 v_kind, i64 v_src, i64 v_dst, i64 v_rep, i64 v_no, i64 v_ballot, i64 v_vote, i64 v_state, i64 v_cmd_kind, i64 v_cmd_id, i64 v_cmd_src, i64 v_cmd_dst, i64 v_cmd_amt, i64 v_attr_seq, rL v_attr_deps] = some [rL (setI xs k ⟨v_kind, v_src, v_dst, v_rep, v_no, v_ballot, v_vote, v_state, ⟨v_cmd_kind, v_cmd_id, v_cmd_src, v_cmd_dst, v_cmd_amt⟩, ⟨v_attr_seq, v_attr_deps⟩⟩)]) /\
  (∀ {xs : List TMsg} {k : Int} {v : Int}, InB xs k -> (Prim.set 15 1 1).run [rL xs, i64 k, i64 v] = some [rL (setI xs k { (atI xs k) with src := v })]) /\
  (∀ {xs : List TMsg} {k : Int} {v : Int}, InB xs k -> (Prim.set 15 10 1).run [rL xs, i64 k, i64 v] = some [rL (setI xs k { (atI xs k) with cmd := { (atI xs k).cmd with src := v } })]) /\
  (∀ {xs : List TMsg} {k : Int} {v : Int}, InB xs k -> (Prim.set 15 11 1).run [rL xs, i64 k, i64 v] = some [rL (setI xs k { (atI xs k) with cmd := { (atI xs k).cmd with dst := v } })]) /\
  (∀ {xs : List TMsg} {k : Int} {v : Int}, InB xs k -> (Prim.set 15 12 1).run [rL xs, i64 k, i64 v] = some [rL (setI xs k { (atI xs k) with cmd := { (atI xs k).cmd with amt := v } })]) /\
  (∀ {xs : List TMsg} {k : Int} {v : Int}, InB xs k -> (Prim.set 15 13 1).run [rL xs, i64 k, i64 v] = some [rL (setI xs k { (atI xs k) with attr := { (atI xs k).attr with seq := v } })]) /\
  (∀ {xs : List TMsg} {k : Int} {v : (List Int)}, InB xs k -> (Prim.set 15 14 1).run [rL xs, i64 k, rL v] = some [rL (setI xs k { (atI xs k) with attr := { (atI xs k).attr with deps := v } })]) /\
  (∀ {xs : List TMsg} {k : Int} {v : Int}, InB xs k -> (Prim.set 15 2 1).run [rL xs, i64 k, i64 v] = some [rL (setI xs k { (atI xs k) with dst := v })]) /\
  (∀ {xs : List TMsg} {k : Int} {v : Int}, InB xs k -> (Prim.set 15 3 1).run [rL xs, i64 k, i64 v] = some [rL (setI xs k { (atI xs k) with rep := v })]) /\
  (∀ {xs : List TMsg} {k : Int} {v : Int}, InB xs k -> (Prim.set 15 4 1).run [rL xs, i64 k, i64 v] = some [rL (setI xs k { (atI xs k) with no := v })]) /\
  (∀ {xs : List TMsg} {k : Int} {v : Int}, InB xs k -> (Prim.set 15 5 1).run [rL xs, i64 k, i64 v] = some [rL (setI xs k { (atI xs k) with ballot := v })]) /\
  (∀ {xs : List TMsg} {k : Int} {v : Int}, InB xs k -> (Prim.set 15 6 1).run [rL xs, i64 k, i64 v] = some [rL (setI xs k { (atI xs k) with vote := v })]) /\
  (∀ {xs : List TMsg} {k : Int} {v : Int}, InB xs k -> (Prim.set 15 7 1).run [rL xs, i64 k, i64 v] = some [rL (setI xs k { (atI xs k) with state := v })]) /\
  (∀ {xs : List TMsg} {k : Int} {v : Int}, InB xs k -> (Prim.set 15 8 1).run [rL xs, i64 k, i64 v] = some [rL (setI xs k { (atI xs k) with cmd := { (atI xs k).cmd with kind := v } })]) /\
  (∀ {xs : List TMsg} {k : Int} {v : Int}, InB xs k -> (Prim.set 15 9 1).run [rL xs, i64 k, i64 v] = some [rL (setI xs k { (atI xs k) with cmd := { (atI xs k).cmd with id := v } })]) /\
  (∀ {xs : List TAsked} {k : Int} {v : Int}, InB xs k -> (Prim.set 7 0 1).run [rL xs, i64 k, i64 v] = some [rL (setI xs k { (atI xs k) with rep := v })]) /\
  (∀ {xs : List TAsked} {k : Int} {v_rep v_no v_cmd_kind v_cmd_id v_cmd_src v_cmd_dst v_cmd_amt : Int}, InB xs k -> (Prim.set 7 0 7).run [rL xs, i64 k, i64 v_rep, i64 v_no, i64 v_cmd_kind, i64 v_cmd_id, i64 v_cmd_src, i64 v_cmd_dst, i64 v_cmd_amt] = some [rL (setI xs k ⟨v_rep, v_no, ⟨v_cmd_kind, v_cmd_id, v_cmd_src, v_cmd_dst, v_cmd_amt⟩⟩)]) /\
  (∀ {xs : List TAsked} {k : Int} {v : Int}, InB xs k -> (Prim.set 7 1 1).run [rL xs, i64 k, i64 v] = some [rL (setI xs k { (atI xs k) with no := v })]) /\
  (∀ {xs : List TAsked} {k : Int} {v : Int}, InB xs k -> (Prim.set 7 2 1).run [rL xs, i64 k, i64 v] = some [rL (setI xs k { (atI xs k) with cmd := { (atI xs k).cmd with kind := v } })]) /\
  (∀ {xs : List TAsked} {k : Int} {v : Int}, InB xs k -> (Prim.set 7 3 1).run [rL xs, i64 k, i64 v] = some [rL (setI xs k { (atI xs k) with cmd := { (atI xs k).cmd with id := v } })]) /\
  (∀ {xs : List TAsked} {k : Int} {v : Int}, InB xs k -> (Prim.set 7 4 1).run [rL xs, i64 k, i64 v] = some [rL (setI xs k { (atI xs k) with cmd := { (atI xs k).cmd with src := v } })]) /\
  (∀ {xs : List TAsked} {k : Int} {v : Int}, InB xs k -> (Prim.set 7 5 1).run [rL xs, i64 k, i64 v] = some [rL (setI xs k { (atI xs k) with cmd := { (atI xs k).cmd with dst := v } })]) /\
  (∀ {xs : List TAsked} {k : Int} {v : Int}, InB xs k -> (Prim.set 7 6 1).run [rL xs, i64 k, i64 v] = some [rL (setI xs k { (atI xs k) with cmd := { (atI xs k).cmd with amt := v } })]) /\
  (∀ {xs : List TTold} {k : Int} {v : Int}, InB xs k -> (Prim.set 2 0 1).run [rL xs, i64 k, i64 v] = some [rL (setI xs k { (atI xs k) with code := v })]) /\
  (∀ {xs : List TTold} {k : Int} {v_code v_sum : Int}, InB xs k -> (Prim.set 2 0 2).run [rL xs, i64 k, i64 v_code, i64 v_sum] = some [rL (setI xs k ⟨v_code, v_sum⟩)]) /\
  (∀ {xs : List TTold} {k : Int} {v : Int}, InB xs k -> (Prim.set 2 1 1).run [rL xs, i64 k, i64 v] = some [rL (setI xs k { (atI xs k) with sum := v })]) /\
  (∀ {xs : List TEntry} {k : Int} {v : Int}, InB xs k -> (Prim.set 9 0 1).run [rL xs, i64 k, i64 v] = some [rL (setI xs k { (atI xs k) with rep := v })]) /\
  (∀ {xs : List TEntry} {k : Int} {v : Int}, InB xs k -> (Prim.set 9 1 1).run [rL xs, i64 k, i64 v] = some [rL (setI xs k { (atI xs k) with no := v })]) /\
  (∀ {xs : List TEntry} {k : Int} {v : Int}, InB xs k -> (Prim.set 9 2 1).run [rL xs, i64 k, i64 v] = some [rL (setI xs k { (atI xs k) with cmd := { (atI xs k).cmd with kind := v } })]) /\
  (∀ {xs : List TEntry} {k : Int} {v : Int}, InB xs k -> (Prim.set 9 3 1).run [rL xs, i64 k, i64 v] = some [rL (setI xs k { (atI xs k) with cmd := { (atI xs k).cmd with id := v } })]) /\
  (∀ {xs : List TEntry} {k : Int} {v : Int}, InB xs k -> (Prim.set 9 4 1).run [rL xs, i64 k, i64 v] = some [rL (setI xs k { (atI xs k) with cmd := { (atI xs k).cmd with src := v } })]) /\
  (∀ {xs : List TEntry} {k : Int} {v : Int}, InB xs k -> (Prim.set 9 5 1).run [rL xs, i64 k, i64 v] = some [rL (setI xs k { (atI xs k) with cmd := { (atI xs k).cmd with dst := v } })]) /\
  (∀ {xs : List TEntry} {k : Int} {v : Int}, InB xs k -> (Prim.set 9 6 1).run [rL xs, i64 k, i64 v] = some [rL (setI xs k { (atI xs k) with cmd := { (atI xs k).cmd with amt := v } })]) /\
  (∀ {xs : List TEntry} {k : Int} {v : Int}, InB xs k -> (Prim.set 9 7 1).run [rL xs, i64 k, i64 v] = some [rL (setI xs k { (atI xs k) with told := { (atI xs k).told with code := v } })]) /\
  (∀ {xs : List TEntry} {k : Int} {v : Int}, InB xs k -> (Prim.set 9 8 1).run [rL xs, i64 k, i64 v] = some [rL (setI xs k { (atI xs k) with told := { (atI xs k).told with sum := v } })]) /\
  (∀ {xs : List TAsk} {k : Int} {v : Int}, InB xs k -> (Prim.set 7 0 1).run [rL xs, i64 k, i64 v] = some [rL (setI xs k { (atI xs k) with client := v })]) /\
  (∀ {xs : List TAsk} {k : Int} {v_client v_no v_cmd_kind v_cmd_id v_cmd_src v_cmd_dst v_cmd_amt : Int}, InB xs k -> (Prim.set 7 0 7).run [rL xs, i64 k, i64 v_client, i64 v_no, i64 v_cmd_kind, i64 v_cmd_id, i64 v_cmd_src, i64 v_cmd_dst, i64 v_cmd_amt] = some [rL (setI xs k ⟨v_client, v_no, ⟨v_cmd_kind, v_cmd_id, v_cmd_src, v_cmd_dst, v_cmd_amt⟩⟩)]) /\
  (∀ {xs : List TAsk} {k : Int} {v : Int}, InB xs k -> (Prim.set 7 1 1).run [rL xs, i64 k, i64 v] = some [rL (setI xs k { (atI xs k) with no := v })]) /\
  (∀ {xs : List TAsk} {k : Int} {v : Int}, InB xs k -> (Prim.set 7 2 1).run [rL xs, i64 k, i64 v] = some [rL (setI xs k { (atI xs k) with cmd := { (atI xs k).cmd with kind := v } })]) /\
  (∀ {xs : List TAsk} {k : Int} {v : Int}, InB xs k -> (Prim.set 7 3 1).run [rL xs, i64 k, i64 v] = some [rL (setI xs k { (atI xs k) with cmd := { (atI xs k).cmd with id := v } })]) /\
  (∀ {xs : List TAsk} {k : Int} {v : Int}, InB xs k -> (Prim.set 7 4 1).run [rL xs, i64 k, i64 v] = some [rL (setI xs k { (atI xs k) with cmd := { (atI xs k).cmd with src := v } })]) /\
  (∀ {xs : List TAsk} {k : Int} {v : Int}, InB xs k -> (Prim.set 7 5 1).run [rL xs, i64 k, i64 v] = some [rL (setI xs k { (atI xs k) with cmd := { (atI xs k).cmd with dst := v } })]) /\
  (∀ {xs : List TAsk} {k : Int} {v : Int}, InB xs k -> (Prim.set 7 6 1).run [rL xs, i64 k, i64 v] = some [rL (setI xs k { (atI xs k) with cmd := { (atI xs k).cmd with amt := v } })]) :=
 ⟨fun h => (rL_set rfl rfl (by decide) rfl h),
  fun h => (rL_set rfl rfl (by decide) rfl h),
  fun h => (rL_set rfl rfl (by decide) rfl h),
  fun h => (rL_set rfl rfl (by decide) rfl h),
  fun h => (rL_set rfl rfl (by decide) rfl h),
  fun h => (rL_set rfl rfl (by decide) rfl h),
  fun h => (rL_set rfl rfl (by decide) rfl h),
  fun h => (rL_set rfl rfl (by decide) rfl h),
  fun h => (rL_set rfl rfl (by decide) rfl h),
  fun h => (rL_set rfl rfl (by decide) rfl h),
  fun h => (rL_set rfl rfl (by decide) rfl h),
  fun h => (rL_set rfl rfl (by decide) rfl h),
  fun h => (rL_set rfl rfl (by decide) rfl h),
  fun h => (rL_set rfl rfl (by decide) rfl h),
  fun h => (rL_set rfl rfl (by decide) rfl h),
  fun h => (rL_set rfl rfl (by decide) rfl h),
  fun h => (rL_set rfl rfl (by decide) rfl h),
  fun h => (rL_set rfl rfl (by decide) rfl h),
  fun h => (rL_set rfl rfl (by decide) rfl h),
  fun h => (rL_set rfl rfl (by decide) rfl h),
  fun h => (rL_set rfl rfl (by decide) rfl h),
  fun h => (rL_set rfl rfl (by decide) rfl h),
  fun h => (rL_set rfl rfl (by decide) rfl h),
  fun h => (rL_set rfl rfl (by decide) rfl h),
  fun h => (rL_set rfl rfl (by decide) rfl h),
  fun h => (rL_set rfl rfl (by decide) rfl h),
  fun h => (rL_set rfl rfl (by decide) rfl h),
  fun h => (rL_set rfl rfl (by decide) rfl h),
  fun h => (rL_set rfl rfl (by decide) rfl h),
  fun h => (rL_set rfl rfl (by decide) rfl h),
  fun h => (rL_set rfl rfl (by decide) rfl h),
  fun h => (rL_set rfl rfl (by decide) rfl h),
  fun h => (rL_set rfl rfl (by decide) rfl h),
  fun h => (rL_set rfl rfl (by decide) rfl h),
  fun h => (rL_set rfl rfl (by decide) rfl h),
  fun h => (rL_set rfl rfl (by decide) rfl h),
  fun h => (rL_set rfl rfl (by decide) rfl h),
  fun h => (rL_set rfl rfl (by decide) rfl h),
  fun h => (rL_set rfl rfl (by decide) rfl h),
  fun h => (rL_set rfl rfl (by decide) rfl h),
  fun h => (rL_set rfl rfl (by decide) rfl h),
  fun h => (rL_set rfl rfl (by decide) rfl h),
  fun h => (rL_set rfl rfl (by decide) rfl h),
  fun h => (rL_set rfl rfl (by decide) rfl h),
  fun h => (rL_set rfl rfl (by decide) rfl h),
  fun h => (rL_set rfl rfl (by decide) rfl h),
  fun h => (rL_set rfl rfl (by decide) rfl h),
  fun h => (rL_set rfl rfl (by decide) rfl h),
  fun h => (rL_set rfl rfl (by decide) rfl h),
  fun h => (rL_set rfl rfl (by decide) rfl h),
  fun h => (rL_set rfl rfl (by decide) rfl h),
  fun h => (rL_set rfl rfl (by decide) rfl h),
  fun h => (rL_set rfl rfl (by decide) rfl h),
  fun h => (rL_set rfl rfl (by decide) rfl h),
  fun h => (rL_set rfl rfl (by decide) rfl h),
  fun h => (rL_set rfl rfl (by decide) rfl h),
  fun h => (rL_set rfl rfl (by decide) rfl h),
  fun h => (rL_set rfl rfl (by decide) rfl h),
  fun h => (rL_set rfl rfl (by decide) rfl h),
  fun h => (rL_set rfl rfl (by decide) rfl h),
  fun h => (rL_set rfl rfl (by decide) rfl h),
  fun h => (rL_set rfl rfl (by decide) rfl h),
  fun h => (rL_set rfl rfl (by decide) rfl h),
  fun h => (rL_set rfl rfl (by decide) rfl h),
  fun h => (rL_set rfl rfl (by decide) rfl h),
  fun h => (rL_set rfl rfl (by decide) rfl h),
  fun h => (rL_set rfl rfl (by decide) rfl h),
  fun h => (rL_set rfl rfl (by decide) rfl h),
  fun h => (rL_set rfl rfl (by decide) rfl h),
  fun h => (rL_set rfl rfl (by decide) rfl h),
  fun h => (rL_set rfl rfl (by decide) rfl h),
  fun h => (rL_set rfl rfl (by decide) rfl h),
  fun h => (rL_set rfl rfl (by decide) rfl h),
  fun h => (rL_set rfl rfl (by decide) rfl h),
  fun h => (rL_set rfl rfl (by decide) rfl h),
  fun h => (rL_set rfl rfl (by decide) rfl h),
  fun h => (rL_set rfl rfl (by decide) rfl h),
  fun h => (rL_set rfl rfl (by decide) rfl h),
  fun h => (rL_set rfl rfl (by decide) rfl h),
  fun h => (rL_set rfl rfl (by decide) rfl h),
  fun h => (rL_set rfl rfl (by decide) rfl h),
  fun h => (rL_set rfl rfl (by decide) rfl h),
  fun h => (rL_set rfl rfl (by decide) rfl h),
  fun h => (rL_set rfl rfl (by decide) rfl h),
  fun h => (rL_set rfl rfl (by decide) rfl h)⟩
theorem S_mk : (∀ {v0 : Int}, (Prim.mk 1 1).run [i64 v0] = some [rL [v0]]) /\
  (∀ {v0 v1 : Int}, (Prim.mk 1 2).run [i64 v0, i64 v1] = some [rL [v0, v1]]) /\
  (∀ {v0 v1 v2 : Int}, (Prim.mk 1 3).run [i64 v0, i64 v1, i64 v2] = some [rL [v0, v1, v2]]) /\
  (∀ {v0 v1 v2 v3 : Int}, (Prim.mk 1 4).run [i64 v0, i64 v1, i64 v2, i64 v3] = some [rL [v0, v1, v2, v3]]) /\
  (∀ {v0 v1 v2 v3 v4 : Int}, (Prim.mk 1 5).run [i64 v0, i64 v1, i64 v2, i64 v3, i64 v4] = some [rL [v0, v1, v2, v3, v4]]) /\
  (∀ {v0 v1 v2 v3 v4 v5 v6 : Int}, (Prim.mk 1 7).run [i64 v0, i64 v1, i64 v2, i64 v3, i64 v4, i64 v5, i64 v6] = some [rL [v0, v1, v2, v3, v4, v5, v6]]) /\
  (∀ {v0 v1 v2 v3 v4 v5 v6 v7 : Int}, (Prim.mk 1 8).run [i64 v0, i64 v1, i64 v2, i64 v3, i64 v4, i64 v5, i64 v6, i64 v7] = some [rL [v0, v1, v2, v3, v4, v5, v6, v7]]) /\
  (∀ {v0 v1 v2 v3 v4 v5 v6 v7 v8 : Int}, (Prim.mk 1 9).run [i64 v0, i64 v1, i64 v2, i64 v3, i64 v4, i64 v5, i64 v6, i64 v7, i64 v8] = some [rL [v0, v1, v2, v3, v4, v5, v6, v7, v8]]) /\
  (∀ {v0 : (List UInt8)}, (Prim.mk 1 1).run [.str v0] = some [rL [v0]]) /\
  (∀ {v0 v1 : (List UInt8)}, (Prim.mk 1 2).run [.str v0, .str v1] = some [rL [v0, v1]]) /\
  (∀ {v0 v1 v2 : (List UInt8)}, (Prim.mk 1 3).run [.str v0, .str v1, .str v2] = some [rL [v0, v1, v2]]) /\
  (∀ {v0 v1 v2 v3 : (List UInt8)}, (Prim.mk 1 4).run [.str v0, .str v1, .str v2, .str v3] = some [rL [v0, v1, v2, v3]]) /\
  (∀ {v0 v1 v2 v3 v4 : (List UInt8)}, (Prim.mk 1 5).run [.str v0, .str v1, .str v2, .str v3, .str v4] = some [rL [v0, v1, v2, v3, v4]]) /\
  (∀ {v0 v1 v2 v3 v4 v5 v6 : (List UInt8)}, (Prim.mk 1 7).run [.str v0, .str v1, .str v2, .str v3, .str v4, .str v5, .str v6] = some [rL [v0, v1, v2, v3, v4, v5, v6]]) /\
  (∀ {v0 v1 v2 v3 v4 v5 v6 v7 : (List UInt8)}, (Prim.mk 1 8).run [.str v0, .str v1, .str v2, .str v3, .str v4, .str v5, .str v6, .str v7] = some [rL [v0, v1, v2, v3, v4, v5, v6, v7]]) /\
  (∀ {v0 v1 v2 v3 v4 v5 v6 v7 v8 : (List UInt8)}, (Prim.mk 1 9).run [.str v0, .str v1, .str v2, .str v3, .str v4, .str v5, .str v6, .str v7, .str v8] = some [rL [v0, v1, v2, v3, v4, v5, v6, v7, v8]]) /\
  (∀ {v0 : (List Int)}, (Prim.mk 1 1).run [rL v0] = some [rL [v0]]) /\
  (∀ {v0 : (List TRow)}, (Prim.mk 1 1).run [rL v0] = some [rL [v0]]) /\
  (∀ {v0 : (List (List Int))}, (Prim.mk 1 1).run [rL v0] = some [rL [v0]]) /\
  (∀ {v_kind v_id v_src v_dst v_amt : Int}, (Prim.mk 5 1).run [i64 v_kind, i64 v_id, i64 v_src, i64 v_dst, i64 v_amt] = some [rL [(⟨v_kind, v_id, v_src, v_dst, v_amt⟩ : TCmd)]]) /\
  (∀ {v_ballot v_vote v_state v_cmd_kind v_cmd_id v_cmd_src v_cmd_dst v_cmd_amt v_attr_seq : Int} {v_attr_deps : (List Int)}, (Prim.mk 10 1).run [i64 v_ballot, i64 v_vote, i64 v_state, i64 v_cmd_kind, i64 v_cmd_id, i64 v_cmd_src, i64 v_cmd_dst, i64 v_cmd_amt, i64 v_attr_seq, rL v_attr_deps] = some [rL [(⟨v_ballot, v_vote, v_state, ⟨v_cmd_kind, v_cmd_id, v_cmd_src, v_cmd_dst, v_cmd_amt⟩, ⟨v_attr_seq, v_attr_deps⟩⟩ : TRow)]]) /\
  (∀ {v_n : Int} {v_rows : (List (List TRow))}, (Prim.mk 2 1).run [i64 v_n, rL v_rows] = some [rL [(⟨v_n, v_rows⟩ : TTable)]]) /\
  (∀ {v_rep v_no v_ballot v_phase v_cmd_kind v_cmd_id v_cmd_src v_cmd_dst v_cmd_amt v_first_seq : Int} {v_first_deps : (List Int)} {v_attr_seq : Int} {v_attr_deps : (List Int)} {v_same : Bool} {v_who : (List Int)} {v_seen : (List TRow)}, (Prim.mk 16 1).run [i64 v_rep, i64 v_no, i64 v_ballot, i64 v_phase, i64 v_cmd_kind, i64 v_cmd_id, i64 v_cmd_src, i64 v_cmd_dst, i64 v_cmd_amt, i64 v_first_seq, rL v_first_deps, i64 v_attr_seq, rL v_attr_deps, .bool v_same, rL v_who, rL v_seen] = some [rL [(⟨v_rep, v_no, v_ballot, v_phase, ⟨v_cmd_kind, v_cmd_id, v_cmd_src, v_cmd_dst, v_cmd_amt⟩, ⟨v_first_seq, v_first_deps⟩, ⟨v_attr_seq, v_attr_deps⟩, v_same, v_who, v_seen⟩ : TLead)]]) /\
  (∀ {v_me v_table_n : Int} {v_table_rows : (List (List TRow))} {v_leads : (List TLead)}, (Prim.mk 4 1).run [i64 v_me, i64 v_table_n, rL v_table_rows, rL v_leads] = some [rL [(⟨v_me, ⟨v_table_n, v_table_rows⟩, v_leads⟩ : TRep)]]) /\
  (∀ {v_kind v_src v_dst v_rep v_no v_ballot v_vote v_state v_cmd_kind v_cmd_id v_cmd_src v_cmd_dst v_cmd_amt v_attr_seq : Int} {v_attr_deps : (List Int)}, (Prim.mk 15 1).run [i64 v_kind, i64 v_src, i64 v_dst, i64 v_rep, i64 v_no, i64 v_ballot, i64 v_vote, i64 v_state, i64 v_cmd_kind, i64 v_cmd_id, i64 v_cmd_src, i64 v_cmd_dst, i64 v_cmd_amt, i64 v_attr_seq, rL v_attr_deps] = some [rL [(⟨v_kind, v_src, v_dst, v_rep, v_no, v_ballot, v_vote, v_state, ⟨v_cmd_kind, v_cmd_id, v_cmd_src, v_cmd_dst, v_cmd_amt⟩, ⟨v_attr_seq, v_attr_deps⟩⟩ : TMsg)]]) /\
  (∀ {v_rep v_no v_cmd_kind v_cmd_id v_cmd_src v_cmd_dst v_cmd_amt : Int}, (Prim.mk 7 1).run [i64 v_rep, i64 v_no, i64 v_cmd_kind, i64 v_cmd_id, i64 v_cmd_src, i64 v_cmd_dst, i64 v_cmd_amt] = some [rL [(⟨v_rep, v_no, ⟨v_cmd_kind, v_cmd_id, v_cmd_src, v_cmd_dst, v_cmd_amt⟩⟩ : TAsked)]]) /\
  (∀ {v_code v_sum : Int}, (Prim.mk 2 1).run [i64 v_code, i64 v_sum] = some [rL [(⟨v_code, v_sum⟩ : TTold)]]) /\
  (∀ {v_rep v_no v_cmd_kind v_cmd_id v_cmd_src v_cmd_dst v_cmd_amt v_told_code v_told_sum : Int}, (Prim.mk 9 1).run [i64 v_rep, i64 v_no, i64 v_cmd_kind, i64 v_cmd_id, i64 v_cmd_src, i64 v_cmd_dst, i64 v_cmd_amt, i64 v_told_code, i64 v_told_sum] = some [rL [(⟨v_rep, v_no, ⟨v_cmd_kind, v_cmd_id, v_cmd_src, v_cmd_dst, v_cmd_amt⟩, ⟨v_told_code, v_told_sum⟩⟩ : TEntry)]]) /\
  (∀ {v_client v_no v_cmd_kind v_cmd_id v_cmd_src v_cmd_dst v_cmd_amt : Int}, (Prim.mk 7 1).run [i64 v_client, i64 v_no, i64 v_cmd_kind, i64 v_cmd_id, i64 v_cmd_src, i64 v_cmd_dst, i64 v_cmd_amt] = some [rL [(⟨v_client, v_no, ⟨v_cmd_kind, v_cmd_id, v_cmd_src, v_cmd_dst, v_cmd_amt⟩⟩ : TAsk)]]) :=
 ⟨rfl,
  rfl,
  rfl,
  rfl,
  rfl,
  rfl,
  rfl,
  rfl,
  rfl,
  rfl,
  rfl,
  rfl,
  rfl,
  rfl,
  rfl,
  rfl,
  rfl,
  rfl,
  rfl,
  (rL_mk1 rfl rfl),
  (rL_mk1 rfl rfl),
  (rL_mk1 rfl rfl),
  (rL_mk1 rfl rfl),
  (rL_mk1 rfl rfl),
  (rL_mk1 rfl rfl),
  (rL_mk1 rfl rfl),
  (rL_mk1 rfl rfl),
  (rL_mk1 rfl rfl),
  (rL_mk1 rfl rfl)⟩
theorem S_make : (∀ {n : Int}, 0 <= n -> n <= 100000000000 -> (Prim.make 8 [(.int .i64 0)]).run [i64 n] = some [rL (List.replicate n.toNat (0 : Int))]) /\
  (∀ {n : Int}, 0 <= n -> n <= 100000000000 -> (Prim.make 16 [(.str [])]).run [i64 n] = some [rL (List.replicate n.toNat ([] : (List UInt8)))]) /\
  (∀ {n : Int}, 0 <= n -> n <= 100000000000 -> (Prim.make 24 [(.rows 1 [])]).run [i64 n] = some [rL (List.replicate n.toNat ([] : (List Int)))]) /\
  (∀ {n : Int}, 0 <= n -> n <= 100000000000 -> (Prim.make 24 [(.rows 10 [])]).run [i64 n] = some [rL (List.replicate n.toNat ([] : (List TRow)))]) /\
  (∀ {n : Int}, 0 <= n -> n <= 100000000000 -> (Prim.make 24 [(.rows 1 [])]).run [i64 n] = some [rL (List.replicate n.toNat ([] : (List (List Int))))]) /\
  (∀ {n : Int}, 0 <= n -> n <= 100000000000 -> (Prim.make 40 [(.int .i64 0), (.int .i64 0), (.int .i64 0), (.int .i64 0), (.int .i64 0)]).run [i64 n] = some [rL (List.replicate n.toNat (default : TCmd))]) /\
  (∀ {n : Int}, 0 <= n -> n <= 100000000000 -> (Prim.make 96 [(.int .i64 0), (.int .i64 0), (.int .i64 0), (.int .i64 0), (.int .i64 0), (.int .i64 0), (.int .i64 0), (.int .i64 0), (.int .i64 0), (.rows 1 [])]).run [i64 n] = some [rL (List.replicate n.toNat (default : TRow))]) /\
  (∀ {n : Int}, 0 <= n -> n <= 100000000000 -> (Prim.make 32 [(.int .i64 0), (.rows 1 [])]).run [i64 n] = some [rL (List.replicate n.toNat (default : TTable))]) /\
  (∀ {n : Int}, 0 <= n -> n <= 100000000000 -> (Prim.make 192 [(.int .i64 0), (.int .i64 0), (.int .i64 0), (.int .i64 0), (.int .i64 0), (.int .i64 0), (.int .i64 0), (.int .i64 0), (.int .i64 0), (.int .i64 0), (.rows 1 []), (.int .i64 0), (.rows 1 []), (.bool false), (.rows 1 []), (.rows 10 [])]).run [i64 n] = some [rL (List.replicate n.toNat (default : TLead))]) /\
  (∀ {n : Int}, 0 <= n -> n <= 100000000000 -> (Prim.make 64 [(.int .i64 0), (.int .i64 0), (.rows 1 []), (.rows 16 [])]).run [i64 n] = some [rL (List.replicate n.toNat (default : TRep))]) /\
  (∀ {n : Int}, 0 <= n -> n <= 100000000000 -> (Prim.make 136 [(.int .i64 0), (.int .i64 0), (.int .i64 0), (.int .i64 0), (.int .i64 0), (.int .i64 0), (.int .i64 0), (.int .i64 0), (.int .i64 0), (.int .i64 0), (.int .i64 0), (.int .i64 0), (.int .i64 0), (.int .i64 0), (.rows 1 [])]).run [i64 n] = some [rL (List.replicate n.toNat (default : TMsg))]) /\
  (∀ {n : Int}, 0 <= n -> n <= 100000000000 -> (Prim.make 56 [(.int .i64 0), (.int .i64 0), (.int .i64 0), (.int .i64 0), (.int .i64 0), (.int .i64 0), (.int .i64 0)]).run [i64 n] = some [rL (List.replicate n.toNat (default : TAsked))]) /\
  (∀ {n : Int}, 0 <= n -> n <= 100000000000 -> (Prim.make 16 [(.int .i64 0), (.int .i64 0)]).run [i64 n] = some [rL (List.replicate n.toNat (default : TTold))]) /\
  (∀ {n : Int}, 0 <= n -> n <= 100000000000 -> (Prim.make 72 [(.int .i64 0), (.int .i64 0), (.int .i64 0), (.int .i64 0), (.int .i64 0), (.int .i64 0), (.int .i64 0), (.int .i64 0), (.int .i64 0)]).run [i64 n] = some [rL (List.replicate n.toNat (default : TEntry))]) /\
  (∀ {n : Int}, 0 <= n -> n <= 100000000000 -> (Prim.make 72 [(.rows 1 []), (.rows 1 []), (.rows 2 [])]).run [i64 n] = some [rL (List.replicate n.toNat (default : TClerk))]) /\
  (∀ {n : Int}, 0 <= n -> n <= 100000000000 -> (Prim.make 56 [(.int .i64 0), (.int .i64 0), (.int .i64 0), (.int .i64 0), (.int .i64 0), (.int .i64 0), (.int .i64 0)]).run [i64 n] = some [rL (List.replicate n.toNat (default : TAsk))]) :=
 ⟨fun h h2 => (rL_make rfl h (by unfold boundB; omega)),
  fun h h2 => (rL_make rfl h (by unfold boundB; omega)),
  fun h h2 => (rL_make rfl h (by unfold boundB; omega)),
  fun h h2 => (rL_make rfl h (by unfold boundB; omega)),
  fun h h2 => (rL_make rfl h (by unfold boundB; omega)),
  fun h h2 => (rL_make rfl h (by unfold boundB; omega)),
  fun h h2 => (rL_make rfl h (by unfold boundB; omega)),
  fun h h2 => (rL_make rfl h (by unfold boundB; omega)),
  fun h h2 => (rL_make rfl h (by unfold boundB; omega)),
  fun h h2 => (rL_make rfl h (by unfold boundB; omega)),
  fun h h2 => (rL_make rfl h (by unfold boundB; omega)),
  fun h h2 => (rL_make rfl h (by unfold boundB; omega)),
  fun h h2 => (rL_make rfl h (by unfold boundB; omega)),
  fun h h2 => (rL_make rfl h (by unfold boundB; omega)),
  fun h h2 => (rL_make rfl h (by unfold boundB; omega)),
  fun h h2 => (rL_make rfl h (by unfold boundB; omega))⟩
theorem S_app : (∀ {xs ys : List Int}, xs.length + ys.length <= 100000000000 -> (Prim.app 1 8 true).run [rL xs, rL ys] = some [rL (xs ++ ys)]) /\
  (∀ {ys : List Int}, ys.length <= 100000000000 -> (Prim.app 1 8 true).run [.rows 1 [], rL ys] = some [rL ys]) /\
  (∀ {xs ys : List Int}, xs.length + ys.length <= 100000000000 -> (Prim.app 1 8 false).run [rL xs, rL ys] = some [rL (xs ++ ys)]) /\
  (∀ {ys : List Int}, ys.length <= 100000000000 -> (Prim.app 1 8 false).run [.rows 1 [], rL ys] = some [rL ys]) /\
  (∀ {xs ys : List (List UInt8)}, xs.length + ys.length <= 100000000000 -> (Prim.app 1 16 true).run [rL xs, rL ys] = some [rL (xs ++ ys)]) /\
  (∀ {ys : List (List UInt8)}, ys.length <= 100000000000 -> (Prim.app 1 16 true).run [.rows 1 [], rL ys] = some [rL ys]) /\
  (∀ {xs ys : List (List UInt8)}, xs.length + ys.length <= 100000000000 -> (Prim.app 1 16 false).run [rL xs, rL ys] = some [rL (xs ++ ys)]) /\
  (∀ {ys : List (List UInt8)}, ys.length <= 100000000000 -> (Prim.app 1 16 false).run [.rows 1 [], rL ys] = some [rL ys]) /\
  (∀ {xs ys : List (List Int)}, xs.length + ys.length <= 100000000000 -> (Prim.app 1 24 false).run [rL xs, rL ys] = some [rL (xs ++ ys)]) /\
  (∀ {ys : List (List Int)}, ys.length <= 100000000000 -> (Prim.app 1 24 false).run [.rows 1 [], rL ys] = some [rL ys]) /\
  (∀ {xs ys : List (List TRow)}, xs.length + ys.length <= 100000000000 -> (Prim.app 1 24 false).run [rL xs, rL ys] = some [rL (xs ++ ys)]) /\
  (∀ {ys : List (List TRow)}, ys.length <= 100000000000 -> (Prim.app 1 24 false).run [.rows 1 [], rL ys] = some [rL ys]) /\
  (∀ {xs ys : List (List (List Int))}, xs.length + ys.length <= 100000000000 -> (Prim.app 1 24 false).run [rL xs, rL ys] = some [rL (xs ++ ys)]) /\
  (∀ {ys : List (List (List Int))}, ys.length <= 100000000000 -> (Prim.app 1 24 false).run [.rows 1 [], rL ys] = some [rL ys]) /\
  (∀ {xs ys : List TCmd}, xs.length + ys.length <= 100000000000 -> (Prim.app 5 40 true).run [rL xs, rL ys] = some [rL (xs ++ ys)]) /\
  (∀ {ys : List TCmd}, ys.length <= 100000000000 -> (Prim.app 5 40 true).run [.rows 5 [], rL ys] = some [rL ys]) /\
  (∀ {xs ys : List TCmd}, xs.length + ys.length <= 100000000000 -> (Prim.app 5 40 false).run [rL xs, rL ys] = some [rL (xs ++ ys)]) /\
  (∀ {ys : List TCmd}, ys.length <= 100000000000 -> (Prim.app 5 40 false).run [.rows 5 [], rL ys] = some [rL ys]) /\
  (∀ {xs ys : List TRow}, xs.length + ys.length <= 100000000000 -> (Prim.app 10 96 false).run [rL xs, rL ys] = some [rL (xs ++ ys)]) /\
  (∀ {ys : List TRow}, ys.length <= 100000000000 -> (Prim.app 10 96 false).run [.rows 10 [], rL ys] = some [rL ys]) /\
  (∀ {xs ys : List TTable}, xs.length + ys.length <= 100000000000 -> (Prim.app 2 32 false).run [rL xs, rL ys] = some [rL (xs ++ ys)]) /\
  (∀ {ys : List TTable}, ys.length <= 100000000000 -> (Prim.app 2 32 false).run [.rows 2 [], rL ys] = some [rL ys]) /\
  (∀ {xs ys : List TLead}, xs.length + ys.length <= 100000000000 -> (Prim.app 16 192 false).run [rL xs, rL ys] = some [rL (xs ++ ys)]) /\
  (∀ {ys : List TLead}, ys.length <= 100000000000 -> (Prim.app 16 192 false).run [.rows 16 [], rL ys] = some [rL ys]) /\
  (∀ {xs ys : List TRep}, xs.length + ys.length <= 100000000000 -> (Prim.app 4 64 false).run [rL xs, rL ys] = some [rL (xs ++ ys)]) /\
  (∀ {ys : List TRep}, ys.length <= 100000000000 -> (Prim.app 4 64 false).run [.rows 4 [], rL ys] = some [rL ys]) /\
  (∀ {xs ys : List TMsg}, xs.length + ys.length <= 100000000000 -> (Prim.app 15 136 false).run [rL xs, rL ys] = some [rL (xs ++ ys)]) /\
  (∀ {ys : List TMsg}, ys.length <= 100000000000 -> (Prim.app 15 136 false).run [.rows 15 [], rL ys] = some [rL ys]) /\
  (∀ {xs ys : List TAsked}, xs.length + ys.length <= 100000000000 -> (Prim.app 7 56 true).run [rL xs, rL ys] = some [rL (xs ++ ys)]) /\
  (∀ {ys : List TAsked}, ys.length <= 100000000000 -> (Prim.app 7 56 true).run [.rows 7 [], rL ys] = some [rL ys]) /\
  (∀ {xs ys : List TAsked}, xs.length + ys.length <= 100000000000 -> (Prim.app 7 56 false).run [rL xs, rL ys] = some [rL (xs ++ ys)]) /\
  (∀ {ys : List TAsked}, ys.length <= 100000000000 -> (Prim.app 7 56 false).run [.rows 7 [], rL ys] = some [rL ys]) /\
  (∀ {xs ys : List TTold}, xs.length + ys.length <= 100000000000 -> (Prim.app 2 16 true).run [rL xs, rL ys] = some [rL (xs ++ ys)]) /\
  (∀ {ys : List TTold}, ys.length <= 100000000000 -> (Prim.app 2 16 true).run [.rows 2 [], rL ys] = some [rL ys]) /\
  (∀ {xs ys : List TTold}, xs.length + ys.length <= 100000000000 -> (Prim.app 2 16 false).run [rL xs, rL ys] = some [rL (xs ++ ys)]) /\
  (∀ {ys : List TTold}, ys.length <= 100000000000 -> (Prim.app 2 16 false).run [.rows 2 [], rL ys] = some [rL ys]) /\
  (∀ {xs ys : List TEntry}, xs.length + ys.length <= 100000000000 -> (Prim.app 9 72 true).run [rL xs, rL ys] = some [rL (xs ++ ys)]) /\
  (∀ {ys : List TEntry}, ys.length <= 100000000000 -> (Prim.app 9 72 true).run [.rows 9 [], rL ys] = some [rL ys]) /\
  (∀ {xs ys : List TEntry}, xs.length + ys.length <= 100000000000 -> (Prim.app 9 72 false).run [rL xs, rL ys] = some [rL (xs ++ ys)]) /\
  (∀ {ys : List TEntry}, ys.length <= 100000000000 -> (Prim.app 9 72 false).run [.rows 9 [], rL ys] = some [rL ys]) /\
  (∀ {xs ys : List TClerk}, xs.length + ys.length <= 100000000000 -> (Prim.app 3 72 false).run [rL xs, rL ys] = some [rL (xs ++ ys)]) /\
  (∀ {ys : List TClerk}, ys.length <= 100000000000 -> (Prim.app 3 72 false).run [.rows 3 [], rL ys] = some [rL ys]) /\
  (∀ {xs ys : List TAsk}, xs.length + ys.length <= 100000000000 -> (Prim.app 7 56 true).run [rL xs, rL ys] = some [rL (xs ++ ys)]) /\
  (∀ {ys : List TAsk}, ys.length <= 100000000000 -> (Prim.app 7 56 true).run [.rows 7 [], rL ys] = some [rL ys]) /\
  (∀ {xs ys : List TAsk}, xs.length + ys.length <= 100000000000 -> (Prim.app 7 56 false).run [rL xs, rL ys] = some [rL (xs ++ ys)]) /\
  (∀ {ys : List TAsk}, ys.length <= 100000000000 -> (Prim.app 7 56 false).run [.rows 7 [], rL ys] = some [rL ys]) :=
 ⟨fun h => (rL_app rfl (fun _ _ => rfl) (by unfold boundB; omega)),
  fun h => (rL_app0 rfl (fun _ _ => rfl) (by unfold boundB; omega)),
  fun h => (rL_app rfl (fun h => by cases h) (by unfold boundB; omega)),
  fun h => (rL_app0 rfl (fun h => by cases h) (by unfold boundB; omega)),
  fun h => (rL_app rfl (fun _ _ => rfl) (by unfold boundB; omega)),
  fun h => (rL_app0 rfl (fun _ _ => rfl) (by unfold boundB; omega)),
  fun h => (rL_app rfl (fun h => by cases h) (by unfold boundB; omega)),
  fun h => (rL_app0 rfl (fun h => by cases h) (by unfold boundB; omega)),
  fun h => (rL_app rfl (fun h => by cases h) (by unfold boundB; omega)),
  fun h => (rL_app0 rfl (fun h => by cases h) (by unfold boundB; omega)),
  fun h => (rL_app rfl (fun h => by cases h) (by unfold boundB; omega)),
  fun h => (rL_app0 rfl (fun h => by cases h) (by unfold boundB; omega)),
  fun h => (rL_app rfl (fun h => by cases h) (by unfold boundB; omega)),
  fun h => (rL_app0 rfl (fun h => by cases h) (by unfold boundB; omega)),
  fun h => (rL_app rfl (fun _ _ => rfl) (by unfold boundB; omega)),
  fun h => (rL_app0 rfl (fun _ _ => rfl) (by unfold boundB; omega)),
  fun h => (rL_app rfl (fun h => by cases h) (by unfold boundB; omega)),
  fun h => (rL_app0 rfl (fun h => by cases h) (by unfold boundB; omega)),
  fun h => (rL_app rfl (fun h => by cases h) (by unfold boundB; omega)),
  fun h => (rL_app0 rfl (fun h => by cases h) (by unfold boundB; omega)),
  fun h => (rL_app rfl (fun h => by cases h) (by unfold boundB; omega)),
  fun h => (rL_app0 rfl (fun h => by cases h) (by unfold boundB; omega)),
  fun h => (rL_app rfl (fun h => by cases h) (by unfold boundB; omega)),
  fun h => (rL_app0 rfl (fun h => by cases h) (by unfold boundB; omega)),
  fun h => (rL_app rfl (fun h => by cases h) (by unfold boundB; omega)),
  fun h => (rL_app0 rfl (fun h => by cases h) (by unfold boundB; omega)),
  fun h => (rL_app rfl (fun h => by cases h) (by unfold boundB; omega)),
  fun h => (rL_app0 rfl (fun h => by cases h) (by unfold boundB; omega)),
  fun h => (rL_app rfl (fun _ _ => rfl) (by unfold boundB; omega)),
  fun h => (rL_app0 rfl (fun _ _ => rfl) (by unfold boundB; omega)),
  fun h => (rL_app rfl (fun h => by cases h) (by unfold boundB; omega)),
  fun h => (rL_app0 rfl (fun h => by cases h) (by unfold boundB; omega)),
  fun h => (rL_app rfl (fun _ _ => rfl) (by unfold boundB; omega)),
  fun h => (rL_app0 rfl (fun _ _ => rfl) (by unfold boundB; omega)),
  fun h => (rL_app rfl (fun h => by cases h) (by unfold boundB; omega)),
  fun h => (rL_app0 rfl (fun h => by cases h) (by unfold boundB; omega)),
  fun h => (rL_app rfl (fun _ _ => rfl) (by unfold boundB; omega)),
  fun h => (rL_app0 rfl (fun _ _ => rfl) (by unfold boundB; omega)),
  fun h => (rL_app rfl (fun h => by cases h) (by unfold boundB; omega)),
  fun h => (rL_app0 rfl (fun h => by cases h) (by unfold boundB; omega)),
  fun h => (rL_app rfl (fun h => by cases h) (by unfold boundB; omega)),
  fun h => (rL_app0 rfl (fun h => by cases h) (by unfold boundB; omega)),
  fun h => (rL_app rfl (fun _ _ => rfl) (by unfold boundB; omega)),
  fun h => (rL_app0 rfl (fun _ _ => rfl) (by unfold boundB; omega)),
  fun h => (rL_app rfl (fun h => by cases h) (by unfold boundB; omega)),
  fun h => (rL_app0 rfl (fun h => by cases h) (by unfold boundB; omega))⟩
theorem S_sub : (∀ {xs : List Int} {lo hi : Int}, 0 <= lo -> lo <= hi -> hi <= xs.length -> (Prim.sub 1 true).run [rL xs, i64 lo, i64 hi] = some [rL ((xs.take hi.toNat).drop lo.toNat)]) /\
  (∀ {xs : List Int} {lo hi : Int}, 0 <= lo -> lo <= hi -> hi <= xs.length -> (Prim.sub 1 false).run [rL xs, i64 lo, i64 hi] = some [rL ((xs.take hi.toNat).drop lo.toNat)]) /\
  (∀ {xs : List (List UInt8)} {lo hi : Int}, 0 <= lo -> lo <= hi -> hi <= xs.length -> (Prim.sub 1 true).run [rL xs, i64 lo, i64 hi] = some [rL ((xs.take hi.toNat).drop lo.toNat)]) /\
  (∀ {xs : List (List UInt8)} {lo hi : Int}, 0 <= lo -> lo <= hi -> hi <= xs.length -> (Prim.sub 1 false).run [rL xs, i64 lo, i64 hi] = some [rL ((xs.take hi.toNat).drop lo.toNat)]) /\
  (∀ {xs : List (List Int)} {lo hi : Int}, 0 <= lo -> lo <= hi -> hi <= xs.length -> (Prim.sub 1 false).run [rL xs, i64 lo, i64 hi] = some [rL ((xs.take hi.toNat).drop lo.toNat)]) /\
  (∀ {xs : List (List TRow)} {lo hi : Int}, 0 <= lo -> lo <= hi -> hi <= xs.length -> (Prim.sub 1 false).run [rL xs, i64 lo, i64 hi] = some [rL ((xs.take hi.toNat).drop lo.toNat)]) /\
  (∀ {xs : List (List (List Int))} {lo hi : Int}, 0 <= lo -> lo <= hi -> hi <= xs.length -> (Prim.sub 1 false).run [rL xs, i64 lo, i64 hi] = some [rL ((xs.take hi.toNat).drop lo.toNat)]) /\
  (∀ {xs : List TCmd} {lo hi : Int}, 0 <= lo -> lo <= hi -> hi <= xs.length -> (Prim.sub 5 true).run [rL xs, i64 lo, i64 hi] = some [rL ((xs.take hi.toNat).drop lo.toNat)]) /\
  (∀ {xs : List TCmd} {lo hi : Int}, 0 <= lo -> lo <= hi -> hi <= xs.length -> (Prim.sub 5 false).run [rL xs, i64 lo, i64 hi] = some [rL ((xs.take hi.toNat).drop lo.toNat)]) /\
  (∀ {xs : List TRow} {lo hi : Int}, 0 <= lo -> lo <= hi -> hi <= xs.length -> (Prim.sub 10 false).run [rL xs, i64 lo, i64 hi] = some [rL ((xs.take hi.toNat).drop lo.toNat)]) /\
  (∀ {xs : List TTable} {lo hi : Int}, 0 <= lo -> lo <= hi -> hi <= xs.length -> (Prim.sub 2 false).run [rL xs, i64 lo, i64 hi] = some [rL ((xs.take hi.toNat).drop lo.toNat)]) /\
  (∀ {xs : List TLead} {lo hi : Int}, 0 <= lo -> lo <= hi -> hi <= xs.length -> (Prim.sub 16 false).run [rL xs, i64 lo, i64 hi] = some [rL ((xs.take hi.toNat).drop lo.toNat)]) /\
  (∀ {xs : List TRep} {lo hi : Int}, 0 <= lo -> lo <= hi -> hi <= xs.length -> (Prim.sub 4 false).run [rL xs, i64 lo, i64 hi] = some [rL ((xs.take hi.toNat).drop lo.toNat)]) /\
  (∀ {xs : List TMsg} {lo hi : Int}, 0 <= lo -> lo <= hi -> hi <= xs.length -> (Prim.sub 15 false).run [rL xs, i64 lo, i64 hi] = some [rL ((xs.take hi.toNat).drop lo.toNat)]) /\
  (∀ {xs : List TAsked} {lo hi : Int}, 0 <= lo -> lo <= hi -> hi <= xs.length -> (Prim.sub 7 true).run [rL xs, i64 lo, i64 hi] = some [rL ((xs.take hi.toNat).drop lo.toNat)]) /\
  (∀ {xs : List TAsked} {lo hi : Int}, 0 <= lo -> lo <= hi -> hi <= xs.length -> (Prim.sub 7 false).run [rL xs, i64 lo, i64 hi] = some [rL ((xs.take hi.toNat).drop lo.toNat)]) /\
  (∀ {xs : List TTold} {lo hi : Int}, 0 <= lo -> lo <= hi -> hi <= xs.length -> (Prim.sub 2 true).run [rL xs, i64 lo, i64 hi] = some [rL ((xs.take hi.toNat).drop lo.toNat)]) /\
  (∀ {xs : List TTold} {lo hi : Int}, 0 <= lo -> lo <= hi -> hi <= xs.length -> (Prim.sub 2 false).run [rL xs, i64 lo, i64 hi] = some [rL ((xs.take hi.toNat).drop lo.toNat)]) /\
  (∀ {xs : List TEntry} {lo hi : Int}, 0 <= lo -> lo <= hi -> hi <= xs.length -> (Prim.sub 9 true).run [rL xs, i64 lo, i64 hi] = some [rL ((xs.take hi.toNat).drop lo.toNat)]) /\
  (∀ {xs : List TEntry} {lo hi : Int}, 0 <= lo -> lo <= hi -> hi <= xs.length -> (Prim.sub 9 false).run [rL xs, i64 lo, i64 hi] = some [rL ((xs.take hi.toNat).drop lo.toNat)]) /\
  (∀ {xs : List TClerk} {lo hi : Int}, 0 <= lo -> lo <= hi -> hi <= xs.length -> (Prim.sub 3 false).run [rL xs, i64 lo, i64 hi] = some [rL ((xs.take hi.toNat).drop lo.toNat)]) /\
  (∀ {xs : List TAsk} {lo hi : Int}, 0 <= lo -> lo <= hi -> hi <= xs.length -> (Prim.sub 7 true).run [rL xs, i64 lo, i64 hi] = some [rL ((xs.take hi.toNat).drop lo.toNat)]) /\
  (∀ {xs : List TAsk} {lo hi : Int}, 0 <= lo -> lo <= hi -> hi <= xs.length -> (Prim.sub 7 false).run [rL xs, i64 lo, i64 hi] = some [rL ((xs.take hi.toNat).drop lo.toNat)]) :=
 ⟨fun h0 h1 h2 => (rL_sub rfl (fun _ _ => rfl) h0 h1 h2),
  fun h0 h1 h2 => (rL_sub rfl (fun h => by cases h) h0 h1 h2),
  fun h0 h1 h2 => (rL_sub rfl (fun _ _ => rfl) h0 h1 h2),
  fun h0 h1 h2 => (rL_sub rfl (fun h => by cases h) h0 h1 h2),
  fun h0 h1 h2 => (rL_sub rfl (fun h => by cases h) h0 h1 h2),
  fun h0 h1 h2 => (rL_sub rfl (fun h => by cases h) h0 h1 h2),
  fun h0 h1 h2 => (rL_sub rfl (fun h => by cases h) h0 h1 h2),
  fun h0 h1 h2 => (rL_sub rfl (fun _ _ => rfl) h0 h1 h2),
  fun h0 h1 h2 => (rL_sub rfl (fun h => by cases h) h0 h1 h2),
  fun h0 h1 h2 => (rL_sub rfl (fun h => by cases h) h0 h1 h2),
  fun h0 h1 h2 => (rL_sub rfl (fun h => by cases h) h0 h1 h2),
  fun h0 h1 h2 => (rL_sub rfl (fun h => by cases h) h0 h1 h2),
  fun h0 h1 h2 => (rL_sub rfl (fun h => by cases h) h0 h1 h2),
  fun h0 h1 h2 => (rL_sub rfl (fun h => by cases h) h0 h1 h2),
  fun h0 h1 h2 => (rL_sub rfl (fun _ _ => rfl) h0 h1 h2),
  fun h0 h1 h2 => (rL_sub rfl (fun h => by cases h) h0 h1 h2),
  fun h0 h1 h2 => (rL_sub rfl (fun _ _ => rfl) h0 h1 h2),
  fun h0 h1 h2 => (rL_sub rfl (fun h => by cases h) h0 h1 h2),
  fun h0 h1 h2 => (rL_sub rfl (fun _ _ => rfl) h0 h1 h2),
  fun h0 h1 h2 => (rL_sub rfl (fun h => by cases h) h0 h1 h2),
  fun h0 h1 h2 => (rL_sub rfl (fun h => by cases h) h0 h1 h2),
  fun h0 h1 h2 => (rL_sub rfl (fun _ _ => rfl) h0 h1 h2),
  fun h0 h1 h2 => (rL_sub rfl (fun h => by cases h) h0 h1 h2)⟩
theorem S_eqs : (∀ {a_kind a_id a_src a_dst a_amt b_kind b_id b_src b_dst b_amt : Int}, (Prim.eqs [0, 0, 0, 0, 0]).run [i64 a_kind, i64 a_id, i64 a_src, i64 a_dst, i64 a_amt, i64 b_kind, i64 b_id, i64 b_src, i64 b_dst, i64 b_amt] = some [.bool (decide ((⟨a_kind, a_id, a_src, a_dst, a_amt⟩ : TCmd) = ⟨b_kind, b_id, b_src, b_dst, b_amt⟩))]) /\
  (∀ {a_code a_sum b_code b_sum : Int}, (Prim.eqs [0, 0]).run [i64 a_code, i64 a_sum, i64 b_code, i64 b_sum] = some [.bool (decide ((⟨a_code, a_sum⟩ : TTold) = ⟨b_code, b_sum⟩))]) :=
 ⟨(fun {a_kind a_id a_src a_dst a_amt b_kind b_id b_src b_dst b_amt} => eqs_ints [a_kind, a_id, a_src, a_dst, a_amt] [b_kind, b_id, b_src, b_dst, b_amt] rfl (by simp [TCmd.mk.injEq])),
  (fun {a_code a_sum b_code b_sum} => eqs_ints [a_code, a_sum] [b_code, b_sum] rfl (by simp [TTold.mk.injEq]))⟩
end Go.Proofs.YtpgnlmfmlffjcaaGreat.Rf

namespace Go.Proofs.YtpgnlmfmlffjcaaGreat.Rf
set_option linter.unusedVariables false
set_option linter.unusedSimpArgs false
section
variable {T : Nat -> Ent} {β : Type} {α : Type} [Inhabited α]
inductive Rd1 (σ : Type) where
 | go (s : σ)
 | out (r : Kind × List D)
def foldX {σ : Type} (f : Nat -> α -> σ -> Rd1 σ) : Nat -> List α -> σ -> Rd1 σ
 | _, [], s => .go s
 | i, x :: xs, s => match f i x s with
  | .go s' => foldX f (i + 1) xs s'
  | .out r => .out r
def rndK {σ : Type} (vs : Int -> σ -> List D) (i : Int) : Rd1 σ -> Kind × List D
 | .go s => (.cont, vs (i + 1) s)
 | .out r => r
theorem loopX {σ : Type} {body : Tm β} {ρ : List D} {init : List Atom} (xs : List α) (vs : Int -> σ -> List D) (s0 : σ) (f : Nat -> α -> σ -> Rd1 σ) (inv : Nat -> σ -> Prop) (fin : σ -> Kind × List D)
  (h0 : init.map (·.val ρ) = vs 0 s0) (hi : inv 0 s0)
  (h1 : ∀ (i : Nat) s, i < xs.length -> inv i s -> Er T body (ρ ++ vs i s) = some (rndK vs i (f i (atI xs i) s)) /\ (∀ s', f i (atI xs i) s = .go s' -> inv (i + 1) s') /\ ∀ r, f i (atI xs i) s = .out r -> r.1 ≠ .cont)
  (h2 : ∀ s, inv xs.length s -> Er T body (ρ ++ vs xs.length s) = some (fin s) /\ (fin s).1 ≠ .cont) :
  ∃ r, Er T (.loop init body) ρ = some r /\ ((∃ s, foldX f 0 xs s0 = .go s /\ inv xs.length s /\ r = fin s) \/ foldX f 0 xs s0 = .out r) := by
 have key := loopR (T := T) (body := body) (ρ := ρ) (γ := Nat × σ) (fun c => xs.length - c.1) (fun c => c.1 <= xs.length /\ inv c.1 c.2 /\ foldX f c.1 (xs.drop c.1) c.2 = foldX f 0 xs s0) (fun c => vs (c.1 : Int) c.2)
  (fun r => (∃ s, foldX f 0 xs s0 = .go s /\ inv xs.length s /\ r = fin s) \/ foldX f 0 xs s0 = .out r)
  (fun ⟨i, s⟩ ⟨hle, hv, hf⟩ => by
   simp only at hle hv hf ⊢
   rcases Nat.lt_or_ge i xs.length with hlt | hge
   ·obtain ⟨h3, h4, h5⟩ := h1 i s hlt hv
    have hd : xs.drop i = atI xs i :: xs.drop (i + 1) := by
     rw [List.drop_eq_getElem_cons hlt, atI_get hlt]
    rw [hd, foldX] at hf
    refine ⟨_, h3, ?_⟩
    cases e : f i (atI xs i) s with
    | go s' =>
     rw [e] at hf
     exact .inl ⟨rfl, (i + 1, s'), ⟨by simp only; omega, h4 s' e, hf⟩, by simp only; omega, rfl⟩
    | out r =>
     rw [e] at hf
     exact .inr ⟨h5 r e, .inr hf.symm⟩
   ·obtain rfl : i = xs.length := by omega
    obtain ⟨h3, h4⟩ := h2 s hv
    rw [List.drop_length, foldX] at hf
    exact ⟨_, h3, .inr ⟨h4, .inl ⟨s, hf.symm, hv, rfl⟩⟩⟩)
  xs.length (0, s0) (by simp) ⟨by simp, hi, by simp⟩ init h0
 exact key
theorem scanX {body : Tm β} {ρ : List D} (j : Nat) (n : Nat) (p : Nat -> Bool) (r : List D)
  (h1 : ∀ i : Nat, i < n -> p i = true -> Er T body (ρ ++ [i64 i]) = some (.cont, [i64 ((i : Int) + 1)]))
  (h2 : ∀ i : Nat, i < n -> p i = false -> Er T body (ρ ++ [i64 i]) = some (.ret, r))
  (h3 : Er T body (ρ ++ [i64 n]) = some (.yield j, [])) :
  Er T (.loop [.c (i64 0)] body) ρ = forkT (allB p n) (some (.yield j, [])) (some (.ret, r)) := by
 have key := loopR (T := T) (body := body) (ρ := ρ) (fun i => n - i) (fun i => i <= n /\ ∀ j, j < i -> p j = true) (fun i => [i64 (i : Nat)])
  (fun q => (∀ j, j < n -> p j = true) /\ q = (.yield j, []) \/ (∃ j, j < n /\ p j = false) /\ q = (.ret, r))
  (fun i ⟨hi, hall⟩ => by
   rcases Nat.lt_or_ge i n with hlt | hge
   ·cases e : p i with
    | true => exact ⟨_, h1 i hlt e, .inl ⟨rfl, i + 1, ⟨by omega, fun j hj => by
      rcases Nat.lt_or_ge j i with h | h
      ·exact hall j h
      ·obtain rfl : j = i := by omega
       exact e⟩, by omega, rfl⟩⟩
    | false => exact ⟨_, h2 i hlt e, .inr ⟨by simp, .inr ⟨⟨i, hlt, e⟩, rfl⟩⟩⟩
   ·obtain rfl : i = n := by omega
    exact ⟨_, h3, .inr ⟨by simp, .inl ⟨hall, rfl⟩⟩⟩)
  n 0 (by omega) ⟨by omega, fun j hj => by omega⟩ [.c (i64 0)] (by simp [Atom.val])
 obtain ⟨q, h4, h5⟩ := key
 rw [h4]
 rcases h5 with ⟨h6, rfl⟩ | ⟨h6, rfl⟩
 ·rw [allB_true.2 h6]; rfl
 ·rw [allB_false.2 h6]; rfl
theorem allB_all (xs : List α) (p : α -> Bool) : allB (fun i => p (atI xs i)) xs.length = xs.all p := by
 cases e : xs.all p with
 | true =>
  rw [List.all_eq_true] at e
  rw [allB_true]
  intro i hi
  rw [atI_get hi]
  exact e _ (List.getElem_mem hi)
 | false =>
  rw [List.all_eq_false] at e
  obtain ⟨x, hx, hp⟩ := e
  obtain ⟨i, hi, rfl⟩ := List.getElem_of_mem hx
  exact allB_false.2 ⟨i, hi, by rw [atI_get hi]; simpa using hp⟩
theorem allB_eq [DecidableEq α] {xs ys : List α} (hl : xs.length = ys.length) : allB (fun i => decide (atI xs i = atI ys i)) xs.length = decide (xs = ys) := by
 by_cases e : xs = ys
 ·subst e
  rw [decide_eq_true rfl, allB_true]
  exact fun i _ => decide_eq_true rfl
 ·rw [decide_eq_false e]
  cases h : allB (fun i => decide (atI xs i = atI ys i)) xs.length with
  | false => rfl
  | true =>
   rw [allB_true] at h
   refine absurd (List.ext_getElem hl fun i h1 h2 => ?_) e
   have := of_decide_eq_true (h i h1)
   rwa [atI_get h1, atI_get h2] at this
theorem eq_len {xs ys : List α} [DecidableEq α] (h : ¬ xs.length = ys.length) : decide (xs = ys) = false := decide_eq_false fun e => h (by rw [e])
theorem allX {body : Tm β} {ρ : List D} (j : Nat) (xs : List α) (p : α -> Bool) (r : List D)
  (h1 : ∀ i : Nat, i < xs.length -> InB xs (i : Int) -> decide ((i : Int) < xs.length) = true -> p (atI xs i) = true -> Er T body (ρ ++ [i64 i]) = some (.cont, [i64 ((i : Int) + 1)]))
  (h2 : ∀ i : Nat, i < xs.length -> InB xs (i : Int) -> decide ((i : Int) < xs.length) = true -> p (atI xs i) = false -> Er T body (ρ ++ [i64 i]) = some (.ret, r))
  (h3 : decide ((xs.length : Int) < xs.length) = false -> Er T body (ρ ++ [i64 xs.length]) = some (.yield j, [])) :
  Er T (.loop [.c (i64 0)] body) ρ = forkT (xs.all p) (some (.yield j, [])) (some (.ret, r)) := by
 rw [scanX j xs.length (fun i => p (atI xs i)) r (fun i hi hp => h1 i hi (InB_nat.2 hi) (by simp; omega) hp) (fun i hi hp => h2 i hi (InB_nat.2 hi) (by simp; omega) hp) (h3 (by simp)), allB_all]
theorem allF {body : Tm β} {ρ : List D} (j : Nat) (xs : List α) (p : α -> Bool) (r : List D)
  (h1 : ∀ i : Nat, i < xs.length -> InB xs (i : Int) -> decide ((i : Int) < xs.length) = true -> atI xs (i : Int) ∈ xs -> Er T body (ρ ++ [i64 i]) = forkT (p (atI xs i)) (some (.cont, [i64 ((i : Int) + 1)])) (some (.ret, r)))
  (h3 : decide ((xs.length : Int) < xs.length) = false -> Er T body (ρ ++ [i64 xs.length]) = some (.yield j, [])) :
  Er T (.loop [.c (i64 0)] body) ρ = forkT (xs.all p) (some (.yield j, [])) (some (.ret, r)) :=
 allX j xs p r (fun i hi hb hl hp => by rw [h1 i hi hb hl (by rw [atI_get hi]; exact List.getElem_mem hi), hp]; rfl) (fun i hi hb hl hp => by rw [h1 i hi hb hl (by rw [atI_get hi]; exact List.getElem_mem hi), hp]; rfl) h3
def ixF (p : α -> Bool) (xs : List α) : Int := match xs.findIdx? p with
 | some i => i
 | none => -1
omit [Inhabited α] in
theorem ixF_any (p : α -> Bool) (xs : List α) : decide (0 <= ixF p xs) = xs.any p := by
 unfold ixF
 cases h : xs.findIdx? p with
 | none =>
  rw [List.findIdx?_eq_none_iff] at h
  have : xs.any p = false := by
   rw [List.any_eq_false]
   exact fun x hx => by simp [h x hx]
  rw [this]; rfl
 | some i =>
  have : xs.any p = true := by
   rw [List.findIdx?_eq_some_iff_getElem] at h
   obtain ⟨hi, hp, -⟩ := h
   rw [List.any_eq_true]
   exact ⟨_, List.getElem_mem hi, hp⟩
  rw [this]; simp
theorem findX {body : Tm β} {ρ : List D} (j : Nat) (xs : List α) (p : α -> Bool) (rf : Int -> List D)
  (h1 : ∀ i : Nat, i < xs.length -> InB xs (i : Int) -> decide ((i : Int) < xs.length) = true -> p (atI xs i) = true -> Er T body (ρ ++ [i64 i]) = some (.ret, rf i))
  (h2 : ∀ i : Nat, i < xs.length -> InB xs (i : Int) -> decide ((i : Int) < xs.length) = true -> p (atI xs i) = false -> Er T body (ρ ++ [i64 i]) = some (.cont, [i64 ((i : Int) + 1)]))
  (h3 : decide ((xs.length : Int) < xs.length) = false -> Er T body (ρ ++ [i64 xs.length]) = some (.yield j, [])) :
  Er T (.loop [.c (i64 0)] body) ρ = forkT (xs.any p) (some (.ret, rf (ixF p xs))) (some (.yield j, [])) := by
 have hall : ∀ (i : Nat) (ys : List α), foldX (fun (i : Nat) x (_ : Unit) => if p x then Rd1.out (.ret, rf i) else .go ()) i ys () = match ys.findIdx? p with | some k => .out (.ret, rf ((i + k : Nat) : Int)) | none => .go () := by
  intro i ys
  induction ys generalizing i with
  | nil => rfl
  | cons y ys ih =>
   rw [foldX, List.findIdx?_cons]
   cases p y with
   | true => simp
   | false =>
    simp only [Bool.false_eq_true, if_false]
    rw [ih (i + 1)]
    cases ys.findIdx? p with
    | none => rfl
    | some k => simp only [Option.map_some]; congr 4; omega
 obtain ⟨q, h4, h5⟩ := loopX (T := T) (body := body) (ρ := ρ) (init := [.c (i64 0)]) xs (fun i (_ : Unit) => [i64 i]) () (fun i x _ => if p x then .out (.ret, rf i) else .go ()) (fun _ _ => True) (fun _ => (.yield j, [])) rfl trivial
  (fun i _ hi _ => by
   cases e : p (atI xs i) with
   | true => exact ⟨by rw [h1 i hi (InB_nat.2 hi) (by simp; omega) e]; rfl, fun _ _ => trivial, fun r h => by simp at h; rw [<- h]; simp⟩
   | false => exact ⟨by rw [h2 i hi (InB_nat.2 hi) (by simp; omega) e]; rfl, fun _ _ => trivial, fun r h => by simp at h⟩)
  (fun _ _ => ⟨h3 (by simp), by simp⟩)
 rw [h4, <- ixF_any]
 rw [hall] at h5
 unfold ixF
 cases e : xs.findIdx? p with
 | none =>
  rw [e] at h5
  rcases h5 with ⟨s, -, -, rfl⟩ | h5
  ·rfl
  ·simp at h5
 | some k =>
  rw [e] at h5
  rcases h5 with ⟨s, h5, -⟩ | h5
  ·simp at h5
  ·simp only [Nat.zero_add, Rd1.out.injEq] at h5
   rw [<- h5]
   simp [forkT]
theorem at_mem {xs : List α} {i : Nat} (h : i < xs.length) : atI xs (i : Int) ∈ xs := by rw [atI_get h]; exact List.getElem_mem h
omit [Inhabited α] in
theorem loopN {body : Tm β} {ρ : List D} {init : List Atom} (n : Nat) (vs : Nat -> List D) (r : Kind × List D) (h0 : init.map (·.val ρ) = vs 0) (hr : r.1 ≠ .cont)
  (h1 : ∀ i : Nat, i < n -> decide ((i : Int) < n) = true -> Er T body (ρ ++ vs i) = some (.cont, vs (i + 1)))
  (h2 : decide ((n : Int) < n) = false -> Er T body (ρ ++ vs n) = some r) : Er T (.loop init body) ρ = some r := by
 obtain ⟨q, h3, rfl⟩ := loopR (T := T) (body := body) (ρ := ρ) (fun i => n - i) (fun i => i <= n) vs (fun q => q = r)
  (fun i hi => by
   rcases Nat.lt_or_ge i n with hlt | hge
   ·exact ⟨_, h1 i hlt (by simp; omega), .inl ⟨rfl, i + 1, by omega, by omega, rfl⟩⟩
   ·obtain rfl : i = n := by omega
    exact ⟨_, h2 (by simp), .inr ⟨hr, rfl⟩⟩) n 0 (by omega) (by omega) init h0
 exact h3
omit [Inhabited α] in
theorem whileE {γ : Type} {body : Tm β} {ρ : List D} {init : List Atom} (r : Kind × List D) (m : γ -> Nat) (inv : γ -> Prop) (vs : γ -> List D) (c0 : γ) (h0 : init.map (·.val ρ) = vs c0) (hi : inv c0) (hr : r.1 ≠ .cont)
  (h : ∀ c, inv c -> (∃ c', Er T body (ρ ++ vs c) = some (.cont, vs c') /\ inv c' /\ m c' < m c) \/ Er T body (ρ ++ vs c) = some r) : Er T (.loop init body) ρ = some r := by
 obtain ⟨q, h1, rfl⟩ := loopR (T := T) (body := body) (ρ := ρ) m inv vs (fun q => q = r)
  (fun c hc => by
   rcases h c hc with ⟨c', h2, h3, h4⟩ | h2
   ·exact ⟨_, h2, .inl ⟨rfl, c', h3, h4, rfl⟩⟩
   ·exact ⟨_, h2, .inr ⟨hr, rfl⟩⟩) (m c0) c0 (Nat.le_refl _) hi init h0
 exact h1
theorem foldS {σ : Type} {body : Tm β} {ρ : List D} {init : List Atom} (j : Nat) (xs : List α) (vs : Int -> σ -> List D) (s0 : σ) (f : σ -> α -> σ) (inv : Nat -> σ -> Prop) (out : σ -> List D)
  (h0 : init.map (·.val ρ) = vs 0 s0) (hi : inv 0 s0)
  (h1 : ∀ (i : Nat) s, i < xs.length -> InB xs (i : Int) -> decide ((i : Int) < xs.length) = true -> inv i s -> Er T body (ρ ++ vs i s) = some (.cont, vs ((i : Int) + 1) (f s (atI xs i))) /\ inv (i + 1) (f s (atI xs i)))
  (h2 : ∀ s, decide ((xs.length : Int) < xs.length) = false -> inv xs.length s -> Er T body (ρ ++ vs xs.length s) = some (.yield j, out s)) :
  Er T (.loop init body) ρ = some (.yield j, out (xs.foldl f s0)) /\ inv xs.length (xs.foldl f s0) := by
 have hall : ∀ i xs s, foldX (fun (_ : Nat) (x : α) s => Rd1.go (f s x)) i xs s = .go (xs.foldl f s) := by
  intro i xs
  induction xs generalizing i with
  | nil => exact fun _ => rfl
  | cons x xs ih => exact fun s => ih (i + 1) _
 obtain ⟨q, h4, h5⟩ := loopX (T := T) (body := body) (ρ := ρ) (init := init) xs vs s0 (fun _ x s => .go (f s x)) inv (fun s => (.yield j, out s)) h0 hi
  (fun i s hl hv => by
   obtain ⟨h5, h6⟩ := h1 i s hl (InB_nat.2 hl) (by simp; omega) hv
   exact ⟨h5, fun s' h => by simp only [Rd1.go.injEq] at h; rw [<- h]; exact h6, fun r h => by cases h⟩)
  (fun s hv => ⟨h2 s (by simp) hv, by simp⟩)
 rw [hall] at h5
 rcases h5 with ⟨s, h5, h6, rfl⟩ | h5
 ·simp only [Rd1.go.injEq] at h5
  subst h5
  exact ⟨h4, h6⟩
 ·cases h5
end
theorem take_at {α : Type} [Inhabited α] {xs : List α} {i : Nat} (h : i < xs.length) : xs.take i ++ [atI xs (i : Int)] = xs.take (i + 1) := by rw [List.take_succ_eq_append_getElem h, atI_get h]
theorem SQ : (∀ {a b : Int}, -9223372036854775808 <= a + b -> a + b <= 9223372036854775807 -> (Prim.bin .add).run [i64 a, i64 b] = some [i64 (a + b)]) /\
  (∀ {a b : Int}, -9223372036854775808 <= a - b -> a - b <= 9223372036854775807 -> (Prim.bin .sub).run [i64 a, i64 b] = some [i64 (a - b)]) /\
  (∀ {a b : Int}, 0 <= a -> a <= 9223372036854775807 -> 0 < b -> (Prim.bin .quo).run [i64 a, i64 b] = some [i64 (a / b)]) /\ (∀ {a b : Int}, 0 <= a -> 0 < b -> (Prim.bin .rem).run [i64 a, i64 b] = some [i64 (a % b)]) :=
 ⟨run_add, run_sub, run_quoI, run_remI⟩
end Go.Proofs.YtpgnlmfmlffjcaaGreat.Rf
