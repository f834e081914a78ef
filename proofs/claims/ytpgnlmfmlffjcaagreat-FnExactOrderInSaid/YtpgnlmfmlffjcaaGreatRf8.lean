/- Terms for the program's functions, and that they are right: part 8 of 9. -/
import Derived.Test.YtpgnlmfmlffjcaaGreatRf7
import Derived.Shelf.SlicesE.Clone
import Derived.Laws.CopyOwn
import Derived.LoopN
import Derived.WalkKit
import Derived.RegionTactic
import Derived.ChangeAlike
import Derived.Lib.Bytealg
import Derived.Lib.SplitLaws
import Derived.LaidLaws
import Derived.Lay
import Derived.Shelf.Strings.OnBuilder
import Derived.Shelf.Strconv.Itoa3
import Derived.Lib.AppendIntMem
import Derived.Lib.LaidTab
import Derived.Shelf.Lay
import Derived.Shelf.SlSortCmp.NoneTotal
import Derived.Shelf.SlicesE.Delete
open Bool renaming and_eq_true → Mby, false_eq_true → Mb6, or_eq_true → Oba, false_or → Pbg, not_true → Pbl, and_true → Pbr
open List renaming getElem?_eq_getElem → Mb0, length_append → Mb2, getD_eq_getElem?_getD → Mb4, length_map → Nbb, length_cons → Nbc, mem_of_getElem? → Nbe, replicate → Nbg, map_cons → Nbm, getElem?_map → Nbn, append_nil → Nbo, all_eq_true → Nbq, length_take → Nbr, getElem?_drop → Nby, take_length → Nb0, eq_nil_of_length_eq_zero → Nb9, length_drop → Obc, getElem?_eq_none → Obe, map_append → Obo, drop_eq_getElem_cons → Obs, getElem_mem → Obz, mem_of_mem_drop → Ob3, length_set → Pbe, ext_getElem? → Pbi, take_succ_eq_append_getElem → Pbk, all_cons → Pbq
open Nat renaming le_refl → Nbd, lt_or_ge → Nbk, add_assoc → Nbl, add_zero → Nbs, le_trans → Nb4, mul_le_mul_right → Obg, add_mul → Obi, zero_le → Obu, mul_comm → Pby, div_eq_of_lt → Pb0
open Option renaming bind_eq_some_iff → Mbx, bind_some → Mb3, map_eq_some_iff → Nba, map_some → Nb3
set_option linter.unusedSimpArgs false
set_option linter.unusedVariables false
set_option linter.unnecessarySimpa false
set_option linter.unusedSectionVars false
namespace Go.Proofs.YtpgnlmfmlffjcaaGreat.Rf
set_option linter.unusedVariables false
set_option linter.unusedSimpArgs false
open Go.Proofs Go.Shelf Go.RowKit Go.Lib
section
variable {P : Program} {ρ : Ren}
set_option maxHeartbeats 2000000 in
set_option maxRecDepth 100000 in
theorem Pam (L : SlLaysE0.n41 P ρ) (i0 : TypeInfo) (z : Value) (size bytes : Nat) (hi : P.info? (ρ.t 23) = some i0) (hz0 : i0.zero = some z) (hz1 : i0.size = size) (hz2 : i0.bytes = bytes) (hzs : z.cells.size = size) (hsz : 0 < size)
  (z23 : ∀ w, (Go.sizeOf (ρ.t 23)).run P w = .ok size w) (a : Addr) (c : Nat) (w : World) :
  Calls P (ρ.f 41) #[.slice (some a) 0 c] w fun e w' => ∃ v', e = .returned v' /\ w'.ownsRow w.heap.size (ρ.t 23) size v' 0 [] /\ Below w.heap.size w w' := by
 have mixed := L.mixed; have t4 := L.t4; have a4 := L.a4; have z4 := L.z4; have v4 := L.v4; have t22 := L.t22; have a22 := L.a22; have z22 := L.z22; have v22 := L.v22
 have q22 : ∀ (w : World) (a : Option Addr) (n c n' c' : Nat), (binOp .eql (ρ.t 22) (.slice a n c) (.slice none n' c')).run P w = .ok (.bool a.isNone) w := fun w a n c n' c' => Lib.run_eql_slice_nil w _ _ a n c n' c' L.t22
 have u22 : ∀ w, Sem.run P (underlying (ρ.t 22)) w = .ok (TypeDesc.slice (ρ.t 23)) w := run_underlying t22
 obtain ⟨_, _, FG⟩ := L.f41
 go_enter FG, SlBodyN.n41_ntmps ρ
 go_wp2_with (at_builtin; refine wpList_append_own _ rfl _ _ (ρ.t 22) rfl w.heap.size (ρ.t 23) i0 z size bytes t22 hi hz0 hz1 hz2 hzs hsz _ _ _ rfl (World.ownsRow_made w #[] 0 (Nbd _) (Obu _) (by simp)) a 0 c [] rfl ?qc1 ?qc2 ?qc3 ?qc4 ?qc5 ?qc6 ?_)
 case qc1 => simp
 case qc2 => intro j u hj; simp at hj
 case qc3 => intro u hu; cases hu
 case qc4 => exact Obu _
 case qc5 => simp
 case qc6 => simp
 intro v' w1 hown hgrow hnil
 go_wp2
 go_ret
 exact ⟨v', rfl, by simpa using hown, ((Below.refl _ w).alloc (Nbd _) _).grown hgrow (by simp) (by intro k hk; simp [Value.ownBlock] at hk; omega)⟩
theorem Cam {s : Sig} {G : Gh} {w : World} {vals : List Value} {ds : List D} (h : Xap s vals w G ds) (hb : s.boxes = []) : kM (nG s G w) G w :=
 ⟨rfl, rfl, rfl, Nbd _, fun b _ _ => ⟨rfl, rfl⟩, fun b j hj he => by
  obtain ⟨h1, -⟩ := h.cells b j hj he
  rw [hb] at h1
  exact absurd h1 (Nat.not_lt_zero _), h.fresh⟩
theorem zY {s : Sig} {G : Gh} {w w' : World} {vals : List Value} {ds : List D} {own' : Nat -> Ow} (h : Xap s vals w G ds) (hb : s.boxes = []) (hbel : Below w.heap.size w w') (h1 : ∀ b, b < w.heap.size -> own' b = G.own b) (h2 : ∀ b, w'.heap.size <= b -> own' b = .frz) :
  kM (nG s G w) { G with own := own' } w' :=
 ⟨hbel.os, hbel.tape, hbel.output, hbel.size, fun b hlt _ => ⟨hbel.block b hlt, h1 b hlt⟩, fun b j hj he => by
  obtain ⟨h1, -⟩ := h.cells b j hj he
  rw [hb] at h1
  exact absurd h1 (Nat.not_lt_zero _), h2⟩
theorem Zax (L : SlLaysE0.n41 P ρ) {i0 : TypeInfo} {z : Value} {size bytes m key : Nat} {T1 : Nat -> Ent} (hi : P.info? (ρ.t 23) = some i0) (hz0 : i0.zero = some z) (hz1 : i0.size = size) (hz2 : i0.bytes = bytes) (hzs : z.cells.size = size) (hsz : 0 < size)
  (z23 : ∀ w, (Go.sizeOf (ρ.t 23)).run P w = .ok size w) (hK : ∀ n, rP P T1 n key ⟨ρ.f 41, [(false, [.fz false])], [], [(false, [.ow (m + 1)])]⟩) :
  Xam P ⟨ρ.f 41, [(false, [.fz false])], [], [(false, [.ow (m + 1)])]⟩ (fun ds => match ds with
   | [.rows _ []] => some [.rows size []]
   | ds => Fun T1 key ds) := by
 intro vals w G ds ds' hpre he
 by_cases hds : ∃ sz, ds = [.rows sz []]
 ·obtain ⟨sz, rfl⟩ := hds
  simp only [Option.some.injEq] at he
  subst he
  obtain ⟨u, us, vs, rfl, ⟨v, vs', rfl, ⟨hrd, -⟩, rfl⟩, hsh, hnil⟩ := hpre.params
  simp only [Mb6, if_false] at hsh
  obtain rfl : v = u := by simpa using hsh
  simp only [jC] at hnil
  subst hnil
  have hrd' : Rd (fun b => G.own b = .frz) w v (.rows sz []) := hrd
  obtain ⟨A, a, n, c, vs, rfl, hn, hc, -, -⟩ := hrd'.inv
  obtain rfl : n = 0 := hn.symm
  obtain ⟨nm, hnm, hfn⟩ := L.f41
  refine .inl ⟨fZ hfn hnm rfl _ _, ?_⟩
  cases A with
  | none =>
   refine Calls.mono (AnyE.slices_Clone_nil L 0 c w) fun e w' ⟨h1, h2⟩ => ?_
   subst h1; subst h2
   refine ⟨G, [.slice none 0 0], rfl, Cam hpre rfl, ⟨_, _, _, rfl, ⟨_, _, rfl, ?_, rfl⟩, rfl, rfl⟩, trivial, trivial⟩
   exact .sl none ⟨0, 0, none⟩ 0 0 _ [] (fun _ _ => undef) rfl (Nbd _) (.inr ⟨rfl, rfl⟩) (by simp) (fun e => by cases e) (by simp) (by simp)
  | some a' =>
   refine Calls.mono (Pam L i0 z size bytes hi hz0 hz1 hz2 hzs hsz z23 a' c w) fun e w' ⟨v', h1, h2, h3⟩ => ?_
   subst h1
   rcases h2.2 with ⟨rfl, -⟩ | ⟨g, cap, cur, rfl, hg, hcell, -, -, hcur, -⟩
   ·refine ⟨{ G with own := G.own }, [.slice none 0 0], rfl, zY hpre rfl h3 (fun _ _ => rfl) (fun b hb => hpre.fresh b (Nb4 h3.size hb)), ⟨_, _, _, rfl, ⟨_, _, rfl, ?_, rfl⟩, rfl, rfl⟩, trivial, trivial⟩
    exact .sl none ⟨0, 0, none⟩ 0 0 _ [] (fun _ _ => undef) rfl (Nbd _) (.inr ⟨rfl, rfl⟩) (by simp) (fun e => by cases e) (by simp) (by simp)
   ·have hlt : g < w'.heap.size := (Array.getElem?_eq_some_iff.1 hcell).1
    refine ⟨{ G with own := fun b => if b = g then .slc 0 [] else G.own b }, [.slice (some ⟨g, 0, none⟩) 0 cap], rfl, zY hpre rfl h3 (fun b hb => if_neg (by omega)) (fun b hb => ?_), ⟨_, _, _, rfl, ⟨_, _, rfl, ?_, rfl⟩, rfl, rfl⟩, trivial, trivial⟩
    ·show (if b = g then _ else _) = _
     rw [if_neg (by omega)]
     exact hpre.fresh b (Nb4 h3.size hb)
    ·refine .sl (some ⟨g, 0, none⟩) ⟨g, 0, none⟩ 0 cap _ [] (fun _ _ => undef) rfl (Obu _) (.inl rfl) (by simp) (fun _ => ⟨rfl, if_pos rfl, fun k hk => ?_⟩) (by simp) (by simp)
     have hk' : k < cur.size := by omega
     refine ⟨cur[k], ?_, ?_⟩
     ·have hb : ((⟨g, 0, none⟩ : Addr).add k).block = g := add_block _ _
      have ho : ((⟨g, 0, none⟩ : Addr).add k) = ⟨g, k, none⟩ := by unfold Addr.add; split <;> simp_all
      rw [ho]
      simp [World.cell?, hcell, hk']
     ·have ho : ((⟨g, 0, none⟩ : Addr).add k) = ⟨g, k, none⟩ := by unfold Addr.add; split <;> simp_all
      rw [ho]
      simp [World.frozen?, hcell]
 ·have he' : Fun T1 key ds = some ds' := by
   dsimp only at he
   split at he
   ·rename_i sz
    exact absurd ⟨sz, rfl⟩ hds
   ·exact he
  obtain ⟨n, hn⟩ := Dar.1 he'
  exact hK n vals w G ds ds' hpre hn
def Aao (P : Program) (t : TypeId) : Option Nat := match P.info? t with
 | some i => match i.zero with
  | some z => if z.cells.size = i.size /\ 0 < i.size then some i.size else none
  | none => none
 | none => none
noncomputable def Aby (size : Nat) (T1 : Nat -> Ent) (key : Nat) : List D -> Option (List D) := fun ds => match ds with
 | [.rows _ []] => some [.rows size []]
 | ds => Fun T1 key ds
theorem Wa2 (L : SlLaysE0.n41 P ρ) {size m key f : Nat} {T T1 : Nat -> Ent} {ti : Nat -> Option TI} {sigs : List (Nat × Sig)} (hf : ρ.f 41 = f) (h : Aao P (ρ.t 23) = some size) (z23 : ∀ w, (Go.sizeOf (ρ.t 23)).run P w = .ok size w)
  (hK : ∀ n, rP P T1 n key ⟨f, [(false, [.fz false])], [], [(false, [.ow (m + 1)])]⟩) (hT : T key = .ext (Aby size T1 key)) :
  Ram P T ti sigs key ⟨f, [(false, [.fz false])], [], [(false, [.ow (m + 1)])]⟩ := by
 subst hf
 unfold Aao at h
 split at h
 ·rename_i i hi
  split at h
  ·rename_i z hz
   split at h
   ·rename_i h1
    cases h
    exact .inr ⟨_, hT, Zax L hi hz rfl rfl h1.1 h1.2 z23 hK⟩
   ·cases h
  ·cases h
 ·cases h
end
end Go.Proofs.YtpgnlmfmlffjcaaGreat.Rf

namespace Go.Proofs.YtpgnlmfmlffjcaaGreat.Rf
set_option linter.unusedVariables false
set_option linter.unusedSimpArgs false
open Go.RowKit
section
variable {P : Program}
end
end Go.Proofs.YtpgnlmfmlffjcaaGreat.Rf

namespace Go.Proofs.YtpgnlmfmlffjcaaGreat.Rf
set_option linter.unusedVariables false
set_option linter.unusedSimpArgs false
section
variable {P : Program}
end
end Go.Proofs.YtpgnlmfmlffjcaaGreat.Rf

namespace Go.Proofs.YtpgnlmfmlffjcaaGreat.Rf
set_option linter.unusedVariables false
set_option linter.unusedSimpArgs false
end Go.Proofs.YtpgnlmfmlffjcaaGreat.Rf

namespace Go.Proofs.YtpgnlmfmlffjcaaGreat.Rf
set_option linter.unusedVariables false
set_option linter.unusedSimpArgs false
open Go.Proofs Go.Shelf Go.RowKit Go.Lib
section
variable {P : Program} {ρ : Ren}
end
end Go.Proofs.YtpgnlmfmlffjcaaGreat.Rf

namespace Go.Proofs.YtpgnlmfmlffjcaaGreat.Rf
set_option linter.unusedVariables false
set_option linter.unusedSimpArgs false
def ltQ (p q : Int × Int) : Bool := decide (p.1 < q.1) || (p.1 == q.1 && decide (p.2 < q.2))
theorem Jae {p q : Int × Int} : ltQ p q = true ↔ p.1 < q.1 \/ (p.1 = q.1 /\ p.2 < q.2) := by
 unfold ltQ
 simp only [Oba, Mby, decide_eq_true_eq, beq_iff_eq]
theorem pF {p q : Int × Int} : ltQ p q = false ↔ q.1 < p.1 \/ (p.1 = q.1 /\ q.2 <= p.2) := by
 rw [<- Bool.not_eq_true, Jae]
 omega
theorem Qas {p q : Int × Int} (h : ltQ p q = false) (h' : ltQ q p = false) : p = q := by
 rw [pF] at h h'
 apply Prod.ext <;> omega
def Cba {β : Type} (k : β -> Int × Int) (x : β) : List β -> List β
 | [] => [x]
 | y :: r => if ltQ (k x) (k y) then x :: y :: r else y :: Cba k x r
def kG {β : Type} (k : β -> Int × Int) : List β -> List β
 | [] => []
 | x :: r => Cba k x (kG k r)
theorem Ea0 {β : Type} (k : β -> Int × Int) (x : β) : ∀ l : List β, (Cba k x l).Perm (x :: l)
 | [] => .refl _
 | y :: r => by
  unfold Cba
  split
  ·exact .refl _
  ·exact ((Ea0 k x r).cons y).trans (.swap x y r)
theorem fH {β : Type} (k : β -> Int × Int) : ∀ l : List β, (kG k l).Perm l
 | [] => .refl _
 | x :: r => (Ea0 k x _).trans ((fH k r).cons x)
def oK {β : Type} (k : β -> Int × Int) (l : List β) : Prop := l.Pairwise fun x y => ltQ (k y) (k x) = false
theorem Eaz {β : Type} (k : β -> Int × Int) (x : β) : ∀ {l : List β}, oK k l -> oK k (Cba k x l)
 | [], _ => by unfold Cba oK; simp
 | y :: r, h => by
  obtain ⟨h1, h2⟩ := List.pairwise_cons.1 h
  unfold Cba
  split
  ·rename_i hx
   refine List.pairwise_cons.2 ⟨fun z hz => ?_, h⟩
   rw [Jae] at hx
   rcases List.mem_cons.1 hz with rfl | hz
   ·rw [pF]; omega
   ·have := h1 z hz
    rw [pF] at this ⊢
    omega
  ·rename_i hx
   refine List.pairwise_cons.2 ⟨fun z hz => ?_, Eaz k x h2⟩
   rcases List.mem_cons.1 ((Ea0 k x r).mem_iff.1 hz) with rfl | hz
   ·simpa using hx
   ·exact h1 z hz
theorem sZ {β : Type} (k : β -> Int × Int) : ∀ l : List β, oK k (kG k l)
 | [] => List.Pairwise.nil
 | x :: r => Eaz k x (sZ k r)
theorem Ba7 {β : Type} (k : β -> Int × Int) {l l' : List β} (hp : l'.Perm l) (hs : oK k l') (hi : ∀ x ∈ l, ∀ y ∈ l, k x = k y -> x = y) : l' = kG k l :=
 List.Perm.eq_of_pairwise (le := fun x y => ltQ (k y) (k x) = false) (fun a b ha hb h1 h2 => hi a (hp.mem_iff.1 ha) b ((fH k l).mem_iff.1 hb) (Qas h2 h1)) hs (sZ k l) (hp.trans (fH k l).symm)
def Pal (p q : Int × Int) : Int := if ltQ p q then -1 else if ltQ q p then 1 else 0
theorem Cbr {p q : Int × Int} : decide (Pal p q < 0) = ltQ p q := by
 unfold Pal
 cases h : ltQ p q with
 | true => rfl
 | false =>
  simp only [Mb6, if_false]
  split <;> rfl
def Eam (p : Int × Int) : D := .rows 1 [[.int .i64 p.1], [.int .i64 p.2]]
def Hap : List (List D) -> Option (List (Int × Int))
 | [] => some []
 | [.rows 1 [[.int .i64 a], [.int .i64 b]]] :: r => (Hap r).map ((a, b) :: ·)
 | _ => none
theorem Hao : ∀ {rs : List (List D)} {l : List (Int × Int)}, Hap rs = some l -> rs = l.map fun p => [Eam p]
 | [], l, h => by obtain rfl := Option.some.inj h; rfl
 | r :: rs, l, h => by
  unfold Hap at h
  split at h
  ·rename_i he; cases he
  ·rename_i a b r' he
   obtain ⟨rfl, rfl⟩ := List.cons.inj he
   rw [Nba] at h
   obtain ⟨l', h1, rfl⟩ := h
   rw [Hao h1]
   rfl
  ·cases h
theorem Han : ∀ l : List (Int × Int), Hap (l.map fun p => [Eam p]) = some l
 | [] => rfl
 | p :: r => by
  show (Hap (r.map fun p => [Eam p])).map ((p.1, p.2) :: ·) = _
  rw [Han r]
  rfl
def Gan : List (List D) -> Option (List Int)
 | [] => some []
 | [.int .i64 a] :: r => (Gan r).map (a :: ·)
 | _ => none
theorem Eay : ∀ {rs : List (List D)} {l : List Int}, Gan rs = some l -> rs = l.map fun p => [D.int .i64 p]
 | [], l, h => by obtain rfl := Option.some.inj h; rfl
 | r :: rs, l, h => by
  unfold Gan at h
  split at h
  ·rename_i he; cases he
  ·rename_i a r' he
   obtain ⟨rfl, rfl⟩ := List.cons.inj he
   rw [Nba] at h
   obtain ⟨l', h1, rfl⟩ := h
   rw [Eay h1]
   rfl
  ·cases h
theorem Maf : ∀ l : List Int, Gan (l.map fun p => [D.int .i64 p]) = some l
 | [] => rfl
 | p :: r => by
  show (Gan (r.map fun p => [D.int .i64 p])).map (p :: ·) = _
  rw [Maf r]
  rfl
def tC : Nat := 1000000
def Ead : List D -> Option (List D)
 | [.rows 1 rs] => (Hap rs).bind fun l => if l.length <= tC then some [.rows 1 ((kG id l).map fun p => [Eam p])] else none
 | _ => none
def iA (kl : List Int) (n : Int) : Int × Int := (kl.getD n.toNat 0, 0)
def Cag (l kl : List Int) : Bool := (l.all fun n => decide (0 <= n) && decide (n.toNat < kl.length)) && (kl.all fun k => decide (0 <= k) && decide (k <= 1000000000)) && (l.all fun n => l.all fun m => !(iA kl n == iA kl m) || n == m)
def Hac : List D -> Option (List D)
 | [.rows 1 rs, .rows 1 ks] => (Gan rs).bind fun l => (Gan ks).bind fun kl => if l.length <= tC /\ Cag l kl = true then some [.rows 1 ((kG (iA kl) l).map fun p => [D.int .i64 p])] else none
 | _ => none
section
open Go.Proofs Go.Shelf Go.Sort
variable {P : Program} {ρ : Ren} {own : Nat -> Ow} {w : World}
theorem Rp.zero1 {r : Nat} {p : List Nat} {v : Value} {d : D} (h : Rp own w r p 0 v d) : Rd (fun b => own b = .frz) w v d := by
 cases h with
 | sc h => exact .sc h
 | hole v h1 => exact .hole v h1
 | fz h => exact h
theorem xU {ds : List D} {bx : Nat -> Addr} : ∀ {b i q : Nat} {bs : List (Bool × List (BS × BO))}, (bs.all (·.1)) = true -> kF own w ds bx b i q bs
 | b, i, q, [], _ => trivial
 | b, i, q, (ro, cs) :: bs, h => by
  simp only [Pbq, Mby] at h
  simp only [kF]
  rw [if_pos h.1]
  exact xU h.2
theorem Da3 {α : Type} [Inhabited α] (enc : α -> Value) (blk off m : Nat) (dk : Array α) (os : Array Obj) {b : Nat} (hb : b < w.heap.size) (hne : b ≠ blk) : (sortWorld enc w blk off m dk os).heap[b]? = w.heap[b]? := by
 unfold sortWorld
 rw [heap_grow_old _ _ (by simpa using hb)]
 simp [putRow, mapBlock, Array.getElem?_modify, Ne.symm hne]
theorem Ta5 {α : Type} [Inhabited α] (enc : α -> Value) (blk off m : Nat) (dk : Array α) (os : Array Obj) : w.heap.size <= (sortWorld enc w blk off m dk os).heap.size := by
 unfold sortWorld
 rw [size_grow]
 simp
theorem Bbw {α : Type} {lt : α -> α -> Prop} : ∀ {l : List α}, (∀ i j (hi : i < l.length) (hj : j < l.length), i < j -> lt l[i] l[j]) -> l.Pairwise lt := fun h => List.pairwise_iff_getElem.2 fun i j hi hj hij => h i j hi hj hij
theorem Rah {a : Addr} (h : a.spot = none) (k : Nat) : a.add k = ⟨a.block, a.off + k, none⟩ := by
 cases a with
 | mk b o s =>
  obtain rfl : s = none := h
  unfold Addr.add
  split
  ·rename_i h0; subst h0; rfl
  ·rfl
theorem Lal (L : SlLaysF.n6 P ρ) {α β : Type} [Inhabited α] (enc : α -> Value) (b : α -> β) (datβ : β -> D) (kβ : β -> Int × Int) (cf : α -> α -> Int) (hcf : ∀ x y, ltOf cf x y = ltQ (kβ (b x)) (kβ (b y)))
  {g : Nat} {cs : List LS} {bxs : List (Bool × List (BS × BO))} {vals : List Value} {G : Gh} {ds : List D} (hpre : Xap ⟨ρ.f 6, [(false, [.mu 1]), (false, [.clo g cs])], bxs, []⟩ vals w G ds)
  (hro : (bxs.all (·.1)) = true) (eg : ∀ args w, (callFunc g args).run P w = .ok (.enter g args) w)
  {v : Value} (hv : v = G.hdr 0) (cb : List Value) (hvals : vals = [v, .func (.func g) #[] cb.toArray])
  (hcmp : ∀ blk off size, G.own blk = .slc 0 [] -> CmpLays1 P g cb.toArray enc cf blk off size w) (hdat : ∀ x, Rd (fun b => G.own b = .frz) w (enc x) (datβ (b x)))
  {a : Addr} {n c : Nat} (ev : v = .slice (some a) n c) (hspot : a.spot = none) (hown : G.own a.block = .slc 0 []) (hcells : ∀ k, k < c -> ∃ u, w.cell? (a.add k) = some u /\ w.frozen? (a.add k) = false)
  (hnc : n <= c) (hn : n <= tC) (hpos : 0 < n) (xs : List α) (hxl : xs.length = n) (hxs : ∀ i x, xs[i]? = some x -> w.cell? (a.add i) = some (enc x)) (hinj : ∀ x ∈ xs.map b, ∀ y ∈ xs.map b, kβ x = kβ y -> x = y) :
  Calls P (ρ.f 6) vals.toArray w fun e w' => ∃ u, e = .returned u /\ Kan ⟨ρ.f 6, [(false, [.mu 1]), (false, [.clo g cs])], bxs, []⟩ (nG ⟨ρ.f 6, [(false, [.mu 1]), (false, [.clo g cs])], bxs, []⟩ G w) G.bx u w' [.rows 1 ((kG kβ (xs.map b)).map fun p => [datβ p])] := by
 have hadd := Rah hspot
 have h1 : OneCell enc := fun x => (hdat x).one
 have hblk : a.block < w.heap.size := by
  obtain ⟨u, hu, -⟩ := hcells 0 (by omega)
  have := Fau hu
  rwa [add_block] at this
 have hsz : xs.toArray.size = n := by simpa using hxl
 have hH : Holds enc w a.block a.off xs.toArray := by
  intro j hj
  rw [hsz] at hj
  have hjx : j < xs.length := by omega
  have hx := hxs j xs[j] (by rw [Mb0 hjx])
  obtain ⟨u, hu, hf⟩ := hcells j (by omega)
  rw [hadd] at hx hf
  refine ⟨?_, hf⟩
  rw [hx, getElem!_pos xs.toArray j (by simpa using hjx)]
  simp
 have hO : SWO (ltOf cf) := by
  refine ⟨fun x => ?_, fun x y z h h' => ?_, fun x y z h h' => ?_⟩
  ·rw [hcf, pF]; omega
  ·rw [hcf, Jae] at *; omega
  ·rw [hcf, pF] at *; omega
 have hS := Any.slices_SortFunc L enc h1 cf hO g cb.toArray a.block a.off c xs.toArray w eg (hcmp _ _ _ hown) hH hblk (by rw [hsz]; unfold tC at hn; omega)
 have ea : (⟨a.block, a.off, none⟩ : Addr) = a := by
  cases a with
  | mk b o s =>
   obtain rfl : s = none := hspot
   rfl
 rw [hsz, ea, <- ev] at hS
 rw [hvals]
 refine hS.mono ?_
 rintro e w' ⟨rfl, d', m, os, hP, hSo, rfl⟩
 refine ⟨_, rfl, ?_⟩
 obtain ⟨hds, -, hperm⟩ := hP
 rw [hsz] at hds
 have e1 : d'.extract 0 n = d' := by rw [<- hds]; exact Array.extract_size
 have e2 : xs.toArray.extract 0 n = xs.toArray := by rw [<- hsz]; exact Array.extract_size
 rw [e1, e2] at hperm
 have hsorted : d'.toList.map b = kG kβ (xs.map b) := by
  refine Ba7 kβ (by simpa using hperm.map b) ?_ hinj
  refine Bbw fun i j hi hj hij => ?_
  have hi' : i < d'.size := by simpa using hi
  have hj' : j < d'.size := by simpa using hj
  have := hSo i j (Obu _) hij (by omega)
  rw [hcf, getElem!_pos d' i hi', getElem!_pos d' j hj'] at this
  simpa using this
 have hlen : (kG kβ (xs.map b)).length = n := by rw [(fH kβ _).length_eq, Nbb, hxl]
 have hH' : Holds enc (sortWorld enc w a.block a.off m d' os) a.block a.off d' := by
  unfold sortWorld
  refine holds_grow _ _ _ _ _ _ (by simpa using hblk) (holds_putRow enc _ _ _ xs.toArray d' hH (by rw [hsz, hds]))
 refine ⟨{ G with own := fun b => if b = a.block then .slc 1 [] else G.own b }, [], rfl, ?_, rfl, ⟨?_, trivial⟩, xU hro⟩
 ·refine ⟨rfl, rfl, rfl, Ta5 enc _ _ _ _ _, fun b hb ho => ?_, fun b j hb ho => ?_, fun b hb => ?_⟩
  ·have hne : b ≠ a.block := by rintro rfl; change G.own a.block = _ \/ G.own a.block = _ at ho; rw [hown] at ho; rcases ho with h | h <;> cases h
   exact ⟨Da3 enc _ _ _ _ _ hb hne, if_neg hne⟩
  ·have hne : b ≠ a.block := by rintro rfl; change G.own a.block = _ at ho; rw [hown] at ho; cases ho
   obtain ⟨-, c0, e0, fr, hc0⟩ := hpre.cells b j hb ho
   refine ⟨(if_neg hne).trans ho, c0, c0, e0, fr, hc0, (Da3 enc _ _ _ _ _ hb hne).trans hc0, rfl, fun _ _ => rfl⟩
  ·have h0 := Nb4 (Ta5 enc a.block a.off m d' os) hb
   show (if b = a.block then _ else _) = _
   rw [if_neg (by omega)]
   exact hpre.fresh b h0
 ·show Rp _ _ _ _ _ (G.hdr 0) _
  rw [<- hv, ev]
  have hat : ∀ i p, (kG kβ (xs.map b))[i]? = some p -> ∃ x, d'[i]? = some x /\ b x = p /\ i < d'.size := by
   intro i p hi
   rw [<- hsorted, Nbn, Nba] at hi
   obtain ⟨x, hx, rfl⟩ := hi
   rw [Array.getElem?_toList] at hx
   exact ⟨x, hx, rfl, (Array.getElem?_eq_some_iff.1 hx).1⟩
  refine .sl (some a) a n c 1 _ (fun i _ => enc d'[i]!) (by rw [Nbb, hlen]) hnc (.inl rfl) (by simp) (fun _ => ⟨hspot, if_pos rfl, fun k hk => ?_⟩) (fun i row hi j d hj => ?_) (fun i row hi j d hj => ?_)
  ·rw [Nat.mul_one] at hk
   rcases Nbk k n with hkn | hkn
   ·obtain ⟨h3, h4⟩ := hH' k (by omega)
    rw [hadd]
    exact ⟨_, h3, h4⟩
   ·obtain ⟨u, hu, hf⟩ := hcells k hk
    rw [hadd] at hu hf ⊢
    refine ⟨u, ?_, ?_⟩
    ·unfold sortWorld
     rw [cell?_grow _ _ _ (by simpa using hblk), cell?_putRow_other _ _ _ _ _ _ (.inr (.inr (by simp only [hds]; omega)))]
     exact hu
    ·unfold sortWorld
     rw [frozen?_grow _ _ _ (by simpa using hblk), frozen?_putRow]
     exact hf
  ·rw [Nbn, Nba] at hi
   obtain ⟨p, hp, rfl⟩ := hi
   obtain ⟨x, hx, -, hlt⟩ := hat i p hp
   cases j with
   | succ j => simp at hj
   | zero =>
    rw [Nat.mul_one, Nbs, hadd]
    exact (hH' i hlt).1
  ·rw [Nbn, Nba] at hi
   obtain ⟨p, hp, rfl⟩ := hi
   obtain ⟨x, hx, hb, hlt⟩ := hat i p hp
   cases j with
   | succ j => simp at hj
   | zero =>
    simp only [List.getElem?_cons_zero, Option.some.injEq] at hj
    subst hj
    have ex : d'[i]! = x := by
     rw [getElem!_pos d' i hlt]
     exact (Array.getElem?_eq_some_iff.1 hx).2
    rw [ex, <- hb]
    refine .fz ((hdat x).mono' fun b hb hlt => ?_)
    have hne : b ≠ a.block := by rintro rfl; rw [hown] at hb; cases hb
    exact ⟨(if_neg hne).trans hb, Da3 enc _ _ _ _ _ hlt hne⟩
end
section
open Go.Proofs Go.Shelf Go.Sort
variable {P : Program} {ρ : Ren} {own : Nat -> Ow} {w : World}
theorem Ua1 {f g : Nat} {cs : List LS} {bxs : List (Bool × List (BS × BO))} {vals : List Value} {G : Gh} {ds : List D} (hpre : Xap ⟨f, [(false, [.mu 1]), (false, [.clo g cs])], bxs, []⟩ vals w G ds)
  (hro : (bxs.all (·.1)) = true) {d : D} (h : Rp G.own w 0 [] 1 (G.hdr 0) d) :
  Kan ⟨f, [(false, [.mu 1]), (false, [.clo g cs])], bxs, []⟩ (nG ⟨f, [(false, [.mu 1]), (false, [.clo g cs])], bxs, []⟩ G w) G.bx (.tuple #[]) w [d] := by
 let own1 : Nat -> Ow := fun b => match G.own b with
  | .slc s p => if s = 0 then (if p.length < 1 then .slc 1 p else .frz) else .slc s p
  | o => o
 refine ⟨{ G with own := own1 }, [], rfl, ⟨rfl, rfl, rfl, Nbd _, fun b hb ho => ⟨rfl, ?_⟩, fun b j hb ho => ?_, fun b hb => ?_⟩, rfl, ⟨?_, trivial⟩, xU hro⟩
 ·change G.own b = _ \/ G.own b = _ at ho
  show own1 b = G.own b
  rcases ho with ho | ho <;> simp only [own1, ho]
 ·change G.own b = _ at ho
  obtain ⟨-, c0, e0, fr, hc0⟩ := hpre.cells b j hb ho
  refine ⟨?_, c0, c0, e0, fr, hc0, hc0, rfl, fun _ _ => rfl⟩
  show own1 b = _
  simp only [own1, ho]
 ·show own1 b = _
  simp only [own1, hpre.fresh b hb]
 ·show Rp own1 w 1 [] 1 (G.hdr 0) d
  refine h.move (fun b hb _ => ⟨by simp only [own1, hb], rfl⟩) [] 1 (Nbd _) fun b t hb => ⟨?_, rfl⟩
  simp only [List.nil_append] at hb ⊢
  simp only [own1, hb, if_true]
def Kag (P : Program) (g : Nat) : Prop :=
 ∀ (a b : Addr) (ca cb : Nat) (x y : Int × Int) (w : World), w.cell? a = some (.int .i64 x.1) -> w.cell? (a.add 1) = some (.int .i64 x.2) -> w.cell? b = some (.int .i64 y.1) -> w.cell? (b.add 1) = some (.int .i64 y.2) ->
  Calls P g #[.slice (some a) 2 ca, .slice (some b) 2 cb] w fun e w' => e = .returned (.int .i64 (Pal x y)) /\ ∃ q os, w' = grow (w.drewN q) os
def Ral (own : Nat -> Ow) (w : World) (v : Value) (p : Int × Int) : Prop :=
 ∃ a c, v = .slice (some a) 2 c /\ 2 <= c /\ own a.block = .frz /\ w.cell? a = some (.int .i64 p.1) /\ w.cell? (a.add 1) = some (.int .i64 p.2)
theorem Vaq {v : Value} {p : Int × Int} (h : Rd (fun b => own b = .frz) w v (Eam p)) : Ral own w v p := by
 obtain ⟨A, a, n, c, vs, rfl, hn, hc, hA, hsz, hcell, hrec⟩ := h.inv
 obtain rfl : n = 2 := hn.symm
 obtain rfl : A = some a := hA.resolve_left (by omega)
 obtain ⟨h1, h2⟩ := hcell 0 _ rfl 0 _ rfl
 obtain ⟨-, h3⟩ := hcell 1 _ rfl 0 _ rfl
 have h4 := hrec 0 _ rfl 0 _ rfl
 have h5 := hrec 1 _ rfl 0 _ rfl
 have e0 : a.add 0 = a := if_pos rfl
 simp only [Nat.zero_mul, Nbs, Nat.one_mul, e0] at h2 h3
 generalize vs 0 0 = u0 at h2 h4
 generalize vs 1 0 = u1 at h3 h5
 obtain rfl : u0 = .int .i64 p.1 := by cases h4 with | sc h => cases h; rfl
 obtain rfl : u1 = .int .i64 p.2 := by cases h5 with | sc h => cases h; rfl
 exact ⟨a, c, rfl, hc, h1, h2, h3⟩
theorem Ral.rd {v : Value} {p : Int × Int} (h : Ral own w v p) : Rd (fun b => own b = .frz) w v (Eam p) := by
 obtain ⟨a, c, rfl, hc, ho, h1, h2⟩ := h
 have e0 : a.add 0 = a := if_pos rfl
 refine .rows (some a) a 2 c 1 _ (fun i _ => if i = 0 then .int .i64 p.1 else .int .i64 p.2) rfl hc (.inr rfl) (by simp) (fun i r hi j d hj => ?_) (fun i r hi j d hj => ?_)
 ·match i, j with
  | 0, 0 => exact ⟨ho, by simpa [e0] using h1⟩
  | 1, 0 => exact ⟨ho, by simpa using h2⟩
  | 0, j + 1 => simp at hi; subst hi; simp at hj
  | 1, j + 1 => simp at hi; subst hi; simp at hj
  | i + 2, _ => simp at hi
 ·match i, j with
  | 0, 0 => simp at hi; subst hi; simp at hj; subst hj; exact .sc (.int _ _)
  | 1, 0 => simp at hi; subst hi; simp at hj; subst hj; exact .sc (.int _ _)
  | 0, j + 1 => simp at hi; subst hi; simp at hj
  | 1, j + 1 => simp at hi; subst hi; simp at hj
  | i + 2, _ => simp at hi
theorem Rp.sl1 {v : Value} {sz : Nat} {rs : List (List D)} (h : Rp own w 0 [] 1 v (.rows sz rs)) : ∃ (A : Option Addr) (a : Addr) (n c : Nat) (vs : Nat -> Nat -> Value), v = .slice A n c /\ rs.length = n /\ n <= c /\ (A = some a \/ (A = none /\ c = 0)) /\ (∀ r ∈ rs, r.length = sz) /\
  (A = some a -> a.spot = none /\ own a.block = .slc 0 [] /\ ∀ k, k < c * sz -> ∃ u, w.cell? (a.add k) = some u /\ w.frozen? (a.add k) = false) /\
  (∀ i row, rs[i]? = some row -> ∀ j d, row[j]? = some d -> w.cell? (a.add (i * sz + j)) = some (vs i j)) /\ ∀ i row, rs[i]? = some row -> ∀ j d, row[j]? = some d -> Rd (fun b => own b = .frz) w (vs i j) d := by
 obtain ⟨A, a, n, c, vs, e1, e2, e3, e4, e5, e6, e7, e8⟩ := h.sl_inv
 exact ⟨A, a, n, c, vs, e1, e2, e3, e4, e5, e6, e7, fun i row hi j d hj => (e8 i row hi j d hj).zero1⟩
theorem Yaa (L : SlLaysF.n6 P ρ) {g : Nat} {fn : Func} {c : Code} (hg : P.funcs[g]? = some fn) (hname : (fn.name == "runtime.NumGoroutine") = false) (hb : fn.body = some c) (W : Kag P g) :
  Xam P ⟨ρ.f 6, [(false, [.mu 1]), (false, [.clo g []])], [], []⟩ Ead := by
 intro vals w G ds ds' hpre hr
 unfold Ead at hr
 split at hr
 case h_2 => cases hr
 rename_i rs
 rw [Mbx] at hr
 obtain ⟨l, hl, hr⟩ := hr
 split at hr
 case isFalse => cases hr
 rename_i hlen
 obtain rfl := Option.some.inj hr
 obtain ⟨u, us, vs, rfl, ⟨v, vs', rfl, ⟨hv, hrp⟩, rfl⟩, hsh, u2, us2, vs2, rfl, ⟨v2, vs3, rfl, ⟨cb, rfl, hcb⟩, rfl⟩, hsh2, hnil⟩ := hpre.params
 simp only [Mb6, if_false] at hsh hsh2
 obtain rfl : v = u := by simpa using hsh
 obtain rfl : Value.func (.func g) #[] cb.toArray = u2 := by simpa using hsh2
 simp only [jC] at hnil
 subst hnil
 simp only [vD] at hcb
 subst hcb
 have hrp' : Rp G.own w 0 [] 1 v (.rows 1 rs) := hrp
 obtain ⟨A, a, n, c, cv, hval, hn, hcap, hA, hsz, hown, hcell, hrec⟩ := hrp'.sl1
 obtain rfl := Hao hl
 rw [Nbb] at hn
 obtain ⟨nm, hnm, hfn⟩ := L.f6
 refine .inl ⟨fZ hfn hnm rfl _ _, ?_⟩
 rcases Nat.eq_zero_or_pos n with h0 | hpos
 ·subst h0
  obtain rfl : l = [] := Nb9 hn
  have h := AnyF.slices_SortFunc_none (P := P) (ρ := ρ) { L with } A c (.func (.func g) #[] #[]) w
  rw [hval]
  refine h.mono ?_
  rintro e w' ⟨rfl, rfl⟩
  exact Ua1 hpre rfl (hv ▸ hrp')
 ·obtain rfl : A = some a := by
   rcases hA with h | ⟨-, h⟩
   ·exact h
   ·omega
  obtain ⟨hspot, hob, hcells⟩ := hown rfl
  let α := { x : Value × (Int × Int) // Ral G.own w x.1 x.2 }
  have hex : ∀ i, i < n -> ∃ x : α, l[i]? = some x.1.2 /\ cv i 0 = x.1.1 := by
   intro i hi
   have hi' : l[i]? = some (l[i]'(by omega)) := Mb0 (by omega)
   have hr := hrec i [Eam (l[i]'(by omega))] (by rw [Nbn, hi']; rfl) 0 _ rfl
   exact ⟨⟨(cv i 0, l[i]'(by omega)), Vaq hr⟩, hi', rfl⟩
  obtain ⟨xs, hxl, hxs⟩ := Jaj n hex
  haveI : Inhabited α := ⟨(hex 0 hpos).choose⟩
  have hmap : xs.map (fun x : α => x.1.2) = l := by
   apply Pbi
   intro i
   rw [Nbn]
   rcases Nbk i n with hi | hi
   ·have hx : xs[i]? = some (xs[i]'(by omega)) := Mb0 (by omega)
    rw [hx]
    exact (hxs i _ hx).1.symm
   ·rw [Obe (by omega), Obe (by omega)]
    rfl
  have hcore := Lal (w := w) (G := G) L (α := α) (fun x => x.1.1) (fun x => x.1.2) Eam id (fun x y => Pal x.1.2 y.1.2) (fun x y => Cbr) (g := g) hpre rfl (fun args w => fZ hg hname hb args w) hv [] rfl
   (fun blk off size hbl m os dk hs x y => ?_) (fun x => x.2.rd) hval hspot hob (fun k hk => hcells k (by omega)) hcap (by omega) hpos xs hxl (fun i x hx => ?_) (fun x _ y _ h => h)
  ·rw [hmap] at hcore
   refine hcore.mono ?_
   rintro e w' ⟨u, rfl, h⟩
   exact h
  ·obtain ⟨ax, cx, hxv, hcx, hox, hx1, hx2⟩ := x.2
   obtain ⟨ay, cy, hyv, hcy, hoy, hy1, hy2⟩ := y.2
   have hkeep : ∀ (b : Addr) (u : Value), G.own b.block = .frz -> w.cell? b = some u -> (sortWorld (fun x : α => x.1.1) w blk off m dk os).cell? b = some u := by
    intro b u ho hc
    refine (dS (Da3 _ _ _ _ _ _ (Fau hc) ?_)).trans hc
    intro e
    rw [e, hbl] at ho
    cases ho
   show Calls P g #[x.1.1, y.1.1] _ _
   rw [hxv, hyv]
   exact (W ax ay cx cy x.1.2 y.1.2 _ (hkeep _ _ hox hx1) (hkeep _ _ (by rw [add_block]; exact hox) hx2) (hkeep _ _ hoy hy1) (hkeep _ _ (by rw [add_block]; exact hoy) hy2))
  ·obtain ⟨h1, h2⟩ := hxs i x hx
   have := hcell i [Eam x.1.2] (by rw [Nbn, h1]; rfl) 0 _ rfl
   rw [Nat.mul_one, Nbs, h2] at this
   exact this
theorem Ta9 (L : SlLaysF.n6 P ρ) {f g key : Nat} {fn : Func} {c : Code} {T : Nat -> Ent} {ti : Nat -> Option TI} {sigs : List (Nat × Sig)} (hf : ρ.f 6 = f) (hg : P.funcs[g]? = some fn) (hname : (fn.name == "runtime.NumGoroutine") = false) (hb : fn.body = some c) (W : Kag P g)
  (hT : T key = .ext Ead) : Ram P T ti sigs key ⟨f, [(false, [.mu 1]), (false, [.clo g []])], [], []⟩ := by
 subst hf
 exact .inr ⟨_, hT, Yaa L hg hname hb W⟩
end
section
open Go.Proofs Go.Shelf Go.Sort
variable {P : Program} {ρ : Ren} {own : Nat -> Ow} {w : World}
def Pat (P : Program) (g : Nat) : Prop :=
 ∀ (p ad : Addr) (n c : Nat) (x y kx ky : Int) (w : World), w.cell? p = some (.slice (some ad) n c) -> 0 <= x -> x.toNat < n -> 0 <= y -> y.toNat < n -> w.cell? (ad.add x.toNat) = some (.int .i64 kx) -> w.cell? (ad.add y.toNat) = some (.int .i64 ky) ->
  Calls P g #[.int .i64 x, .int .i64 y, .pointer (some p)] w fun e w' => e = .returned (.int .i64 (IntKind.i64.wrap (kx - ky))) /\ ∃ q os, w' = grow (w.drewN q) os
theorem Saq {l kl : List Int} (h : Cag l kl = true) : (∀ n ∈ l, 0 <= n /\ n.toNat < kl.length) /\ (∀ k ∈ kl, 0 <= k /\ k <= 1000000000) /\ ∀ n ∈ l, ∀ m ∈ l, iA kl n = iA kl m -> n = m := by
 unfold Cag at h
 simp only [Mby, Nbq, decide_eq_true_eq, Oba, Bool.not_eq_true', beq_iff_eq, beq_eq_false_iff_ne] at h
 obtain ⟨⟨h1, h2⟩, h3⟩ := h
 exact ⟨h1, h2, fun n hn m hm e => (h3 n hn m hm).resolve_left fun h => h e⟩
theorem wrap_small {k : Int} (h : -4000000000 <= k) (h' : k <= 4000000000) : IntKind.i64.wrap k = k := by
 simp only [IntKind.wrap, IntKind.bits, IntKind.signed]
 simp
 omega
theorem Yab (L : SlLaysF.n6 P ρ) {g : Nat} {fn : Func} {c : Code} (hg : P.funcs[g]? = some fn) (hname : (fn.name == "runtime.NumGoroutine") = false) (hb : fn.body = some c) (W : Pat P g) :
  Xam P ⟨ρ.f 6, [(false, [.mu 1]), (false, [.clo g [.px 0]])], [(true, [(.fz false, .fz)])], []⟩ Hac := by
 intro vals w G ds ds' hpre hr
 unfold Hac at hr
 split at hr
 case h_2 => cases hr
 rename_i rs ks
 rw [Mbx] at hr
 obtain ⟨l, hl, hr⟩ := hr
 rw [Mbx] at hr
 obtain ⟨kl, hkl, hr⟩ := hr
 split at hr
 case isFalse => cases hr
 rename_i hc
 obtain ⟨hlen, hko⟩ := hc
 obtain rfl := Option.some.inj hr
 obtain ⟨hk1, hk2, hk3⟩ := Saq hko
 obtain ⟨u, us, vs, rfl, ⟨v, vs', rfl, ⟨hv, hrp⟩, rfl⟩, hsh, u2, us2, vs2, rfl, ⟨v2, vs3, rfl, ⟨cb, rfl, hcb⟩, rfl⟩, hsh2, hnil⟩ := hpre.params
 simp only [Mb6, if_false] at hsh hsh2
 obtain rfl : v = u := by simpa using hsh
 obtain rfl : Value.func (.func g) #[] cb.toArray = u2 := by simpa using hsh2
 simp only [jC] at hnil
 subst hnil
 obtain ⟨pv, cbs, rfl, ⟨hp1, -⟩, hcb⟩ := hcb
 simp only [vD] at hcb
 subst hcb
 subst hp1
 obtain ⟨hbs, hbo, ⟨⟨kv, hkc, -, hkr, -⟩, -⟩, -⟩ := hpre.boxes
 rw [if_pos rfl] at hbo
 have hkr' : Rd (fun b => G.own b = .frz) w kv (.rows 1 ks) := hkr
 obtain ⟨Ak, ak, nk, ck, kvs, rfl, hnk, hck, hAk, -, hkcell, hkrec⟩ := hkr'.inv
 have eb : (G.bx 0).add 0 = G.bx 0 := if_pos rfl
 rw [eb] at hkc
 have hrp' : Rp G.own w 0 [] 1 v (.rows 1 rs) := hrp
 obtain ⟨A, a, n, c, cv, hval, hn, hcap, hA, hsz, hown, hcell, hrec⟩ := hrp'.sl1
 obtain rfl := Eay hl
 obtain rfl := Eay hkl
 rw [Nbb] at hn hnk
 obtain ⟨nm, hnm, hfn⟩ := L.f6
 refine .inl ⟨fZ hfn hnm rfl _ _, ?_⟩
 rcases Nat.eq_zero_or_pos n with h0 | hpos
 ·subst h0
  obtain rfl : l = [] := Nb9 hn
  have h := AnyF.slices_SortFunc_none (P := P) (ρ := ρ) { L with } A c (.func (.func g) #[] #[.pointer (some (G.bx 0))]) w
  rw [hval]
  refine h.mono ?_
  rintro e w' ⟨rfl, rfl⟩
  exact Ua1 hpre rfl (hv ▸ hrp')
 ·obtain rfl : A = some a := by
   rcases hA with h | ⟨-, h⟩
   ·exact h
   ·omega
  obtain ⟨hspot, hob, hcells⟩ := hown rfl
  let α := { x : Int // 0 <= x /\ x.toNat < kl.length }
  have hex : ∀ i, i < n -> ∃ x : α, l[i]? = some x.1 /\ cv i 0 = .int .i64 x.1 := by
   intro i hi
   have hi' : l[i]? = some (l[i]'(by omega)) := Mb0 (by omega)
   have hr := hrec i [.int .i64 (l[i]'(by omega))] (by rw [Nbn, hi']; rfl) 0 _ rfl
   refine ⟨⟨l[i]'(by omega), hk1 _ (Obz _)⟩, hi', ?_⟩
   generalize cv i 0 = u at hr
   cases hr with
   | sc h => cases h; rfl
  obtain ⟨xs, hxl, hxs⟩ := Jaj n hex
  haveI : Inhabited α := ⟨(hex 0 hpos).choose⟩
  have hmap : xs.map (fun x : α => x.1) = l := by
   apply Pbi
   intro i
   rw [Nbn]
   rcases Nbk i n with hi | hi
   ·have hx : xs[i]? = some (xs[i]'(by omega)) := Mb0 (by omega)
    rw [hx]
    exact (hxs i _ hx).1.symm
   ·rw [Obe (by omega), Obe (by omega)]
    rfl
  have hkey : ∀ x : α, ∃ k, iA kl x.1 = (k, 0) /\ 0 <= k /\ k <= 1000000000 /\ Ak = some ak /\ G.own ak.block = .frz /\ w.cell? (ak.add x.1.toNat) = some (.int .i64 k) := by
   intro x
   have hlt := x.2.2
   have hg : kl[x.1.toNat]? = some (kl[x.1.toNat]'hlt) := Mb0 hlt
   have h1 := hkcell x.1.toNat [.int .i64 (kl[x.1.toNat]'hlt)] (by rw [Nbn, hg]; rfl) 0 _ rfl
   have h2 := hkrec x.1.toNat [.int .i64 (kl[x.1.toNat]'hlt)] (by rw [Nbn, hg]; rfl) 0 _ rfl
   have h3 := hk2 _ (Obz hlt)
   refine ⟨kl[x.1.toNat]'hlt, by unfold iA; rw [Mb4, hg]; rfl, h3.1, h3.2, hAk.resolve_left (by omega), h1.1, ?_⟩
   have h4 := h1.2
   rw [Nat.mul_one, Nbs] at h4
   rw [h4]
   generalize kvs x.1.toNat 0 = u at h2
   cases h2 with
   | sc h => cases h; rfl
  have hcore := Lal (w := w) (G := G) L (α := α) (fun x => .int .i64 x.1) (fun x => x.1) (fun n => .int .i64 n) (iA kl) (fun x y => IntKind.i64.wrap ((iA kl x.1).1 - (iA kl y.1).1)) (fun x y => ?_) (g := g) hpre rfl (fun args w => fZ hg hname hb args w) hv [.pointer (some (G.bx 0))] rfl
   (fun blk off size hbl m os dk hs x y => ?_) (fun x => .sc (.int _ _)) hval hspot hob (fun k hk => hcells k (by omega)) hcap (by omega) hpos xs hxl (fun i x hx => ?_) ?_
  ·rw [hmap] at hcore
   refine hcore.mono ?_
   rintro e w' ⟨u, rfl, h⟩
   exact h
  ·obtain ⟨kx, ex, hx1, hx2, -⟩ := hkey x
   obtain ⟨ky, ey, hy1, hy2, -⟩ := hkey y
   have e1 : IntKind.i64.wrap ((iA kl x.1).1 - (iA kl y.1).1) = kx - ky := by rw [ex, ey]; exact wrap_small (by dsimp only; omega) (by dsimp only; omega)
   have e2 : ltOf (fun x y : α => IntKind.i64.wrap ((iA kl x.1).1 - (iA kl y.1).1)) x y = decide (kx - ky < 0) := by
    unfold ltOf
    simp only [e1]
   rw [e2, ex, ey]
   unfold ltQ
   simp
   omega
  ·obtain ⟨kx, ex, hx1, hx2, hA, hfr, hxc⟩ := hkey x
   obtain ⟨ky, ey, hy1, hy2, -, -, hyc⟩ := hkey y
   have hkeep : ∀ (b : Addr) (u : Value), G.own b.block ≠ .slc 0 [] -> w.cell? b = some u -> (sortWorld (fun x : α => Value.int .i64 x.1) w blk off m dk os).cell? b = some u := by
    intro b u ho hc
    refine (dS (Da3 _ _ _ _ _ _ (Fau hc) ?_)).trans hc
    intro e
    rw [e] at ho
    exact ho hbl
   show Calls P g #[.int .i64 x.1, .int .i64 y.1, .pointer (some (G.bx 0))] (sortWorld (fun x : α => Value.int .i64 x.1) w blk off m dk os) fun e w' => e = .returned (.int .i64 (IntKind.i64.wrap ((iA kl x.1).1 - (iA kl y.1).1))) /\ ∃ q os', w' = grow ((sortWorld (fun x : α => Value.int .i64 x.1) w blk off m dk os).drewN q) os'
   rw [ex, ey]
   refine W (G.bx 0) ak nk ck x.1 y.1 kx ky _ ?_ x.2.1 (by have := x.2.2; omega) y.2.1 (by have := y.2.2; omega) (hkeep _ _ (by rw [add_block, hfr]; simp) hxc) (hkeep _ _ (by rw [add_block, hfr]; simp) hyc)
   rw [<- hA]
   exact hkeep _ _ (by rw [hbo]; simp) hkc
  ·obtain ⟨h1, h2⟩ := hxs i x hx
   have := hcell i [.int .i64 x.1] (by rw [Nbn, h1]; rfl) 0 _ rfl
   rw [Nat.mul_one, Nbs, h2] at this
   exact this
  ·rw [hmap]
   exact hk3
theorem Uaa (L : SlLaysF.n6 P ρ) {f g key : Nat} {fn : Func} {c : Code} {T : Nat -> Ent} {ti : Nat -> Option TI} {sigs : List (Nat × Sig)} (hf : ρ.f 6 = f) (hg : P.funcs[g]? = some fn) (hname : (fn.name == "runtime.NumGoroutine") = false) (hb : fn.body = some c) (W : Pat P g)
  (hT : T key = .ext Hac) : Ram P T ti sigs key ⟨f, [(false, [.mu 1]), (false, [.clo g [.px 0]])], [(true, [(.fz false, .fz)])], []⟩ := by
 subst hf
 exact .inr ⟨_, hT, Yab L hg hname hb W⟩
end
end Go.Proofs.YtpgnlmfmlffjcaaGreat.Rf

namespace Go.Proofs.YtpgnlmfmlffjcaaGreat.Rf
set_option linter.unusedVariables false
set_option linter.unusedSimpArgs false
section
open Go.Proofs Go.Shelf Go.RowKit Go.Lib Go.Sort
variable {P : Program} {ρ : Ren}
set_option maxHeartbeats 4000000 in
set_option maxRecDepth 1000000 in
theorem Pae (L : SlLaysE0.n45 P ρ) {K : Nat} {i0 : TypeInfo} {z : Value} (hi0 : P.info? (ρ.t 23) = some i0) (hz0 : i0.zero = some z) (hz1 : i0.size = K) (hzs : z.cells.size = K) (hK : 0 < K) (hzo : ∀ u ∈ z.cells.toList, u.oneCell' = true)
  (z23 : ∀ w, (Go.sizeOf (ρ.t 23)).run P w = .ok K w) (blk off n cap i j : Nat) (w : World) (olds : List Value) (hol : olds.length = n * K) (hoc : ∀ k u, olds[k]? = some u -> w.cell? ⟨blk, off + k, none⟩ = some u) (ho1 : ∀ u ∈ olds, u.oneCell' = true)
  (hall : ∀ k, k < cap * K -> ∃ u, w.cell? ⟨blk, off + k, none⟩ = some u /\ w.frozen? ⟨blk, off + k, none⟩ = false) (hcap : n <= cap) (hn : n <= 4611686018427387904) (hij : i <= j) (hj : j <= n) :
  Calls P (ρ.f 45) #[.slice (some ⟨blk, off, none⟩) n cap, .int .i64 i, .int .i64 j] w fun e w' => e = .returned (.slice (some ⟨blk, off, none⟩) (n - (j - i)) cap) /\
   ((i = j /\ w' = w) \/ (i < j /\ w' = (w.drew.setCells blk (off + i * K) (olds.drop (j * K))).setCells blk (off + (i + (n - j)) * K) (Builtin.zeroCells z.cells (n - (i + (n - j)))).toList)) := by
 have mixed := L.mixed; have t0 := L.t0; have a0 := L.a0; have z0 := L.z0; have v0 := L.v0; have t3 := L.t3; have a3 := L.a3; have z3 := L.z3; have v3 := L.v3; have t4 := L.t4; have a4 := L.a4; have z4 := L.z4; have v4 := L.v4; have t22 := L.t22; have a22 := L.a22; have z22 := L.z22; have v22 := L.v22
 by_cases heq : i = j
 ·subst heq
  have h0 : Calls P (ρ.f 45) #[.slice (some ⟨blk, off, none⟩) n cap, .int .i64 i, .int .i64 i] w fun e w' => e = .returned (.slice (some ⟨blk, off, none⟩) n cap) /\ w' = w := by
   clear hoc ho1 hall hol
   obtain ⟨_, _, FG⟩ := L.f45
   go_enter FG, SlBodyN.n45_ntmps ρ
   go_wp2
   all_goals (go_ret; exact ⟨rfl, rfl⟩)
  refine h0.mono ?_
  rintro e w' ⟨rfl, rfl⟩
  exact ⟨by rw [Nat.sub_self, Nat.sub_zero], .inl ⟨rfl, rfl⟩⟩
 ·have hlt : i < j := by omega
  obtain ⟨news, hnews⟩ : ∃ news, news = olds.drop (j * K) := ⟨_, rfl⟩
  have hlen : news.length = (n - j) * K := by rw [hnews, Obc, hol, Nat.sub_mul]
  have hjc : cap ≠ j -> j < cap := by omega
  have hmul : ∀ a b : Nat, a <= b -> a * K <= b * K := fun a b h => Obg K h
  obtain ⟨A, hA, hsrc⟩ : ∃ A : Addr, (if cap = j then (some (⟨blk, off, none⟩ : Addr)) else some ⟨blk, off + j * K, none⟩) = some A /\ Hid (∀ t u, news[t]? = some u -> w.drew.cell? (A.add t) = some u) := by
   by_cases h : cap = j
   ·refine ⟨⟨blk, off, none⟩, by simp [h], fun t u hu => ?_⟩
    have h0 : news.length = 0 := by rw [hlen, show n - j = 0 by omega, Nat.zero_mul]
    rw [List.length_eq_zero_iff.1 h0] at hu
    simp at hu
   ·refine ⟨⟨blk, off + j * K, none⟩, by simp [h], fun t u hu => ?_⟩
    rw [hnews, Nby] at hu
    have := hoc _ u hu
    rw [Addr.add_lit, show off + j * K + t = off + (j * K + t) by omega]
    exact this
  have s1 : Hid (news.length = (n - j) * K) := hlen
  have s2 : Hid (∀ u ∈ news, u.oneCell' = true) := fun u hu => ho1 u (Ob3 (hnews ▸ hu))
  have hroom : i * K + (n - j) * K <= cap * K := by rw [<- Obi]; exact hmul _ _ (by omega)
  have s3 : Hid (∀ t, t < news.length -> (w.drew.cell? ⟨blk, off + i * K + t, none⟩).isSome = true /\ w.drew.frozen? ⟨blk, off + i * K + t, none⟩ = false) := by
   intro t ht
   rw [hlen] at ht
   obtain ⟨u, h1, h2⟩ := hall (i * K + t) (by omega)
   rw [Nbl]
   exact ⟨by show (w.cell? _).isSome = true; rw [h1]; rfl, h2⟩
  obtain ⟨W1, hW1⟩ : ∃ W1, W1 = w.drew.setCells blk (off + i * K) news := ⟨_, rfl⟩
  have hall1 : ∀ k, k < cap * K -> ∃ u, W1.cell? ⟨blk, off + k, none⟩ = some u /\ W1.frozen? ⟨blk, off + k, none⟩ = false := by
   intro k hk
   obtain ⟨u, h1, h2⟩ := hall k hk
   rw [hW1]
   obtain ⟨u', h3⟩ := iN (w := w.drew) (B := blk) (o := off + i * K) (vs := news) (b := ⟨blk, off + k, none⟩) (fun _ => rfl) (fun t ht => (s3.out t ht).1) h1
   exact ⟨u', h3, by rw [World.frozen?_setCells]; exact h2⟩
  generalize hZ : (Builtin.zeroCells z.cells (n - (i + (n - j)))).toList = Z
  have hZl : Z.length = (n - (i + (n - j))) * K := by rw [<- hZ]; simp [Builtin.zeroCells, hzs]
  have hZ1 : ∀ u ∈ Z, u.oneCell' = true := by
   intro u hu
   rw [<- hZ, Builtin.zeroCells, Array.mem_toList_iff, Array.mem_map] at hu
   obtain ⟨q, hq, rfl⟩ := hu
   have hlt : q % z.cells.size < z.cells.size := Nat.mod_lt _ (by omega)
   rw [getElem!_pos z.cells _ hlt]
   exact hzo _ (Array.getElem_mem_toList hlt)
  have hcl : ∀ ty, (Builtin.clear_ #[ρ.t 22] ty #[.slice (some ⟨blk, off + (i + (n - j)) * K, none⟩) (n - (i + (n - j))) (cap - (i + (n - j)))]).run P W1 = .ok (.tuple #[]) (W1.setCells blk (off + (i + (n - j)) * K) Z) := by
   intro ty
   have hcells : ∀ t, t < Z.length -> ∃ u, W1.cell? ⟨blk, off + (i + (n - j)) * K + t, none⟩ = some u /\ W1.frozen? ⟨blk, off + (i + (n - j)) * K + t, none⟩ = false := fun t ht => by
    have h1 : (i + (n - j)) * K + (n - (i + (n - j))) * K <= cap * K := by rw [<- Obi]; exact hmul _ _ (by omega)
    have := hall1 ((i + (n - j)) * K + t) (by omega)
    rwa [<- Nbl] at this
   have hst := run_storeCells_cells (P := P) blk (off + (i + (n - j)) * K) Z 0 W1 (fun t ht => by obtain ⟨u, h1, -⟩ := hcells t ht; rw [Nbs, h1]; rfl) (fun t ht => by rw [Nbs]; exact (hcells t ht).choose_spec.2) hZ1
   obtain ⟨q, hq⟩ : ∃ q, n - (i + (n - j)) = q + 1 := ⟨n - (i + (n - j)) - 1, by omega⟩
   rw [hq] at hZ ⊢
   simp only [Nbs] at hst
   simp [Builtin.clear_, run_underlying t22, jW hi0 hz0, hZ, hst]
  have hW : Hid (W1 = w.drew.setCells blk (off + i * K) news) := hW1
  have hn' : Hid (news = olds.drop (j * K)) := hnews
  have hic : i <= cap := by omega
  have hjc : j <= cap := by omega
  have hK0 : Hid (0 < K) := hK
  clear hW1 hnews hlen hall1 hall hoc ho1 hol hmul hroom hZ hZl hZ1 hK
  obtain ⟨_, _, FG⟩ := L.f45
  go_enter FG, SlBodyN.n45_ntmps ρ
  go_wp2_with fail
  go_region_law_o (refine step_append_room rfl (.tmp 22) (.tmp 25) (ρ.t 22) rfl (ρ.t 23) i0 K t22 hi0 hz1 blk off i cap (by simp [Act.eval, Act.put]) A (n - j) (cap - j) news (by simp [Act.eval, Act.put]) s1.out hsrc.out s2.out (by omega) s3.out ?_; rw [<- hW.out])
  go_wp2
  go_ret
  refine ⟨by rw [show n - (j - i) = i + (n - j) by omega]; rfl, .inr ⟨hlt, ?_⟩⟩
  rw [hW.out, hn'.out]
end
section
open Go.Proofs Go.Shelf
variable {P : Program} {ρ : Ren}
def Cbn (K : Nat) : List D -> Option (List D)
 | [.rows sz rs, .int .i64 i, .int .i64 j] => if sz = K /\ 0 <= i /\ i <= j /\ j <= rs.length /\ rs.length <= 4611686018427387904 /\ 0 < rs.length then some [.rows K (rs.take i.toNat ++ rs.drop j.toNat)] else none
 | _ => none
def Wat (K i j : Nat) : Ow -> Ow
 | .slc 0 (k :: p) => if k / K < i then .slc 0 (k :: p) else if k / K < j then .frz else .slc 0 ((k - (j - i) * K) :: p)
 | o => o
theorem Zal {K i j r c : Nat} {p : List Nat} (hK : 0 < K) (hc : c < K) (h : r < i) : Wat K i j (.slc 0 ((r * K + c) :: p)) = .slc 0 ((r * K + c) :: p) := by
 have e : (r * K + c) / K = r := by rw [Pby, Nat.mul_add_div hK, Pb0 hc, Nbs]
 simp only [Wat]
 rw [e, if_pos h]
theorem Was {K i j r c : Nat} {p : List Nat} (hK : 0 < K) (hc : c < K) (hij : i <= j) (h : i <= r) : Wat K i j (.slc 0 (((r + (j - i)) * K + c) :: p)) = .slc 0 ((r * K + c) :: p) := by
 have e : ((r + (j - i)) * K + c) / K = r + (j - i) := by rw [Pby, Nat.mul_add_div hK, Pb0 hc, Nbs]
 simp only [Wat]
 rw [e, if_neg (by omega), if_neg (by omega), Obi]
 congr 2
 omega
theorem War (L : SlLaysE0.n45 P ρ) {K m : Nat} {i0 : TypeInfo} {z : Value} (hi0 : P.info? (ρ.t 23) = some i0) (hz0 : i0.zero = some z) (hz1 : i0.size = K) (hzs : z.cells.size = K) (hK : 0 < K) (hzo : ∀ u ∈ z.cells.toList, u.oneCell' = true)
  (z23 : ∀ w, (Go.sizeOf (ρ.t 23)).run P w = .ok K w) : Xam P ⟨ρ.f 45, [(false, [.ow (m + 1)]), (false, [.sc]), (false, [.sc])], [], [(false, [.ow (m + 1)])]⟩ (Cbn K) := by
 intro vals w G ds ds' hpre hr
 unfold Cbn at hr
 split at hr
 case h_2 => cases hr
 rename_i sz rs i j
 split at hr
 case isFalse => cases hr
 rename_i hc
 obtain ⟨rfl, h0, hij, hj, hbig, hpos⟩ := hc
 obtain rfl := Option.some.inj hr
 obtain ⟨u, us, vs, rfl, ⟨v, vs', rfl, ⟨hv, hrp⟩, rfl⟩, hsh, u2, us2, vs2, rfl, ⟨v2, vs3, rfl, hs2, rfl⟩, hsh2, u3, us3, vs4, rfl, ⟨v3, vs5, rfl, hs3, rfl⟩, hsh3, hnil⟩ := hpre.params
 simp only [Mb6, if_false] at hsh hsh2 hsh3
 obtain rfl : v = u := by simpa using hsh
 obtain rfl : v2 = u2 := by simpa using hsh2
 obtain rfl : v3 = u3 := by simpa using hsh3
 simp only [jC] at hnil
 subst hnil
 have hs2' : Sc v2 (.int .i64 i) := hs2
 have hs3' : Sc v3 (.int .i64 j) := hs3
 obtain rfl := hs2'.int_inv
 obtain rfl := hs3'.int_inv
 have hrp' : Rp G.own w 0 [] (m + 1) v (.rows sz rs) := hrp
 obtain ⟨A, a, n, c, cv, hval, hn, hcap, hA, hsz, hown, hcell, hrec⟩ := hrp'.sl_inv
 obtain rfl : A = some a := by
  rcases hA with h | ⟨-, h⟩
  ·exact h
  ·omega
 obtain ⟨hspot, hob, hcells⟩ := hown rfl
 have hadd := Rah hspot
 obtain ⟨nm, hnm, hfn⟩ := L.f45
 refine .inl ⟨fZ hfn hnm rfl _ _, ?_⟩
 have ea : (⟨a.block, a.off, none⟩ : Addr) = a := by
  cases a with
  | mk b o s =>
   obtain rfl : s = none := hspot
   rfl
 have hrows := Aa7 hsz hcell
 have hcl : (kC cv n sz).length = n * sz := lZ _ _ _
 have hgetrow : ∀ r, r < n -> ∃ row, rs[r]? = some row /\ row.length = sz := fun r hr => by
  have h1 : rs[r]? = some (rs[r]'(by omega)) := Mb0 (by omega)
  exact ⟨_, h1, hsz _ (Nbe h1)⟩
 have hone : ∀ u ∈ kC cv n sz, u.oneCell' = true := by
  intro u hu
  obtain ⟨k, hk⟩ := List.mem_iff_getElem?.1 hu
  obtain ⟨k1, k2, k3, rfl⟩ := Baw hk
  obtain ⟨row, h1, h2⟩ := hgetrow _ k1
  have h3 : row[k % sz]? = some (row[k % sz]'(by omega)) := Mb0 (by omega)
  exact (hrec _ _ h1 _ _ h3).one
 have hei : ((i.toNat : Nat) : Int) = i := by omega
 have hej : ((j.toNat : Nat) : Int) = j := by omega
 have hW := Pae L hi0 hz0 hz1 hzs hK hzo z23 a.block a.off n c i.toNat j.toNat w (kC cv n sz) hcl (fun k u hk => by rw [<- hadd]; exact hrows k u (hn.symm ▸ hk)) hone (fun k hk => by rw [<- hadd]; exact hcells k hk) hcap (by omega) (by omega) (by omega)
 rw [ea, <- hval, hei, hej] at hW
 refine hW.mono ?_
 rintro e w' ⟨rfl, hw⟩
 rcases hw with ⟨hij', rfl⟩ | ⟨hlt, hw⟩
 ·
  refine ⟨G, [_], rfl, Cam hpre rfl, ⟨_, _, _, rfl, ⟨_, _, rfl, ?_, rfl⟩, rfl, rfl⟩, trivial, trivial⟩
  have e1 : rs.take i.toNat ++ rs.drop j.toNat = rs := by rw [<- hij']; exact List.take_append_drop _ _
  show Rp G.own w' 0 [] (m + 1) (.slice (some a) (n - (j.toNat - i.toNat)) c) (.rows sz (rs.take i.toNat ++ rs.drop j.toNat))
  rw [e1, show n - (j.toNat - i.toNat) = n by omega, <- hval]
  exact hrp'
 ·generalize hI : i.toNat = I at *
  generalize hJ : j.toNat = J at *
  have hJn : J <= n := by omega
  generalize hZ : (Builtin.zeroCells z.cells (n - (I + (n - J)))).toList = Z at hw
  have hZl : Z.length = (n - (I + (n - J))) * sz := by rw [<- hZ]; simp [Builtin.zeroCells, hzs]
  have hmul : ∀ a b : Nat, a <= b -> a * sz <= b * sz := fun a b h => Obg sz h
  have hnl : ((kC cv n sz).drop (J * sz)).length = (n - J) * sz := by rw [Obc, hcl, Nat.sub_mul]
  generalize hnews : (kC cv n sz).drop (J * sz) = news at hw hnl
  have hroom : I * sz + (n - J) * sz <= c * sz := by rw [<- Obi]; exact hmul _ _ (by omega)
  have hroom2 : (I + (n - J)) * sz + (n - (I + (n - J))) * sz <= c * sz := by rw [<- Obi]; exact hmul _ _ (by omega)
  have hcells' : ∀ k, k < c * sz -> ∃ u, w.cell? ⟨a.block, a.off + k, none⟩ = some u /\ w.frozen? ⟨a.block, a.off + k, none⟩ = false := fun k hk => by rw [<- hadd]; exact hcells k hk
  have hex1 : ∀ t, t < news.length -> (w.drew.cell? ⟨a.block, a.off + I * sz + t, none⟩).isSome = true := fun t ht => by
   obtain ⟨u, h1, -⟩ := hcells' (I * sz + t) (by omega)
   rw [<- Nbl] at h1
   show (w.cell? _).isSome = true
   rw [h1]; rfl
  have hc1 : ∀ k, k < c * sz -> ∃ u, (w.drew.setCells a.block (a.off + I * sz) news).cell? ⟨a.block, a.off + k, none⟩ = some u /\ (w.drew.setCells a.block (a.off + I * sz) news).frozen? ⟨a.block, a.off + k, none⟩ = false := by
   intro k hk
   obtain ⟨u, h1, h2⟩ := hcells' k hk
   obtain ⟨u', h3⟩ := iN (w := w.drew) (B := a.block) (o := a.off + I * sz) (vs := news) (b := ⟨a.block, a.off + k, none⟩) (fun _ => rfl) hex1 h1
   exact ⟨u', h3, by rw [World.frozen?_setCells]; exact h2⟩
  have hex2 : ∀ t, t < Z.length -> ((w.drew.setCells a.block (a.off + I * sz) news).cell? ⟨a.block, a.off + (I + (n - J)) * sz + t, none⟩).isSome = true := fun t ht => by
   obtain ⟨u, h1, -⟩ := hc1 ((I + (n - J)) * sz + t) (by omega)
   rw [<- Nbl] at h1
   rw [h1]; rfl
  have hc2 : ∀ k, k < c * sz -> ∃ u, w'.cell? ⟨a.block, a.off + k, none⟩ = some u /\ w'.frozen? ⟨a.block, a.off + k, none⟩ = false := by
   intro k hk
   obtain ⟨u, h1, h2⟩ := hc1 k hk
   rw [hw]
   obtain ⟨u', h3⟩ := iN (B := a.block) (o := a.off + (I + (n - J)) * sz) (vs := Z) (b := ⟨a.block, a.off + k, none⟩) (fun _ => rfl) hex2 h1
   exact ⟨u', h3, by rw [World.frozen?_setCells]; exact h2⟩
  have hlow : ∀ k u, k < I * sz -> w.cell? ⟨a.block, a.off + k, none⟩ = some u -> w'.cell? ⟨a.block, a.off + k, none⟩ = some u := by
   intro k u hk h1
   have : I * sz <= (I + (n - J)) * sz := hmul _ _ (by omega)
   rw [hw, World.cell?_setCells_out _ _ _ _ _ (fun _ _ => .inl (by dsimp only; omega)), World.cell?_setCells_out _ _ _ _ _ (fun _ _ => .inl (by dsimp only; omega))]
   exact h1
  have hhigh : ∀ t u, news[t]? = some u -> w'.cell? ⟨a.block, a.off + I * sz + t, none⟩ = some u := by
   intro t u ht
   have htl := (List.getElem?_eq_some_iff.1 ht).1
   have e1 : (I + (n - J)) * sz = I * sz + (n - J) * sz := Obi _ _ _
   rw [hw, World.cell?_setCells_out _ _ _ _ _ (fun _ _ => .inl (by dsimp only; omega)), World.cell?_setCells_in a.block news (a.off + I * sz) w.drew hex1 t htl, <- ht, Mb0]
  have hheap : ∀ b, b ≠ a.block -> w'.heap[b]? = w.heap[b]? := fun b hb => by
   rw [hw, bS _ _ _ _ _ hb, bS _ _ _ _ _ hb]
   rfl
  have hsize : w'.heap.size = w.heap.size := by rw [hw, setCells_size, setCells_size]; rfl
  have hrest : w'.os = w.os /\ w'.tape = w.tape /\ w'.output = w.output := by
   obtain ⟨q1, q2, q3⟩ := gF a.block Z (a.off + (I + (n - J)) * sz) (w.drew.setCells a.block (a.off + I * sz) news)
   obtain ⟨p1, p2, p3⟩ := gF a.block news (a.off + I * sz) w.drew
   rw [hw]
   exact ⟨q1.trans p1, q2.trans p2, q3.trans p3⟩
  have hkeepo : ∀ b, (∀ p, G.own b ≠ .slc 0 p) -> Wat sz I J (G.own b) = G.own b := by
   intro b hb
   cases e : G.own b with
   | slc s p =>
    cases s with
    | zero => exact absurd e (hb p)
    | succ s => rfl
   | _ => rfl
  have hz' : ∀ b, G.own b = .frz -> b < w.heap.size -> Wat sz I J (G.own b) = .frz /\ w'.heap[b]? = w.heap[b]? := fun b hb _ => ⟨by rw [hb]; rfl, hheap b fun e => by rw [e, hob] at hb; cases hb⟩
  have hsub : ∀ {b k : Nat} {p : List Nat}, G.own b = .slc 0 (k :: p) -> w'.heap[b]? = w.heap[b]? := fun {b k p} hb => hheap b fun e => by rw [e, hob] at hb; injection hb with _ hb; cases hb
  refine ⟨{ G with own := fun b => Wat sz I J (G.own b) }, [_], rfl, ⟨hrest.1, hrest.2.1, hrest.2.2, by rw [hsize]; exact Nbd _, fun b hb ho => ?_, fun b q hb ho => ?_, fun b hb => ?_⟩, ⟨_, _, _, rfl, ⟨_, _, rfl, ?_, rfl⟩, rfl, rfl⟩, trivial, trivial⟩
  ·change G.own b = _ \/ G.own b = _ at ho
   refine ⟨hheap b fun e => ?_, hkeepo b fun p e => ?_⟩
   ·rw [e, hob] at ho; rcases ho with h | h <;> cases h
   ·rw [e] at ho; rcases ho with h | h <;> cases h
  ·exact absurd (hpre.cells b q hb ho).1 (Nat.not_lt_zero _)
  ·show Wat sz I J (G.own b) = .frz
   rw [hpre.fresh b (by omega)]; rfl
  ·show Rp (fun b => Wat sz I J (G.own b)) w' 0 [] (m + 1) (.slice (some a) (n - (J - I)) c) (.rows sz (rs.take I ++ rs.drop J))
   have hrow : ∀ r row, (rs.take I ++ rs.drop J)[r]? = some row -> (r < I /\ rs[r]? = some row) \/ (I <= r /\ rs[r + (J - I)]? = some row) := by
    intro r row hr
    have hl1 : (rs.take I).length = I := by rw [Nbr]; omega
    rcases Nbk r I with h | h
    ·rw [List.getElem?_append_left (by omega), List.getElem?_take, if_pos h] at hr
     exact .inl ⟨h, hr⟩
    ·rw [List.getElem?_append_right (by omega), hl1, Nby, show J + (r - I) = r + (J - I) by omega] at hr
     exact .inr ⟨h, hr⟩
   refine .sl (some a) a _ c sz _ (fun r q => if r < I then cv r q else cv (r + (J - I)) q) ?_ (by omega) (.inl rfl) (fun row hr => ?_) (fun _ => ⟨hspot, ?_, fun k hk => ?_⟩) (fun r row hr q d hq => ?_) (fun r row hr q d hq => ?_)
   ·rw [Mb2, Nbr, Obc]; omega
   ·rcases List.mem_append.1 hr with h | h
    ·exact hsz row (List.mem_of_mem_take h)
    ·exact hsz row (Ob3 h)
   ·rw [hob]; rfl
   ·rw [hadd]; exact hc2 k hk
   ·rcases hrow r row hr with ⟨h, h1⟩ | ⟨h, h1⟩
    ·rw [if_pos h]
     have hql : q < sz := by rw [<- hsz row (Nbe h1)]; exact (List.getElem?_eq_some_iff.1 hq).1
     have h2 := hcell r row h1 q d hq
     rw [hadd] at h2 ⊢
     refine hlow _ _ ?_ h2
     have := hmul (r + 1) I (by omega)
     rw [Obi] at this
     omega
    ·rw [if_neg (by omega)]
     have hql : q < sz := by rw [<- hsz row (Nbe h1)]; exact (List.getElem?_eq_some_iff.1 hq).1
     have hrl : r + (J - I) < n := by rw [<- hn]; exact (List.getElem?_eq_some_iff.1 h1).1
     have h3 : news[(r - I) * sz + q]? = some (cv (r + (J - I)) q) := by
      rw [<- hnews, Nby, show J * sz + ((r - I) * sz + q) = (r + (J - I)) * sz + q by rw [<- Nbl, <- Obi]; congr 2; omega]
      exact wC cv hrl hql
     have := hhigh _ _ h3
     rw [show a.off + I * sz + ((r - I) * sz + q) = a.off + (r * sz + q) by rw [Nbl, <- Nbl (I * sz), <- Obi]; congr 3; omega, <- hadd] at this
     exact this
   ·rcases hrow r row hr with ⟨h, h1⟩ | ⟨h, h1⟩
    ·rw [if_pos h]
     have hql : q < sz := by rw [<- hsz row (Nbe h1)]; exact (List.getElem?_eq_some_iff.1 hq).1
     have := (hrec r row h1 q d hq).mono' (own' := fun b => Wat sz I J (G.own b)) (w' := w') (r' := 0) (q := [r * sz + q]) (q' := [r * sz + q]) hz' [] (by simp) (fun b t hb => ⟨by rw [hb]; exact Zal hK hql h, hsub hb⟩)
     simpa using this
    ·rw [if_neg (by omega)]
     have hql : q < sz := by rw [<- hsz row (Nbe h1)]; exact (List.getElem?_eq_some_iff.1 hq).1
     have := (hrec _ row h1 q d hq).mono' (own' := fun b => Wat sz I J (G.own b)) (w' := w') (r' := 0) (q := [(r + (J - I)) * sz + q]) (q' := [r * sz + q]) hz' [] (by simp) (fun b t hb => ⟨by rw [hb]; exact Was hK hql (by omega) h, hsub hb⟩)
     simpa using this
def Pau (P : Program) (t : TypeId) : Bool := match P.info? t with
 | some i => match i.zero with
  | some z => z.cells.toList.all fun u => u.oneCell'
  | none => true
 | none => true
theorem Taf (L : SlLaysE0.n45 P ρ) {K m f key : Nat} {T : Nat -> Ent} {ti : Nat -> Option TI} {sigs : List (Nat × Sig)} (hf : ρ.f 45 = f) (h : Aao P (ρ.t 23) = some K) (z23 : ∀ w, (Go.sizeOf (ρ.t 23)).run P w = .ok K w)
  (hz1 : Pau P (ρ.t 23) = true) (hT : T key = .ext (Cbn K)) :
  Ram P T ti sigs key ⟨f, [(false, [.ow (m + 1)]), (false, [.sc]), (false, [.sc])], [], [(false, [.ow (m + 1)])]⟩ := by
 subst hf
 unfold Aao at h
 split at h
 ·rename_i i hi
  split at h
  ·rename_i z hz
   split at h
   ·rename_i h1
    cases h
    have h2 : (z.cells.toList.all fun u => u.oneCell') = true := by
     unfold Pau at hz1
     rw [hi] at hz1
     dsimp only at hz1
     rw [hz] at hz1
     exact hz1
    rw [Nbq] at h2
    exact .inr ⟨_, hT, War L hi hz rfl h1.1 h1.2 h2 z23⟩
   ·cases h
  ·cases h
 ·cases h
end
end Go.Proofs.YtpgnlmfmlffjcaaGreat.Rf

namespace Go.Proofs.YtpgnlmfmlffjcaaGreat.Rf
set_option linter.unusedVariables false
set_option linter.unusedSimpArgs false
class Enc (α : Type) where
 sz : Nat
 enc : α -> List D
 len : ∀ a, (enc a).length = sz
instance : Enc Int := ⟨1, fun n => [i64 n], fun _ => rfl⟩
instance : Enc Bool := ⟨1, fun b => [.bool b], fun _ => rfl⟩
instance : Enc (List UInt8) := ⟨1, fun s => [.str s], fun _ => rfl⟩
def rL {α : Type} [Enc α] (xs : List α) : D := .rows (Enc.sz α) (xs.map Enc.enc)
instance {α : Type} [Enc α] : Enc (List α) := ⟨1, fun xs => [rL xs], fun _ => rfl⟩
def InB {α : Type} (xs : List α) (k : Int) : Prop := 0 <= k /\ k < xs.length
def atI {α : Type} [Inhabited α] (xs : List α) (k : Int) : α := xs.getD k.toNat default
def fI {α : Type} (xs : List α) (k : Int) (a : α) : List α := xs.set k.toNat a
theorem aM {α : Type} {xs : List α} {i : Nat} : InB xs (i : Int) ↔ i < xs.length := by unfold InB; omega
theorem uW {α : Type} [Inhabited α] {xs : List α} {i : Nat} : atI xs (i : Int) = xs.getD i default := rfl
theorem aY {α : Type} [Inhabited α] {xs : List α} {i : Nat} (h : i < xs.length) : atI xs (i : Int) = xs[i] := by
 rw [uW, Mb4, Mb0 h]; rfl
theorem InB.lt {α : Type} {xs : List α} {k : Int} (h : InB xs k) : k.toNat < xs.length := by unfold InB at h; omega
def tick : Nat := 0
def Lbv : Nat := 0
def iZ {γ : Type} (c : Bool) (a b : γ) : γ := match c with
 | true => a
 | false => b
theorem Sa5 {γ : Type} {a b : γ} : iZ true a b = a := rfl
theorem Oa7 {γ : Type} {a b : γ} : iZ false a b = b := rfl
@[congr] theorem Cbk {γ : Type} {c c' : Bool} {a b : γ} (h : c = c') {dd : Nat} (hd : tick = dd) : iZ c a b = iZ c' a b := by rw [h]
theorem aG {γ : Type} {c : Bool} {a b r : γ} (h1 : c = true -> a = r) (h2 : c = false -> b = r) : iZ c a b = r := by
 cases c with
 | true => exact h1 rfl
 | false => exact h2 rfl
section
variable {T : Nat -> Ent} {β : Type}
@[congr] theorem Hb6 {t : Tm β} {ρ ρ' : List D} (h : ρ = ρ') {dd : Nat} (hd : tick = dd) : Er T t ρ = Er T t ρ' := by rw [h]
@[congr] theorem Bbf {k : Tm β} {ρ ρ' : List D} {n : Nat} {a a' : Option (List D)} (h : ρ = ρ') (h2 : a = a') {dd : Nat} (hd : tick = dd) : stepT T k ρ n a = stepT T k ρ' n a' := by rw [h, h2]
@[congr] theorem Bba {i : Nat} {k : Tm β} {ρ ρ' : List D} {r r' : Option (Kind × List D)} (h : ρ = ρ') (h2 : r = r') {dd : Nat} (hd : tick = dd) : lM T i k ρ r = lM T i k ρ' r' := by rw [h, h2]
@[congr] theorem Ebd {p : aO} {xs xs' : List D} (h : xs = xs') {dd : Nat} (hd : tick = dd) : p.run xs = p.run xs' := by rw [h]
def nth : List D -> Nat -> D
 | [], _ => .undef
 | a :: _, 0 => a
 | _ :: r, n + 1 => nth r n
theorem Ibj {a : D} {r : List D} : nth (a :: r) 0 = a := rfl
theorem Ibi {a : D} {r : List D} {n : Nat} : nth (a :: r) (n + 1) = nth r n := rfl
theorem Qap (r : List D) (n : Nat) : r.getD n .undef = nth r n := by
 induction r generalizing n with
 | nil => rfl
 | cons a r ih => cases n with
  | zero => rfl
  | succ n => exact ih n
def vals (ρ : List D) : List aJ -> List D
 | [] => []
 | .v i :: r => nth ρ i :: vals ρ r
 | .c d :: r => d :: vals ρ r
@[congr] theorem Dbe {ρ ρ' : List D} {xs : List aJ} (h : ρ = ρ') {dd : Nat} (hd : tick = dd) : vals ρ xs = vals ρ' xs := by rw [h]
theorem vE (ρ : List D) (xs : List aJ) : xs.map (·.val ρ) = vals ρ xs := by
 induction xs with
 | nil => rfl
 | cons x xs ih =>
  rw [Nbm, ih]
  cases x with
  | v i => show ρ.getD i .undef :: _ = _; rw [Qap]; rfl
  | c d => rfl
theorem Dbn {ρ : List D} : vals ρ [] = [] := rfl
theorem Dbm {ρ : List D} {i : Nat} {r : List aJ} : vals ρ (.v i :: r) = nth ρ i :: vals ρ r := rfl
theorem Dbo {ρ : List D} {d : D} {r : List aJ} : vals ρ (.c d :: r) = d :: vals ρ r := rfl
def Raq (ρ : List D) : aJ -> D
 | .v i => nth ρ i
 | .c d => d
theorem Dbp {ρ : List D} {i : Nat} : Raq ρ (.v i) = nth ρ i := rfl
theorem Dbq {ρ : List D} {d : D} : Raq ρ (.c d) = d := rfl
theorem Iap (ρ : List D) (a : aJ) : a.val ρ = Raq ρ a := by
 cases a with
 | v i => exact Qap ρ i
 | c d => rfl
@[congr] theorem Dbf {ρ ρ' : List D} {a : aJ} (h : ρ = ρ') {dd : Nat} (hd : tick = dd) : Raq ρ a = Raq ρ' a := by rw [h]
theorem Dba (k : Kind) (xs : List aJ) (e : β) (ρ : List D) : Er T (.leaf k xs e) ρ = some (k, vals ρ xs) := by rw [Cb8, vE]
theorem Ibx (p : aO) (xs : List aJ) (n : Nat) (k : Tm β) (ρ : List D) : Er T (.lt none p xs n k) ρ = stepT T k ρ n (p.run (vals ρ xs)) := by rw [Eb8, vE]
theorem Dbb (f : Nat) (xs : List aJ) (n : Nat) (os : List aJ) (k : Tm β) (ρ : List D) : Er T (.call none f xs n os k) ρ = stepT T k ρ n (Fun T f (vals ρ xs)) := by rw [Abd, vE]
def xR (w : Bool) (a b : Option (Kind × List D)) (c : D) : Option (Kind × List D) := if gdR c w = true then a else b
@[congr] theorem Cbi {w : Bool} {a b : Option (Kind × List D)} {c c' : D} (h : c = c') {dd : Nat} (hd : tick = dd) : xR w a b c = xR w a b c' := by rw [h]
theorem Cbg {a b : Option (Kind × List D)} {c : Bool} : xR true a b (.bool c) = iZ c a b := by cases c <;> rfl
theorem Cbh {a b : Option (Kind × List D)} {c : Bool} : xR false a b (.bool c) = iZ c b a := by cases c <;> rfl
theorem Cbf {w : Bool} {a b : Option (Kind × List D)} : xR w a b .undef = b := by simp [xR, gdR]
theorem Fba (a : aJ) (w : Bool) (p : aO) (xs : List aJ) (n : Nat) (k : Tm β) (ρ : List D) :
  Er T (.lt (some (a, w)) p xs n k) ρ = xR w (stepT T k ρ n (p.run (vals ρ xs))) (Er T k (ρ ++ Nbg n .undef)) (Raq ρ a) := by
 rw [Eb7, ltT, xR, vE, Iap]
theorem Abe (a : aJ) (w : Bool) (f : Nat) (xs : List aJ) (n : Nat) (os : List aJ) (k : Tm β) (ρ : List D) :
  Er T (.call (some (a, w)) f xs n os k) ρ = xR w (stepT T k ρ n (Fun T f (vals ρ xs))) (Er T k (ρ ++ (Nbg (n - os.length) .undef ++ vals ρ os))) (Raq ρ a) := by
 rw [Abc, Cbt, xR, vE, vE, Iap]
def Na3 {γ : Type} (a b : Option γ) (c : D) : Option γ := Lbq c a b
@[congr] theorem Bbb {γ : Type} {a b : Option γ} {c c' : D} (h : c = c') {dd : Nat} (hd : tick = dd) : Na3 a b c = Na3 a b c' := by rw [h]
theorem Bbc {γ : Type} {a b : Option γ} {c : Bool} : Na3 a b (.bool c) = iZ c a b := by cases c <;> rfl
theorem Fbb (c : aJ) (t e : Tm β) (ρ : List D) : Er T (.ite c t e) ρ = Na3 (Er T t ρ) (Er T e ρ) (Raq ρ c) := by rw [Eb9, Ibm, Na3, Iap]
theorem Dbc (i : Nat) (t k : Tm β) (ρ : List D) : Er T (.bind i t k) ρ = lM T i k ρ (Er T t ρ) := Cb9 i t k ρ
theorem Ras {i : Nat} {k : Tm β} {ρ : List D} {c : Bool} {a b : Option (Kind × List D)} : lM T i k ρ (iZ c a b) = iZ c (lM T i k ρ a) (lM T i k ρ b) := by cases c <;> rfl
theorem Na2 {i j : Nat} {k : Tm β} {ρ ds : List D} : lM T i k ρ (some (.yield j, ds)) = if j = i then Er T k (ρ ++ ds) else some (.yield j, ds) := by
 by_cases h : j = i
 ·subst h; rw [Rar, if_pos rfl]
 ·rw [Xa8 h, if_neg h]
noncomputable def fin (o : Option (Kind × List D)) : Option (List D) := o.bind Lbk
theorem Zab {c : Bool} {a b : Option (Kind × List D)} : fin (iZ c a b) = iZ c (fin a) (fin b) := by cases c <;> rfl
theorem Cbl {ds : List D} : fin (some (.ret, ds)) = some ds := rfl
theorem aW {f : Nat} {t : Tm Unit} (h : T f = .tm t) (args : List D) : Fun T f args = fin (Er T t args) := Ibw h args
theorem Ibs {ρ : List D} : ρ ++ [] = ρ := Nbo ρ
theorem Ibt {a : D} {r s : List D} : (a :: r) ++ s = a :: (r ++ s) := rfl
theorem Ibu {s : List D} : [] ++ s = s := rfl
theorem Bbe {k : Tm β} {ρ ds : List D} {n : Nat} : stepT T k ρ n (some ds) = if ds.length = n then Er T k (ρ ++ ds) else none := rfl
end
section
variable {α : Type} [Enc α]
theorem Ebf {xs : List α} : aO.len.run [rL xs] = some [i64 xs.length] := by simp [rL, aO.run]
theorem Abl {xs : List α} {k : Int} (h : InB xs k) : aO.inb.run [rL xs, i64 k] = some [] := by
 unfold InB at h
 simp only [rL, aO.run, Nbb]
 rw [if_pos ⟨h.1, h.2⟩]
def rowOf (off : Nat) (ks : List Bool) (r : List D) : Option (List D) := if off + ks.length <= r.length /\ Baf ks (r.drop off) = true then some ((r.drop off).take ks.length) else none
theorem iX [Inhabited α] {xs : List α} {k : Int} {sz off : Nat} {ks : List Bool} (hs : Enc.sz α = sz) (h : InB xs k) : (aO.row sz off ks).run [rL xs, i64 k] = rowOf off ks (Enc.enc (atI xs k)) := by
 have h2 := h.lt
 unfold InB at h
 subst hs
 have e : xs[k.toNat]? = some (atI xs k) := by
  rw [Mb0 h2, atI, Mb4, Mb0 h2]; rfl
 simp only [rL, aO.run, Nbn, e, Nb3]
 simp only [true_and]
 rw [if_pos h.1]
 rfl
theorem jP [Inhabited α] {xs : List α} {k : Int} {sz off n : Nat} {vs : List D} {a : α} (hs : Enc.sz α = sz) (hl : vs.length = n) (ho : off + n <= sz) (ha : Enc.enc a = (Enc.enc (atI xs k)).take off ++ vs ++ (Enc.enc (atI xs k)).drop (off + n)) (h : InB xs k) :
  (aO.set sz off n).run (rL xs :: i64 k :: vs) = some [rL (fI xs k a)] := by
 have h2 := h.lt
 unfold InB at h
 subst hs
 have e : xs[k.toNat]? = some (atI xs k) := by
  rw [Mb0 h2, atI, Mb4, Mb0 h2]; rfl
 simp only [rL, aO.run, Nbn, e, Nb3]
 simp only [true_and]
 rw [if_pos h.1, if_pos ⟨by rw [Enc.len]; exact ho, hl⟩, <- ha, fI, List.map_set]
theorem qK {b : Nat} {n : Int} {zero : List D} {a : α} (ha : Enc.enc a = zero) (h : 0 <= n) (h2 : n.toNat * b <= bV) : (aO.make b zero).run [i64 n] = some [rL (Nbg n.toNat a)] := by
 simp only [aO.run]
 rw [if_pos ⟨h, h2⟩, rL, List.map_replicate, ha, <- Enc.len a, ha]
theorem Uan {sz : Nat} {vs : List D} {a : α} (hs : Enc.sz α = sz) (ha : Enc.enc a = vs) : (aO.mk sz 1).run vs = some [rL [a]] := by
 subst hs; subst ha
 have := Enc.len a
 simp [rL, aO.run, chunk, this, List.take_of_length_le (Nat.le_of_eq this)]
theorem rZ {sz b : Nat} {fl : Bool} {xs ys : List α} (hs : Enc.sz α = sz) (hf : fl = true -> ∀ a : α, (Enc.enc a).all D.isSc = true) (h : (xs.length + ys.length) * b <= bV) : (aO.app sz b fl).run [rL xs, rL ys] = some [rL (xs ++ ys)] := by
 subst hs
 have hall : (!fl || (xs.map Enc.enc ++ ys.map Enc.enc).all fun r => r.all D.isSc) = true := by
  cases fl with
  | false => rfl
  | true =>
   rw [Pbl, Pbg, <- Obo, List.all_map, Nbq]
   exact fun a _ => hf rfl a
 simp only [rL, aO.run, Nbb]
 rw [if_pos ⟨trivial, trivial, hall, h⟩, <- Obo]
theorem mH {sz b : Nat} {fl : Bool} {ys : List α} (hs : Enc.sz α = sz) (hf : fl = true -> ∀ a : α, (Enc.enc a).all D.isSc = true) (h : ys.length * b <= bV) : (aO.app sz b fl).run [.rows sz [], rL ys] = some [rL ys] := by
 have := rZ (xs := []) (ys := ys) (b := b) hs hf (by simpa using h)
 subst hs
 exact this
theorem tT {sz : Nat} {fl : Bool} {xs : List α} {lo hi : Int} (hs : Enc.sz α = sz) (hf : fl = true -> ∀ a : α, (Enc.enc a).all D.isSc = true) (h0 : 0 <= lo) (h1 : lo <= hi) (h2 : hi <= xs.length) : (aO.sub sz fl).run [rL xs, i64 lo, i64 hi] = some [rL ((xs.take hi.toNat).drop lo.toNat)] := by
 subst hs
 have hall : (!fl || (xs.map Enc.enc).all fun r => r.all D.isSc) = true := by
  cases fl with
  | false => rfl
  | true =>
   rw [Pbl, Pbg, List.all_map, Nbq]
   exact fun a _ => hf rfl a
 simp only [rL, aO.run, Nbb]
 rw [if_pos ⟨trivial, hall, h0, h1, h2⟩, <- List.map_take, <- List.map_drop]
theorem Ebg {xs : List α} : aO.emp.run [rL xs] = some [.bool xs.isEmpty] := by simp [rL, aO.run]
theorem Ibg {x : α} {xs : List α} : aO.ne.run [rL (x :: xs)] = some [] := by simp [rL, aO.run]
class Fits (α : Type) [Enc α] (m : Nat) : Prop where
 fits : ∀ a : α, (Enc.enc a).all (mY m) = true
theorem Ebh {m : Nat} [Fits α m] {xs : List α} : (aO.dep (m + 1)).run [rL xs] = some [] := by
 have : mY (m + 1) (rL xs) = true := by
  unfold rL
  simp only [mY, List.all_map, Nbq]
  intro a _
  exact Fits.fits a
 simp only [aO.run, this, if_true]
end
instance {m : Nat} : Fits Int m := ⟨fun a => by cases m <;> rfl⟩
instance {m : Nat} : Fits Bool m := ⟨fun a => by cases m <;> rfl⟩
instance {m : Nat} : Fits (List UInt8) m := ⟨fun a => by cases m <;> rfl⟩
theorem Jaz {α : Type} [Enc α] {m : Nat} [Fits α m] (xs : List α) : mY (m + 1) (rL xs) = true := by
 unfold rL
 simp only [mY, List.all_map, Nbq]
 intro a _
 exact Fits.fits a
instance {α : Type} [Enc α] {m : Nat} [Fits α m] : Fits (List α) (m + 1) := ⟨fun xs => by
 show [rL xs].all (mY (m + 1)) = true
 simp [Jaz]⟩
theorem Yaf {a b : Int} : aO.min.run [i64 a, i64 b] = some [i64 (min a b)] := by
 simp only [aO.run, Jax, Ebk, if_true, Mb3, Nb3]
 congr 3
 by_cases h : b < a
 ·rw [if_pos (by simpa using h)]; omega
 ·rw [if_neg (by simpa using h)]; omega
theorem Yah {a b : Int} : aO.max.run [i64 a, i64 b] = some [i64 (max a b)] := by
 simp only [aO.run, Jax, Ebk, if_true, Mb3, Nb3]
 congr 3
 by_cases h : b > a
 ·rw [if_pos (by simpa using h)]; omega
 ·rw [if_neg (by simpa using h)]; omega
theorem Qaf {a b : Int} (h1 : -9223372036854775808 <= a * b) (h2 : a * b <= 9223372036854775807) : (aO.bin .mul).run [i64 a, i64 b] = some [i64 (a * b)] := by simp [aO.run, Kap, xL, wrap_i64 h1 h2]
theorem Rau {a b : Int} (ha : -9223372036854775808 <= a) (ha' : a <= 9223372036854775807) (hb : 0 < b) : -9223372036854775808 <= a.tdiv b /\ a.tdiv b <= 9223372036854775807 := by
 rcases Int.le_total 0 a with h | h
 ·have h1 := Int.tdiv_nonneg h (Int.le_of_lt hb)
  have h2 := Int.tdiv_le_self b h
  omega
 ·have h1 : (-a).tdiv b = -(a.tdiv b) := Int.neg_tdiv ..
  have h2 := Int.tdiv_nonneg (show 0 <= -a by omega) (Int.le_of_lt hb)
  have h3 := Int.tdiv_le_self b (show 0 <= -a by omega)
  omega
theorem Yae {a b : Int} (ha : 0 <= a) (ha' : a <= 9223372036854775807) (hb : 0 < b) : (aO.bin .quo).run [i64 a, i64 b] = some [i64 (a / b)] := by
 have h := Rau (by omega) ha' hb
 have hb' : ¬ b = 0 := by omega
 rw [<- Int.tdiv_eq_ediv_of_nonneg ha]
 simp only [aO.run, Kap, xL, if_true, if_neg hb', Nb3, wrap_i64 h.1 h.2]
theorem Yad {a b : Int} (ha : 0 <= a) (hb : 0 < b) : (aO.bin .rem).run [i64 a, i64 b] = some [i64 (a % b)] := by
 have hb' : ¬ b = 0 := by omega
 simp only [aO.run, Kap, xL, if_true, if_neg hb', Nb3, Int.tmod_eq_emod_of_nonneg ha]
theorem Ma4 : ∀ xs ys : List Int, xs.length = ys.length -> Nax (Nbg xs.length 0) (xs.map i64) (ys.map i64) = some (decide (xs = ys))
 | [], [], _ => rfl
 | x :: xs, y :: ys, h => by
  have ih := Ma4 xs ys (by simpa using h)
  simp only [Nbc, List.replicate_succ, Nbm, Nax, eqD, if_true, Mb3, ih, List.cons.injEq, Bool.decide_and]
  by_cases e : x = y
  ·simp [e]
  ·simp [e]
theorem Zae {p : Prop} [Decidable p] (xs ys : List Int) (h : xs.length = ys.length) (hp : p ↔ xs = ys) : (Nax (Nbg xs.length 0) (xs.map i64) (ys.map i64)).map (fun b => [D.bool b]) = some [.bool (decide p)] := by
 rw [Ma4 xs ys h, Nb3, decide_eq_decide.2 hp]
theorem Ebx (i : Nat) : ((i + 1 : Nat) : Int) = (i : Int) + 1 := rfl
theorem SA : (∀ {T β} (k : Kind) (xs : List aJ) (e : β) (ρ : List D), Er T (.leaf k xs e) ρ = some (k, vals ρ xs)) /\
  (∀ {T} {β : Type} (p : aO) (xs : List aJ) (n : Nat) (k : Tm β) (ρ : List D), Er T (.lt none p xs n k) ρ = stepT T k ρ n (p.run (vals ρ xs))) /\
  (∀ {T} {β : Type} (f : Nat) (xs : List aJ) (n : Nat) (os : List aJ) (k : Tm β) (ρ : List D), Er T (.call none f xs n os k) ρ = stepT T k ρ n (Fun T f (vals ρ xs))) /\
  (∀ {T} {β : Type} (c : aJ) (t e : Tm β) (ρ : List D), Er T (.ite c t e) ρ = Na3 (Er T t ρ) (Er T e ρ) (Raq ρ c)) /\
  (∀ {T} {β : Type} (i : Nat) (t k : Tm β) (ρ : List D), Er T (.bind i t k) ρ = lM T i k ρ (Er T t ρ)) /\
  (∀ {T} {β : Type} (a : aJ) (w : Bool) (p : aO) (xs : List aJ) (n : Nat) (k : Tm β) (ρ : List D),
   Er T (.lt (some (a, w)) p xs n k) ρ = xR w (stepT T k ρ n (p.run (vals ρ xs))) (Er T k (ρ ++ Nbg n .undef)) (Raq ρ a)) /\
  (∀ {T} {β : Type} (a : aJ) (w : Bool) (f : Nat) (xs : List aJ) (n : Nat) (os : List aJ) (k : Tm β) (ρ : List D),
   Er T (.call (some (a, w)) f xs n os k) ρ = xR w (stepT T k ρ n (Fun T f (vals ρ xs))) (Er T k (ρ ++ (Nbg (n - os.length) .undef ++ vals ρ os))) (Raq ρ a)) :=
 ⟨Dba, Ibx, Dbb, Fbb, Dbc, Fba, Abe⟩
theorem SB : (tick = Lbv) /\ (∀ {γ : Type} {c : Bool} {a b : γ}, iZ (!c) a b = iZ c b a) /\ (∀ {a b : Option (Kind × List D)} {c : Bool}, xR true a b (.bool c) = iZ c a b) /\ (∀ {a b : Option (Kind × List D)} {c : Bool}, xR false a b (.bool c) = iZ c b a) /\
  (∀ {w : Bool} {a b : Option (Kind × List D)}, xR w a b .undef = b) /\ (∀ {γ : Type} {a b : Option γ} {c : Bool}, Na3 a b (.bool c) = iZ c a b) /\
  (∀ {T} {β : Type} {i : Nat} {k : Tm β} {ρ : List D} {c : Bool} {a b : Option (Kind × List D)}, lM T i k ρ (iZ c a b) = iZ c (lM T i k ρ a) (lM T i k ρ b)) /\
  (∀ {T} {β : Type} {i j : Nat} {k : Tm β} {ρ ds : List D}, lM T i k ρ (some (.yield j, ds)) = if j = i then Er T k (ρ ++ ds) else some (.yield j, ds)) /\
  (∀ {T} {β : Type} {i : Nat} {k : Tm β} {ρ ds : List D}, lM T i k ρ (some (.ret, ds)) = some (.ret, ds)) /\ (∀ {T} {β : Type} {i : Nat} {k : Tm β} {ρ ds : List D}, lM T i k ρ (some (.cont, ds)) = some (.cont, ds)) /\
  (∀ {c : Bool} {a b : Option (Kind × List D)}, fin (iZ c a b) = iZ c (fin a) (fin b)) /\ (∀ {ds : List D}, fin (some (.ret, ds)) = some ds) /\
  (∀ {γ : Type} {a b : γ}, iZ true a b = a) /\ (∀ {γ : Type} {a b : γ}, iZ false a b = b) :=
 ⟨rfl, by intro γ c a b; cases c <;> rfl, Cbg, Cbh, Cbf, Bbc, Ras, Na2, Tay, Rat, Zab, Cbl, Sa5, Oa7⟩
theorem SC : (∀ {a : D} {r : List D}, nth (a :: r) 0 = a) /\ (∀ {a : D} {r : List D} {n : Nat}, nth (a :: r) (n + 1) = nth r n) /\
  (∀ {ρ : List D}, vals ρ [] = []) /\ (∀ {ρ : List D} {i : Nat} {r : List aJ}, vals ρ (.v i :: r) = nth ρ i :: vals ρ r) /\ (∀ {ρ : List D} {d : D} {r : List aJ}, vals ρ (.c d :: r) = d :: vals ρ r) /\
  (∀ {ρ : List D} {i : Nat}, Raq ρ (.v i) = nth ρ i) /\ (∀ {ρ : List D} {d : D}, Raq ρ (.c d) = d) /\
  (∀ {ρ : List D}, ρ ++ [] = ρ) /\ (∀ {a : D} {r s : List D}, (a :: r) ++ s = a :: (r ++ s)) /\ (∀ {s : List D}, [] ++ s = s) /\
  (∀ {T} {β : Type} {k : Tm β} {ρ ds : List D} {n : Nat}, stepT T k ρ n (some ds) = if ds.length = n then Er T k (ρ ++ ds) else none) /\
  (∀ {α : Type} {a : α} {l : List α}, (a :: l).length = l.length + 1) /\ (∀ {α : Type}, ([] : List α).length = 0) /\ (∀ {α : Type} {x : α} {n : Nat}, Nbg (n + 1) x = x :: Nbg n x) /\ (∀ {α : Type} {x : α}, Nbg 0 x = []) :=
 ⟨Ibj, Ibi, Dbn, Dbm, Dbo, Dbp, Dbq, Ibs, Ibt, Ibu, Bbe, Nbc, List.length_nil, List.replicate_succ, List.replicate_zero⟩
theorem SP : (∀ {a b : Int}, (aO.bin .lss).run [i64 a, i64 b] = some [.bool (decide (a < b))]) /\ (∀ {a b : Int}, (aO.bin .gtr).run [i64 a, i64 b] = some [.bool (decide (b < a))]) /\
  (∀ {a b : Int}, (aO.bin .leq).run [i64 a, i64 b] = some [.bool (decide (a <= b))]) /\ (∀ {a b : Int}, (aO.bin .geq).run [i64 a, i64 b] = some [.bool (decide (b <= a))]) /\
  (∀ {a b : Int}, (aO.bin .neq).run [i64 a, i64 b] = some [.bool (!(a == b))]) /\ (∀ {a b : Int}, (aO.bin .eql).run [i64 a, i64 b] = some [.bool (a == b)]) /\
  (∀ {b : Bool}, aO.not.run [.bool b] = some [.bool (!b)]) /\ (∀ {c : Bool} {a b : D}, aO.pick.run [.bool c, a, b] = some [iZ c a b]) /\ (∀ {a b : Bool}, (aO.eqb true).run [.bool a, .bool b] = some [.bool (!(a == b))]) /\ (∀ {a b : Bool}, (aO.eqb false).run [.bool a, .bool b] = some [.bool (a == b)]) /\
  (∀ {d : D}, aO.id.run [d] = some [d]) /\ (∀ {α : Type} [Enc α] {xs : List α}, aO.len.run [rL xs] = some [i64 xs.length]) /\
  (∀ {α : Type} [Enc α] {xs : List α} {k : Int}, InB xs k -> aO.inb.run [rL xs, i64 k] = some []) /\
  (∀ {a b : Int}, aO.min.run [i64 a, i64 b] = some [i64 (min a b)]) /\ (∀ {a b : Int}, aO.max.run [i64 a, i64 b] = some [i64 (max a b)]) /\
  (∀ {α : Type} [Enc α] {m : Nat} [Fits α m] {xs : List α}, (aO.dep (m + 1)).run [rL xs] = some []) :=
 ⟨Bbj, Bbl, Bbk, Bbm, Bbi, Bbn, Bbh, by intro c a b; cases c <;> rfl, Bbo, rfl, Ebc, Ebf, Abl, Yaf, Yah, Ebh⟩
end Go.Proofs.YtpgnlmfmlffjcaaGreat.Rf

namespace Go.Proofs.YtpgnlmfmlffjcaaGreat.Rf
set_option linter.unusedVariables false
set_option maxRecDepth 4000
structure Baz where
 kind : Int
 id : Int
 src : Int
 dst : Int
 amt : Int
 deriving DecidableEq
instance : Inhabited Baz := ⟨⟨0, 0, 0, 0, 0⟩⟩
instance : Enc Baz := ⟨5, fun x => [i64 x.kind, i64 x.id, i64 x.src, i64 x.dst, i64 x.amt], fun _ => rfl⟩
instance {m : Nat} : Fits Baz m := ⟨fun x => by cases m <;> rfl⟩
structure lG where
 seq : Int
 deps : (List Int)
 deriving DecidableEq
instance : Inhabited lG := ⟨⟨0, []⟩⟩
instance : Enc lG := ⟨2, fun x => [i64 x.seq, rL x.deps], fun _ => rfl⟩
theorem Wal (x : lG) : Enc.enc x = [i64 x.seq, rL x.deps] := rfl
instance {m : Nat} : Fits lG (m + 1) := ⟨fun x => by
 rw [Wal]
 simp only [Pbq, List.all_nil, Pbr, Mby]
 refine ⟨?_, ?_⟩
 all_goals first | rfl | exact Jaz _⟩
structure bH where
 ballot : Int
 vote : Int
 state : Int
 cmd : Baz
 attr : lG
 deriving DecidableEq
instance : Inhabited bH := ⟨⟨0, 0, 0, default, default⟩⟩
instance : Enc bH := ⟨10, fun x => [i64 x.ballot, i64 x.vote, i64 x.state, i64 x.cmd.kind, i64 x.cmd.id, i64 x.cmd.src, i64 x.cmd.dst, i64 x.cmd.amt, i64 x.attr.seq, rL x.attr.deps], fun _ => rfl⟩
theorem Zai (x : bH) : Enc.enc x = [i64 x.ballot, i64 x.vote, i64 x.state, i64 x.cmd.kind, i64 x.cmd.id, i64 x.cmd.src, i64 x.cmd.dst, i64 x.cmd.amt, i64 x.attr.seq, rL x.attr.deps] := rfl
instance {m : Nat} : Fits bH (m + 1) := ⟨fun x => by
 rw [Zai]
 simp only [Pbq, List.all_nil, Pbr, Mby]
 refine ⟨?_, ?_, ?_, ?_, ?_, ?_, ?_, ?_, ?_, ?_⟩
 all_goals first | rfl | exact Jaz _⟩
structure aL where
 n : Int
 rows : (List (List bH))
 deriving DecidableEq
instance : Inhabited aL := ⟨⟨0, []⟩⟩
instance : Enc aL := ⟨2, fun x => [i64 x.n, rL x.rows], fun _ => rfl⟩
theorem Tad (x : aL) : Enc.enc x = [i64 x.n, rL x.rows] := rfl
instance {m : Nat} : Fits aL (m + 3) := ⟨fun x => by
 rw [Tad]
 simp only [Pbq, List.all_nil, Pbr, Mby]
 refine ⟨?_, ?_⟩
 all_goals first | rfl | exact Jaz _⟩
theorem Ebz : (∀ x : Baz, Baz.mk x.kind x.id x.src x.dst x.amt = x) /\
  (∀ x : lG, lG.mk x.seq x.deps = x) /\
  (∀ x : bH, bH.mk x.ballot x.vote x.state x.cmd x.attr = x) /\
  (∀ x : aL, aL.mk x.n x.rows = x) :=
 ⟨fun _ => rfl,
  fun _ => rfl,
  fun _ => rfl,
  fun _ => rfl⟩
theorem aS : (∀ {xs : List Int} {k : Int}, InB xs k -> (aO.row 1 0 [true]).run [rL xs, i64 k] = some [i64 (atI xs k)]) /\
  (∀ {xs : List (List UInt8)} {k : Int}, InB xs k -> (aO.row 1 0 [true]).run [rL xs, i64 k] = some [.str (atI xs k)]) /\
  (∀ {xs : List (List Int)} {k : Int}, InB xs k -> (aO.row 1 0 [false]).run [rL xs, i64 k] = some [rL (atI xs k)]) /\
  (∀ {xs : List (List bH)} {k : Int}, InB xs k -> (aO.row 1 0 [false]).run [rL xs, i64 k] = some [rL (atI xs k)]) /\
  (∀ {xs : List (List (List Int))} {k : Int}, InB xs k -> (aO.row 1 0 [false]).run [rL xs, i64 k] = some [rL (atI xs k)]) /\
  (∀ {xs : List Baz} {k : Int}, InB xs k -> (aO.row 5 0 [true, true, true, true, true]).run [rL xs, i64 k] = some [i64 (atI xs k).kind, i64 (atI xs k).id, i64 (atI xs k).src, i64 (atI xs k).dst, i64 (atI xs k).amt]) /\
  (∀ {xs : List bH} {k : Int}, InB xs k -> (aO.row 10 0 [true, true, true, true, true, true, true, true, true, false]).run [rL xs, i64 k] = some [i64 (atI xs k).ballot, i64 (atI xs k).vote, i64 (atI xs k).state, i64 (atI xs k).cmd.kind, i64 (atI xs k).cmd.id, i64 (atI xs k).cmd.src, i64 (atI xs k).cmd.dst, i64 (atI xs k).cmd.amt, i64 (atI xs k).attr.seq, rL (atI xs k).attr.deps]) /\
  (∀ {xs : List bH} {k : Int}, InB xs k -> (aO.row 10 0 [true]).run [rL xs, i64 k] = some [i64 (atI xs k).ballot]) /\
  (∀ {xs : List bH} {k : Int}, InB xs k -> (aO.row 10 1 [true]).run [rL xs, i64 k] = some [i64 (atI xs k).vote]) /\
  (∀ {xs : List bH} {k : Int}, InB xs k -> (aO.row 10 2 [true]).run [rL xs, i64 k] = some [i64 (atI xs k).state]) /\
  (∀ {xs : List bH} {k : Int}, InB xs k -> (aO.row 10 3 [true, true, true, true, true]).run [rL xs, i64 k] = some [i64 (atI xs k).cmd.kind, i64 (atI xs k).cmd.id, i64 (atI xs k).cmd.src, i64 (atI xs k).cmd.dst, i64 (atI xs k).cmd.amt]) /\
  (∀ {xs : List bH} {k : Int}, InB xs k -> (aO.row 10 3 [true]).run [rL xs, i64 k] = some [i64 (atI xs k).cmd.kind]) /\
  (∀ {xs : List bH} {k : Int}, InB xs k -> (aO.row 10 4 [true]).run [rL xs, i64 k] = some [i64 (atI xs k).cmd.id]) /\
  (∀ {xs : List bH} {k : Int}, InB xs k -> (aO.row 10 5 [true]).run [rL xs, i64 k] = some [i64 (atI xs k).cmd.src]) /\
  (∀ {xs : List bH} {k : Int}, InB xs k -> (aO.row 10 6 [true]).run [rL xs, i64 k] = some [i64 (atI xs k).cmd.dst]) /\
  (∀ {xs : List bH} {k : Int}, InB xs k -> (aO.row 10 7 [true]).run [rL xs, i64 k] = some [i64 (atI xs k).cmd.amt]) /\
  (∀ {xs : List bH} {k : Int}, InB xs k -> (aO.row 10 8 [true, false]).run [rL xs, i64 k] = some [i64 (atI xs k).attr.seq, rL (atI xs k).attr.deps]) /\
  (∀ {xs : List bH} {k : Int}, InB xs k -> (aO.row 10 8 [true]).run [rL xs, i64 k] = some [i64 (atI xs k).attr.seq]) /\
  (∀ {xs : List bH} {k : Int}, InB xs k -> (aO.row 10 9 [false]).run [rL xs, i64 k] = some [rL (atI xs k).attr.deps]) /\
  (∀ {xs : List aL} {k : Int}, InB xs k -> (aO.row 2 0 [true]).run [rL xs, i64 k] = some [i64 (atI xs k).n]) :=
 ⟨fun h => (iX rfl h),
  fun h => (iX rfl h),
  fun h => (iX rfl h),
  fun h => (iX rfl h),
  fun h => (iX rfl h),
  fun h => (iX rfl h),
  fun h => (iX rfl h),
  fun h => (iX rfl h),
  fun h => (iX rfl h),
  fun h => (iX rfl h),
  fun h => (iX rfl h),
  fun h => (iX rfl h),
  fun h => (iX rfl h),
  fun h => (iX rfl h),
  fun h => (iX rfl h),
  fun h => (iX rfl h),
  fun h => (iX rfl h),
  fun h => (iX rfl h),
  fun h => (iX rfl h),
  fun h => (iX rfl h)⟩
theorem Daa : (∀ {xs : List Int} {k : Int} {v : Int}, InB xs k -> (aO.set 1 0 1).run [rL xs, i64 k, i64 v] = some [rL (fI xs k v)]) /\
  (∀ {xs : List (List UInt8)} {k : Int} {v : (List UInt8)}, InB xs k -> (aO.set 1 0 1).run [rL xs, i64 k, .str v] = some [rL (fI xs k v)]) /\
  (∀ {xs : List (List Int)} {k : Int} {v : (List Int)}, InB xs k -> (aO.set 1 0 1).run [rL xs, i64 k, rL v] = some [rL (fI xs k v)]) /\
  (∀ {xs : List (List bH)} {k : Int} {v : (List bH)}, InB xs k -> (aO.set 1 0 1).run [rL xs, i64 k, rL v] = some [rL (fI xs k v)]) /\
  (∀ {xs : List (List (List Int))} {k : Int} {v : (List (List Int))}, InB xs k -> (aO.set 1 0 1).run [rL xs, i64 k, rL v] = some [rL (fI xs k v)]) /\
  (∀ {xs : List bH} {k : Int} {v : Int}, InB xs k -> (aO.set 10 0 1).run [rL xs, i64 k, i64 v] = some [rL (fI xs k { (atI xs k) with ballot := v })]) /\
  (∀ {xs : List bH} {k : Int} {v_ballot v_vote v_state v_cmd_kind v_cmd_id v_cmd_src v_cmd_dst v_cmd_amt v_attr_seq : Int} {v_attr_deps : (List Int)}, InB xs k -> (aO.set 10 0 10).run [rL xs, i64 k, i64 v_ballot, i64 v_vote, i64 v_state, i64 v_cmd_kind, i64 v_cmd_id, i64 v_cmd_src, i64 v_cmd_dst, i64 v_cmd_amt, i64 v_attr_seq, rL v_attr_deps] = some [rL (fI xs k ⟨v_ballot, v_vote, v_state, ⟨v_cmd_kind, v_cmd_id, v_cmd_src, v_cmd_dst, v_cmd_amt⟩, ⟨v_attr_seq, v_attr_deps⟩⟩)]) /\
  (∀ {xs : List bH} {k : Int} {v : Int}, InB xs k -> (aO.set 10 1 1).run [rL xs, i64 k, i64 v] = some [rL (fI xs k { (atI xs k) with vote := v })]) /\
  (∀ {xs : List bH} {k : Int} {v : Int}, InB xs k -> (aO.set 10 2 1).run [rL xs, i64 k, i64 v] = some [rL (fI xs k { (atI xs k) with state := v })]) /\
  (∀ {xs : List bH} {k : Int} {v : Int}, InB xs k -> (aO.set 10 3 1).run [rL xs, i64 k, i64 v] = some [rL (fI xs k { (atI xs k) with cmd := { (atI xs k).cmd with kind := v } })]) /\
  (∀ {xs : List bH} {k : Int} {v : Int}, InB xs k -> (aO.set 10 4 1).run [rL xs, i64 k, i64 v] = some [rL (fI xs k { (atI xs k) with cmd := { (atI xs k).cmd with id := v } })]) /\
  (∀ {xs : List bH} {k : Int} {v : Int}, InB xs k -> (aO.set 10 5 1).run [rL xs, i64 k, i64 v] = some [rL (fI xs k { (atI xs k) with cmd := { (atI xs k).cmd with src := v } })]) /\
  (∀ {xs : List bH} {k : Int} {v : Int}, InB xs k -> (aO.set 10 6 1).run [rL xs, i64 k, i64 v] = some [rL (fI xs k { (atI xs k) with cmd := { (atI xs k).cmd with dst := v } })]) /\
  (∀ {xs : List bH} {k : Int} {v : Int}, InB xs k -> (aO.set 10 7 1).run [rL xs, i64 k, i64 v] = some [rL (fI xs k { (atI xs k) with cmd := { (atI xs k).cmd with amt := v } })]) /\
  (∀ {xs : List bH} {k : Int} {v : Int}, InB xs k -> (aO.set 10 8 1).run [rL xs, i64 k, i64 v] = some [rL (fI xs k { (atI xs k) with attr := { (atI xs k).attr with seq := v } })]) /\
  (∀ {xs : List bH} {k : Int} {v : (List Int)}, InB xs k -> (aO.set 10 9 1).run [rL xs, i64 k, rL v] = some [rL (fI xs k { (atI xs k) with attr := { (atI xs k).attr with deps := v } })]) /\
  (∀ {xs : List aL} {k : Int} {v : Int}, InB xs k -> (aO.set 2 0 1).run [rL xs, i64 k, i64 v] = some [rL (fI xs k { (atI xs k) with n := v })]) /\
  (∀ {xs : List aL} {k : Int} {v_n : Int} {v_rows : (List (List bH))}, InB xs k -> (aO.set 2 0 2).run [rL xs, i64 k, i64 v_n, rL v_rows] = some [rL (fI xs k ⟨v_n, v_rows⟩)]) /\
  (∀ {xs : List aL} {k : Int} {v : (List (List bH))}, InB xs k -> (aO.set 2 1 1).run [rL xs, i64 k, rL v] = some [rL (fI xs k { (atI xs k) with rows := v })]) :=
 ⟨fun h => (jP rfl rfl (by decide) rfl h),
  fun h => (jP rfl rfl (by decide) rfl h),
  fun h => (jP rfl rfl (by decide) rfl h),
  fun h => (jP rfl rfl (by decide) rfl h),
  fun h => (jP rfl rfl (by decide) rfl h),
  fun h => (jP rfl rfl (by decide) rfl h),
  fun h => (jP rfl rfl (by decide) rfl h),
  fun h => (jP rfl rfl (by decide) rfl h),
  fun h => (jP rfl rfl (by decide) rfl h),
  fun h => (jP rfl rfl (by decide) rfl h),
  fun h => (jP rfl rfl (by decide) rfl h),
  fun h => (jP rfl rfl (by decide) rfl h),
  fun h => (jP rfl rfl (by decide) rfl h),
  fun h => (jP rfl rfl (by decide) rfl h),
  fun h => (jP rfl rfl (by decide) rfl h),
  fun h => (jP rfl rfl (by decide) rfl h),
  fun h => (jP rfl rfl (by decide) rfl h),
  fun h => (jP rfl rfl (by decide) rfl h),
  fun h => (jP rfl rfl (by decide) rfl h)⟩
theorem oL : (∀ {v0 : Int}, (aO.mk 1 1).run [i64 v0] = some [rL [v0]]) /\
  (∀ {v0 v1 : Int}, (aO.mk 1 2).run [i64 v0, i64 v1] = some [rL [v0, v1]]) /\
  (∀ {v0 v1 v2 : Int}, (aO.mk 1 3).run [i64 v0, i64 v1, i64 v2] = some [rL [v0, v1, v2]]) /\
  (∀ {v0 v1 v2 v3 : Int}, (aO.mk 1 4).run [i64 v0, i64 v1, i64 v2, i64 v3] = some [rL [v0, v1, v2, v3]]) /\
  (∀ {v0 v1 v2 v3 v4 : Int}, (aO.mk 1 5).run [i64 v0, i64 v1, i64 v2, i64 v3, i64 v4] = some [rL [v0, v1, v2, v3, v4]]) /\
  (∀ {v0 v1 v2 v3 v4 v5 v6 : Int}, (aO.mk 1 7).run [i64 v0, i64 v1, i64 v2, i64 v3, i64 v4, i64 v5, i64 v6] = some [rL [v0, v1, v2, v3, v4, v5, v6]]) /\
  (∀ {v0 v1 v2 v3 v4 v5 v6 v7 : Int}, (aO.mk 1 8).run [i64 v0, i64 v1, i64 v2, i64 v3, i64 v4, i64 v5, i64 v6, i64 v7] = some [rL [v0, v1, v2, v3, v4, v5, v6, v7]]) /\
  (∀ {v0 v1 v2 v3 v4 v5 v6 v7 v8 : Int}, (aO.mk 1 9).run [i64 v0, i64 v1, i64 v2, i64 v3, i64 v4, i64 v5, i64 v6, i64 v7, i64 v8] = some [rL [v0, v1, v2, v3, v4, v5, v6, v7, v8]]) /\
  (∀ {v0 : (List UInt8)}, (aO.mk 1 1).run [.str v0] = some [rL [v0]]) /\
  (∀ {v0 v1 : (List UInt8)}, (aO.mk 1 2).run [.str v0, .str v1] = some [rL [v0, v1]]) /\
  (∀ {v0 v1 v2 : (List UInt8)}, (aO.mk 1 3).run [.str v0, .str v1, .str v2] = some [rL [v0, v1, v2]]) /\
  (∀ {v0 v1 v2 v3 : (List UInt8)}, (aO.mk 1 4).run [.str v0, .str v1, .str v2, .str v3] = some [rL [v0, v1, v2, v3]]) /\
  (∀ {v0 v1 v2 v3 v4 : (List UInt8)}, (aO.mk 1 5).run [.str v0, .str v1, .str v2, .str v3, .str v4] = some [rL [v0, v1, v2, v3, v4]]) /\
  (∀ {v0 v1 v2 v3 v4 v5 v6 : (List UInt8)}, (aO.mk 1 7).run [.str v0, .str v1, .str v2, .str v3, .str v4, .str v5, .str v6] = some [rL [v0, v1, v2, v3, v4, v5, v6]]) /\
  (∀ {v0 v1 v2 v3 v4 v5 v6 v7 : (List UInt8)}, (aO.mk 1 8).run [.str v0, .str v1, .str v2, .str v3, .str v4, .str v5, .str v6, .str v7] = some [rL [v0, v1, v2, v3, v4, v5, v6, v7]]) /\
  (∀ {v0 v1 v2 v3 v4 v5 v6 v7 v8 : (List UInt8)}, (aO.mk 1 9).run [.str v0, .str v1, .str v2, .str v3, .str v4, .str v5, .str v6, .str v7, .str v8] = some [rL [v0, v1, v2, v3, v4, v5, v6, v7, v8]]) /\
  (∀ {v0 : (List Int)}, (aO.mk 1 1).run [rL v0] = some [rL [v0]]) /\
  (∀ {v0 : (List bH)}, (aO.mk 1 1).run [rL v0] = some [rL [v0]]) /\
  (∀ {v0 : (List (List Int))}, (aO.mk 1 1).run [rL v0] = some [rL [v0]]) /\
  (∀ {v_kind v_id v_src v_dst v_amt : Int}, (aO.mk 5 1).run [i64 v_kind, i64 v_id, i64 v_src, i64 v_dst, i64 v_amt] = some [rL [(⟨v_kind, v_id, v_src, v_dst, v_amt⟩ : Baz)]]) /\
  (∀ {v_ballot v_vote v_state v_cmd_kind v_cmd_id v_cmd_src v_cmd_dst v_cmd_amt v_attr_seq : Int} {v_attr_deps : (List Int)}, (aO.mk 10 1).run [i64 v_ballot, i64 v_vote, i64 v_state, i64 v_cmd_kind, i64 v_cmd_id, i64 v_cmd_src, i64 v_cmd_dst, i64 v_cmd_amt, i64 v_attr_seq, rL v_attr_deps] = some [rL [(⟨v_ballot, v_vote, v_state, ⟨v_cmd_kind, v_cmd_id, v_cmd_src, v_cmd_dst, v_cmd_amt⟩, ⟨v_attr_seq, v_attr_deps⟩⟩ : bH)]]) /\
  (∀ {v_n : Int} {v_rows : (List (List bH))}, (aO.mk 2 1).run [i64 v_n, rL v_rows] = some [rL [(⟨v_n, v_rows⟩ : aL)]]) :=
 ⟨rfl,
  rfl,
  rfl,
  rfl,
  rfl,
  rfl,
  rfl,
  rfl,
  rfl,
  rfl,
  rfl,
  rfl,
  rfl,
  rfl,
  rfl,
  rfl,
  rfl,
  rfl,
  rfl,
  (Uan rfl rfl),
  (Uan rfl rfl),
  (Uan rfl rfl)⟩
theorem Fa4 : (∀ {n : Int}, 0 <= n -> n <= 100000000000 -> (aO.make 8 [(.int .i64 0)]).run [i64 n] = some [rL (Nbg n.toNat (0 : Int))]) /\
  (∀ {n : Int}, 0 <= n -> n <= 100000000000 -> (aO.make 16 [(.str [])]).run [i64 n] = some [rL (Nbg n.toNat ([] : (List UInt8)))]) /\
  (∀ {n : Int}, 0 <= n -> n <= 100000000000 -> (aO.make 24 [(.rows 1 [])]).run [i64 n] = some [rL (Nbg n.toNat ([] : (List Int)))]) /\
  (∀ {n : Int}, 0 <= n -> n <= 100000000000 -> (aO.make 24 [(.rows 10 [])]).run [i64 n] = some [rL (Nbg n.toNat ([] : (List bH)))]) /\
  (∀ {n : Int}, 0 <= n -> n <= 100000000000 -> (aO.make 24 [(.rows 1 [])]).run [i64 n] = some [rL (Nbg n.toNat ([] : (List (List Int))))]) /\
  (∀ {n : Int}, 0 <= n -> n <= 100000000000 -> (aO.make 40 [(.int .i64 0), (.int .i64 0), (.int .i64 0), (.int .i64 0), (.int .i64 0)]).run [i64 n] = some [rL (Nbg n.toNat (default : Baz))]) /\
  (∀ {n : Int}, 0 <= n -> n <= 100000000000 -> (aO.make 96 [(.int .i64 0), (.int .i64 0), (.int .i64 0), (.int .i64 0), (.int .i64 0), (.int .i64 0), (.int .i64 0), (.int .i64 0), (.int .i64 0), (.rows 1 [])]).run [i64 n] = some [rL (Nbg n.toNat (default : bH))]) /\
  (∀ {n : Int}, 0 <= n -> n <= 100000000000 -> (aO.make 32 [(.int .i64 0), (.rows 1 [])]).run [i64 n] = some [rL (Nbg n.toNat (default : aL))]) :=
 ⟨fun h h2 => (qK rfl h (by unfold bV; omega)),
  fun h h2 => (qK rfl h (by unfold bV; omega)),
  fun h h2 => (qK rfl h (by unfold bV; omega)),
  fun h h2 => (qK rfl h (by unfold bV; omega)),
  fun h h2 => (qK rfl h (by unfold bV; omega)),
  fun h h2 => (qK rfl h (by unfold bV; omega)),
  fun h h2 => (qK rfl h (by unfold bV; omega)),
  fun h h2 => (qK rfl h (by unfold bV; omega))⟩
theorem fT : (∀ {xs ys : List Int}, xs.length + ys.length <= 100000000000 -> (aO.app 1 8 true).run [rL xs, rL ys] = some [rL (xs ++ ys)]) /\
  (∀ {ys : List Int}, ys.length <= 100000000000 -> (aO.app 1 8 true).run [.rows 1 [], rL ys] = some [rL ys]) /\
  (∀ {xs ys : List Int}, xs.length + ys.length <= 100000000000 -> (aO.app 1 8 false).run [rL xs, rL ys] = some [rL (xs ++ ys)]) /\
  (∀ {ys : List Int}, ys.length <= 100000000000 -> (aO.app 1 8 false).run [.rows 1 [], rL ys] = some [rL ys]) /\
  (∀ {xs ys : List (List UInt8)}, xs.length + ys.length <= 100000000000 -> (aO.app 1 16 true).run [rL xs, rL ys] = some [rL (xs ++ ys)]) /\
  (∀ {ys : List (List UInt8)}, ys.length <= 100000000000 -> (aO.app 1 16 true).run [.rows 1 [], rL ys] = some [rL ys]) /\
  (∀ {xs ys : List (List UInt8)}, xs.length + ys.length <= 100000000000 -> (aO.app 1 16 false).run [rL xs, rL ys] = some [rL (xs ++ ys)]) /\
  (∀ {ys : List (List UInt8)}, ys.length <= 100000000000 -> (aO.app 1 16 false).run [.rows 1 [], rL ys] = some [rL ys]) /\
  (∀ {xs ys : List (List Int)}, xs.length + ys.length <= 100000000000 -> (aO.app 1 24 false).run [rL xs, rL ys] = some [rL (xs ++ ys)]) /\
  (∀ {ys : List (List Int)}, ys.length <= 100000000000 -> (aO.app 1 24 false).run [.rows 1 [], rL ys] = some [rL ys]) /\
  (∀ {xs ys : List (List bH)}, xs.length + ys.length <= 100000000000 -> (aO.app 1 24 false).run [rL xs, rL ys] = some [rL (xs ++ ys)]) /\
  (∀ {ys : List (List bH)}, ys.length <= 100000000000 -> (aO.app 1 24 false).run [.rows 1 [], rL ys] = some [rL ys]) /\
  (∀ {xs ys : List (List (List Int))}, xs.length + ys.length <= 100000000000 -> (aO.app 1 24 false).run [rL xs, rL ys] = some [rL (xs ++ ys)]) /\
  (∀ {ys : List (List (List Int))}, ys.length <= 100000000000 -> (aO.app 1 24 false).run [.rows 1 [], rL ys] = some [rL ys]) /\
  (∀ {xs ys : List Baz}, xs.length + ys.length <= 100000000000 -> (aO.app 5 40 true).run [rL xs, rL ys] = some [rL (xs ++ ys)]) /\
  (∀ {ys : List Baz}, ys.length <= 100000000000 -> (aO.app 5 40 true).run [.rows 5 [], rL ys] = some [rL ys]) /\
  (∀ {xs ys : List Baz}, xs.length + ys.length <= 100000000000 -> (aO.app 5 40 false).run [rL xs, rL ys] = some [rL (xs ++ ys)]) /\
  (∀ {ys : List Baz}, ys.length <= 100000000000 -> (aO.app 5 40 false).run [.rows 5 [], rL ys] = some [rL ys]) /\
  (∀ {xs ys : List bH}, xs.length + ys.length <= 100000000000 -> (aO.app 10 96 false).run [rL xs, rL ys] = some [rL (xs ++ ys)]) /\
  (∀ {ys : List bH}, ys.length <= 100000000000 -> (aO.app 10 96 false).run [.rows 10 [], rL ys] = some [rL ys]) /\
  (∀ {xs ys : List aL}, xs.length + ys.length <= 100000000000 -> (aO.app 2 32 false).run [rL xs, rL ys] = some [rL (xs ++ ys)]) /\
  (∀ {ys : List aL}, ys.length <= 100000000000 -> (aO.app 2 32 false).run [.rows 2 [], rL ys] = some [rL ys]) :=
 ⟨fun h => (rZ rfl (fun _ _ => rfl) (by unfold bV; omega)),
  fun h => (mH rfl (fun _ _ => rfl) (by unfold bV; omega)),
  fun h => (rZ rfl (fun h => by cases h) (by unfold bV; omega)),
  fun h => (mH rfl (fun h => by cases h) (by unfold bV; omega)),
  fun h => (rZ rfl (fun _ _ => rfl) (by unfold bV; omega)),
  fun h => (mH rfl (fun _ _ => rfl) (by unfold bV; omega)),
  fun h => (rZ rfl (fun h => by cases h) (by unfold bV; omega)),
  fun h => (mH rfl (fun h => by cases h) (by unfold bV; omega)),
  fun h => (rZ rfl (fun h => by cases h) (by unfold bV; omega)),
  fun h => (mH rfl (fun h => by cases h) (by unfold bV; omega)),
  fun h => (rZ rfl (fun h => by cases h) (by unfold bV; omega)),
  fun h => (mH rfl (fun h => by cases h) (by unfold bV; omega)),
  fun h => (rZ rfl (fun h => by cases h) (by unfold bV; omega)),
  fun h => (mH rfl (fun h => by cases h) (by unfold bV; omega)),
  fun h => (rZ rfl (fun _ _ => rfl) (by unfold bV; omega)),
  fun h => (mH rfl (fun _ _ => rfl) (by unfold bV; omega)),
  fun h => (rZ rfl (fun h => by cases h) (by unfold bV; omega)),
  fun h => (mH rfl (fun h => by cases h) (by unfold bV; omega)),
  fun h => (rZ rfl (fun h => by cases h) (by unfold bV; omega)),
  fun h => (mH rfl (fun h => by cases h) (by unfold bV; omega)),
  fun h => (rZ rfl (fun h => by cases h) (by unfold bV; omega)),
  fun h => (mH rfl (fun h => by cases h) (by unfold bV; omega))⟩
theorem Nas : (∀ {xs : List Int} {lo hi : Int}, 0 <= lo -> lo <= hi -> hi <= xs.length -> (aO.sub 1 true).run [rL xs, i64 lo, i64 hi] = some [rL ((xs.take hi.toNat).drop lo.toNat)]) /\
  (∀ {xs : List Int} {lo hi : Int}, 0 <= lo -> lo <= hi -> hi <= xs.length -> (aO.sub 1 false).run [rL xs, i64 lo, i64 hi] = some [rL ((xs.take hi.toNat).drop lo.toNat)]) /\
  (∀ {xs : List (List UInt8)} {lo hi : Int}, 0 <= lo -> lo <= hi -> hi <= xs.length -> (aO.sub 1 true).run [rL xs, i64 lo, i64 hi] = some [rL ((xs.take hi.toNat).drop lo.toNat)]) /\
  (∀ {xs : List (List UInt8)} {lo hi : Int}, 0 <= lo -> lo <= hi -> hi <= xs.length -> (aO.sub 1 false).run [rL xs, i64 lo, i64 hi] = some [rL ((xs.take hi.toNat).drop lo.toNat)]) /\
  (∀ {xs : List (List Int)} {lo hi : Int}, 0 <= lo -> lo <= hi -> hi <= xs.length -> (aO.sub 1 false).run [rL xs, i64 lo, i64 hi] = some [rL ((xs.take hi.toNat).drop lo.toNat)]) /\
  (∀ {xs : List (List bH)} {lo hi : Int}, 0 <= lo -> lo <= hi -> hi <= xs.length -> (aO.sub 1 false).run [rL xs, i64 lo, i64 hi] = some [rL ((xs.take hi.toNat).drop lo.toNat)]) /\
  (∀ {xs : List (List (List Int))} {lo hi : Int}, 0 <= lo -> lo <= hi -> hi <= xs.length -> (aO.sub 1 false).run [rL xs, i64 lo, i64 hi] = some [rL ((xs.take hi.toNat).drop lo.toNat)]) /\
  (∀ {xs : List Baz} {lo hi : Int}, 0 <= lo -> lo <= hi -> hi <= xs.length -> (aO.sub 5 true).run [rL xs, i64 lo, i64 hi] = some [rL ((xs.take hi.toNat).drop lo.toNat)]) /\
  (∀ {xs : List Baz} {lo hi : Int}, 0 <= lo -> lo <= hi -> hi <= xs.length -> (aO.sub 5 false).run [rL xs, i64 lo, i64 hi] = some [rL ((xs.take hi.toNat).drop lo.toNat)]) /\
  (∀ {xs : List bH} {lo hi : Int}, 0 <= lo -> lo <= hi -> hi <= xs.length -> (aO.sub 10 false).run [rL xs, i64 lo, i64 hi] = some [rL ((xs.take hi.toNat).drop lo.toNat)]) /\
  (∀ {xs : List aL} {lo hi : Int}, 0 <= lo -> lo <= hi -> hi <= xs.length -> (aO.sub 2 false).run [rL xs, i64 lo, i64 hi] = some [rL ((xs.take hi.toNat).drop lo.toNat)]) :=
 ⟨fun h0 h1 h2 => (tT rfl (fun _ _ => rfl) h0 h1 h2),
  fun h0 h1 h2 => (tT rfl (fun h => by cases h) h0 h1 h2),
  fun h0 h1 h2 => (tT rfl (fun _ _ => rfl) h0 h1 h2),
  fun h0 h1 h2 => (tT rfl (fun h => by cases h) h0 h1 h2),
  fun h0 h1 h2 => (tT rfl (fun h => by cases h) h0 h1 h2),
  fun h0 h1 h2 => (tT rfl (fun h => by cases h) h0 h1 h2),
  fun h0 h1 h2 => (tT rfl (fun h => by cases h) h0 h1 h2),
  fun h0 h1 h2 => (tT rfl (fun _ _ => rfl) h0 h1 h2),
  fun h0 h1 h2 => (tT rfl (fun h => by cases h) h0 h1 h2),
  fun h0 h1 h2 => (tT rfl (fun h => by cases h) h0 h1 h2),
  fun h0 h1 h2 => (tT rfl (fun h => by cases h) h0 h1 h2)⟩
theorem Za9 : (∀ {a_kind a_id a_src a_dst a_amt b_kind b_id b_src b_dst b_amt : Int}, (aO.eqs [0, 0, 0, 0, 0]).run [i64 a_kind, i64 a_id, i64 a_src, i64 a_dst, i64 a_amt, i64 b_kind, i64 b_id, i64 b_src, i64 b_dst, i64 b_amt] = some [.bool (decide ((⟨a_kind, a_id, a_src, a_dst, a_amt⟩ : Baz) = ⟨b_kind, b_id, b_src, b_dst, b_amt⟩))]) :=
 (fun {a_kind a_id a_src a_dst a_amt b_kind b_id b_src b_dst b_amt} => Zae [a_kind, a_id, a_src, a_dst, a_amt] [b_kind, b_id, b_src, b_dst, b_amt] rfl (by simp [Baz.mk.injEq]))
end Go.Proofs.YtpgnlmfmlffjcaaGreat.Rf

namespace Go.Proofs.YtpgnlmfmlffjcaaGreat.Rf
set_option linter.unusedVariables false
set_option linter.unusedSimpArgs false
section
variable {T : Nat -> Ent} {β : Type} {α : Type} [Inhabited α]
inductive Rd1 (σ : Type) where
 | go (s : σ)
 | out (r : Kind × List D)
def xS {σ : Type} (f : Nat -> α -> σ -> Rd1 σ) : Nat -> List α -> σ -> Rd1 σ
 | _, [], s => .go s
 | i, x :: xs, s => match f i x s with
  | .go s' => xS f (i + 1) xs s'
  | .out r => .out r
def Lb8 {σ : Type} (vs : Int -> σ -> List D) (i : Int) : Rd1 σ -> Kind × List D
 | .go s => (.cont, vs (i + 1) s)
 | .out r => r
theorem Bb1 {σ : Type} {body : Tm β} {ρ : List D} {init : List aJ} (xs : List α) (vs : Int -> σ -> List D) (s0 : σ) (f : Nat -> α -> σ -> Rd1 σ) (inv : Nat -> σ -> Prop) (fin : σ -> Kind × List D)
  (h0 : init.map (·.val ρ) = vs 0 s0) (hi : inv 0 s0)
  (h1 : ∀ (i : Nat) s, i < xs.length -> inv i s -> Er T body (ρ ++ vs i s) = some (Lb8 vs i (f i (atI xs i) s)) /\ (∀ s', f i (atI xs i) s = .go s' -> inv (i + 1) s') /\ ∀ r, f i (atI xs i) s = .out r -> r.1 ≠ .cont)
  (h2 : ∀ s, inv xs.length s -> Er T body (ρ ++ vs xs.length s) = some (fin s) /\ (fin s).1 ≠ .cont) :
  ∃ r, Er T (.loop init body) ρ = some r /\ ((∃ s, xS f 0 xs s0 = .go s /\ inv xs.length s /\ r = fin s) \/ xS f 0 xs s0 = .out r) := by
 have key := La7 (T := T) (body := body) (ρ := ρ) (γ := Nat × σ) (fun c => xs.length - c.1) (fun c => c.1 <= xs.length /\ inv c.1 c.2 /\ xS f c.1 (xs.drop c.1) c.2 = xS f 0 xs s0) (fun c => vs (c.1 : Int) c.2)
  (fun r => (∃ s, xS f 0 xs s0 = .go s /\ inv xs.length s /\ r = fin s) \/ xS f 0 xs s0 = .out r)
  (fun ⟨i, s⟩ ⟨hle, hv, hf⟩ => by
   simp only at hle hv hf ⊢
   rcases Nbk i xs.length with hlt | hge
   ·obtain ⟨h3, h4, h5⟩ := h1 i s hlt hv
    have hd : xs.drop i = atI xs i :: xs.drop (i + 1) := by
     rw [Obs hlt, aY hlt]
    rw [hd, xS] at hf
    refine ⟨_, h3, ?_⟩
    cases e : f i (atI xs i) s with
    | go s' =>
     rw [e] at hf
     exact .inl ⟨rfl, (i + 1, s'), ⟨by simp only; omega, h4 s' e, hf⟩, by simp only; omega, rfl⟩
    | out r =>
     rw [e] at hf
     exact .inr ⟨h5 r e, .inr hf.symm⟩
   ·obtain rfl : i = xs.length := by omega
    obtain ⟨h3, h4⟩ := h2 s hv
    rw [List.drop_length, xS] at hf
    exact ⟨_, h3, .inr ⟨h4, .inl ⟨s, hf.symm, hv, rfl⟩⟩⟩)
  xs.length (0, s0) (by simp) ⟨by simp, hi, by simp⟩ init h0
 exact key
theorem Oal {body : Tm β} {ρ : List D} (j : Nat) (n : Nat) (p : Nat -> Bool) (r : List D)
  (h1 : ∀ i : Nat, i < n -> p i = true -> Er T body (ρ ++ [i64 i]) = some (.cont, [i64 ((i : Int) + 1)]))
  (h2 : ∀ i : Nat, i < n -> p i = false -> Er T body (ρ ++ [i64 i]) = some (.ret, r))
  (h3 : Er T body (ρ ++ [i64 n]) = some (.yield j, [])) :
  Er T (.loop [.c (i64 0)] body) ρ = iZ (Xaf p n) (some (.yield j, [])) (some (.ret, r)) := by
 have key := La7 (T := T) (body := body) (ρ := ρ) (fun i => n - i) (fun i => i <= n /\ ∀ j, j < i -> p j = true) (fun i => [i64 (i : Nat)])
  (fun q => (∀ j, j < n -> p j = true) /\ q = (.yield j, []) \/ (∃ j, j < n /\ p j = false) /\ q = (.ret, r))
  (fun i ⟨hi, hall⟩ => by
   rcases Nbk i n with hlt | hge
   ·cases e : p i with
    | true => exact ⟨_, h1 i hlt e, .inl ⟨rfl, i + 1, ⟨by omega, fun j hj => by
      rcases Nbk j i with h | h
      ·exact hall j h
      ·obtain rfl : j = i := by omega
       exact e⟩, by omega, rfl⟩⟩
    | false => exact ⟨_, h2 i hlt e, .inr ⟨by simp, .inr ⟨⟨i, hlt, e⟩, rfl⟩⟩⟩
   ·obtain rfl : i = n := by omega
    exact ⟨_, h3, .inr ⟨by simp, .inl ⟨hall, rfl⟩⟩⟩)
  n 0 (by omega) ⟨by omega, fun j hj => by omega⟩ [.c (i64 0)] (by simp [aJ.val])
 obtain ⟨q, h4, h5⟩ := key
 rw [h4]
 rcases h5 with ⟨h6, rfl⟩ | ⟨h6, rfl⟩
 ·rw [nI.2 h6]; rfl
 ·rw [Iah.2 h6]; rfl
theorem Za7 (xs : List α) (p : α -> Bool) : Xaf (fun i => p (atI xs i)) xs.length = xs.all p := by
 cases e : xs.all p with
 | true =>
  rw [Nbq] at e
  rw [nI]
  intro i hi
  rw [aY hi]
  exact e _ (Obz hi)
 | false =>
  rw [List.all_eq_false] at e
  obtain ⟨x, hx, hp⟩ := e
  obtain ⟨i, hi, rfl⟩ := List.getElem_of_mem hx
  exact Iah.2 ⟨i, hi, by rw [aY hi]; simpa using hp⟩
theorem Bay [DecidableEq α] {xs ys : List α} (hl : xs.length = ys.length) : Xaf (fun i => decide (atI xs i = atI ys i)) xs.length = decide (xs = ys) := by
 by_cases e : xs = ys
 ·subst e
  rw [decide_eq_true rfl, nI]
  exact fun i _ => decide_eq_true rfl
 ·rw [decide_eq_false e]
  cases h : Xaf (fun i => decide (atI xs i = atI ys i)) xs.length with
  | false => rfl
  | true =>
   rw [nI] at h
   refine absurd (List.ext_getElem hl fun i h1 h2 => ?_) e
   have := of_decide_eq_true (h i h1)
   rwa [aY h1, aY h2] at this
theorem Ha8 {xs ys : List α} [DecidableEq α] (h : ¬ xs.length = ys.length) : decide (xs = ys) = false := decide_eq_false fun e => h (by rw [e])
theorem Lbs {body : Tm β} {ρ : List D} (j : Nat) (xs : List α) (p : α -> Bool) (r : List D)
  (h1 : ∀ i : Nat, i < xs.length -> InB xs (i : Int) -> decide ((i : Int) < xs.length) = true -> p (atI xs i) = true -> Er T body (ρ ++ [i64 i]) = some (.cont, [i64 ((i : Int) + 1)]))
  (h2 : ∀ i : Nat, i < xs.length -> InB xs (i : Int) -> decide ((i : Int) < xs.length) = true -> p (atI xs i) = false -> Er T body (ρ ++ [i64 i]) = some (.ret, r))
  (h3 : decide ((xs.length : Int) < xs.length) = false -> Er T body (ρ ++ [i64 xs.length]) = some (.yield j, [])) :
  Er T (.loop [.c (i64 0)] body) ρ = iZ (xs.all p) (some (.yield j, [])) (some (.ret, r)) := by
 rw [Oal j xs.length (fun i => p (atI xs i)) r (fun i hi hp => h1 i hi (aM.2 hi) (by simp; omega) hp) (fun i hi hp => h2 i hi (aM.2 hi) (by simp; omega) hp) (h3 (by simp)), Za7]
theorem Lbt {body : Tm β} {ρ : List D} (j : Nat) (xs : List α) (p : α -> Bool) (r : List D)
  (h1 : ∀ i : Nat, i < xs.length -> InB xs (i : Int) -> decide ((i : Int) < xs.length) = true -> atI xs (i : Int) ∈ xs -> Er T body (ρ ++ [i64 i]) = iZ (p (atI xs i)) (some (.cont, [i64 ((i : Int) + 1)])) (some (.ret, r)))
  (h3 : decide ((xs.length : Int) < xs.length) = false -> Er T body (ρ ++ [i64 xs.length]) = some (.yield j, [])) :
  Er T (.loop [.c (i64 0)] body) ρ = iZ (xs.all p) (some (.yield j, [])) (some (.ret, r)) :=
 Lbs j xs p r (fun i hi hb hl hp => by rw [h1 i hi hb hl (by rw [aY hi]; exact Obz hi), hp]; rfl) (fun i hi hb hl hp => by rw [h1 i hi hb hl (by rw [aY hi]; exact Obz hi), hp]; rfl) h3
def ixF (p : α -> Bool) (xs : List α) : Int := match xs.findIdx? p with
 | some i => i
 | none => -1
omit [Inhabited α] in
theorem fO (p : α -> Bool) (xs : List α) : decide (0 <= ixF p xs) = xs.any p := by
 unfold ixF
 cases h : xs.findIdx? p with
 | none =>
  rw [List.findIdx?_eq_none_iff] at h
  have : xs.any p = false := by
   rw [List.any_eq_false]
   exact fun x hx => by simp [h x hx]
  rw [this]; rfl
 | some i =>
  have : xs.any p = true := by
   rw [List.findIdx?_eq_some_iff_getElem] at h
   obtain ⟨hi, hp, -⟩ := h
   rw [List.any_eq_true]
   exact ⟨_, Obz hi, hp⟩
  rw [this]; simp
theorem Gar {body : Tm β} {ρ : List D} (j : Nat) (xs : List α) (p : α -> Bool) (rf : Int -> List D)
  (h1 : ∀ i : Nat, i < xs.length -> InB xs (i : Int) -> decide ((i : Int) < xs.length) = true -> p (atI xs i) = true -> Er T body (ρ ++ [i64 i]) = some (.ret, rf i))
  (h2 : ∀ i : Nat, i < xs.length -> InB xs (i : Int) -> decide ((i : Int) < xs.length) = true -> p (atI xs i) = false -> Er T body (ρ ++ [i64 i]) = some (.cont, [i64 ((i : Int) + 1)]))
  (h3 : decide ((xs.length : Int) < xs.length) = false -> Er T body (ρ ++ [i64 xs.length]) = some (.yield j, [])) :
  Er T (.loop [.c (i64 0)] body) ρ = iZ (xs.any p) (some (.ret, rf (ixF p xs))) (some (.yield j, [])) := by
 have hall : ∀ (i : Nat) (ys : List α), xS (fun (i : Nat) x (_ : Unit) => if p x then Rd1.out (.ret, rf i) else .go ()) i ys () = match ys.findIdx? p with | some k => .out (.ret, rf ((i + k : Nat) : Int)) | none => .go () := by
  intro i ys
  induction ys generalizing i with
  | nil => rfl
  | cons y ys ih =>
   rw [xS, List.findIdx?_cons]
   cases p y with
   | true => simp
   | false =>
    simp only [Mb6, if_false]
    rw [ih (i + 1)]
    cases ys.findIdx? p with
    | none => rfl
    | some k => simp only [Nb3]; congr 4; omega
 obtain ⟨q, h4, h5⟩ := Bb1 (T := T) (body := body) (ρ := ρ) (init := [.c (i64 0)]) xs (fun i (_ : Unit) => [i64 i]) () (fun i x _ => if p x then .out (.ret, rf i) else .go ()) (fun _ _ => True) (fun _ => (.yield j, [])) rfl trivial
  (fun i _ hi _ => by
   cases e : p (atI xs i) with
   | true => exact ⟨by rw [h1 i hi (aM.2 hi) (by simp; omega) e]; rfl, fun _ _ => trivial, fun r h => by simp at h; rw [<- h]; simp⟩
   | false => exact ⟨by rw [h2 i hi (aM.2 hi) (by simp; omega) e]; rfl, fun _ _ => trivial, fun r h => by simp at h⟩)
  (fun _ _ => ⟨h3 (by simp), by simp⟩)
 rw [h4, <- fO]
 rw [hall] at h5
 unfold ixF
 cases e : xs.findIdx? p with
 | none =>
  rw [e] at h5
  rcases h5 with ⟨s, -, -, rfl⟩ | h5
  ·rfl
  ·simp at h5
 | some k =>
  rw [e] at h5
  rcases h5 with ⟨s, h5, -⟩ | h5
  ·simp at h5
  ·simp only [Nat.zero_add, Rd1.out.injEq] at h5
   rw [<- h5]
   simp [iZ]
theorem at_mem {xs : List α} {i : Nat} (h : i < xs.length) : atI xs (i : Int) ∈ xs := by rw [aY h]; exact Obz h
omit [Inhabited α] in
theorem iE {body : Tm β} {ρ : List D} {init : List aJ} (n : Nat) (vs : Nat -> List D) (r : Kind × List D) (h0 : init.map (·.val ρ) = vs 0) (hr : r.1 ≠ .cont)
  (h1 : ∀ i : Nat, i < n -> decide ((i : Int) < n) = true -> Er T body (ρ ++ vs i) = some (.cont, vs (i + 1)))
  (h2 : decide ((n : Int) < n) = false -> Er T body (ρ ++ vs n) = some r) : Er T (.loop init body) ρ = some r := by
 obtain ⟨q, h3, rfl⟩ := La7 (T := T) (body := body) (ρ := ρ) (fun i => n - i) (fun i => i <= n) vs (fun q => q = r)
  (fun i hi => by
   rcases Nbk i n with hlt | hge
   ·exact ⟨_, h1 i hlt (by simp; omega), .inl ⟨rfl, i + 1, by omega, by omega, rfl⟩⟩
   ·obtain rfl : i = n := by omega
    exact ⟨_, h2 (by simp), .inr ⟨hr, rfl⟩⟩) n 0 (by omega) (by omega) init h0
 exact h3
omit [Inhabited α] in
theorem Kar {γ : Type} {body : Tm β} {ρ : List D} {init : List aJ} (r : Kind × List D) (m : γ -> Nat) (inv : γ -> Prop) (vs : γ -> List D) (c0 : γ) (h0 : init.map (·.val ρ) = vs c0) (hi : inv c0) (hr : r.1 ≠ .cont)
  (h : ∀ c, inv c -> (∃ c', Er T body (ρ ++ vs c) = some (.cont, vs c') /\ inv c' /\ m c' < m c) \/ Er T body (ρ ++ vs c) = some r) : Er T (.loop init body) ρ = some r := by
 obtain ⟨q, h1, rfl⟩ := La7 (T := T) (body := body) (ρ := ρ) m inv vs (fun q => q = r)
  (fun c hc => by
   rcases h c hc with ⟨c', h2, h3, h4⟩ | h2
   ·exact ⟨_, h2, .inl ⟨rfl, c', h3, h4, rfl⟩⟩
   ·exact ⟨_, h2, .inr ⟨hr, rfl⟩⟩) (m c0) c0 (Nbd _) hi init h0
 exact h1
theorem Waa {σ : Type} {body : Tm β} {ρ : List D} {init : List aJ} (j : Nat) (xs : List α) (vs : Int -> σ -> List D) (s0 : σ) (f : σ -> α -> σ) (inv : Nat -> σ -> Prop) (out : σ -> List D)
  (h0 : init.map (·.val ρ) = vs 0 s0) (hi : inv 0 s0)
  (h1 : ∀ (i : Nat) s, i < xs.length -> InB xs (i : Int) -> decide ((i : Int) < xs.length) = true -> inv i s -> Er T body (ρ ++ vs i s) = some (.cont, vs ((i : Int) + 1) (f s (atI xs i))) /\ inv (i + 1) (f s (atI xs i)))
  (h2 : ∀ s, decide ((xs.length : Int) < xs.length) = false -> inv xs.length s -> Er T body (ρ ++ vs xs.length s) = some (.yield j, out s)) :
  Er T (.loop init body) ρ = some (.yield j, out (xs.foldl f s0)) /\ inv xs.length (xs.foldl f s0) := by
 have hall : ∀ i xs s, xS (fun (_ : Nat) (x : α) s => Rd1.go (f s x)) i xs s = .go (xs.foldl f s) := by
  intro i xs
  induction xs generalizing i with
  | nil => exact fun _ => rfl
  | cons x xs ih => exact fun s => ih (i + 1) _
 obtain ⟨q, h4, h5⟩ := Bb1 (T := T) (body := body) (ρ := ρ) (init := init) xs vs s0 (fun _ x s => .go (f s x)) inv (fun s => (.yield j, out s)) h0 hi
  (fun i s hl hv => by
   obtain ⟨h5, h6⟩ := h1 i s hl (aM.2 hl) (by simp; omega) hv
   exact ⟨h5, fun s' h => by simp only [Rd1.go.injEq] at h; rw [<- h]; exact h6, fun r h => by cases h⟩)
  (fun s hv => ⟨h2 s (by simp) hv, by simp⟩)
 rw [hall] at h5
 rcases h5 with ⟨s, h5, h6, rfl⟩ | h5
 ·simp only [Rd1.go.injEq] at h5
  subst h5
  exact ⟨h4, h6⟩
 ·cases h5
end
theorem take_at {α : Type} [Inhabited α] {xs : List α} {i : Nat} (h : i < xs.length) : xs.take i ++ [atI xs (i : Int)] = xs.take (i + 1) := by rw [Pbk h, aY h]
theorem Uae {α : Type} [Inhabited α] {xs : List α} {k : Int} (h : InB xs k) : fI xs k (atI xs k) = xs := by
 have h2 := h.lt
 unfold fI atI
 rw [Mb4, Mb0 h2]
 exact List.set_getElem_self h2
def Saw {α : Type} [Enc α] (xs : List (List α)) (k : Int) : D := .rows 1 ((xs.map Enc.enc).set k.toNat [.hole])
theorem Rak : (∀ {α : Type} [Enc α] {xs : List (List α)} {k : Int}, InB xs k -> (aO.set 1 0 1).run [rL xs, i64 k, .hole] = some [Saw xs k]) /\ (∀ {α : Type} [Enc α] {xs : List (List α)} {k j : Int}, InB xs j -> aO.inb.run [Saw xs k, i64 j] = some []) /\
  (∀ {α : Type} [Enc α] {xs : List (List α)} {k : Int} {l : List α}, InB xs k -> (aO.set 1 0 1).run [Saw xs k, i64 k, rL l] = some [rL (fI xs k l)]) := by
 refine ⟨?_, ?_, ?_⟩
 ·intro α _ xs k h
  have h2 := h.lt
  unfold InB at h
  have e : (xs.map Enc.enc)[k.toNat]? = some [rL xs[k.toNat]] := by rw [Nbn, Mb0 h2]; rfl
  show (if _ then _ else _) = _
  rw [if_pos ⟨rfl, h.1⟩, e]
  rfl
 ·intro α _ xs k j h
  unfold InB at h
  show (if _ then _ else _) = _
  rw [if_pos ⟨h.1, by simpa using h.2⟩]
 ·intro α _ xs k l h
  have h2 := h.lt
  unfold InB at h
  have e : ((xs.map Enc.enc).set k.toNat [.hole])[k.toNat]? = some [.hole] := by rw [List.getElem?_set_self (by simpa using h2)]
  show (if _ then _ else _) = _
  rw [if_pos ⟨rfl, h.1⟩, e]
  show some _ = _
  simp only [rL, fI, List.map_set, List.set_set]
  rfl
theorem SQ : (∀ {a b : Int}, -9223372036854775808 <= a + b -> a + b <= 9223372036854775807 -> (aO.bin .add).run [i64 a, i64 b] = some [i64 (a + b)]) /\
  (∀ {a b : Int}, -9223372036854775808 <= a - b -> a - b <= 9223372036854775807 -> (aO.bin .sub).run [i64 a, i64 b] = some [i64 (a - b)]) /\
  (∀ {a b : Int}, 0 <= a -> a <= 9223372036854775807 -> 0 < b -> (aO.bin .quo).run [i64 a, i64 b] = some [i64 (a / b)]) /\ (∀ {a b : Int}, 0 <= a -> 0 < b -> (aO.bin .rem).run [i64 a, i64 b] = some [i64 (a % b)]) :=
 ⟨Bbq, Oan, Yae, Yad⟩
end Go.Proofs.YtpgnlmfmlffjcaaGreat.Rf

namespace Go.Proofs.YtpgnlmfmlffjcaaGreat.Rf
set_option linter.unusedVariables false
set_option linter.unusedSimpArgs false
theorem sO : (∀ {α : Type} [Inhabited α] {xs : List α} {k : Int} {a : α}, InB xs k -> atI (fI xs k a) k = a) /\ (∀ {α : Type} {xs : List α} {k : Int} {a b : α}, fI (fI xs k a) k b = fI xs k b) /\
  (∀ {α : Type} {xs : List α} {j k : Int} {a : α}, InB (fI xs j a) k = InB xs k) /\ (∀ {α : Type} {xs : List α} {j : Int} {a : α}, (fI xs j a).length = xs.length) := by
 refine ⟨?_, ?_, ?_, ?_⟩
 ·intro α _ xs k a h
  have := h.lt
  rw [fI, atI, Mb4, List.getElem?_set_self this]; rfl
 ·intro α xs k a b
  rw [fI, fI, fI, List.set_set]
 ·intro α xs j k a
  unfold InB fI
  rw [Pbe]
 ·intro α xs j a
  exact Pbe ..
def szL {α : Type} (f : α -> Nat) (xs : List α) : Nat := xs.length + (xs.map f).sum
def szR (l : Int) (n : Nat) : Int := if (n : Int) <= l then l - n else -1
theorem Ias {α : Type} {f : α -> Nat} {x : α} {xs : List α} : szL f (x :: xs) = 1 + f x + szL f xs := by simp [szL]; omega
theorem jG {α : Type} {f : α -> Nat} : ∀ {xs : List α} {x : α}, x ∈ xs -> 1 + f x <= szL f xs
 | [], x, h => by cases h
 | y :: ys, x, h => by
  rw [Ias]
  rcases List.mem_cons.1 h with rfl | h
  ·omega
  ·have := jG (f := f) h
   omega
theorem nP {α : Type} {xs : List α} : szL (fun _ => 0) xs = xs.length := by
 have : ∀ xs : List α, (xs.map fun _ => 0).sum = 0 := fun xs => by
  induction xs with
  | nil => rfl
  | cons x xs ih => simp only [Nbm, List.sum_cons, ih]
 rw [szL, this]; rfl
theorem jH {α : Type} {f : α -> Nat} {xs : List α} : xs.length <= szL f xs := by unfold szL; omega
section
variable {T : Nat -> Ent} {β : Type} {α : Type} [Inhabited α]
theorem Abg {body : Tm β} {ρ : List D} {a : aJ} (xs : List α) (f : α -> Nat) (l : Int) (h0 : a.val ρ = i64 l) (hl : 0 <= l) (hl' : l <= 1048576)
  (h1 : ∀ (i : Nat) (m : Int), i < xs.length -> InB xs (i : Int) -> decide ((i : Int) < xs.length) = true -> 0 <= m -> m <= 1048576 -> (f (atI xs i) : Int) <= m -> szR m (f (atI xs i)) = m - f (atI xs i) -> decide (m - (f (atI xs i) : Int) < 0) = false -> Er T body (ρ ++ [i64 m, i64 i]) = some (.cont, [i64 (m - f (atI xs i)), i64 ((i : Int) + 1)]))
  (h2 : ∀ (i : Nat) (m : Int), i < xs.length -> InB xs (i : Int) -> decide ((i : Int) < xs.length) = true -> 0 <= m -> m <= 1048576 -> m < f (atI xs i) -> szR m (f (atI xs i)) = -1 -> decide ((-1 : Int) < 0) = true -> Er T body (ρ ++ [i64 m, i64 i]) = some (.ret, [i64 (-1)]))
  (h3 : ∀ m : Int, decide ((xs.length : Int) < xs.length) = false -> Er T body (ρ ++ [i64 m, i64 xs.length]) = some (.yield 1, [i64 m])) :
  Er T (.loop [a, .c (i64 0)] body) ρ = iZ (decide (((xs.map f).sum : Int) <= l)) (some (.yield 1, [i64 (l - (xs.map f).sum)])) (some (.ret, [i64 (-1)])) := by
 have hall : ∀ (ys : List α) (i : Nat) (m : Int), 0 <= m -> xS (fun (_ : Nat) x (m : Int) => if (f x : Int) <= m then Rd1.go (m - f x) else .out (.ret, [i64 (-1)])) i ys m = if ((ys.map f).sum : Int) <= m then .go (m - (ys.map f).sum) else .out (.ret, [i64 (-1)]) := by
  intro ys
  induction ys with
  | nil =>
   intro i m hm
   simp only [xS, List.map_nil, List.sum_nil]
   rw [if_pos (by simpa using hm)]
   simp
  | cons y ys ih =>
   intro i m hm
   simp only [xS, Nbm, List.sum_cons]
   by_cases h : (f y : Int) <= m
   ·rw [if_pos h]
    simp only
    rw [ih (i + 1) _ (by omega)]
    by_cases h4 : ((ys.map f).sum : Int) <= m - f y
    ·rw [if_pos h4, if_pos (by omega)]
     congr 1
     omega
    ·rw [if_neg h4, if_neg (by omega)]
   ·rw [if_neg h]
    simp only
    rw [if_neg (by omega)]
 obtain ⟨q, h4, h5⟩ := Bb1 (T := T) (body := body) (ρ := ρ) (init := [a, .c (i64 0)]) xs (fun i (m : Int) => [i64 m, i64 i]) l (fun _ x m => if (f x : Int) <= m then .go (m - f x) else .out (.ret, [i64 (-1)])) (fun _ m => 0 <= m /\ m <= 1048576) (fun m => (.yield 1, [i64 m])) (by show [a.val ρ, _] = _; rw [h0]; rfl) ⟨hl, hl'⟩
  (fun i m hi hm => by
   by_cases e : (f (atI xs i) : Int) <= m
   ·rw [if_pos e]
    refine ⟨h1 i m hi (aM.2 hi) (by simp; omega) hm.1 hm.2 e (by rw [szR, if_pos e]) (by simp; omega), fun s' h => ?_, fun r h => by cases h⟩
    simp only [Rd1.go.injEq] at h
    omega
   ·rw [if_neg e]
    refine ⟨h2 i m hi (aM.2 hi) (by simp; omega) hm.1 hm.2 (by omega) (by rw [szR, if_neg e]) rfl, fun s' h => by simp at h, fun r h => ?_⟩
    simp only [Rd1.out.injEq] at h
    rw [<- h]; simp)
  (fun m hm => ⟨h3 m (by simp), by simp⟩)
 rw [h4]
 rw [hall xs 0 l hl] at h5
 by_cases h : ((xs.map f).sum : Int) <= l
 ·rw [if_pos h] at h5
  rw [decide_eq_true h]
  rcases h5 with ⟨s, h5, -, rfl⟩ | h5
  ·simp only [Rd1.go.injEq] at h5
   rw [<- h5]; rfl
  ·cases h5
 ·rw [if_neg h] at h5
  rw [decide_eq_false h]
  rcases h5 with ⟨s, h5, -⟩ | h5
  ·cases h5
  ·simp only [Rd1.out.injEq] at h5
   rw [<- h5]; rfl
theorem Tax {body : Tm β} {ρ : List D} {a : aJ} [Enc α] (xs : List α) (h0 : a.val ρ = rL (Nbg xs.length (default : α)))
  (h1 : ∀ (i : Nat) (ys : List α), i < xs.length -> InB xs (i : Int) -> InB ys (i : Int) -> decide ((i : Int) < xs.length) = true -> Er T body (ρ ++ [rL ys, i64 i]) = some (.cont, [rL (fI ys i (atI xs i)), i64 ((i : Int) + 1)]))
  (h2 : ∀ ys : List α, decide ((xs.length : Int) < xs.length) = false -> Er T body (ρ ++ [rL ys, i64 xs.length]) = some (.yield 1, [rL ys])) :
  Er T (.loop [a, .c (i64 0)] body) ρ = some (.yield 1, [rL xs]) := by
 have key := La7 (T := T) (body := body) (ρ := ρ) (fun i => xs.length - i) (fun i => i <= xs.length) (fun i => [rL (upto default xs i), i64 (i : Nat)]) (fun q => q = (.yield 1, [rL xs]))
  (fun i hi => by
   rcases Nbk i xs.length with hlt | hge
   ·refine ⟨_, h1 i (upto default xs i) hlt (aM.2 hlt) (aM.2 (by rw [Pay _ _ hi]; exact hlt)) (by simp; omega), .inl ⟨rfl, i + 1, by omega, by omega, ?_⟩⟩
    have : fI (upto default xs i) (i : Int) (atI xs i) = upto default xs (i + 1) := by
     rw [fI]
     exact Pax default xs (by rw [aY hlt]; exact Mb0 hlt)
    rw [this]; simp
   ·obtain rfl : i = xs.length := by omega
    refine ⟨_, h2 _ (by simp), .inr ⟨by simp, ?_⟩⟩
    rw [Paz])
  xs.length 0 (by omega) (by omega) [a, .c (i64 0)] (by show [a.val ρ, _] = _; rw [h0, Kat]; rfl)
 obtain ⟨q, h4, rfl⟩ := key
 exact h4
def mkL {α : Type} (c : α -> Nat) (f : α -> Int -> α) : List α -> Int -> List α
 | [], _ => []
 | x :: xs, k => f x k :: mkL c f xs (k + c x)
def ctL {α : Type} (c : α -> Nat) (xs : List α) : Nat := (xs.map c).sum
theorem mK {α : Type} {c : α -> Nat} {f : α -> Int -> α} : ∀ {xs : List α} {k : Int}, (mkL c f xs k).length = xs.length
 | [], _ => rfl
 | x :: xs, k => by simp [mkL, mK]
theorem Ua3 {c : α -> Nat} {f : α -> Int -> α} : ∀ {xs : List α} {k : Int} {i : Nat}, i < xs.length -> atI (mkL c f xs k) (i : Int) = f (atI xs i) (k + ctL c (xs.take i))
 | x :: xs, k, 0, h => by simp [mkL, atI, ctL]
 | x :: xs, k, i + 1, h => by
  have ih := Ua3 (c := c) (f := f) (xs := xs) (k := k + c x) (i := i) (by simpa using h)
  rw [mkL, uW, uW, List.getD_cons_succ, List.getD_cons_succ, <- uW, ih, <- uW]
  congr 1
  simp only [ctL, List.take_succ_cons, Nbm, List.sum_cons]
  omega
theorem Ja6 {c : α -> Nat} {xs : List α} {i : Nat} (h : i < xs.length) : ctL c (xs.take (i + 1)) = ctL c (xs.take i) + c (atI xs i) := by
 rw [Pbk h, aY h]
 unfold ctL
 rw [Obo, List.sum_append]
 simp
omit [Inhabited α] in
theorem Far {c : α -> Nat} : ∀ {xs : List α} {i : Nat}, ctL c (xs.take i) <= ctL c xs
 | [], i => by simp
 | x :: xs, 0 => by simp [ctL]
 | x :: xs, i + 1 => by
  have := Far (c := c) (xs := xs) (i := i)
  simp only [ctL, List.take_succ_cons, Nbm, List.sum_cons] at this ⊢
  omega
theorem Iab {c : α -> Nat} {xs : List α} {i : Nat} (h : i < xs.length) : ctL c (xs.take i) + c (atI xs i) <= ctL c xs := by
 rw [<- Ja6 h]; exact Far
def upM (c : α -> Nat) (f : α -> Int -> α) (xs : List α) (k : Int) (i : Nat) : List α := (mkL c f xs k).take i ++ xs.drop i
omit [Inhabited α] in
theorem Iar {c : α -> Nat} {f : α -> Int -> α} {xs : List α} {k : Int} {i : Nat} (h : i <= xs.length) : (upM c f xs k i).length = xs.length := by
 simp [upM, mK]; omega
theorem Dbr {c : α -> Nat} {f : α -> Int -> α} {xs : List α} {k : Int} {i : Nat} (h : i < xs.length) : atI (upM c f xs k i) (i : Int) = atI xs i := by
 rw [aY (by rw [Iar (by omega)]; exact h), aY h]
 unfold upM
 rw [List.getElem_append_right (by simp [mK]; omega)]
 simp [mK, Nat.min_eq_left (Nat.le_of_lt h)]
theorem Ab7 {c : α -> Nat} {f : α -> Int -> α} {xs : List α} {k : Int} {i : Nat} (h : i < xs.length) : fI (upM c f xs k i) (i : Int) (f (atI xs i) (k + ctL c (xs.take i))) = upM c f xs k (i + 1) := by
 have hm : i < (mkL c f xs k).length := by rw [mK]; exact h
 unfold upM fI
 rw [Int.toNat_natCast, List.set_append_right _ _ (by simp [mK]; omega), Pbk hm, List.append_assoc]
 congr 1
 have e : i - ((mkL c f xs k).take i).length = 0 := by simp [mK]; omega
 rw [e, Obs h, List.set_cons_zero]
 have := Ua3 (c := c) (f := f) (k := k) h
 rw [aY hm] at this
 rw [this]; rfl
theorem Dak {body : Tm β} {ρ : List D} {a b d : aJ} [Enc α] (xs : List α) (c : α -> Nat) (f : α -> Int -> α) (k : Int) (h0 : a.val ρ = rL xs) (h0' : b.val ρ = i64 k) (hd : d.val ρ = .undef) (hk : 0 <= k) (hb : k + ctL c xs <= 1152921504606846976)
  (h1 : ∀ (i : Nat) (ys : List α) (m : Int), i < xs.length -> ys.length = xs.length -> InB ys (i : Int) -> decide ((i : Int) < xs.length) = true -> atI ys i = atI xs i -> 0 <= m -> m + c (atI xs i) <= 1152921504606846976 -> xs.length <= 1152921504606846976 -> Er T body (ρ ++ [rL ys, .undef, i64 m, i64 i]) = some (.cont, [rL (fI ys i (f (atI xs i) m)), .undef, i64 (m + c (atI xs i)), i64 ((i : Int) + 1)]))
  (h2 : ∀ (ys : List α) (m : Int), ys.length = xs.length -> decide ((xs.length : Int) < xs.length) = false -> Er T body (ρ ++ [rL ys, .undef, i64 m, i64 xs.length]) = some (.yield 1, [rL ys, i64 m])) (hlen : xs.length <= 1152921504606846976) :
  Er T (.loop [a, d, b, .c (i64 0)] body) ρ = some (.yield 1, [rL (mkL c f xs k), i64 (k + ctL c xs)]) := by
 have key := La7 (T := T) (body := body) (ρ := ρ) (fun i => xs.length - i) (fun i => i <= xs.length) (fun i => [rL (upM c f xs k i), .undef, i64 (k + ctL c (xs.take i)), i64 (i : Nat)]) (fun q => q = (.yield 1, [rL (mkL c f xs k), i64 (k + ctL c xs)]))
  (fun i hi => by
   rcases Nbk i xs.length with hlt | hge
   ·have h3 := Iab (c := c) hlt
    refine ⟨_, h1 i (upM c f xs k i) (k + ctL c (xs.take i)) hlt (Iar hi) (aM.2 (by rw [Iar hi]; exact hlt)) (by simp; omega) (Dbr hlt) (by omega) (by omega) hlen, .inl ⟨rfl, i + 1, by omega, by omega, ?_⟩⟩
    rw [Ab7 hlt, Ja6 hlt]
    simp only [Int.natCast_add, Int.add_assoc]; rfl
   ·obtain rfl : i = xs.length := by omega
    refine ⟨_, h2 _ _ (Iar hi) (by simp), .inr ⟨by simp, ?_⟩⟩
    have e : upM c f xs k xs.length = mkL c f xs k := by
     unfold upM
     rw [List.drop_length, Nbo, List.take_of_length_le (by rw [mK]; omega)]
    rw [e, Nb0])
  xs.length 0 (by omega) (by omega) [a, d, b, .c (i64 0)] (by show [a.val ρ, d.val ρ, b.val ρ, _] = _; rw [h0, h0', hd]; simp [upM, ctL, aJ.val])
 obtain ⟨q, h4, rfl⟩ := key
 exact h4
theorem Qaz {body : Tm β} {ρ : List D} {b : aJ} (xs : List α) (c : α -> Nat) (f : α -> Int -> α) (k : Int) (h0' : b.val ρ = i64 k) (hk : 0 <= k) (hb : k + ctL c xs <= 1152921504606846976) (hlen : xs.length <= 1152921504606846976)
  (h1 : ∀ (i : Nat) (m : Int), i < xs.length -> InB (mkL c f xs k) (i : Int) -> (mkL c f xs k).length = xs.length -> decide ((i : Int) < xs.length) = true -> atI (mkL c f xs k) i = f (atI xs i) m -> 0 <= m -> m + c (atI xs i) <= 1152921504606846976 -> xs.length <= 1152921504606846976 -> Er T body (ρ ++ [i64 m, i64 i]) = some (.cont, [i64 (m + c (atI xs i)), i64 ((i : Int) + 1)]))
  (h2 : ∀ m : Int, (mkL c f xs k).length = xs.length -> decide ((xs.length : Int) < xs.length) = false -> Er T body (ρ ++ [i64 m, i64 xs.length]) = some (.yield 1, [i64 m])) :
  Er T (.loop [b, .c (i64 0)] body) ρ = some (.yield 1, [i64 (k + ctL c xs)]) := by
 have key := La7 (T := T) (body := body) (ρ := ρ) (fun i => xs.length - i) (fun i => i <= xs.length) (fun i => [i64 (k + ctL c (xs.take i)), i64 (i : Nat)]) (fun q => q = (.yield 1, [i64 (k + ctL c xs)]))
  (fun i hi => by
   rcases Nbk i xs.length with hlt | hge
   ·have h3 := Iab (c := c) hlt
    refine ⟨_, h1 i (k + ctL c (xs.take i)) hlt (aM.2 (by rw [mK]; exact hlt)) mK (by simp; omega) (Ua3 hlt) (by omega) (by omega) hlen, .inl ⟨rfl, i + 1, by omega, by omega, ?_⟩⟩
    rw [Ja6 hlt]
    simp only [Int.natCast_add, Int.add_assoc]; rfl
   ·obtain rfl : i = xs.length := by omega
    refine ⟨_, h2 _ mK (by simp), .inr ⟨by simp, ?_⟩⟩
    rw [Nb0])
  xs.length 0 (by omega) (by omega) [b, .c (i64 0)] (by show [b.val ρ, _] = _; rw [h0']; simp [ctL, aJ.val])
 obtain ⟨q, h4, rfl⟩ := key
 exact h4
end
theorem Iaa {α : Type} {c f : α -> Nat} {m : Nat} (hm : 1 <= m) (h : ∀ x, c x <= m + m * f x) : ∀ xs : List α, ctL c xs <= m * szL f xs
 | [] => by simp [ctL]
 | x :: xs => by
  have ih := Iaa hm h xs
  have h1 := h x
  rw [Ias]
  simp only [ctL, Nbm, List.sum_cons] at ih ⊢
  rw [Nat.mul_add, Nat.mul_add]
  omega
theorem lt0 {k : Int} (h : 0 <= k) : decide (k < 0) = false := by simp; omega
theorem Lbo : decide ((-1 : Int) < 0) = true := rfl
theorem Cb0 {α : Type} [Enc α] {tys : List Ty} {bytes : Nat} {P : α -> Prop} {d : D} (hs : tys.length = Enc.sz α) (hd : ∀ ds, WTs tys ds -> ∃ a : α, ds = Enc.enc a /\ P a) (h : WT (.sl bytes tys) d) : ∃ xs : List α, d = rL xs /\ xs.length * bytes <= reachBytes /\ ∀ x ∈ xs, P x := by
 simp only [WT] at h
 obtain ⟨rs, rfl, h1, h2⟩ := h
 have key : ∀ rs : List (List D), (∀ r ∈ rs, WTs tys r) -> ∃ xs : List α, rs = xs.map Enc.enc /\ ∀ x ∈ xs, P x := by
  intro rs
  induction rs with
  | nil => exact fun _ => ⟨[], rfl, by simp⟩
  | cons r rs ih =>
   intro h
   obtain ⟨xs, hx, hp⟩ := ih fun r hr => h r (List.mem_cons_of_mem _ hr)
   obtain ⟨a, ha, hpa⟩ := hd r (h r List.mem_cons_self)
   exact ⟨a :: xs, by rw [hx, ha]; rfl, by simpa using ⟨hpa, hp⟩⟩
 obtain ⟨xs, rfl, hp⟩ := key rs h2
 exact ⟨xs, by rw [hs]; rfl, by simpa using h1, hp⟩
theorem uZ {d : D} (h : WT (.int .i64) d) : ∃ n : Int, d = i64 n /\ -9223372036854775808 <= n /\ n <= 9223372036854775807 := by
 obtain ⟨n, rfl, h1, h2⟩ := h
 exact ⟨n, rfl, h1, h2⟩
theorem Eaj {n b : Nat} (h : n * b <= reachBytes) (hb : 0 < b) : n <= reachBytes := Nb4 (Nat.le_mul_of_pos_right n hb) h
end Go.Proofs.YtpgnlmfmlffjcaaGreat.Rf

namespace Go.Proofs.YtpgnlmfmlffjcaaGreat.Rf
set_option linter.unusedVariables false
set_option linter.unusedSimpArgs false
theorem Cbo (ds : List D) (h : WTs [.int .i64] ds) : ∃ x : Int, ds = Enc.enc x /\ True := by
 simp only [WTs] at h
 obtain ⟨d, r, rfl, w, rfl⟩ := h
 obtain ⟨x, rfl, -, -⟩ := uZ w
 exact ⟨x, rfl, trivial⟩
def Pag (x : Baz) : Nat := 1 + 1 + 1 + 1 + 1
theorem Zas (x : Baz) : Pag x = 5 := by
 unfold Pag
 try omega
def dL (x : lG) : Nat := szL (fun _ => 0) x.deps
def Iao (x : lG) : Prop := (x.deps.length <= 140737488351232)
def Ja4 (x : lG) : Nat := 1 + ctL (fun _ => 1) x.deps
theorem Waz (x : lG) : Ja4 x = 1 + ctL (fun _ => 1) x.deps := by
 unfold Ja4
 try omega
theorem Ta2 (x : lG) : dL x = x.deps.length := by
 unfold dL
 simp only [nP]
 try omega
def aN (x : bH) : Nat := dL x.attr
def pX (x : bH) : Prop := (Iao x.attr)
def fC (x : bH) : Nat := 1 + 1 + 1 + Pag x.cmd + Ja4 x.attr
def Bad (x : bH) (k : Int) : bH := ⟨(k), (k + 1), (k + 1 + 1), ⟨(k + 1 + 1 + 1), (k + 1 + 1 + 1 + 1), (k + 1 + 1 + 1 + 1 + 1), (k + 1 + 1 + 1 + 1 + 1 + 1), (k + 1 + 1 + 1 + 1 + 1 + 1 + 1)⟩, ⟨(k + 1 + 1 + 1 + 1 + 1 + 1 + 1 + 1), (mkL (fun _ => 1) (fun _ k => k) x.attr.deps (k + 1 + 1 + 1 + 1 + 1 + 1 + 1 + 1 + 1))⟩⟩
theorem Ja3 (x : bH) : fC x = 9 + ctL (fun _ => 1) x.attr.deps := by
 unfold fC
 simp only [Zas]
 simp only [Waz]
 try omega
theorem Pa4 (x : bH) : aN x = x.attr.deps.length := by
 unfold aN
 simp only [nP, Ta2]
 try omega
theorem Zat (x : bH) : fC x <= 16 + 16 * aN x := by
 have h0 := Iaa (c := (fun _ => 1)) (f := (fun _ => 0)) (m := 16) (by omega) (fun _ => by simp) x.attr.deps
 rw [Ja3, Pa4]
 try simp only [nP] at *
 omega
theorem Zaq (ds : List D) (h : WTs [.int .i64, .int .i64, .int .i64, .int .i64, .int .i64, .int .i64, .int .i64, .int .i64, .int .i64, .sl 8 [.int .i64]] ds) : ∃ x : bH, ds = Enc.enc x /\ pX x := by
 simp only [WTs] at h
 obtain ⟨d0, r0, rfl, w0, d1, r1, rfl, w1, d2, r2, rfl, w2, d3, r3, rfl, w3, d4, r4, rfl, w4, d5, r5, rfl, w5, d6, r6, rfl, w6, d7, r7, rfl, w7, d8, r8, rfl, w8, d9, r9, rfl, w9, rfl⟩ := h
 obtain ⟨x0, rfl, -, -⟩ := uZ w0
 obtain ⟨x1, rfl, -, -⟩ := uZ w1
 obtain ⟨x2, rfl, -, -⟩ := uZ w2
 obtain ⟨x3, rfl, -, -⟩ := uZ w3
 obtain ⟨x4, rfl, -, -⟩ := uZ w4
 obtain ⟨x5, rfl, -, -⟩ := uZ w5
 obtain ⟨x6, rfl, -, -⟩ := uZ w6
 obtain ⟨x7, rfl, -, -⟩ := uZ w7
 obtain ⟨x8, rfl, -, -⟩ := uZ w8
 obtain ⟨x9, rfl, l9, p9⟩ := Cb0 (α := Int) (P := fun _ => True) rfl Cbo w9
 exact ⟨⟨x0, x1, x2, ⟨x3, x4, x5, x6, x7⟩, ⟨x8, x9⟩⟩, rfl, Eaj l9 (by decide)⟩
theorem Wax (ds : List D) (h : WTs [.sl 96 [.int .i64, .int .i64, .int .i64, .int .i64, .int .i64, .int .i64, .int .i64, .int .i64, .int .i64, .sl 8 [.int .i64]]] ds) : ∃ x : (List bH), ds = Enc.enc x /\ x.length <= 140737488351232 /\ ∀ y0 ∈ x, pX y0 := by
 simp only [WTs] at h
 obtain ⟨d, r, rfl, w, rfl⟩ := h
 obtain ⟨x, rfl, l, p⟩ := Cb0 (α := bH) (P := fun y => pX y) rfl Zaq w
 exact ⟨x, rfl, ⟨Eaj l (by decide), p⟩⟩
def dI (x : aL) : Nat := szL (szL aN) x.rows
def yE (x : aL) : Prop := (x.rows.length <= 140737488351232 /\ ∀ y0 ∈ x.rows, y0.length <= 140737488351232 /\ ∀ y1 ∈ y0, pX y1)
theorem Ra0 (x : aL) : dI x = szL (szL aN) x.rows := by
 unfold dI
 simp only [nP]
 try omega
theorem Tah (ds : List D) (h : WTs [.int .i64, .sl 24 [.sl 96 [.int .i64, .int .i64, .int .i64, .int .i64, .int .i64, .int .i64, .int .i64, .int .i64, .int .i64, .sl 8 [.int .i64]]]] ds) : ∃ x : aL, ds = Enc.enc x /\ yE x := by
 simp only [WTs] at h
 obtain ⟨d0, r0, rfl, w0, d1, r1, rfl, w1, rfl⟩ := h
 obtain ⟨x0, rfl, -, -⟩ := uZ w0
 obtain ⟨x1, rfl, l1, p1⟩ := Cb0 (α := (List bH)) (P := fun y => y.length <= 140737488351232 /\ ∀ y0 ∈ y, pX y0) rfl (Wax) w1
 exact ⟨⟨x0, x1⟩, rfl, ⟨Eaj l1 (by decide), p1⟩⟩
end Go.Proofs.YtpgnlmfmlffjcaaGreat.Rf

namespace Go.Proofs.YtpgnlmfmlffjcaaGreat.Rf
set_option linter.unusedVariables false
set_option linter.unusedSimpArgs false
theorem SZ : (∀ b : Bool, (b && true) = b) /\ (∀ b : Bool, (true && b) = b) /\ (∀ b : Bool, (b && false) = false) /\ (∀ b : Bool, (false && b) = false) /\
  (∀ b : Bool, (b || true) = true) /\ (∀ b : Bool, (true || b) = true) /\ (∀ b : Bool, (b || false) = b) /\ (∀ b : Bool, (false || b) = b) /\ ((!true) = false) /\ ((!false) = true) :=
 ⟨Pbr, Bool.true_and, Bool.and_false, Bool.false_and, Bool.or_true, Bool.true_or, Bool.or_false, Pbg, rfl, rfl⟩
theorem aF {γ : Type} {a r : γ} (h : iZ true a r = r) : a = r := h
theorem S0 : type_of% (And.intro Mb6 (And.intro @ite_true.{1} (And.intro @ite_false.{1} (And.intro @SA (And.intro @SB (And.intro @SC (And.intro @SP (And.intro @SQ (And.intro @SZ (And.intro @beq_self_eq_true.{0} (And.intro @decide_true (And.intro @decide_false (And.intro @Ebx @Ebz))))))))))))) := And.intro Mb6 (And.intro @ite_true.{1} (And.intro @ite_false.{1} (And.intro @SA (And.intro @SB (And.intro @SC (And.intro @SP (And.intro @SQ (And.intro @SZ (And.intro @beq_self_eq_true.{0} (And.intro @decide_true (And.intro @decide_false (And.intro @Ebx @Ebz))))))))))))
theorem Rag {x y : Bool} (h : x = true ↔ y = true) : some [D.bool x] = some [D.bool y] := by rw [Bool.eq_iff_iff.2 h]
def gN (n : Int) : Bool := n == 3 || n == 5
theorem bL {n : Int} (h : gN n = true) : n = 3 \/ n = 5 := by simpa [gN] using h
def inst (n rep no : Int) : Bool := inR rep 0 (n - 1) && inR no 1 6
def Taj (c : Baz) : Bool :=
 if c.kind == 0 then decide (c = ⟨0, 0, 0, 0, 0⟩) else if c.kind == 1 then inR c.id 1 999 && inR c.src 0 3 && inR c.dst 0 3 && !(c.src == c.dst) && inR c.amt 1 1000
 else c.kind == 2 && inR c.id 1 999 && inR c.src 0 3 && c.dst == 0 && c.amt == 0
def Ja9 (c : Baz) : Int :=
 if !inR c.src 0 3 || (c.kind == 1 && !inR c.dst 0 3) then 4 else if c.kind == 1 && c.src == c.dst then 5 else if !inR c.id 1 999 || (c.kind == 1 && !inR c.amt 1 1000) then 6 else 0
def sJ (n : Int) (a : lG) : Bool := inR a.seq 0 999 && (a.deps.length : Int) == n && a.deps.all fun x => inR x 0 6
def none0 (n : Int) : lG := ⟨0, Nbg n.toNat 0⟩
def rowOk (n : Int) (r : bH) : Bool :=
 inR r.ballot 0 9999 && inR r.vote 0 r.ballot && inR r.state 0 3 && (if r.state == 0 then r.vote == 0 && decide (r.cmd = ⟨0, 0, 0, 0, 0⟩) && decide (r.attr = none0 n) else Taj r.cmd && sJ n r.attr)
theorem Jab {n : Int} (h : gN n = true) : sJ n (none0 n) = true := by
 rcases bL h with rfl | rfl <;> rfl
theorem Cbs {c : Baz} (h : decide (c = ⟨0, 0, 0, 0, 0⟩) = true) : Taj c = true := by
 rw [of_decide_eq_true h]; rfl
theorem Zaw {c : Baz} : (Ja9 c == 0) = (inR c.src 0 3 && inR c.id 1 999 && (!(c.kind == 1) || (inR c.dst 0 3 && !(c.src == c.dst) && inR c.amt 1 1000))) := by
 unfold Ja9
 cases inR c.src 0 3 <;> cases inR c.id 1 999 <;> cases c.kind == 1 <;> cases inR c.dst 0 3 <;> cases c.src == c.dst <;> cases inR c.amt 1 1000 <;> rfl
def Abj (xs : List bH) : Prop := xs.length <= 10000000000 /\ ∀ r ∈ xs, r.attr.deps.length <= 10000000000
def mG (rows : List (List bH)) : Prop := rows.length <= 10000000000 /\ ∀ l ∈ rows, Abj l
theorem Dbs (r : bH) : aN r = r.attr.deps.length := nP
theorem Uab {xs : List bH} (h : szL aN xs <= 1048576) : Abj xs := by
 refine ⟨Nb4 (jH (f := aN)) (by omega), fun r hr => ?_⟩
 have h1 := jG (f := aN) hr
 rw [Dbs] at h1
 omega
theorem Yac {rows : List (List bH)} (h : szL (szL aN) rows <= 1048576) : mG rows := by
 refine ⟨Nb4 (jH (f := szL aN)) (by omega), fun l hl => Uab ?_⟩
 have h1 := jG (f := szL aN) hl
 omega
def bI (t : aL) : Bool := gN t.n && (t.rows.length : Int) == t.n && t.rows.all fun l => l.all (fun r => rowOk t.n r) && decide ((l.length : Int) <= 6)
def row0 (n : Int) : bH := ⟨0, 0, 0, ⟨0, 0, 0, 0, 0⟩, none0 n⟩
def gU (t : aL) (rep no : Int) : bH := if no <= (atI t.rows rep).length then atI (atI t.rows rep) (no - 1) else row0 t.n
theorem Cb3 : (rL ([] : List Int) = .rows 1 []) /\ (rL ([] : List (List Int)) = .rows 1 []) /\ (rL ([] : List bH) = .rows 10 []) /\ (rL ([] : List (List bH)) = .rows 1 []) := ⟨rfl, rfl, rfl, rfl⟩
theorem bW {n rep no : Int} (h : inst n rep no = true) : 0 <= rep /\ rep <= n - 1 /\ 1 <= no /\ no <= 6 := by
 simp only [inst, inR, Mby, decide_eq_true_eq] at h
 omega
theorem aZ {t : aL} (h : bI t = true) : gN t.n = true := by
 simp only [bI, Mby] at h; exact h.1.1
theorem dY {t : aL} (h : bI t = true) : (t.rows.length : Int) = t.n := by
 simp only [bI, Mby, beq_iff_eq] at h; exact h.1.2
theorem gV {t : aL} {rep no : Int} (h : bI t = true) (hi : inst t.n rep no = true) : InB t.rows rep := by
 have := dY h
 have := bW hi
 unfold InB; omega
theorem fG {t : aL} (h : bI t = true) {l : List bH} (hl : l ∈ t.rows) : l.length <= 6 /\ ∀ r ∈ l, rowOk t.n r = true := by
 simp only [bI, Mby, Nbq, decide_eq_true_eq] at h
 have := h.2 l hl
 exact ⟨by omega, this.1⟩
theorem Haf {n : Int} {r : bH} (h : rowOk n r = true) (hg : gN n = true) : (r.attr.deps.length : Int) = n := by
 have h2 : sJ n r.attr = true := by
  simp only [rowOk, Mby] at h
  have h3 := h.2
  split at h3
  ·simp only [Mby] at h3
   rw [of_decide_eq_true h3.2]
   exact Jab hg
  ·simp only [Mby] at h3
   exact h3.2
 simp only [sJ, Mby, beq_iff_eq] at h2
 exact h2.1.2
theorem fQ {α : Type} [Inhabited α] {xs : List α} {k : Int} (h : InB xs k) : atI xs k ∈ xs := by
 have h2 := h.lt
 have e : ((k.toNat : Nat) : Int) = k := by unfold InB at h; omega
 rw [<- e]
 exact at_mem h2
theorem pY {t : aL} {rep no : Int} (h : bI t = true) (hi : inst t.n rep no = true) : rowOk t.n (gU t rep no) = true := by
 unfold gU
 have hb := gV h hi
 have hr := bW hi
 split
 ·exact (fG h (fQ hb)).2 _ (fQ (by unfold InB; omega))
 ·rcases bL (aZ h) with e | e <;> rw [e] <;> rfl
theorem iW {t : aL} {rep no : Int} (h : bI t = true) (hi : inst t.n rep no = true) : ((gU t rep no).attr.deps.length : Int) = t.n := Haf (pY h hi) (aZ h)
def ext (n : Int) (l : List bH) (no : Int) : List bH := l ++ Nbg (no - l.length).toNat (row0 n)
def Pa0 (t : aL) (rep no : Int) (r : bH) : aL := ⟨t.n, fI t.rows rep (fI (ext t.n (atI t.rows rep) no) (no - 1) r)⟩
theorem Paa {n : Int} {l : List bH} {no : Int} (h : 0 <= no) : ((ext n l no).length : Int) = max (l.length : Int) no := by
 simp only [ext, Mb2, List.length_replicate]
 omega
def nb (b me : Int) : Int := if b < 8 + me then 8 + me else b + 1 + (me - b - 1) % 8
theorem Cbc {x lo hi : Int} (h : inR x lo hi = true) : lo <= x /\ x <= hi := by
 simpa [inR] using h
end Go.Proofs.YtpgnlmfmlffjcaaGreat.Rf

namespace Go.Proofs.YtpgnlmfmlffjcaaGreat.Rf
set_option linter.unusedVariables false
set_option linter.unusedSimpArgs false
theorem vJ {α : Type} {xs : List α} {k : Int} {a : α} : (fI xs k a).length = xs.length := Pbe ..
theorem Ab3 {α : Type} [Inhabited α] {xs : List α} {j k : Int} {a : α} (hj : 0 <= j) (hk : 0 <= k) (h : j ≠ k) : atI (fI xs j a) k = atI xs k := by
 unfold atI fI
 rw [Mb4, Mb4, List.getElem?_set_ne (by omega)]
end Go.Proofs.YtpgnlmfmlffjcaaGreat.Rf
