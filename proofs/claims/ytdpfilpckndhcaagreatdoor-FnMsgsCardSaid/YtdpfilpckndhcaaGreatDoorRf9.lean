/- Terms for the program's functions, and that they are right: part 9 of 9. -/
import Derived.Test.YtdpfilpckndhcaaGreatDoorRf8
set_option linter.unusedSimpArgs false
set_option linter.unusedVariables false
set_option linter.unnecessarySimpa false
set_option linter.unusedSectionVars false
namespace Go.Proofs.YtdpfilpckndhcaaGreatDoor.Rf
set_option linter.unusedVariables false
set_option linter.unusedSimpArgs false
theorem ofNat_toNat {d : Nat} (h : d < 10) : (UInt8.ofNat (48 + d)).toNat = 48 + d := by
 rw [UInt8.toNat_ofNat']
 omega
theorem numD_dig : ∀ n : Nat, (numD n).all isDig = true := by
 intro n
 induction n using Nat.strongRecOn with
 | _ n ih =>
  have hd : ∀ d : Nat, d < 10 -> isDig (UInt8.ofNat (48 + d)) = true := by
   intro d hd
   unfold isDig
   rw [ofNat_toNat hd]
   simp
   omega
  rcases Nat.lt_or_ge n 10 with h | h
  ·rw [numD_lt h]
   simp only [List.all_cons, List.all_nil, Bool.and_true, hd n h]
  ·rw [numD_ge h, List.all_append, ih (n / 10) (by omega)]
   simp only [List.all_cons, List.all_nil, Bool.and_true, Bool.true_and, hd (n % 10) (by omega)]
theorem valD_numD : ∀ n : Nat, valD (numD n) = n := by
 intro n
 induction n using Nat.strongRecOn with
 | _ n ih =>
  rcases Nat.lt_or_ge n 10 with h | h
  ·rw [numD_lt h]
   show 10 * 0 + (((UInt8.ofNat (48 + n)).toNat : Int) - 48) = n
   rw [ofNat_toNat h]
   omega
  ·rw [numD_ge h, valD_app, ih (n / 10) (by omega), ofNat_toNat (by omega)]
   omega
theorem numD_head : ∀ n : Nat, 1 <= n -> ∃ c r, numD n = c :: r /\ (c == 48) = false := by
 intro n
 induction n using Nat.strongRecOn with
 | _ n ih =>
  intro hn
  rcases Nat.lt_or_ge n 10 with h | h
  ·rw [numD_lt h]
   refine ⟨_, [], rfl, ?_⟩
   rw [beq_eq_false_iff_ne]
   intro e
   have := congrArg UInt8.toNat e
   rw [ofNat_toNat h] at this
   have h48 : (48 : UInt8).toNat = 48 := rfl
   omega
  ·obtain ⟨c, r, h1, h2⟩ := ih (n / 10) (by omega) (by omega)
   rw [numD_ge h, h1]
   exact ⟨c, _, rfl, h2⟩
theorem numD_lead (n : Nat) : lead (numD n) = false := by
 rcases Nat.lt_or_ge n 1 with h | h
 ·obtain rfl : n = 0 := by omega
  rw [numD_lt (by omega)]
  rfl
 ·obtain ⟨c, r, h1, h2⟩ := numD_head n h
  rw [h1]
  unfold lead
  simp only [h2, Bool.false_and]
theorem digM_numT {n : Int} {m : Nat} (h0 : 0 <= n) (h1 : n < 10 ^ (m + 1)) : digM (numT n) ((m + 1 : Nat) : Int) = n := by
 have h2 : n.toNat < 10 ^ (m + 1) := by
  have : ((10 ^ (m + 1) : Nat) : Int) = (10 : Int) ^ (m + 1) := by simp
  omega
 have h3 := numD_few m n.toNat h2
 unfold numT
 rw [digM_of (numD_dig _) (by omega) (numD_lead _), valD_numD]
 omega
theorem numT_not {n : Int} {b : UInt8} (hb : isDig b = false) : b ∉ numT n := by
 intro h
 have := numD_dig n.toNat
 rw [List.all_eq_true] at this
 rw [this b h] at hb
 cases hb
theorem splitB_join {b : UInt8} : ∀ {ws : List (List UInt8)}, ws ≠ [] -> (∀ w ∈ ws, b ∉ w) -> splitB b (joinB b ws) = ws
 | [], h, _ => absurd rfl h
 | [w], _, h => splitB_no (h w (by simp))
 | w :: v :: ws, _, h => by
  show splitB b (w ++ b :: joinB b (v :: ws)) = _
  rw [splitB_app _ (h w (by simp)), splitB_join (by simp) (fun x hx => h x (List.mem_cons_of_mem _ hx))]
theorem joinB_not {b c : UInt8} (hcb : c ≠ b) : ∀ {ws : List (List UInt8)}, (∀ w ∈ ws, c ∉ w) -> c ∉ joinB b ws
 | [], _ => by simp [joinB]
 | [w], h => h w (by simp)
 | w :: v :: ws, h => by
  have ih := joinB_not hcb (ws := v :: ws) (fun x hx => h x (List.mem_cons_of_mem _ hx))
  show c ∉ w ++ b :: joinB b (v :: ws)
  simp only [List.mem_append, List.mem_cons, not_or]
  exact ⟨h w (by simp), hcb, ih⟩
theorem digM4 {n : Int} (h0 : 0 <= n) (h1 : n <= 9999) : digM (numT n) 4 = n := digM_numT (m := 3) h0 (by omega)
theorem digM6 {n : Int} (h0 : 0 <= n) (h1 : n <= 9999) : digM (numT n) 6 = n := by
 have h4 := digM4 h0 h1
 rw [digM_up (m := 4) (by omega) (by decide), h4]
theorem nums_map {m : Int} {xs : List Int} (h : ∀ x ∈ xs, digM (numT x) m = x) : numsOf m (xs.map numT) = xs := by
 unfold numsOf
 rw [List.map_map]
 conv => rhs; rw [<- List.map_id xs]
 exact List.map_congr_left fun x hx => h x hx
theorem allNum_map {m : Int} {xs : List Int} (h : ∀ x ∈ xs, digM (numT x) m = x /\ 0 <= x) : allNum m (xs.map numT) = true := by
 simp only [allNum, List.all_eq_true, List.mem_map, decide_eq_true_eq]
 rintro w ⟨x, hx, rfl⟩
 rw [(h x hx).1]
 exact (h x hx).2
theorem cmdB_told {c : TCmd} (h : cmdOk c = true) : cmdB (cmdT c) = (c, true) := by
 obtain ⟨⟨i0, i1⟩, ⟨f0, f1⟩, ⟨t0, t1⟩, a0, a1⟩ := cmdOk_rng h
 have hk := cmdOk_kind h
 have n32 : ∀ x : Int, (32 : UInt8) ∉ numT x := fun x => numT_not (by decide)
 cases c with
 | mk k i f t a =>
 simp only at i0 i1 f0 f1 t0 t1 a0 a1 hk
 unfold cmdB
 rcases hk with rfl | rfl | rfl
 ·have hz : (⟨0, i, f, t, a⟩ : TCmd) = ⟨0, 0, 0, 0, 0⟩ := by
   have : cmdOk ⟨0, i, f, t, a⟩ = decide ((⟨0, i, f, t, a⟩ : TCmd) = ⟨0, 0, 0, 0, 0⟩) := rfl
   rw [this] at h
   exact of_decide_eq_true h
  rw [hz]
  rfl
 ·have ht : cmdT ⟨1, i, f, t, a⟩ = joinB 32 ([109, 111, 118, 101] :: [i, f, t, a].map numT) := by
   simp [cmdT, joinB]
  rw [ht, splitB_join (by simp) (by
   intro w hw
   rcases List.mem_cons.1 hw with rfl | hw
   ·decide
   ·obtain ⟨x, _, rfl⟩ := List.mem_map.1 hw
    exact n32 x)]
  have hd : ([109, 111, 118, 101] :: [i, f, t, a].map numT).drop 1 = [i, f, t, a].map numT := rfl
  have hr : ∀ x ∈ [i, f, t, a], digM (numT x) 4 = x /\ 0 <= x := by
   intro x hx
   simp only [List.mem_cons, List.not_mem_nil, or_false] at hx
   rcases hx with rfl | rfl | rfl | rfl
   ·exact ⟨digM4 i0 i1, i0⟩
   ·exact ⟨digM4 f0 f1, f0⟩
   ·exact ⟨digM4 t0 t1, t0⟩
   ·exact ⟨digM4 a0 a1, a0⟩
  have := cmdWs_yes (ws := [109, 111, 118, 101] :: [i, f, t, a].map numT) (k := 1) (show kindB [109, 111, 118, 101] = 1 by decide) (by decide) rfl (by rw [hd]; exact allNum_map hr) (by rw [hd, nums_map fun x hx => (hr x hx).1]; exact h)
  rw [this, hd, nums_map fun x hx => (hr x hx).1]
  rfl
 ·have hz : t = 0 /\ a = 0 := by
   have : cmdOk ⟨2, i, f, t, a⟩ = (inR i 1 999 && inR f 0 3 && t == 0 && a == 0) := rfl
   rw [this] at h
   simp only [Bool.and_eq_true, beq_iff_eq] at h
   exact ⟨h.1.2, h.2⟩
  obtain ⟨rfl, rfl⟩ := hz
  have ht : cmdT ⟨2, i, f, 0, 0⟩ = joinB 32 ([114, 101, 97, 100] :: [i, f].map numT) := by
   simp [cmdT, joinB]
  rw [ht, splitB_join (by simp) (by
   intro w hw
   rcases List.mem_cons.1 hw with rfl | hw
   ·decide
   ·obtain ⟨x, _, rfl⟩ := List.mem_map.1 hw
    exact n32 x)]
  have hd : ([114, 101, 97, 100] :: [i, f].map numT).drop 1 = [i, f].map numT := rfl
  have hr : ∀ x ∈ [i, f], digM (numT x) 4 = x /\ 0 <= x := by
   intro x hx
   simp only [List.mem_cons, List.not_mem_nil, or_false] at hx
   rcases hx with rfl | rfl
   ·exact ⟨digM4 i0 i1, i0⟩
   ·exact ⟨digM4 f0 f1, f0⟩
  have := cmdWs_yes (ws := [114, 101, 97, 100] :: [i, f].map numT) (k := 2) (show kindB [114, 101, 97, 100] = 2 by decide) (by decide) rfl (by rw [hd]; exact allNum_map hr) (by rw [hd, nums_map fun x hx => (hr x hx).1]; exact h)
  rw [this, hd, nums_map fun x hx => (hr x hx).1]
  rfl
theorem attrB_told {n : Int} {a : TAttr} (hg : isGrp n = true) (h : attrOk n a = true) : attrB n (attrT a) = (a, true) := by
 obtain ⟨r1, r2, r3, r4⟩ := attrOk_rng h
 have hn := isGrp_rng hg
 have hfew := attrT_few hg h
 have hne : a.deps ≠ [] := by
  intro e
  rw [e] at r3
  simp only [List.length_nil] at r3
  omega
 have hdig : ∀ x ∈ a.deps, digM (numT x) 6 = x := fun x hx => digM6 (r4 x hx).1 (by have := (r4 x hx).2; omega)
 have h58 : (58 : UInt8) ∉ joinB 44 (a.deps.map numT) := joinB_not (by decide) (fun w hw => by
  obtain ⟨x, _, rfl⟩ := List.mem_map.1 hw
  exact numT_not (by decide))
 have h44 : splitB 44 (joinB 44 (a.deps.map numT)) = a.deps.map numT := splitB_join (by simpa using hne) (fun w hw => by
  obtain ⟨x, _, rfl⟩ := List.mem_map.1 hw
  exact numT_not (by decide))
 have hs : splitB 58 (attrT a) = [numT a.seq, joinB 44 (a.deps.map numT)] := by
  unfold attrT
  rw [splitB_app _ (numT_not (by decide)), splitB_no h58]
 unfold attrB
 rw [hs]
 unfold attrWs
 have e0 : atI [numT a.seq, joinB 44 (a.deps.map numT)] 0 = numT a.seq := rfl
 have e1 : atI [numT a.seq, joinB 44 (a.deps.map numT)] 1 = joinB 44 (a.deps.map numT) := rfl
 rw [e0, e1, h44, nums_map hdig, digM6 r1 (by omega)]
 have eta : (⟨a.seq, a.deps⟩ : TAttr) = a := rfl
 rw [eta, hg, h, decide_eq_false (show ¬40 < ((attrT a).length : Int) by omega)]
 rfl
theorem readM_told {n : Int} {m : TMsg} (h : msgOk n m = true) : readM n (msgT m) = (m, 0, true) := by
 obtain ⟨hg, hk, hn, hc, ha⟩ := msgOk_rng h
 have hL : ∀ x ∈ msgNs m, digM (numT x) 4 = x /\ 0 <= x := fun x hx => ⟨digM4 (hn x hx).1 (hn x hx).2, (hn x hx).1⟩
 have hne : msgNs m ≠ [] := by simp [msgNs]
 have hb : InB wordsM m.kind := by
  have hl : wordsM.length = 8 := rfl
  unfold InB
  omega
 have hwm := at_memI hb
 have hw32 : (32 : UInt8) ∉ atI wordsM m.kind := (by decide : ∀ w ∈ wordsM, (32 : UInt8) ∉ w) _ hwm
 have hw124 : (124 : UInt8) ∉ atI wordsM m.kind := (by decide : ∀ w ∈ wordsM, (124 : UInt8) ∉ w) _ hwm
 have hkm : kindM (atI wordsM m.kind) = m.kind := by
  have : ∀ i : Nat, i < 8 -> kindM (atI wordsM (i : Int)) = (i : Int) := by decide
  have h2 := this m.kind.toNat (by omega)
  rwa [show ((m.kind.toNat : Nat) : Int) = m.kind by omega] at h2
 have n124c : (124 : UInt8) ∉ cmdT m.cmd := by
  have n1 : ∀ x : Int, (124 : UInt8) ∉ numT x := fun x => numT_not (by decide)
  unfold cmdT
  split
  ·simp [n1]
  ·split
   ·simp [n1]
   ·decide
 have n124a : (124 : UInt8) ∉ attrT m.attr := by
  have n1 : ∀ x : Int, (124 : UInt8) ∉ numT x := fun x => numT_not (by decide)
  have n2 : (124 : UInt8) ∉ joinB 44 (m.attr.deps.map numT) := joinB_not (by decide) (fun w hw => by
   obtain ⟨x, _, rfl⟩ := List.mem_map.1 hw
   exact n1 x)
  unfold attrT
  simp [n1, n2]
 have hp : atI wordsM m.kind ++ (msgNs m).flatMap (fun x => 32 :: numT x) = joinB 32 (atI wordsM m.kind :: (msgNs m).map numT) := by
  rw [<- join_flat hne]
  cases hx : msgNs m with
  | nil => exact absurd hx hne
  | cons x xs => rfl
 have ht : msgT m = joinB 124 [joinB 32 (atI wordsM m.kind :: (msgNs m).map numT), cmdT m.cmd, attrT m.attr] := by
  unfold msgT
  rw [hp]
  simp [joinB]
 have hs : splitB 124 (msgT m) = [joinB 32 (atI wordsM m.kind :: (msgNs m).map numT), cmdT m.cmd, attrT m.attr] := by
  rw [ht]
  refine splitB_join (by simp) (fun w hw => ?_)
  simp only [List.mem_cons, List.not_mem_nil, or_false] at hw
  rcases hw with rfl | rfl | rfl
  ·exact joinB_not (by decide) (fun w hw => by
    rcases List.mem_cons.1 hw with rfl | hw
    ·exact hw124
    ·obtain ⟨x, _, rfl⟩ := List.mem_map.1 hw
     exact numT_not (by decide))
  ·exact n124c
  ·exact n124a
 have h32 : splitB 32 (joinB 32 (atI wordsM m.kind :: (msgNs m).map numT)) = atI wordsM m.kind :: (msgNs m).map numT := splitB_join (by simp) (fun w hw => by
  rcases List.mem_cons.1 hw with rfl | hw
  ·exact hw32
  ·obtain ⟨x, _, rfl⟩ := List.mem_map.1 hw
   exact numT_not (by decide))
 unfold readM
 rw [hs]
 generalize joinB 32 (atI wordsM m.kind :: (msgNs m).map numT) = p at *
 unfold readMs
 have e0 : atI [p, cmdT m.cmd, attrT m.attr] 0 = p := rfl
 have e1 : atI [p, cmdT m.cmd, attrT m.attr] 1 = cmdT m.cmd := rfl
 have e2 : atI [p, cmdT m.cmd, attrT m.attr] 2 = attrT m.attr := rfl
 have e3 : atI (atI wordsM m.kind :: (msgNs m).map numT) 0 = atI wordsM m.kind := rfl
 have e4 : (atI wordsM m.kind :: (msgNs m).map numT).drop 1 = (msgNs m).map numT := rfl
 have e5 : (((atI wordsM m.kind :: (msgNs m).map numT).length : Nat) : Int) = 8 := by simp [msgNs]
 have e6 : msgN m.kind (msgNs m) m.cmd m.attr = m := rfl
 rw [e0, e1, e2, h32, e3, e4, e5, hkm, allNum_map hL, nums_map fun x hx => (hL x hx).1, cmdB_told hc, attrB_told hg ha, hg, decide_eq_false (show ¬m.kind < 1 by omega)]
 simp only [e6, h]
 rfl
def sameMq (x y : TMsg) : Bool := x.kind == y.kind && x.src == y.src && x.dst == y.dst && x.rep == y.rep && x.no == y.no && x.ballot == y.ballot && x.vote == y.vote && x.state == y.state && decide (x.cmd = y.cmd) && decide (x.attr = y.attr)
theorem sameMq_refl (x : TMsg) : sameMq x x = true := by simp [sameMq]
theorem msgR_len {n : Int} {m : TMsg} : (msgR n m).1.length <= 200 := by
 unfold msgR
 split
 ·rename_i h
  obtain ⟨hg, hk, hn, hc, ha⟩ := msgOk_rng h
  have hb : InB wordsM m.kind := by
   have hl : wordsM.length = 8 := rfl
   unfold InB
   omega
  have h1 := word_len hb
  have h2 := cmdT_few hc
  have h3 := attrT_few hg ha
  have h4 : ((msgNs m).flatMap (fun x => 32 :: numT x)).length <= 35 := by
   have hf : ∀ xs : List Int, (∀ x ∈ xs, 0 <= x /\ x <= 9999) -> (xs.flatMap fun x => 32 :: numT x).length <= 5 * xs.length := by
    intro xs
    induction xs with
    | nil => simp
    | cons x xs ih =>
     intro h
     have h1 := ih (fun y hy => h y (List.mem_cons_of_mem _ hy))
     have h2 := numT_four (h x List.mem_cons_self).2
     simp only [List.flatMap_cons, List.length_append, List.length_cons]
     omega
   have := hf _ hn
   simp only [msgNs, List.length_cons, List.length_nil] at this ⊢
   omega
  simp only [msgT, List.length_append, List.length_cons, List.length_nil]
  omega
 ·simp
theorem kindM_word {w : List UInt8} (h : 0 <= kindM w) : atI wordsM (kindM w) = w := by
 unfold kindM ixF at h ⊢
 split at h
 ·rename_i i hi
  obtain ⟨h1, h2, -⟩ := List.findIdx?_eq_some_iff_getElem.1 hi
  rw [atI_get h1]
  exact (by simpa using h2 : w = _).symm
 ·omega
theorem list7 {l : List Int} (h : l.length = 7) : [atI l 0, atI l 1, atI l 2, atI l 3, atI l 4, atI l 5, atI l 6] = l := by
 match l, h with
 | [a, b, c, d, e, f, g], _ => rfl
theorem readM_text {n : Int} {s : List UInt8} (h : (readM n s).2.2 = true) : msgOk n (readM n s).1 = true /\ msgT (readM n s).1 = s := by
 have hj := joinB_split 124 s
 unfold readM at h ⊢
 generalize splitB 124 s = ps at h hj ⊢
 unfold readMs at h ⊢
 split at h
 ·cases h
 rename_i c1
 rw [if_neg c1]
 split at h
 ·cases h
 rename_i c2
 rw [if_neg c2]
 split at h
 ·cases h
 rename_i c3
 rw [if_neg c3]
 split at h
 ·cases h
 rename_i c4
 rw [if_neg c4]
 split at h
 ·rename_i c5
  rw [if_pos c5]
  refine ⟨c5, ?_⟩
  simp only [Bool.or_eq_true, not_or, Bool.not_eq_true', Bool.not_eq_false', Bool.not_eq_true, Bool.not_eq_false, decide_eq_false_iff_not, beq_iff_eq] at c1 c2 c3 c4
  obtain ⟨p, q, t, rfl⟩ := list3 (l := ps) (by omega)
  have e0 : atI [p, q, t] 0 = p := rfl
  have e1 : atI [p, q, t] 1 = q := rfl
  have e2 : atI [p, q, t] 2 = t := rfl
  rw [e0] at c2 ⊢
  rw [e1] at c3 ⊢
  rw [e2] at c4 ⊢
  have h8 := (cmdB_ok c3).2
  have h9 := (attrB_ok c4).2.2
  have hp := joinB_split 32 p
  generalize splitB 32 p = ws at c2 hp ⊢
  obtain ⟨⟨k1, k2⟩, k3⟩ := c2
  have hw := kindM_word (w := atI ws 0) (by omega)
  have hnl : (numsOf 4 (ws.drop 1)).length = 7 := by rw [numsOf_len, drop1_len]; omega
  have hnm := numT_nums k2
  have hws : atI ws 0 :: ws.drop 1 = ws := by
   cases ws with
   | nil => simp at k3
   | cons w r => rfl
  have hne : numsOf 4 (ws.drop 1) ≠ [] := by
   intro e
   rw [e] at hnl
   cases hnl
  have hm : msgNs (msgN (kindM (atI ws 0)) (numsOf 4 (ws.drop 1)) (cmdB q).1 (attrB n t).1) = numsOf 4 (ws.drop 1) := list7 hnl
  have hjn : atI ws 0 ++ (numsOf 4 (ws.drop 1)).flatMap (fun x => 32 :: numT x) = p := by
   rw [<- join_flat hne, hnm, <- hp]
   conv => rhs; rw [<- hws]
   cases hr : ws.drop 1 with
   | nil => rw [hr] at hnl; cases hnl
   | cons v r => simp [joinB]
  show msgT (msgN (kindM (atI ws 0)) (numsOf 4 (ws.drop 1)) (cmdB q).1 (attrB n t).1) = s
  unfold msgT
  rw [hm]
  show atI wordsM (kindM (atI ws 0)) ++ _ ++ [124] ++ cmdT (cmdB q).1 ++ [124] ++ attrT (attrB n t).1 = s
  rw [hw, hjn, h8, h9, <- hj]
  simp [joinB]
 ·cases h
theorem msgR_again {n : Int} {s : List UInt8} (h : (readM n s).2.2 = true) : msgR n (readM n s).1 = (s, true) := by
 obtain ⟨h1, h2⟩ := readM_text h
 unfold msgR
 rw [if_pos h1, h2]
theorem msgR_ok {n : Int} {m : TMsg} : (msgR n m).2 = msgOk n m := by
 unfold msgR
 cases msgOk n m <;> rfl
end Go.Proofs.YtdpfilpckndhcaaGreatDoor.Rf
