/- The terms of the functions that FnExactNewClerk reaches (printed by the author's own program). -/
import Derived.Test.YtjoebpmeeampfaaChecked
import Derived.Test.YtjoebpmeeampfaaRf7
import Derived.KernelRfl
namespace Go.Proofs.Ytjoebpmeeampfaa
namespace FnExactNewClerk
open Go Go.Proofs.Ytjoebpmeeampfaa.Rf
set_option maxRecDepth 100000

def tiL : List (Nat × TI) := [
  (3, ⟨false, 1, 8, [.sc (.int .i64 0)], [], none, (some .i64), false, false, false, false⟩),
  (22, ⟨false, 1, 24, [.sl 1], [], (some 3), none, false, false, false, false⟩),
  (23, ⟨false, 1, 24, [.sl 2], [], (some 57), none, false, false, false, false⟩),
  (25, ⟨true, 3, 72, [.sl 1, .sl 1, .sl 2], [(0, 22), (1, 22), (2, 23)], none, none, false, false, false, false⟩),
  (57, ⟨true, 2, 16, [.sc (.int .i64 0), .sc (.int .i64 0)], [(0, 3), (1, 3)], none, none, false, false, false, true⟩)]
theorem ti3 : tiOf Try.prog 3 = some ⟨false, 1, 8, [.sc (.int .i64 0)], [], none, (some .i64), false, false, false, false⟩ := by kernel_rfl
theorem ti22 : tiOf Try.prog 22 = some ⟨false, 1, 24, [.sl 1], [], (some 3), none, false, false, false, false⟩ := by kernel_rfl
theorem ti23 : tiOf Try.prog 23 = some ⟨false, 1, 24, [.sl 2], [], (some 57), none, false, false, false, false⟩ := by kernel_rfl
theorem ti25 : tiOf Try.prog 25 = some ⟨true, 3, 72, [.sl 1, .sl 1, .sl 2], [(0, 22), (1, 22), (2, 23)], none, none, false, false, false, false⟩ := by kernel_rfl
theorem ti57 : tiOf Try.prog 57 = some ⟨true, 2, 16, [.sc (.int .i64 0), .sc (.int .i64 0)], [(0, 3), (1, 3)], none, none, false, false, false, true⟩ := by kernel_rfl
theorem tiL_ok : TiOk Try.prog (tiTab tiL) := tiTab_ok (l := tiL) (List.forall_mem_cons.2 ⟨ti3, List.forall_mem_cons.2 ⟨ti22, List.forall_mem_cons.2 ⟨ti23, List.forall_mem_cons.2 ⟨ti25, List.forall_mem_cons.2 ⟨ti57, List.forall_mem_nil _⟩⟩⟩⟩⟩)

def sg0 : Sig := ⟨3, [], [], [(false, [.sc])]⟩
def sg1 : Sig := ⟨9, [], [], [(true, [.ow 99, .ow 99, .ow 99])]⟩
def sg2 : Sig := ⟨68, [], [], [(false, [.ow 99])]⟩
def sg3 : Sig := ⟨10, [], [], [(true, [.ow 99, .ow 99, .ow 99])]⟩
def sg4 : Sig := ⟨69, [], [], [(false, [.ow 99])]⟩
def sg5 : Sig := ⟨136, [(false, [.fz false]), (false, [.sc])], [], [(false, [.ow 99])]⟩
def sg8 : Sig := ⟨11, [(true, [.fz false, .fz false, .fz false]), (true, [.fz false, .fz false, .fz false])], [], [(false, [.sc])]⟩
def sg9 : Sig := ⟨24, [(false, [.fz false]), (false, [.fz false])], [], [(false, [.sc])]⟩
def sg10 : Sig := ⟨23, [(false, [.fz false]), (false, [.fz false])], [], [(false, [.sc])]⟩
def sg11 : Sig := ⟨78, [(true, [.sc, .sc]), (true, [.sc, .sc])], [], [(false, [.sc])]⟩
def sg12 : Sig := ⟨12, [(true, [.mu 1, .mu 1, .mu 1]), (false, [.sc])], [], [(false, [.sc])]⟩
def sg13 : Sig := ⟨26, [(false, [.mu 1]), (false, [.sc])], [], [(false, [.sc])]⟩
def sg14 : Sig := ⟨25, [(false, [.mu 1]), (false, [.sc])], [], [(false, [.sc])]⟩
def sg15 : Sig := ⟨13, [(true, [.fz false, .fz false, .fz false]), (false, [.sc])], [], [(false, [.sc])]⟩
def sg16 : Sig := ⟨28, [(false, [.fz false]), (false, [.sc])], [], [(false, [.sc])]⟩
def sg17 : Sig := ⟨27, [(false, [.fz false]), (false, [.sc])], [], [(false, [.sc])]⟩
def sigs : List (Nat × Sig) := [(0, sg0), (1, sg1), (2, sg2), (3, sg3), (4, sg4), (5, sg5), (8, sg8), (9, sg9), (10, sg10), (11, sg11), (12, sg12), (13, sg13), (14, sg14), (15, sg15), (16, sg16), (17, sg17)]

/-- laws.FnExactNewClerk -/
def tm0 : Tm Unit :=
  (.call none 1 [] 3 [] <|
  (.call none 3 [] 3 [] <|
  (.call none 8 [.v 3, .v 4, .v 5, .v 0, .v 1, .v 2] 1 [] <|
  (.lt none .not [.v 6] 1 <|
  (.ite (.v 7)
   (.leaf .ret [.c (.bool false)] ())
   (.call none 12 [.v 3, .v 4, .v 5, .c (.int .i64 1)] 4 [] <|
   (.lt none (.dep 1) [.v 9] 0 <|
   (.lt none (.dep 1) [.v 10] 0 <|
   (.lt none (.dep 1) [.v 11] 0 <|
   (.call none 15 [.v 9, .v 10, .v 11, .c (.int .i64 1)] 1 [] <|
   (.lt none (.bin .lss) [.v 12, .c (.int .i64 0)] 1 <|
   (.ite (.v 13)
    (.leaf .ret [.c (.bool false)] ())
    (.lt none (.bin .neq) [.v 12, .v 8] 1 <|
    (.ite (.v 14)
     (.leaf .ret [.c (.bool false)] ())
     (.call none 3 [] 3 [] <|
     (.call none 8 [.v 15, .v 16, .v 17, .v 0, .v 1, .v 2] 1 [] <|
     (.lt none .not [.v 18] 1 <|
     (.ite (.v 19)
      (.leaf .ret [.c (.bool false)] ())
      (.call none 15 [.v 9, .v 10, .v 11, .c (.int .i64 1)] 1 [] <|
      (.lt none (.bin .lss) [.v 20, .c (.int .i64 0)] 1 <|
      (.ite (.v 21)
       (.leaf .ret [.c (.bool false)] ())
       (.lt none (.bin .neq) [.v 20, .v 8] 1 <|
       (.ite (.v 22)
        (.leaf .ret [.c (.bool false)] ())
        (.leaf .ret [.c (.bool true)] ()))))))))))))))))))))))))
/-- spec.NewClerk -/
def tm1 : Tm Unit :=
  (.call none 2 [] 1 [] <|
  (.lt none (.make 8 [(.int .i64 0)]) [.c (.int .i64 4)] 1 <|
  (.lt none (.make 16 [(.int .i64 0), (.int .i64 0)]) [.c (.int .i64 4)] 1 <|
  (.leaf .ret [.v 0, .v 1, .v 2] ()))))
/-- spec.NewSums -/
def tm2 : Tm Unit :=
  (.bind 1
   (.loop [.c (.rows 1 []), .c (.int .i64 0)]
    (.lt none (.bin .lss) [.v 1, .c (.int .i64 4)] 1 <|
    (.ite (.v 2)
     (.lt none (.mk 1 1) [.c (.int .i64 100)] 1 <|
     (.lt none (.app 1 8 true) [.v 0, .v 3] 1 <|
     (.lt none (.bin .add) [.v 1, .c (.int .i64 1)] 1 <|
     (.leaf .cont [.v 4, .v 5] ()))))
     (.leaf (.yield 1) [.v 0] ())))) <|
  (.leaf .ret [.v 0] ()))
/-- impl.NewClerk -/
def tm3 : Tm Unit :=
  (.call none 4 [] 1 [] <|
  (.lt none (.make 8 [(.int .i64 0)]) [.c (.int .i64 4)] 1 <|
  (.lt none (.make 16 [(.int .i64 0), (.int .i64 0)]) [.c (.int .i64 4)] 1 <|
  (.leaf .ret [.v 0, .v 1, .v 2] ()))))
/-- impl.NewSums -/
def tm4 : Tm Unit :=
  (.lt none (.mk 1 1) [.c (.int .i64 100)] 1 <|
  (.call none 5 [.v 0, .c (.int .i64 4)] 1 [] <|
  (.lt none (.dep 99) [.v 1] 0 <|
  (.leaf .ret [.v 1] ()))))
/-- slices.Repeat[[]int,int] -/
def tm5 : Tm Unit := .stuck
/-- laws.eqClerk -/
def tm8 : Tm Unit :=
  (.call none 9 [.v 0, .v 3] 1 [] <|
  (.lt none .not [.v 6] 1 <|
  (.ite (.v 7)
   (.leaf .ret [.c (.bool false)] ())
   (.call none 9 [.v 1, .v 4] 1 [] <|
   (.lt none .not [.v 8] 1 <|
   (.ite (.v 9)
    (.leaf .ret [.c (.bool false)] ())
    (.call none 10 [.v 2, .v 5] 1 [] <|
    (.lt none .not [.v 10] 1 <|
    (.ite (.v 11)
     (.leaf .ret [.c (.bool false)] ())
     (.leaf .ret [.c (.bool true)] ()))))))))))
/-- laws.eqIntS -/
def tm9 : Tm Unit :=
  (.lt none .len [.v 0] 1 <|
  (.lt none .len [.v 1] 1 <|
  (.lt none (.bin .neq) [.v 2, .v 3] 1 <|
  (.ite (.v 4)
   (.leaf .ret [.c (.bool false)] ())
   (.bind 1
    (.loop [.c (.int .i64 0)]
     (.lt none .len [.v 0] 1 <|
     (.lt none (.bin .lss) [.v 5, .v 6] 1 <|
     (.ite (.v 7)
      (.lt none .inb [.v 0, .v 5] 0 <|
      (.lt none (.row 1 0 [true]) [.v 0, .v 5] 1 <|
      (.lt none .inb [.v 1, .v 5] 0 <|
      (.lt none (.row 1 0 [true]) [.v 1, .v 5] 1 <|
      (.lt none (.bin .neq) [.v 8, .v 9] 1 <|
      (.ite (.v 10)
       (.leaf .ret [.c (.bool false)] ())
       (.lt none (.bin .add) [.v 5, .c (.int .i64 1)] 1 <|
       (.leaf .cont [.v 11] ()))))))))
      (.leaf (.yield 1) [] ()))))) <|
   (.leaf .ret [.c (.bool true)] ()))))))
/-- laws.eqToldS -/
def tm10 : Tm Unit :=
  (.lt none .len [.v 0] 1 <|
  (.lt none .len [.v 1] 1 <|
  (.lt none (.bin .neq) [.v 2, .v 3] 1 <|
  (.ite (.v 4)
   (.leaf .ret [.c (.bool false)] ())
   (.bind 1
    (.loop [.c (.int .i64 0)]
     (.lt none .len [.v 0] 1 <|
     (.lt none (.bin .lss) [.v 5, .v 6] 1 <|
     (.ite (.v 7)
      (.lt none .inb [.v 0, .v 5] 0 <|
      (.lt none (.row 2 0 [true, true]) [.v 0, .v 5] 2 <|
      (.lt none .inb [.v 1, .v 5] 0 <|
      (.lt none (.row 2 0 [true, true]) [.v 1, .v 5] 2 <|
      (.call none 11 [.v 8, .v 9, .v 10, .v 11] 1 [] <|
      (.lt none .not [.v 12] 1 <|
      (.ite (.v 13)
       (.leaf .ret [.c (.bool false)] ())
       (.lt none (.bin .add) [.v 5, .c (.int .i64 1)] 1 <|
       (.leaf .cont [.v 14] ())))))))))
      (.leaf (.yield 1) [] ()))))) <|
   (.leaf .ret [.c (.bool true)] ()))))))
/-- laws.eqTold -/
def tm11 : Tm Unit :=
  (.lt none (.bin .neq) [.v 0, .v 2] 1 <|
  (.ite (.v 4)
   (.leaf .ret [.c (.bool false)] ())
   (.lt none (.bin .neq) [.v 1, .v 3] 1 <|
   (.ite (.v 5)
    (.leaf .ret [.c (.bool false)] ())
    (.leaf .ret [.c (.bool true)] ())))))
/-- laws.markClerk -/
def tm12 : Tm Unit :=
  (.call none 13 [.v 0, .v 3] 2 [] <|
  (.call none 13 [.v 1, .v 4] 2 [] <|
  (.call none 14 [.v 2, .v 6] 2 [] <|
  (.leaf .ret [.v 8, .v 5, .v 7, .v 9] ()))))
/-- laws.markIntS -/
def tm13 : Tm Unit :=
  (.bind 1
   (.loop [.v 0, .c .undef, .v 1, .c (.int .i64 0)]
    (.lt none .len [.v 2] 1 <|
    (.lt none (.bin .lss) [.v 5, .v 6] 1 <|
    (.ite (.v 7)
     (.lt none .inb [.v 2, .v 5] 0 <|
     (.lt none (.set 1 0 1) [.v 2, .v 5, .v 4] 1 <|
     (.lt none (.bin .add) [.v 4, .c (.int .i64 1)] 1 <|
     (.lt none (.bin .add) [.v 5, .c (.int .i64 1)] 1 <|
     (.leaf .cont [.v 8, .c .undef, .v 9, .v 10] ())))))
     (.leaf (.yield 1) [.v 2, .v 4] ()))))) <|
  (.leaf .ret [.v 3, .v 2] ()))
/-- laws.markToldS -/
def tm14 : Tm Unit :=
  (.bind 1
   (.loop [.v 0, .c .undef, .v 1, .c (.int .i64 0)]
    (.lt none .len [.v 2] 1 <|
    (.lt none (.bin .lss) [.v 5, .v 6] 1 <|
    (.ite (.v 7)
     (.lt none .inb [.v 2, .v 5] 0 <|
     (.lt none (.set 2 0 1) [.v 2, .v 5, .v 4] 1 <|
     (.lt none (.bin .add) [.v 4, .c (.int .i64 1)] 1 <|
     (.lt none .inb [.v 8, .v 5] 0 <|
     (.lt none (.set 2 1 1) [.v 8, .v 5, .v 9] 1 <|
     (.lt none (.bin .add) [.v 9, .c (.int .i64 1)] 1 <|
     (.lt none (.bin .add) [.v 5, .c (.int .i64 1)] 1 <|
     (.leaf .cont [.v 10, .c .undef, .v 11, .v 12] ()))))))))
     (.leaf (.yield 1) [.v 2, .v 4] ()))))) <|
  (.leaf .ret [.v 3, .v 2] ()))
/-- laws.heldClerk -/
def tm15 : Tm Unit :=
  (.call none 16 [.v 0, .v 3] 1 [] <|
  (.lt none (.bin .lss) [.v 4, .c (.int .i64 0)] 1 <|
  (.ite (.v 5)
   (.leaf .ret [.c (.int .i64 (-1))] ())
   (.call none 16 [.v 1, .v 4] 1 [] <|
   (.lt none (.bin .lss) [.v 6, .c (.int .i64 0)] 1 <|
   (.ite (.v 7)
    (.leaf .ret [.c (.int .i64 (-1))] ())
    (.call none 17 [.v 2, .v 6] 1 [] <|
    (.lt none (.bin .lss) [.v 8, .c (.int .i64 0)] 1 <|
    (.ite (.v 9)
     (.leaf .ret [.c (.int .i64 (-1))] ())
     (.leaf .ret [.v 8] ()))))))))))
/-- laws.heldIntS -/
def tm16 : Tm Unit :=
  (.bind 1
   (.loop [.v 1, .c (.int .i64 0)]
    (.lt none .len [.v 0] 1 <|
    (.lt none (.bin .lss) [.v 3, .v 4] 1 <|
    (.ite (.v 5)
     (.lt none .inb [.v 0, .v 3] 0 <|
     (.lt none (.row 1 0 [true]) [.v 0, .v 3] 1 <|
     (.lt none (.bin .neq) [.v 6, .v 2] 1 <|
     (.ite (.v 7)
      (.leaf .ret [.c (.int .i64 (-1))] ())
      (.lt none (.bin .add) [.v 2, .c (.int .i64 1)] 1 <|
      (.lt none (.bin .add) [.v 3, .c (.int .i64 1)] 1 <|
      (.leaf .cont [.v 8, .v 9] ())))))))
     (.leaf (.yield 1) [.v 2] ()))))) <|
  (.leaf .ret [.v 2] ()))
/-- laws.heldToldS -/
def tm17 : Tm Unit :=
  (.bind 1
   (.loop [.v 1, .c (.int .i64 0)]
    (.lt none .len [.v 0] 1 <|
    (.lt none (.bin .lss) [.v 3, .v 4] 1 <|
    (.ite (.v 5)
     (.lt none .inb [.v 0, .v 3] 0 <|
     (.lt none (.row 2 0 [true]) [.v 0, .v 3] 1 <|
     (.lt none (.bin .neq) [.v 6, .v 2] 1 <|
     (.ite (.v 7)
      (.leaf .ret [.c (.int .i64 (-1))] ())
      (.lt none (.bin .add) [.v 2, .c (.int .i64 1)] 1 <|
      (.lt none .inb [.v 0, .v 3] 0 <|
      (.lt none (.row 2 1 [true]) [.v 0, .v 3] 1 <|
      (.lt none (.bin .neq) [.v 9, .v 8] 1 <|
      (.ite (.v 10)
       (.leaf .ret [.c (.int .i64 (-1))] ())
       (.lt none (.bin .add) [.v 8, .c (.int .i64 1)] 1 <|
       (.lt none (.bin .add) [.v 3, .c (.int .i64 1)] 1 <|
       (.leaf .cont [.v 11, .v 12] ()))))))))))))
     (.leaf (.yield 1) [.v 2] ()))))) <|
  (.leaf .ret [.v 2] ()))

def T : Nat → Ent := entTab [(0, .tm tm0), (1, .tm tm1), (2, .tm tm2), (3, .tm tm3), (4, .tm tm4), (5, .ext repE), (8, .tm tm8), (9, .tm tm9), (10, .tm tm10), (11, .tm tm11), (12, .tm tm12), (13, .tm tm13), (14, .tm tm14), (15, .tm tm15), (16, .tm tm16), (17, .tm tm17)]
open Go.RowKit in
set_option maxHeartbeats 2000000 in
theorem repMul (w : World) : Calls Try.prog 173 #[.int .u64 1, .int .u64 4] w fun e w' => e = .returned (.tuple #[.int .u64 0, .int .u64 4]) ∧ w' = w := by
  go_enter Try.func173, Try.ntmps173
  go_wp2
  go_ret2
  exact ⟨rfl, rfl⟩
open Go.RowKit in
set_option maxHeartbeats 2000000 in
theorem repWalk : RepWalk Try.prog 136 := by
  intro a c x w hc
  have hmk : ∀ w, (Instr.makeSlice 22 (.int .i64 4) (.int .i64 4)).run Try.prog w = .ok (.slice (some ⟨w.heap.size, 0, none⟩) 4 4) (w.alloc (.cells #[.int .i64 0, .int .i64 0, .int .i64 0, .int .i64 0] 3)) := fun w => by kernel_rfl
  have hsz : (Try.prog.info? 3).map (·.size) = some 1 := by kernel_rfl
  obtain ⟨W1, e1, b1, hc1⟩ := rep_copy1 (P := Try.prog) 22 3 w a c x Try.underlying22 hsz hc
  obtain ⟨W2, e2, b2, hc2⟩ := rep_copy2 (P := Try.prog) 22 3 w W1 x Try.underlying22 hsz e1 b1
  obtain ⟨W3, e3, b3, hc3⟩ := rep_copy3 (P := Try.prog) 22 3 w W2 x Try.underlying22 hsz e2 b2
  go_enter Try.func136, Try.ntmps136
  go_wp2_with (go_at_call 173; refine (repMul _).mono ?_; rintro e w' ⟨rfl, hw⟩; rw [hw])
  refine wp_loop_rounds 3 ?_
  rw [rounds_succ]
  go_wp2
  go_region
  go_wp2
  rw [rounds_succ]
  go_wp2
  go_region
  go_wp2
  rw [rounds_succ]
  go_wp2
  go_ret
  exact ⟨w.heap.size, 4, 3, rfl, Nat.le_refl _, Nat.le_refl _, Nat.le_refl _, e3, b3⟩
theorem ok5 : FnOk Try.prog T (tiTab tiL) sigs 5 sg5 := rep_ent Try.func136 (by kernel_rfl) rfl repWalk rfl
theorem ok0 : FnOk Try.prog T (tiTab tiL) sigs 0 sg0 := fnOk_tm (E := ⟨tiTab tiL, sigs, 0, 0, false, false, [], []⟩) Try.func3 (by kernel_rfl) (tm := tm0) (by kernel_rfl) (by kernel_rfl)
theorem ok1 : FnOk Try.prog T (tiTab tiL) sigs 1 sg1 := fnOk_tm (E := ⟨tiTab tiL, sigs, 0, 0, false, false, [], []⟩) Try.func9 (by kernel_rfl) (tm := tm1) (by kernel_rfl) (by kernel_rfl)
theorem ok2 : FnOk Try.prog T (tiTab tiL) sigs 2 sg2 := fnOk_tm (E := ⟨tiTab tiL, sigs, 0, 0, false, false, [], []⟩) Try.func68 (by kernel_rfl) (tm := tm2) (by kernel_rfl) (by kernel_rfl)
theorem ok3 : FnOk Try.prog T (tiTab tiL) sigs 3 sg3 := fnOk_tm (E := ⟨tiTab tiL, sigs, 0, 0, false, false, [], []⟩) Try.func10 (by kernel_rfl) (tm := tm3) (by kernel_rfl) (by kernel_rfl)
theorem ok4 : FnOk Try.prog T (tiTab tiL) sigs 4 sg4 := fnOk_tm (E := ⟨tiTab tiL, sigs, 0, 0, false, false, [], []⟩) Try.func69 (by kernel_rfl) (tm := tm4) (by kernel_rfl) (by kernel_rfl)
theorem ok8 : FnOk Try.prog T (tiTab tiL) sigs 8 sg8 := fnOk_tm (E := ⟨tiTab tiL, sigs, 0, 0, false, false, [], []⟩) Try.func11 (by kernel_rfl) (tm := tm8) (by kernel_rfl) (by kernel_rfl)
theorem ok9 : FnOk Try.prog T (tiTab tiL) sigs 9 sg9 := fnOk_tm (E := ⟨tiTab tiL, sigs, 0, 0, false, false, [], []⟩) Try.func24 (by kernel_rfl) (tm := tm9) (by kernel_rfl) (by kernel_rfl)
theorem ok10 : FnOk Try.prog T (tiTab tiL) sigs 10 sg10 := fnOk_tm (E := ⟨tiTab tiL, sigs, 0, 0, false, false, [], []⟩) Try.func23 (by kernel_rfl) (tm := tm10) (by kernel_rfl) (by kernel_rfl)
theorem ok11 : FnOk Try.prog T (tiTab tiL) sigs 11 sg11 := fnOk_tm (E := ⟨tiTab tiL, sigs, 0, 0, false, false, [], []⟩) Try.func78 (by kernel_rfl) (tm := tm11) (by kernel_rfl) (by kernel_rfl)
theorem ok12 : FnOk Try.prog T (tiTab tiL) sigs 12 sg12 := fnOk_tm (E := ⟨tiTab tiL, sigs, 0, 0, false, false, [], []⟩) Try.func12 (by kernel_rfl) (tm := tm12) (by kernel_rfl) (by kernel_rfl)
theorem ok13 : FnOk Try.prog T (tiTab tiL) sigs 13 sg13 := fnOk_tm (E := ⟨tiTab tiL, sigs, 0, 0, false, false, [], []⟩) Try.func26 (by kernel_rfl) (tm := tm13) (by kernel_rfl) (by kernel_rfl)
theorem ok14 : FnOk Try.prog T (tiTab tiL) sigs 14 sg14 := fnOk_tm (E := ⟨tiTab tiL, sigs, 0, 0, false, false, [], []⟩) Try.func25 (by kernel_rfl) (tm := tm14) (by kernel_rfl) (by kernel_rfl)
theorem ok15 : FnOk Try.prog T (tiTab tiL) sigs 15 sg15 := fnOk_tm (E := ⟨tiTab tiL, sigs, 0, 0, false, false, [], []⟩) Try.func13 (by kernel_rfl) (tm := tm15) (by kernel_rfl) (by kernel_rfl)
theorem ok16 : FnOk Try.prog T (tiTab tiL) sigs 16 sg16 := fnOk_tm (E := ⟨tiTab tiL, sigs, 0, 0, false, false, [], []⟩) Try.func28 (by kernel_rfl) (tm := tm16) (by kernel_rfl) (by kernel_rfl)
theorem ok17 : FnOk Try.prog T (tiTab tiL) sigs 17 sg17 := fnOk_tm (E := ⟨tiTab tiL, sigs, 0, 0, false, false, [], []⟩) Try.func27 (by kernel_rfl) (tm := tm17) (by kernel_rfl) (by kernel_rfl)
theorem fns_ok : ∀ key s, (key, s) ∈ sigs → FnOk Try.prog T (tiTab tiL) sigs key s := fnOk_all (List.forall_mem_cons.2 ⟨ok0, List.forall_mem_cons.2 ⟨ok1, List.forall_mem_cons.2 ⟨ok2, List.forall_mem_cons.2 ⟨ok3, List.forall_mem_cons.2 ⟨ok4, List.forall_mem_cons.2 ⟨ok5, List.forall_mem_cons.2 ⟨ok8, List.forall_mem_cons.2 ⟨ok9, List.forall_mem_cons.2 ⟨ok10, List.forall_mem_cons.2 ⟨ok11, List.forall_mem_cons.2 ⟨ok12, List.forall_mem_cons.2 ⟨ok13, List.forall_mem_cons.2 ⟨ok14, List.forall_mem_cons.2 ⟨ok15, List.forall_mem_cons.2 ⟨ok16, List.forall_mem_cons.2 ⟨ok17, List.forall_mem_nil _⟩⟩⟩⟩⟩⟩⟩⟩⟩⟩⟩⟩⟩⟩⟩⟩)
theorem contract : ∀ n, Contract Try.prog T n 0 sg0 := fun n => contracts tiL_ok (by kernel_rfl) fns_ok n 0 sg0 (by simp [sigs])
theorem T_eq : (T 0 = .tm tm0 ∧ T 1 = .tm tm1 ∧ T 2 = .tm tm2 ∧ T 3 = .tm tm3 ∧ T 4 = .tm tm4 ∧ T 5 = .ext repE ∧ T 8 = .tm tm8 ∧ T 9 = .tm tm9 ∧ T 10 = .tm tm10 ∧ T 11 = .tm tm11 ∧ T 12 = .tm tm12 ∧ T 13 = .tm tm13 ∧ T 14 = .tm tm14 ∧ T 15 = .tm tm15 ∧ T 16 = .tm tm16 ∧ T 17 = .tm tm17) := ⟨rfl, rfl, rfl, rfl, rfl, rfl, rfl, rfl, rfl, rfl, rfl, rfl, rfl, rfl, rfl, rfl⟩
end FnExactNewClerk
end Go.Proofs.Ytjoebpmeeampfaa
