/- The terms of the functions that FnExactGoodClerk reaches (printed by the author's own program). -/
import Derived.Test.YtddjpamapmcilaaChecked
import Derived.Test.YtddjpamapmcilaaRf8
import Derived.KernelRfl
namespace Go.Proofs.Ytddjpamapmcilaa
namespace FnExactGoodClerk
open Go Go.Proofs.Ytddjpamapmcilaa.Rf
set_option maxRecDepth 100000

def tiL : List (Nat × TI) := [
  (3, ⟨false, 1, 8, [.sc (.int .i64 0)], [], none, (some .i64), false, false, false, false⟩),
  (4, ⟨false, 1, 1, [.sc (.bool false)], [], none, none, true, false, false, false⟩),
  (22, ⟨false, 1, 24, [.sl 1], [], (some 3), none, false, false, false, false⟩),
  (23, ⟨false, 1, 24, [.sl 2], [], (some 106), none, false, false, false, false⟩),
  (25, ⟨true, 3, 72, [.sl 1, .sl 1, .sl 2], [(0, 22), (1, 22), (2, 23)], none, none, false, false, false, false⟩),
  (28, ⟨false, 1, 24, [.sl 2], [], (some 69), none, false, false, false, false⟩),
  (30, ⟨true, 3, 72, [.sl 1, .sl 1, .sl 2], [(0, 22), (1, 22), (2, 28)], none, none, false, false, false, false⟩),
  (69, ⟨true, 2, 16, [.sc (.int .i64 0), .sc (.int .i64 0)], [(0, 3), (1, 3)], none, none, false, false, false, true⟩),
  (106, ⟨true, 2, 16, [.sc (.int .i64 0), .sc (.int .i64 0)], [(0, 3), (1, 3)], none, none, false, false, false, true⟩)]
theorem ti3 : tiOf Try.prog 3 = some ⟨false, 1, 8, [.sc (.int .i64 0)], [], none, (some .i64), false, false, false, false⟩ := by kernel_rfl
theorem ti4 : tiOf Try.prog 4 = some ⟨false, 1, 1, [.sc (.bool false)], [], none, none, true, false, false, false⟩ := by kernel_rfl
theorem ti22 : tiOf Try.prog 22 = some ⟨false, 1, 24, [.sl 1], [], (some 3), none, false, false, false, false⟩ := by kernel_rfl
theorem ti23 : tiOf Try.prog 23 = some ⟨false, 1, 24, [.sl 2], [], (some 106), none, false, false, false, false⟩ := by kernel_rfl
theorem ti25 : tiOf Try.prog 25 = some ⟨true, 3, 72, [.sl 1, .sl 1, .sl 2], [(0, 22), (1, 22), (2, 23)], none, none, false, false, false, false⟩ := by kernel_rfl
theorem ti28 : tiOf Try.prog 28 = some ⟨false, 1, 24, [.sl 2], [], (some 69), none, false, false, false, false⟩ := by kernel_rfl
theorem ti30 : tiOf Try.prog 30 = some ⟨true, 3, 72, [.sl 1, .sl 1, .sl 2], [(0, 22), (1, 22), (2, 28)], none, none, false, false, false, false⟩ := by kernel_rfl
theorem ti69 : tiOf Try.prog 69 = some ⟨true, 2, 16, [.sc (.int .i64 0), .sc (.int .i64 0)], [(0, 3), (1, 3)], none, none, false, false, false, true⟩ := by kernel_rfl
theorem ti106 : tiOf Try.prog 106 = some ⟨true, 2, 16, [.sc (.int .i64 0), .sc (.int .i64 0)], [(0, 3), (1, 3)], none, none, false, false, false, true⟩ := by kernel_rfl
theorem tiL_ok : TiOk Try.prog (tiTab tiL) := tiTab_ok (l := tiL) (List.forall_mem_cons.2 ⟨ti3, List.forall_mem_cons.2 ⟨ti4, List.forall_mem_cons.2 ⟨ti22, List.forall_mem_cons.2 ⟨ti23, List.forall_mem_cons.2 ⟨ti25, List.forall_mem_cons.2 ⟨ti28, List.forall_mem_cons.2 ⟨ti30, List.forall_mem_cons.2 ⟨ti69, List.forall_mem_cons.2 ⟨ti106, List.forall_mem_nil _⟩⟩⟩⟩⟩⟩⟩⟩⟩)

def sg0 : Sig := ⟨5, [(true, [.fz false, .fz false, .fz false])], [], [(false, [.sc])]⟩
def sg1 : Sig := ⟨8, [(true, [.fz false, .fz false, .fz false]), (false, [.sc])], [], [(false, [.sc])]⟩
def sg2 : Sig := ⟨30, [(false, [.fz false]), (false, [.sc])], [], [(false, [.sc])]⟩
def sg3 : Sig := ⟨31, [(false, [.fz false]), (false, [.sc])], [], [(false, [.sc])]⟩
def sg4 : Sig := ⟨10, [(true, [.fz false, .fz false, .fz false])], [], [(true, [.ow 99, .ow 99, .ow 99])]⟩
def sg5 : Sig := ⟨33, [(false, [.fz false])], [], [(false, [.ow 99])]⟩
def sg6 : Sig := ⟨34, [(false, [.fz false])], [], [(false, [.ow 99])]⟩
def sg7 : Sig := ⟨85, [(true, [.sc, .sc])], [], [(true, [.sc, .sc])]⟩
def sg8 : Sig := ⟨17, [(true, [.fz false, .fz false, .fz false])], [], [(false, [.sc])]⟩
def sg9 : Sig := ⟨45, [(false, [.fz false])], [], [(false, [.sc])]⟩
def sg10 : Sig := ⟨53, [(false, [.sc]), (false, [.sc]), (false, [.sc])], [], [(false, [.sc])]⟩
def sg11 : Sig := ⟨46, [(false, [.fz false]), (false, [.sc]), (false, [.sc])], [], [(false, [.sc])]⟩
def sg12 : Sig := ⟨47, [(true, [.sc, .sc])], [], [(false, [.sc])]⟩
def sg13 : Sig := ⟨18, [(true, [.fz false, .fz false, .fz false])], [], [(false, [.sc])]⟩
def sg14 : Sig := ⟨48, [(false, [.fz false])], [], [(false, [.sc])]⟩
def sg15 : Sig := ⟨88, [(false, [.fz false]), (false, [.clo 89 []])], [], [(false, [.sc])]⟩
def sg16 : Sig := ⟨103, [(false, [.fz false]), (false, [.clo 89 []])], [], [(false, [.sc])]⟩
def sg17 : Sig := ⟨89, [(false, [.sc])], [], [(false, [.sc])]⟩
def sg18 : Sig := ⟨49, [(false, [.sc]), (false, [.sc]), (false, [.sc])], [], [(false, [.sc])]⟩
def sg19 : Sig := ⟨90, [(false, [.fz false])], [], [(false, [.sc])]⟩
def sg20 : Sig := ⟨50, [(true, [.sc, .sc])], [], [(false, [.sc])]⟩
def sg21 : Sig := ⟨12, [(true, [.fz false, .fz false, .fz false]), (true, [.fz false, .fz false, .fz false])], [], [(false, [.sc])]⟩
def sg22 : Sig := ⟨37, [(false, [.fz false]), (false, [.fz false])], [], [(false, [.sc])]⟩
def sg23 : Sig := ⟨38, [(false, [.fz false]), (false, [.fz false])], [], [(false, [.sc])]⟩
def sg24 : Sig := ⟨86, [(true, [.sc, .sc]), (true, [.sc, .sc])], [], [(false, [.sc])]⟩
def sigs : List (Nat × Sig) := [(0, sg0), (1, sg1), (2, sg2), (3, sg3), (4, sg4), (5, sg5), (6, sg6), (7, sg7), (8, sg8), (9, sg9), (10, sg10), (11, sg11), (12, sg12), (13, sg13), (14, sg14), (15, sg15), (16, sg16), (17, sg17), (18, sg18), (19, sg19), (20, sg20), (21, sg21), (22, sg22), (23, sg23), (24, sg24)]

/-- loop.example/g00698/laws.FnExactGoodClerk -/
def tm0 : Tm Unit :=
  (.call none 1 [.v 0, .v 1, .v 2, .c (.int .i64 1048576)] 1 [] <|
  (.lt none (.bin .lss) [.v 3, .c (.int .i64 0)] 1 <|
  (.ite (.v 4)
   (.leaf .ret [.c (.bool true)] ())
   (.call none 4 [.v 0, .v 1, .v 2] 3 [] <|
   (.call none 8 [.v 5, .v 6, .v 7] 1 [] <|
   (.call none 4 [.v 0, .v 1, .v 2] 3 [] <|
   (.call none 13 [.v 9, .v 10, .v 11] 1 [] <|
   (.lt none (.eqb true) [.v 12, .v 8] 1 <|
   (.ite (.v 13)
    (.leaf .ret [.c (.bool false)] ())
    (.call none 4 [.v 0, .v 1, .v 2] 3 [] <|
    (.call none 21 [.v 9, .v 10, .v 11, .v 14, .v 15, .v 16] 1 [] <|
    (.lt none .not [.v 17] 1 <|
    (.ite (.v 18)
     (.leaf .ret [.c (.bool false)] ())
     (.leaf .ret [.c (.bool true)] ()))))))))))))))
/-- loop.example/g00698/laws.szClerk -/
def tm1 : Tm Unit :=
  (.call none 2 [.v 0, .v 3] 1 [] <|
  (.lt none (.bin .lss) [.v 4, .c (.int .i64 0)] 1 <|
  (.ite (.v 5)
   (.leaf .ret [.c (.int .i64 (-1))] ())
   (.call none 2 [.v 1, .v 4] 1 [] <|
   (.lt none (.bin .lss) [.v 6, .c (.int .i64 0)] 1 <|
   (.ite (.v 7)
    (.leaf .ret [.c (.int .i64 (-1))] ())
    (.call none 3 [.v 2, .v 6] 1 [] <|
    (.lt none (.bin .lss) [.v 8, .c (.int .i64 0)] 1 <|
    (.ite (.v 9)
     (.leaf .ret [.c (.int .i64 (-1))] ())
     (.leaf .ret [.v 8] ()))))))))))
/-- loop.example/g00698/laws.szIntS -/
def tm2 : Tm Unit :=
  (.lt none .len [.v 0] 1 <|
  (.lt none (.bin .sub) [.v 1, .v 2] 1 <|
  (.lt none (.bin .lss) [.v 3, .c (.int .i64 0)] 1 <|
  (.ite (.v 4)
   (.leaf .ret [.c (.int .i64 (-1))] ())
   (.leaf .ret [.v 3] ())))))
/-- loop.example/g00698/laws.szToldS -/
def tm3 : Tm Unit :=
  (.lt none .len [.v 0] 1 <|
  (.lt none (.bin .sub) [.v 1, .v 2] 1 <|
  (.lt none (.bin .lss) [.v 3, .c (.int .i64 0)] 1 <|
  (.ite (.v 4)
   (.leaf .ret [.c (.int .i64 (-1))] ())
   (.leaf .ret [.v 3] ())))))
/-- loop.example/g00698/laws.toClerk -/
def tm4 : Tm Unit :=
  (.call none 5 [.v 0] 1 [] <|
  (.call none 5 [.v 1] 1 [] <|
  (.call none 6 [.v 2] 1 [] <|
  (.leaf .ret [.v 3, .v 4, .v 5] ()))))
/-- loop.example/g00698/laws.toIntS -/
def tm5 : Tm Unit :=
  (.lt none .len [.v 0] 1 <|
  (.lt none (.make 8 [(.int .i64 0)]) [.v 1] 1 <|
  (.bind 1
   (.loop [.v 2, .c (.int .i64 0)]
    (.lt none .len [.v 0] 1 <|
    (.lt none (.bin .lss) [.v 4, .v 5] 1 <|
    (.ite (.v 6)
     (.lt none .inb [.v 0, .v 4] 0 <|
     (.lt none (.row 1 0 [true]) [.v 0, .v 4] 1 <|
     (.lt none .inb [.v 3, .v 4] 0 <|
     (.lt none (.set 1 0 1) [.v 3, .v 4, .v 7] 1 <|
     (.lt none (.bin .add) [.v 4, .c (.int .i64 1)] 1 <|
     (.leaf .cont [.v 8, .v 9] ()))))))
     (.leaf (.yield 1) [.v 3] ()))))) <|
  (.leaf .ret [.v 3] ()))))
/-- loop.example/g00698/laws.toToldS -/
def tm6 : Tm Unit :=
  (.lt none .len [.v 0] 1 <|
  (.lt none (.make 16 [(.int .i64 0), (.int .i64 0)]) [.v 1] 1 <|
  (.bind 1
   (.loop [.v 2, .c (.int .i64 0)]
    (.lt none .len [.v 0] 1 <|
    (.lt none (.bin .lss) [.v 4, .v 5] 1 <|
    (.ite (.v 6)
     (.lt none .inb [.v 0, .v 4] 0 <|
     (.lt none (.row 2 0 [true, true]) [.v 0, .v 4] 2 <|
     (.call none 7 [.v 7, .v 8] 2 [] <|
     (.lt none .inb [.v 3, .v 4] 0 <|
     (.lt none (.set 2 0 2) [.v 3, .v 4, .v 9, .v 10] 1 <|
     (.lt none (.bin .add) [.v 4, .c (.int .i64 1)] 1 <|
     (.leaf .cont [.v 11, .v 12] ())))))))
     (.leaf (.yield 1) [.v 3] ()))))) <|
  (.leaf .ret [.v 3] ()))))
/-- loop.example/g00698/laws.toTold -/
def tm7 : Tm Unit :=
  (.leaf .ret [.v 0, .v 1] ())
/-- loop.example/g00698/spec.GoodClerk -/
def tm8 : Tm Unit :=
  (.call none 9 [.v 0] 1 [] <|
  (.lt none .not [.v 3] 1 <|
  (.lt (some (.v 4, false)) .len [.v 1] 1 <|
  (.lt (some (.v 4, false)) (.bin .neq) [.v 5, .c (.int .i64 4)] 1 <|
  (.lt none .pick [.v 4, .c (.bool true), .v 6] 1 <|
  (.lt (some (.v 7, false)) .len [.v 2] 1 <|
  (.lt (some (.v 7, false)) (.bin .neq) [.v 8, .c (.int .i64 4)] 1 <|
  (.lt none .pick [.v 7, .c (.bool true), .v 9] 1 <|
  (.call (some (.v 10, false)) 11 [.v 1, .c (.int .i64 0), .c (.int .i64 999)] 1 [] <|
  (.lt (some (.v 10, false)) .not [.v 11] 1 <|
  (.lt none .pick [.v 10, .c (.bool true), .v 12] 1 <|
  (.ite (.v 13)
   (.leaf .ret [.c (.bool false)] ())
   (.lt none .len [.v 2] 1 <|
   (.bind 1
    (.loop [.c (.int .i64 0)]
     (.lt none (.bin .lss) [.v 15, .v 14] 1 <|
     (.ite (.v 16)
      (.lt none .inb [.v 2, .v 15] 0 <|
      (.lt none (.row 2 0 [true, true]) [.v 2, .v 15] 2 <|
      (.call none 12 [.v 17, .v 18] 1 [] <|
      (.lt none .not [.v 19] 1 <|
      (.lt (some (.v 20, false)) .id [.v 15] 1 <|
      (.lt (some (.v 20, false)) .inb [.v 1, .v 21] 0 <|
      (.lt (some (.v 20, false)) (.row 1 0 [true]) [.v 1, .v 21] 1 <|
      (.lt (some (.v 20, false)) (.bin .eql) [.v 22, .c (.int .i64 0)] 1 <|
      (.lt (some (.v 20, false)) .id [.v 23] 1 <|
      (.lt (some (.v 24, true)) .id [.v 17] 1 <|
      (.lt (some (.v 24, true)) (.bin .neq) [.v 25, .c (.int .i64 0)] 1 <|
      (.lt (some (.v 20, false)) .pick [.v 24, .v 26, .c (.bool false)] 1 <|
      (.lt none .pick [.v 20, .c (.bool true), .v 27] 1 <|
      (.ite (.v 28)
       (.leaf .ret [.c (.bool false)] ())
       (.lt none (.bin .add) [.v 15, .c (.int .i64 1)] 1 <|
       (.leaf .cont [.v 29] ()))))))))))))))))
      (.leaf (.yield 1) [] ())))) <|
   (.leaf .ret [.c (.bool true)] ())))))))))))))))
/-- loop.example/g00698/spec.GoodSums -/
def tm9 : Tm Unit :=
  (.lt none .len [.v 0] 1 <|
  (.bind 1
   (.loop [.c (.int .i64 0), .c (.int .i64 0)]
    (.lt none (.bin .lss) [.v 3, .v 1] 1 <|
    (.ite (.v 4)
     (.lt none .inb [.v 0, .v 3] 0 <|
     (.lt none (.row 1 0 [true]) [.v 0, .v 3] 1 <|
     (.call none 10 [.v 5, .c (.int .i64 0), .c (.int .i64 400)] 1 [] <|
     (.lt none .not [.v 6] 1 <|
     (.ite (.v 7)
      (.leaf .ret [.c (.bool false)] ())
      (.lt none (.bin .add) [.v 2, .v 5] 1 <|
      (.lt none (.bin .add) [.v 3, .c (.int .i64 1)] 1 <|
      (.leaf .cont [.v 8, .v 9] ()))))))))
     (.leaf (.yield 1) [.v 2] ())))) <|
  (.lt none .len [.v 0] 1 <|
  (.lt none (.bin .eql) [.v 3, .c (.int .i64 4)] 1 <|
  (.lt (some (.v 4, true)) .id [.v 2] 1 <|
  (.lt (some (.v 4, true)) (.bin .eql) [.v 5, .c (.int .i64 400)] 1 <|
  (.lt none .pick [.v 4, .v 6, .c (.bool false)] 1 <|
  (.leaf .ret [.v 7] ()))))))))
/-- loop.example/g00698/spec.l1In -/
def tm10 : Tm Unit :=
  (.lt none (.bin .geq) [.v 0, .v 1] 1 <|
  (.lt (some (.v 3, true)) .id [.v 0] 1 <|
  (.lt (some (.v 3, true)) .id [.v 2] 1 <|
  (.lt (some (.v 3, true)) (.bin .leq) [.v 4, .v 5] 1 <|
  (.lt none .pick [.v 3, .v 6, .c (.bool false)] 1 <|
  (.leaf .ret [.v 7] ()))))))
/-- loop.example/g00698/spec.l1All -/
def tm11 : Tm Unit :=
  (.lt none .len [.v 0] 1 <|
  (.bind 1
   (.loop [.c (.int .i64 0)]
    (.lt none (.bin .lss) [.v 4, .v 3] 1 <|
    (.ite (.v 5)
     (.lt none .inb [.v 0, .v 4] 0 <|
     (.lt none (.row 1 0 [true]) [.v 0, .v 4] 1 <|
     (.call none 10 [.v 6, .v 1, .v 2] 1 [] <|
     (.lt none .not [.v 7] 1 <|
     (.ite (.v 8)
      (.leaf .ret [.c (.bool false)] ())
      (.lt none (.bin .add) [.v 4, .c (.int .i64 1)] 1 <|
      (.leaf .cont [.v 9] ())))))))
     (.leaf (.yield 1) [] ())))) <|
  (.leaf .ret [.c (.bool true)] ())))
/-- loop.example/g00698/spec.l15Told -/
def tm12 : Tm Unit :=
  (.call none 10 [.v 0, .c (.int .i64 0), .c (.int .i64 3)] 1 [] <|
  (.lt (some (.v 2, true)) .id [.v 1] 1 <|
  (.call (some (.v 2, true)) 10 [.v 3, .c (.int .i64 0), .c (.int .i64 400)] 1 [] <|
  (.lt none .pick [.v 2, .v 4, .c (.bool false)] 1 <|
  (.lt (some (.v 5, true)) .id [.v 0] 1 <|
  (.lt (some (.v 5, true)) (.bin .eql) [.v 6, .c (.int .i64 3)] 1 <|
  (.lt (some (.v 5, true)) .id [.v 7] 1 <|
  (.lt (some (.v 8, false)) .id [.v 1] 1 <|
  (.lt (some (.v 8, false)) (.bin .eql) [.v 9, .c (.int .i64 0)] 1 <|
  (.lt (some (.v 5, true)) .pick [.v 8, .c (.bool true), .v 10] 1 <|
  (.lt none .pick [.v 5, .v 11, .c (.bool false)] 1 <|
  (.leaf .ret [.v 12] ()))))))))))))
/-- loop.example/g00698/impl.GoodClerk -/
def tm13 : Tm Unit :=
  (.call none 14 [.v 0] 1 [] <|
  (.lt none .not [.v 3] 1 <|
  (.lt (some (.v 4, false)) .len [.v 1] 1 <|
  (.lt (some (.v 4, false)) (.bin .neq) [.v 5, .c (.int .i64 4)] 1 <|
  (.lt none .pick [.v 4, .c (.bool true), .v 6] 1 <|
  (.lt (some (.v 7, false)) .len [.v 2] 1 <|
  (.lt (some (.v 7, false)) (.bin .neq) [.v 8, .c (.int .i64 4)] 1 <|
  (.lt none .pick [.v 7, .c (.bool true), .v 9] 1 <|
  (.ite (.v 10)
   (.leaf .ret [.c (.bool false)] ())
   (.lt none .len [.v 1] 1 <|
   (.bind 1
    (.loop [.c (.int .i64 0)]
     (.lt none (.bin .lss) [.v 12, .v 11] 1 <|
     (.ite (.v 13)
      (.lt none .inb [.v 1, .v 12] 0 <|
      (.lt none (.row 1 0 [true]) [.v 1, .v 12] 1 <|
      (.call none 18 [.v 14, .c (.int .i64 0), .c (.int .i64 999)] 1 [] <|
      (.lt none .not [.v 15] 1 <|
      (.lt (some (.v 16, false)) .id [.v 12] 1 <|
      (.lt (some (.v 16, false)) .inb [.v 2, .v 17] 0 <|
      (.lt (some (.v 16, false)) (.row 2 0 [true, true]) [.v 2, .v 17] 2 <|
      (.call (some (.v 16, false)) 20 [.v 18, .v 19] 1 [] <|
      (.lt (some (.v 16, false)) .not [.v 20] 1 <|
      (.lt none .pick [.v 16, .c (.bool true), .v 21] 1 <|
      (.lt (some (.v 22, false)) .id [.v 14] 1 <|
      (.lt (some (.v 22, false)) (.bin .eql) [.v 23, .c (.int .i64 0)] 1 <|
      (.lt (some (.v 22, false)) .id [.v 24] 1 <|
      (.lt (some (.v 25, true)) .id [.v 12] 1 <|
      (.lt (some (.v 25, true)) .inb [.v 2, .v 26] 0 <|
      (.lt (some (.v 25, true)) (.row 2 0 [true]) [.v 2, .v 26] 1 <|
      (.lt (some (.v 25, true)) (.bin .neq) [.v 27, .c (.int .i64 0)] 1 <|
      (.lt (some (.v 22, false)) .pick [.v 25, .v 28, .c (.bool false)] 1 <|
      (.lt none .pick [.v 22, .c (.bool true), .v 29] 1 <|
      (.ite (.v 30)
       (.leaf .ret [.c (.bool false)] ())
       (.lt none (.bin .add) [.v 12, .c (.int .i64 1)] 1 <|
       (.leaf .cont [.v 31] ()))))))))))))))))))))))
      (.leaf (.yield 1) [] ())))) <|
   (.leaf .ret [.c (.bool true)] ()))))))))))))
/-- loop.example/g00698/impl.GoodSums -/
def tm14 : Tm Unit :=
  (.lt none .len [.v 0] 1 <|
  (.lt none (.bin .eql) [.v 1, .c (.int .i64 4)] 1 <|
  (.call (some (.v 2, true)) 15 [.v 0] 1 [] <|
  (.lt (some (.v 2, true)) .not [.v 3] 1 <|
  (.lt none .pick [.v 2, .v 4, .c (.bool false)] 1 <|
  (.call (some (.v 5, true)) 19 [.v 0] 1 [] <|
  (.lt (some (.v 5, true)) (.bin .eql) [.v 6, .c (.int .i64 400)] 1 <|
  (.lt none .pick [.v 5, .v 7, .c (.bool false)] 1 <|
  (.leaf .ret [.v 8] ())))))))))
/-- slices.ContainsFunc[[]int,int] -/
def tm15 : Tm Unit :=
  (.call none 16 [.v 0] 1 [] <|
  (.lt none (.bin .geq) [.v 1, .c (.int .i64 0)] 1 <|
  (.leaf .ret [.v 2] ())))
/-- slices.IndexFunc[[]int,int] -/
def tm16 : Tm Unit :=
  (.lt none .len [.v 0] 1 <|
  (.bind 1
   (.loop [.c (.int .i64 0)]
    (.lt none (.bin .lss) [.v 2, .v 1] 1 <|
    (.ite (.v 3)
     (.lt none .inb [.v 0, .v 2] 0 <|
     (.lt none (.row 1 0 [true]) [.v 0, .v 2] 1 <|
     (.call none 17 [.v 4] 1 [] <|
     (.ite (.v 5)
      (.leaf .ret [.v 2] ())
      (.lt none (.bin .add) [.v 2, .c (.int .i64 1)] 1 <|
      (.leaf .cont [.v 6] ()))))))
     (.leaf (.yield 1) [] ())))) <|
  (.leaf .ret [.c (.int .i64 (-1))] ())))
/-- loop.example/g00698/impl.GoodSums$1 -/
def tm17 : Tm Unit :=
  (.call none 18 [.v 0, .c (.int .i64 0), .c (.int .i64 400)] 1 [] <|
  (.lt none .not [.v 1] 1 <|
  (.leaf .ret [.v 2] ())))
/-- loop.example/g00698/impl.within -/
def tm18 : Tm Unit :=
  (.lt none (.bin .leq) [.v 1, .v 0] 1 <|
  (.lt (some (.v 3, true)) .id [.v 0] 1 <|
  (.lt (some (.v 3, true)) .id [.v 2] 1 <|
  (.lt (some (.v 3, true)) (.bin .leq) [.v 4, .v 5] 1 <|
  (.lt none .pick [.v 3, .v 6, .c (.bool false)] 1 <|
  (.leaf .ret [.v 7] ()))))))
/-- loop.example/g00698/impl.total -/
def tm19 : Tm Unit :=
  (.lt none .len [.v 0] 1 <|
  (.bind 1
   (.loop [.c (.int .i64 0), .c (.int .i64 0)]
    (.lt none (.bin .lss) [.v 3, .v 1] 1 <|
    (.ite (.v 4)
     (.lt none .inb [.v 0, .v 3] 0 <|
     (.lt none (.row 1 0 [true]) [.v 0, .v 3] 1 <|
     (.lt none (.bin .add) [.v 2, .v 5] 1 <|
     (.lt none (.bin .add) [.v 3, .c (.int .i64 1)] 1 <|
     (.leaf .cont [.v 6, .v 7] ())))))
     (.leaf (.yield 1) [.v 2] ())))) <|
  (.leaf .ret [.v 2] ())))
/-- loop.example/g00698/impl.goodTold -/
def tm20 : Tm Unit :=
  (.call none 18 [.v 0, .c (.int .i64 0), .c (.int .i64 3)] 1 [] <|
  (.lt (some (.v 2, true)) .id [.v 1] 1 <|
  (.call (some (.v 2, true)) 18 [.v 3, .c (.int .i64 0), .c (.int .i64 400)] 1 [] <|
  (.lt none .pick [.v 2, .v 4, .c (.bool false)] 1 <|
  (.lt (some (.v 5, true)) .id [.v 0] 1 <|
  (.lt (some (.v 5, true)) (.bin .eql) [.v 6, .c (.int .i64 3)] 1 <|
  (.lt (some (.v 5, true)) .id [.v 7] 1 <|
  (.lt (some (.v 8, false)) .id [.v 1] 1 <|
  (.lt (some (.v 8, false)) (.bin .eql) [.v 9, .c (.int .i64 0)] 1 <|
  (.lt (some (.v 5, true)) .pick [.v 8, .c (.bool true), .v 10] 1 <|
  (.lt none .pick [.v 5, .v 11, .c (.bool false)] 1 <|
  (.leaf .ret [.v 12] ()))))))))))))
/-- loop.example/g00698/laws.eqClerk -/
def tm21 : Tm Unit :=
  (.call none 22 [.v 0, .v 3] 1 [] <|
  (.lt none .not [.v 6] 1 <|
  (.ite (.v 7)
   (.leaf .ret [.c (.bool false)] ())
   (.call none 22 [.v 1, .v 4] 1 [] <|
   (.lt none .not [.v 8] 1 <|
   (.ite (.v 9)
    (.leaf .ret [.c (.bool false)] ())
    (.call none 23 [.v 2, .v 5] 1 [] <|
    (.lt none .not [.v 10] 1 <|
    (.ite (.v 11)
     (.leaf .ret [.c (.bool false)] ())
     (.leaf .ret [.c (.bool true)] ()))))))))))
/-- loop.example/g00698/laws.eqIntS -/
def tm22 : Tm Unit :=
  (.lt none .len [.v 0] 1 <|
  (.lt none .len [.v 1] 1 <|
  (.lt none (.bin .neq) [.v 2, .v 3] 1 <|
  (.ite (.v 4)
   (.leaf .ret [.c (.bool false)] ())
   (.bind 1
    (.loop [.c (.int .i64 0)]
     (.lt none .len [.v 0] 1 <|
     (.lt none (.bin .lss) [.v 5, .v 6] 1 <|
     (.ite (.v 7)
      (.lt none .inb [.v 0, .v 5] 0 <|
      (.lt none (.row 1 0 [true]) [.v 0, .v 5] 1 <|
      (.lt none .inb [.v 1, .v 5] 0 <|
      (.lt none (.row 1 0 [true]) [.v 1, .v 5] 1 <|
      (.lt none (.bin .neq) [.v 8, .v 9] 1 <|
      (.ite (.v 10)
       (.leaf .ret [.c (.bool false)] ())
       (.lt none (.bin .add) [.v 5, .c (.int .i64 1)] 1 <|
       (.leaf .cont [.v 11] ()))))))))
      (.leaf (.yield 1) [] ()))))) <|
   (.leaf .ret [.c (.bool true)] ()))))))
/-- loop.example/g00698/laws.eqToldS -/
def tm23 : Tm Unit :=
  (.lt none .len [.v 0] 1 <|
  (.lt none .len [.v 1] 1 <|
  (.lt none (.bin .neq) [.v 2, .v 3] 1 <|
  (.ite (.v 4)
   (.leaf .ret [.c (.bool false)] ())
   (.bind 1
    (.loop [.c (.int .i64 0)]
     (.lt none .len [.v 0] 1 <|
     (.lt none (.bin .lss) [.v 5, .v 6] 1 <|
     (.ite (.v 7)
      (.lt none .inb [.v 0, .v 5] 0 <|
      (.lt none (.row 2 0 [true, true]) [.v 0, .v 5] 2 <|
      (.lt none .inb [.v 1, .v 5] 0 <|
      (.lt none (.row 2 0 [true, true]) [.v 1, .v 5] 2 <|
      (.call none 24 [.v 8, .v 9, .v 10, .v 11] 1 [] <|
      (.lt none .not [.v 12] 1 <|
      (.ite (.v 13)
       (.leaf .ret [.c (.bool false)] ())
       (.lt none (.bin .add) [.v 5, .c (.int .i64 1)] 1 <|
       (.leaf .cont [.v 14] ())))))))))
      (.leaf (.yield 1) [] ()))))) <|
   (.leaf .ret [.c (.bool true)] ()))))))
/-- loop.example/g00698/laws.eqTold -/
def tm24 : Tm Unit :=
  (.lt none (.bin .neq) [.v 0, .v 2] 1 <|
  (.ite (.v 4)
   (.leaf .ret [.c (.bool false)] ())
   (.lt none (.bin .neq) [.v 1, .v 3] 1 <|
   (.ite (.v 5)
    (.leaf .ret [.c (.bool false)] ())
    (.leaf .ret [.c (.bool true)] ())))))

def T : Nat → Ent := entTab [(0, .tm tm0), (1, .tm tm1), (2, .tm tm2), (3, .tm tm3), (4, .tm tm4), (5, .tm tm5), (6, .tm tm6), (7, .tm tm7), (8, .tm tm8), (9, .tm tm9), (10, .tm tm10), (11, .tm tm11), (12, .tm tm12), (13, .tm tm13), (14, .tm tm14), (15, .tm tm15), (16, .tm tm16), (17, .tm tm17), (18, .tm tm18), (19, .tm tm19), (20, .tm tm20), (21, .tm tm21), (22, .tm tm22), (23, .tm tm23), (24, .tm tm24)]
theorem ok0 : FnOk Try.prog T (tiTab tiL) sigs 0 sg0 := fnOk_tm (E := ⟨tiTab tiL, sigs, 0, 0, false, false, []⟩) Try.func5 (by kernel_rfl) (tm := tm0) (by kernel_rfl) (by kernel_rfl)
theorem ok1 : FnOk Try.prog T (tiTab tiL) sigs 1 sg1 := fnOk_tm (E := ⟨tiTab tiL, sigs, 0, 0, false, false, []⟩) Try.func8 (by kernel_rfl) (tm := tm1) (by kernel_rfl) (by kernel_rfl)
theorem ok2 : FnOk Try.prog T (tiTab tiL) sigs 2 sg2 := fnOk_tm (E := ⟨tiTab tiL, sigs, 0, 0, false, false, []⟩) Try.func30 (by kernel_rfl) (tm := tm2) (by kernel_rfl) (by kernel_rfl)
theorem ok3 : FnOk Try.prog T (tiTab tiL) sigs 3 sg3 := fnOk_tm (E := ⟨tiTab tiL, sigs, 0, 0, false, false, []⟩) Try.func31 (by kernel_rfl) (tm := tm3) (by kernel_rfl) (by kernel_rfl)
theorem ok4 : FnOk Try.prog T (tiTab tiL) sigs 4 sg4 := fnOk_tm (E := ⟨tiTab tiL, sigs, 0, 0, false, false, []⟩) Try.func10 (by kernel_rfl) (tm := tm4) (by kernel_rfl) (by kernel_rfl)
theorem ok5 : FnOk Try.prog T (tiTab tiL) sigs 5 sg5 := fnOk_tm (E := ⟨tiTab tiL, sigs, 0, 0, false, false, []⟩) Try.func33 (by kernel_rfl) (tm := tm5) (by kernel_rfl) (by kernel_rfl)
theorem ok6 : FnOk Try.prog T (tiTab tiL) sigs 6 sg6 := fnOk_tm (E := ⟨tiTab tiL, sigs, 0, 0, false, false, []⟩) Try.func34 (by kernel_rfl) (tm := tm6) (by kernel_rfl) (by kernel_rfl)
theorem ok7 : FnOk Try.prog T (tiTab tiL) sigs 7 sg7 := fnOk_tm (E := ⟨tiTab tiL, sigs, 0, 0, false, false, []⟩) Try.func85 (by kernel_rfl) (tm := tm7) (by kernel_rfl) (by kernel_rfl)
theorem ok8 : FnOk Try.prog T (tiTab tiL) sigs 8 sg8 := fnOk_tm (E := ⟨tiTab tiL, sigs, 0, 0, false, false, []⟩) Try.func17 (by kernel_rfl) (tm := tm8) (by kernel_rfl) (by kernel_rfl)
theorem ok9 : FnOk Try.prog T (tiTab tiL) sigs 9 sg9 := fnOk_tm (E := ⟨tiTab tiL, sigs, 0, 0, false, false, []⟩) Try.func45 (by kernel_rfl) (tm := tm9) (by kernel_rfl) (by kernel_rfl)
theorem ok10 : FnOk Try.prog T (tiTab tiL) sigs 10 sg10 := fnOk_tm (E := ⟨tiTab tiL, sigs, 0, 0, false, false, []⟩) Try.func53 (by kernel_rfl) (tm := tm10) (by kernel_rfl) (by kernel_rfl)
theorem ok11 : FnOk Try.prog T (tiTab tiL) sigs 11 sg11 := fnOk_tm (E := ⟨tiTab tiL, sigs, 0, 0, false, false, []⟩) Try.func46 (by kernel_rfl) (tm := tm11) (by kernel_rfl) (by kernel_rfl)
theorem ok12 : FnOk Try.prog T (tiTab tiL) sigs 12 sg12 := fnOk_tm (E := ⟨tiTab tiL, sigs, 0, 0, false, false, []⟩) Try.func47 (by kernel_rfl) (tm := tm12) (by kernel_rfl) (by kernel_rfl)
theorem ok13 : FnOk Try.prog T (tiTab tiL) sigs 13 sg13 := fnOk_tm (E := ⟨tiTab tiL, sigs, 0, 0, false, false, []⟩) Try.func18 (by kernel_rfl) (tm := tm13) (by kernel_rfl) (by kernel_rfl)
theorem ok14 : FnOk Try.prog T (tiTab tiL) sigs 14 sg14 := fnOk_tm (E := ⟨tiTab tiL, sigs, 0, 0, false, false, []⟩) Try.func48 (by kernel_rfl) (tm := tm14) (by kernel_rfl) (by kernel_rfl)
theorem ok15 : FnOk Try.prog T (tiTab tiL) sigs 15 sg15 := fnOk_tm (E := ⟨tiTab tiL, sigs, 0, 0, false, false, []⟩) Try.func88 (by kernel_rfl) (tm := tm15) (by kernel_rfl) (by kernel_rfl)
theorem ok16 : FnOk Try.prog T (tiTab tiL) sigs 16 sg16 := fnOk_tm (E := ⟨tiTab tiL, sigs, 0, 0, false, false, []⟩) Try.func103 (by kernel_rfl) (tm := tm16) (by kernel_rfl) (by kernel_rfl)
theorem ok17 : FnOk Try.prog T (tiTab tiL) sigs 17 sg17 := fnOk_tm (E := ⟨tiTab tiL, sigs, 0, 0, false, false, []⟩) Try.func89 (by kernel_rfl) (tm := tm17) (by kernel_rfl) (by kernel_rfl)
theorem ok18 : FnOk Try.prog T (tiTab tiL) sigs 18 sg18 := fnOk_tm (E := ⟨tiTab tiL, sigs, 0, 0, false, false, []⟩) Try.func49 (by kernel_rfl) (tm := tm18) (by kernel_rfl) (by kernel_rfl)
theorem ok19 : FnOk Try.prog T (tiTab tiL) sigs 19 sg19 := fnOk_tm (E := ⟨tiTab tiL, sigs, 0, 0, false, false, []⟩) Try.func90 (by kernel_rfl) (tm := tm19) (by kernel_rfl) (by kernel_rfl)
theorem ok20 : FnOk Try.prog T (tiTab tiL) sigs 20 sg20 := fnOk_tm (E := ⟨tiTab tiL, sigs, 0, 0, false, false, []⟩) Try.func50 (by kernel_rfl) (tm := tm20) (by kernel_rfl) (by kernel_rfl)
theorem ok21 : FnOk Try.prog T (tiTab tiL) sigs 21 sg21 := fnOk_tm (E := ⟨tiTab tiL, sigs, 0, 0, false, false, []⟩) Try.func12 (by kernel_rfl) (tm := tm21) (by kernel_rfl) (by kernel_rfl)
theorem ok22 : FnOk Try.prog T (tiTab tiL) sigs 22 sg22 := fnOk_tm (E := ⟨tiTab tiL, sigs, 0, 0, false, false, []⟩) Try.func37 (by kernel_rfl) (tm := tm22) (by kernel_rfl) (by kernel_rfl)
theorem ok23 : FnOk Try.prog T (tiTab tiL) sigs 23 sg23 := fnOk_tm (E := ⟨tiTab tiL, sigs, 0, 0, false, false, []⟩) Try.func38 (by kernel_rfl) (tm := tm23) (by kernel_rfl) (by kernel_rfl)
theorem ok24 : FnOk Try.prog T (tiTab tiL) sigs 24 sg24 := fnOk_tm (E := ⟨tiTab tiL, sigs, 0, 0, false, false, []⟩) Try.func86 (by kernel_rfl) (tm := tm24) (by kernel_rfl) (by kernel_rfl)
theorem fns_ok : ∀ key s, (key, s) ∈ sigs → FnOk Try.prog T (tiTab tiL) sigs key s := fnOk_all (List.forall_mem_cons.2 ⟨ok0, List.forall_mem_cons.2 ⟨ok1, List.forall_mem_cons.2 ⟨ok2, List.forall_mem_cons.2 ⟨ok3, List.forall_mem_cons.2 ⟨ok4, List.forall_mem_cons.2 ⟨ok5, List.forall_mem_cons.2 ⟨ok6, List.forall_mem_cons.2 ⟨ok7, List.forall_mem_cons.2 ⟨ok8, List.forall_mem_cons.2 ⟨ok9, List.forall_mem_cons.2 ⟨ok10, List.forall_mem_cons.2 ⟨ok11, List.forall_mem_cons.2 ⟨ok12, List.forall_mem_cons.2 ⟨ok13, List.forall_mem_cons.2 ⟨ok14, List.forall_mem_cons.2 ⟨ok15, List.forall_mem_cons.2 ⟨ok16, List.forall_mem_cons.2 ⟨ok17, List.forall_mem_cons.2 ⟨ok18, List.forall_mem_cons.2 ⟨ok19, List.forall_mem_cons.2 ⟨ok20, List.forall_mem_cons.2 ⟨ok21, List.forall_mem_cons.2 ⟨ok22, List.forall_mem_cons.2 ⟨ok23, List.forall_mem_cons.2 ⟨ok24, List.forall_mem_nil _⟩⟩⟩⟩⟩⟩⟩⟩⟩⟩⟩⟩⟩⟩⟩⟩⟩⟩⟩⟩⟩⟩⟩⟩⟩)
theorem contract : ∀ n, Contract Try.prog T n 0 sg0 := fun n => contracts tiL_ok (by kernel_rfl) fns_ok n 0 sg0 (by simp [sigs])
theorem T_eq : (T 0 = .tm tm0 ∧ T 1 = .tm tm1 ∧ T 2 = .tm tm2 ∧ T 3 = .tm tm3 ∧ T 4 = .tm tm4 ∧ T 5 = .tm tm5 ∧ T 6 = .tm tm6 ∧ T 7 = .tm tm7 ∧ T 8 = .tm tm8 ∧ T 9 = .tm tm9 ∧ T 10 = .tm tm10 ∧ T 11 = .tm tm11 ∧ T 12 = .tm tm12 ∧ T 13 = .tm tm13 ∧ T 14 = .tm tm14 ∧ T 15 = .tm tm15 ∧ T 16 = .tm tm16 ∧ T 17 = .tm tm17 ∧ T 18 = .tm tm18 ∧ T 19 = .tm tm19 ∧ T 20 = .tm tm20 ∧ T 21 = .tm tm21 ∧ T 22 = .tm tm22 ∧ T 23 = .tm tm23 ∧ T 24 = .tm tm24) := ⟨rfl, rfl, rfl, rfl, rfl, rfl, rfl, rfl, rfl, rfl, rfl, rfl, rfl, rfl, rfl, rfl, rfl, rfl, rfl, rfl, rfl, rfl, rfl, rfl, rfl⟩
end FnExactGoodClerk
end Go.Proofs.Ytddjpamapmcilaa
