/- The terms of the functions that FnExactGoodMsg reaches (printed by the author's own program). -/
import Derived.Test.YtacfmplofkjonaaChecked
import Derived.Test.YtacfmplofkjonaaRf9
import Derived.KernelRfl
namespace Go.Proofs.Ytacfmplofkjonaa
namespace FnExactGoodMsg
open Go Go.Proofs.Ytacfmplofkjonaa.Rf
set_option maxRecDepth 100000

def tiL : List (Nat × TI) := [
  (3, ⟨false, 1, 8, [.sc (.int .i64 0)], [], none, (some .i64), false, false, false, false⟩),
  (4, ⟨false, 1, 1, [.sc (.bool false)], [], none, none, true, false, false, false⟩),
  (22, ⟨false, 1, 24, [.sl 1], [], (some 3), none, false, false, false, false⟩),
  (31, ⟨true, 5, 40, [.sc (.int .i64 0), .sc (.int .i64 0), .sc (.int .i64 0), .sc (.int .i64 0), .sc (.int .i64 0)], [(0, 3), (1, 3), (2, 3), (3, 3), (4, 3)], none, none, false, false, false, true⟩),
  (33, ⟨true, 2, 32, [.sc (.int .i64 0), .sl 1], [(0, 3), (1, 22)], none, none, false, false, false, false⟩),
  (35, ⟨true, 15, 136, [.sc (.int .i64 0), .sc (.int .i64 0), .sc (.int .i64 0), .sc (.int .i64 0), .sc (.int .i64 0), .sc (.int .i64 0), .sc (.int .i64 0), .sc (.int .i64 0), .sc (.int .i64 0), .sc (.int .i64 0), .sc (.int .i64 0), .sc (.int .i64 0), .sc (.int .i64 0), .sc (.int .i64 0), .sl 1], [(0, 3), (1, 3), (2, 3), (3, 3), (4, 3), (5, 3), (6, 3), (7, 3), (8, 31), (13, 33)], none, none, false, false, false, false⟩),
  (38, ⟨true, 5, 40, [.sc (.int .i64 0), .sc (.int .i64 0), .sc (.int .i64 0), .sc (.int .i64 0), .sc (.int .i64 0)], [(0, 3), (1, 3), (2, 3), (3, 3), (4, 3)], none, none, false, false, false, true⟩),
  (39, ⟨true, 2, 32, [.sc (.int .i64 0), .sl 1], [(0, 3), (1, 22)], none, none, false, false, false, false⟩),
  (41, ⟨true, 15, 136, [.sc (.int .i64 0), .sc (.int .i64 0), .sc (.int .i64 0), .sc (.int .i64 0), .sc (.int .i64 0), .sc (.int .i64 0), .sc (.int .i64 0), .sc (.int .i64 0), .sc (.int .i64 0), .sc (.int .i64 0), .sc (.int .i64 0), .sc (.int .i64 0), .sc (.int .i64 0), .sc (.int .i64 0), .sl 1], [(0, 3), (1, 3), (2, 3), (3, 3), (4, 3), (5, 3), (6, 3), (7, 3), (8, 38), (13, 39)], none, none, false, false, false, false⟩),
  (54, ⟨true, 10, 96, [.sc (.int .i64 0), .sc (.int .i64 0), .sc (.int .i64 0), .sc (.int .i64 0), .sc (.int .i64 0), .sc (.int .i64 0), .sc (.int .i64 0), .sc (.int .i64 0), .sc (.int .i64 0), .sl 1], [(0, 3), (1, 3), (2, 3), (3, 38), (8, 39)], none, none, false, false, false, false⟩)]
theorem ti3 : tiOf Try.prog 3 = some ⟨false, 1, 8, [.sc (.int .i64 0)], [], none, (some .i64), false, false, false, false⟩ := by kernel_rfl
theorem ti4 : tiOf Try.prog 4 = some ⟨false, 1, 1, [.sc (.bool false)], [], none, none, true, false, false, false⟩ := by kernel_rfl
theorem ti22 : tiOf Try.prog 22 = some ⟨false, 1, 24, [.sl 1], [], (some 3), none, false, false, false, false⟩ := by kernel_rfl
theorem ti31 : tiOf Try.prog 31 = some ⟨true, 5, 40, [.sc (.int .i64 0), .sc (.int .i64 0), .sc (.int .i64 0), .sc (.int .i64 0), .sc (.int .i64 0)], [(0, 3), (1, 3), (2, 3), (3, 3), (4, 3)], none, none, false, false, false, true⟩ := by kernel_rfl
theorem ti33 : tiOf Try.prog 33 = some ⟨true, 2, 32, [.sc (.int .i64 0), .sl 1], [(0, 3), (1, 22)], none, none, false, false, false, false⟩ := by kernel_rfl
theorem ti35 : tiOf Try.prog 35 = some ⟨true, 15, 136, [.sc (.int .i64 0), .sc (.int .i64 0), .sc (.int .i64 0), .sc (.int .i64 0), .sc (.int .i64 0), .sc (.int .i64 0), .sc (.int .i64 0), .sc (.int .i64 0), .sc (.int .i64 0), .sc (.int .i64 0), .sc (.int .i64 0), .sc (.int .i64 0), .sc (.int .i64 0), .sc (.int .i64 0), .sl 1], [(0, 3), (1, 3), (2, 3), (3, 3), (4, 3), (5, 3), (6, 3), (7, 3), (8, 31), (13, 33)], none, none, false, false, false, false⟩ := by kernel_rfl
theorem ti38 : tiOf Try.prog 38 = some ⟨true, 5, 40, [.sc (.int .i64 0), .sc (.int .i64 0), .sc (.int .i64 0), .sc (.int .i64 0), .sc (.int .i64 0)], [(0, 3), (1, 3), (2, 3), (3, 3), (4, 3)], none, none, false, false, false, true⟩ := by kernel_rfl
theorem ti39 : tiOf Try.prog 39 = some ⟨true, 2, 32, [.sc (.int .i64 0), .sl 1], [(0, 3), (1, 22)], none, none, false, false, false, false⟩ := by kernel_rfl
theorem ti41 : tiOf Try.prog 41 = some ⟨true, 15, 136, [.sc (.int .i64 0), .sc (.int .i64 0), .sc (.int .i64 0), .sc (.int .i64 0), .sc (.int .i64 0), .sc (.int .i64 0), .sc (.int .i64 0), .sc (.int .i64 0), .sc (.int .i64 0), .sc (.int .i64 0), .sc (.int .i64 0), .sc (.int .i64 0), .sc (.int .i64 0), .sc (.int .i64 0), .sl 1], [(0, 3), (1, 3), (2, 3), (3, 3), (4, 3), (5, 3), (6, 3), (7, 3), (8, 38), (13, 39)], none, none, false, false, false, false⟩ := by kernel_rfl
theorem ti54 : tiOf Try.prog 54 = some ⟨true, 10, 96, [.sc (.int .i64 0), .sc (.int .i64 0), .sc (.int .i64 0), .sc (.int .i64 0), .sc (.int .i64 0), .sc (.int .i64 0), .sc (.int .i64 0), .sc (.int .i64 0), .sc (.int .i64 0), .sl 1], [(0, 3), (1, 3), (2, 3), (3, 38), (8, 39)], none, none, false, false, false, false⟩ := by kernel_rfl
theorem tiL_ok : TiOk Try.prog (tiTab tiL) := tiTab_ok (l := tiL) (List.forall_mem_cons.2 ⟨ti3, List.forall_mem_cons.2 ⟨ti4, List.forall_mem_cons.2 ⟨ti22, List.forall_mem_cons.2 ⟨ti31, List.forall_mem_cons.2 ⟨ti33, List.forall_mem_cons.2 ⟨ti35, List.forall_mem_cons.2 ⟨ti38, List.forall_mem_cons.2 ⟨ti39, List.forall_mem_cons.2 ⟨ti41, List.forall_mem_cons.2 ⟨ti54, List.forall_mem_nil _⟩⟩⟩⟩⟩⟩⟩⟩⟩⟩)

def sg0 : Sig := ⟨4, [(false, [.sc]), (true, [.sc, .sc, .sc, .sc, .sc, .sc, .sc, .sc, .sc, .sc, .sc, .sc, .sc, .sc, .fz false])], [], [(false, [.sc])]⟩
def sg1 : Sig := ⟨20, [(true, [.sc, .sc, .sc, .sc, .sc, .sc, .sc, .sc, .sc, .sc, .sc, .sc, .sc, .sc, .fz false]), (false, [.sc])], [], [(false, [.sc])]⟩
def sg2 : Sig := ⟨94, [(true, [.sc, .fz false]), (false, [.sc])], [], [(false, [.sc])]⟩
def sg3 : Sig := ⟨130, [(false, [.fz false]), (false, [.sc])], [], [(false, [.sc])]⟩
def sg4 : Sig := ⟨22, [(true, [.sc, .sc, .sc, .sc, .sc, .sc, .sc, .sc, .sc, .sc, .sc, .sc, .sc, .sc, .fz false])], [], [(true, [.sc, .sc, .sc, .sc, .sc, .sc, .sc, .sc, .sc, .sc, .sc, .sc, .sc, .sc, .ow 99])]⟩
def sg5 : Sig := ⟨103, [(true, [.sc, .sc, .sc, .sc, .sc])], [], [(true, [.sc, .sc, .sc, .sc, .sc])]⟩
def sg6 : Sig := ⟨104, [(true, [.sc, .fz false])], [], [(true, [.sc, .ow 99])]⟩
def sg7 : Sig := ⟨135, [(false, [.fz false])], [], [(false, [.ow 99])]⟩
def sg8 : Sig := ⟨21, [(false, [.sc]), (true, [.sc, .sc, .sc, .sc, .sc, .sc, .sc, .sc, .sc, .sc, .sc, .sc, .sc, .sc, .fz false])], [], [(false, [.sc])]⟩
def sg9 : Sig := ⟨95, [(false, [.sc])], [], [(false, [.sc])]⟩
def sg10 : Sig := ⟨96, [(false, [.sc]), (false, [.sc]), (false, [.sc])], [], [(false, [.sc])]⟩
def sg11 : Sig := ⟨97, [(false, [.sc]), (false, [.sc]), (false, [.sc])], [], [(false, [.sc])]⟩
def sg12 : Sig := ⟨98, [(false, [.sc]), (true, [.sc, .sc, .sc, .sc, .sc, .sc, .sc, .sc, .sc, .fz false])], [], [(false, [.sc])]⟩
def sg13 : Sig := ⟨102, [(false, [.sc])], [], [(true, [.sc, .ow 99])]⟩
def sg14 : Sig := ⟨101, [(true, [.sc, .fz false]), (true, [.sc, .fz false])], [], [(false, [.sc])]⟩
def sg15 : Sig := ⟨173, [(false, [.fz false]), (false, [.fz false])], [], [(false, [.sc])]⟩
def sg16 : Sig := ⟨100, [(true, [.sc, .sc, .sc, .sc, .sc])], [], [(false, [.sc])]⟩
def sg17 : Sig := ⟨172, [(true, [.sc, .sc, .sc, .sc, .sc])], [], [(false, [.sc])]⟩
def sg18 : Sig := ⟨207, [(false, [.sc])], [], [(false, [.sc])]⟩
def sg19 : Sig := ⟨99, [(false, [.sc]), (true, [.sc, .fz false])], [], [(false, [.sc])]⟩
def sg20 : Sig := ⟨171, [(false, [.fz false]), (false, [.sc]), (false, [.sc])], [], [(false, [.sc])]⟩
def sg21 : Sig := ⟨23, [(false, [.sc]), (true, [.sc, .sc, .sc, .sc, .sc, .sc, .sc, .sc, .sc, .sc, .sc, .sc, .sc, .sc, .fz false])], [], [(false, [.sc])]⟩
def sg22 : Sig := ⟨105, [(false, [.sc]), (false, [.sc]), (false, [.sc])], [], [(false, [.sc])]⟩
def sg23 : Sig := ⟨106, [(false, [.sc]), (false, [.sc]), (false, [.sc])], [], [(false, [.sc])]⟩
def sg24 : Sig := ⟨118, [(false, [.sc])], [], [(false, [.sc])]⟩
def sg25 : Sig := ⟨108, [(true, [.sc, .sc, .sc, .sc, .sc, .sc, .sc, .sc, .sc, .sc, .sc, .sc, .sc, .sc, .fz false])], [], [(true, [.sc, .sc, .sc, .sc, .sc, .sc, .sc, .sc, .sc, .ow 99])]⟩
def sg26 : Sig := ⟨174, [(true, [.sc, .fz false])], [], [(true, [.sc, .ow 99])]⟩
def sg27 : Sig := ⟨193, [(false, [.fz false])], [], [(false, [.ow 99])]⟩
def sg28 : Sig := ⟨107, [(false, [.sc]), (true, [.sc, .sc, .sc, .sc, .sc, .sc, .sc, .sc, .sc, .fz false])], [], [(false, [.sc])]⟩
def sg29 : Sig := ⟨109, [(true, [.sc, .sc, .sc, .sc, .sc])], [], [(false, [.sc])]⟩
def sg30 : Sig := ⟨175, [(false, [.sc])], [], [(false, [.sc])]⟩
def sg31 : Sig := ⟨110, [(false, [.sc]), (true, [.sc, .fz false])], [], [(false, [.sc])]⟩
def sg32 : Sig := ⟨176, [(false, [.fz false]), (false, [.clo 177 []])], [], [(false, [.sc])]⟩
def sg33 : Sig := ⟨208, [(false, [.fz false]), (false, [.clo 177 []])], [], [(false, [.sc])]⟩
def sg34 : Sig := ⟨177, [(false, [.sc])], [], [(false, [.sc])]⟩
def sg35 : Sig := ⟨112, [(false, [.sc])], [], [(true, [.sc, .ow 99])]⟩
def sg36 : Sig := ⟨111, [(true, [.sc, .fz false]), (true, [.sc, .fz false])], [], [(false, [.sc])]⟩
def sg37 : Sig := ⟨178, [(false, [.fz false]), (false, [.fz false])], [], [(false, [.sc])]⟩
def sg38 : Sig := ⟨24, [(true, [.sc, .sc, .sc, .sc, .sc, .sc, .sc, .sc, .sc, .sc, .sc, .sc, .sc, .sc, .fz false]), (true, [.sc, .sc, .sc, .sc, .sc, .sc, .sc, .sc, .sc, .sc, .sc, .sc, .sc, .sc, .fz false])], [], [(false, [.sc])]⟩
def sg39 : Sig := ⟨59, [(true, [.sc, .sc, .sc, .sc, .sc]), (true, [.sc, .sc, .sc, .sc, .sc])], [], [(false, [.sc])]⟩
def sg40 : Sig := ⟨60, [(true, [.sc, .fz false]), (true, [.sc, .fz false])], [], [(false, [.sc])]⟩
def sg41 : Sig := ⟨52, [(false, [.fz false]), (false, [.fz false])], [], [(false, [.sc])]⟩
def sigs : List (Nat × Sig) := [(0, sg0), (1, sg1), (2, sg2), (3, sg3), (4, sg4), (5, sg5), (6, sg6), (7, sg7), (8, sg8), (9, sg9), (10, sg10), (11, sg11), (12, sg12), (13, sg13), (14, sg14), (15, sg15), (16, sg16), (17, sg17), (18, sg18), (19, sg19), (20, sg20), (21, sg21), (22, sg22), (23, sg23), (24, sg24), (25, sg25), (26, sg26), (27, sg27), (28, sg28), (29, sg29), (30, sg30), (31, sg31), (32, sg32), (33, sg33), (34, sg34), (35, sg35), (36, sg36), (37, sg37), (38, sg38), (39, sg39), (40, sg40), (41, sg41)]

/-- laws.FnExactGoodMsg -/
def tm0 : Tm Unit :=
  (.call none 1 [.v 1, .v 2, .v 3, .v 4, .v 5, .v 6, .v 7, .v 8, .v 9, .v 10, .v 11, .v 12, .v 13, .v 14, .v 15, .c (.int .i64 1048576)] 1 [] <|
  (.lt none (.bin .lss) [.v 16, .c (.int .i64 0)] 1 <|
  (.ite (.v 17)
   (.leaf .ret [.c (.bool true)] ())
   (.call none 4 [.v 1, .v 2, .v 3, .v 4, .v 5, .v 6, .v 7, .v 8, .v 9, .v 10, .v 11, .v 12, .v 13, .v 14, .v 15] 15 [] <|
   (.call none 8 [.v 0, .v 18, .v 19, .v 20, .v 21, .v 22, .v 23, .v 24, .v 25, .v 26, .v 27, .v 28, .v 29, .v 30, .v 31, .v 32] 1 [] <|
   (.call none 4 [.v 1, .v 2, .v 3, .v 4, .v 5, .v 6, .v 7, .v 8, .v 9, .v 10, .v 11, .v 12, .v 13, .v 14, .v 15] 15 [] <|
   (.call none 21 [.v 0, .v 34, .v 35, .v 36, .v 37, .v 38, .v 39, .v 40, .v 41, .v 42, .v 43, .v 44, .v 45, .v 46, .v 47, .v 48] 1 [] <|
   (.lt none (.eqb true) [.v 49, .v 33] 1 <|
   (.ite (.v 50)
    (.leaf .ret [.c (.bool false)] ())
    (.call none 4 [.v 1, .v 2, .v 3, .v 4, .v 5, .v 6, .v 7, .v 8, .v 9, .v 10, .v 11, .v 12, .v 13, .v 14, .v 15] 15 [] <|
    (.call none 38 [.v 34, .v 35, .v 36, .v 37, .v 38, .v 39, .v 40, .v 41, .v 42, .v 43, .v 44, .v 45, .v 46, .v 47, .v 48, .v 51, .v 52, .v 53, .v 54, .v 55, .v 56, .v 57, .v 58, .v 59, .v 60, .v 61, .v 62, .v 63, .v 64, .v 65] 1 [] <|
    (.lt none .not [.v 66] 1 <|
    (.ite (.v 67)
     (.leaf .ret [.c (.bool false)] ())
     (.leaf .ret [.c (.bool true)] ()))))))))))))))
/-- laws.szMsg -/
def tm1 : Tm Unit :=
  (.call none 2 [.v 13, .v 14, .v 15] 1 [] <|
  (.lt none (.bin .lss) [.v 16, .c (.int .i64 0)] 1 <|
  (.ite (.v 17)
   (.leaf .ret [.c (.int .i64 (-1))] ())
   (.leaf .ret [.v 16] ()))))
/-- laws.szAttr -/
def tm2 : Tm Unit :=
  (.call none 3 [.v 1, .v 2] 1 [] <|
  (.lt none (.bin .lss) [.v 3, .c (.int .i64 0)] 1 <|
  (.ite (.v 4)
   (.leaf .ret [.c (.int .i64 (-1))] ())
   (.leaf .ret [.v 3] ()))))
/-- laws.szIntS -/
def tm3 : Tm Unit :=
  (.lt none .len [.v 0] 1 <|
  (.lt none (.bin .sub) [.v 1, .v 2] 1 <|
  (.lt none (.bin .lss) [.v 3, .c (.int .i64 0)] 1 <|
  (.ite (.v 4)
   (.leaf .ret [.c (.int .i64 (-1))] ())
   (.leaf .ret [.v 3] ())))))
/-- laws.toMsg -/
def tm4 : Tm Unit :=
  (.call none 5 [.v 8, .v 9, .v 10, .v 11, .v 12] 5 [] <|
  (.call none 6 [.v 13, .v 14] 2 [] <|
  (.leaf .ret [.v 0, .v 1, .v 2, .v 3, .v 4, .v 5, .v 6, .v 7, .v 15, .v 16, .v 17, .v 18, .v 19, .v 20, .v 21] ())))
/-- laws.toCmd -/
def tm5 : Tm Unit :=
  (.leaf .ret [.v 0, .v 1, .v 2, .v 3, .v 4] ())
/-- laws.toAttr -/
def tm6 : Tm Unit :=
  (.call none 7 [.v 1] 1 [] <|
  (.leaf .ret [.v 0, .v 2] ()))
/-- laws.toIntS -/
def tm7 : Tm Unit :=
  (.lt none .len [.v 0] 1 <|
  (.lt none (.make 8 [(.int .i64 0)]) [.v 1] 1 <|
  (.bind 1
   (.loop [.v 2, .c (.int .i64 0)]
    (.lt none .len [.v 0] 1 <|
    (.lt none (.bin .lss) [.v 4, .v 5] 1 <|
    (.ite (.v 6)
     (.lt none .inb [.v 0, .v 4] 0 <|
     (.lt none (.row 1 0 [true]) [.v 0, .v 4] 1 <|
     (.lt none .inb [.v 3, .v 4] 0 <|
     (.lt none (.set 1 0 1) [.v 3, .v 4, .v 7] 1 <|
     (.lt none (.bin .add) [.v 4, .c (.int .i64 1)] 1 <|
     (.leaf .cont [.v 8, .v 9] ()))))))
     (.leaf (.yield 1) [.v 3] ()))))) <|
  (.leaf .ret [.v 3] ()))))
/-- spec.GoodMsg -/
def tm8 : Tm Unit :=
  (.call none 9 [.v 0] 1 [] <|
  (.lt none .not [.v 16] 1 <|
  (.lt (some (.v 17, false)) .id [.v 1] 1 <|
  (.call (some (.v 17, false)) 10 [.v 18, .c (.int .i64 1), .c (.int .i64 7)] 1 [] <|
  (.lt (some (.v 17, false)) .not [.v 19] 1 <|
  (.lt none .pick [.v 17, .c (.bool true), .v 20] 1 <|
  (.lt (some (.v 21, false)) .id [.v 2] 1 <|
  (.lt (some (.v 21, false)) .id [.v 0] 1 <|
  (.lt (some (.v 21, false)) (.bin .sub) [.v 23, .c (.int .i64 1)] 1 <|
  (.call (some (.v 21, false)) 10 [.v 22, .c (.int .i64 0), .v 24] 1 [] <|
  (.lt (some (.v 21, false)) .not [.v 25] 1 <|
  (.lt none .pick [.v 21, .c (.bool true), .v 26] 1 <|
  (.lt (some (.v 27, false)) .id [.v 3] 1 <|
  (.lt (some (.v 27, false)) .id [.v 0] 1 <|
  (.lt (some (.v 27, false)) (.bin .sub) [.v 29, .c (.int .i64 1)] 1 <|
  (.call (some (.v 27, false)) 10 [.v 28, .c (.int .i64 0), .v 30] 1 [] <|
  (.lt (some (.v 27, false)) .not [.v 31] 1 <|
  (.lt none .pick [.v 27, .c (.bool true), .v 32] 1 <|
  (.lt (some (.v 33, false)) .id [.v 2] 1 <|
  (.lt (some (.v 33, false)) .id [.v 3] 1 <|
  (.lt (some (.v 33, false)) (.bin .eql) [.v 34, .v 35] 1 <|
  (.lt none .pick [.v 33, .c (.bool true), .v 36] 1 <|
  (.lt (some (.v 37, false)) .id [.v 0] 1 <|
  (.lt (some (.v 37, false)) .id [.v 4] 1 <|
  (.lt (some (.v 37, false)) .id [.v 5] 1 <|
  (.call (some (.v 37, false)) 11 [.v 38, .v 39, .v 40] 1 [] <|
  (.lt (some (.v 37, false)) .not [.v 41] 1 <|
  (.lt none .pick [.v 37, .c (.bool true), .v 42] 1 <|
  (.lt (some (.v 43, false)) .id [.v 6] 1 <|
  (.call (some (.v 43, false)) 10 [.v 44, .c (.int .i64 0), .c (.int .i64 9999)] 1 [] <|
  (.lt (some (.v 43, false)) .not [.v 45] 1 <|
  (.lt none .pick [.v 43, .c (.bool true), .v 46] 1 <|
  (.ite (.v 47)
   (.leaf .ret [.c (.bool false)] ())
   (.lt none (.bin .eql) [.v 1, .c (.int .i64 7)] 1 <|
   (.ite (.v 48)
    (.lt none (.bin .neq) [.v 8, .c (.int .i64 3)] 1 <|
    (.lt (some (.v 49, true)) .id [.v 0] 1 <|
    (.lt (some (.v 49, true)) .id [.v 6] 1 <|
    (.lt (some (.v 49, true)) .id [.v 7] 1 <|
    (.lt (some (.v 49, true)) .id [.v 8] 1 <|
    (.call (some (.v 49, true)) 12 [.v 50, .v 51, .v 52, .v 53, .v 9, .v 10, .v 11, .v 12, .v 13, .v 14, .v 15] 1 [] <|
    (.lt none .pick [.v 49, .v 54, .c (.bool false)] 1 <|
    (.leaf .ret [.v 55] ()))))))))
    (.lt none (.bin .neq) [.v 7, .c (.int .i64 0)] 1 <|
    (.lt (some (.v 49, false)) .id [.v 8] 1 <|
    (.lt (some (.v 49, false)) (.bin .neq) [.v 50, .c (.int .i64 0)] 1 <|
    (.lt none .pick [.v 49, .c (.bool true), .v 51] 1 <|
    (.lt (some (.v 52, false)) .id [.v 0] 1 <|
    (.call (some (.v 52, false)) 19 [.v 53, .v 14, .v 15] 1 [] <|
    (.lt (some (.v 52, false)) .not [.v 54] 1 <|
    (.lt none .pick [.v 52, .c (.bool true), .v 55] 1 <|
    (.call (some (.v 56, false)) 16 [.v 9, .v 10, .v 11, .v 12, .v 13] 1 [] <|
    (.lt (some (.v 56, false)) .not [.v 57] 1 <|
    (.lt none .pick [.v 56, .c (.bool true), .v 58] 1 <|
    (.lt (some (.v 59, false)) .id [.v 1] 1 <|
    (.lt (some (.v 59, false)) (.bin .eql) [.v 60, .c (.int .i64 5)] 1 <|
    (.lt (some (.v 59, false)) .id [.v 61] 1 <|
    (.lt (some (.v 62, true)) .id [.v 6] 1 <|
    (.lt (some (.v 62, true)) (.bin .neq) [.v 63, .c (.int .i64 0)] 1 <|
    (.lt (some (.v 59, false)) .pick [.v 62, .v 64, .c (.bool false)] 1 <|
    (.lt none .pick [.v 59, .c (.bool true), .v 65] 1 <|
    (.ite (.v 66)
     (.leaf .ret [.c (.bool false)] ())
     (.lt none (.bin .eql) [.v 1, .c (.int .i64 2)] 1 <|
     (.ite (.v 67)
      (.lt none (.eqs [0, 0, 0, 0, 0]) [.v 9, .v 10, .v 11, .v 12, .v 13, .c (.int .i64 0), .c (.int .i64 0), .c (.int .i64 0), .c (.int .i64 0), .c (.int .i64 0)] 1 <|
      (.leaf .ret [.v 68] ()))
      (.bind 0
       (.lt none (.bin .eql) [.v 1, .c (.int .i64 4)] 1 <|
       (.ite (.v 68)
        (.leaf (.yield 0) [.v 68] ())
        (.lt none (.bin .eql) [.v 1, .c (.int .i64 6)] 1 <|
        (.leaf (.yield 0) [.v 69] ())))) <|
      (.ite (.v 68)
       (.lt none (.eqs [0, 0, 0, 0, 0]) [.v 9, .v 10, .v 11, .v 12, .v 13, .c (.int .i64 0), .c (.int .i64 0), .c (.int .i64 0), .c (.int .i64 0), .c (.int .i64 0)] 1 <|
       (.lt (some (.v 69, true)) .id [.v 0] 1 <|
       (.call (some (.v 69, true)) 13 [.v 70] 2 [] <|
       (.call (some (.v 69, true)) 14 [.v 14, .v 15, .v 71, .v 72] 1 [] <|
       (.lt none .pick [.v 69, .v 73, .c (.bool false)] 1 <|
       (.leaf .ret [.v 74] ()))))))
       (.leaf .ret [.c (.bool true)] ())))))))))))))))))))))))))))))))))))))))))))))))))))))))))))
/-- spec.IsGroup -/
def tm9 : Tm Unit :=
  (.lt none (.bin .eql) [.v 0, .c (.int .i64 3)] 1 <|
  (.lt (some (.v 1, false)) .id [.v 0] 1 <|
  (.lt (some (.v 1, false)) (.bin .eql) [.v 2, .c (.int .i64 5)] 1 <|
  (.lt none .pick [.v 1, .c (.bool true), .v 3] 1 <|
  (.leaf .ret [.v 4] ())))))
/-- spec.l1In -/
def tm10 : Tm Unit :=
  (.lt none (.bin .geq) [.v 0, .v 1] 1 <|
  (.lt (some (.v 3, true)) .id [.v 0] 1 <|
  (.lt (some (.v 3, true)) .id [.v 2] 1 <|
  (.lt (some (.v 3, true)) (.bin .leq) [.v 4, .v 5] 1 <|
  (.lt none .pick [.v 3, .v 6, .c (.bool false)] 1 <|
  (.leaf .ret [.v 7] ()))))))
/-- spec.l3Inst -/
def tm11 : Tm Unit :=
  (.lt none (.bin .sub) [.v 0, .c (.int .i64 1)] 1 <|
  (.call none 10 [.v 1, .c (.int .i64 0), .v 3] 1 [] <|
  (.lt (some (.v 4, true)) .id [.v 2] 1 <|
  (.call (some (.v 4, true)) 10 [.v 5, .c (.int .i64 1), .c (.int .i64 6)] 1 [] <|
  (.lt none .pick [.v 4, .v 6, .c (.bool false)] 1 <|
  (.leaf .ret [.v 7] ()))))))
/-- spec.l4Row -/
def tm12 : Tm Unit :=
  (.call none 10 [.v 1, .c (.int .i64 0), .c (.int .i64 9999)] 1 [] <|
  (.lt none .not [.v 11] 1 <|
  (.lt (some (.v 12, false)) .id [.v 2] 1 <|
  (.lt (some (.v 12, false)) .id [.v 1] 1 <|
  (.call (some (.v 12, false)) 10 [.v 13, .c (.int .i64 0), .v 14] 1 [] <|
  (.lt (some (.v 12, false)) .not [.v 15] 1 <|
  (.lt none .pick [.v 12, .c (.bool true), .v 16] 1 <|
  (.lt (some (.v 17, false)) .id [.v 3] 1 <|
  (.call (some (.v 17, false)) 10 [.v 18, .c (.int .i64 0), .c (.int .i64 3)] 1 [] <|
  (.lt (some (.v 17, false)) .not [.v 19] 1 <|
  (.lt none .pick [.v 17, .c (.bool true), .v 20] 1 <|
  (.ite (.v 21)
   (.leaf .ret [.c (.bool false)] ())
   (.lt none (.bin .eql) [.v 3, .c (.int .i64 0)] 1 <|
   (.ite (.v 22)
    (.lt none (.bin .eql) [.v 2, .c (.int .i64 0)] 1 <|
    (.lt (some (.v 23, true)) (.eqs [0, 0, 0, 0, 0]) [.v 4, .v 5, .v 6, .v 7, .v 8, .c (.int .i64 0), .c (.int .i64 0), .c (.int .i64 0), .c (.int .i64 0), .c (.int .i64 0)] 1 <|
    (.lt none .pick [.v 23, .v 24, .c (.bool false)] 1 <|
    (.lt (some (.v 25, true)) .id [.v 0] 1 <|
    (.call (some (.v 25, true)) 13 [.v 26] 2 [] <|
    (.call (some (.v 25, true)) 14 [.v 9, .v 10, .v 27, .v 28] 1 [] <|
    (.lt none .pick [.v 25, .v 29, .c (.bool false)] 1 <|
    (.leaf .ret [.v 30] ()))))))))
    (.call none 16 [.v 4, .v 5, .v 6, .v 7, .v 8] 1 [] <|
    (.lt (some (.v 23, true)) .id [.v 0] 1 <|
    (.call (some (.v 23, true)) 19 [.v 24, .v 9, .v 10] 1 [] <|
    (.lt none .pick [.v 23, .v 25, .c (.bool false)] 1 <|
    (.leaf .ret [.v 26] ())))))))))))))))))))
/-- spec.l3None -/
def tm13 : Tm Unit :=
  (.lt none (.make 8 [(.int .i64 0)]) [.v 0] 1 <|
  (.leaf .ret [.c (.int .i64 0), .v 1] ()))
/-- spec.SameAttr -/
def tm14 : Tm Unit :=
  (.lt none (.bin .eql) [.v 0, .v 2] 1 <|
  (.call (some (.v 4, true)) 15 [.v 1, .v 3] 1 [] <|
  (.lt none .pick [.v 4, .v 5, .c (.bool false)] 1 <|
  (.leaf .ret [.v 6] ()))))
/-- spec.l1Same -/
def tm15 : Tm Unit :=
  (.lt none .len [.v 0] 1 <|
  (.lt none .len [.v 1] 1 <|
  (.lt none (.bin .neq) [.v 2, .v 3] 1 <|
  (.ite (.v 4)
   (.leaf .ret [.c (.bool false)] ())
   (.lt none .len [.v 0] 1 <|
   (.bind 1
    (.loop [.c (.int .i64 0)]
     (.lt none (.bin .lss) [.v 6, .v 5] 1 <|
     (.ite (.v 7)
      (.lt none .inb [.v 0, .v 6] 0 <|
      (.lt none (.row 1 0 [true]) [.v 0, .v 6] 1 <|
      (.lt none .inb [.v 1, .v 6] 0 <|
      (.lt none (.row 1 0 [true]) [.v 1, .v 6] 1 <|
      (.lt none (.bin .neq) [.v 8, .v 9] 1 <|
      (.ite (.v 10)
       (.leaf .ret [.c (.bool false)] ())
       (.lt none (.bin .add) [.v 6, .c (.int .i64 1)] 1 <|
       (.leaf .cont [.v 11] ()))))))))
      (.leaf (.yield 1) [] ())))) <|
   (.leaf .ret [.c (.bool true)] ())))))))
/-- spec.GoodCmd -/
def tm16 : Tm Unit :=
  (.lt none (.bin .eql) [.v 0, .c (.int .i64 0)] 1 <|
  (.ite (.v 5)
   (.lt none (.eqs [0, 0, 0, 0, 0]) [.v 0, .v 1, .v 2, .v 3, .v 4, .c (.int .i64 0), .c (.int .i64 0), .c (.int .i64 0), .c (.int .i64 0), .c (.int .i64 0)] 1 <|
   (.leaf .ret [.v 6] ()))
   (.lt none (.bin .eql) [.v 0, .c (.int .i64 1)] 1 <|
   (.ite (.v 6)
    (.call none 17 [.v 0, .v 1, .v 2, .v 3, .v 4] 1 [] <|
    (.lt none (.bin .eql) [.v 7, .c (.int .i64 0)] 1 <|
    (.leaf .ret [.v 8] ())))
    (.lt none (.bin .eql) [.v 0, .c (.int .i64 2)] 1 <|
    (.ite (.v 7)
     (.call none 17 [.v 0, .v 1, .v 2, .v 3, .v 4] 1 [] <|
     (.lt none (.bin .eql) [.v 8, .c (.int .i64 0)] 1 <|
     (.lt (some (.v 9, true)) .id [.v 3] 1 <|
     (.lt (some (.v 9, true)) (.bin .eql) [.v 10, .c (.int .i64 0)] 1 <|
     (.lt none .pick [.v 9, .v 11, .c (.bool false)] 1 <|
     (.lt (some (.v 12, true)) .id [.v 4] 1 <|
     (.lt (some (.v 12, true)) (.bin .eql) [.v 13, .c (.int .i64 0)] 1 <|
     (.lt none .pick [.v 12, .v 14, .c (.bool false)] 1 <|
     (.leaf .ret [.v 15] ())))))))))
     (.leaf .ret [.c (.bool false)] ())))))))
/-- spec.l2Code -/
def tm17 : Tm Unit :=
  (.lt none (.bin .eql) [.v 0, .c (.int .i64 1)] 1 <|
  (.call none 18 [.v 2] 1 [] <|
  (.lt none .not [.v 6] 1 <|
  (.lt (some (.v 7, false)) .id [.v 5] 1 <|
  (.lt (some (.v 7, false)) .id [.v 8] 1 <|
  (.lt (some (.v 9, true)) .id [.v 3] 1 <|
  (.call (some (.v 9, true)) 18 [.v 10] 1 [] <|
  (.lt (some (.v 9, true)) .not [.v 11] 1 <|
  (.lt (some (.v 7, false)) .pick [.v 9, .v 12, .c (.bool false)] 1 <|
  (.lt none .pick [.v 7, .c (.bool true), .v 13] 1 <|
  (.ite (.v 14)
   (.leaf .ret [.c (.int .i64 4)] ())
   (.lt (some (.v 5, true)) .id [.v 2] 1 <|
   (.lt (some (.v 5, true)) .id [.v 3] 1 <|
   (.lt (some (.v 5, true)) (.bin .eql) [.v 15, .v 16] 1 <|
   (.lt none .pick [.v 5, .v 17, .c (.bool false)] 1 <|
   (.ite (.v 18)
    (.leaf .ret [.c (.int .i64 5)] ())
    (.call none 10 [.v 1, .c (.int .i64 1), .c (.int .i64 999)] 1 [] <|
    (.lt none .not [.v 19] 1 <|
    (.lt (some (.v 20, false)) .id [.v 5] 1 <|
    (.lt (some (.v 20, false)) .id [.v 21] 1 <|
    (.lt (some (.v 22, true)) .id [.v 4] 1 <|
    (.call (some (.v 22, true)) 10 [.v 23, .c (.int .i64 1), .c (.int .i64 1000)] 1 [] <|
    (.lt (some (.v 22, true)) .not [.v 24] 1 <|
    (.lt (some (.v 20, false)) .pick [.v 22, .v 25, .c (.bool false)] 1 <|
    (.lt none .pick [.v 20, .c (.bool true), .v 26] 1 <|
    (.ite (.v 27)
     (.leaf .ret [.c (.int .i64 6)] ())
     (.leaf .ret [.c (.int .i64 0)] ())))))))))))))))))))))))))))
/-- spec.l2Account -/
def tm18 : Tm Unit :=
  (.call none 10 [.v 0, .c (.int .i64 0), .c (.int .i64 3)] 1 [] <|
  (.leaf .ret [.v 1] ()))
/-- spec.l3Attr -/
def tm19 : Tm Unit :=
  (.call none 10 [.v 1, .c (.int .i64 0), .c (.int .i64 999)] 1 [] <|
  (.lt (some (.v 3, true)) .len [.v 2] 1 <|
  (.lt (some (.v 3, true)) .id [.v 0] 1 <|
  (.lt (some (.v 3, true)) (.bin .eql) [.v 4, .v 5] 1 <|
  (.lt none .pick [.v 3, .v 6, .c (.bool false)] 1 <|
  (.call (some (.v 7, true)) 20 [.v 2, .c (.int .i64 0), .c (.int .i64 6)] 1 [] <|
  (.lt none .pick [.v 7, .v 8, .c (.bool false)] 1 <|
  (.leaf .ret [.v 9] ()))))))))
/-- spec.l1All -/
def tm20 : Tm Unit :=
  (.lt none .len [.v 0] 1 <|
  (.bind 1
   (.loop [.c (.int .i64 0)]
    (.lt none (.bin .lss) [.v 4, .v 3] 1 <|
    (.ite (.v 5)
     (.lt none .inb [.v 0, .v 4] 0 <|
     (.lt none (.row 1 0 [true]) [.v 0, .v 4] 1 <|
     (.call none 10 [.v 6, .v 1, .v 2] 1 [] <|
     (.lt none .not [.v 7] 1 <|
     (.ite (.v 8)
      (.leaf .ret [.c (.bool false)] ())
      (.lt none (.bin .add) [.v 4, .c (.int .i64 1)] 1 <|
      (.leaf .cont [.v 9] ())))))))
     (.leaf (.yield 1) [] ())))) <|
  (.leaf .ret [.c (.bool true)] ())))
/-- impl.GoodMsg -/
def tm21 : Tm Unit :=
  (.call none 22 [.v 1, .c (.int .i64 1), .c (.int .i64 7)] 1 [] <|
  (.lt none .not [.v 16] 1 <|
  (.lt (some (.v 17, false)) .id [.v 0] 1 <|
  (.lt (some (.v 17, false)) .id [.v 4] 1 <|
  (.lt (some (.v 17, false)) .id [.v 5] 1 <|
  (.call (some (.v 17, false)) 23 [.v 18, .v 19, .v 20] 1 [] <|
  (.lt (some (.v 17, false)) .not [.v 21] 1 <|
  (.lt none .pick [.v 17, .c (.bool true), .v 22] 1 <|
  (.lt (some (.v 23, false)) .id [.v 2] 1 <|
  (.lt (some (.v 23, false)) .id [.v 0] 1 <|
  (.lt (some (.v 23, false)) (.bin .sub) [.v 25, .c (.int .i64 1)] 1 <|
  (.call (some (.v 23, false)) 22 [.v 24, .c (.int .i64 0), .v 26] 1 [] <|
  (.lt (some (.v 23, false)) .not [.v 27] 1 <|
  (.lt none .pick [.v 23, .c (.bool true), .v 28] 1 <|
  (.lt (some (.v 29, false)) .id [.v 3] 1 <|
  (.lt (some (.v 29, false)) .id [.v 0] 1 <|
  (.lt (some (.v 29, false)) (.bin .sub) [.v 31, .c (.int .i64 1)] 1 <|
  (.call (some (.v 29, false)) 22 [.v 30, .c (.int .i64 0), .v 32] 1 [] <|
  (.lt (some (.v 29, false)) .not [.v 33] 1 <|
  (.lt none .pick [.v 29, .c (.bool true), .v 34] 1 <|
  (.lt (some (.v 35, false)) .id [.v 2] 1 <|
  (.lt (some (.v 35, false)) .id [.v 3] 1 <|
  (.lt (some (.v 35, false)) (.bin .eql) [.v 36, .v 37] 1 <|
  (.lt none .pick [.v 35, .c (.bool true), .v 38] 1 <|
  (.lt (some (.v 39, false)) .id [.v 6] 1 <|
  (.call (some (.v 39, false)) 22 [.v 40, .c (.int .i64 0), .c (.int .i64 9999)] 1 [] <|
  (.lt (some (.v 39, false)) .not [.v 41] 1 <|
  (.lt none .pick [.v 39, .c (.bool true), .v 42] 1 <|
  (.lt (some (.v 43, false)) .id [.v 1] 1 <|
  (.lt (some (.v 43, false)) (.bin .eql) [.v 44, .c (.int .i64 5)] 1 <|
  (.lt (some (.v 43, false)) .id [.v 45] 1 <|
  (.lt (some (.v 46, true)) .id [.v 6] 1 <|
  (.lt (some (.v 46, true)) (.bin .neq) [.v 47, .c (.int .i64 0)] 1 <|
  (.lt (some (.v 43, false)) .pick [.v 46, .v 48, .c (.bool false)] 1 <|
  (.lt none .pick [.v 43, .c (.bool true), .v 49] 1 <|
  (.ite (.v 50)
   (.leaf .ret [.c (.bool false)] ())
   (.lt none (.bin .eql) [.v 1, .c (.int .i64 7)] 1 <|
   (.ite (.v 51)
    (.lt none (.bin .neq) [.v 8, .c (.int .i64 3)] 1 <|
    (.lt (some (.v 52, true)) .id [.v 0] 1 <|
    (.call (some (.v 52, true)) 25 [.v 1, .v 2, .v 3, .v 4, .v 5, .v 6, .v 7, .v 8, .v 9, .v 10, .v 11, .v 12, .v 13, .v 14, .v 15] 10 [] <|
    (.call (some (.v 52, true)) 28 [.v 53, .v 54, .v 55, .v 56, .v 57, .v 58, .v 59, .v 60, .v 61, .v 62, .v 63] 1 [] <|
    (.lt none .pick [.v 52, .v 64, .c (.bool false)] 1 <|
    (.leaf .ret [.v 65] ()))))))
    (.lt none (.bin .eql) [.v 1, .c (.int .i64 1)] 1 <|
    (.lt (some (.v 52, false)) .id [.v 1] 1 <|
    (.lt (some (.v 52, false)) (.bin .eql) [.v 53, .c (.int .i64 3)] 1 <|
    (.lt none .pick [.v 52, .c (.bool true), .v 54] 1 <|
    (.lt (some (.v 55, false)) .id [.v 1] 1 <|
    (.lt (some (.v 55, false)) (.bin .eql) [.v 56, .c (.int .i64 5)] 1 <|
    (.lt none .pick [.v 55, .c (.bool true), .v 57] 1 <|
    (.bind 0
     (.lt none (.bin .neq) [.v 7, .c (.int .i64 0)] 1 <|
     (.lt (some (.v 59, false)) .id [.v 8] 1 <|
     (.lt (some (.v 59, false)) (.bin .neq) [.v 60, .c (.int .i64 0)] 1 <|
     (.lt none .pick [.v 59, .c (.bool true), .v 61] 1 <|
     (.call (some (.v 62, false)) 29 [.v 9, .v 10, .v 11, .v 12, .v 13] 1 [] <|
     (.lt (some (.v 62, false)) .not [.v 63] 1 <|
     (.lt none .pick [.v 62, .c (.bool true), .v 64] 1 <|
     (.lt (some (.v 65, false)) .id [.v 0] 1 <|
     (.call (some (.v 65, false)) 31 [.v 66, .v 14, .v 15] 1 [] <|
     (.lt (some (.v 65, false)) .not [.v 67] 1 <|
     (.lt none .pick [.v 65, .c (.bool true), .v 68] 1 <|
     (.ite (.v 69)
      (.leaf (.yield 0) [.v 69] ())
      (.lt none .not [.v 58] 1 <|
      (.lt (some (.v 70, true)) (.eqs [0, 0, 0, 0, 0]) [.v 9, .v 10, .v 11, .v 12, .v 13, .c (.int .i64 0), .c (.int .i64 0), .c (.int .i64 0), .c (.int .i64 0), .c (.int .i64 0)] 1 <|
      (.lt (some (.v 70, true)) .not [.v 71] 1 <|
      (.lt none .pick [.v 70, .v 72, .c (.bool false)] 1 <|
      (.leaf (.yield 0) [.v 73] ()))))))))))))))))) <|
    (.ite (.v 59)
     (.leaf .ret [.c (.bool false)] ())
     (.lt (some (.v 58, false)) .id [.v 1] 1 <|
     (.lt (some (.v 58, false)) (.bin .eql) [.v 60, .c (.int .i64 2)] 1 <|
     (.lt none .pick [.v 58, .c (.bool true), .v 61] 1 <|
     (.lt (some (.v 62, false)) .id [.v 0] 1 <|
     (.call (some (.v 62, false)) 35 [.v 63] 2 [] <|
     (.call (some (.v 62, false)) 36 [.v 14, .v 15, .v 64, .v 65] 1 [] <|
     (.lt none .pick [.v 62, .c (.bool true), .v 66] 1 <|
     (.leaf .ret [.v 67] ())))))))))))))))))))))))))))))))))))))))))))))))))))))))
/-- impl.within -/
def tm22 : Tm Unit :=
  (.lt none (.bin .leq) [.v 1, .v 0] 1 <|
  (.lt (some (.v 3, true)) .id [.v 0] 1 <|
  (.lt (some (.v 3, true)) .id [.v 2] 1 <|
  (.lt (some (.v 3, true)) (.bin .leq) [.v 4, .v 5] 1 <|
  (.lt none .pick [.v 3, .v 6, .c (.bool false)] 1 <|
  (.leaf .ret [.v 7] ()))))))
/-- impl.isInstance -/
def tm23 : Tm Unit :=
  (.call none 24 [.v 0] 1 [] <|
  (.lt (some (.v 3, true)) .id [.v 1] 1 <|
  (.lt (some (.v 3, true)) .id [.v 0] 1 <|
  (.lt (some (.v 3, true)) (.bin .sub) [.v 5, .c (.int .i64 1)] 1 <|
  (.call (some (.v 3, true)) 22 [.v 4, .c (.int .i64 0), .v 6] 1 [] <|
  (.lt none .pick [.v 3, .v 7, .c (.bool false)] 1 <|
  (.lt (some (.v 8, true)) .id [.v 2] 1 <|
  (.call (some (.v 8, true)) 22 [.v 9, .c (.int .i64 1), .c (.int .i64 6)] 1 [] <|
  (.lt none .pick [.v 8, .v 10, .c (.bool false)] 1 <|
  (.leaf .ret [.v 11] ()))))))))))
/-- impl.IsGroup -/
def tm24 : Tm Unit :=
  (.lt none (.bin .eql) [.v 0, .c (.int .i64 3)] 1 <|
  (.lt (some (.v 1, false)) .id [.v 0] 1 <|
  (.lt (some (.v 1, false)) (.bin .eql) [.v 2, .c (.int .i64 5)] 1 <|
  (.lt none .pick [.v 1, .c (.bool true), .v 3] 1 <|
  (.leaf .ret [.v 4] ())))))
/-- (impl.Msg).row -/
def tm25 : Tm Unit :=
  (.call none 26 [.v 13, .v 14] 2 [] <|
  (.leaf .ret [.v 5, .v 6, .v 7, .v 8, .v 9, .v 10, .v 11, .v 12, .v 15, .v 16] ()))
/-- (impl.Attr).copied -/
def tm26 : Tm Unit :=
  (.call none 27 [.v 1] 1 [] <|
  (.leaf .ret [.v 0, .v 2] ()))
/-- slices.Clone[[]int,int] -/
def tm27 : Tm Unit :=
  (.lt none .ne [.v 0] 0 <|
  (.lt none .emp [.v 0] 1 <|
  (.ite (.v 1)
   (.leaf .ret [.c (.rows 1 [])] ())
   (.lt none (.mk 1 0) [] 1 <|
   (.lt none (.app 1 8 true) [.v 2, .v 0] 1 <|
   (.leaf .ret [.v 3] ()))))))
/-- impl.goodRow -/
def tm28 : Tm Unit :=
  (.call none 22 [.v 1, .c (.int .i64 0), .c (.int .i64 9999)] 1 [] <|
  (.lt none .not [.v 11] 1 <|
  (.lt (some (.v 12, false)) .id [.v 2] 1 <|
  (.lt (some (.v 12, false)) .id [.v 1] 1 <|
  (.call (some (.v 12, false)) 22 [.v 13, .c (.int .i64 0), .v 14] 1 [] <|
  (.lt (some (.v 12, false)) .not [.v 15] 1 <|
  (.lt none .pick [.v 12, .c (.bool true), .v 16] 1 <|
  (.lt (some (.v 17, false)) .id [.v 3] 1 <|
  (.call (some (.v 17, false)) 22 [.v 18, .c (.int .i64 0), .c (.int .i64 3)] 1 [] <|
  (.lt (some (.v 17, false)) .not [.v 19] 1 <|
  (.lt none .pick [.v 17, .c (.bool true), .v 20] 1 <|
  (.call (some (.v 21, false)) 29 [.v 4, .v 5, .v 6, .v 7, .v 8] 1 [] <|
  (.lt (some (.v 21, false)) .not [.v 22] 1 <|
  (.lt none .pick [.v 21, .c (.bool true), .v 23] 1 <|
  (.lt (some (.v 24, false)) .id [.v 0] 1 <|
  (.call (some (.v 24, false)) 31 [.v 25, .v 9, .v 10] 1 [] <|
  (.lt (some (.v 24, false)) .not [.v 26] 1 <|
  (.lt none .pick [.v 24, .c (.bool true), .v 27] 1 <|
  (.ite (.v 28)
   (.leaf .ret [.c (.bool false)] ())
   (.lt none (.bin .neq) [.v 3, .c (.int .i64 0)] 1 <|
   (.lt (some (.v 29, false)) .id [.v 2] 1 <|
   (.lt (some (.v 29, false)) (.bin .eql) [.v 30, .c (.int .i64 0)] 1 <|
   (.lt (some (.v 29, false)) .id [.v 31] 1 <|
   (.lt (some (.v 32, true)) (.eqs [0, 0, 0, 0, 0]) [.v 4, .v 5, .v 6, .v 7, .v 8, .c (.int .i64 0), .c (.int .i64 0), .c (.int .i64 0), .c (.int .i64 0), .c (.int .i64 0)] 1 <|
   (.lt (some (.v 29, false)) .pick [.v 32, .v 33, .c (.bool false)] 1 <|
   (.lt (some (.v 29, false)) .id [.v 34] 1 <|
   (.lt (some (.v 35, true)) .id [.v 0] 1 <|
   (.call (some (.v 35, true)) 35 [.v 36] 2 [] <|
   (.call (some (.v 35, true)) 36 [.v 9, .v 10, .v 37, .v 38] 1 [] <|
   (.lt (some (.v 29, false)) .pick [.v 35, .v 39, .c (.bool false)] 1 <|
   (.lt none .pick [.v 29, .c (.bool true), .v 40] 1 <|
   (.leaf .ret [.v 41] ()))))))))))))))))))))))))))))))))
/-- impl.GoodCmd -/
def tm29 : Tm Unit :=
  (.lt none (.bin .eql) [.v 0, .c (.int .i64 0)] 1 <|
  (.ite (.v 5)
   (.lt none (.eqs [0, 0, 0, 0, 0]) [.v 0, .v 1, .v 2, .v 3, .v 4, .c (.int .i64 0), .c (.int .i64 0), .c (.int .i64 0), .c (.int .i64 0), .c (.int .i64 0)] 1 <|
   (.leaf .ret [.v 6] ()))
   (.lt none (.bin .eql) [.v 0, .c (.int .i64 1)] 1 <|
   (.ite (.v 6)
    (.call none 22 [.v 1, .c (.int .i64 1), .c (.int .i64 999)] 1 [] <|
    (.lt (some (.v 7, true)) .id [.v 2] 1 <|
    (.call (some (.v 7, true)) 30 [.v 8] 1 [] <|
    (.lt none .pick [.v 7, .v 9, .c (.bool false)] 1 <|
    (.lt (some (.v 10, true)) .id [.v 3] 1 <|
    (.call (some (.v 10, true)) 30 [.v 11] 1 [] <|
    (.lt none .pick [.v 10, .v 12, .c (.bool false)] 1 <|
    (.lt (some (.v 13, true)) .id [.v 2] 1 <|
    (.lt (some (.v 13, true)) .id [.v 3] 1 <|
    (.lt (some (.v 13, true)) (.bin .neq) [.v 14, .v 15] 1 <|
    (.lt none .pick [.v 13, .v 16, .c (.bool false)] 1 <|
    (.lt (some (.v 17, true)) .id [.v 4] 1 <|
    (.call (some (.v 17, true)) 22 [.v 18, .c (.int .i64 1), .c (.int .i64 1000)] 1 [] <|
    (.lt none .pick [.v 17, .v 19, .c (.bool false)] 1 <|
    (.leaf .ret [.v 20] ())))))))))))))))
    (.lt none (.bin .eql) [.v 0, .c (.int .i64 2)] 1 <|
    (.lt (some (.v 7, true)) .id [.v 1] 1 <|
    (.call (some (.v 7, true)) 22 [.v 8, .c (.int .i64 1), .c (.int .i64 999)] 1 [] <|
    (.lt none .pick [.v 7, .v 9, .c (.bool false)] 1 <|
    (.lt (some (.v 10, true)) .id [.v 2] 1 <|
    (.call (some (.v 10, true)) 30 [.v 11] 1 [] <|
    (.lt none .pick [.v 10, .v 12, .c (.bool false)] 1 <|
    (.lt (some (.v 13, true)) .id [.v 3] 1 <|
    (.lt (some (.v 13, true)) (.bin .eql) [.v 14, .c (.int .i64 0)] 1 <|
    (.lt none .pick [.v 13, .v 15, .c (.bool false)] 1 <|
    (.lt (some (.v 16, true)) .id [.v 4] 1 <|
    (.lt (some (.v 16, true)) (.bin .eql) [.v 17, .c (.int .i64 0)] 1 <|
    (.lt none .pick [.v 16, .v 18, .c (.bool false)] 1 <|
    (.leaf .ret [.v 19] ()))))))))))))))))))
/-- impl.isAccount -/
def tm30 : Tm Unit :=
  (.call none 22 [.v 0, .c (.int .i64 0), .c (.int .i64 3)] 1 [] <|
  (.leaf .ret [.v 1] ()))
/-- impl.GoodAttr -/
def tm31 : Tm Unit :=
  (.call none 24 [.v 0] 1 [] <|
  (.lt (some (.v 3, true)) .id [.v 1] 1 <|
  (.call (some (.v 3, true)) 22 [.v 4, .c (.int .i64 0), .c (.int .i64 999)] 1 [] <|
  (.lt none .pick [.v 3, .v 5, .c (.bool false)] 1 <|
  (.lt (some (.v 6, true)) .len [.v 2] 1 <|
  (.lt (some (.v 6, true)) .id [.v 0] 1 <|
  (.lt (some (.v 6, true)) (.bin .eql) [.v 7, .v 8] 1 <|
  (.lt none .pick [.v 6, .v 9, .c (.bool false)] 1 <|
  (.call (some (.v 10, true)) 32 [.v 2] 1 [] <|
  (.lt (some (.v 10, true)) .not [.v 11] 1 <|
  (.lt none .pick [.v 10, .v 12, .c (.bool false)] 1 <|
  (.leaf .ret [.v 13] ()))))))))))))
/-- slices.ContainsFunc[[]int,int]@impl.GoodAttr$1 -/
def tm32 : Tm Unit :=
  (.call none 33 [.v 0] 1 [] <|
  (.lt none (.bin .geq) [.v 1, .c (.int .i64 0)] 1 <|
  (.leaf .ret [.v 2] ())))
/-- slices.IndexFunc[[]int,int]@impl.GoodAttr$1 -/
def tm33 : Tm Unit :=
  (.lt none .len [.v 0] 1 <|
  (.bind 1
   (.loop [.c (.int .i64 0)]
    (.lt none (.bin .lss) [.v 2, .v 1] 1 <|
    (.ite (.v 3)
     (.lt none .inb [.v 0, .v 2] 0 <|
     (.lt none (.row 1 0 [true]) [.v 0, .v 2] 1 <|
     (.call none 34 [.v 4] 1 [] <|
     (.ite (.v 5)
      (.leaf .ret [.v 2] ())
      (.lt none (.bin .add) [.v 2, .c (.int .i64 1)] 1 <|
      (.leaf .cont [.v 6] ()))))))
     (.leaf (.yield 1) [] ())))) <|
  (.leaf .ret [.c (.int .i64 (-1))] ())))
/-- impl.GoodAttr$1 -/
def tm34 : Tm Unit :=
  (.call none 22 [.v 0, .c (.int .i64 0), .c (.int .i64 6)] 1 [] <|
  (.lt none .not [.v 1] 1 <|
  (.leaf .ret [.v 2] ())))
/-- impl.noneAttr -/
def tm35 : Tm Unit :=
  (.lt none (.make 8 [(.int .i64 0)]) [.v 0] 1 <|
  (.leaf .ret [.c (.int .i64 0), .v 1] ()))
/-- impl.SameAttr -/
def tm36 : Tm Unit :=
  (.lt none (.bin .eql) [.v 0, .v 2] 1 <|
  (.call (some (.v 4, true)) 37 [.v 1, .v 3] 1 [] <|
  (.lt none .pick [.v 4, .v 5, .c (.bool false)] 1 <|
  (.leaf .ret [.v 6] ()))))
/-- slices.Equal[[]int,int] -/
def tm37 : Tm Unit :=
  (.lt none .len [.v 0] 1 <|
  (.lt none .len [.v 1] 1 <|
  (.lt none (.bin .neq) [.v 2, .v 3] 1 <|
  (.ite (.v 4)
   (.leaf .ret [.c (.bool false)] ())
   (.lt none .len [.v 0] 1 <|
   (.bind 1
    (.loop [.c (.int .i64 0)]
     (.lt none (.bin .lss) [.v 6, .v 5] 1 <|
     (.ite (.v 7)
      (.lt none .inb [.v 0, .v 6] 0 <|
      (.lt none (.row 1 0 [true]) [.v 0, .v 6] 1 <|
      (.lt none .inb [.v 1, .v 6] 0 <|
      (.lt none (.row 1 0 [true]) [.v 1, .v 6] 1 <|
      (.lt none (.bin .neq) [.v 8, .v 9] 1 <|
      (.ite (.v 10)
       (.leaf .ret [.c (.bool false)] ())
       (.lt none (.bin .add) [.v 6, .c (.int .i64 1)] 1 <|
       (.leaf .cont [.v 11] ()))))))))
      (.leaf (.yield 1) [] ())))) <|
   (.leaf .ret [.c (.bool true)] ())))))))
/-- laws.eqMsg -/
def tm38 : Tm Unit :=
  (.lt none (.bin .neq) [.v 0, .v 15] 1 <|
  (.ite (.v 30)
   (.leaf .ret [.c (.bool false)] ())
   (.lt none (.bin .neq) [.v 1, .v 16] 1 <|
   (.ite (.v 31)
    (.leaf .ret [.c (.bool false)] ())
    (.lt none (.bin .neq) [.v 2, .v 17] 1 <|
    (.ite (.v 32)
     (.leaf .ret [.c (.bool false)] ())
     (.lt none (.bin .neq) [.v 3, .v 18] 1 <|
     (.ite (.v 33)
      (.leaf .ret [.c (.bool false)] ())
      (.lt none (.bin .neq) [.v 4, .v 19] 1 <|
      (.ite (.v 34)
       (.leaf .ret [.c (.bool false)] ())
       (.lt none (.bin .neq) [.v 5, .v 20] 1 <|
       (.ite (.v 35)
        (.leaf .ret [.c (.bool false)] ())
        (.lt none (.bin .neq) [.v 6, .v 21] 1 <|
        (.ite (.v 36)
         (.leaf .ret [.c (.bool false)] ())
         (.lt none (.bin .neq) [.v 7, .v 22] 1 <|
         (.ite (.v 37)
          (.leaf .ret [.c (.bool false)] ())
          (.call none 39 [.v 8, .v 9, .v 10, .v 11, .v 12, .v 23, .v 24, .v 25, .v 26, .v 27] 1 [] <|
          (.lt none .not [.v 38] 1 <|
          (.ite (.v 39)
           (.leaf .ret [.c (.bool false)] ())
           (.call none 40 [.v 13, .v 14, .v 28, .v 29] 1 [] <|
           (.lt none .not [.v 40] 1 <|
           (.ite (.v 41)
            (.leaf .ret [.c (.bool false)] ())
            (.leaf .ret [.c (.bool true)] ())))))))))))))))))))))))
/-- laws.eqCmd -/
def tm39 : Tm Unit :=
  (.lt none (.bin .neq) [.v 0, .v 5] 1 <|
  (.ite (.v 10)
   (.leaf .ret [.c (.bool false)] ())
   (.lt none (.bin .neq) [.v 1, .v 6] 1 <|
   (.ite (.v 11)
    (.leaf .ret [.c (.bool false)] ())
    (.lt none (.bin .neq) [.v 2, .v 7] 1 <|
    (.ite (.v 12)
     (.leaf .ret [.c (.bool false)] ())
     (.lt none (.bin .neq) [.v 3, .v 8] 1 <|
     (.ite (.v 13)
      (.leaf .ret [.c (.bool false)] ())
      (.lt none (.bin .neq) [.v 4, .v 9] 1 <|
      (.ite (.v 14)
       (.leaf .ret [.c (.bool false)] ())
       (.leaf .ret [.c (.bool true)] ())))))))))))
/-- laws.eqAttr -/
def tm40 : Tm Unit :=
  (.lt none (.bin .neq) [.v 0, .v 2] 1 <|
  (.ite (.v 4)
   (.leaf .ret [.c (.bool false)] ())
   (.call none 41 [.v 1, .v 3] 1 [] <|
   (.lt none .not [.v 5] 1 <|
   (.ite (.v 6)
    (.leaf .ret [.c (.bool false)] ())
    (.leaf .ret [.c (.bool true)] ()))))))
/-- laws.eqIntS -/
def tm41 : Tm Unit :=
  (.lt none .len [.v 0] 1 <|
  (.lt none .len [.v 1] 1 <|
  (.lt none (.bin .neq) [.v 2, .v 3] 1 <|
  (.ite (.v 4)
   (.leaf .ret [.c (.bool false)] ())
   (.bind 1
    (.loop [.c (.int .i64 0)]
     (.lt none .len [.v 0] 1 <|
     (.lt none (.bin .lss) [.v 5, .v 6] 1 <|
     (.ite (.v 7)
      (.lt none .inb [.v 0, .v 5] 0 <|
      (.lt none (.row 1 0 [true]) [.v 0, .v 5] 1 <|
      (.lt none .inb [.v 1, .v 5] 0 <|
      (.lt none (.row 1 0 [true]) [.v 1, .v 5] 1 <|
      (.lt none (.bin .neq) [.v 8, .v 9] 1 <|
      (.ite (.v 10)
       (.leaf .ret [.c (.bool false)] ())
       (.lt none (.bin .add) [.v 5, .c (.int .i64 1)] 1 <|
       (.leaf .cont [.v 11] ()))))))))
      (.leaf (.yield 1) [] ()))))) <|
   (.leaf .ret [.c (.bool true)] ()))))))
theorem cl27 : ∀ n, Contract Try.prog (entTab [(27, .tm tm27)]) n 27 sg27 := fun n => contracts tiL_ok (by kernel_rfl) (fnOk_all (List.forall_mem_cons.2 ⟨fnOk_tm (E := ⟨tiTab tiL, [(27, sg27)], 0, 0, false, false, []⟩) Try.func193 (by kernel_rfl) (tm := tm27) (by kernel_rfl) (by kernel_rfl), List.forall_mem_nil _⟩)) n 27 sg27 (by simp)
def ren27 : Go.Shelf.Ren := ⟨fun | 41 => 193 | n => n, fun | 4 => 4 | 22 => 22 | 23 => 3 | n => n, fun n => n⟩
theorem lays27 : Go.Proofs.SlLaysE0.n41 Try.prog ren27 := { mixed := by kernel_rfl, f41 := ⟨Try.f193.name, by kernel_rfl, Try.func193.trans (congrArg some (by kernel_rfl))⟩, t4 := Try.underlying4, a4 := Try.isAgg4, z4 := Try.sizeOf4, v4 := Try.zeroValue4, t22 := Try.underlying22, a22 := Try.isAgg22, z22 := Try.sizeOf22, v22 := Try.zeroValue22 }
noncomputable def ex27 : List D → Option (List D) := cloneE 1 (entTab [(27, .tm tm27)]) 27

noncomputable def T : Nat → Ent := entTab [(0, .tm tm0), (1, .tm tm1), (2, .tm tm2), (3, .tm tm3), (4, .tm tm4), (5, .tm tm5), (6, .tm tm6), (7, .tm tm7), (8, .tm tm8), (9, .tm tm9), (10, .tm tm10), (11, .tm tm11), (12, .tm tm12), (13, .tm tm13), (14, .tm tm14), (15, .tm tm15), (16, .tm tm16), (17, .tm tm17), (18, .tm tm18), (19, .tm tm19), (20, .tm tm20), (21, .tm tm21), (22, .tm tm22), (23, .tm tm23), (24, .tm tm24), (25, .tm tm25), (26, .tm tm26), (27, .ext ex27), (28, .tm tm28), (29, .tm tm29), (30, .tm tm30), (31, .tm tm31), (32, .tm tm32), (33, .tm tm33), (34, .tm tm34), (35, .tm tm35), (36, .tm tm36), (37, .tm tm37), (38, .tm tm38), (39, .tm tm39), (40, .tm tm40), (41, .tm tm41)]
theorem ok27 : FnOk Try.prog T (tiTab tiL) sigs 27 sg27 := clone_ent (m := 98) lays27 rfl (by kernel_rfl) Try.sizeOf3 cl27 rfl
theorem ok0 : FnOk Try.prog T (tiTab tiL) sigs 0 sg0 := fnOk_tm (E := ⟨tiTab tiL, sigs, 0, 0, false, false, []⟩) Try.func4 (by kernel_rfl) (tm := tm0) (by kernel_rfl) (by kernel_rfl)
theorem ok1 : FnOk Try.prog T (tiTab tiL) sigs 1 sg1 := fnOk_tm (E := ⟨tiTab tiL, sigs, 0, 0, false, false, []⟩) Try.func20 (by kernel_rfl) (tm := tm1) (by kernel_rfl) (by kernel_rfl)
theorem ok2 : FnOk Try.prog T (tiTab tiL) sigs 2 sg2 := fnOk_tm (E := ⟨tiTab tiL, sigs, 0, 0, false, false, []⟩) Try.func94 (by kernel_rfl) (tm := tm2) (by kernel_rfl) (by kernel_rfl)
theorem ok3 : FnOk Try.prog T (tiTab tiL) sigs 3 sg3 := fnOk_tm (E := ⟨tiTab tiL, sigs, 0, 0, false, false, []⟩) Try.func130 (by kernel_rfl) (tm := tm3) (by kernel_rfl) (by kernel_rfl)
theorem ok4 : FnOk Try.prog T (tiTab tiL) sigs 4 sg4 := fnOk_tm (E := ⟨tiTab tiL, sigs, 0, 0, false, false, []⟩) Try.func22 (by kernel_rfl) (tm := tm4) (by kernel_rfl) (by kernel_rfl)
theorem ok5 : FnOk Try.prog T (tiTab tiL) sigs 5 sg5 := fnOk_tm (E := ⟨tiTab tiL, sigs, 0, 0, false, false, []⟩) Try.func103 (by kernel_rfl) (tm := tm5) (by kernel_rfl) (by kernel_rfl)
theorem ok6 : FnOk Try.prog T (tiTab tiL) sigs 6 sg6 := fnOk_tm (E := ⟨tiTab tiL, sigs, 0, 0, false, false, []⟩) Try.func104 (by kernel_rfl) (tm := tm6) (by kernel_rfl) (by kernel_rfl)
theorem ok7 : FnOk Try.prog T (tiTab tiL) sigs 7 sg7 := fnOk_tm (E := ⟨tiTab tiL, sigs, 0, 0, false, false, []⟩) Try.func135 (by kernel_rfl) (tm := tm7) (by kernel_rfl) (by kernel_rfl)
theorem ok8 : FnOk Try.prog T (tiTab tiL) sigs 8 sg8 := fnOk_tm (E := ⟨tiTab tiL, sigs, 0, 0, false, false, []⟩) Try.func21 (by kernel_rfl) (tm := tm8) (by kernel_rfl) (by kernel_rfl)
theorem ok9 : FnOk Try.prog T (tiTab tiL) sigs 9 sg9 := fnOk_tm (E := ⟨tiTab tiL, sigs, 0, 0, false, false, []⟩) Try.func95 (by kernel_rfl) (tm := tm9) (by kernel_rfl) (by kernel_rfl)
theorem ok10 : FnOk Try.prog T (tiTab tiL) sigs 10 sg10 := fnOk_tm (E := ⟨tiTab tiL, sigs, 0, 0, false, false, []⟩) Try.func96 (by kernel_rfl) (tm := tm10) (by kernel_rfl) (by kernel_rfl)
theorem ok11 : FnOk Try.prog T (tiTab tiL) sigs 11 sg11 := fnOk_tm (E := ⟨tiTab tiL, sigs, 0, 0, false, false, []⟩) Try.func97 (by kernel_rfl) (tm := tm11) (by kernel_rfl) (by kernel_rfl)
theorem ok12 : FnOk Try.prog T (tiTab tiL) sigs 12 sg12 := fnOk_tm (E := ⟨tiTab tiL, sigs, 0, 0, false, false, []⟩) Try.func98 (by kernel_rfl) (tm := tm12) (by kernel_rfl) (by kernel_rfl)
theorem ok13 : FnOk Try.prog T (tiTab tiL) sigs 13 sg13 := fnOk_tm (E := ⟨tiTab tiL, sigs, 0, 0, false, false, []⟩) Try.func102 (by kernel_rfl) (tm := tm13) (by kernel_rfl) (by kernel_rfl)
theorem ok14 : FnOk Try.prog T (tiTab tiL) sigs 14 sg14 := fnOk_tm (E := ⟨tiTab tiL, sigs, 0, 0, false, false, []⟩) Try.func101 (by kernel_rfl) (tm := tm14) (by kernel_rfl) (by kernel_rfl)
theorem ok15 : FnOk Try.prog T (tiTab tiL) sigs 15 sg15 := fnOk_tm (E := ⟨tiTab tiL, sigs, 0, 0, false, false, []⟩) Try.func173 (by kernel_rfl) (tm := tm15) (by kernel_rfl) (by kernel_rfl)
theorem ok16 : FnOk Try.prog T (tiTab tiL) sigs 16 sg16 := fnOk_tm (E := ⟨tiTab tiL, sigs, 0, 0, false, false, []⟩) Try.func100 (by kernel_rfl) (tm := tm16) (by kernel_rfl) (by kernel_rfl)
theorem ok17 : FnOk Try.prog T (tiTab tiL) sigs 17 sg17 := fnOk_tm (E := ⟨tiTab tiL, sigs, 0, 0, false, false, []⟩) Try.func172 (by kernel_rfl) (tm := tm17) (by kernel_rfl) (by kernel_rfl)
theorem ok18 : FnOk Try.prog T (tiTab tiL) sigs 18 sg18 := fnOk_tm (E := ⟨tiTab tiL, sigs, 0, 0, false, false, []⟩) Try.func207 (by kernel_rfl) (tm := tm18) (by kernel_rfl) (by kernel_rfl)
theorem ok19 : FnOk Try.prog T (tiTab tiL) sigs 19 sg19 := fnOk_tm (E := ⟨tiTab tiL, sigs, 0, 0, false, false, []⟩) Try.func99 (by kernel_rfl) (tm := tm19) (by kernel_rfl) (by kernel_rfl)
theorem ok20 : FnOk Try.prog T (tiTab tiL) sigs 20 sg20 := fnOk_tm (E := ⟨tiTab tiL, sigs, 0, 0, false, false, []⟩) Try.func171 (by kernel_rfl) (tm := tm20) (by kernel_rfl) (by kernel_rfl)
theorem ok21 : FnOk Try.prog T (tiTab tiL) sigs 21 sg21 := fnOk_tm (E := ⟨tiTab tiL, sigs, 0, 0, false, false, []⟩) Try.func23 (by kernel_rfl) (tm := tm21) (by kernel_rfl) (by kernel_rfl)
theorem ok22 : FnOk Try.prog T (tiTab tiL) sigs 22 sg22 := fnOk_tm (E := ⟨tiTab tiL, sigs, 0, 0, false, false, []⟩) Try.func105 (by kernel_rfl) (tm := tm22) (by kernel_rfl) (by kernel_rfl)
theorem ok23 : FnOk Try.prog T (tiTab tiL) sigs 23 sg23 := fnOk_tm (E := ⟨tiTab tiL, sigs, 0, 0, false, false, []⟩) Try.func106 (by kernel_rfl) (tm := tm23) (by kernel_rfl) (by kernel_rfl)
theorem ok24 : FnOk Try.prog T (tiTab tiL) sigs 24 sg24 := fnOk_tm (E := ⟨tiTab tiL, sigs, 0, 0, false, false, []⟩) Try.func118 (by kernel_rfl) (tm := tm24) (by kernel_rfl) (by kernel_rfl)
theorem ok25 : FnOk Try.prog T (tiTab tiL) sigs 25 sg25 := fnOk_tm (E := ⟨tiTab tiL, sigs, 0, 0, false, false, []⟩) Try.func108 (by kernel_rfl) (tm := tm25) (by kernel_rfl) (by kernel_rfl)
theorem ok26 : FnOk Try.prog T (tiTab tiL) sigs 26 sg26 := fnOk_tm (E := ⟨tiTab tiL, sigs, 0, 0, false, false, []⟩) Try.func174 (by kernel_rfl) (tm := tm26) (by kernel_rfl) (by kernel_rfl)
theorem ok28 : FnOk Try.prog T (tiTab tiL) sigs 28 sg28 := fnOk_tm (E := ⟨tiTab tiL, sigs, 0, 0, false, false, []⟩) Try.func107 (by kernel_rfl) (tm := tm28) (by kernel_rfl) (by kernel_rfl)
theorem ok29 : FnOk Try.prog T (tiTab tiL) sigs 29 sg29 := fnOk_tm (E := ⟨tiTab tiL, sigs, 0, 0, false, false, []⟩) Try.func109 (by kernel_rfl) (tm := tm29) (by kernel_rfl) (by kernel_rfl)
theorem ok30 : FnOk Try.prog T (tiTab tiL) sigs 30 sg30 := fnOk_tm (E := ⟨tiTab tiL, sigs, 0, 0, false, false, []⟩) Try.func175 (by kernel_rfl) (tm := tm30) (by kernel_rfl) (by kernel_rfl)
theorem ok31 : FnOk Try.prog T (tiTab tiL) sigs 31 sg31 := fnOk_tm (E := ⟨tiTab tiL, sigs, 0, 0, false, false, []⟩) Try.func110 (by kernel_rfl) (tm := tm31) (by kernel_rfl) (by kernel_rfl)
theorem ok32 : FnOk Try.prog T (tiTab tiL) sigs 32 sg32 := fnOk_tm (E := ⟨tiTab tiL, sigs, 0, 0, false, false, []⟩) Try.func176 (by kernel_rfl) (tm := tm32) (by kernel_rfl) (by kernel_rfl)
theorem ok33 : FnOk Try.prog T (tiTab tiL) sigs 33 sg33 := fnOk_tm (E := ⟨tiTab tiL, sigs, 0, 0, false, false, []⟩) Try.func208 (by kernel_rfl) (tm := tm33) (by kernel_rfl) (by kernel_rfl)
theorem ok34 : FnOk Try.prog T (tiTab tiL) sigs 34 sg34 := fnOk_tm (E := ⟨tiTab tiL, sigs, 0, 0, false, false, []⟩) Try.func177 (by kernel_rfl) (tm := tm34) (by kernel_rfl) (by kernel_rfl)
theorem ok35 : FnOk Try.prog T (tiTab tiL) sigs 35 sg35 := fnOk_tm (E := ⟨tiTab tiL, sigs, 0, 0, false, false, []⟩) Try.func112 (by kernel_rfl) (tm := tm35) (by kernel_rfl) (by kernel_rfl)
theorem ok36 : FnOk Try.prog T (tiTab tiL) sigs 36 sg36 := fnOk_tm (E := ⟨tiTab tiL, sigs, 0, 0, false, false, []⟩) Try.func111 (by kernel_rfl) (tm := tm36) (by kernel_rfl) (by kernel_rfl)
theorem ok37 : FnOk Try.prog T (tiTab tiL) sigs 37 sg37 := fnOk_tm (E := ⟨tiTab tiL, sigs, 0, 0, false, false, []⟩) Try.func178 (by kernel_rfl) (tm := tm37) (by kernel_rfl) (by kernel_rfl)
theorem ok38 : FnOk Try.prog T (tiTab tiL) sigs 38 sg38 := fnOk_tm (E := ⟨tiTab tiL, sigs, 0, 0, false, false, []⟩) Try.func24 (by kernel_rfl) (tm := tm38) (by kernel_rfl) (by kernel_rfl)
theorem ok39 : FnOk Try.prog T (tiTab tiL) sigs 39 sg39 := fnOk_tm (E := ⟨tiTab tiL, sigs, 0, 0, false, false, []⟩) Try.func59 (by kernel_rfl) (tm := tm39) (by kernel_rfl) (by kernel_rfl)
theorem ok40 : FnOk Try.prog T (tiTab tiL) sigs 40 sg40 := fnOk_tm (E := ⟨tiTab tiL, sigs, 0, 0, false, false, []⟩) Try.func60 (by kernel_rfl) (tm := tm40) (by kernel_rfl) (by kernel_rfl)
theorem ok41 : FnOk Try.prog T (tiTab tiL) sigs 41 sg41 := fnOk_tm (E := ⟨tiTab tiL, sigs, 0, 0, false, false, []⟩) Try.func52 (by kernel_rfl) (tm := tm41) (by kernel_rfl) (by kernel_rfl)
theorem fns_ok : ∀ key s, (key, s) ∈ sigs → FnOk Try.prog T (tiTab tiL) sigs key s := fnOk_all (List.forall_mem_cons.2 ⟨ok0, List.forall_mem_cons.2 ⟨ok1, List.forall_mem_cons.2 ⟨ok2, List.forall_mem_cons.2 ⟨ok3, List.forall_mem_cons.2 ⟨ok4, List.forall_mem_cons.2 ⟨ok5, List.forall_mem_cons.2 ⟨ok6, List.forall_mem_cons.2 ⟨ok7, List.forall_mem_cons.2 ⟨ok8, List.forall_mem_cons.2 ⟨ok9, List.forall_mem_cons.2 ⟨ok10, List.forall_mem_cons.2 ⟨ok11, List.forall_mem_cons.2 ⟨ok12, List.forall_mem_cons.2 ⟨ok13, List.forall_mem_cons.2 ⟨ok14, List.forall_mem_cons.2 ⟨ok15, List.forall_mem_cons.2 ⟨ok16, List.forall_mem_cons.2 ⟨ok17, List.forall_mem_cons.2 ⟨ok18, List.forall_mem_cons.2 ⟨ok19, List.forall_mem_cons.2 ⟨ok20, List.forall_mem_cons.2 ⟨ok21, List.forall_mem_cons.2 ⟨ok22, List.forall_mem_cons.2 ⟨ok23, List.forall_mem_cons.2 ⟨ok24, List.forall_mem_cons.2 ⟨ok25, List.forall_mem_cons.2 ⟨ok26, List.forall_mem_cons.2 ⟨ok27, List.forall_mem_cons.2 ⟨ok28, List.forall_mem_cons.2 ⟨ok29, List.forall_mem_cons.2 ⟨ok30, List.forall_mem_cons.2 ⟨ok31, List.forall_mem_cons.2 ⟨ok32, List.forall_mem_cons.2 ⟨ok33, List.forall_mem_cons.2 ⟨ok34, List.forall_mem_cons.2 ⟨ok35, List.forall_mem_cons.2 ⟨ok36, List.forall_mem_cons.2 ⟨ok37, List.forall_mem_cons.2 ⟨ok38, List.forall_mem_cons.2 ⟨ok39, List.forall_mem_cons.2 ⟨ok40, List.forall_mem_cons.2 ⟨ok41, List.forall_mem_nil _⟩⟩⟩⟩⟩⟩⟩⟩⟩⟩⟩⟩⟩⟩⟩⟩⟩⟩⟩⟩⟩⟩⟩⟩⟩⟩⟩⟩⟩⟩⟩⟩⟩⟩⟩⟩⟩⟩⟩⟩⟩⟩)
theorem contract : ∀ n, Contract Try.prog T n 0 sg0 := fun n => contracts tiL_ok (by kernel_rfl) fns_ok n 0 sg0 (by simp [sigs])
theorem T_eq : (T 0 = .tm tm0 ∧ T 1 = .tm tm1 ∧ T 2 = .tm tm2 ∧ T 3 = .tm tm3 ∧ T 4 = .tm tm4 ∧ T 5 = .tm tm5 ∧ T 6 = .tm tm6 ∧ T 7 = .tm tm7 ∧ T 8 = .tm tm8 ∧ T 9 = .tm tm9 ∧ T 10 = .tm tm10 ∧ T 11 = .tm tm11 ∧ T 12 = .tm tm12 ∧ T 13 = .tm tm13 ∧ T 14 = .tm tm14 ∧ T 15 = .tm tm15 ∧ T 16 = .tm tm16 ∧ T 17 = .tm tm17 ∧ T 18 = .tm tm18 ∧ T 19 = .tm tm19 ∧ T 20 = .tm tm20 ∧ T 21 = .tm tm21 ∧ T 22 = .tm tm22 ∧ T 23 = .tm tm23 ∧ T 24 = .tm tm24 ∧ T 25 = .tm tm25 ∧ T 26 = .tm tm26 ∧ T 27 = .ext ex27 ∧ T 28 = .tm tm28 ∧ T 29 = .tm tm29 ∧ T 30 = .tm tm30 ∧ T 31 = .tm tm31 ∧ T 32 = .tm tm32 ∧ T 33 = .tm tm33 ∧ T 34 = .tm tm34 ∧ T 35 = .tm tm35 ∧ T 36 = .tm tm36 ∧ T 37 = .tm tm37 ∧ T 38 = .tm tm38 ∧ T 39 = .tm tm39 ∧ T 40 = .tm tm40 ∧ T 41 = .tm tm41) := ⟨rfl, rfl, rfl, rfl, rfl, rfl, rfl, rfl, rfl, rfl, rfl, rfl, rfl, rfl, rfl, rfl, rfl, rfl, rfl, rfl, rfl, rfl, rfl, rfl, rfl, rfl, rfl, rfl, rfl, rfl, rfl, rfl, rfl, rfl, rfl, rfl, rfl, rfl, rfl, rfl, rfl, rfl⟩
end FnExactGoodMsg
end Go.Proofs.Ytacfmplofkjonaa
