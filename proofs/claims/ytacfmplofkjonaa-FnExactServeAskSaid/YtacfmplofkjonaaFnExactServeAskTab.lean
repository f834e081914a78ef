/- The terms of the functions that FnExactServeAsk reaches (printed by the author's own program). -/
import Derived.Test.YtacfmplofkjonaaChecked
import Derived.Test.YtacfmplofkjonaaRf9
import Derived.KernelRfl
namespace Go.Proofs.Ytacfmplofkjonaa
namespace FnExactServeAsk
open Go Go.Proofs.Ytacfmplofkjonaa.Rf
set_option maxRecDepth 100000

def tiL : List (Nat × TI) := [
  (3, ⟨false, 1, 8, [.sc (.int .i64 0)], [], none, (some .i64), false, false, false, false⟩),
  (4, ⟨false, 1, 1, [.sc (.bool false)], [], none, none, true, false, false, false⟩),
  (22, ⟨false, 1, 24, [.sl 1], [], (some 3), none, false, false, false, false⟩),
  (23, ⟨false, 1, 24, [.sl 2], [], (some 73), none, false, false, false, false⟩),
  (25, ⟨true, 3, 72, [.sl 1, .sl 1, .sl 2], [(0, 22), (1, 22), (2, 23)], none, none, false, false, false, false⟩),
  (31, ⟨true, 5, 40, [.sc (.int .i64 0), .sc (.int .i64 0), .sc (.int .i64 0), .sc (.int .i64 0), .sc (.int .i64 0)], [(0, 3), (1, 3), (2, 3), (3, 3), (4, 3)], none, none, false, false, false, true⟩),
  (38, ⟨true, 5, 40, [.sc (.int .i64 0), .sc (.int .i64 0), .sc (.int .i64 0), .sc (.int .i64 0), .sc (.int .i64 0)], [(0, 3), (1, 3), (2, 3), (3, 3), (4, 3)], none, none, false, false, false, true⟩),
  (66, ⟨false, 1, 24, [.sl 2], [], (some 214), none, false, false, false, false⟩),
  (68, ⟨true, 3, 72, [.sl 1, .sl 1, .sl 2], [(0, 22), (1, 22), (2, 66)], none, none, false, false, false, false⟩),
  (70, ⟨true, 7, 56, [.sc (.int .i64 0), .sc (.int .i64 0), .sc (.int .i64 0), .sc (.int .i64 0), .sc (.int .i64 0), .sc (.int .i64 0), .sc (.int .i64 0)], [(0, 3), (1, 3), (2, 31)], none, none, false, false, false, true⟩),
  (73, ⟨true, 2, 16, [.sc (.int .i64 0), .sc (.int .i64 0)], [(0, 3), (1, 3)], none, none, false, false, false, true⟩),
  (78, ⟨true, 7, 56, [.sc (.int .i64 0), .sc (.int .i64 0), .sc (.int .i64 0), .sc (.int .i64 0), .sc (.int .i64 0), .sc (.int .i64 0), .sc (.int .i64 0)], [(0, 3), (1, 3), (2, 38)], none, none, false, false, false, true⟩),
  (214, ⟨true, 2, 16, [.sc (.int .i64 0), .sc (.int .i64 0)], [(0, 3), (1, 3)], none, none, false, false, false, true⟩)]
theorem ti3 : tiOf Try.prog 3 = some ⟨false, 1, 8, [.sc (.int .i64 0)], [], none, (some .i64), false, false, false, false⟩ := by kernel_rfl
theorem ti4 : tiOf Try.prog 4 = some ⟨false, 1, 1, [.sc (.bool false)], [], none, none, true, false, false, false⟩ := by kernel_rfl
theorem ti22 : tiOf Try.prog 22 = some ⟨false, 1, 24, [.sl 1], [], (some 3), none, false, false, false, false⟩ := by kernel_rfl
theorem ti23 : tiOf Try.prog 23 = some ⟨false, 1, 24, [.sl 2], [], (some 73), none, false, false, false, false⟩ := by kernel_rfl
theorem ti25 : tiOf Try.prog 25 = some ⟨true, 3, 72, [.sl 1, .sl 1, .sl 2], [(0, 22), (1, 22), (2, 23)], none, none, false, false, false, false⟩ := by kernel_rfl
theorem ti31 : tiOf Try.prog 31 = some ⟨true, 5, 40, [.sc (.int .i64 0), .sc (.int .i64 0), .sc (.int .i64 0), .sc (.int .i64 0), .sc (.int .i64 0)], [(0, 3), (1, 3), (2, 3), (3, 3), (4, 3)], none, none, false, false, false, true⟩ := by kernel_rfl
theorem ti38 : tiOf Try.prog 38 = some ⟨true, 5, 40, [.sc (.int .i64 0), .sc (.int .i64 0), .sc (.int .i64 0), .sc (.int .i64 0), .sc (.int .i64 0)], [(0, 3), (1, 3), (2, 3), (3, 3), (4, 3)], none, none, false, false, false, true⟩ := by kernel_rfl
theorem ti66 : tiOf Try.prog 66 = some ⟨false, 1, 24, [.sl 2], [], (some 214), none, false, false, false, false⟩ := by kernel_rfl
theorem ti68 : tiOf Try.prog 68 = some ⟨true, 3, 72, [.sl 1, .sl 1, .sl 2], [(0, 22), (1, 22), (2, 66)], none, none, false, false, false, false⟩ := by kernel_rfl
theorem ti70 : tiOf Try.prog 70 = some ⟨true, 7, 56, [.sc (.int .i64 0), .sc (.int .i64 0), .sc (.int .i64 0), .sc (.int .i64 0), .sc (.int .i64 0), .sc (.int .i64 0), .sc (.int .i64 0)], [(0, 3), (1, 3), (2, 31)], none, none, false, false, false, true⟩ := by kernel_rfl
theorem ti73 : tiOf Try.prog 73 = some ⟨true, 2, 16, [.sc (.int .i64 0), .sc (.int .i64 0)], [(0, 3), (1, 3)], none, none, false, false, false, true⟩ := by kernel_rfl
theorem ti78 : tiOf Try.prog 78 = some ⟨true, 7, 56, [.sc (.int .i64 0), .sc (.int .i64 0), .sc (.int .i64 0), .sc (.int .i64 0), .sc (.int .i64 0), .sc (.int .i64 0), .sc (.int .i64 0)], [(0, 3), (1, 3), (2, 38)], none, none, false, false, false, true⟩ := by kernel_rfl
theorem ti214 : tiOf Try.prog 214 = some ⟨true, 2, 16, [.sc (.int .i64 0), .sc (.int .i64 0)], [(0, 3), (1, 3)], none, none, false, false, false, true⟩ := by kernel_rfl
theorem tiL_ok : TiOk Try.prog (tiTab tiL) := tiTab_ok (l := tiL) (List.forall_mem_cons.2 ⟨ti3, List.forall_mem_cons.2 ⟨ti4, List.forall_mem_cons.2 ⟨ti22, List.forall_mem_cons.2 ⟨ti23, List.forall_mem_cons.2 ⟨ti25, List.forall_mem_cons.2 ⟨ti31, List.forall_mem_cons.2 ⟨ti38, List.forall_mem_cons.2 ⟨ti66, List.forall_mem_cons.2 ⟨ti68, List.forall_mem_cons.2 ⟨ti70, List.forall_mem_cons.2 ⟨ti73, List.forall_mem_cons.2 ⟨ti78, List.forall_mem_cons.2 ⟨ti214, List.forall_mem_nil _⟩⟩⟩⟩⟩⟩⟩⟩⟩⟩⟩⟩⟩)

def sg0 : Sig := ⟨7, [(true, [.fz false, .fz false, .fz false]), (true, [.sc, .sc, .sc, .sc, .sc, .sc, .sc])], [], [(false, [.sc])]⟩
def sg1 : Sig := ⟨38, [(true, [.fz false, .fz false, .fz false]), (false, [.sc])], [], [(false, [.sc])]⟩
def sg2 : Sig := ⟨130, [(false, [.fz false]), (false, [.sc])], [], [(false, [.sc])]⟩
def sg3 : Sig := ⟨131, [(false, [.fz false]), (false, [.sc])], [], [(false, [.sc])]⟩
def sg4 : Sig := ⟨40, [(true, [.fz false, .fz false, .fz false])], [], [(true, [.ow 99, .ow 99, .ow 99])]⟩
def sg5 : Sig := ⟨135, [(false, [.fz false])], [], [(false, [.ow 99])]⟩
def sg6 : Sig := ⟨136, [(false, [.fz false])], [], [(false, [.ow 99])]⟩
def sg7 : Sig := ⟨190, [(true, [.sc, .sc])], [], [(true, [.sc, .sc])]⟩
def sg8 : Sig := ⟨41, [(true, [.sc, .sc, .sc, .sc, .sc, .sc, .sc])], [], [(true, [.sc, .sc, .sc, .sc, .sc, .sc, .sc])]⟩
def sg9 : Sig := ⟨103, [(true, [.sc, .sc, .sc, .sc, .sc])], [], [(true, [.sc, .sc, .sc, .sc, .sc])]⟩
def sg10 : Sig := ⟨39, [(true, [.fz false, .fz false, .fz false]), (true, [.sc, .sc, .sc, .sc, .sc, .sc, .sc])], [], [(true, [.ow 99, .ow 99, .ow 99]), (true, [.sc, .sc]), (false, [.sc]), (false, [.sc])]⟩
def sg11 : Sig := ⟨132, [(true, [.fz false, .fz false, .fz false])], [], [(false, [.sc])]⟩
def sg12 : Sig := ⟨186, [(false, [.fz false])], [], [(false, [.sc])]⟩
def sg13 : Sig := ⟨96, [(false, [.sc]), (false, [.sc]), (false, [.sc])], [], [(false, [.sc])]⟩
def sg14 : Sig := ⟨171, [(false, [.fz false]), (false, [.sc]), (false, [.sc])], [], [(false, [.sc])]⟩
def sg15 : Sig := ⟨187, [(true, [.sc, .sc])], [], [(false, [.sc])]⟩
def sg16 : Sig := ⟨133, [(true, [.sc, .sc, .sc, .sc, .sc, .sc, .sc])], [], [(false, [.sc])]⟩
def sg17 : Sig := ⟨100, [(true, [.sc, .sc, .sc, .sc, .sc])], [], [(false, [.sc])]⟩
def sg18 : Sig := ⟨172, [(true, [.sc, .sc, .sc, .sc, .sc])], [], [(false, [.sc])]⟩
def sg19 : Sig := ⟨207, [(false, [.sc])], [], [(false, [.sc])]⟩
def sg20 : Sig := ⟨134, [(true, [.fz false, .fz false, .fz false]), (true, [.sc, .sc, .sc, .sc, .sc, .sc, .sc])], [], [(true, [.ow 99, .ow 99, .ow 99]), (true, [.sc, .sc]), (false, [.sc])]⟩
def sg21 : Sig := ⟨188, [(true, [.fz false, .fz false, .fz false])], [], [(true, [.ow 99, .ow 99, .ow 99])]⟩
def sg22 : Sig := ⟨209, [(false, [.fz false])], [], [(false, [.ow 99])]⟩
def sg23 : Sig := ⟨189, [(false, [.fz false]), (true, [.sc, .sc, .sc, .sc, .sc])], [], [(false, [.ow 99]), (true, [.sc, .sc])]⟩
def sg24 : Sig := ⟨42, [(true, [.fz false, .fz false, .fz false]), (true, [.sc, .sc, .sc, .sc, .sc, .sc, .sc])], [], [(true, [.ow 1, .ow 99, .ow 99]), (true, [.sc, .sc]), (false, [.sc]), (false, [.sc])]⟩
def sg25 : Sig := ⟨137, [(true, [.fz false, .fz false, .fz false])], [], [(false, [.sc])]⟩
def sg26 : Sig := ⟨191, [(false, [.fz false])], [], [(false, [.sc])]⟩
def sg27 : Sig := ⟨176, [(false, [.fz false]), (false, [.clo 211 []])], [], [(false, [.sc])]⟩
def sg28 : Sig := ⟨208, [(false, [.fz false]), (false, [.clo 211 []])], [], [(false, [.sc])]⟩
def sg29 : Sig := ⟨211, [(false, [.sc])], [], [(false, [.sc])]⟩
def sg30 : Sig := ⟨105, [(false, [.sc]), (false, [.sc]), (false, [.sc])], [], [(false, [.sc])]⟩
def sg31 : Sig := ⟨212, [(false, [.fz false])], [], [(false, [.sc])]⟩
def sg32 : Sig := ⟨192, [(true, [.sc, .sc])], [], [(false, [.sc])]⟩
def sg33 : Sig := ⟨138, [(true, [.sc, .sc, .sc, .sc, .sc, .sc, .sc])], [], [(false, [.sc])]⟩
def sg34 : Sig := ⟨109, [(true, [.sc, .sc, .sc, .sc, .sc])], [], [(false, [.sc])]⟩
def sg35 : Sig := ⟨175, [(false, [.sc])], [], [(false, [.sc])]⟩
def sg36 : Sig := ⟨139, [(true, [.fz false, .fz false, .fz false])], [], [(true, [.ow 99, .ow 99, .ow 99])]⟩
def sg37 : Sig := ⟨193, [(false, [.fz false])], [], [(false, [.ow 99])]⟩
def sg38 : Sig := ⟨194, [(false, [.fz false])], [], [(false, [.ow 99])]⟩
def sg39 : Sig := ⟨140, [(false, [.px 0]), (true, [.sc, .sc, .sc, .sc, .sc, .sc, .sc])], [(false, [(.ow 99, .ow 1), (.ow 99, .ow 99), (.ow 99, .ow 99)])], [(true, [.sc, .sc]), (false, [.sc])]⟩
def sg40 : Sig := ⟨195, [(false, [.mu 1]), (true, [.sc, .sc, .sc, .sc, .sc])], [], [(true, [.sc, .sc])]⟩
def sg41 : Sig := ⟨17, [(true, [.fz false, .fz false, .fz false]), (true, [.fz false, .fz false, .fz false])], [], [(false, [.sc])]⟩
def sg42 : Sig := ⟨52, [(false, [.fz false]), (false, [.fz false])], [], [(false, [.sc])]⟩
def sg43 : Sig := ⟨51, [(false, [.fz false]), (false, [.fz false])], [], [(false, [.sc])]⟩
def sg44 : Sig := ⟨43, [(true, [.sc, .sc]), (true, [.sc, .sc])], [], [(false, [.sc])]⟩
def sg45 : Sig := ⟨18, [(true, [.mu 1, .mu 1, .mu 1]), (false, [.sc])], [], [(false, [.sc])]⟩
def sg46 : Sig := ⟨54, [(false, [.mu 1]), (false, [.sc])], [], [(false, [.sc])]⟩
def sg47 : Sig := ⟨53, [(false, [.mu 1]), (false, [.sc])], [], [(false, [.sc])]⟩
def sg48 : Sig := ⟨19, [(true, [.fz false, .fz false, .fz false]), (false, [.sc])], [], [(false, [.sc])]⟩
def sg49 : Sig := ⟨56, [(false, [.fz false]), (false, [.sc])], [], [(false, [.sc])]⟩
def sg50 : Sig := ⟨55, [(false, [.fz false]), (false, [.sc])], [], [(false, [.sc])]⟩
def sigs : List (Nat × Sig) := [(0, sg0), (1, sg1), (2, sg2), (3, sg3), (4, sg4), (5, sg5), (6, sg6), (7, sg7), (8, sg8), (9, sg9), (10, sg10), (11, sg11), (12, sg12), (13, sg13), (14, sg14), (15, sg15), (16, sg16), (17, sg17), (18, sg18), (19, sg19), (20, sg20), (21, sg21), (22, sg22), (23, sg23), (24, sg24), (25, sg25), (26, sg26), (27, sg27), (28, sg28), (29, sg29), (30, sg30), (31, sg31), (32, sg32), (33, sg33), (34, sg34), (35, sg35), (36, sg36), (37, sg37), (38, sg38), (39, sg39), (40, sg40), (41, sg41), (42, sg42), (43, sg43), (44, sg44), (45, sg45), (46, sg46), (47, sg47), (48, sg48), (49, sg49), (50, sg50)]

/-- laws.FnExactServeAsk -/
def tm0 : Tm Unit :=
  (.call none 1 [.v 0, .v 1, .v 2, .c (.int .i64 1048576)] 1 [] <|
  (.lt none (.bin .lss) [.v 10, .c (.int .i64 0)] 1 <|
  (.ite (.v 11)
   (.leaf .ret [.c (.bool true)] ())
   (.call none 4 [.v 0, .v 1, .v 2] 3 [] <|
   (.call none 8 [.v 3, .v 4, .v 5, .v 6, .v 7, .v 8, .v 9] 7 [] <|
   (.call none 10 [.v 12, .v 13, .v 14, .v 15, .v 16, .v 17, .v 18, .v 19, .v 20, .v 21] 7 [] <|
   (.lt none (.dep 99) [.v 22] 0 <|
   (.lt none (.dep 99) [.v 23] 0 <|
   (.lt none (.dep 99) [.v 24] 0 <|
   (.call none 4 [.v 0, .v 1, .v 2] 3 [] <|
   (.call none 8 [.v 3, .v 4, .v 5, .v 6, .v 7, .v 8, .v 9] 7 [] <|
   (.call none 24 [.v 29, .v 30, .v 31, .v 32, .v 33, .v 34, .v 35, .v 36, .v 37, .v 38] 7 [] <|
   (.lt none (.dep 1) [.v 39] 0 <|
   (.lt none (.dep 99) [.v 40] 0 <|
   (.lt none (.dep 99) [.v 41] 0 <|
   (.call none 41 [.v 39, .v 40, .v 41, .v 22, .v 23, .v 24] 1 [] <|
   (.lt none .not [.v 46] 1 <|
   (.call (some (.v 47, false)) 44 [.v 42, .v 43, .v 25, .v 26] 1 [] <|
   (.lt (some (.v 47, false)) .not [.v 48] 1 <|
   (.lt none .pick [.v 47, .c (.bool true), .v 49] 1 <|
   (.lt (some (.v 50, false)) .id [.v 44] 1 <|
   (.lt (some (.v 50, false)) .id [.v 27] 1 <|
   (.lt (some (.v 50, false)) (.bin .neq) [.v 51, .v 52] 1 <|
   (.lt none .pick [.v 50, .c (.bool true), .v 53] 1 <|
   (.lt (some (.v 54, false)) .id [.v 45] 1 <|
   (.lt (some (.v 54, false)) .id [.v 28] 1 <|
   (.lt (some (.v 54, false)) (.eqb true) [.v 55, .v 56] 1 <|
   (.lt none .pick [.v 54, .c (.bool true), .v 57] 1 <|
   (.ite (.v 58)
    (.leaf .ret [.c (.bool false)] ())
    (.call none 4 [.v 0, .v 1, .v 2] 3 [] <|
    (.call none 41 [.v 29, .v 30, .v 31, .v 59, .v 60, .v 61] 1 [] <|
    (.lt none .not [.v 62] 1 <|
    (.ite (.v 63)
     (.leaf .ret [.c (.bool false)] ())
     (.call none 45 [.v 29, .v 30, .v 31, .c (.int .i64 1)] 4 [] <|
     (.lt none (.bin .lss) [.v 64, .c (.int .i64 0)] 1 <|
     (.call (some (.v 68, false)) 41 [.v 39, .v 40, .v 41, .v 22, .v 23, .v 24] 1 [] <|
     (.lt (some (.v 68, false)) .not [.v 69] 1 <|
     (.lt none .pick [.v 68, .c (.bool true), .v 70] 1 <|
     (.call (some (.v 71, false)) 44 [.v 42, .v 43, .v 25, .v 26] 1 [] <|
     (.lt (some (.v 71, false)) .not [.v 72] 1 <|
     (.lt none .pick [.v 71, .c (.bool true), .v 73] 1 <|
     (.lt (some (.v 74, false)) .id [.v 44] 1 <|
     (.lt (some (.v 74, false)) .id [.v 27] 1 <|
     (.lt (some (.v 74, false)) (.bin .neq) [.v 75, .v 76] 1 <|
     (.lt none .pick [.v 74, .c (.bool true), .v 77] 1 <|
     (.lt (some (.v 78, false)) .id [.v 45] 1 <|
     (.lt (some (.v 78, false)) .id [.v 28] 1 <|
     (.lt (some (.v 78, false)) (.eqb true) [.v 79, .v 80] 1 <|
     (.lt none .pick [.v 78, .c (.bool true), .v 81] 1 <|
     (.ite (.v 82)
      (.leaf .ret [.c (.bool false)] ())
      (.call none 45 [.v 39, .v 40, .v 41, .c (.int .i64 1)] 4 [] <|
      (.call none 48 [.v 84, .v 85, .v 86, .c (.int .i64 1)] 1 [] <|
      (.lt none (.bin .lss) [.v 87, .c (.int .i64 0)] 1 <|
      (.ite (.v 88)
       (.leaf .ret [.c (.bool false)] ())
       (.lt none (.bin .neq) [.v 87, .v 83] 1 <|
       (.ite (.v 89)
        (.leaf .ret [.c (.bool false)] ())
        (.call none 4 [.v 0, .v 1, .v 2] 3 [] <|
        (.call none 8 [.v 3, .v 4, .v 5, .v 6, .v 7, .v 8, .v 9] 7 [] <|
        (.call none 24 [.v 90, .v 91, .v 92, .v 93, .v 94, .v 95, .v 96, .v 97, .v 98, .v 99] 7 [] <|
        (.lt none (.dep 1) [.v 100] 0 <|
        (.lt none (.dep 99) [.v 101] 0 <|
        (.lt none (.dep 99) [.v 102] 0 <|
        (.call none 41 [.v 100, .v 101, .v 102, .v 22, .v 23, .v 24] 1 [] <|
        (.lt none .not [.v 107] 1 <|
        (.call (some (.v 108, false)) 44 [.v 103, .v 104, .v 25, .v 26] 1 [] <|
        (.lt (some (.v 108, false)) .not [.v 109] 1 <|
        (.lt none .pick [.v 108, .c (.bool true), .v 110] 1 <|
        (.lt (some (.v 111, false)) .id [.v 105] 1 <|
        (.lt (some (.v 111, false)) .id [.v 27] 1 <|
        (.lt (some (.v 111, false)) (.bin .neq) [.v 112, .v 113] 1 <|
        (.lt none .pick [.v 111, .c (.bool true), .v 114] 1 <|
        (.lt (some (.v 115, false)) .id [.v 106] 1 <|
        (.lt (some (.v 115, false)) .id [.v 28] 1 <|
        (.lt (some (.v 115, false)) (.eqb true) [.v 116, .v 117] 1 <|
        (.lt none .pick [.v 115, .c (.bool true), .v 118] 1 <|
        (.ite (.v 119)
         (.leaf .ret [.c (.bool false)] ())
         (.call none 48 [.v 84, .v 85, .v 86, .c (.int .i64 1)] 1 [] <|
         (.lt none (.bin .lss) [.v 120, .c (.int .i64 0)] 1 <|
         (.ite (.v 121)
          (.leaf .ret [.c (.bool false)] ())
          (.lt none (.bin .neq) [.v 120, .v 83] 1 <|
          (.ite (.v 122)
           (.leaf .ret [.c (.bool false)] ())
           (.leaf .ret [.c (.bool true)] ()))))))))))))))))))))))))))))))))))))))))))))))))))))))))))))))))))))))))))))))))))
/-- laws.szClerk -/
def tm1 : Tm Unit :=
  (.call none 2 [.v 0, .v 3] 1 [] <|
  (.lt none (.bin .lss) [.v 4, .c (.int .i64 0)] 1 <|
  (.ite (.v 5)
   (.leaf .ret [.c (.int .i64 (-1))] ())
   (.call none 2 [.v 1, .v 4] 1 [] <|
   (.lt none (.bin .lss) [.v 6, .c (.int .i64 0)] 1 <|
   (.ite (.v 7)
    (.leaf .ret [.c (.int .i64 (-1))] ())
    (.call none 3 [.v 2, .v 6] 1 [] <|
    (.lt none (.bin .lss) [.v 8, .c (.int .i64 0)] 1 <|
    (.ite (.v 9)
     (.leaf .ret [.c (.int .i64 (-1))] ())
     (.leaf .ret [.v 8] ()))))))))))
/-- laws.szIntS -/
def tm2 : Tm Unit :=
  (.lt none .len [.v 0] 1 <|
  (.lt none (.bin .sub) [.v 1, .v 2] 1 <|
  (.lt none (.bin .lss) [.v 3, .c (.int .i64 0)] 1 <|
  (.ite (.v 4)
   (.leaf .ret [.c (.int .i64 (-1))] ())
   (.leaf .ret [.v 3] ())))))
/-- laws.szToldS -/
def tm3 : Tm Unit :=
  (.lt none .len [.v 0] 1 <|
  (.lt none (.bin .sub) [.v 1, .v 2] 1 <|
  (.lt none (.bin .lss) [.v 3, .c (.int .i64 0)] 1 <|
  (.ite (.v 4)
   (.leaf .ret [.c (.int .i64 (-1))] ())
   (.leaf .ret [.v 3] ())))))
/-- laws.toClerk -/
def tm4 : Tm Unit :=
  (.call none 5 [.v 0] 1 [] <|
  (.call none 5 [.v 1] 1 [] <|
  (.call none 6 [.v 2] 1 [] <|
  (.leaf .ret [.v 3, .v 4, .v 5] ()))))
/-- laws.toIntS -/
def tm5 : Tm Unit :=
  (.lt none .len [.v 0] 1 <|
  (.lt none (.make 8 [(.int .i64 0)]) [.v 1] 1 <|
  (.bind 1
   (.loop [.v 2, .c (.int .i64 0)]
    (.lt none .len [.v 0] 1 <|
    (.lt none (.bin .lss) [.v 4, .v 5] 1 <|
    (.ite (.v 6)
     (.lt none .inb [.v 0, .v 4] 0 <|
     (.lt none (.row 1 0 [true]) [.v 0, .v 4] 1 <|
     (.lt none .inb [.v 3, .v 4] 0 <|
     (.lt none (.set 1 0 1) [.v 3, .v 4, .v 7] 1 <|
     (.lt none (.bin .add) [.v 4, .c (.int .i64 1)] 1 <|
     (.leaf .cont [.v 8, .v 9] ()))))))
     (.leaf (.yield 1) [.v 3] ()))))) <|
  (.leaf .ret [.v 3] ()))))
/-- laws.toToldS -/
def tm6 : Tm Unit :=
  (.lt none .len [.v 0] 1 <|
  (.lt none (.make 16 [(.int .i64 0), (.int .i64 0)]) [.v 1] 1 <|
  (.bind 1
   (.loop [.v 2, .c (.int .i64 0)]
    (.lt none .len [.v 0] 1 <|
    (.lt none (.bin .lss) [.v 4, .v 5] 1 <|
    (.ite (.v 6)
     (.lt none .inb [.v 0, .v 4] 0 <|
     (.lt none (.row 2 0 [true, true]) [.v 0, .v 4] 2 <|
     (.call none 7 [.v 7, .v 8] 2 [] <|
     (.lt none .inb [.v 3, .v 4] 0 <|
     (.lt none (.set 2 0 2) [.v 3, .v 4, .v 9, .v 10] 1 <|
     (.lt none (.bin .add) [.v 4, .c (.int .i64 1)] 1 <|
     (.leaf .cont [.v 11, .v 12] ())))))))
     (.leaf (.yield 1) [.v 3] ()))))) <|
  (.leaf .ret [.v 3] ()))))
/-- laws.toTold -/
def tm7 : Tm Unit :=
  (.leaf .ret [.v 0, .v 1] ())
/-- laws.toAsk -/
def tm8 : Tm Unit :=
  (.call none 9 [.v 2, .v 3, .v 4, .v 5, .v 6] 5 [] <|
  (.leaf .ret [.v 0, .v 1, .v 7, .v 8, .v 9, .v 10, .v 11] ()))
/-- laws.toCmd -/
def tm9 : Tm Unit :=
  (.leaf .ret [.v 0, .v 1, .v 2, .v 3, .v 4] ())
/-- spec.ServeAsk -/
def tm10 : Tm Unit :=
  (.call none 11 [.v 0, .v 1, .v 2] 1 [] <|
  (.lt none .not [.v 10] 1 <|
  (.call (some (.v 11, false)) 16 [.v 3, .v 4, .v 5, .v 6, .v 7, .v 8, .v 9] 1 [] <|
  (.lt (some (.v 11, false)) .not [.v 12] 1 <|
  (.lt none .pick [.v 11, .c (.bool true), .v 13] 1 <|
  (.ite (.v 14)
   (.leaf .ret [.c (.rows 1 []), .c (.rows 1 []), .c (.rows 2 []), .c (.int .i64 0), .c (.int .i64 0), .c (.int .i64 0), .c (.bool false)] ())
   (.call none 20 [.v 0, .v 1, .v 2, .v 3, .v 4, .v 5, .v 6, .v 7, .v 8, .v 9] 6 [] <|
   (.leaf .ret [.v 15, .v 16, .v 17, .v 18, .v 19, .v 20, .c (.bool true)] ()))))))))
/-- spec.GoodClerk -/
def tm11 : Tm Unit :=
  (.call none 12 [.v 0] 1 [] <|
  (.lt none .not [.v 3] 1 <|
  (.lt (some (.v 4, false)) .len [.v 1] 1 <|
  (.lt (some (.v 4, false)) (.bin .neq) [.v 5, .c (.int .i64 4)] 1 <|
  (.lt none .pick [.v 4, .c (.bool true), .v 6] 1 <|
  (.lt (some (.v 7, false)) .len [.v 2] 1 <|
  (.lt (some (.v 7, false)) (.bin .neq) [.v 8, .c (.int .i64 4)] 1 <|
  (.lt none .pick [.v 7, .c (.bool true), .v 9] 1 <|
  (.call (some (.v 10, false)) 14 [.v 1, .c (.int .i64 0), .c (.int .i64 999)] 1 [] <|
  (.lt (some (.v 10, false)) .not [.v 11] 1 <|
  (.lt none .pick [.v 10, .c (.bool true), .v 12] 1 <|
  (.ite (.v 13)
   (.leaf .ret [.c (.bool false)] ())
   (.lt none .len [.v 2] 1 <|
   (.bind 1
    (.loop [.c (.int .i64 0)]
     (.lt none (.bin .lss) [.v 15, .v 14] 1 <|
     (.ite (.v 16)
      (.lt none .inb [.v 2, .v 15] 0 <|
      (.lt none (.row 2 0 [true, true]) [.v 2, .v 15] 2 <|
      (.call none 15 [.v 17, .v 18] 1 [] <|
      (.lt none .not [.v 19] 1 <|
      (.lt (some (.v 20, false)) .id [.v 15] 1 <|
      (.lt (some (.v 20, false)) .inb [.v 1, .v 21] 0 <|
      (.lt (some (.v 20, false)) (.row 1 0 [true]) [.v 1, .v 21] 1 <|
      (.lt (some (.v 20, false)) (.bin .eql) [.v 22, .c (.int .i64 0)] 1 <|
      (.lt (some (.v 20, false)) .id [.v 23] 1 <|
      (.lt (some (.v 24, true)) .id [.v 17] 1 <|
      (.lt (some (.v 24, true)) (.bin .neq) [.v 25, .c (.int .i64 0)] 1 <|
      (.lt (some (.v 20, false)) .pick [.v 24, .v 26, .c (.bool false)] 1 <|
      (.lt none .pick [.v 20, .c (.bool true), .v 27] 1 <|
      (.ite (.v 28)
       (.leaf .ret [.c (.bool false)] ())
       (.lt none (.bin .add) [.v 15, .c (.int .i64 1)] 1 <|
       (.leaf .cont [.v 29] ()))))))))))))))))
      (.leaf (.yield 1) [] ())))) <|
   (.leaf .ret [.c (.bool true)] ())))))))))))))))
/-- spec.GoodSums -/
def tm12 : Tm Unit :=
  (.lt none .len [.v 0] 1 <|
  (.bind 1
   (.loop [.c (.int .i64 0), .c (.int .i64 0)]
    (.lt none (.bin .lss) [.v 3, .v 1] 1 <|
    (.ite (.v 4)
     (.lt none .inb [.v 0, .v 3] 0 <|
     (.lt none (.row 1 0 [true]) [.v 0, .v 3] 1 <|
     (.call none 13 [.v 5, .c (.int .i64 0), .c (.int .i64 400)] 1 [] <|
     (.lt none .not [.v 6] 1 <|
     (.ite (.v 7)
      (.leaf .ret [.c (.bool false)] ())
      (.lt none (.bin .add) [.v 2, .v 5] 1 <|
      (.lt none (.bin .add) [.v 3, .c (.int .i64 1)] 1 <|
      (.leaf .cont [.v 8, .v 9] ()))))))))
     (.leaf (.yield 1) [.v 2] ())))) <|
  (.lt none .len [.v 0] 1 <|
  (.lt none (.bin .eql) [.v 3, .c (.int .i64 4)] 1 <|
  (.lt (some (.v 4, true)) .id [.v 2] 1 <|
  (.lt (some (.v 4, true)) (.bin .eql) [.v 5, .c (.int .i64 400)] 1 <|
  (.lt none .pick [.v 4, .v 6, .c (.bool false)] 1 <|
  (.leaf .ret [.v 7] ()))))))))
/-- spec.l1In -/
def tm13 : Tm Unit :=
  (.lt none (.bin .geq) [.v 0, .v 1] 1 <|
  (.lt (some (.v 3, true)) .id [.v 0] 1 <|
  (.lt (some (.v 3, true)) .id [.v 2] 1 <|
  (.lt (some (.v 3, true)) (.bin .leq) [.v 4, .v 5] 1 <|
  (.lt none .pick [.v 3, .v 6, .c (.bool false)] 1 <|
  (.leaf .ret [.v 7] ()))))))
/-- spec.l1All -/
def tm14 : Tm Unit :=
  (.lt none .len [.v 0] 1 <|
  (.bind 1
   (.loop [.c (.int .i64 0)]
    (.lt none (.bin .lss) [.v 4, .v 3] 1 <|
    (.ite (.v 5)
     (.lt none .inb [.v 0, .v 4] 0 <|
     (.lt none (.row 1 0 [true]) [.v 0, .v 4] 1 <|
     (.call none 13 [.v 6, .v 1, .v 2] 1 [] <|
     (.lt none .not [.v 7] 1 <|
     (.ite (.v 8)
      (.leaf .ret [.c (.bool false)] ())
      (.lt none (.bin .add) [.v 4, .c (.int .i64 1)] 1 <|
      (.leaf .cont [.v 9] ())))))))
     (.leaf (.yield 1) [] ())))) <|
  (.leaf .ret [.c (.bool true)] ())))
/-- spec.l15Told -/
def tm15 : Tm Unit :=
  (.call none 13 [.v 0, .c (.int .i64 0), .c (.int .i64 3)] 1 [] <|
  (.lt (some (.v 2, true)) .id [.v 1] 1 <|
  (.call (some (.v 2, true)) 13 [.v 3, .c (.int .i64 0), .c (.int .i64 400)] 1 [] <|
  (.lt none .pick [.v 2, .v 4, .c (.bool false)] 1 <|
  (.lt (some (.v 5, true)) .id [.v 0] 1 <|
  (.lt (some (.v 5, true)) (.bin .eql) [.v 6, .c (.int .i64 3)] 1 <|
  (.lt (some (.v 5, true)) .id [.v 7] 1 <|
  (.lt (some (.v 8, false)) .id [.v 1] 1 <|
  (.lt (some (.v 8, false)) (.bin .eql) [.v 9, .c (.int .i64 0)] 1 <|
  (.lt (some (.v 5, true)) .pick [.v 8, .c (.bool true), .v 10] 1 <|
  (.lt none .pick [.v 5, .v 11, .c (.bool false)] 1 <|
  (.leaf .ret [.v 12] ()))))))))))))
/-- spec.l15Ask -/
def tm16 : Tm Unit :=
  (.call none 13 [.v 0, .c (.int .i64 0), .c (.int .i64 3)] 1 [] <|
  (.lt (some (.v 7, true)) .id [.v 1] 1 <|
  (.call (some (.v 7, true)) 13 [.v 8, .c (.int .i64 1), .c (.int .i64 999)] 1 [] <|
  (.lt none .pick [.v 7, .v 9, .c (.bool false)] 1 <|
  (.call (some (.v 10, true)) 17 [.v 2, .v 3, .v 4, .v 5, .v 6] 1 [] <|
  (.lt none .pick [.v 10, .v 11, .c (.bool false)] 1 <|
  (.leaf .ret [.v 12] ())))))))
/-- spec.GoodCmd -/
def tm17 : Tm Unit :=
  (.lt none (.bin .eql) [.v 0, .c (.int .i64 0)] 1 <|
  (.ite (.v 5)
   (.lt none (.eqs [0, 0, 0, 0, 0]) [.v 0, .v 1, .v 2, .v 3, .v 4, .c (.int .i64 0), .c (.int .i64 0), .c (.int .i64 0), .c (.int .i64 0), .c (.int .i64 0)] 1 <|
   (.leaf .ret [.v 6] ()))
   (.lt none (.bin .eql) [.v 0, .c (.int .i64 1)] 1 <|
   (.ite (.v 6)
    (.call none 18 [.v 0, .v 1, .v 2, .v 3, .v 4] 1 [] <|
    (.lt none (.bin .eql) [.v 7, .c (.int .i64 0)] 1 <|
    (.leaf .ret [.v 8] ())))
    (.lt none (.bin .eql) [.v 0, .c (.int .i64 2)] 1 <|
    (.ite (.v 7)
     (.call none 18 [.v 0, .v 1, .v 2, .v 3, .v 4] 1 [] <|
     (.lt none (.bin .eql) [.v 8, .c (.int .i64 0)] 1 <|
     (.lt (some (.v 9, true)) .id [.v 3] 1 <|
     (.lt (some (.v 9, true)) (.bin .eql) [.v 10, .c (.int .i64 0)] 1 <|
     (.lt none .pick [.v 9, .v 11, .c (.bool false)] 1 <|
     (.lt (some (.v 12, true)) .id [.v 4] 1 <|
     (.lt (some (.v 12, true)) (.bin .eql) [.v 13, .c (.int .i64 0)] 1 <|
     (.lt none .pick [.v 12, .v 14, .c (.bool false)] 1 <|
     (.leaf .ret [.v 15] ())))))))))
     (.leaf .ret [.c (.bool false)] ())))))))
/-- spec.l2Code -/
def tm18 : Tm Unit :=
  (.lt none (.bin .eql) [.v 0, .c (.int .i64 1)] 1 <|
  (.call none 19 [.v 2] 1 [] <|
  (.lt none .not [.v 6] 1 <|
  (.lt (some (.v 7, false)) .id [.v 5] 1 <|
  (.lt (some (.v 7, false)) .id [.v 8] 1 <|
  (.lt (some (.v 9, true)) .id [.v 3] 1 <|
  (.call (some (.v 9, true)) 19 [.v 10] 1 [] <|
  (.lt (some (.v 9, true)) .not [.v 11] 1 <|
  (.lt (some (.v 7, false)) .pick [.v 9, .v 12, .c (.bool false)] 1 <|
  (.lt none .pick [.v 7, .c (.bool true), .v 13] 1 <|
  (.ite (.v 14)
   (.leaf .ret [.c (.int .i64 4)] ())
   (.lt (some (.v 5, true)) .id [.v 2] 1 <|
   (.lt (some (.v 5, true)) .id [.v 3] 1 <|
   (.lt (some (.v 5, true)) (.bin .eql) [.v 15, .v 16] 1 <|
   (.lt none .pick [.v 5, .v 17, .c (.bool false)] 1 <|
   (.ite (.v 18)
    (.leaf .ret [.c (.int .i64 5)] ())
    (.call none 13 [.v 1, .c (.int .i64 1), .c (.int .i64 999)] 1 [] <|
    (.lt none .not [.v 19] 1 <|
    (.lt (some (.v 20, false)) .id [.v 5] 1 <|
    (.lt (some (.v 20, false)) .id [.v 21] 1 <|
    (.lt (some (.v 22, true)) .id [.v 4] 1 <|
    (.call (some (.v 22, true)) 13 [.v 23, .c (.int .i64 1), .c (.int .i64 1000)] 1 [] <|
    (.lt (some (.v 22, true)) .not [.v 24] 1 <|
    (.lt (some (.v 20, false)) .pick [.v 22, .v 25, .c (.bool false)] 1 <|
    (.lt none .pick [.v 20, .c (.bool true), .v 26] 1 <|
    (.ite (.v 27)
     (.leaf .ret [.c (.int .i64 6)] ())
     (.leaf .ret [.c (.int .i64 0)] ())))))))))))))))))))))))))))
/-- spec.l2Account -/
def tm19 : Tm Unit :=
  (.call none 13 [.v 0, .c (.int .i64 0), .c (.int .i64 3)] 1 [] <|
  (.leaf .ret [.v 1] ()))
/-- spec.l15Serve -/
def tm20 : Tm Unit :=
  (.call none 21 [.v 0, .v 1, .v 2] 3 [] <|
  (.lt none .inb [.v 1, .v 3] 0 <|
  (.lt none (.row 1 0 [true]) [.v 1, .v 3] 1 <|
  (.lt none (.bin .eql) [.v 4, .v 13] 1 <|
  (.ite (.v 14)
   (.lt none .inb [.v 2, .v 3] 0 <|
   (.lt none (.row 2 0 [true, true]) [.v 2, .v 3] 2 <|
   (.leaf .ret [.v 10, .v 11, .v 12, .v 15, .v 16, .c (.int .i64 1)] ())))
   (.lt none (.bin .lss) [.v 4, .v 13] 1 <|
   (.ite (.v 15)
    (.leaf .ret [.v 10, .v 11, .v 12, .c (.int .i64 0), .c (.int .i64 0), .c (.int .i64 2)] ())
    (.lt none (.bin .add) [.v 13, .c (.int .i64 1)] 1 <|
    (.lt none (.bin .gtr) [.v 4, .v 16] 1 <|
    (.ite (.v 17)
     (.leaf .ret [.v 10, .v 11, .v 12, .c (.int .i64 0), .c (.int .i64 0), .c (.int .i64 3)] ())
     (.call none 23 [.v 10, .v 5, .v 6, .v 7, .v 8, .v 9] 3 [] <|
     (.lt none (.dep 99) [.v 18] 0 <|
     (.lt none .inb [.v 11, .v 3] 0 <|
     (.lt none (.set 1 0 1) [.v 11, .v 3, .v 4] 1 <|
     (.lt none .inb [.v 12, .v 3] 0 <|
     (.lt none (.set 2 0 2) [.v 12, .v 3, .v 19, .v 20] 1 <|
     (.leaf .ret [.v 18, .v 21, .v 22, .v 19, .v 20, .c (.int .i64 0)] ())))))))))))))))))
/-- spec.l15Own -/
def tm21 : Tm Unit :=
  (.call none 22 [.v 0] 1 [] <|
  (.call none 22 [.v 1] 1 [] <|
  (.lt none (.mk 2 0) [] 1 <|
  (.lt none (.app 2 16 true) [.v 5, .v 2] 1 <|
  (.leaf .ret [.v 3, .v 4, .v 6] ())))))
/-- spec.l1Own -/
def tm22 : Tm Unit :=
  (.lt none (.mk 1 0) [] 1 <|
  (.lt none (.app 1 8 true) [.v 1, .v 0] 1 <|
  (.leaf .ret [.v 2] ())))
/-- spec.l11Apply -/
def tm23 : Tm Unit :=
  (.call none 22 [.v 0] 1 [] <|
  (.lt none (.bin .eql) [.v 1, .c (.int .i64 2)] 1 <|
  (.ite (.v 7)
   (.lt none .inb [.v 0, .v 3] 0 <|
   (.lt none (.row 1 0 [true]) [.v 0, .v 3] 1 <|
   (.leaf .ret [.v 6, .c (.int .i64 3), .v 8] ())))
   (.lt none (.bin .eql) [.v 1, .c (.int .i64 1)] 1 <|
   (.ite (.v 8)
    (.lt none .inb [.v 0, .v 3] 0 <|
    (.lt none (.row 1 0 [true]) [.v 0, .v 3] 1 <|
    (.lt none (.bin .lss) [.v 9, .v 5] 1 <|
    (.ite (.v 10)
     (.leaf .ret [.v 6, .c (.int .i64 2), .c (.int .i64 0)] ())
     (.lt none .inb [.v 6, .v 3] 0 <|
     (.lt none (.row 1 0 [true]) [.v 6, .v 3] 1 <|
     (.lt none (.bin .sub) [.v 11, .v 5] 1 <|
     (.lt none .inb [.v 6, .v 3] 0 <|
     (.lt none (.set 1 0 1) [.v 6, .v 3, .v 12] 1 <|
     (.lt none .inb [.v 13, .v 4] 0 <|
     (.lt none (.row 1 0 [true]) [.v 13, .v 4] 1 <|
     (.lt none (.bin .add) [.v 14, .v 5] 1 <|
     (.lt none .inb [.v 13, .v 4] 0 <|
     (.lt none (.set 1 0 1) [.v 13, .v 4, .v 15] 1 <|
     (.leaf .ret [.v 16, .c (.int .i64 1), .c (.int .i64 0)] ())))))))))))))))
    (.leaf .ret [.v 6, .c (.int .i64 0), .c (.int .i64 0)] ()))))))
/-- impl.ServeAsk -/
def tm24 : Tm Unit :=
  (.call none 25 [.v 0, .v 1, .v 2] 1 [] <|
  (.lt none .not [.v 10] 1 <|
  (.call (some (.v 11, false)) 33 [.v 3, .v 4, .v 5, .v 6, .v 7, .v 8, .v 9] 1 [] <|
  (.lt (some (.v 11, false)) .not [.v 12] 1 <|
  (.lt none .pick [.v 11, .c (.bool true), .v 13] 1 <|
  (.ite (.v 14)
   (.leaf .ret [.c (.rows 1 []), .c (.rows 1 []), .c (.rows 2 []), .c (.int .i64 0), .c (.int .i64 0), .c (.int .i64 0), .c (.bool false)] ())
   (.call none 36 [.v 0, .v 1, .v 2] 3 [] <|
   (.call none 39 [.v 3, .v 4, .v 5, .v 6, .v 7, .v 8, .v 9, .v 15, .v 16, .v 17] 6 [] <|
   (.leaf .ret [.v 21, .v 22, .v 23, .v 18, .v 19, .v 20, .c (.bool true)] ())))))))))
/-- impl.GoodClerk -/
def tm25 : Tm Unit :=
  (.call none 26 [.v 0] 1 [] <|
  (.lt none .not [.v 3] 1 <|
  (.lt (some (.v 4, false)) .len [.v 1] 1 <|
  (.lt (some (.v 4, false)) (.bin .neq) [.v 5, .c (.int .i64 4)] 1 <|
  (.lt none .pick [.v 4, .c (.bool true), .v 6] 1 <|
  (.lt (some (.v 7, false)) .len [.v 2] 1 <|
  (.lt (some (.v 7, false)) (.bin .neq) [.v 8, .c (.int .i64 4)] 1 <|
  (.lt none .pick [.v 7, .c (.bool true), .v 9] 1 <|
  (.ite (.v 10)
   (.leaf .ret [.c (.bool false)] ())
   (.lt none .len [.v 1] 1 <|
   (.bind 1
    (.loop [.c (.int .i64 0)]
     (.lt none (.bin .lss) [.v 12, .v 11] 1 <|
     (.ite (.v 13)
      (.lt none .inb [.v 1, .v 12] 0 <|
      (.lt none (.row 1 0 [true]) [.v 1, .v 12] 1 <|
      (.call none 30 [.v 14, .c (.int .i64 0), .c (.int .i64 999)] 1 [] <|
      (.lt none .not [.v 15] 1 <|
      (.lt (some (.v 16, false)) .id [.v 12] 1 <|
      (.lt (some (.v 16, false)) .inb [.v 2, .v 17] 0 <|
      (.lt (some (.v 16, false)) (.row 2 0 [true, true]) [.v 2, .v 17] 2 <|
      (.call (some (.v 16, false)) 32 [.v 18, .v 19] 1 [] <|
      (.lt (some (.v 16, false)) .not [.v 20] 1 <|
      (.lt none .pick [.v 16, .c (.bool true), .v 21] 1 <|
      (.lt (some (.v 22, false)) .id [.v 14] 1 <|
      (.lt (some (.v 22, false)) (.bin .eql) [.v 23, .c (.int .i64 0)] 1 <|
      (.lt (some (.v 22, false)) .id [.v 24] 1 <|
      (.lt (some (.v 25, true)) .id [.v 12] 1 <|
      (.lt (some (.v 25, true)) .inb [.v 2, .v 26] 0 <|
      (.lt (some (.v 25, true)) (.row 2 0 [true]) [.v 2, .v 26] 1 <|
      (.lt (some (.v 25, true)) (.bin .neq) [.v 27, .c (.int .i64 0)] 1 <|
      (.lt (some (.v 22, false)) .pick [.v 25, .v 28, .c (.bool false)] 1 <|
      (.lt none .pick [.v 22, .c (.bool true), .v 29] 1 <|
      (.ite (.v 30)
       (.leaf .ret [.c (.bool false)] ())
       (.lt none (.bin .add) [.v 12, .c (.int .i64 1)] 1 <|
       (.leaf .cont [.v 31] ()))))))))))))))))))))))
      (.leaf (.yield 1) [] ())))) <|
   (.leaf .ret [.c (.bool true)] ()))))))))))))
/-- impl.GoodSums -/
def tm26 : Tm Unit :=
  (.lt none .len [.v 0] 1 <|
  (.lt none (.bin .eql) [.v 1, .c (.int .i64 4)] 1 <|
  (.call (some (.v 2, true)) 27 [.v 0] 1 [] <|
  (.lt (some (.v 2, true)) .not [.v 3] 1 <|
  (.lt none .pick [.v 2, .v 4, .c (.bool false)] 1 <|
  (.call (some (.v 5, true)) 31 [.v 0] 1 [] <|
  (.lt (some (.v 5, true)) (.bin .eql) [.v 6, .c (.int .i64 400)] 1 <|
  (.lt none .pick [.v 5, .v 7, .c (.bool false)] 1 <|
  (.leaf .ret [.v 8] ())))))))))
/-- slices.ContainsFunc[[]int,int]@impl.GoodSums$1 -/
def tm27 : Tm Unit :=
  (.call none 28 [.v 0] 1 [] <|
  (.lt none (.bin .geq) [.v 1, .c (.int .i64 0)] 1 <|
  (.leaf .ret [.v 2] ())))
/-- slices.IndexFunc[[]int,int]@impl.GoodSums$1 -/
def tm28 : Tm Unit :=
  (.lt none .len [.v 0] 1 <|
  (.bind 1
   (.loop [.c (.int .i64 0)]
    (.lt none (.bin .lss) [.v 2, .v 1] 1 <|
    (.ite (.v 3)
     (.lt none .inb [.v 0, .v 2] 0 <|
     (.lt none (.row 1 0 [true]) [.v 0, .v 2] 1 <|
     (.call none 29 [.v 4] 1 [] <|
     (.ite (.v 5)
      (.leaf .ret [.v 2] ())
      (.lt none (.bin .add) [.v 2, .c (.int .i64 1)] 1 <|
      (.leaf .cont [.v 6] ()))))))
     (.leaf (.yield 1) [] ())))) <|
  (.leaf .ret [.c (.int .i64 (-1))] ())))
/-- impl.GoodSums$1 -/
def tm29 : Tm Unit :=
  (.call none 30 [.v 0, .c (.int .i64 0), .c (.int .i64 400)] 1 [] <|
  (.lt none .not [.v 1] 1 <|
  (.leaf .ret [.v 2] ())))
/-- impl.within -/
def tm30 : Tm Unit :=
  (.lt none (.bin .leq) [.v 1, .v 0] 1 <|
  (.lt (some (.v 3, true)) .id [.v 0] 1 <|
  (.lt (some (.v 3, true)) .id [.v 2] 1 <|
  (.lt (some (.v 3, true)) (.bin .leq) [.v 4, .v 5] 1 <|
  (.lt none .pick [.v 3, .v 6, .c (.bool false)] 1 <|
  (.leaf .ret [.v 7] ()))))))
/-- impl.total -/
def tm31 : Tm Unit :=
  (.lt none .len [.v 0] 1 <|
  (.bind 1
   (.loop [.c (.int .i64 0), .c (.int .i64 0)]
    (.lt none (.bin .lss) [.v 3, .v 1] 1 <|
    (.ite (.v 4)
     (.lt none .inb [.v 0, .v 3] 0 <|
     (.lt none (.row 1 0 [true]) [.v 0, .v 3] 1 <|
     (.lt none (.bin .add) [.v 2, .v 5] 1 <|
     (.lt none (.bin .add) [.v 3, .c (.int .i64 1)] 1 <|
     (.leaf .cont [.v 6, .v 7] ())))))
     (.leaf (.yield 1) [.v 2] ())))) <|
  (.leaf .ret [.v 2] ())))
/-- impl.goodTold -/
def tm32 : Tm Unit :=
  (.call none 30 [.v 0, .c (.int .i64 0), .c (.int .i64 3)] 1 [] <|
  (.lt (some (.v 2, true)) .id [.v 1] 1 <|
  (.call (some (.v 2, true)) 30 [.v 3, .c (.int .i64 0), .c (.int .i64 400)] 1 [] <|
  (.lt none .pick [.v 2, .v 4, .c (.bool false)] 1 <|
  (.lt (some (.v 5, true)) .id [.v 0] 1 <|
  (.lt (some (.v 5, true)) (.bin .eql) [.v 6, .c (.int .i64 3)] 1 <|
  (.lt (some (.v 5, true)) .id [.v 7] 1 <|
  (.lt (some (.v 8, false)) .id [.v 1] 1 <|
  (.lt (some (.v 8, false)) (.bin .eql) [.v 9, .c (.int .i64 0)] 1 <|
  (.lt (some (.v 5, true)) .pick [.v 8, .c (.bool true), .v 10] 1 <|
  (.lt none .pick [.v 5, .v 11, .c (.bool false)] 1 <|
  (.leaf .ret [.v 12] ()))))))))))))
/-- impl.goodAsk -/
def tm33 : Tm Unit :=
  (.call none 30 [.v 0, .c (.int .i64 0), .c (.int .i64 3)] 1 [] <|
  (.lt (some (.v 7, true)) .id [.v 1] 1 <|
  (.call (some (.v 7, true)) 30 [.v 8, .c (.int .i64 1), .c (.int .i64 999)] 1 [] <|
  (.lt none .pick [.v 7, .v 9, .c (.bool false)] 1 <|
  (.call (some (.v 10, true)) 34 [.v 2, .v 3, .v 4, .v 5, .v 6] 1 [] <|
  (.lt none .pick [.v 10, .v 11, .c (.bool false)] 1 <|
  (.leaf .ret [.v 12] ())))))))
/-- impl.GoodCmd -/
def tm34 : Tm Unit :=
  (.lt none (.bin .eql) [.v 0, .c (.int .i64 0)] 1 <|
  (.ite (.v 5)
   (.lt none (.eqs [0, 0, 0, 0, 0]) [.v 0, .v 1, .v 2, .v 3, .v 4, .c (.int .i64 0), .c (.int .i64 0), .c (.int .i64 0), .c (.int .i64 0), .c (.int .i64 0)] 1 <|
   (.leaf .ret [.v 6] ()))
   (.lt none (.bin .eql) [.v 0, .c (.int .i64 1)] 1 <|
   (.ite (.v 6)
    (.call none 30 [.v 1, .c (.int .i64 1), .c (.int .i64 999)] 1 [] <|
    (.lt (some (.v 7, true)) .id [.v 2] 1 <|
    (.call (some (.v 7, true)) 35 [.v 8] 1 [] <|
    (.lt none .pick [.v 7, .v 9, .c (.bool false)] 1 <|
    (.lt (some (.v 10, true)) .id [.v 3] 1 <|
    (.call (some (.v 10, true)) 35 [.v 11] 1 [] <|
    (.lt none .pick [.v 10, .v 12, .c (.bool false)] 1 <|
    (.lt (some (.v 13, true)) .id [.v 2] 1 <|
    (.lt (some (.v 13, true)) .id [.v 3] 1 <|
    (.lt (some (.v 13, true)) (.bin .neq) [.v 14, .v 15] 1 <|
    (.lt none .pick [.v 13, .v 16, .c (.bool false)] 1 <|
    (.lt (some (.v 17, true)) .id [.v 4] 1 <|
    (.call (some (.v 17, true)) 30 [.v 18, .c (.int .i64 1), .c (.int .i64 1000)] 1 [] <|
    (.lt none .pick [.v 17, .v 19, .c (.bool false)] 1 <|
    (.leaf .ret [.v 20] ())))))))))))))))
    (.lt none (.bin .eql) [.v 0, .c (.int .i64 2)] 1 <|
    (.lt (some (.v 7, true)) .id [.v 1] 1 <|
    (.call (some (.v 7, true)) 30 [.v 8, .c (.int .i64 1), .c (.int .i64 999)] 1 [] <|
    (.lt none .pick [.v 7, .v 9, .c (.bool false)] 1 <|
    (.lt (some (.v 10, true)) .id [.v 2] 1 <|
    (.call (some (.v 10, true)) 35 [.v 11] 1 [] <|
    (.lt none .pick [.v 10, .v 12, .c (.bool false)] 1 <|
    (.lt (some (.v 13, true)) .id [.v 3] 1 <|
    (.lt (some (.v 13, true)) (.bin .eql) [.v 14, .c (.int .i64 0)] 1 <|
    (.lt none .pick [.v 13, .v 15, .c (.bool false)] 1 <|
    (.lt (some (.v 16, true)) .id [.v 4] 1 <|
    (.lt (some (.v 16, true)) (.bin .eql) [.v 17, .c (.int .i64 0)] 1 <|
    (.lt none .pick [.v 16, .v 18, .c (.bool false)] 1 <|
    (.leaf .ret [.v 19] ()))))))))))))))))))
/-- impl.isAccount -/
def tm35 : Tm Unit :=
  (.call none 30 [.v 0, .c (.int .i64 0), .c (.int .i64 3)] 1 [] <|
  (.leaf .ret [.v 1] ()))
/-- (impl.Clerk).copied -/
def tm36 : Tm Unit :=
  (.call none 37 [.v 0] 1 [] <|
  (.call none 37 [.v 1] 1 [] <|
  (.call none 38 [.v 2] 1 [] <|
  (.leaf .ret [.v 3, .v 4, .v 5] ()))))
/-- slices.Clone[[]int,int] -/
def tm37 : Tm Unit :=
  (.lt none .ne [.v 0] 0 <|
  (.lt none .emp [.v 0] 1 <|
  (.ite (.v 1)
   (.leaf .ret [.c (.rows 1 [])] ())
   (.lt none (.mk 1 0) [] 1 <|
   (.lt none (.app 1 8 true) [.v 2, .v 0] 1 <|
   (.leaf .ret [.v 3] ()))))))
/-- slices.Clone[[]impl.Told,impl.Told] -/
def tm38 : Tm Unit :=
  (.lt none .ne [.v 0] 0 <|
  (.lt none .emp [.v 0] 1 <|
  (.ite (.v 1)
   (.leaf .ret [.c (.rows 2 [])] ())
   (.lt none (.mk 2 0) [] 1 <|
   (.lt none (.app 2 16 true) [.v 2, .v 0] 1 <|
   (.leaf .ret [.v 3] ()))))))
/-- (*impl.Clerk).serve -/
def tm39 : Tm Unit :=
  (.lt none .inb [.v 8, .v 0] 0 <|
  (.lt none (.row 1 0 [true]) [.v 8, .v 0] 1 <|
  (.lt none (.bin .eql) [.v 1, .v 10] 1 <|
  (.ite (.v 11)
   (.lt none .inb [.v 9, .v 0] 0 <|
   (.lt none (.row 2 0 [true, true]) [.v 9, .v 0] 2 <|
   (.leaf .ret [.v 12, .v 13, .c (.int .i64 1), .v 7, .v 8, .v 9] ())))
   (.lt none (.bin .lss) [.v 1, .v 10] 1 <|
   (.ite (.v 12)
    (.leaf .ret [.c (.int .i64 0), .c (.int .i64 0), .c (.int .i64 2), .v 7, .v 8, .v 9] ())
    (.lt none (.bin .add) [.v 10, .c (.int .i64 1)] 1 <|
    (.lt none (.bin .gtr) [.v 1, .v 13] 1 <|
    (.ite (.v 14)
     (.leaf .ret [.c (.int .i64 0), .c (.int .i64 0), .c (.int .i64 3), .v 7, .v 8, .v 9] ())
     (.call none 40 [.v 7, .v 2, .v 3, .v 4, .v 5, .v 6] 3 [] <|
     (.lt none .inb [.v 8, .v 0] 0 <|
     (.lt none (.set 1 0 1) [.v 8, .v 0, .v 1] 1 <|
     (.lt none .inb [.v 9, .v 0] 0 <|
     (.lt none (.set 2 0 2) [.v 9, .v 0, .v 15, .v 16] 1 <|
     (.leaf .ret [.v 15, .v 16, .c (.int .i64 0), .v 17, .v 18, .v 19] ())))))))))))))))
/-- impl.apply -/
def tm40 : Tm Unit :=
  (.lt none (.bin .eql) [.v 1, .c (.int .i64 2)] 1 <|
  (.ite (.v 6)
   (.lt none .inb [.v 0, .v 3] 0 <|
   (.lt none (.row 1 0 [true]) [.v 0, .v 3] 1 <|
   (.leaf .ret [.c (.int .i64 3), .v 7, .v 0] ())))
   (.lt none (.bin .eql) [.v 1, .c (.int .i64 0)] 1 <|
   (.ite (.v 7)
    (.leaf .ret [.c (.int .i64 0), .c (.int .i64 0), .v 0] ())
    (.lt none .inb [.v 0, .v 3] 0 <|
    (.lt none (.row 1 0 [true]) [.v 0, .v 3] 1 <|
    (.lt none (.bin .lss) [.v 8, .v 5] 1 <|
    (.ite (.v 9)
     (.leaf .ret [.c (.int .i64 2), .c (.int .i64 0), .v 0] ())
     (.lt none .inb [.v 0, .v 3] 0 <|
     (.lt none (.row 1 0 [true]) [.v 0, .v 3] 1 <|
     (.lt none (.bin .sub) [.v 10, .v 5] 1 <|
     (.lt none .inb [.v 0, .v 3] 0 <|
     (.lt none (.set 1 0 1) [.v 0, .v 3, .v 11] 1 <|
     (.lt none .inb [.v 12, .v 4] 0 <|
     (.lt none (.row 1 0 [true]) [.v 12, .v 4] 1 <|
     (.lt none (.bin .add) [.v 13, .v 5] 1 <|
     (.lt none .inb [.v 12, .v 4] 0 <|
     (.lt none (.set 1 0 1) [.v 12, .v 4, .v 14] 1 <|
     (.leaf .ret [.c (.int .i64 1), .c (.int .i64 0), .v 15] ())))))))))))))))))))
/-- laws.eqClerk -/
def tm41 : Tm Unit :=
  (.call none 42 [.v 0, .v 3] 1 [] <|
  (.lt none .not [.v 6] 1 <|
  (.ite (.v 7)
   (.leaf .ret [.c (.bool false)] ())
   (.call none 42 [.v 1, .v 4] 1 [] <|
   (.lt none .not [.v 8] 1 <|
   (.ite (.v 9)
    (.leaf .ret [.c (.bool false)] ())
    (.call none 43 [.v 2, .v 5] 1 [] <|
    (.lt none .not [.v 10] 1 <|
    (.ite (.v 11)
     (.leaf .ret [.c (.bool false)] ())
     (.leaf .ret [.c (.bool true)] ()))))))))))
/-- laws.eqIntS -/
def tm42 : Tm Unit :=
  (.lt none .len [.v 0] 1 <|
  (.lt none .len [.v 1] 1 <|
  (.lt none (.bin .neq) [.v 2, .v 3] 1 <|
  (.ite (.v 4)
   (.leaf .ret [.c (.bool false)] ())
   (.bind 1
    (.loop [.c (.int .i64 0)]
     (.lt none .len [.v 0] 1 <|
     (.lt none (.bin .lss) [.v 5, .v 6] 1 <|
     (.ite (.v 7)
      (.lt none .inb [.v 0, .v 5] 0 <|
      (.lt none (.row 1 0 [true]) [.v 0, .v 5] 1 <|
      (.lt none .inb [.v 1, .v 5] 0 <|
      (.lt none (.row 1 0 [true]) [.v 1, .v 5] 1 <|
      (.lt none (.bin .neq) [.v 8, .v 9] 1 <|
      (.ite (.v 10)
       (.leaf .ret [.c (.bool false)] ())
       (.lt none (.bin .add) [.v 5, .c (.int .i64 1)] 1 <|
       (.leaf .cont [.v 11] ()))))))))
      (.leaf (.yield 1) [] ()))))) <|
   (.leaf .ret [.c (.bool true)] ()))))))
/-- laws.eqToldS -/
def tm43 : Tm Unit :=
  (.lt none .len [.v 0] 1 <|
  (.lt none .len [.v 1] 1 <|
  (.lt none (.bin .neq) [.v 2, .v 3] 1 <|
  (.ite (.v 4)
   (.leaf .ret [.c (.bool false)] ())
   (.bind 1
    (.loop [.c (.int .i64 0)]
     (.lt none .len [.v 0] 1 <|
     (.lt none (.bin .lss) [.v 5, .v 6] 1 <|
     (.ite (.v 7)
      (.lt none .inb [.v 0, .v 5] 0 <|
      (.lt none (.row 2 0 [true, true]) [.v 0, .v 5] 2 <|
      (.lt none .inb [.v 1, .v 5] 0 <|
      (.lt none (.row 2 0 [true, true]) [.v 1, .v 5] 2 <|
      (.call none 44 [.v 8, .v 9, .v 10, .v 11] 1 [] <|
      (.lt none .not [.v 12] 1 <|
      (.ite (.v 13)
       (.leaf .ret [.c (.bool false)] ())
       (.lt none (.bin .add) [.v 5, .c (.int .i64 1)] 1 <|
       (.leaf .cont [.v 14] ())))))))))
      (.leaf (.yield 1) [] ()))))) <|
   (.leaf .ret [.c (.bool true)] ()))))))
/-- laws.eqTold -/
def tm44 : Tm Unit :=
  (.lt none (.bin .neq) [.v 0, .v 2] 1 <|
  (.ite (.v 4)
   (.leaf .ret [.c (.bool false)] ())
   (.lt none (.bin .neq) [.v 1, .v 3] 1 <|
   (.ite (.v 5)
    (.leaf .ret [.c (.bool false)] ())
    (.leaf .ret [.c (.bool true)] ())))))
/-- laws.markClerk -/
def tm45 : Tm Unit :=
  (.call none 46 [.v 0, .v 3] 2 [] <|
  (.call none 46 [.v 1, .v 4] 2 [] <|
  (.call none 47 [.v 2, .v 6] 2 [] <|
  (.leaf .ret [.v 8, .v 5, .v 7, .v 9] ()))))
/-- laws.markIntS -/
def tm46 : Tm Unit :=
  (.bind 1
   (.loop [.v 0, .c .undef, .v 1, .c (.int .i64 0)]
    (.lt none .len [.v 2] 1 <|
    (.lt none (.bin .lss) [.v 5, .v 6] 1 <|
    (.ite (.v 7)
     (.lt none .inb [.v 2, .v 5] 0 <|
     (.lt none (.set 1 0 1) [.v 2, .v 5, .v 4] 1 <|
     (.lt none (.bin .add) [.v 4, .c (.int .i64 1)] 1 <|
     (.lt none (.bin .add) [.v 5, .c (.int .i64 1)] 1 <|
     (.leaf .cont [.v 8, .c .undef, .v 9, .v 10] ())))))
     (.leaf (.yield 1) [.v 2, .v 4] ()))))) <|
  (.leaf .ret [.v 3, .v 2] ()))
/-- laws.markToldS -/
def tm47 : Tm Unit :=
  (.bind 1
   (.loop [.v 0, .c .undef, .v 1, .c (.int .i64 0)]
    (.lt none .len [.v 2] 1 <|
    (.lt none (.bin .lss) [.v 5, .v 6] 1 <|
    (.ite (.v 7)
     (.lt none .inb [.v 2, .v 5] 0 <|
     (.lt none (.set 2 0 1) [.v 2, .v 5, .v 4] 1 <|
     (.lt none (.bin .add) [.v 4, .c (.int .i64 1)] 1 <|
     (.lt none .inb [.v 8, .v 5] 0 <|
     (.lt none (.set 2 1 1) [.v 8, .v 5, .v 9] 1 <|
     (.lt none (.bin .add) [.v 9, .c (.int .i64 1)] 1 <|
     (.lt none (.bin .add) [.v 5, .c (.int .i64 1)] 1 <|
     (.leaf .cont [.v 10, .c .undef, .v 11, .v 12] ()))))))))
     (.leaf (.yield 1) [.v 2, .v 4] ()))))) <|
  (.leaf .ret [.v 3, .v 2] ()))
/-- laws.heldClerk -/
def tm48 : Tm Unit :=
  (.call none 49 [.v 0, .v 3] 1 [] <|
  (.lt none (.bin .lss) [.v 4, .c (.int .i64 0)] 1 <|
  (.ite (.v 5)
   (.leaf .ret [.c (.int .i64 (-1))] ())
   (.call none 49 [.v 1, .v 4] 1 [] <|
   (.lt none (.bin .lss) [.v 6, .c (.int .i64 0)] 1 <|
   (.ite (.v 7)
    (.leaf .ret [.c (.int .i64 (-1))] ())
    (.call none 50 [.v 2, .v 6] 1 [] <|
    (.lt none (.bin .lss) [.v 8, .c (.int .i64 0)] 1 <|
    (.ite (.v 9)
     (.leaf .ret [.c (.int .i64 (-1))] ())
     (.leaf .ret [.v 8] ()))))))))))
/-- laws.heldIntS -/
def tm49 : Tm Unit :=
  (.bind 1
   (.loop [.v 1, .c (.int .i64 0)]
    (.lt none .len [.v 0] 1 <|
    (.lt none (.bin .lss) [.v 3, .v 4] 1 <|
    (.ite (.v 5)
     (.lt none .inb [.v 0, .v 3] 0 <|
     (.lt none (.row 1 0 [true]) [.v 0, .v 3] 1 <|
     (.lt none (.bin .neq) [.v 6, .v 2] 1 <|
     (.ite (.v 7)
      (.leaf .ret [.c (.int .i64 (-1))] ())
      (.lt none (.bin .add) [.v 2, .c (.int .i64 1)] 1 <|
      (.lt none (.bin .add) [.v 3, .c (.int .i64 1)] 1 <|
      (.leaf .cont [.v 8, .v 9] ())))))))
     (.leaf (.yield 1) [.v 2] ()))))) <|
  (.leaf .ret [.v 2] ()))
/-- laws.heldToldS -/
def tm50 : Tm Unit :=
  (.bind 1
   (.loop [.v 1, .c (.int .i64 0)]
    (.lt none .len [.v 0] 1 <|
    (.lt none (.bin .lss) [.v 3, .v 4] 1 <|
    (.ite (.v 5)
     (.lt none .inb [.v 0, .v 3] 0 <|
     (.lt none (.row 2 0 [true]) [.v 0, .v 3] 1 <|
     (.lt none (.bin .neq) [.v 6, .v 2] 1 <|
     (.ite (.v 7)
      (.leaf .ret [.c (.int .i64 (-1))] ())
      (.lt none (.bin .add) [.v 2, .c (.int .i64 1)] 1 <|
      (.lt none .inb [.v 0, .v 3] 0 <|
      (.lt none (.row 2 1 [true]) [.v 0, .v 3] 1 <|
      (.lt none (.bin .neq) [.v 9, .v 8] 1 <|
      (.ite (.v 10)
       (.leaf .ret [.c (.int .i64 (-1))] ())
       (.lt none (.bin .add) [.v 8, .c (.int .i64 1)] 1 <|
       (.lt none (.bin .add) [.v 3, .c (.int .i64 1)] 1 <|
       (.leaf .cont [.v 11, .v 12] ()))))))))))))
     (.leaf (.yield 1) [.v 2] ()))))) <|
  (.leaf .ret [.v 2] ()))
theorem cl37 : ∀ n, Contract Try.prog (entTab [(37, .tm tm37)]) n 37 sg37 := fun n => contracts tiL_ok (by kernel_rfl) (fnOk_all (List.forall_mem_cons.2 ⟨fnOk_tm (E := ⟨tiTab tiL, [(37, sg37)], 0, 0, false, false, []⟩) Try.func193 (by kernel_rfl) (tm := tm37) (by kernel_rfl) (by kernel_rfl), List.forall_mem_nil _⟩)) n 37 sg37 (by simp)
def ren37 : Go.Shelf.Ren := ⟨fun | 41 => 193 | n => n, fun | 4 => 4 | 22 => 22 | 23 => 3 | n => n, fun n => n⟩
theorem lays37 : Go.Proofs.SlLaysE0.n41 Try.prog ren37 := { mixed := by kernel_rfl, f41 := ⟨Try.f193.name, by kernel_rfl, Try.func193.trans (congrArg some (by kernel_rfl))⟩, t4 := Try.underlying4, a4 := Try.isAgg4, z4 := Try.sizeOf4, v4 := Try.zeroValue4, t22 := Try.underlying22, a22 := Try.isAgg22, z22 := Try.sizeOf22, v22 := Try.zeroValue22 }
noncomputable def ex37 : List D → Option (List D) := cloneE 1 (entTab [(37, .tm tm37)]) 37
theorem cl38 : ∀ n, Contract Try.prog (entTab [(38, .tm tm38)]) n 38 sg38 := fun n => contracts tiL_ok (by kernel_rfl) (fnOk_all (List.forall_mem_cons.2 ⟨fnOk_tm (E := ⟨tiTab tiL, [(38, sg38)], 0, 0, false, false, []⟩) Try.func194 (by kernel_rfl) (tm := tm38) (by kernel_rfl) (by kernel_rfl), List.forall_mem_nil _⟩)) n 38 sg38 (by simp)
def ren38 : Go.Shelf.Ren := ⟨fun | 41 => 194 | n => n, fun | 4 => 4 | 22 => 23 | 23 => 73 | n => n, fun n => n⟩
theorem lays38 : Go.Proofs.SlLaysE0.n41 Try.prog ren38 := { mixed := by kernel_rfl, f41 := ⟨Try.f194.name, by kernel_rfl, Try.func194.trans (congrArg some (by kernel_rfl))⟩, t4 := Try.underlying4, a4 := Try.isAgg4, z4 := Try.sizeOf4, v4 := Try.zeroValue4, t22 := Try.underlying23, a22 := Try.isAgg23, z22 := Try.sizeOf23, v22 := Try.zeroValue23 }
noncomputable def ex38 : List D → Option (List D) := cloneE 2 (entTab [(38, .tm tm38)]) 38

noncomputable def T : Nat → Ent := entTab [(0, .tm tm0), (1, .tm tm1), (2, .tm tm2), (3, .tm tm3), (4, .tm tm4), (5, .tm tm5), (6, .tm tm6), (7, .tm tm7), (8, .tm tm8), (9, .tm tm9), (10, .tm tm10), (11, .tm tm11), (12, .tm tm12), (13, .tm tm13), (14, .tm tm14), (15, .tm tm15), (16, .tm tm16), (17, .tm tm17), (18, .tm tm18), (19, .tm tm19), (20, .tm tm20), (21, .tm tm21), (22, .tm tm22), (23, .tm tm23), (24, .tm tm24), (25, .tm tm25), (26, .tm tm26), (27, .tm tm27), (28, .tm tm28), (29, .tm tm29), (30, .tm tm30), (31, .tm tm31), (32, .tm tm32), (33, .tm tm33), (34, .tm tm34), (35, .tm tm35), (36, .tm tm36), (37, .ext ex37), (38, .ext ex38), (39, .tm tm39), (40, .tm tm40), (41, .tm tm41), (42, .tm tm42), (43, .tm tm43), (44, .tm tm44), (45, .tm tm45), (46, .tm tm46), (47, .tm tm47), (48, .tm tm48), (49, .tm tm49), (50, .tm tm50)]
theorem ok37 : FnOk Try.prog T (tiTab tiL) sigs 37 sg37 := clone_ent (m := 98) lays37 rfl (by kernel_rfl) Try.sizeOf3 cl37 rfl
theorem ok38 : FnOk Try.prog T (tiTab tiL) sigs 38 sg38 := clone_ent (m := 98) lays38 rfl (by kernel_rfl) Try.sizeOf73 cl38 rfl
theorem ok0 : FnOk Try.prog T (tiTab tiL) sigs 0 sg0 := fnOk_tm (E := ⟨tiTab tiL, sigs, 0, 0, false, false, []⟩) Try.func7 (by kernel_rfl) (tm := tm0) (by kernel_rfl) (by kernel_rfl)
theorem ok1 : FnOk Try.prog T (tiTab tiL) sigs 1 sg1 := fnOk_tm (E := ⟨tiTab tiL, sigs, 0, 0, false, false, []⟩) Try.func38 (by kernel_rfl) (tm := tm1) (by kernel_rfl) (by kernel_rfl)
theorem ok2 : FnOk Try.prog T (tiTab tiL) sigs 2 sg2 := fnOk_tm (E := ⟨tiTab tiL, sigs, 0, 0, false, false, []⟩) Try.func130 (by kernel_rfl) (tm := tm2) (by kernel_rfl) (by kernel_rfl)
theorem ok3 : FnOk Try.prog T (tiTab tiL) sigs 3 sg3 := fnOk_tm (E := ⟨tiTab tiL, sigs, 0, 0, false, false, []⟩) Try.func131 (by kernel_rfl) (tm := tm3) (by kernel_rfl) (by kernel_rfl)
theorem ok4 : FnOk Try.prog T (tiTab tiL) sigs 4 sg4 := fnOk_tm (E := ⟨tiTab tiL, sigs, 0, 0, false, false, []⟩) Try.func40 (by kernel_rfl) (tm := tm4) (by kernel_rfl) (by kernel_rfl)
theorem ok5 : FnOk Try.prog T (tiTab tiL) sigs 5 sg5 := fnOk_tm (E := ⟨tiTab tiL, sigs, 0, 0, false, false, []⟩) Try.func135 (by kernel_rfl) (tm := tm5) (by kernel_rfl) (by kernel_rfl)
theorem ok6 : FnOk Try.prog T (tiTab tiL) sigs 6 sg6 := fnOk_tm (E := ⟨tiTab tiL, sigs, 0, 0, false, false, []⟩) Try.func136 (by kernel_rfl) (tm := tm6) (by kernel_rfl) (by kernel_rfl)
theorem ok7 : FnOk Try.prog T (tiTab tiL) sigs 7 sg7 := fnOk_tm (E := ⟨tiTab tiL, sigs, 0, 0, false, false, []⟩) Try.func190 (by kernel_rfl) (tm := tm7) (by kernel_rfl) (by kernel_rfl)
theorem ok8 : FnOk Try.prog T (tiTab tiL) sigs 8 sg8 := fnOk_tm (E := ⟨tiTab tiL, sigs, 0, 0, false, false, []⟩) Try.func41 (by kernel_rfl) (tm := tm8) (by kernel_rfl) (by kernel_rfl)
theorem ok9 : FnOk Try.prog T (tiTab tiL) sigs 9 sg9 := fnOk_tm (E := ⟨tiTab tiL, sigs, 0, 0, false, false, []⟩) Try.func103 (by kernel_rfl) (tm := tm9) (by kernel_rfl) (by kernel_rfl)
theorem ok10 : FnOk Try.prog T (tiTab tiL) sigs 10 sg10 := fnOk_tm (E := ⟨tiTab tiL, sigs, 0, 0, false, false, []⟩) Try.func39 (by kernel_rfl) (tm := tm10) (by kernel_rfl) (by kernel_rfl)
theorem ok11 : FnOk Try.prog T (tiTab tiL) sigs 11 sg11 := fnOk_tm (E := ⟨tiTab tiL, sigs, 0, 0, false, false, []⟩) Try.func132 (by kernel_rfl) (tm := tm11) (by kernel_rfl) (by kernel_rfl)
theorem ok12 : FnOk Try.prog T (tiTab tiL) sigs 12 sg12 := fnOk_tm (E := ⟨tiTab tiL, sigs, 0, 0, false, false, []⟩) Try.func186 (by kernel_rfl) (tm := tm12) (by kernel_rfl) (by kernel_rfl)
theorem ok13 : FnOk Try.prog T (tiTab tiL) sigs 13 sg13 := fnOk_tm (E := ⟨tiTab tiL, sigs, 0, 0, false, false, []⟩) Try.func96 (by kernel_rfl) (tm := tm13) (by kernel_rfl) (by kernel_rfl)
theorem ok14 : FnOk Try.prog T (tiTab tiL) sigs 14 sg14 := fnOk_tm (E := ⟨tiTab tiL, sigs, 0, 0, false, false, []⟩) Try.func171 (by kernel_rfl) (tm := tm14) (by kernel_rfl) (by kernel_rfl)
theorem ok15 : FnOk Try.prog T (tiTab tiL) sigs 15 sg15 := fnOk_tm (E := ⟨tiTab tiL, sigs, 0, 0, false, false, []⟩) Try.func187 (by kernel_rfl) (tm := tm15) (by kernel_rfl) (by kernel_rfl)
theorem ok16 : FnOk Try.prog T (tiTab tiL) sigs 16 sg16 := fnOk_tm (E := ⟨tiTab tiL, sigs, 0, 0, false, false, []⟩) Try.func133 (by kernel_rfl) (tm := tm16) (by kernel_rfl) (by kernel_rfl)
theorem ok17 : FnOk Try.prog T (tiTab tiL) sigs 17 sg17 := fnOk_tm (E := ⟨tiTab tiL, sigs, 0, 0, false, false, []⟩) Try.func100 (by kernel_rfl) (tm := tm17) (by kernel_rfl) (by kernel_rfl)
theorem ok18 : FnOk Try.prog T (tiTab tiL) sigs 18 sg18 := fnOk_tm (E := ⟨tiTab tiL, sigs, 0, 0, false, false, []⟩) Try.func172 (by kernel_rfl) (tm := tm18) (by kernel_rfl) (by kernel_rfl)
theorem ok19 : FnOk Try.prog T (tiTab tiL) sigs 19 sg19 := fnOk_tm (E := ⟨tiTab tiL, sigs, 0, 0, false, false, []⟩) Try.func207 (by kernel_rfl) (tm := tm19) (by kernel_rfl) (by kernel_rfl)
theorem ok20 : FnOk Try.prog T (tiTab tiL) sigs 20 sg20 := fnOk_tm (E := ⟨tiTab tiL, sigs, 0, 0, false, false, []⟩) Try.func134 (by kernel_rfl) (tm := tm20) (by kernel_rfl) (by kernel_rfl)
theorem ok21 : FnOk Try.prog T (tiTab tiL) sigs 21 sg21 := fnOk_tm (E := ⟨tiTab tiL, sigs, 0, 0, false, false, []⟩) Try.func188 (by kernel_rfl) (tm := tm21) (by kernel_rfl) (by kernel_rfl)
theorem ok22 : FnOk Try.prog T (tiTab tiL) sigs 22 sg22 := fnOk_tm (E := ⟨tiTab tiL, sigs, 0, 0, false, false, []⟩) Try.func209 (by kernel_rfl) (tm := tm22) (by kernel_rfl) (by kernel_rfl)
theorem ok23 : FnOk Try.prog T (tiTab tiL) sigs 23 sg23 := fnOk_tm (E := ⟨tiTab tiL, sigs, 0, 0, false, false, []⟩) Try.func189 (by kernel_rfl) (tm := tm23) (by kernel_rfl) (by kernel_rfl)
theorem ok24 : FnOk Try.prog T (tiTab tiL) sigs 24 sg24 := fnOk_tm (E := ⟨tiTab tiL, sigs, 0, 0, false, false, []⟩) Try.func42 (by kernel_rfl) (tm := tm24) (by kernel_rfl) (by kernel_rfl)
theorem ok25 : FnOk Try.prog T (tiTab tiL) sigs 25 sg25 := fnOk_tm (E := ⟨tiTab tiL, sigs, 0, 0, false, false, []⟩) Try.func137 (by kernel_rfl) (tm := tm25) (by kernel_rfl) (by kernel_rfl)
theorem ok26 : FnOk Try.prog T (tiTab tiL) sigs 26 sg26 := fnOk_tm (E := ⟨tiTab tiL, sigs, 0, 0, false, false, []⟩) Try.func191 (by kernel_rfl) (tm := tm26) (by kernel_rfl) (by kernel_rfl)
theorem ok27 : FnOk Try.prog T (tiTab tiL) sigs 27 sg27 := fnOk_tm (E := ⟨tiTab tiL, sigs, 0, 0, false, false, []⟩) Try.func176 (by kernel_rfl) (tm := tm27) (by kernel_rfl) (by kernel_rfl)
theorem ok28 : FnOk Try.prog T (tiTab tiL) sigs 28 sg28 := fnOk_tm (E := ⟨tiTab tiL, sigs, 0, 0, false, false, []⟩) Try.func208 (by kernel_rfl) (tm := tm28) (by kernel_rfl) (by kernel_rfl)
theorem ok29 : FnOk Try.prog T (tiTab tiL) sigs 29 sg29 := fnOk_tm (E := ⟨tiTab tiL, sigs, 0, 0, false, false, []⟩) Try.func211 (by kernel_rfl) (tm := tm29) (by kernel_rfl) (by kernel_rfl)
theorem ok30 : FnOk Try.prog T (tiTab tiL) sigs 30 sg30 := fnOk_tm (E := ⟨tiTab tiL, sigs, 0, 0, false, false, []⟩) Try.func105 (by kernel_rfl) (tm := tm30) (by kernel_rfl) (by kernel_rfl)
theorem ok31 : FnOk Try.prog T (tiTab tiL) sigs 31 sg31 := fnOk_tm (E := ⟨tiTab tiL, sigs, 0, 0, false, false, []⟩) Try.func212 (by kernel_rfl) (tm := tm31) (by kernel_rfl) (by kernel_rfl)
theorem ok32 : FnOk Try.prog T (tiTab tiL) sigs 32 sg32 := fnOk_tm (E := ⟨tiTab tiL, sigs, 0, 0, false, false, []⟩) Try.func192 (by kernel_rfl) (tm := tm32) (by kernel_rfl) (by kernel_rfl)
theorem ok33 : FnOk Try.prog T (tiTab tiL) sigs 33 sg33 := fnOk_tm (E := ⟨tiTab tiL, sigs, 0, 0, false, false, []⟩) Try.func138 (by kernel_rfl) (tm := tm33) (by kernel_rfl) (by kernel_rfl)
theorem ok34 : FnOk Try.prog T (tiTab tiL) sigs 34 sg34 := fnOk_tm (E := ⟨tiTab tiL, sigs, 0, 0, false, false, []⟩) Try.func109 (by kernel_rfl) (tm := tm34) (by kernel_rfl) (by kernel_rfl)
theorem ok35 : FnOk Try.prog T (tiTab tiL) sigs 35 sg35 := fnOk_tm (E := ⟨tiTab tiL, sigs, 0, 0, false, false, []⟩) Try.func175 (by kernel_rfl) (tm := tm35) (by kernel_rfl) (by kernel_rfl)
theorem ok36 : FnOk Try.prog T (tiTab tiL) sigs 36 sg36 := fnOk_tm (E := ⟨tiTab tiL, sigs, 0, 0, false, false, []⟩) Try.func139 (by kernel_rfl) (tm := tm36) (by kernel_rfl) (by kernel_rfl)
theorem ok39 : FnOk Try.prog T (tiTab tiL) sigs 39 sg39 := fnOk_tm (E := ⟨tiTab tiL, sigs, 0, 0, false, false, []⟩) Try.func140 (by kernel_rfl) (tm := tm39) (by kernel_rfl) (by kernel_rfl)
theorem ok40 : FnOk Try.prog T (tiTab tiL) sigs 40 sg40 := fnOk_tm (E := ⟨tiTab tiL, sigs, 0, 0, false, false, []⟩) Try.func195 (by kernel_rfl) (tm := tm40) (by kernel_rfl) (by kernel_rfl)
theorem ok41 : FnOk Try.prog T (tiTab tiL) sigs 41 sg41 := fnOk_tm (E := ⟨tiTab tiL, sigs, 0, 0, false, false, []⟩) Try.func17 (by kernel_rfl) (tm := tm41) (by kernel_rfl) (by kernel_rfl)
theorem ok42 : FnOk Try.prog T (tiTab tiL) sigs 42 sg42 := fnOk_tm (E := ⟨tiTab tiL, sigs, 0, 0, false, false, []⟩) Try.func52 (by kernel_rfl) (tm := tm42) (by kernel_rfl) (by kernel_rfl)
theorem ok43 : FnOk Try.prog T (tiTab tiL) sigs 43 sg43 := fnOk_tm (E := ⟨tiTab tiL, sigs, 0, 0, false, false, []⟩) Try.func51 (by kernel_rfl) (tm := tm43) (by kernel_rfl) (by kernel_rfl)
theorem ok44 : FnOk Try.prog T (tiTab tiL) sigs 44 sg44 := fnOk_tm (E := ⟨tiTab tiL, sigs, 0, 0, false, false, []⟩) Try.func43 (by kernel_rfl) (tm := tm44) (by kernel_rfl) (by kernel_rfl)
theorem ok45 : FnOk Try.prog T (tiTab tiL) sigs 45 sg45 := fnOk_tm (E := ⟨tiTab tiL, sigs, 0, 0, false, false, []⟩) Try.func18 (by kernel_rfl) (tm := tm45) (by kernel_rfl) (by kernel_rfl)
theorem ok46 : FnOk Try.prog T (tiTab tiL) sigs 46 sg46 := fnOk_tm (E := ⟨tiTab tiL, sigs, 0, 0, false, false, []⟩) Try.func54 (by kernel_rfl) (tm := tm46) (by kernel_rfl) (by kernel_rfl)
theorem ok47 : FnOk Try.prog T (tiTab tiL) sigs 47 sg47 := fnOk_tm (E := ⟨tiTab tiL, sigs, 0, 0, false, false, []⟩) Try.func53 (by kernel_rfl) (tm := tm47) (by kernel_rfl) (by kernel_rfl)
theorem ok48 : FnOk Try.prog T (tiTab tiL) sigs 48 sg48 := fnOk_tm (E := ⟨tiTab tiL, sigs, 0, 0, false, false, []⟩) Try.func19 (by kernel_rfl) (tm := tm48) (by kernel_rfl) (by kernel_rfl)
theorem ok49 : FnOk Try.prog T (tiTab tiL) sigs 49 sg49 := fnOk_tm (E := ⟨tiTab tiL, sigs, 0, 0, false, false, []⟩) Try.func56 (by kernel_rfl) (tm := tm49) (by kernel_rfl) (by kernel_rfl)
theorem ok50 : FnOk Try.prog T (tiTab tiL) sigs 50 sg50 := fnOk_tm (E := ⟨tiTab tiL, sigs, 0, 0, false, false, []⟩) Try.func55 (by kernel_rfl) (tm := tm50) (by kernel_rfl) (by kernel_rfl)
theorem fns_ok : ∀ key s, (key, s) ∈ sigs → FnOk Try.prog T (tiTab tiL) sigs key s := fnOk_all (List.forall_mem_cons.2 ⟨ok0, List.forall_mem_cons.2 ⟨ok1, List.forall_mem_cons.2 ⟨ok2, List.forall_mem_cons.2 ⟨ok3, List.forall_mem_cons.2 ⟨ok4, List.forall_mem_cons.2 ⟨ok5, List.forall_mem_cons.2 ⟨ok6, List.forall_mem_cons.2 ⟨ok7, List.forall_mem_cons.2 ⟨ok8, List.forall_mem_cons.2 ⟨ok9, List.forall_mem_cons.2 ⟨ok10, List.forall_mem_cons.2 ⟨ok11, List.forall_mem_cons.2 ⟨ok12, List.forall_mem_cons.2 ⟨ok13, List.forall_mem_cons.2 ⟨ok14, List.forall_mem_cons.2 ⟨ok15, List.forall_mem_cons.2 ⟨ok16, List.forall_mem_cons.2 ⟨ok17, List.forall_mem_cons.2 ⟨ok18, List.forall_mem_cons.2 ⟨ok19, List.forall_mem_cons.2 ⟨ok20, List.forall_mem_cons.2 ⟨ok21, List.forall_mem_cons.2 ⟨ok22, List.forall_mem_cons.2 ⟨ok23, List.forall_mem_cons.2 ⟨ok24, List.forall_mem_cons.2 ⟨ok25, List.forall_mem_cons.2 ⟨ok26, List.forall_mem_cons.2 ⟨ok27, List.forall_mem_cons.2 ⟨ok28, List.forall_mem_cons.2 ⟨ok29, List.forall_mem_cons.2 ⟨ok30, List.forall_mem_cons.2 ⟨ok31, List.forall_mem_cons.2 ⟨ok32, List.forall_mem_cons.2 ⟨ok33, List.forall_mem_cons.2 ⟨ok34, List.forall_mem_cons.2 ⟨ok35, List.forall_mem_cons.2 ⟨ok36, List.forall_mem_cons.2 ⟨ok37, List.forall_mem_cons.2 ⟨ok38, List.forall_mem_cons.2 ⟨ok39, List.forall_mem_cons.2 ⟨ok40, List.forall_mem_cons.2 ⟨ok41, List.forall_mem_cons.2 ⟨ok42, List.forall_mem_cons.2 ⟨ok43, List.forall_mem_cons.2 ⟨ok44, List.forall_mem_cons.2 ⟨ok45, List.forall_mem_cons.2 ⟨ok46, List.forall_mem_cons.2 ⟨ok47, List.forall_mem_cons.2 ⟨ok48, List.forall_mem_cons.2 ⟨ok49, List.forall_mem_cons.2 ⟨ok50, List.forall_mem_nil _⟩⟩⟩⟩⟩⟩⟩⟩⟩⟩⟩⟩⟩⟩⟩⟩⟩⟩⟩⟩⟩⟩⟩⟩⟩⟩⟩⟩⟩⟩⟩⟩⟩⟩⟩⟩⟩⟩⟩⟩⟩⟩⟩⟩⟩⟩⟩⟩⟩⟩⟩)
theorem contract : ∀ n, Contract Try.prog T n 0 sg0 := fun n => contracts tiL_ok (by kernel_rfl) fns_ok n 0 sg0 (by simp [sigs])
theorem T_eq : (T 0 = .tm tm0 ∧ T 1 = .tm tm1 ∧ T 2 = .tm tm2 ∧ T 3 = .tm tm3 ∧ T 4 = .tm tm4 ∧ T 5 = .tm tm5 ∧ T 6 = .tm tm6 ∧ T 7 = .tm tm7 ∧ T 8 = .tm tm8 ∧ T 9 = .tm tm9 ∧ T 10 = .tm tm10 ∧ T 11 = .tm tm11 ∧ T 12 = .tm tm12 ∧ T 13 = .tm tm13 ∧ T 14 = .tm tm14 ∧ T 15 = .tm tm15 ∧ T 16 = .tm tm16 ∧ T 17 = .tm tm17 ∧ T 18 = .tm tm18 ∧ T 19 = .tm tm19 ∧ T 20 = .tm tm20 ∧ T 21 = .tm tm21 ∧ T 22 = .tm tm22 ∧ T 23 = .tm tm23 ∧ T 24 = .tm tm24 ∧ T 25 = .tm tm25 ∧ T 26 = .tm tm26 ∧ T 27 = .tm tm27 ∧ T 28 = .tm tm28 ∧ T 29 = .tm tm29 ∧ T 30 = .tm tm30 ∧ T 31 = .tm tm31 ∧ T 32 = .tm tm32 ∧ T 33 = .tm tm33 ∧ T 34 = .tm tm34 ∧ T 35 = .tm tm35 ∧ T 36 = .tm tm36 ∧ T 37 = .ext ex37 ∧ T 38 = .ext ex38 ∧ T 39 = .tm tm39 ∧ T 40 = .tm tm40 ∧ T 41 = .tm tm41 ∧ T 42 = .tm tm42 ∧ T 43 = .tm tm43 ∧ T 44 = .tm tm44 ∧ T 45 = .tm tm45 ∧ T 46 = .tm tm46 ∧ T 47 = .tm tm47 ∧ T 48 = .tm tm48 ∧ T 49 = .tm tm49 ∧ T 50 = .tm tm50) := ⟨rfl, rfl, rfl, rfl, rfl, rfl, rfl, rfl, rfl, rfl, rfl, rfl, rfl, rfl, rfl, rfl, rfl, rfl, rfl, rfl, rfl, rfl, rfl, rfl, rfl, rfl, rfl, rfl, rfl, rfl, rfl, rfl, rfl, rfl, rfl, rfl, rfl, rfl, rfl, rfl, rfl, rfl, rfl, rfl, rfl, rfl, rfl, rfl, rfl, rfl, rfl⟩
end FnExactServeAsk
end Go.Proofs.Ytacfmplofkjonaa
