/- The terms of the functions that FnExactChooseOf reaches (printed by the author's own program). -/
import Derived.Test.YtacfmplofkjonaaChecked
import Derived.Test.YtacfmplofkjonaaRf9
import Derived.KernelRfl
namespace Go.Proofs.Ytacfmplofkjonaa
namespace FnExactChooseOf
open Go Go.Proofs.Ytacfmplofkjonaa.Rf
set_option maxRecDepth 100000

def tiL : List (Nat × TI) := [
  (3, ⟨false, 1, 8, [.sc (.int .i64 0)], [], none, (some .i64), false, false, false, false⟩),
  (4, ⟨false, 1, 1, [.sc (.bool false)], [], none, none, true, false, false, false⟩),
  (22, ⟨false, 1, 24, [.sl 1], [], (some 3), none, false, false, false, false⟩),
  (31, ⟨true, 5, 40, [.sc (.int .i64 0), .sc (.int .i64 0), .sc (.int .i64 0), .sc (.int .i64 0), .sc (.int .i64 0)], [(0, 3), (1, 3), (2, 3), (3, 3), (4, 3)], none, none, false, false, false, true⟩),
  (33, ⟨true, 2, 32, [.sc (.int .i64 0), .sl 1], [(0, 3), (1, 22)], none, none, false, false, false, false⟩),
  (38, ⟨true, 5, 40, [.sc (.int .i64 0), .sc (.int .i64 0), .sc (.int .i64 0), .sc (.int .i64 0), .sc (.int .i64 0)], [(0, 3), (1, 3), (2, 3), (3, 3), (4, 3)], none, none, false, false, false, true⟩),
  (39, ⟨true, 2, 32, [.sc (.int .i64 0), .sl 1], [(0, 3), (1, 22)], none, none, false, false, false, false⟩),
  (47, ⟨false, 1, 24, [.sl 10], [], (some 54), none, false, false, false, false⟩),
  (54, ⟨true, 10, 96, [.sc (.int .i64 0), .sc (.int .i64 0), .sc (.int .i64 0), .sc (.int .i64 0), .sc (.int .i64 0), .sc (.int .i64 0), .sc (.int .i64 0), .sc (.int .i64 0), .sc (.int .i64 0), .sl 1], [(0, 3), (1, 3), (2, 3), (3, 38), (8, 39)], none, none, false, false, false, false⟩),
  (100, ⟨false, 1, 24, [.sl 10], [], (some 134), none, false, false, false, false⟩),
  (134, ⟨true, 10, 96, [.sc (.int .i64 0), .sc (.int .i64 0), .sc (.int .i64 0), .sc (.int .i64 0), .sc (.int .i64 0), .sc (.int .i64 0), .sc (.int .i64 0), .sc (.int .i64 0), .sc (.int .i64 0), .sl 1], [(0, 3), (1, 3), (2, 3), (3, 31), (8, 33)], none, none, false, false, false, false⟩),
  (205, ⟨false, 1, 8, [.pn], [], none, none, false, false, true, false⟩)]
theorem ti3 : tiOf Try.prog 3 = some ⟨false, 1, 8, [.sc (.int .i64 0)], [], none, (some .i64), false, false, false, false⟩ := by kernel_rfl
theorem ti4 : tiOf Try.prog 4 = some ⟨false, 1, 1, [.sc (.bool false)], [], none, none, true, false, false, false⟩ := by kernel_rfl
theorem ti22 : tiOf Try.prog 22 = some ⟨false, 1, 24, [.sl 1], [], (some 3), none, false, false, false, false⟩ := by kernel_rfl
theorem ti31 : tiOf Try.prog 31 = some ⟨true, 5, 40, [.sc (.int .i64 0), .sc (.int .i64 0), .sc (.int .i64 0), .sc (.int .i64 0), .sc (.int .i64 0)], [(0, 3), (1, 3), (2, 3), (3, 3), (4, 3)], none, none, false, false, false, true⟩ := by kernel_rfl
theorem ti33 : tiOf Try.prog 33 = some ⟨true, 2, 32, [.sc (.int .i64 0), .sl 1], [(0, 3), (1, 22)], none, none, false, false, false, false⟩ := by kernel_rfl
theorem ti38 : tiOf Try.prog 38 = some ⟨true, 5, 40, [.sc (.int .i64 0), .sc (.int .i64 0), .sc (.int .i64 0), .sc (.int .i64 0), .sc (.int .i64 0)], [(0, 3), (1, 3), (2, 3), (3, 3), (4, 3)], none, none, false, false, false, true⟩ := by kernel_rfl
theorem ti39 : tiOf Try.prog 39 = some ⟨true, 2, 32, [.sc (.int .i64 0), .sl 1], [(0, 3), (1, 22)], none, none, false, false, false, false⟩ := by kernel_rfl
theorem ti47 : tiOf Try.prog 47 = some ⟨false, 1, 24, [.sl 10], [], (some 54), none, false, false, false, false⟩ := by kernel_rfl
theorem ti54 : tiOf Try.prog 54 = some ⟨true, 10, 96, [.sc (.int .i64 0), .sc (.int .i64 0), .sc (.int .i64 0), .sc (.int .i64 0), .sc (.int .i64 0), .sc (.int .i64 0), .sc (.int .i64 0), .sc (.int .i64 0), .sc (.int .i64 0), .sl 1], [(0, 3), (1, 3), (2, 3), (3, 38), (8, 39)], none, none, false, false, false, false⟩ := by kernel_rfl
theorem ti100 : tiOf Try.prog 100 = some ⟨false, 1, 24, [.sl 10], [], (some 134), none, false, false, false, false⟩ := by kernel_rfl
theorem ti134 : tiOf Try.prog 134 = some ⟨true, 10, 96, [.sc (.int .i64 0), .sc (.int .i64 0), .sc (.int .i64 0), .sc (.int .i64 0), .sc (.int .i64 0), .sc (.int .i64 0), .sc (.int .i64 0), .sc (.int .i64 0), .sc (.int .i64 0), .sl 1], [(0, 3), (1, 3), (2, 3), (3, 31), (8, 33)], none, none, false, false, false, false⟩ := by kernel_rfl
theorem ti205 : tiOf Try.prog 205 = some ⟨false, 1, 8, [.pn], [], none, none, false, false, true, false⟩ := by kernel_rfl
theorem tiL_ok : TiOk Try.prog (tiTab tiL) := tiTab_ok (l := tiL) (List.forall_mem_cons.2 ⟨ti3, List.forall_mem_cons.2 ⟨ti4, List.forall_mem_cons.2 ⟨ti22, List.forall_mem_cons.2 ⟨ti31, List.forall_mem_cons.2 ⟨ti33, List.forall_mem_cons.2 ⟨ti38, List.forall_mem_cons.2 ⟨ti39, List.forall_mem_cons.2 ⟨ti47, List.forall_mem_cons.2 ⟨ti54, List.forall_mem_cons.2 ⟨ti100, List.forall_mem_cons.2 ⟨ti134, List.forall_mem_cons.2 ⟨ti205, List.forall_mem_nil _⟩⟩⟩⟩⟩⟩⟩⟩⟩⟩⟩⟩)

def sg0 : Sig := ⟨10, [(false, [.sc]), (false, [.fz false])], [], [(false, [.sc])]⟩
def sg1 : Sig := ⟨57, [(false, [.fz false]), (false, [.sc])], [], [(false, [.sc])]⟩
def sg2 : Sig := ⟨89, [(true, [.sc, .sc, .sc, .sc, .sc, .sc, .sc, .sc, .sc, .fz false]), (false, [.sc])], [], [(false, [.sc])]⟩
def sg3 : Sig := ⟨94, [(true, [.sc, .fz false]), (false, [.sc])], [], [(false, [.sc])]⟩
def sg4 : Sig := ⟨130, [(false, [.fz false]), (false, [.sc])], [], [(false, [.sc])]⟩
def sg5 : Sig := ⟨58, [(false, [.fz false])], [], [(false, [.ow 99])]⟩
def sg6 : Sig := ⟨90, [(true, [.sc, .sc, .sc, .sc, .sc, .sc, .sc, .sc, .sc, .fz false])], [], [(true, [.sc, .sc, .sc, .sc, .sc, .sc, .sc, .sc, .sc, .ow 99])]⟩
def sg7 : Sig := ⟨103, [(true, [.sc, .sc, .sc, .sc, .sc])], [], [(true, [.sc, .sc, .sc, .sc, .sc])]⟩
def sg8 : Sig := ⟨104, [(true, [.sc, .fz false])], [], [(true, [.sc, .ow 99])]⟩
def sg9 : Sig := ⟨135, [(false, [.fz false])], [], [(false, [.ow 99])]⟩
def sg10 : Sig := ⟨28, [(false, [.sc]), (false, [.fz false])], [], [(false, [.sc]), (true, [.sc, .sc, .sc, .sc, .sc]), (true, [.sc, .ow 99]), (false, [.sc])]⟩
def sg11 : Sig := ⟨123, [(false, [.sc])], [], [(false, [.sc]), (false, [.sc])]⟩
def sg12 : Sig := ⟨95, [(false, [.sc])], [], [(false, [.sc])]⟩
def sg13 : Sig := ⟨96, [(false, [.sc]), (false, [.sc]), (false, [.sc])], [], [(false, [.sc])]⟩
def sg14 : Sig := ⟨98, [(false, [.sc]), (true, [.sc, .sc, .sc, .sc, .sc, .sc, .sc, .sc, .sc, .fz false])], [], [(false, [.sc])]⟩
def sg15 : Sig := ⟨102, [(false, [.sc])], [], [(true, [.sc, .ow 99])]⟩
def sg16 : Sig := ⟨101, [(true, [.sc, .fz false]), (true, [.sc, .fz false])], [], [(false, [.sc])]⟩
def sg17 : Sig := ⟨173, [(false, [.fz false]), (false, [.fz false])], [], [(false, [.sc])]⟩
def sg18 : Sig := ⟨100, [(true, [.sc, .sc, .sc, .sc, .sc])], [], [(false, [.sc])]⟩
def sg19 : Sig := ⟨172, [(true, [.sc, .sc, .sc, .sc, .sc])], [], [(false, [.sc])]⟩
def sg20 : Sig := ⟨207, [(false, [.sc])], [], [(false, [.sc])]⟩
def sg21 : Sig := ⟨99, [(false, [.sc]), (true, [.sc, .fz false])], [], [(false, [.sc])]⟩
def sg22 : Sig := ⟨171, [(false, [.fz false]), (false, [.sc]), (false, [.sc])], [], [(false, [.sc])]⟩
def sg23 : Sig := ⟨124, [(false, [.sc]), (false, [.fz false])], [], [(false, [.sc]), (true, [.sc, .sc, .sc, .sc, .sc]), (true, [.sc, .ow 99])]⟩
def sg24 : Sig := ⟨185, [(true, [.sc, .fz false]), (true, [.sc, .fz false])], [], [(true, [.sc, .ow 99])]⟩
def sg25 : Sig := ⟨210, [(false, [.sc]), (false, [.sc])], [], [(false, [.sc])]⟩
def sg26 : Sig := ⟨181, [(true, [.sc, .fz false])], [], [(true, [.sc, .ow 99])]⟩
def sg27 : Sig := ⟨209, [(false, [.fz false])], [], [(false, [.ow 99])]⟩
def sg28 : Sig := ⟨27, [(false, [.sc]), (false, [.fz false])], [], [(false, [.sc]), (true, [.sc, .sc, .sc, .sc, .sc]), (true, [.sc, .ow 99]), (false, [.sc])]⟩
def sg29 : Sig := ⟨118, [(false, [.sc])], [], [(false, [.sc])]⟩
def sg30 : Sig := ⟨119, [(false, [.sc]), (false, [.sc])], [], [(false, [.sc])]⟩
def sg31 : Sig := ⟨120, [(false, [.fz false]), (false, [.clo 121 [.px 0]])], [(true, [(.sc, .sc)])], [(false, [.sc])]⟩
def sg32 : Sig := ⟨182, [(false, [.fz false]), (false, [.clo 121 [.px 0]])], [(true, [(.sc, .sc)])], [(false, [.sc])]⟩
def sg33 : Sig := ⟨121, [(true, [.sc, .sc, .sc, .sc, .sc, .sc, .sc, .sc, .sc, .fz false]), (false, [.px 0])], [(true, [(.sc, .sc)])], [(false, [.sc])]⟩
def sg34 : Sig := ⟨107, [(false, [.sc]), (true, [.sc, .sc, .sc, .sc, .sc, .sc, .sc, .sc, .sc, .fz false])], [], [(false, [.sc])]⟩
def sg35 : Sig := ⟨105, [(false, [.sc]), (false, [.sc]), (false, [.sc])], [], [(false, [.sc])]⟩
def sg36 : Sig := ⟨109, [(true, [.sc, .sc, .sc, .sc, .sc])], [], [(false, [.sc])]⟩
def sg37 : Sig := ⟨175, [(false, [.sc])], [], [(false, [.sc])]⟩
def sg38 : Sig := ⟨110, [(false, [.sc]), (true, [.sc, .fz false])], [], [(false, [.sc])]⟩
def sg39 : Sig := ⟨176, [(false, [.fz false]), (false, [.clo 177 []])], [], [(false, [.sc])]⟩
def sg40 : Sig := ⟨208, [(false, [.fz false]), (false, [.clo 177 []])], [], [(false, [.sc])]⟩
def sg41 : Sig := ⟨177, [(false, [.sc])], [], [(false, [.sc])]⟩
def sg42 : Sig := ⟨112, [(false, [.sc])], [], [(true, [.sc, .ow 99])]⟩
def sg43 : Sig := ⟨111, [(true, [.sc, .fz false]), (true, [.sc, .fz false])], [], [(false, [.sc])]⟩
def sg44 : Sig := ⟨178, [(false, [.fz false]), (false, [.fz false])], [], [(false, [.sc])]⟩
def sg45 : Sig := ⟨122, [(false, [.sc]), (false, [.fz false])], [], [(false, [.sc]), (true, [.sc, .sc, .sc, .sc, .sc]), (true, [.sc, .ow 99])]⟩
def sg46 : Sig := ⟨183, [(false, [.sc]), (false, [.px 0])], [(true, [(.fz false, .fz)])], [(false, [.rp 10])]⟩
def sg47 : Sig := ⟨174, [(true, [.sc, .fz false])], [], [(true, [.sc, .ow 99])]⟩
def sg48 : Sig := ⟨193, [(false, [.fz false])], [], [(false, [.ow 99])]⟩
def sg49 : Sig := ⟨120, [(false, [.fz false]), (false, [.clo 184 [.px 0]])], [(true, [(.fz false, .fz)])], [(false, [.sc])]⟩
def sg50 : Sig := ⟨182, [(false, [.fz false]), (false, [.clo 184 [.px 0]])], [(true, [(.fz false, .fz)])], [(false, [.sc])]⟩
def sg51 : Sig := ⟨184, [(true, [.sc, .sc, .sc, .sc, .sc, .sc, .sc, .sc, .sc, .fz false]), (false, [.px 0])], [(true, [(.fz false, .fz)])], [(false, [.sc])]⟩
def sg52 : Sig := ⟨126, [(true, [.sc, .fz false]), (true, [.sc, .fz false])], [], [(true, [.sc, .ow 99])]⟩
def sg53 : Sig := ⟨59, [(true, [.sc, .sc, .sc, .sc, .sc]), (true, [.sc, .sc, .sc, .sc, .sc])], [], [(false, [.sc])]⟩
def sg54 : Sig := ⟨60, [(true, [.sc, .fz false]), (true, [.sc, .fz false])], [], [(false, [.sc])]⟩
def sg55 : Sig := ⟨52, [(false, [.fz false]), (false, [.fz false])], [], [(false, [.sc])]⟩
def sg56 : Sig := ⟨61, [(false, [.fz false]), (false, [.fz false])], [], [(false, [.sc])]⟩
def sg57 : Sig := ⟨67, [(true, [.sc, .sc, .sc, .sc, .sc, .sc, .sc, .sc, .sc, .fz false]), (true, [.sc, .sc, .sc, .sc, .sc, .sc, .sc, .sc, .sc, .fz false])], [], [(false, [.sc])]⟩
def sg58 : Sig := ⟨62, [(false, [.mu 2]), (false, [.sc])], [], [(false, [.sc])]⟩
def sg59 : Sig := ⟨54, [(false, [.mu 1]), (false, [.sc])], [], [(false, [.sc])]⟩
def sg60 : Sig := ⟨63, [(true, [.sc, .mu 1]), (false, [.sc])], [], [(false, [.sc])]⟩
def sg61 : Sig := ⟨64, [(true, [.sc, .fz false]), (false, [.sc])], [], [(false, [.sc])]⟩
def sg62 : Sig := ⟨56, [(false, [.fz false]), (false, [.sc])], [], [(false, [.sc])]⟩
def sigs : List (Nat × Sig) := [(0, sg0), (1, sg1), (2, sg2), (3, sg3), (4, sg4), (5, sg5), (6, sg6), (7, sg7), (8, sg8), (9, sg9), (10, sg10), (11, sg11), (12, sg12), (13, sg13), (14, sg14), (15, sg15), (16, sg16), (17, sg17), (18, sg18), (19, sg19), (20, sg20), (21, sg21), (22, sg22), (23, sg23), (24, sg24), (25, sg25), (26, sg26), (27, sg27), (28, sg28), (29, sg29), (30, sg30), (31, sg31), (32, sg32), (33, sg33), (34, sg34), (35, sg35), (36, sg36), (37, sg37), (38, sg38), (39, sg39), (40, sg40), (41, sg41), (42, sg42), (43, sg43), (44, sg44), (45, sg45), (46, sg46), (47, sg47), (48, sg48), (49, sg49), (50, sg50), (51, sg51), (52, sg52), (53, sg53), (54, sg54), (55, sg55), (56, sg56), (57, sg57), (58, sg58), (59, sg59), (60, sg60), (61, sg61), (62, sg62)]

/-- laws.FnExactChooseOf -/
def tm0 : Tm Unit :=
  (.call none 1 [.v 1, .c (.int .i64 1048576)] 1 [] <|
  (.lt none (.bin .lss) [.v 2, .c (.int .i64 0)] 1 <|
  (.ite (.v 3)
   (.leaf .ret [.c (.bool true)] ())
   (.call none 5 [.v 1] 1 [] <|
   (.call none 10 [.v 0, .v 4] 9 [] <|
   (.lt none (.dep 99) [.v 12] 0 <|
   (.call none 5 [.v 1] 1 [] <|
   (.call none 28 [.v 0, .v 14] 9 [] <|
   (.lt none (.dep 99) [.v 22] 0 <|
   (.lt none (.bin .neq) [.v 15, .v 5] 1 <|
   (.call (some (.v 24, false)) 53 [.v 16, .v 17, .v 18, .v 19, .v 20, .v 6, .v 7, .v 8, .v 9, .v 10] 1 [] <|
   (.lt (some (.v 24, false)) .not [.v 25] 1 <|
   (.lt none .pick [.v 24, .c (.bool true), .v 26] 1 <|
   (.call (some (.v 27, false)) 54 [.v 21, .v 22, .v 11, .v 12] 1 [] <|
   (.lt (some (.v 27, false)) .not [.v 28] 1 <|
   (.lt none .pick [.v 27, .c (.bool true), .v 29] 1 <|
   (.lt (some (.v 30, false)) .id [.v 23] 1 <|
   (.lt (some (.v 30, false)) .id [.v 13] 1 <|
   (.lt (some (.v 30, false)) (.eqb true) [.v 31, .v 32] 1 <|
   (.lt none .pick [.v 30, .c (.bool true), .v 33] 1 <|
   (.ite (.v 34)
    (.leaf .ret [.c (.bool false)] ())
    (.call none 5 [.v 1] 1 [] <|
    (.call none 56 [.v 14, .v 35] 1 [] <|
    (.lt none .not [.v 36] 1 <|
    (.ite (.v 37)
     (.leaf .ret [.c (.bool false)] ())
     (.call none 58 [.v 14, .c (.int .i64 1)] 2 [] <|
     (.lt none (.bin .lss) [.v 38, .c (.int .i64 0)] 1 <|
     (.lt (some (.v 40, false)) .id [.v 15] 1 <|
     (.lt (some (.v 40, false)) .id [.v 5] 1 <|
     (.lt (some (.v 40, false)) (.bin .neq) [.v 41, .v 42] 1 <|
     (.lt none .pick [.v 40, .c (.bool true), .v 43] 1 <|
     (.call (some (.v 44, false)) 53 [.v 16, .v 17, .v 18, .v 19, .v 20, .v 6, .v 7, .v 8, .v 9, .v 10] 1 [] <|
     (.lt (some (.v 44, false)) .not [.v 45] 1 <|
     (.lt none .pick [.v 44, .c (.bool true), .v 46] 1 <|
     (.call (some (.v 47, false)) 54 [.v 21, .v 22, .v 11, .v 12] 1 [] <|
     (.lt (some (.v 47, false)) .not [.v 48] 1 <|
     (.lt none .pick [.v 47, .c (.bool true), .v 49] 1 <|
     (.lt (some (.v 50, false)) .id [.v 23] 1 <|
     (.lt (some (.v 50, false)) .id [.v 13] 1 <|
     (.lt (some (.v 50, false)) (.eqb true) [.v 51, .v 52] 1 <|
     (.lt none .pick [.v 50, .c (.bool true), .v 53] 1 <|
     (.ite (.v 54)
      (.leaf .ret [.c (.bool false)] ())
      (.call none 60 [.v 21, .v 22, .c (.int .i64 1)] 2 [] <|
      (.call none 61 [.v 21, .v 56, .c (.int .i64 1)] 1 [] <|
      (.lt none (.bin .lss) [.v 57, .c (.int .i64 0)] 1 <|
      (.ite (.v 58)
       (.leaf .ret [.c (.bool false)] ())
       (.lt none (.bin .neq) [.v 57, .v 55] 1 <|
       (.ite (.v 59)
        (.leaf .ret [.c (.bool false)] ())
        (.call none 5 [.v 1] 1 [] <|
        (.call none 28 [.v 0, .v 60] 9 [] <|
        (.lt none (.dep 99) [.v 68] 0 <|
        (.lt none (.bin .neq) [.v 61, .v 5] 1 <|
        (.call (some (.v 70, false)) 53 [.v 62, .v 63, .v 64, .v 65, .v 66, .v 6, .v 7, .v 8, .v 9, .v 10] 1 [] <|
        (.lt (some (.v 70, false)) .not [.v 71] 1 <|
        (.lt none .pick [.v 70, .c (.bool true), .v 72] 1 <|
        (.call (some (.v 73, false)) 54 [.v 67, .v 68, .v 11, .v 12] 1 [] <|
        (.lt (some (.v 73, false)) .not [.v 74] 1 <|
        (.lt none .pick [.v 73, .c (.bool true), .v 75] 1 <|
        (.lt (some (.v 76, false)) .id [.v 69] 1 <|
        (.lt (some (.v 76, false)) .id [.v 13] 1 <|
        (.lt (some (.v 76, false)) (.eqb true) [.v 77, .v 78] 1 <|
        (.lt none .pick [.v 76, .c (.bool true), .v 79] 1 <|
        (.ite (.v 80)
         (.leaf .ret [.c (.bool false)] ())
         (.call none 61 [.v 21, .v 56, .c (.int .i64 1)] 1 [] <|
         (.lt none (.bin .lss) [.v 81, .c (.int .i64 0)] 1 <|
         (.ite (.v 82)
          (.leaf .ret [.c (.bool false)] ())
          (.lt none (.bin .neq) [.v 81, .v 55] 1 <|
          (.ite (.v 83)
           (.leaf .ret [.c (.bool false)] ())
           (.leaf .ret [.c (.bool true)] ())))))))))))))))))))))))))))))))))))))))))))))))))))))))))))))))))))))
/-- laws.szRowS -/
def tm1 : Tm Unit :=
  (.lt none .len [.v 0] 1 <|
  (.lt none (.bin .sub) [.v 1, .v 2] 1 <|
  (.lt none (.bin .lss) [.v 3, .c (.int .i64 0)] 1 <|
  (.ite (.v 4)
   (.leaf .ret [.c (.int .i64 (-1))] ())
   (.bind 1
    (.loop [.v 3, .c (.int .i64 0)]
     (.lt none .len [.v 0] 1 <|
     (.lt none (.bin .lss) [.v 6, .v 7] 1 <|
     (.ite (.v 8)
      (.lt none .inb [.v 0, .v 6] 0 <|
      (.lt none (.row 10 0 [true, true, true, true, true, true, true, true, true, false]) [.v 0, .v 6] 10 <|
      (.call none 2 [.v 9, .v 10, .v 11, .v 12, .v 13, .v 14, .v 15, .v 16, .v 17, .v 18, .v 5] 1 [] <|
      (.lt none (.bin .lss) [.v 19, .c (.int .i64 0)] 1 <|
      (.ite (.v 20)
       (.leaf .ret [.c (.int .i64 (-1))] ())
       (.lt none (.bin .add) [.v 6, .c (.int .i64 1)] 1 <|
       (.leaf .cont [.v 19, .v 21] ())))))))
      (.leaf (.yield 1) [.v 5] ()))))) <|
   (.leaf .ret [.v 5] ()))))))
/-- laws.szRow -/
def tm2 : Tm Unit :=
  (.call none 3 [.v 8, .v 9, .v 10] 1 [] <|
  (.lt none (.bin .lss) [.v 11, .c (.int .i64 0)] 1 <|
  (.ite (.v 12)
   (.leaf .ret [.c (.int .i64 (-1))] ())
   (.leaf .ret [.v 11] ()))))
/-- laws.szAttr -/
def tm3 : Tm Unit :=
  (.call none 4 [.v 1, .v 2] 1 [] <|
  (.lt none (.bin .lss) [.v 3, .c (.int .i64 0)] 1 <|
  (.ite (.v 4)
   (.leaf .ret [.c (.int .i64 (-1))] ())
   (.leaf .ret [.v 3] ()))))
/-- laws.szIntS -/
def tm4 : Tm Unit :=
  (.lt none .len [.v 0] 1 <|
  (.lt none (.bin .sub) [.v 1, .v 2] 1 <|
  (.lt none (.bin .lss) [.v 3, .c (.int .i64 0)] 1 <|
  (.ite (.v 4)
   (.leaf .ret [.c (.int .i64 (-1))] ())
   (.leaf .ret [.v 3] ())))))
/-- laws.toRowS -/
def tm5 : Tm Unit :=
  (.lt none .len [.v 0] 1 <|
  (.lt none (.make 96 [(.int .i64 0), (.int .i64 0), (.int .i64 0), (.int .i64 0), (.int .i64 0), (.int .i64 0), (.int .i64 0), (.int .i64 0), (.int .i64 0), (.rows 1 [])]) [.v 1] 1 <|
  (.bind 1
   (.loop [.v 2, .c (.int .i64 0)]
    (.lt none .len [.v 0] 1 <|
    (.lt none (.bin .lss) [.v 4, .v 5] 1 <|
    (.ite (.v 6)
     (.lt none .inb [.v 0, .v 4] 0 <|
     (.lt none (.row 10 0 [true, true, true, true, true, true, true, true, true, false]) [.v 0, .v 4] 10 <|
     (.call none 6 [.v 7, .v 8, .v 9, .v 10, .v 11, .v 12, .v 13, .v 14, .v 15, .v 16] 10 [] <|
     (.lt none .inb [.v 3, .v 4] 0 <|
     (.lt none (.set 10 0 10) [.v 3, .v 4, .v 17, .v 18, .v 19, .v 20, .v 21, .v 22, .v 23, .v 24, .v 25, .v 26] 1 <|
     (.lt none (.bin .add) [.v 4, .c (.int .i64 1)] 1 <|
     (.leaf .cont [.v 27, .v 28] ())))))))
     (.leaf (.yield 1) [.v 3] ()))))) <|
  (.leaf .ret [.v 3] ()))))
/-- laws.toRow -/
def tm6 : Tm Unit :=
  (.call none 7 [.v 3, .v 4, .v 5, .v 6, .v 7] 5 [] <|
  (.call none 8 [.v 8, .v 9] 2 [] <|
  (.leaf .ret [.v 0, .v 1, .v 2, .v 10, .v 11, .v 12, .v 13, .v 14, .v 15, .v 16] ())))
/-- laws.toCmd -/
def tm7 : Tm Unit :=
  (.leaf .ret [.v 0, .v 1, .v 2, .v 3, .v 4] ())
/-- laws.toAttr -/
def tm8 : Tm Unit :=
  (.call none 9 [.v 1] 1 [] <|
  (.leaf .ret [.v 0, .v 2] ()))
/-- laws.toIntS -/
def tm9 : Tm Unit :=
  (.lt none .len [.v 0] 1 <|
  (.lt none (.make 8 [(.int .i64 0)]) [.v 1] 1 <|
  (.bind 1
   (.loop [.v 2, .c (.int .i64 0)]
    (.lt none .len [.v 0] 1 <|
    (.lt none (.bin .lss) [.v 4, .v 5] 1 <|
    (.ite (.v 6)
     (.lt none .inb [.v 0, .v 4] 0 <|
     (.lt none (.row 1 0 [true]) [.v 0, .v 4] 1 <|
     (.lt none .inb [.v 3, .v 4] 0 <|
     (.lt none (.set 1 0 1) [.v 3, .v 4, .v 7] 1 <|
     (.lt none (.bin .add) [.v 4, .c (.int .i64 1)] 1 <|
     (.leaf .cont [.v 8, .v 9] ()))))))
     (.leaf (.yield 1) [.v 3] ()))))) <|
  (.leaf .ret [.v 3] ()))))
/-- spec.ChooseOf -/
def tm10 : Tm Unit :=
  (.call none 11 [.v 0] 2 [] <|
  (.lt none .not [.v 3] 1 <|
  (.lt (some (.v 4, false)) .len [.v 1] 1 <|
  (.lt (some (.v 4, false)) .id [.v 2] 1 <|
  (.lt (some (.v 4, false)) .id [.v 0] 1 <|
  (.call (some (.v 4, false)) 13 [.v 5, .v 6, .v 7] 1 [] <|
  (.lt (some (.v 4, false)) .not [.v 8] 1 <|
  (.lt none .pick [.v 4, .c (.bool true), .v 9] 1 <|
  (.ite (.v 10)
   (.leaf .ret [.c (.int .i64 0), .c (.int .i64 0), .c (.int .i64 0), .c (.int .i64 0), .c (.int .i64 0), .c (.int .i64 0), .c (.int .i64 0), .c (.rows 1 []), .c (.bool false)] ())
   (.lt none .len [.v 1] 1 <|
   (.bind 1
    (.loop [.c (.int .i64 0)]
     (.lt none (.bin .lss) [.v 12, .v 11] 1 <|
     (.ite (.v 13)
      (.lt none .inb [.v 1, .v 12] 0 <|
      (.lt none (.row 10 0 [true, true, true, true, true, true, true, true, true, false]) [.v 1, .v 12] 10 <|
      (.call none 14 [.v 0, .v 14, .v 15, .v 16, .v 17, .v 18, .v 19, .v 20, .v 21, .v 22, .v 23] 1 [] <|
      (.lt none .not [.v 24] 1 <|
      (.lt (some (.v 25, false)) .id [.v 16] 1 <|
      (.lt (some (.v 25, false)) (.bin .eql) [.v 26, .c (.int .i64 3)] 1 <|
      (.lt none .pick [.v 25, .c (.bool true), .v 27] 1 <|
      (.ite (.v 28)
       (.leaf .ret [.c (.int .i64 0), .c (.int .i64 0), .c (.int .i64 0), .c (.int .i64 0), .c (.int .i64 0), .c (.int .i64 0), .c (.int .i64 0), .c (.rows 1 []), .c (.bool false)] ())
       (.lt none (.bin .add) [.v 12, .c (.int .i64 1)] 1 <|
       (.leaf .cont [.v 29] ()))))))))))
      (.leaf (.yield 1) [] ())))) <|
   (.call none 23 [.v 0, .v 1] 8 [] <|
   (.leaf .ret [.v 12, .v 13, .v 14, .v 15, .v 16, .v 17, .v 18, .v 19, .c (.bool true)] ())))))))))))))
/-- spec.Majority -/
def tm11 : Tm Unit :=
  (.call none 12 [.v 0] 1 [] <|
  (.lt none .not [.v 1] 1 <|
  (.ite (.v 2)
   (.leaf .ret [.c (.int .i64 0), .c (.bool false)] ())
   (.lt none (.bin .quo) [.v 0, .c (.int .i64 2)] 1 <|
   (.lt none (.bin .add) [.v 3, .c (.int .i64 1)] 1 <|
   (.leaf .ret [.v 4, .c (.bool true)] ()))))))
/-- spec.IsGroup -/
def tm12 : Tm Unit :=
  (.lt none (.bin .eql) [.v 0, .c (.int .i64 3)] 1 <|
  (.lt (some (.v 1, false)) .id [.v 0] 1 <|
  (.lt (some (.v 1, false)) (.bin .eql) [.v 2, .c (.int .i64 5)] 1 <|
  (.lt none .pick [.v 1, .c (.bool true), .v 3] 1 <|
  (.leaf .ret [.v 4] ())))))
/-- spec.l1In -/
def tm13 : Tm Unit :=
  (.lt none (.bin .geq) [.v 0, .v 1] 1 <|
  (.lt (some (.v 3, true)) .id [.v 0] 1 <|
  (.lt (some (.v 3, true)) .id [.v 2] 1 <|
  (.lt (some (.v 3, true)) (.bin .leq) [.v 4, .v 5] 1 <|
  (.lt none .pick [.v 3, .v 6, .c (.bool false)] 1 <|
  (.leaf .ret [.v 7] ()))))))
/-- spec.l4Row -/
def tm14 : Tm Unit :=
  (.call none 13 [.v 1, .c (.int .i64 0), .c (.int .i64 9999)] 1 [] <|
  (.lt none .not [.v 11] 1 <|
  (.lt (some (.v 12, false)) .id [.v 2] 1 <|
  (.lt (some (.v 12, false)) .id [.v 1] 1 <|
  (.call (some (.v 12, false)) 13 [.v 13, .c (.int .i64 0), .v 14] 1 [] <|
  (.lt (some (.v 12, false)) .not [.v 15] 1 <|
  (.lt none .pick [.v 12, .c (.bool true), .v 16] 1 <|
  (.lt (some (.v 17, false)) .id [.v 3] 1 <|
  (.call (some (.v 17, false)) 13 [.v 18, .c (.int .i64 0), .c (.int .i64 3)] 1 [] <|
  (.lt (some (.v 17, false)) .not [.v 19] 1 <|
  (.lt none .pick [.v 17, .c (.bool true), .v 20] 1 <|
  (.ite (.v 21)
   (.leaf .ret [.c (.bool false)] ())
   (.lt none (.bin .eql) [.v 3, .c (.int .i64 0)] 1 <|
   (.ite (.v 22)
    (.lt none (.bin .eql) [.v 2, .c (.int .i64 0)] 1 <|
    (.lt (some (.v 23, true)) (.eqs [0, 0, 0, 0, 0]) [.v 4, .v 5, .v 6, .v 7, .v 8, .c (.int .i64 0), .c (.int .i64 0), .c (.int .i64 0), .c (.int .i64 0), .c (.int .i64 0)] 1 <|
    (.lt none .pick [.v 23, .v 24, .c (.bool false)] 1 <|
    (.lt (some (.v 25, true)) .id [.v 0] 1 <|
    (.call (some (.v 25, true)) 15 [.v 26] 2 [] <|
    (.call (some (.v 25, true)) 16 [.v 9, .v 10, .v 27, .v 28] 1 [] <|
    (.lt none .pick [.v 25, .v 29, .c (.bool false)] 1 <|
    (.leaf .ret [.v 30] ()))))))))
    (.call none 18 [.v 4, .v 5, .v 6, .v 7, .v 8] 1 [] <|
    (.lt (some (.v 23, true)) .id [.v 0] 1 <|
    (.call (some (.v 23, true)) 21 [.v 24, .v 9, .v 10] 1 [] <|
    (.lt none .pick [.v 23, .v 25, .c (.bool false)] 1 <|
    (.leaf .ret [.v 26] ())))))))))))))))))))
/-- spec.l3None -/
def tm15 : Tm Unit :=
  (.lt none (.make 8 [(.int .i64 0)]) [.v 0] 1 <|
  (.leaf .ret [.c (.int .i64 0), .v 1] ()))
/-- spec.SameAttr -/
def tm16 : Tm Unit :=
  (.lt none (.bin .eql) [.v 0, .v 2] 1 <|
  (.call (some (.v 4, true)) 17 [.v 1, .v 3] 1 [] <|
  (.lt none .pick [.v 4, .v 5, .c (.bool false)] 1 <|
  (.leaf .ret [.v 6] ()))))
/-- spec.l1Same -/
def tm17 : Tm Unit :=
  (.lt none .len [.v 0] 1 <|
  (.lt none .len [.v 1] 1 <|
  (.lt none (.bin .neq) [.v 2, .v 3] 1 <|
  (.ite (.v 4)
   (.leaf .ret [.c (.bool false)] ())
   (.lt none .len [.v 0] 1 <|
   (.bind 1
    (.loop [.c (.int .i64 0)]
     (.lt none (.bin .lss) [.v 6, .v 5] 1 <|
     (.ite (.v 7)
      (.lt none .inb [.v 0, .v 6] 0 <|
      (.lt none (.row 1 0 [true]) [.v 0, .v 6] 1 <|
      (.lt none .inb [.v 1, .v 6] 0 <|
      (.lt none (.row 1 0 [true]) [.v 1, .v 6] 1 <|
      (.lt none (.bin .neq) [.v 8, .v 9] 1 <|
      (.ite (.v 10)
       (.leaf .ret [.c (.bool false)] ())
       (.lt none (.bin .add) [.v 6, .c (.int .i64 1)] 1 <|
       (.leaf .cont [.v 11] ()))))))))
      (.leaf (.yield 1) [] ())))) <|
   (.leaf .ret [.c (.bool true)] ())))))))
/-- spec.GoodCmd -/
def tm18 : Tm Unit :=
  (.lt none (.bin .eql) [.v 0, .c (.int .i64 0)] 1 <|
  (.ite (.v 5)
   (.lt none (.eqs [0, 0, 0, 0, 0]) [.v 0, .v 1, .v 2, .v 3, .v 4, .c (.int .i64 0), .c (.int .i64 0), .c (.int .i64 0), .c (.int .i64 0), .c (.int .i64 0)] 1 <|
   (.leaf .ret [.v 6] ()))
   (.lt none (.bin .eql) [.v 0, .c (.int .i64 1)] 1 <|
   (.ite (.v 6)
    (.call none 19 [.v 0, .v 1, .v 2, .v 3, .v 4] 1 [] <|
    (.lt none (.bin .eql) [.v 7, .c (.int .i64 0)] 1 <|
    (.leaf .ret [.v 8] ())))
    (.lt none (.bin .eql) [.v 0, .c (.int .i64 2)] 1 <|
    (.ite (.v 7)
     (.call none 19 [.v 0, .v 1, .v 2, .v 3, .v 4] 1 [] <|
     (.lt none (.bin .eql) [.v 8, .c (.int .i64 0)] 1 <|
     (.lt (some (.v 9, true)) .id [.v 3] 1 <|
     (.lt (some (.v 9, true)) (.bin .eql) [.v 10, .c (.int .i64 0)] 1 <|
     (.lt none .pick [.v 9, .v 11, .c (.bool false)] 1 <|
     (.lt (some (.v 12, true)) .id [.v 4] 1 <|
     (.lt (some (.v 12, true)) (.bin .eql) [.v 13, .c (.int .i64 0)] 1 <|
     (.lt none .pick [.v 12, .v 14, .c (.bool false)] 1 <|
     (.leaf .ret [.v 15] ())))))))))
     (.leaf .ret [.c (.bool false)] ())))))))
/-- spec.l2Code -/
def tm19 : Tm Unit :=
  (.lt none (.bin .eql) [.v 0, .c (.int .i64 1)] 1 <|
  (.call none 20 [.v 2] 1 [] <|
  (.lt none .not [.v 6] 1 <|
  (.lt (some (.v 7, false)) .id [.v 5] 1 <|
  (.lt (some (.v 7, false)) .id [.v 8] 1 <|
  (.lt (some (.v 9, true)) .id [.v 3] 1 <|
  (.call (some (.v 9, true)) 20 [.v 10] 1 [] <|
  (.lt (some (.v 9, true)) .not [.v 11] 1 <|
  (.lt (some (.v 7, false)) .pick [.v 9, .v 12, .c (.bool false)] 1 <|
  (.lt none .pick [.v 7, .c (.bool true), .v 13] 1 <|
  (.ite (.v 14)
   (.leaf .ret [.c (.int .i64 4)] ())
   (.lt (some (.v 5, true)) .id [.v 2] 1 <|
   (.lt (some (.v 5, true)) .id [.v 3] 1 <|
   (.lt (some (.v 5, true)) (.bin .eql) [.v 15, .v 16] 1 <|
   (.lt none .pick [.v 5, .v 17, .c (.bool false)] 1 <|
   (.ite (.v 18)
    (.leaf .ret [.c (.int .i64 5)] ())
    (.call none 13 [.v 1, .c (.int .i64 1), .c (.int .i64 999)] 1 [] <|
    (.lt none .not [.v 19] 1 <|
    (.lt (some (.v 20, false)) .id [.v 5] 1 <|
    (.lt (some (.v 20, false)) .id [.v 21] 1 <|
    (.lt (some (.v 22, true)) .id [.v 4] 1 <|
    (.call (some (.v 22, true)) 13 [.v 23, .c (.int .i64 1), .c (.int .i64 1000)] 1 [] <|
    (.lt (some (.v 22, true)) .not [.v 24] 1 <|
    (.lt (some (.v 20, false)) .pick [.v 22, .v 25, .c (.bool false)] 1 <|
    (.lt none .pick [.v 20, .c (.bool true), .v 26] 1 <|
    (.ite (.v 27)
     (.leaf .ret [.c (.int .i64 6)] ())
     (.leaf .ret [.c (.int .i64 0)] ())))))))))))))))))))))))))))
/-- spec.l2Account -/
def tm20 : Tm Unit :=
  (.call none 13 [.v 0, .c (.int .i64 0), .c (.int .i64 3)] 1 [] <|
  (.leaf .ret [.v 1] ()))
/-- spec.l3Attr -/
def tm21 : Tm Unit :=
  (.call none 13 [.v 1, .c (.int .i64 0), .c (.int .i64 999)] 1 [] <|
  (.lt (some (.v 3, true)) .len [.v 2] 1 <|
  (.lt (some (.v 3, true)) .id [.v 0] 1 <|
  (.lt (some (.v 3, true)) (.bin .eql) [.v 4, .v 5] 1 <|
  (.lt none .pick [.v 3, .v 6, .c (.bool false)] 1 <|
  (.call (some (.v 7, true)) 22 [.v 2, .c (.int .i64 0), .c (.int .i64 6)] 1 [] <|
  (.lt none .pick [.v 7, .v 8, .c (.bool false)] 1 <|
  (.leaf .ret [.v 9] ()))))))))
/-- spec.l1All -/
def tm22 : Tm Unit :=
  (.lt none .len [.v 0] 1 <|
  (.bind 1
   (.loop [.c (.int .i64 0)]
    (.lt none (.bin .lss) [.v 4, .v 3] 1 <|
    (.ite (.v 5)
     (.lt none .inb [.v 0, .v 4] 0 <|
     (.lt none (.row 1 0 [true]) [.v 0, .v 4] 1 <|
     (.call none 13 [.v 6, .v 1, .v 2] 1 [] <|
     (.lt none .not [.v 7] 1 <|
     (.ite (.v 8)
      (.leaf .ret [.c (.bool false)] ())
      (.lt none (.bin .add) [.v 4, .c (.int .i64 1)] 1 <|
      (.leaf .cont [.v 9] ())))))))
     (.leaf (.yield 1) [] ())))) <|
  (.leaf .ret [.c (.bool true)] ())))
/-- spec.l8Choose -/
def tm23 : Tm Unit :=
  (.call none 15 [.v 0] 2 [] <|
  (.lt none .len [.v 1] 1 <|
  (.bind 1
   (.loop [.c (.int .i64 (-1)), .c (.int .i64 (-1)), .c (.bool true), .c (.int .i64 0), .v 2, .v 3]
    (.lt none (.bin .lss) [.v 8, .v 4] 1 <|
    (.ite (.v 11)
     (.lt none .inb [.v 1, .v 8] 0 <|
     (.lt none (.row 10 0 [true, true, true, true, true, true, true, true, true, false]) [.v 1, .v 8] 10 <|
     (.bind 0
      (.lt none (.bin .eql) [.v 14, .c (.int .i64 2)] 1 <|
      (.ite (.v 22)
       (.lt none (.bin .lss) [.v 5, .c (.int .i64 0)] 1 <|
       (.lt (some (.v 23, false)) .id [.v 13] 1 <|
       (.lt (some (.v 23, false)) .id [.v 5] 1 <|
       (.lt (some (.v 23, false)) .inb [.v 1, .v 25] 0 <|
       (.lt (some (.v 23, false)) (.row 10 1 [true]) [.v 1, .v 25] 1 <|
       (.lt (some (.v 23, false)) (.bin .gtr) [.v 24, .v 26] 1 <|
       (.lt none .pick [.v 23, .c (.bool true), .v 27] 1 <|
       (.ite (.v 28)
        (.leaf (.yield 0) [.v 8, .v 6, .v 9, .v 10] ())
        (.leaf (.yield 0) [.v 5, .v 6, .v 9, .v 10] ())))))))))
       (.lt none (.bin .eql) [.v 14, .c (.int .i64 1)] 1 <|
       (.ite (.v 23)
        (.bind 0
         (.lt none (.bin .lss) [.v 6, .c (.int .i64 0)] 1 <|
         (.lt (some (.v 24, false)) .id [.v 13] 1 <|
         (.lt (some (.v 24, false)) .id [.v 6] 1 <|
         (.lt (some (.v 24, false)) .inb [.v 1, .v 26] 0 <|
         (.lt (some (.v 24, false)) (.row 10 1 [true]) [.v 1, .v 26] 1 <|
         (.lt (some (.v 24, false)) (.bin .gtr) [.v 25, .v 27] 1 <|
         (.lt none .pick [.v 24, .c (.bool true), .v 28] 1 <|
         (.ite (.v 29)
          (.leaf (.yield 0) [.v 8, .c .undef, .c .undef, .c .undef, .c .undef] ())
          (.leaf (.yield 0) [.v 6, .c .undef, .c .undef, .c .undef, .c .undef] ()))))))))) <|
        (.call none 24 [.v 9, .v 10, .v 20, .v 21] 2 [] <|
        (.lt none (.dep 99) [.v 30] 0 <|
        (.leaf (.yield 0) [.v 5, .v 24, .v 29, .v 30] ()))))
        (.leaf (.yield 0) [.v 5, .v 6, .v 9, .v 10] ()))))) <|
     (.lt (some (.v 7, true)) .id [.v 14] 1 <|
     (.lt (some (.v 7, true)) (.bin .eql) [.v 26, .c (.int .i64 1)] 1 <|
     (.lt none .pick [.v 7, .v 27, .c (.bool false)] 1 <|
     (.lt (some (.v 28, true)) .id [.v 13] 1 <|
     (.lt (some (.v 28, true)) (.bin .eql) [.v 29, .c (.int .i64 0)] 1 <|
     (.lt none .pick [.v 28, .v 30, .c (.bool false)] 1 <|
     (.lt (some (.v 31, true)) .inb [.v 1, .c (.int .i64 0)] 0 <|
     (.lt (some (.v 31, true)) (.row 10 3 [true, true, true, true, true]) [.v 1, .c (.int .i64 0)] 5 <|
     (.lt (some (.v 31, true)) (.eqs [0, 0, 0, 0, 0]) [.v 15, .v 16, .v 17, .v 18, .v 19, .v 32, .v 33, .v 34, .v 35, .v 36] 1 <|
     (.lt none .pick [.v 31, .v 37, .c (.bool false)] 1 <|
     (.lt (some (.v 38, true)) .inb [.v 1, .c (.int .i64 0)] 0 <|
     (.lt (some (.v 38, true)) (.row 10 8 [true, false]) [.v 1, .c (.int .i64 0)] 2 <|
     (.call (some (.v 38, true)) 16 [.v 20, .v 21, .v 39, .v 40] 1 [] <|
     (.lt none .pick [.v 38, .v 41, .c (.bool false)] 1 <|
     (.lt none (.bin .add) [.v 8, .c (.int .i64 1)] 1 <|
     (.leaf .cont [.v 22, .v 23, .v 42, .v 43, .v 24, .v 25] ())))))))))))))))))))
     (.leaf (.yield 1) [.v 5, .v 6, .v 7, .v 9, .v 10] ())))) <|
  (.lt none (.bin .geq) [.v 5, .c (.int .i64 0)] 1 <|
  (.ite (.v 10)
   (.lt none .inb [.v 1, .v 5] 0 <|
   (.lt none (.row 10 3 [true, true, true, true, true]) [.v 1, .v 5] 5 <|
   (.lt none .inb [.v 1, .v 5] 0 <|
   (.lt none (.row 10 8 [true, false]) [.v 1, .v 5] 2 <|
   (.call none 26 [.v 16, .v 17] 2 [] <|
   (.leaf .ret [.c (.int .i64 1), .v 11, .v 12, .v 13, .v 14, .v 15, .v 18, .v 19] ()))))))
   (.ite (.v 7)
    (.lt none .inb [.v 1, .c (.int .i64 0)] 0 <|
    (.lt none (.row 10 3 [true, true, true, true, true]) [.v 1, .c (.int .i64 0)] 5 <|
    (.lt none .inb [.v 1, .c (.int .i64 0)] 0 <|
    (.lt none (.row 10 8 [true, false]) [.v 1, .c (.int .i64 0)] 2 <|
    (.call none 26 [.v 16, .v 17] 2 [] <|
    (.leaf .ret [.c (.int .i64 1), .v 11, .v 12, .v 13, .v 14, .v 15, .v 18, .v 19] ()))))))
    (.lt none (.bin .geq) [.v 6, .c (.int .i64 0)] 1 <|
    (.ite (.v 11)
     (.lt none .inb [.v 1, .v 6] 0 <|
     (.lt none (.row 10 3 [true, true, true, true, true]) [.v 1, .v 6] 5 <|
     (.leaf .ret [.c (.int .i64 2), .v 12, .v 13, .v 14, .v 15, .v 16, .v 8, .v 9] ())))
     (.call none 15 [.v 0] 2 [] <|
     (.leaf .ret [.c (.int .i64 3), .c (.int .i64 0), .c (.int .i64 0), .c (.int .i64 0), .c (.int .i64 0), .c (.int .i64 0), .v 12, .v 13] ()))))))))))
/-- spec.l3Join -/
def tm24 : Tm Unit :=
  (.call none 25 [.v 0, .v 2] 1 [] <|
  (.lt none .len [.v 1] 1 <|
  (.bind 1
   (.loop [.c (.int .i64 0), .c (.rows 1 [])]
    (.lt none (.bin .lss) [.v 6, .v 5] 1 <|
    (.ite (.v 8)
     (.lt none .inb [.v 1, .v 6] 0 <|
     (.lt none (.row 1 0 [true]) [.v 1, .v 6] 1 <|
     (.lt none .inb [.v 3, .v 6] 0 <|
     (.lt none (.row 1 0 [true]) [.v 3, .v 6] 1 <|
     (.call none 25 [.v 9, .v 10] 1 [] <|
     (.lt none (.mk 1 1) [.v 11] 1 <|
     (.lt none (.app 1 8 true) [.v 7, .v 12] 1 <|
     (.lt none (.bin .add) [.v 6, .c (.int .i64 1)] 1 <|
     (.leaf .cont [.v 14, .v 13] ())))))))))
     (.leaf (.yield 1) [.v 7] ())))) <|
  (.leaf .ret [.v 4, .v 6] ()))))
/-- spec.l1Most -/
def tm25 : Tm Unit :=
  (.lt none (.bin .gtr) [.v 0, .v 1] 1 <|
  (.ite (.v 2)
   (.leaf .ret [.v 0] ())
   (.leaf .ret [.v 1] ())))
/-- spec.l4OwnAttr -/
def tm26 : Tm Unit :=
  (.call none 27 [.v 1] 1 [] <|
  (.leaf .ret [.v 0, .v 2] ()))
/-- spec.l1Own -/
def tm27 : Tm Unit :=
  (.lt none (.mk 1 0) [] 1 <|
  (.lt none (.app 1 8 true) [.v 1, .v 0] 1 <|
  (.leaf .ret [.v 2] ())))
/-- impl.ChooseOf -/
def tm28 : Tm Unit :=
  (.call none 29 [.v 0] 1 [] <|
  (.lt none .not [.v 2] 1 <|
  (.lt (some (.v 3, false)) .id [.v 0] 1 <|
  (.lt (some (.v 3, false)) .len [.v 1] 1 <|
  (.call (some (.v 3, false)) 30 [.v 4, .v 5] 1 [] <|
  (.lt (some (.v 3, false)) .not [.v 6] 1 <|
  (.lt none .pick [.v 3, .c (.bool true), .v 7] 1 <|
  (.lt (some (.v 8, false)) .len [.v 1] 1 <|
  (.lt (some (.v 8, false)) .id [.v 0] 1 <|
  (.lt (some (.v 8, false)) (.bin .gtr) [.v 9, .v 10] 1 <|
  (.lt none .pick [.v 8, .c (.bool true), .v 11] 1 <|
  (.call (some (.v 12, false)) 31 [.v 1, .v 0] 1 [] <|
  (.lt none .pick [.v 12, .c (.bool true), .v 13] 1 <|
  (.ite (.v 14)
   (.leaf .ret [.c (.int .i64 0), .c (.int .i64 0), .c (.int .i64 0), .c (.int .i64 0), .c (.int .i64 0), .c (.int .i64 0), .c (.int .i64 0), .c (.rows 1 []), .c (.bool false)] ())
   (.call none 45 [.v 0, .v 1] 8 [] <|
   (.leaf .ret [.v 15, .v 16, .v 17, .v 18, .v 19, .v 20, .v 21, .v 22, .c (.bool true)] ()))))))))))))))))
/-- impl.IsGroup -/
def tm29 : Tm Unit :=
  (.lt none (.bin .eql) [.v 0, .c (.int .i64 3)] 1 <|
  (.lt (some (.v 1, false)) .id [.v 0] 1 <|
  (.lt (some (.v 1, false)) (.bin .eql) [.v 2, .c (.int .i64 5)] 1 <|
  (.lt none .pick [.v 1, .c (.bool true), .v 3] 1 <|
  (.leaf .ret [.v 4] ())))))
/-- impl.isMajority -/
def tm30 : Tm Unit :=
  (.lt none (.bin .quo) [.v 0, .c (.int .i64 2)] 1 <|
  (.lt none (.bin .gtr) [.v 1, .v 2] 1 <|
  (.leaf .ret [.v 3] ())))
/-- slices.ContainsFunc[[]impl.Row,impl.Row]@impl.ChooseOf$1 -/
def tm31 : Tm Unit :=
  (.call none 32 [.v 0, .v 1] 1 [] <|
  (.lt none (.bin .geq) [.v 2, .c (.int .i64 0)] 1 <|
  (.leaf .ret [.v 3] ())))
/-- slices.IndexFunc[[]impl.Row,impl.Row]@impl.ChooseOf$1 -/
def tm32 : Tm Unit :=
  (.lt none .len [.v 0] 1 <|
  (.bind 1
   (.loop [.c (.int .i64 0)]
    (.lt none (.bin .lss) [.v 3, .v 2] 1 <|
    (.ite (.v 4)
     (.lt none .inb [.v 0, .v 3] 0 <|
     (.lt none (.row 10 0 [true, true, true, true, true, true, true, true, true, false]) [.v 0, .v 3] 10 <|
     (.call none 33 [.v 5, .v 6, .v 7, .v 8, .v 9, .v 10, .v 11, .v 12, .v 13, .v 14, .v 1] 1 [] <|
     (.ite (.v 15)
      (.leaf .ret [.v 3] ())
      (.lt none (.bin .add) [.v 3, .c (.int .i64 1)] 1 <|
      (.leaf .cont [.v 16] ()))))))
     (.leaf (.yield 1) [] ())))) <|
  (.leaf .ret [.c (.int .i64 (-1))] ())))
/-- impl.ChooseOf$1 -/
def tm33 : Tm Unit :=
  (.call none 34 [.v 10, .v 0, .v 1, .v 2, .v 3, .v 4, .v 5, .v 6, .v 7, .v 8, .v 9] 1 [] <|
  (.lt none .not [.v 11] 1 <|
  (.lt (some (.v 12, false)) .id [.v 2] 1 <|
  (.lt (some (.v 12, false)) (.bin .eql) [.v 13, .c (.int .i64 3)] 1 <|
  (.lt none .pick [.v 12, .c (.bool true), .v 14] 1 <|
  (.leaf .ret [.v 15] ()))))))
/-- impl.goodRow -/
def tm34 : Tm Unit :=
  (.call none 35 [.v 1, .c (.int .i64 0), .c (.int .i64 9999)] 1 [] <|
  (.lt none .not [.v 11] 1 <|
  (.lt (some (.v 12, false)) .id [.v 2] 1 <|
  (.lt (some (.v 12, false)) .id [.v 1] 1 <|
  (.call (some (.v 12, false)) 35 [.v 13, .c (.int .i64 0), .v 14] 1 [] <|
  (.lt (some (.v 12, false)) .not [.v 15] 1 <|
  (.lt none .pick [.v 12, .c (.bool true), .v 16] 1 <|
  (.lt (some (.v 17, false)) .id [.v 3] 1 <|
  (.call (some (.v 17, false)) 35 [.v 18, .c (.int .i64 0), .c (.int .i64 3)] 1 [] <|
  (.lt (some (.v 17, false)) .not [.v 19] 1 <|
  (.lt none .pick [.v 17, .c (.bool true), .v 20] 1 <|
  (.call (some (.v 21, false)) 36 [.v 4, .v 5, .v 6, .v 7, .v 8] 1 [] <|
  (.lt (some (.v 21, false)) .not [.v 22] 1 <|
  (.lt none .pick [.v 21, .c (.bool true), .v 23] 1 <|
  (.lt (some (.v 24, false)) .id [.v 0] 1 <|
  (.call (some (.v 24, false)) 38 [.v 25, .v 9, .v 10] 1 [] <|
  (.lt (some (.v 24, false)) .not [.v 26] 1 <|
  (.lt none .pick [.v 24, .c (.bool true), .v 27] 1 <|
  (.ite (.v 28)
   (.leaf .ret [.c (.bool false)] ())
   (.lt none (.bin .neq) [.v 3, .c (.int .i64 0)] 1 <|
   (.lt (some (.v 29, false)) .id [.v 2] 1 <|
   (.lt (some (.v 29, false)) (.bin .eql) [.v 30, .c (.int .i64 0)] 1 <|
   (.lt (some (.v 29, false)) .id [.v 31] 1 <|
   (.lt (some (.v 32, true)) (.eqs [0, 0, 0, 0, 0]) [.v 4, .v 5, .v 6, .v 7, .v 8, .c (.int .i64 0), .c (.int .i64 0), .c (.int .i64 0), .c (.int .i64 0), .c (.int .i64 0)] 1 <|
   (.lt (some (.v 29, false)) .pick [.v 32, .v 33, .c (.bool false)] 1 <|
   (.lt (some (.v 29, false)) .id [.v 34] 1 <|
   (.lt (some (.v 35, true)) .id [.v 0] 1 <|
   (.call (some (.v 35, true)) 42 [.v 36] 2 [] <|
   (.call (some (.v 35, true)) 43 [.v 9, .v 10, .v 37, .v 38] 1 [] <|
   (.lt (some (.v 29, false)) .pick [.v 35, .v 39, .c (.bool false)] 1 <|
   (.lt none .pick [.v 29, .c (.bool true), .v 40] 1 <|
   (.leaf .ret [.v 41] ()))))))))))))))))))))))))))))))))
/-- impl.within -/
def tm35 : Tm Unit :=
  (.lt none (.bin .leq) [.v 1, .v 0] 1 <|
  (.lt (some (.v 3, true)) .id [.v 0] 1 <|
  (.lt (some (.v 3, true)) .id [.v 2] 1 <|
  (.lt (some (.v 3, true)) (.bin .leq) [.v 4, .v 5] 1 <|
  (.lt none .pick [.v 3, .v 6, .c (.bool false)] 1 <|
  (.leaf .ret [.v 7] ()))))))
/-- impl.GoodCmd -/
def tm36 : Tm Unit :=
  (.lt none (.bin .eql) [.v 0, .c (.int .i64 0)] 1 <|
  (.ite (.v 5)
   (.lt none (.eqs [0, 0, 0, 0, 0]) [.v 0, .v 1, .v 2, .v 3, .v 4, .c (.int .i64 0), .c (.int .i64 0), .c (.int .i64 0), .c (.int .i64 0), .c (.int .i64 0)] 1 <|
   (.leaf .ret [.v 6] ()))
   (.lt none (.bin .eql) [.v 0, .c (.int .i64 1)] 1 <|
   (.ite (.v 6)
    (.call none 35 [.v 1, .c (.int .i64 1), .c (.int .i64 999)] 1 [] <|
    (.lt (some (.v 7, true)) .id [.v 2] 1 <|
    (.call (some (.v 7, true)) 37 [.v 8] 1 [] <|
    (.lt none .pick [.v 7, .v 9, .c (.bool false)] 1 <|
    (.lt (some (.v 10, true)) .id [.v 3] 1 <|
    (.call (some (.v 10, true)) 37 [.v 11] 1 [] <|
    (.lt none .pick [.v 10, .v 12, .c (.bool false)] 1 <|
    (.lt (some (.v 13, true)) .id [.v 2] 1 <|
    (.lt (some (.v 13, true)) .id [.v 3] 1 <|
    (.lt (some (.v 13, true)) (.bin .neq) [.v 14, .v 15] 1 <|
    (.lt none .pick [.v 13, .v 16, .c (.bool false)] 1 <|
    (.lt (some (.v 17, true)) .id [.v 4] 1 <|
    (.call (some (.v 17, true)) 35 [.v 18, .c (.int .i64 1), .c (.int .i64 1000)] 1 [] <|
    (.lt none .pick [.v 17, .v 19, .c (.bool false)] 1 <|
    (.leaf .ret [.v 20] ())))))))))))))))
    (.lt none (.bin .eql) [.v 0, .c (.int .i64 2)] 1 <|
    (.lt (some (.v 7, true)) .id [.v 1] 1 <|
    (.call (some (.v 7, true)) 35 [.v 8, .c (.int .i64 1), .c (.int .i64 999)] 1 [] <|
    (.lt none .pick [.v 7, .v 9, .c (.bool false)] 1 <|
    (.lt (some (.v 10, true)) .id [.v 2] 1 <|
    (.call (some (.v 10, true)) 37 [.v 11] 1 [] <|
    (.lt none .pick [.v 10, .v 12, .c (.bool false)] 1 <|
    (.lt (some (.v 13, true)) .id [.v 3] 1 <|
    (.lt (some (.v 13, true)) (.bin .eql) [.v 14, .c (.int .i64 0)] 1 <|
    (.lt none .pick [.v 13, .v 15, .c (.bool false)] 1 <|
    (.lt (some (.v 16, true)) .id [.v 4] 1 <|
    (.lt (some (.v 16, true)) (.bin .eql) [.v 17, .c (.int .i64 0)] 1 <|
    (.lt none .pick [.v 16, .v 18, .c (.bool false)] 1 <|
    (.leaf .ret [.v 19] ()))))))))))))))))))
/-- impl.isAccount -/
def tm37 : Tm Unit :=
  (.call none 35 [.v 0, .c (.int .i64 0), .c (.int .i64 3)] 1 [] <|
  (.leaf .ret [.v 1] ()))
/-- impl.GoodAttr -/
def tm38 : Tm Unit :=
  (.call none 29 [.v 0] 1 [] <|
  (.lt (some (.v 3, true)) .id [.v 1] 1 <|
  (.call (some (.v 3, true)) 35 [.v 4, .c (.int .i64 0), .c (.int .i64 999)] 1 [] <|
  (.lt none .pick [.v 3, .v 5, .c (.bool false)] 1 <|
  (.lt (some (.v 6, true)) .len [.v 2] 1 <|
  (.lt (some (.v 6, true)) .id [.v 0] 1 <|
  (.lt (some (.v 6, true)) (.bin .eql) [.v 7, .v 8] 1 <|
  (.lt none .pick [.v 6, .v 9, .c (.bool false)] 1 <|
  (.call (some (.v 10, true)) 39 [.v 2] 1 [] <|
  (.lt (some (.v 10, true)) .not [.v 11] 1 <|
  (.lt none .pick [.v 10, .v 12, .c (.bool false)] 1 <|
  (.leaf .ret [.v 13] ()))))))))))))
/-- slices.ContainsFunc[[]int,int]@impl.GoodAttr$1 -/
def tm39 : Tm Unit :=
  (.call none 40 [.v 0] 1 [] <|
  (.lt none (.bin .geq) [.v 1, .c (.int .i64 0)] 1 <|
  (.leaf .ret [.v 2] ())))
/-- slices.IndexFunc[[]int,int]@impl.GoodAttr$1 -/
def tm40 : Tm Unit :=
  (.lt none .len [.v 0] 1 <|
  (.bind 1
   (.loop [.c (.int .i64 0)]
    (.lt none (.bin .lss) [.v 2, .v 1] 1 <|
    (.ite (.v 3)
     (.lt none .inb [.v 0, .v 2] 0 <|
     (.lt none (.row 1 0 [true]) [.v 0, .v 2] 1 <|
     (.call none 41 [.v 4] 1 [] <|
     (.ite (.v 5)
      (.leaf .ret [.v 2] ())
      (.lt none (.bin .add) [.v 2, .c (.int .i64 1)] 1 <|
      (.leaf .cont [.v 6] ()))))))
     (.leaf (.yield 1) [] ())))) <|
  (.leaf .ret [.c (.int .i64 (-1))] ())))
/-- impl.GoodAttr$1 -/
def tm41 : Tm Unit :=
  (.call none 35 [.v 0, .c (.int .i64 0), .c (.int .i64 6)] 1 [] <|
  (.lt none .not [.v 1] 1 <|
  (.leaf .ret [.v 2] ())))
/-- impl.noneAttr -/
def tm42 : Tm Unit :=
  (.lt none (.make 8 [(.int .i64 0)]) [.v 0] 1 <|
  (.leaf .ret [.c (.int .i64 0), .v 1] ()))
/-- impl.SameAttr -/
def tm43 : Tm Unit :=
  (.lt none (.bin .eql) [.v 0, .v 2] 1 <|
  (.call (some (.v 4, true)) 44 [.v 1, .v 3] 1 [] <|
  (.lt none .pick [.v 4, .v 5, .c (.bool false)] 1 <|
  (.leaf .ret [.v 6] ()))))
/-- slices.Equal[[]int,int] -/
def tm44 : Tm Unit :=
  (.lt none .len [.v 0] 1 <|
  (.lt none .len [.v 1] 1 <|
  (.lt none (.bin .neq) [.v 2, .v 3] 1 <|
  (.ite (.v 4)
   (.leaf .ret [.c (.bool false)] ())
   (.lt none .len [.v 0] 1 <|
   (.bind 1
    (.loop [.c (.int .i64 0)]
     (.lt none (.bin .lss) [.v 6, .v 5] 1 <|
     (.ite (.v 7)
      (.lt none .inb [.v 0, .v 6] 0 <|
      (.lt none (.row 1 0 [true]) [.v 0, .v 6] 1 <|
      (.lt none .inb [.v 1, .v 6] 0 <|
      (.lt none (.row 1 0 [true]) [.v 1, .v 6] 1 <|
      (.lt none (.bin .neq) [.v 8, .v 9] 1 <|
      (.ite (.v 10)
       (.leaf .ret [.c (.bool false)] ())
       (.lt none (.bin .add) [.v 6, .c (.int .i64 1)] 1 <|
       (.leaf .cont [.v 11] ()))))))))
      (.leaf (.yield 1) [] ())))) <|
   (.leaf .ret [.c (.bool true)] ())))))))
/-- impl.chooseOf -/
def tm45 : Tm Unit :=
  (.call none 46 [.c (.int .i64 2), .v 1] 1 [] <|
  (.lt none .emp [.v 2] 1 <|
  (.lt none .not [.v 3] 1 <|
  (.ite (.v 4)
   (.lt none .ne [.v 2] 0 <|
   (.lt none (.row 10 3 [true, true, true, true, true]) [.v 2, .c (.int .i64 0)] 5 <|
   (.lt none .ne [.v 2] 0 <|
   (.lt none (.row 10 8 [true, false]) [.v 2, .c (.int .i64 0)] 2 <|
   (.call none 47 [.v 10, .v 11] 2 [] <|
   (.leaf .ret [.c (.int .i64 1), .v 5, .v 6, .v 7, .v 8, .v 9, .v 12, .v 13] ()))))))
   (.call none 49 [.v 1, .v 1] 1 [] <|
   (.lt none .not [.v 5] 1 <|
   (.ite (.v 6)
    (.lt none .inb [.v 1, .c (.int .i64 0)] 0 <|
    (.lt none (.row 10 3 [true, true, true, true, true]) [.v 1, .c (.int .i64 0)] 5 <|
    (.lt none .inb [.v 1, .c (.int .i64 0)] 0 <|
    (.lt none (.row 10 8 [true, false]) [.v 1, .c (.int .i64 0)] 2 <|
    (.call none 47 [.v 12, .v 13] 2 [] <|
    (.leaf .ret [.c (.int .i64 1), .v 7, .v 8, .v 9, .v 10, .v 11, .v 14, .v 15] ()))))))
    (.call none 46 [.c (.int .i64 1), .v 1] 1 [] <|
    (.lt none .emp [.v 7] 1 <|
    (.ite (.v 8)
     (.call none 42 [.v 0] 2 [] <|
     (.leaf .ret [.c (.int .i64 3), .c (.int .i64 0), .c (.int .i64 0), .c (.int .i64 0), .c (.int .i64 0), .c (.int .i64 0), .v 9, .v 10] ()))
     (.call none 42 [.v 0] 2 [] <|
     (.lt none .len [.v 1] 1 <|
     (.bind 1
      (.loop [.c (.int .i64 0), .v 9, .v 10]
       (.lt none (.bin .lss) [.v 12, .v 11] 1 <|
       (.ite (.v 15)
        (.bind 0
         (.lt none .inb [.v 1, .v 12] 0 <|
         (.lt none (.row 10 0 [true, true, true, true, true, true, true, true, true, false]) [.v 1, .v 12] 10 <|
         (.lt none (.bin .eql) [.v 18, .c (.int .i64 1)] 1 <|
         (.ite (.v 26)
          (.call none 52 [.v 13, .v 14, .v 24, .v 25] 2 [] <|
          (.lt none (.dep 99) [.v 28] 0 <|
          (.leaf (.yield 0) [.v 27, .v 28] ())))
          (.leaf (.yield 0) [.v 13, .v 14] ()))))) <|
        (.lt none (.bin .add) [.v 12, .c (.int .i64 1)] 1 <|
        (.leaf .cont [.v 18, .v 16, .v 17] ())))
        (.leaf (.yield 1) [.v 13, .v 14] ())))) <|
     (.lt none .ne [.v 7] 0 <|
     (.lt none (.row 10 3 [true, true, true, true, true]) [.v 7, .c (.int .i64 0)] 5 <|
     (.leaf .ret [.c (.int .i64 2), .v 14, .v 15, .v 16, .v 17, .v 18, .v 12, .v 13] ()))))))))))))))))
/-- impl.chooseOf$1 -/
def tm46 : Tm Unit :=
  (.lt none .len [.v 1] 1 <|
  (.bind 1
   (.loop [.c (.rows 10 []), .c (.int .i64 0)]
    (.lt none (.bin .lss) [.v 4, .v 2] 1 <|
    (.ite (.v 5)
     (.bind 0
      (.lt none .inb [.v 1, .v 4] 0 <|
      (.lt none (.row 10 2 [true]) [.v 1, .v 4] 1 <|
      (.lt none (.bin .eql) [.v 6, .v 0] 1 <|
      (.lt (some (.v 7, true)) .emp [.v 3] 1 <|
      (.lt (some (.v 7, true)) .id [.v 8] 1 <|
      (.lt (some (.v 9, false)) (.row 10 1 [true]) [.v 1, .v 4] 1 <|
      (.lt (some (.v 9, false)) .ne [.v 3] 0 <|
      (.lt (some (.v 9, false)) (.row 10 1 [true]) [.v 3, .c (.int .i64 0)] 1 <|
      (.lt (some (.v 9, false)) (.bin .gtr) [.v 10, .v 11] 1 <|
      (.lt (some (.v 7, true)) .pick [.v 9, .c (.bool true), .v 12] 1 <|
      (.lt none .pick [.v 7, .v 13, .c (.bool false)] 1 <|
      (.ite (.v 14)
       (.lt none (.one 10) [.v 1, .v 4] 1 <|
       (.leaf (.yield 0) [.v 15, .c .undef, .c .undef, .c .undef, .c .undef, .c .undef, .c .undef] ()))
       (.leaf (.yield 0) [.v 3, .c .undef, .c .undef, .c .undef, .c .undef, .c .undef, .c .undef] ()))))))))))))) <|
     (.lt none (.bin .add) [.v 4, .c (.int .i64 1)] 1 <|
     (.leaf .cont [.v 6, .v 13] ())))
     (.leaf (.yield 1) [.v 3] ())))) <|
  (.leaf .ret [.v 3] ())))
/-- (impl.Attr).copied -/
def tm47 : Tm Unit :=
  (.call none 48 [.v 1] 1 [] <|
  (.leaf .ret [.v 0, .v 2] ()))
/-- slices.Clone[[]int,int] -/
def tm48 : Tm Unit :=
  (.lt none .ne [.v 0] 0 <|
  (.lt none .emp [.v 0] 1 <|
  (.ite (.v 1)
   (.leaf .ret [.c (.rows 1 [])] ())
   (.lt none (.mk 1 0) [] 1 <|
   (.lt none (.app 1 8 true) [.v 2, .v 0] 1 <|
   (.leaf .ret [.v 3] ()))))))
/-- slices.ContainsFunc[[]impl.Row,impl.Row]@impl.chooseOf$2 -/
def tm49 : Tm Unit :=
  (.call none 50 [.v 0, .v 1] 1 [] <|
  (.lt none (.bin .geq) [.v 2, .c (.int .i64 0)] 1 <|
  (.leaf .ret [.v 3] ())))
/-- slices.IndexFunc[[]impl.Row,impl.Row]@impl.chooseOf$2 -/
def tm50 : Tm Unit :=
  (.lt none .len [.v 0] 1 <|
  (.bind 1
   (.loop [.c (.int .i64 0)]
    (.lt none (.bin .lss) [.v 3, .v 2] 1 <|
    (.ite (.v 4)
     (.lt none .inb [.v 0, .v 3] 0 <|
     (.lt none (.row 10 0 [true, true, true, true, true, true, true, true, true, false]) [.v 0, .v 3] 10 <|
     (.call none 51 [.v 5, .v 6, .v 7, .v 8, .v 9, .v 10, .v 11, .v 12, .v 13, .v 14, .v 1] 1 [] <|
     (.ite (.v 15)
      (.leaf .ret [.v 3] ())
      (.lt none (.bin .add) [.v 3, .c (.int .i64 1)] 1 <|
      (.leaf .cont [.v 16] ()))))))
     (.leaf (.yield 1) [] ())))) <|
  (.leaf .ret [.c (.int .i64 (-1))] ())))
/-- impl.chooseOf$2 -/
def tm51 : Tm Unit :=
  (.lt none (.bin .neq) [.v 2, .c (.int .i64 1)] 1 <|
  (.lt (some (.v 11, false)) .id [.v 1] 1 <|
  (.lt (some (.v 11, false)) (.bin .neq) [.v 12, .c (.int .i64 0)] 1 <|
  (.lt none .pick [.v 11, .c (.bool true), .v 13] 1 <|
  (.lt (some (.v 14, false)) .inb [.v 10, .c (.int .i64 0)] 0 <|
  (.lt (some (.v 14, false)) (.row 10 3 [true, true, true, true, true]) [.v 10, .c (.int .i64 0)] 5 <|
  (.lt (some (.v 14, false)) (.eqs [0, 0, 0, 0, 0]) [.v 3, .v 4, .v 5, .v 6, .v 7, .v 15, .v 16, .v 17, .v 18, .v 19] 1 <|
  (.lt (some (.v 14, false)) .not [.v 20] 1 <|
  (.lt none .pick [.v 14, .c (.bool true), .v 21] 1 <|
  (.lt (some (.v 22, false)) .inb [.v 10, .c (.int .i64 0)] 0 <|
  (.lt (some (.v 22, false)) (.row 10 8 [true, false]) [.v 10, .c (.int .i64 0)] 2 <|
  (.call (some (.v 22, false)) 43 [.v 8, .v 9, .v 23, .v 24] 1 [] <|
  (.lt (some (.v 22, false)) .not [.v 25] 1 <|
  (.lt none .pick [.v 22, .c (.bool true), .v 26] 1 <|
  (.leaf .ret [.v 27] ())))))))))))))))
/-- (impl.Attr).join -/
def tm52 : Tm Unit :=
  (.lt none .max [.v 0, .v 2] 1 <|
  (.lt none .len [.v 1] 1 <|
  (.bind 1
   (.loop [.c (.int .i64 0), .c (.rows 1 [])]
    (.lt none (.bin .lss) [.v 6, .v 5] 1 <|
    (.ite (.v 8)
     (.lt none .inb [.v 1, .v 6] 0 <|
     (.lt none (.row 1 0 [true]) [.v 1, .v 6] 1 <|
     (.lt none .inb [.v 3, .v 6] 0 <|
     (.lt none (.row 1 0 [true]) [.v 3, .v 6] 1 <|
     (.lt none .max [.v 9, .v 10] 1 <|
     (.lt none (.mk 1 1) [.v 11] 1 <|
     (.lt none (.app 1 8 true) [.v 7, .v 12] 1 <|
     (.lt none (.bin .add) [.v 6, .c (.int .i64 1)] 1 <|
     (.leaf .cont [.v 14, .v 13] ())))))))))
     (.leaf (.yield 1) [.v 7] ())))) <|
  (.leaf .ret [.v 4, .v 6] ()))))
/-- laws.eqCmd -/
def tm53 : Tm Unit :=
  (.lt none (.bin .neq) [.v 0, .v 5] 1 <|
  (.ite (.v 10)
   (.leaf .ret [.c (.bool false)] ())
   (.lt none (.bin .neq) [.v 1, .v 6] 1 <|
   (.ite (.v 11)
    (.leaf .ret [.c (.bool false)] ())
    (.lt none (.bin .neq) [.v 2, .v 7] 1 <|
    (.ite (.v 12)
     (.leaf .ret [.c (.bool false)] ())
     (.lt none (.bin .neq) [.v 3, .v 8] 1 <|
     (.ite (.v 13)
      (.leaf .ret [.c (.bool false)] ())
      (.lt none (.bin .neq) [.v 4, .v 9] 1 <|
      (.ite (.v 14)
       (.leaf .ret [.c (.bool false)] ())
       (.leaf .ret [.c (.bool true)] ())))))))))))
/-- laws.eqAttr -/
def tm54 : Tm Unit :=
  (.lt none (.bin .neq) [.v 0, .v 2] 1 <|
  (.ite (.v 4)
   (.leaf .ret [.c (.bool false)] ())
   (.call none 55 [.v 1, .v 3] 1 [] <|
   (.lt none .not [.v 5] 1 <|
   (.ite (.v 6)
    (.leaf .ret [.c (.bool false)] ())
    (.leaf .ret [.c (.bool true)] ()))))))
/-- laws.eqIntS -/
def tm55 : Tm Unit :=
  (.lt none .len [.v 0] 1 <|
  (.lt none .len [.v 1] 1 <|
  (.lt none (.bin .neq) [.v 2, .v 3] 1 <|
  (.ite (.v 4)
   (.leaf .ret [.c (.bool false)] ())
   (.bind 1
    (.loop [.c (.int .i64 0)]
     (.lt none .len [.v 0] 1 <|
     (.lt none (.bin .lss) [.v 5, .v 6] 1 <|
     (.ite (.v 7)
      (.lt none .inb [.v 0, .v 5] 0 <|
      (.lt none (.row 1 0 [true]) [.v 0, .v 5] 1 <|
      (.lt none .inb [.v 1, .v 5] 0 <|
      (.lt none (.row 1 0 [true]) [.v 1, .v 5] 1 <|
      (.lt none (.bin .neq) [.v 8, .v 9] 1 <|
      (.ite (.v 10)
       (.leaf .ret [.c (.bool false)] ())
       (.lt none (.bin .add) [.v 5, .c (.int .i64 1)] 1 <|
       (.leaf .cont [.v 11] ()))))))))
      (.leaf (.yield 1) [] ()))))) <|
   (.leaf .ret [.c (.bool true)] ()))))))
/-- laws.eqRowS -/
def tm56 : Tm Unit :=
  (.lt none .len [.v 0] 1 <|
  (.lt none .len [.v 1] 1 <|
  (.lt none (.bin .neq) [.v 2, .v 3] 1 <|
  (.ite (.v 4)
   (.leaf .ret [.c (.bool false)] ())
   (.bind 1
    (.loop [.c (.int .i64 0)]
     (.lt none .len [.v 0] 1 <|
     (.lt none (.bin .lss) [.v 5, .v 6] 1 <|
     (.ite (.v 7)
      (.lt none .inb [.v 0, .v 5] 0 <|
      (.lt none (.row 10 0 [true, true, true, true, true, true, true, true, true, false]) [.v 0, .v 5] 10 <|
      (.lt none .inb [.v 1, .v 5] 0 <|
      (.lt none (.row 10 0 [true, true, true, true, true, true, true, true, true, false]) [.v 1, .v 5] 10 <|
      (.call none 57 [.v 8, .v 9, .v 10, .v 11, .v 12, .v 13, .v 14, .v 15, .v 16, .v 17, .v 18, .v 19, .v 20, .v 21, .v 22, .v 23, .v 24, .v 25, .v 26, .v 27] 1 [] <|
      (.lt none .not [.v 28] 1 <|
      (.ite (.v 29)
       (.leaf .ret [.c (.bool false)] ())
       (.lt none (.bin .add) [.v 5, .c (.int .i64 1)] 1 <|
       (.leaf .cont [.v 30] ())))))))))
      (.leaf (.yield 1) [] ()))))) <|
   (.leaf .ret [.c (.bool true)] ()))))))
/-- laws.eqRow -/
def tm57 : Tm Unit :=
  (.lt none (.bin .neq) [.v 0, .v 10] 1 <|
  (.ite (.v 20)
   (.leaf .ret [.c (.bool false)] ())
   (.lt none (.bin .neq) [.v 1, .v 11] 1 <|
   (.ite (.v 21)
    (.leaf .ret [.c (.bool false)] ())
    (.lt none (.bin .neq) [.v 2, .v 12] 1 <|
    (.ite (.v 22)
     (.leaf .ret [.c (.bool false)] ())
     (.call none 53 [.v 3, .v 4, .v 5, .v 6, .v 7, .v 13, .v 14, .v 15, .v 16, .v 17] 1 [] <|
     (.lt none .not [.v 23] 1 <|
     (.ite (.v 24)
      (.leaf .ret [.c (.bool false)] ())
      (.call none 54 [.v 8, .v 9, .v 18, .v 19] 1 [] <|
      (.lt none .not [.v 25] 1 <|
      (.ite (.v 26)
       (.leaf .ret [.c (.bool false)] ())
       (.leaf .ret [.c (.bool true)] ())))))))))))))
/-- laws.markRowS -/
def tm58 : Tm Unit :=
  (.bind 1
   (.loop [.v 0, .c .undef, .v 1, .c (.int .i64 0)]
    (.lt none .len [.v 2] 1 <|
    (.lt none (.bin .lss) [.v 5, .v 6] 1 <|
    (.ite (.v 7)
     (.lt none .inb [.v 2, .v 5] 0 <|
     (.lt none (.set 10 0 1) [.v 2, .v 5, .v 4] 1 <|
     (.lt none (.bin .add) [.v 4, .c (.int .i64 1)] 1 <|
     (.lt none .inb [.v 8, .v 5] 0 <|
     (.lt none (.set 10 1 1) [.v 8, .v 5, .v 9] 1 <|
     (.lt none (.bin .add) [.v 9, .c (.int .i64 1)] 1 <|
     (.lt none .inb [.v 10, .v 5] 0 <|
     (.lt none (.set 10 2 1) [.v 10, .v 5, .v 11] 1 <|
     (.lt none (.bin .add) [.v 11, .c (.int .i64 1)] 1 <|
     (.lt none .inb [.v 12, .v 5] 0 <|
     (.lt none (.set 10 3 1) [.v 12, .v 5, .v 13] 1 <|
     (.lt none (.bin .add) [.v 13, .c (.int .i64 1)] 1 <|
     (.lt none .inb [.v 14, .v 5] 0 <|
     (.lt none (.set 10 4 1) [.v 14, .v 5, .v 15] 1 <|
     (.lt none (.bin .add) [.v 15, .c (.int .i64 1)] 1 <|
     (.lt none .inb [.v 16, .v 5] 0 <|
     (.lt none (.set 10 5 1) [.v 16, .v 5, .v 17] 1 <|
     (.lt none (.bin .add) [.v 17, .c (.int .i64 1)] 1 <|
     (.lt none .inb [.v 18, .v 5] 0 <|
     (.lt none (.set 10 6 1) [.v 18, .v 5, .v 19] 1 <|
     (.lt none (.bin .add) [.v 19, .c (.int .i64 1)] 1 <|
     (.lt none .inb [.v 20, .v 5] 0 <|
     (.lt none (.set 10 7 1) [.v 20, .v 5, .v 21] 1 <|
     (.lt none (.bin .add) [.v 21, .c (.int .i64 1)] 1 <|
     (.lt none .inb [.v 22, .v 5] 0 <|
     (.lt none (.set 10 8 1) [.v 22, .v 5, .v 23] 1 <|
     (.lt none (.bin .add) [.v 23, .c (.int .i64 1)] 1 <|
     (.lt none .inb [.v 24, .v 5] 0 <|
     (.lt none (.row 10 9 [false]) [.v 24, .v 5] 1 <|
     (.call none 59 [.v 26, .v 25] 2 [] <|
     (.lt none (.set 10 9 1) [.v 24, .v 5, .v 28] 1 <|
     (.lt none (.bin .add) [.v 5, .c (.int .i64 1)] 1 <|
     (.leaf .cont [.v 29, .c .undef, .v 27, .v 30] ())))))))))))))))))))))))))))))))))
     (.leaf (.yield 1) [.v 2, .v 4] ()))))) <|
  (.leaf .ret [.v 3, .v 2] ()))
/-- laws.markIntS -/
def tm59 : Tm Unit :=
  (.bind 1
   (.loop [.v 0, .c .undef, .v 1, .c (.int .i64 0)]
    (.lt none .len [.v 2] 1 <|
    (.lt none (.bin .lss) [.v 5, .v 6] 1 <|
    (.ite (.v 7)
     (.lt none .inb [.v 2, .v 5] 0 <|
     (.lt none (.set 1 0 1) [.v 2, .v 5, .v 4] 1 <|
     (.lt none (.bin .add) [.v 4, .c (.int .i64 1)] 1 <|
     (.lt none (.bin .add) [.v 5, .c (.int .i64 1)] 1 <|
     (.leaf .cont [.v 8, .c .undef, .v 9, .v 10] ())))))
     (.leaf (.yield 1) [.v 2, .v 4] ()))))) <|
  (.leaf .ret [.v 3, .v 2] ()))
/-- laws.markAttr -/
def tm60 : Tm Unit :=
  (.call none 59 [.v 1, .v 2] 2 [] <|
  (.leaf .ret [.v 3, .v 4] ()))
/-- laws.heldAttr -/
def tm61 : Tm Unit :=
  (.call none 62 [.v 1, .v 2] 1 [] <|
  (.lt none (.bin .lss) [.v 3, .c (.int .i64 0)] 1 <|
  (.ite (.v 4)
   (.leaf .ret [.c (.int .i64 (-1))] ())
   (.leaf .ret [.v 3] ()))))
/-- laws.heldIntS -/
def tm62 : Tm Unit :=
  (.bind 1
   (.loop [.v 1, .c (.int .i64 0)]
    (.lt none .len [.v 0] 1 <|
    (.lt none (.bin .lss) [.v 3, .v 4] 1 <|
    (.ite (.v 5)
     (.lt none .inb [.v 0, .v 3] 0 <|
     (.lt none (.row 1 0 [true]) [.v 0, .v 3] 1 <|
     (.lt none (.bin .neq) [.v 6, .v 2] 1 <|
     (.ite (.v 7)
      (.leaf .ret [.c (.int .i64 (-1))] ())
      (.lt none (.bin .add) [.v 2, .c (.int .i64 1)] 1 <|
      (.lt none (.bin .add) [.v 3, .c (.int .i64 1)] 1 <|
      (.leaf .cont [.v 8, .v 9] ())))))))
     (.leaf (.yield 1) [.v 2] ()))))) <|
  (.leaf .ret [.v 2] ()))
theorem cl48 : ∀ n, Contract Try.prog (entTab [(48, .tm tm48)]) n 48 sg48 := fun n => contracts tiL_ok (by kernel_rfl) (fnOk_all (List.forall_mem_cons.2 ⟨fnOk_tm (E := ⟨tiTab tiL, [(48, sg48)], 0, 0, false, false, []⟩) Try.func193 (by kernel_rfl) (tm := tm48) (by kernel_rfl) (by kernel_rfl), List.forall_mem_nil _⟩)) n 48 sg48 (by simp)
def ren48 : Go.Shelf.Ren := ⟨fun | 41 => 193 | n => n, fun | 4 => 4 | 22 => 22 | 23 => 3 | n => n, fun n => n⟩
theorem lays48 : Go.Proofs.SlLaysE0.n41 Try.prog ren48 := { mixed := by kernel_rfl, f41 := ⟨Try.f193.name, by kernel_rfl, Try.func193.trans (congrArg some (by kernel_rfl))⟩, t4 := Try.underlying4, a4 := Try.isAgg4, z4 := Try.sizeOf4, v4 := Try.zeroValue4, t22 := Try.underlying22, a22 := Try.isAgg22, z22 := Try.sizeOf22, v22 := Try.zeroValue22 }
noncomputable def ex48 : List D → Option (List D) := cloneE 1 (entTab [(48, .tm tm48)]) 48

noncomputable def T : Nat → Ent := entTab [(0, .tm tm0), (1, .tm tm1), (2, .tm tm2), (3, .tm tm3), (4, .tm tm4), (5, .tm tm5), (6, .tm tm6), (7, .tm tm7), (8, .tm tm8), (9, .tm tm9), (10, .tm tm10), (11, .tm tm11), (12, .tm tm12), (13, .tm tm13), (14, .tm tm14), (15, .tm tm15), (16, .tm tm16), (17, .tm tm17), (18, .tm tm18), (19, .tm tm19), (20, .tm tm20), (21, .tm tm21), (22, .tm tm22), (23, .tm tm23), (24, .tm tm24), (25, .tm tm25), (26, .tm tm26), (27, .tm tm27), (28, .tm tm28), (29, .tm tm29), (30, .tm tm30), (31, .tm tm31), (32, .tm tm32), (33, .tm tm33), (34, .tm tm34), (35, .tm tm35), (36, .tm tm36), (37, .tm tm37), (38, .tm tm38), (39, .tm tm39), (40, .tm tm40), (41, .tm tm41), (42, .tm tm42), (43, .tm tm43), (44, .tm tm44), (45, .tm tm45), (46, .tm tm46), (47, .tm tm47), (48, .ext ex48), (49, .tm tm49), (50, .tm tm50), (51, .tm tm51), (52, .tm tm52), (53, .tm tm53), (54, .tm tm54), (55, .tm tm55), (56, .tm tm56), (57, .tm tm57), (58, .tm tm58), (59, .tm tm59), (60, .tm tm60), (61, .tm tm61), (62, .tm tm62)]
theorem ok48 : FnOk Try.prog T (tiTab tiL) sigs 48 sg48 := clone_ent (m := 98) lays48 rfl (by kernel_rfl) Try.sizeOf3 cl48 rfl
theorem ok0 : FnOk Try.prog T (tiTab tiL) sigs 0 sg0 := fnOk_tm (E := ⟨tiTab tiL, sigs, 0, 0, false, false, []⟩) Try.func10 (by kernel_rfl) (tm := tm0) (by kernel_rfl) (by kernel_rfl)
theorem ok1 : FnOk Try.prog T (tiTab tiL) sigs 1 sg1 := fnOk_tm (E := ⟨tiTab tiL, sigs, 0, 0, false, false, []⟩) Try.func57 (by kernel_rfl) (tm := tm1) (by kernel_rfl) (by kernel_rfl)
theorem ok2 : FnOk Try.prog T (tiTab tiL) sigs 2 sg2 := fnOk_tm (E := ⟨tiTab tiL, sigs, 0, 0, false, false, []⟩) Try.func89 (by kernel_rfl) (tm := tm2) (by kernel_rfl) (by kernel_rfl)
theorem ok3 : FnOk Try.prog T (tiTab tiL) sigs 3 sg3 := fnOk_tm (E := ⟨tiTab tiL, sigs, 0, 0, false, false, []⟩) Try.func94 (by kernel_rfl) (tm := tm3) (by kernel_rfl) (by kernel_rfl)
theorem ok4 : FnOk Try.prog T (tiTab tiL) sigs 4 sg4 := fnOk_tm (E := ⟨tiTab tiL, sigs, 0, 0, false, false, []⟩) Try.func130 (by kernel_rfl) (tm := tm4) (by kernel_rfl) (by kernel_rfl)
theorem ok5 : FnOk Try.prog T (tiTab tiL) sigs 5 sg5 := fnOk_tm (E := ⟨tiTab tiL, sigs, 0, 0, false, false, []⟩) Try.func58 (by kernel_rfl) (tm := tm5) (by kernel_rfl) (by kernel_rfl)
theorem ok6 : FnOk Try.prog T (tiTab tiL) sigs 6 sg6 := fnOk_tm (E := ⟨tiTab tiL, sigs, 0, 0, false, false, []⟩) Try.func90 (by kernel_rfl) (tm := tm6) (by kernel_rfl) (by kernel_rfl)
theorem ok7 : FnOk Try.prog T (tiTab tiL) sigs 7 sg7 := fnOk_tm (E := ⟨tiTab tiL, sigs, 0, 0, false, false, []⟩) Try.func103 (by kernel_rfl) (tm := tm7) (by kernel_rfl) (by kernel_rfl)
theorem ok8 : FnOk Try.prog T (tiTab tiL) sigs 8 sg8 := fnOk_tm (E := ⟨tiTab tiL, sigs, 0, 0, false, false, []⟩) Try.func104 (by kernel_rfl) (tm := tm8) (by kernel_rfl) (by kernel_rfl)
theorem ok9 : FnOk Try.prog T (tiTab tiL) sigs 9 sg9 := fnOk_tm (E := ⟨tiTab tiL, sigs, 0, 0, false, false, []⟩) Try.func135 (by kernel_rfl) (tm := tm9) (by kernel_rfl) (by kernel_rfl)
theorem ok10 : FnOk Try.prog T (tiTab tiL) sigs 10 sg10 := fnOk_tm (E := ⟨tiTab tiL, sigs, 0, 0, false, false, []⟩) Try.func28 (by kernel_rfl) (tm := tm10) (by kernel_rfl) (by kernel_rfl)
theorem ok11 : FnOk Try.prog T (tiTab tiL) sigs 11 sg11 := fnOk_tm (E := ⟨tiTab tiL, sigs, 0, 0, false, false, []⟩) Try.func123 (by kernel_rfl) (tm := tm11) (by kernel_rfl) (by kernel_rfl)
theorem ok12 : FnOk Try.prog T (tiTab tiL) sigs 12 sg12 := fnOk_tm (E := ⟨tiTab tiL, sigs, 0, 0, false, false, []⟩) Try.func95 (by kernel_rfl) (tm := tm12) (by kernel_rfl) (by kernel_rfl)
theorem ok13 : FnOk Try.prog T (tiTab tiL) sigs 13 sg13 := fnOk_tm (E := ⟨tiTab tiL, sigs, 0, 0, false, false, []⟩) Try.func96 (by kernel_rfl) (tm := tm13) (by kernel_rfl) (by kernel_rfl)
theorem ok14 : FnOk Try.prog T (tiTab tiL) sigs 14 sg14 := fnOk_tm (E := ⟨tiTab tiL, sigs, 0, 0, false, false, []⟩) Try.func98 (by kernel_rfl) (tm := tm14) (by kernel_rfl) (by kernel_rfl)
theorem ok15 : FnOk Try.prog T (tiTab tiL) sigs 15 sg15 := fnOk_tm (E := ⟨tiTab tiL, sigs, 0, 0, false, false, []⟩) Try.func102 (by kernel_rfl) (tm := tm15) (by kernel_rfl) (by kernel_rfl)
theorem ok16 : FnOk Try.prog T (tiTab tiL) sigs 16 sg16 := fnOk_tm (E := ⟨tiTab tiL, sigs, 0, 0, false, false, []⟩) Try.func101 (by kernel_rfl) (tm := tm16) (by kernel_rfl) (by kernel_rfl)
theorem ok17 : FnOk Try.prog T (tiTab tiL) sigs 17 sg17 := fnOk_tm (E := ⟨tiTab tiL, sigs, 0, 0, false, false, []⟩) Try.func173 (by kernel_rfl) (tm := tm17) (by kernel_rfl) (by kernel_rfl)
theorem ok18 : FnOk Try.prog T (tiTab tiL) sigs 18 sg18 := fnOk_tm (E := ⟨tiTab tiL, sigs, 0, 0, false, false, []⟩) Try.func100 (by kernel_rfl) (tm := tm18) (by kernel_rfl) (by kernel_rfl)
theorem ok19 : FnOk Try.prog T (tiTab tiL) sigs 19 sg19 := fnOk_tm (E := ⟨tiTab tiL, sigs, 0, 0, false, false, []⟩) Try.func172 (by kernel_rfl) (tm := tm19) (by kernel_rfl) (by kernel_rfl)
theorem ok20 : FnOk Try.prog T (tiTab tiL) sigs 20 sg20 := fnOk_tm (E := ⟨tiTab tiL, sigs, 0, 0, false, false, []⟩) Try.func207 (by kernel_rfl) (tm := tm20) (by kernel_rfl) (by kernel_rfl)
theorem ok21 : FnOk Try.prog T (tiTab tiL) sigs 21 sg21 := fnOk_tm (E := ⟨tiTab tiL, sigs, 0, 0, false, false, []⟩) Try.func99 (by kernel_rfl) (tm := tm21) (by kernel_rfl) (by kernel_rfl)
theorem ok22 : FnOk Try.prog T (tiTab tiL) sigs 22 sg22 := fnOk_tm (E := ⟨tiTab tiL, sigs, 0, 0, false, false, []⟩) Try.func171 (by kernel_rfl) (tm := tm22) (by kernel_rfl) (by kernel_rfl)
theorem ok23 : FnOk Try.prog T (tiTab tiL) sigs 23 sg23 := fnOk_tm (E := ⟨tiTab tiL, sigs, 0, 0, false, false, []⟩) Try.func124 (by kernel_rfl) (tm := tm23) (by kernel_rfl) (by kernel_rfl)
theorem ok24 : FnOk Try.prog T (tiTab tiL) sigs 24 sg24 := fnOk_tm (E := ⟨tiTab tiL, sigs, 0, 0, false, false, []⟩) Try.func185 (by kernel_rfl) (tm := tm24) (by kernel_rfl) (by kernel_rfl)
theorem ok25 : FnOk Try.prog T (tiTab tiL) sigs 25 sg25 := fnOk_tm (E := ⟨tiTab tiL, sigs, 0, 0, false, false, []⟩) Try.func210 (by kernel_rfl) (tm := tm25) (by kernel_rfl) (by kernel_rfl)
theorem ok26 : FnOk Try.prog T (tiTab tiL) sigs 26 sg26 := fnOk_tm (E := ⟨tiTab tiL, sigs, 0, 0, false, false, []⟩) Try.func181 (by kernel_rfl) (tm := tm26) (by kernel_rfl) (by kernel_rfl)
theorem ok27 : FnOk Try.prog T (tiTab tiL) sigs 27 sg27 := fnOk_tm (E := ⟨tiTab tiL, sigs, 0, 0, false, false, []⟩) Try.func209 (by kernel_rfl) (tm := tm27) (by kernel_rfl) (by kernel_rfl)
theorem ok28 : FnOk Try.prog T (tiTab tiL) sigs 28 sg28 := fnOk_tm (E := ⟨tiTab tiL, sigs, 0, 0, false, false, []⟩) Try.func27 (by kernel_rfl) (tm := tm28) (by kernel_rfl) (by kernel_rfl)
theorem ok29 : FnOk Try.prog T (tiTab tiL) sigs 29 sg29 := fnOk_tm (E := ⟨tiTab tiL, sigs, 0, 0, false, false, []⟩) Try.func118 (by kernel_rfl) (tm := tm29) (by kernel_rfl) (by kernel_rfl)
theorem ok30 : FnOk Try.prog T (tiTab tiL) sigs 30 sg30 := fnOk_tm (E := ⟨tiTab tiL, sigs, 0, 0, false, false, []⟩) Try.func119 (by kernel_rfl) (tm := tm30) (by kernel_rfl) (by kernel_rfl)
theorem ok31 : FnOk Try.prog T (tiTab tiL) sigs 31 sg31 := fnOk_tm (E := ⟨tiTab tiL, sigs, 0, 0, false, false, []⟩) Try.func120 (by kernel_rfl) (tm := tm31) (by kernel_rfl) (by kernel_rfl)
theorem ok32 : FnOk Try.prog T (tiTab tiL) sigs 32 sg32 := fnOk_tm (E := ⟨tiTab tiL, sigs, 0, 0, false, false, []⟩) Try.func182 (by kernel_rfl) (tm := tm32) (by kernel_rfl) (by kernel_rfl)
theorem ok33 : FnOk Try.prog T (tiTab tiL) sigs 33 sg33 := fnOk_tm (E := ⟨tiTab tiL, sigs, 0, 0, false, false, []⟩) Try.func121 (by kernel_rfl) (tm := tm33) (by kernel_rfl) (by kernel_rfl)
theorem ok34 : FnOk Try.prog T (tiTab tiL) sigs 34 sg34 := fnOk_tm (E := ⟨tiTab tiL, sigs, 0, 0, false, false, []⟩) Try.func107 (by kernel_rfl) (tm := tm34) (by kernel_rfl) (by kernel_rfl)
theorem ok35 : FnOk Try.prog T (tiTab tiL) sigs 35 sg35 := fnOk_tm (E := ⟨tiTab tiL, sigs, 0, 0, false, false, []⟩) Try.func105 (by kernel_rfl) (tm := tm35) (by kernel_rfl) (by kernel_rfl)
theorem ok36 : FnOk Try.prog T (tiTab tiL) sigs 36 sg36 := fnOk_tm (E := ⟨tiTab tiL, sigs, 0, 0, false, false, []⟩) Try.func109 (by kernel_rfl) (tm := tm36) (by kernel_rfl) (by kernel_rfl)
theorem ok37 : FnOk Try.prog T (tiTab tiL) sigs 37 sg37 := fnOk_tm (E := ⟨tiTab tiL, sigs, 0, 0, false, false, []⟩) Try.func175 (by kernel_rfl) (tm := tm37) (by kernel_rfl) (by kernel_rfl)
theorem ok38 : FnOk Try.prog T (tiTab tiL) sigs 38 sg38 := fnOk_tm (E := ⟨tiTab tiL, sigs, 0, 0, false, false, []⟩) Try.func110 (by kernel_rfl) (tm := tm38) (by kernel_rfl) (by kernel_rfl)
theorem ok39 : FnOk Try.prog T (tiTab tiL) sigs 39 sg39 := fnOk_tm (E := ⟨tiTab tiL, sigs, 0, 0, false, false, []⟩) Try.func176 (by kernel_rfl) (tm := tm39) (by kernel_rfl) (by kernel_rfl)
theorem ok40 : FnOk Try.prog T (tiTab tiL) sigs 40 sg40 := fnOk_tm (E := ⟨tiTab tiL, sigs, 0, 0, false, false, []⟩) Try.func208 (by kernel_rfl) (tm := tm40) (by kernel_rfl) (by kernel_rfl)
theorem ok41 : FnOk Try.prog T (tiTab tiL) sigs 41 sg41 := fnOk_tm (E := ⟨tiTab tiL, sigs, 0, 0, false, false, []⟩) Try.func177 (by kernel_rfl) (tm := tm41) (by kernel_rfl) (by kernel_rfl)
theorem ok42 : FnOk Try.prog T (tiTab tiL) sigs 42 sg42 := fnOk_tm (E := ⟨tiTab tiL, sigs, 0, 0, false, false, []⟩) Try.func112 (by kernel_rfl) (tm := tm42) (by kernel_rfl) (by kernel_rfl)
theorem ok43 : FnOk Try.prog T (tiTab tiL) sigs 43 sg43 := fnOk_tm (E := ⟨tiTab tiL, sigs, 0, 0, false, false, []⟩) Try.func111 (by kernel_rfl) (tm := tm43) (by kernel_rfl) (by kernel_rfl)
theorem ok44 : FnOk Try.prog T (tiTab tiL) sigs 44 sg44 := fnOk_tm (E := ⟨tiTab tiL, sigs, 0, 0, false, false, []⟩) Try.func178 (by kernel_rfl) (tm := tm44) (by kernel_rfl) (by kernel_rfl)
theorem ok45 : FnOk Try.prog T (tiTab tiL) sigs 45 sg45 := fnOk_tm (E := ⟨tiTab tiL, sigs, 0, 0, false, false, []⟩) Try.func122 (by kernel_rfl) (tm := tm45) (by kernel_rfl) (by kernel_rfl)
theorem ok46 : FnOk Try.prog T (tiTab tiL) sigs 46 sg46 := fnOk_tm (E := ⟨tiTab tiL, sigs, 0, 0, false, false, []⟩) Try.func183 (by kernel_rfl) (tm := tm46) (by kernel_rfl) (by kernel_rfl)
theorem ok47 : FnOk Try.prog T (tiTab tiL) sigs 47 sg47 := fnOk_tm (E := ⟨tiTab tiL, sigs, 0, 0, false, false, []⟩) Try.func174 (by kernel_rfl) (tm := tm47) (by kernel_rfl) (by kernel_rfl)
theorem ok49 : FnOk Try.prog T (tiTab tiL) sigs 49 sg49 := fnOk_tm (E := ⟨tiTab tiL, sigs, 0, 0, false, false, []⟩) Try.func120 (by kernel_rfl) (tm := tm49) (by kernel_rfl) (by kernel_rfl)
theorem ok50 : FnOk Try.prog T (tiTab tiL) sigs 50 sg50 := fnOk_tm (E := ⟨tiTab tiL, sigs, 0, 0, false, false, []⟩) Try.func182 (by kernel_rfl) (tm := tm50) (by kernel_rfl) (by kernel_rfl)
theorem ok51 : FnOk Try.prog T (tiTab tiL) sigs 51 sg51 := fnOk_tm (E := ⟨tiTab tiL, sigs, 0, 0, false, false, []⟩) Try.func184 (by kernel_rfl) (tm := tm51) (by kernel_rfl) (by kernel_rfl)
theorem ok52 : FnOk Try.prog T (tiTab tiL) sigs 52 sg52 := fnOk_tm (E := ⟨tiTab tiL, sigs, 0, 0, false, false, []⟩) Try.func126 (by kernel_rfl) (tm := tm52) (by kernel_rfl) (by kernel_rfl)
theorem ok53 : FnOk Try.prog T (tiTab tiL) sigs 53 sg53 := fnOk_tm (E := ⟨tiTab tiL, sigs, 0, 0, false, false, []⟩) Try.func59 (by kernel_rfl) (tm := tm53) (by kernel_rfl) (by kernel_rfl)
theorem ok54 : FnOk Try.prog T (tiTab tiL) sigs 54 sg54 := fnOk_tm (E := ⟨tiTab tiL, sigs, 0, 0, false, false, []⟩) Try.func60 (by kernel_rfl) (tm := tm54) (by kernel_rfl) (by kernel_rfl)
theorem ok55 : FnOk Try.prog T (tiTab tiL) sigs 55 sg55 := fnOk_tm (E := ⟨tiTab tiL, sigs, 0, 0, false, false, []⟩) Try.func52 (by kernel_rfl) (tm := tm55) (by kernel_rfl) (by kernel_rfl)
theorem ok56 : FnOk Try.prog T (tiTab tiL) sigs 56 sg56 := fnOk_tm (E := ⟨tiTab tiL, sigs, 0, 0, false, false, []⟩) Try.func61 (by kernel_rfl) (tm := tm56) (by kernel_rfl) (by kernel_rfl)
theorem ok57 : FnOk Try.prog T (tiTab tiL) sigs 57 sg57 := fnOk_tm (E := ⟨tiTab tiL, sigs, 0, 0, false, false, []⟩) Try.func67 (by kernel_rfl) (tm := tm57) (by kernel_rfl) (by kernel_rfl)
theorem ok58 : FnOk Try.prog T (tiTab tiL) sigs 58 sg58 := fnOk_tm (E := ⟨tiTab tiL, sigs, 0, 0, false, false, []⟩) Try.func62 (by kernel_rfl) (tm := tm58) (by kernel_rfl) (by kernel_rfl)
theorem ok59 : FnOk Try.prog T (tiTab tiL) sigs 59 sg59 := fnOk_tm (E := ⟨tiTab tiL, sigs, 0, 0, false, false, []⟩) Try.func54 (by kernel_rfl) (tm := tm59) (by kernel_rfl) (by kernel_rfl)
theorem ok60 : FnOk Try.prog T (tiTab tiL) sigs 60 sg60 := fnOk_tm (E := ⟨tiTab tiL, sigs, 0, 0, false, false, []⟩) Try.func63 (by kernel_rfl) (tm := tm60) (by kernel_rfl) (by kernel_rfl)
theorem ok61 : FnOk Try.prog T (tiTab tiL) sigs 61 sg61 := fnOk_tm (E := ⟨tiTab tiL, sigs, 0, 0, false, false, []⟩) Try.func64 (by kernel_rfl) (tm := tm61) (by kernel_rfl) (by kernel_rfl)
theorem ok62 : FnOk Try.prog T (tiTab tiL) sigs 62 sg62 := fnOk_tm (E := ⟨tiTab tiL, sigs, 0, 0, false, false, []⟩) Try.func56 (by kernel_rfl) (tm := tm62) (by kernel_rfl) (by kernel_rfl)
theorem fns_ok : ∀ key s, (key, s) ∈ sigs → FnOk Try.prog T (tiTab tiL) sigs key s := fnOk_all (List.forall_mem_cons.2 ⟨ok0, List.forall_mem_cons.2 ⟨ok1, List.forall_mem_cons.2 ⟨ok2, List.forall_mem_cons.2 ⟨ok3, List.forall_mem_cons.2 ⟨ok4, List.forall_mem_cons.2 ⟨ok5, List.forall_mem_cons.2 ⟨ok6, List.forall_mem_cons.2 ⟨ok7, List.forall_mem_cons.2 ⟨ok8, List.forall_mem_cons.2 ⟨ok9, List.forall_mem_cons.2 ⟨ok10, List.forall_mem_cons.2 ⟨ok11, List.forall_mem_cons.2 ⟨ok12, List.forall_mem_cons.2 ⟨ok13, List.forall_mem_cons.2 ⟨ok14, List.forall_mem_cons.2 ⟨ok15, List.forall_mem_cons.2 ⟨ok16, List.forall_mem_cons.2 ⟨ok17, List.forall_mem_cons.2 ⟨ok18, List.forall_mem_cons.2 ⟨ok19, List.forall_mem_cons.2 ⟨ok20, List.forall_mem_cons.2 ⟨ok21, List.forall_mem_cons.2 ⟨ok22, List.forall_mem_cons.2 ⟨ok23, List.forall_mem_cons.2 ⟨ok24, List.forall_mem_cons.2 ⟨ok25, List.forall_mem_cons.2 ⟨ok26, List.forall_mem_cons.2 ⟨ok27, List.forall_mem_cons.2 ⟨ok28, List.forall_mem_cons.2 ⟨ok29, List.forall_mem_cons.2 ⟨ok30, List.forall_mem_cons.2 ⟨ok31, List.forall_mem_cons.2 ⟨ok32, List.forall_mem_cons.2 ⟨ok33, List.forall_mem_cons.2 ⟨ok34, List.forall_mem_cons.2 ⟨ok35, List.forall_mem_cons.2 ⟨ok36, List.forall_mem_cons.2 ⟨ok37, List.forall_mem_cons.2 ⟨ok38, List.forall_mem_cons.2 ⟨ok39, List.forall_mem_cons.2 ⟨ok40, List.forall_mem_cons.2 ⟨ok41, List.forall_mem_cons.2 ⟨ok42, List.forall_mem_cons.2 ⟨ok43, List.forall_mem_cons.2 ⟨ok44, List.forall_mem_cons.2 ⟨ok45, List.forall_mem_cons.2 ⟨ok46, List.forall_mem_cons.2 ⟨ok47, List.forall_mem_cons.2 ⟨ok48, List.forall_mem_cons.2 ⟨ok49, List.forall_mem_cons.2 ⟨ok50, List.forall_mem_cons.2 ⟨ok51, List.forall_mem_cons.2 ⟨ok52, List.forall_mem_cons.2 ⟨ok53, List.forall_mem_cons.2 ⟨ok54, List.forall_mem_cons.2 ⟨ok55, List.forall_mem_cons.2 ⟨ok56, List.forall_mem_cons.2 ⟨ok57, List.forall_mem_cons.2 ⟨ok58, List.forall_mem_cons.2 ⟨ok59, List.forall_mem_cons.2 ⟨ok60, List.forall_mem_cons.2 ⟨ok61, List.forall_mem_cons.2 ⟨ok62, List.forall_mem_nil _⟩⟩⟩⟩⟩⟩⟩⟩⟩⟩⟩⟩⟩⟩⟩⟩⟩⟩⟩⟩⟩⟩⟩⟩⟩⟩⟩⟩⟩⟩⟩⟩⟩⟩⟩⟩⟩⟩⟩⟩⟩⟩⟩⟩⟩⟩⟩⟩⟩⟩⟩⟩⟩⟩⟩⟩⟩⟩⟩⟩⟩⟩⟩)
theorem contract : ∀ n, Contract Try.prog T n 0 sg0 := fun n => contracts tiL_ok (by kernel_rfl) fns_ok n 0 sg0 (by simp [sigs])
theorem T_eq : (T 0 = .tm tm0 ∧ T 1 = .tm tm1 ∧ T 2 = .tm tm2 ∧ T 3 = .tm tm3 ∧ T 4 = .tm tm4 ∧ T 5 = .tm tm5 ∧ T 6 = .tm tm6 ∧ T 7 = .tm tm7 ∧ T 8 = .tm tm8 ∧ T 9 = .tm tm9 ∧ T 10 = .tm tm10 ∧ T 11 = .tm tm11 ∧ T 12 = .tm tm12 ∧ T 13 = .tm tm13 ∧ T 14 = .tm tm14 ∧ T 15 = .tm tm15 ∧ T 16 = .tm tm16 ∧ T 17 = .tm tm17 ∧ T 18 = .tm tm18 ∧ T 19 = .tm tm19 ∧ T 20 = .tm tm20 ∧ T 21 = .tm tm21 ∧ T 22 = .tm tm22 ∧ T 23 = .tm tm23 ∧ T 24 = .tm tm24 ∧ T 25 = .tm tm25 ∧ T 26 = .tm tm26 ∧ T 27 = .tm tm27 ∧ T 28 = .tm tm28 ∧ T 29 = .tm tm29 ∧ T 30 = .tm tm30 ∧ T 31 = .tm tm31 ∧ T 32 = .tm tm32 ∧ T 33 = .tm tm33 ∧ T 34 = .tm tm34 ∧ T 35 = .tm tm35 ∧ T 36 = .tm tm36 ∧ T 37 = .tm tm37 ∧ T 38 = .tm tm38 ∧ T 39 = .tm tm39 ∧ T 40 = .tm tm40 ∧ T 41 = .tm tm41 ∧ T 42 = .tm tm42 ∧ T 43 = .tm tm43 ∧ T 44 = .tm tm44 ∧ T 45 = .tm tm45 ∧ T 46 = .tm tm46 ∧ T 47 = .tm tm47 ∧ T 48 = .ext ex48 ∧ T 49 = .tm tm49 ∧ T 50 = .tm tm50 ∧ T 51 = .tm tm51 ∧ T 52 = .tm tm52 ∧ T 53 = .tm tm53 ∧ T 54 = .tm tm54 ∧ T 55 = .tm tm55 ∧ T 56 = .tm tm56 ∧ T 57 = .tm tm57 ∧ T 58 = .tm tm58 ∧ T 59 = .tm tm59 ∧ T 60 = .tm tm60 ∧ T 61 = .tm tm61 ∧ T 62 = .tm tm62) := ⟨rfl, rfl, rfl, rfl, rfl, rfl, rfl, rfl, rfl, rfl, rfl, rfl, rfl, rfl, rfl, rfl, rfl, rfl, rfl, rfl, rfl, rfl, rfl, rfl, rfl, rfl, rfl, rfl, rfl, rfl, rfl, rfl, rfl, rfl, rfl, rfl, rfl, rfl, rfl, rfl, rfl, rfl, rfl, rfl, rfl, rfl, rfl, rfl, rfl, rfl, rfl, rfl, rfl, rfl, rfl, rfl, rfl, rfl, rfl, rfl, rfl, rfl, rfl⟩
end FnExactChooseOf
end Go.Proofs.Ytacfmplofkjonaa
