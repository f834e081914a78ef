/- The terms of the functions that FnOnce reaches (printed by the author's own program). -/
import Derived.Test.YtjoebpmeeampfaaChecked
import Derived.Test.YtjoebpmeeampfaaRf8
import Derived.KernelRfl
namespace Go.Proofs.Ytjoebpmeeampfaa
namespace FnOnce
open Go Go.Proofs.Ytjoebpmeeampfaa.Rf
set_option maxRecDepth 100000

def t3 : TI := ⟨false, 1, 8, [.sc (.int .i64 0)], [], none, (some .i64), false, false, false, false⟩
theorem ti3 : tiOf Try.prog 3 = some t3 := by kernel_rfl
def t4 : TI := ⟨false, 1, 1, [.sc (.bool false)], [], none, none, true, false, false, false⟩
theorem ti4 : tiOf Try.prog 4 = some t4 := by kernel_rfl
def t5 : TI := ⟨false, 1, 1, [.sc (.int .u8 0)], [], none, (some .u8), false, false, false, false⟩
theorem ti5 : tiOf Try.prog 5 = some t5 := by kernel_rfl
def t22 : TI := ⟨false, 1, 24, [.sl 1], [], (some 3), none, false, false, false, false⟩
theorem ti22 : tiOf Try.prog 22 = some t22 := by kernel_rfl
def t23 : TI := ⟨false, 1, 24, [.sl 2], [], (some 57), none, false, false, false, false⟩
theorem ti23 : tiOf Try.prog 23 = some t23 := by kernel_rfl
def t25 : TI := ⟨true, 3, 72, [.sl 1, .sl 1, .sl 2], [(0, 22), (1, 22), (2, 23)], none, none, false, false, false, false⟩
theorem ti25 : tiOf Try.prog 25 = some t25 := by kernel_rfl
def t32 : TI := ⟨false, 1, 24, [.sl 7], [], (some 53), none, false, false, false, false⟩
theorem ti32 : tiOf Try.prog 32 = some t32 := by kernel_rfl
def t45 : TI := ⟨false, 1, 24, [.sl 1], [], (some 5), none, false, false, false, false⟩
theorem ti45 : tiOf Try.prog 45 = some t45 := by kernel_rfl
def t49 : TI := ⟨false, 1, 24, [.sl 5], [], (some 51), none, false, false, false, false⟩
theorem ti49 : tiOf Try.prog 49 = some t49 := by kernel_rfl
def t51 : TI := ⟨true, 5, 40, [.sc (.int .i64 0), .sc (.int .i64 0), .sc (.int .i64 0), .sc (.int .i64 0), .sc (.int .i64 0)], [(0, 3), (1, 3), (2, 3), (3, 3), (4, 3)], none, none, false, false, false, true⟩
theorem ti51 : tiOf Try.prog 51 = some t51 := by kernel_rfl
def t53 : TI := ⟨true, 7, 56, [.sc (.int .i64 0), .sc (.int .i64 0), .sc (.int .i64 0), .sc (.int .i64 0), .sc (.int .i64 0), .sc (.int .i64 0), .sc (.int .i64 0)], [(0, 3), (1, 3), (2, 51)], none, none, false, false, false, true⟩
theorem ti53 : tiOf Try.prog 53 = some t53 := by kernel_rfl
def t57 : TI := ⟨true, 2, 16, [.sc (.int .i64 0), .sc (.int .i64 0)], [(0, 3), (1, 3)], none, none, false, false, false, true⟩
theorem ti57 : tiOf Try.prog 57 = some t57 := by kernel_rfl
def t116 : TI := ⟨false, 1, 8, [.sc (.int .u64 0)], [], none, (some .u64), false, false, false, false⟩
theorem ti116 : tiOf Try.prog 116 = some t116 := by kernel_rfl
def t118 : TI := ⟨true, 3, 40, [.sl 1, .sc (.int .i64 0), .sc (.int .u64 0)], [(0, 45), (1, 3), (2, 116)], none, none, false, false, false, false⟩
theorem ti118 : tiOf Try.prog 118 = some t118 := by kernel_rfl
def tiL : List (Nat × TI) := [(3, t3), (4, t4), (5, t5), (22, t22), (23, t23), (25, t25), (32, t32), (45, t45), (49, t49), (51, t51), (53, t53), (57, t57), (116, t116), (118, t118)]
theorem tiL_ok : TiOk Try.prog (tiTab tiL) := tiTab_ok (l := tiL) (fc ti3 <| fc ti4 <| fc ti5 <| fc ti22 <| fc ti23 <| fc ti25 <| fc ti32 <| fc ti45 <| fc ti49 <| fc ti51 <| fc ti53 <| fc ti57 <| fc ti116 <| fc ti118 <| fc0)

def sg0 : Sig := ⟨6, [(false, [.fz false]), (false, [.fz false])], [], [(false, [.sc])]⟩
def sg1 : Sig := ⟨29, [(false, [.fz false]), (false, [.fz false])], [], [(false, [.sc])]⟩
def sg2 : Sig := ⟨30, [(false, [.fz false])], [], [(false, [.ow 99])]⟩
def sg3 : Sig := ⟨79, [(false, [.px 0])], [(false, [(.fz false, .fz), (.sc, .sc), (.sc, .sc)])], [(false, [.ow 99])]⟩
def sg4 : Sig := ⟨89, [(false, [.px 0]), (false, [.sc])], [(false, [(.fz false, .fz), (.sc, .sc), (.sc, .sc)])], [(false, [.sc])]⟩
def sg5 : Sig := ⟨150, [(false, [.px 0])], [(false, [(.fz false, .fz), (.sc, .sc), (.sc, .sc)])], [(false, [.sc])]⟩
def sg6 : Sig := ⟨91, [(false, [.px 0]), (false, [.sc])], [(false, [(.fz false, .fz), (.sc, .sc), (.sc, .sc)])], [(false, [.sc])]⟩
def sg7 : Sig := ⟨142, [(false, [.px 0])], [(false, [(.fz false, .fz), (.sc, .sc), (.sc, .sc)])], [(true, [.sc, .sc, .sc, .sc, .sc])]⟩
def sg8 : Sig := ⟨99, [(false, [.px 0]), (false, [.fz false])], [(false, [(.fz false, .fz), (.sc, .sc), (.sc, .sc)])], [(false, [.sc])]⟩
def sg9 : Sig := ⟨22, [(false, [.fz false])], [], [(true, [.ow 99, .ow 99, .ow 99]), (false, [.ow 99]), (false, [.ow 99]), (false, [.sc])]⟩
def sg10 : Sig := ⟨74, [(false, [.fz false]), (false, [.clo 75 []])], [], [(false, [.sc])]⟩
def sg11 : Sig := ⟨139, [(false, [.fz false]), (false, [.clo 75 []])], [], [(false, [.sc])]⟩
def sg12 : Sig := ⟨75, [(true, [.sc, .sc, .sc, .sc, .sc, .sc, .sc])], [], [(false, [.sc])]⟩
def sg13 : Sig := ⟨76, [(true, [.sc, .sc, .sc, .sc, .sc, .sc, .sc])], [], [(false, [.sc])]⟩
def sg14 : Sig := ⟨83, [(false, [.sc]), (false, [.sc]), (false, [.sc])], [], [(false, [.sc])]⟩
def sg15 : Sig := ⟨140, [(true, [.sc, .sc, .sc, .sc, .sc])], [], [(false, [.sc])]⟩
def sg16 : Sig := ⟨174, [(false, [.sc])], [], [(false, [.sc])]⟩
def sg17 : Sig := ⟨10, [], [], [(true, [.ow 99, .ow 99, .ow 99])]⟩
def sg18 : Sig := ⟨69, [], [], [(false, [.ow 99])]⟩
def sg19 : Sig := ⟨136, [(false, [.fz false]), (false, [.sc])], [], [(false, [.ow 99])]⟩
def sg22 : Sig := ⟨77, [(false, [.px 0]), (true, [.sc, .sc, .sc, .sc, .sc, .sc, .sc])], [(false, [(.ow 99, .ow 99), (.ow 99, .ow 99), (.ow 99, .ow 99)])], [(true, [.sc, .sc]), (false, [.sc])]⟩
def sg23 : Sig := ⟨141, [(false, [.mu 1]), (true, [.sc, .sc, .sc, .sc, .sc])], [], [(true, [.sc, .sc])]⟩
def sg24 : Sig := ⟨21, [(false, [.fz false])], [], [(true, [.ow 99, .ow 99, .ow 99]), (false, [.ow 99]), (false, [.ow 99]), (false, [.sc])]⟩
def sg25 : Sig := ⟨70, [(false, [.fz false])], [], [(false, [.sc])]⟩
def sg26 : Sig := ⟨92, [(true, [.sc, .sc, .sc, .sc, .sc, .sc, .sc])], [], [(false, [.sc])]⟩
def sg27 : Sig := ⟨109, [(false, [.sc]), (false, [.sc]), (false, [.sc])], [], [(false, [.sc])]⟩
def sg28 : Sig := ⟨151, [(true, [.sc, .sc, .sc, .sc, .sc])], [], [(false, [.sc])]⟩
def sg29 : Sig := ⟨177, [(true, [.sc, .sc, .sc, .sc, .sc])], [], [(false, [.sc])]⟩
def sg30 : Sig := ⟨181, [(false, [.sc])], [], [(false, [.sc])]⟩
def sg31 : Sig := ⟨71, [(false, [.fz false])], [], [(true, [.ow 99, .ow 99, .ow 99]), (false, [.ow 99]), (false, [.ow 99])]⟩
def sg32 : Sig := ⟨9, [], [], [(true, [.ow 99, .ow 99, .ow 99])]⟩
def sg33 : Sig := ⟨68, [], [], [(false, [.ow 99])]⟩
def sg34 : Sig := ⟨93, [(true, [.fz false, .fz false, .fz false]), (true, [.sc, .sc, .sc, .sc, .sc, .sc, .sc])], [], [(true, [.ow 99, .ow 99, .ow 99]), (true, [.sc, .sc]), (false, [.sc])]⟩
def sg35 : Sig := ⟨94, [(true, [.fz false, .fz false, .fz false])], [], [(true, [.ow 99, .ow 99, .ow 99])]⟩
def sg36 : Sig := ⟨153, [(false, [.fz false])], [], [(false, [.ow 99])]⟩
def sg37 : Sig := ⟨152, [(false, [.fz false]), (true, [.sc, .sc, .sc, .sc, .sc])], [], [(false, [.ow 99]), (true, [.sc, .sc])]⟩
def sg38 : Sig := ⟨17, [(false, [.fz false])], [], [(false, [.ow 99]), (false, [.sc])]⟩
def sg39 : Sig := ⟨15, [(false, [.fz false])], [], [(false, [.ow 99]), (false, [.sc])]⟩
def sg40 : Sig := ⟨31, [(true, [.fz false, .fz false, .fz false]), (true, [.fz false, .fz false, .fz false])], [], [(false, [.sc])]⟩
def sg41 : Sig := ⟨33, [(false, [.fz false]), (false, [.fz false])], [], [(false, [.sc])]⟩
def sg42 : Sig := ⟨32, [(false, [.fz false]), (false, [.fz false])], [], [(false, [.sc])]⟩
def sg43 : Sig := ⟨34, [(true, [.fz false, .fz false, .fz false]), (true, [.fz false, .fz false, .fz false])], [], [(false, [.sc])]⟩
def sg44 : Sig := ⟨80, [(false, [.fz false]), (false, [.fz false])], [], [(false, [.sc])]⟩
def sg45 : Sig := ⟨81, [(false, [.fz false]), (false, [.fz false])], [], [(false, [.sc])]⟩
def sg46 : Sig := ⟨35, [(true, [.fz false, .fz false, .fz false])], [], [(false, [.sc])]⟩
def sg47 : Sig := ⟨82, [(false, [.fz false])], [], [(false, [.sc])]⟩
def sg48 : Sig := ⟨143, [(false, [.fz false]), (false, [.clo 144 []])], [], [(false, [.sc])]⟩
def sg49 : Sig := ⟨175, [(false, [.fz false]), (false, [.clo 144 []])], [], [(false, [.sc])]⟩
def sg50 : Sig := ⟨144, [(false, [.sc])], [], [(false, [.sc])]⟩
def sg51 : Sig := ⟨145, [(false, [.fz false])], [], [(false, [.sc])]⟩
def sg52 : Sig := ⟨84, [(true, [.sc, .sc])], [], [(false, [.sc])]⟩
def sg53 : Sig := ⟨36, [(false, [.fz false])], [], [(false, [.ow 99]), (false, [.ow 99]), (false, [.sc])]⟩
def sg54 : Sig := ⟨85, [(false, [.fz false])], [], [(false, [.sc])]⟩
def sg55 : Sig := ⟨146, [(false, [.fz false]), (false, [.clo 147 []])], [], [(false, [.sc])]⟩
def sg56 : Sig := ⟨176, [(false, [.fz false]), (false, [.clo 147 []])], [], [(false, [.sc])]⟩
def sg57 : Sig := ⟨147, [(true, [.sc, .sc, .sc, .sc, .sc])], [], [(false, [.sc])]⟩
def sg58 : Sig := ⟨86, [(false, [.fz false])], [], [(false, [.ow 99]), (false, [.ow 99])]⟩
def sg59 : Sig := ⟨37, [(true, [.fz false, .fz false, .fz false]), (true, [.sc, .sc, .sc, .sc, .sc, .sc, .sc])], [], [(true, [.ow 99, .ow 99, .ow 99]), (true, [.sc, .sc]), (false, [.sc]), (false, [.sc])]⟩
def sg60 : Sig := ⟨87, [(true, [.fz false, .fz false, .fz false])], [], [(true, [.ow 99, .ow 99, .ow 99])]⟩
def sg61 : Sig := ⟨148, [(false, [.fz false])], [], [(false, [.ow 99])]⟩
def sg62 : Sig := ⟨149, [(false, [.fz false])], [], [(false, [.ow 99])]⟩
def sg63 : Sig := ⟨38, [(false, [.fz false])], [], [(true, [.ow 99, .ow 99, .ow 99]), (true, [.sc, .sc, .sc, .sc, .sc, .sc, .sc])]⟩
def sg64 : Sig := ⟨88, [(false, [.px 0])], [(false, [(.fz false, .fz), (.sc, .sc), (.sc, .sc)])], [(true, [.ow 99, .ow 99, .ow 99])]⟩
def sg65 : Sig := ⟨90, [(false, [.px 0])], [(false, [(.fz false, .fz), (.sc, .sc), (.sc, .sc)])], [(true, [.sc, .sc, .sc, .sc, .sc])]⟩
def sg66 : Sig := ⟨39, [(true, [.fz false, .fz false, .fz false]), (true, [.sc, .sc, .sc, .sc, .sc, .sc, .sc])], [], [(true, [.ow 99, .ow 99, .ow 99]), (true, [.sc, .sc]), (false, [.sc]), (false, [.sc])]⟩
def sg67 : Sig := ⟨42, [(true, [.fz false, .fz false, .fz false])], [], [(false, [.sc])]⟩
def sg68 : Sig := ⟨96, [(false, [.fz false])], [], [(false, [.sc])]⟩
def sg69 : Sig := ⟨97, [(false, [.fz false]), (false, [.sc]), (false, [.sc])], [], [(false, [.sc])]⟩
def sg70 : Sig := ⟨98, [(true, [.sc, .sc])], [], [(false, [.sc])]⟩
def sg71 : Sig := ⟨40, [(false, [.fz false])], [], [(true, [.ow 99, .ow 99, .ow 99]), (true, [.ow 99, .ow 99, .ow 99])]⟩
def sg72 : Sig := ⟨41, [(true, [.fz false, .fz false, .fz false]), (true, [.fz false, .fz false, .fz false])], [], [(false, [.sc])]⟩
def sg73 : Sig := ⟨95, [(false, [.fz false]), (false, [.fz false])], [], [(false, [.sc])]⟩
def sigs : List (Nat × Sig) := [(0, sg0), (1, sg1), (2, sg2), (3, sg3), (4, sg4), (5, sg5), (6, sg6), (7, sg7), (8, sg8), (9, sg9), (10, sg10), (11, sg11), (12, sg12), (13, sg13), (14, sg14), (15, sg15), (16, sg16), (17, sg17), (18, sg18), (19, sg19), (22, sg22), (23, sg23), (24, sg24), (25, sg25), (26, sg26), (27, sg27), (28, sg28), (29, sg29), (30, sg30), (31, sg31), (32, sg32), (33, sg33), (34, sg34), (35, sg35), (36, sg36), (37, sg37), (38, sg38), (39, sg39), (40, sg40), (41, sg41), (42, sg42), (43, sg43), (44, sg44), (45, sg45), (46, sg46), (47, sg47), (48, sg48), (49, sg49), (50, sg50), (51, sg51), (52, sg52), (53, sg53), (54, sg54), (55, sg55), (56, sg56), (57, sg57), (58, sg58), (59, sg59), (60, sg60), (61, sg61), (62, sg62), (63, sg63), (64, sg64), (65, sg65), (66, sg66), (67, sg67), (68, sg68), (69, sg69), (70, sg70), (71, sg71), (72, sg72), (73, sg73)]
abbrev E0 : Env := ⟨tiTab tiL, sigs, 0, 0, false, false, [], []⟩

/-- laws.FnOnce -/
def tm0 : Tm Unit :=
  (.call none 1 [.v 0, .v 1] 1 [] <|
  (.ite (.v 2)
   (.leaf .ret [.c (.bool true)] ())
   (.call none 2 [.v 0] 1 [] <|
   (.call none 9 [.v 3] 6 [] <|
   (.lt none (.dep 99) [.v 4] 0 <|
   (.lt none (.dep 99) [.v 5] 0 <|
   (.lt none (.dep 99) [.v 6] 0 <|
   (.lt none (.dep 99) [.v 7] 0 <|
   (.lt none (.dep 99) [.v 8] 0 <|
   (.call none 24 [.v 3] 6 [] <|
   (.lt none (.dep 99) [.v 10] 0 <|
   (.lt none (.dep 99) [.v 11] 0 <|
   (.lt none (.dep 99) [.v 12] 0 <|
   (.lt none (.dep 99) [.v 13] 0 <|
   (.lt none (.dep 99) [.v 14] 0 <|
   (.call none 38 [.v 3] 2 [] <|
   (.lt none (.dep 99) [.v 16] 0 <|
   (.call none 39 [.v 3] 2 [] <|
   (.lt none (.dep 99) [.v 18] 0 <|
   (.lt none (.eqb true) [.v 9, .v 15] 1 <|
   (.call (some (.v 20, false)) 40 [.v 4, .v 5, .v 6, .v 10, .v 11, .v 12] 1 [] <|
   (.lt (some (.v 20, false)) .not [.v 21] 1 <|
   (.lt none .pick [.v 20, .c (.bool true), .v 22] 1 <|
   (.call (some (.v 23, false)) 42 [.v 7, .v 13] 1 [] <|
   (.lt (some (.v 23, false)) .not [.v 24] 1 <|
   (.lt none .pick [.v 23, .c (.bool true), .v 25] 1 <|
   (.call (some (.v 26, false)) 41 [.v 8, .v 14] 1 [] <|
   (.lt (some (.v 26, false)) .not [.v 27] 1 <|
   (.lt none .pick [.v 26, .c (.bool true), .v 28] 1 <|
   (.lt (some (.v 29, false)) .id [.v 17] 1 <|
   (.lt (some (.v 29, false)) .id [.v 19] 1 <|
   (.lt (some (.v 29, false)) (.eqb true) [.v 30, .v 31] 1 <|
   (.lt none .pick [.v 29, .c (.bool true), .v 32] 1 <|
   (.lt (some (.v 33, false)) .len [.v 16] 1 <|
   (.lt (some (.v 33, false)) .len [.v 18] 1 <|
   (.lt (some (.v 33, false)) (.bin .neq) [.v 34, .v 35] 1 <|
   (.lt none .pick [.v 33, .c (.bool true), .v 36] 1 <|
   (.ite (.v 37)
    (.leaf .ret [.c (.bool false)] ())
    (.bind 0
     (.ite (.v 9)
      (.call none 9 [.v 16] 6 [] <|
      (.lt none (.dep 99) [.v 38] 0 <|
      (.lt none (.dep 99) [.v 39] 0 <|
      (.lt none (.dep 99) [.v 40] 0 <|
      (.lt none (.dep 99) [.v 41] 0 <|
      (.lt none (.dep 99) [.v 42] 0 <|
      (.lt none .not [.v 17] 1 <|
      (.lt (some (.v 44, false)) .id [.v 43] 1 <|
      (.lt (some (.v 44, false)) .not [.v 45] 1 <|
      (.lt none .pick [.v 44, .c (.bool true), .v 46] 1 <|
      (.call (some (.v 47, false)) 40 [.v 38, .v 39, .v 40, .v 4, .v 5, .v 6] 1 [] <|
      (.lt (some (.v 47, false)) .not [.v 48] 1 <|
      (.lt none .pick [.v 47, .c (.bool true), .v 49] 1 <|
      (.call (some (.v 50, false)) 43 [.v 38, .v 39, .v 40, .v 4, .v 5, .v 6] 1 [] <|
      (.lt (some (.v 50, false)) .not [.v 51] 1 <|
      (.lt none .pick [.v 50, .c (.bool true), .v 52] 1 <|
      (.lt (some (.v 53, false)) .len [.v 41] 1 <|
      (.lt (some (.v 53, false)) .len [.v 16] 1 <|
      (.lt (some (.v 53, false)) (.bin .neq) [.v 54, .v 55] 1 <|
      (.lt none .pick [.v 53, .c (.bool true), .v 56] 1 <|
      (.lt (some (.v 57, false)) .len [.v 42] 1 <|
      (.lt (some (.v 57, false)) .len [.v 16] 1 <|
      (.lt (some (.v 57, false)) (.bin .neq) [.v 58, .v 59] 1 <|
      (.lt none .pick [.v 57, .c (.bool true), .v 60] 1 <|
      (.call (some (.v 61, false)) 46 [.v 4, .v 5, .v 6] 1 [] <|
      (.lt (some (.v 61, false)) .not [.v 62] 1 <|
      (.lt none .pick [.v 61, .c (.bool true), .v 63] 1 <|
      (.ite (.v 64)
       (.leaf .ret [.c (.bool false)] ())
       (.lt none .len [.v 16] 1 <|
       (.bind 1
        (.loop [.c (.rows 5 []), .c (.int .i64 0)]
         (.lt none (.bin .lss) [.v 67, .v 65] 1 <|
         (.ite (.v 68)
          (.lt none .inb [.v 42, .v 67] 0 <|
          (.lt none (.row 1 0 [true]) [.v 42, .v 67] 1 <|
          (.lt none (.bin .neq) [.v 69, .c (.int .i64 0)] 1 <|
          (.lt (some (.v 70, false)) .id [.v 67] 1 <|
          (.lt (some (.v 70, false)) .inb [.v 16, .v 71] 0 <|
          (.lt (some (.v 70, false)) (.row 7 0 [true, true, true, true, true, true, true]) [.v 16, .v 71] 7 <|
          (.lt (some (.v 70, false)) .id [.v 67] 1 <|
          (.lt (some (.v 70, false)) .inb [.v 18, .v 79] 0 <|
          (.lt (some (.v 70, false)) (.row 7 0 [true, true, true, true, true, true, true]) [.v 18, .v 79] 7 <|
          (.lt (some (.v 70, false)) (.eqs [0, 0, 0, 0, 0, 0, 0]) [.v 72, .v 73, .v 74, .v 75, .v 76, .v 77, .v 78, .v 80, .v 81, .v 82, .v 83, .v 84, .v 85, .v 86] 1 <|
          (.lt (some (.v 70, false)) .not [.v 87] 1 <|
          (.lt none .pick [.v 70, .c (.bool true), .v 88] 1 <|
          (.ite (.v 89)
           (.leaf .ret [.c (.bool false)] ())
           (.lt none .inb [.v 16, .v 67] 0 <|
           (.lt none (.row 7 2 [true, true, true, true, true]) [.v 16, .v 67] 5 <|
           (.lt none (.mk 5 1) [.v 90, .v 91, .v 92, .v 93, .v 94] 1 <|
           (.lt none (.app 5 40 true) [.v 66, .v 95] 1 <|
           (.lt none (.bin .add) [.v 67, .c (.int .i64 1)] 1 <|
           (.leaf .cont [.v 96, .v 97] ())))))))))))))))))))
          (.leaf (.yield 1) [.v 66] ())))) <|
       (.call none 53 [.v 66] 3 [] <|
       (.lt none (.dep 99) [.v 67] 0 <|
       (.lt none (.dep 99) [.v 68] 0 <|
       (.lt none .not [.v 69] 1 <|
       (.call (some (.v 70, false)) 41 [.v 67, .v 4] 1 [] <|
       (.lt (some (.v 70, false)) .not [.v 71] 1 <|
       (.lt none .pick [.v 70, .c (.bool true), .v 72] 1 <|
       (.call (some (.v 73, false)) 42 [.v 68, .v 41] 1 [] <|
       (.lt (some (.v 73, false)) .not [.v 74] 1 <|
       (.lt none .pick [.v 73, .c (.bool true), .v 75] 1 <|
       (.ite (.v 76)
        (.leaf .ret [.c (.bool false)] ())
        (.lt none .len [.v 3] 1 <|
        (.bind 3
         (.loop [.c (.int .i64 0)]
          (.lt none (.bin .lss) [.v 78, .v 77] 1 <|
          (.ite (.v 79)
           (.lt none .inb [.v 3, .v 78] 0 <|
           (.lt none (.row 7 0 [true, true, true, true, true, true, true]) [.v 3, .v 78] 7 <|
           (.call none 59 [.v 4, .v 5, .v 6, .v 80, .v 81, .v 82, .v 83, .v 84, .v 85, .v 86] 7 [] <|
           (.lt none (.dep 99) [.v 87] 0 <|
           (.lt none (.dep 99) [.v 88] 0 <|
           (.lt none (.dep 99) [.v 89] 0 <|
           (.lt none .not [.v 93] 1 <|
           (.lt (some (.v 94, false)) .id [.v 92] 1 <|
           (.lt (some (.v 94, false)) (.bin .neq) [.v 95, .c (.int .i64 2)] 1 <|
           (.lt (some (.v 94, false)) .id [.v 96] 1 <|
           (.lt (some (.v 97, true)) .id [.v 92] 1 <|
           (.lt (some (.v 97, true)) (.bin .neq) [.v 98, .c (.int .i64 1)] 1 <|
           (.lt (some (.v 94, false)) .pick [.v 97, .v 99, .c (.bool false)] 1 <|
           (.lt (some (.v 94, false)) .id [.v 100] 1 <|
           (.lt (some (.v 101, true)) .id [.v 78] 1 <|
           (.lt (some (.v 101, true)) .inb [.v 8, .v 102] 0 <|
           (.lt (some (.v 101, true)) (.row 1 0 [true]) [.v 8, .v 102] 1 <|
           (.lt (some (.v 101, true)) (.bin .neq) [.v 103, .c (.int .i64 3)] 1 <|
           (.lt (some (.v 94, false)) .pick [.v 101, .v 104, .c (.bool false)] 1 <|
           (.lt none .pick [.v 94, .c (.bool true), .v 105] 1 <|
           (.lt (some (.v 106, false)) .id [.v 92] 1 <|
           (.lt (some (.v 106, false)) (.bin .eql) [.v 107, .c (.int .i64 1)] 1 <|
           (.lt (some (.v 106, false)) .id [.v 108] 1 <|
           (.lt (some (.v 109, true)) .id [.v 78] 1 <|
           (.lt (some (.v 109, true)) .inb [.v 8, .v 110] 0 <|
           (.lt (some (.v 109, true)) (.row 1 0 [true]) [.v 8, .v 110] 1 <|
           (.lt (some (.v 109, true)) (.bin .neq) [.v 111, .c (.int .i64 3)] 1 <|
           (.lt (some (.v 106, false)) .pick [.v 109, .v 112, .c (.bool false)] 1 <|
           (.lt (some (.v 106, false)) .id [.v 113] 1 <|
           (.lt (some (.v 114, true)) .id [.v 78] 1 <|
           (.lt (some (.v 114, true)) .inb [.v 7, .v 115] 0 <|
           (.lt (some (.v 114, true)) (.row 2 0 [true, true]) [.v 7, .v 115] 2 <|
           (.lt (some (.v 114, true)) (.eqs [0, 0]) [.v 90, .v 91, .v 116, .v 117] 1 <|
           (.lt (some (.v 114, true)) .not [.v 118] 1 <|
           (.lt (some (.v 106, false)) .pick [.v 114, .v 119, .c (.bool false)] 1 <|
           (.lt none .pick [.v 106, .c (.bool true), .v 120] 1 <|
           (.lt (some (.v 121, false)) .id [.v 92] 1 <|
           (.lt (some (.v 121, false)) (.bin .neq) [.v 122, .c (.int .i64 0)] 1 <|
           (.lt (some (.v 121, false)) .id [.v 123] 1 <|
           (.call (some (.v 124, true)) 40 [.v 87, .v 88, .v 89, .v 4, .v 5, .v 6] 1 [] <|
           (.lt (some (.v 124, true)) .not [.v 125] 1 <|
           (.lt (some (.v 121, false)) .pick [.v 124, .v 126, .c (.bool false)] 1 <|
           (.lt none .pick [.v 121, .c (.bool true), .v 127] 1 <|
           (.ite (.v 128)
            (.leaf .ret [.c (.bool false)] ())
            (.lt none (.bin .add) [.v 78, .c (.int .i64 1)] 1 <|
            (.leaf .cont [.v 129] ()))))))))))))))))))))))))))))))))))))))))))))))
           (.leaf (.yield 3) [] ())))) <|
        (.leaf (.yield 0) [] ()))))))))))))))))))))))))))))))))))))))))))))
      (.leaf (.yield 0) [] ())) <|
    (.call none 63 [.v 1] 10 [] <|
    (.call none 59 [.v 38, .v 39, .v 40, .v 41, .v 42, .v 43, .v 44, .v 45, .v 46, .v 47] 7 [] <|
    (.lt none (.dep 99) [.v 48] 0 <|
    (.lt none (.dep 99) [.v 49] 0 <|
    (.lt none (.dep 99) [.v 50] 0 <|
    (.call none 66 [.v 38, .v 39, .v 40, .v 41, .v 42, .v 43, .v 44, .v 45, .v 46, .v 47] 7 [] <|
    (.lt none (.dep 99) [.v 55] 0 <|
    (.lt none (.dep 99) [.v 56] 0 <|
    (.lt none (.dep 99) [.v 57] 0 <|
    (.call none 71 [.v 1] 6 [] <|
    (.lt none (.eqb false) [.v 54, .v 61] 1 <|
    (.call (some (.v 68, true)) 40 [.v 48, .v 49, .v 50, .v 55, .v 56, .v 57] 1 [] <|
    (.lt none .pick [.v 68, .v 69, .c (.bool false)] 1 <|
    (.lt (some (.v 70, true)) (.eqs [0, 0]) [.v 51, .v 52, .v 58, .v 59] 1 <|
    (.lt none .pick [.v 70, .v 71, .c (.bool false)] 1 <|
    (.lt (some (.v 72, true)) .id [.v 53] 1 <|
    (.lt (some (.v 72, true)) .id [.v 60] 1 <|
    (.lt (some (.v 72, true)) (.bin .eql) [.v 73, .v 74] 1 <|
    (.lt none .pick [.v 72, .v 75, .c (.bool false)] 1 <|
    (.call (some (.v 76, true)) 43 [.v 62, .v 63, .v 64, .v 65, .v 66, .v 67] 1 [] <|
    (.call (some (.v 76, true)) 72 [.v 62, .v 63, .v 64, .v 65, .v 66, .v 67] 1 [] <|
    (.lt (some (.v 76, true)) (.eqb false) [.v 77, .v 78] 1 <|
    (.lt none .pick [.v 76, .v 79, .c (.bool false)] 1 <|
    (.call (some (.v 80, true)) 46 [.v 62, .v 63, .v 64] 1 [] <|
    (.call (some (.v 80, true)) 67 [.v 62, .v 63, .v 64] 1 [] <|
    (.lt (some (.v 80, true)) (.eqb false) [.v 81, .v 82] 1 <|
    (.lt none .pick [.v 80, .v 83, .c (.bool false)] 1 <|
    (.call (some (.v 84, true)) 17 [] 3 [] <|
    (.call (some (.v 84, true)) 32 [] 3 [] <|
    (.call (some (.v 84, true)) 40 [.v 85, .v 86, .v 87, .v 88, .v 89, .v 90] 1 [] <|
    (.lt none .pick [.v 84, .v 91, .c (.bool false)] 1 <|
    (.leaf .ret [.v 92] ())))))))))))))))))))))))))))))))))))))))))))))))))))))))))))))))))))))))
/-- laws.big -/
def tm1 : Tm Unit :=
  (.lt none .len [.v 0] 1 <|
  (.lt none (.bin .gtr) [.v 2, .c (.int .i64 1048576)] 1 <|
  (.lt (some (.v 3, false)) .len [.v 1] 1 <|
  (.lt (some (.v 3, false)) .len [.v 0] 1 <|
  (.lt (some (.v 3, false)) (.bin .sub) [.c (.int .i64 1048576), .v 5] 1 <|
  (.lt (some (.v 3, false)) (.bin .gtr) [.v 4, .v 6] 1 <|
  (.lt none .pick [.v 3, .c (.bool true), .v 7] 1 <|
  (.leaf .ret [.v 8] ()))))))))
/-- spec.DrawPlayAsks -/
def tm2 : Tm Unit :=
  (.call none 3 [.v 0, .c (.int .i64 0), .c (.int .u64 0)] 4 [] <|
  (.leaf .ret [.v 1] ()))
/-- (*spec.l1Cur).asks -/
def tm3 : Tm Unit :=
  (.lt none (.make 8 [(.int .i64 0)]) [.c (.int .i64 4)] 1 <|
  (.call none 4 [.c (.int .i64 12), .v 0, .v 1, .v 2] 4 [] <|
  (.bind 1
   (.loop [.c (.rows 7 []), .v 3, .v 4, .v 5, .v 6, .v 7]
    (.lt none (.bin .gtr) [.v 10, .c (.int .i64 0)] 1 <|
    (.ite (.v 14)
     (.bind 2
      (.call none 4 [.c (.int .i64 4), .v 11, .v 12, .v 13] 4 [] <|
      (.lt none .len [.v 8] 1 <|
      (.lt none (.bin .gtr) [.v 19, .c (.int .i64 0)] 1 <|
      (.call (some (.v 20, true)) 6 [.c (.int .i64 4), .v 16, .v 17, .v 18] 4 [.v 16, .v 17, .v 18] <|
      (.lt none .pick [.v 20, .v 21, .c (.bool false)] 1 <|
      (.ite (.v 25)
       (.lt none .len [.v 8] 1 <|
       (.call none 4 [.v 26, .v 22, .v 23, .v 24] 4 [] <|
       (.lt none .inb [.v 8, .v 27] 0 <|
       (.lt none (.row 7 0 [true, true, true, true, true, true, true]) [.v 8, .v 27] 7 <|
       (.lt none (.mk 7 1) [.v 31, .v 32, .v 33, .v 34, .v 35, .v 36, .v 37] 1 <|
       (.lt none (.app 7 56 true) [.v 8, .v 38] 1 <|
       (.leaf (.yield 2) [.v 39, .v 9, .c .undef, .v 28, .v 29, .v 30] ())))))))
       (.lt none .inb [.v 9, .v 15] 0 <|
       (.lt none (.row 1 0 [true]) [.v 9, .v 15] 1 <|
       (.lt none (.bin .add) [.v 26, .c (.int .i64 1)] 1 <|
       (.lt none .inb [.v 9, .v 15] 0 <|
       (.lt none (.set 1 0 1) [.v 9, .v 15, .v 27] 1 <|
       (.lt none .inb [.v 28, .v 15] 0 <|
       (.lt none (.row 1 0 [true]) [.v 28, .v 15] 1 <|
       (.call none 7 [.v 22, .v 23, .v 24] 8 [] <|
       (.bind 0
        (.call none 6 [.c (.int .i64 12), .v 35, .v 36, .v 37] 4 [] <|
        (.ite (.v 38)
         (.call none 4 [.c (.int .i64 3), .v 39, .v 40, .v 41] 4 [] <|
         (.lt none (.bin .add) [.v 29, .v 42] 1 <|
         (.leaf (.yield 0) [.v 43, .v 44, .v 45, .v 46] ())))
         (.leaf (.yield 0) [.v 39, .v 40, .v 41, .v 29] ()))) <|
       (.lt none (.mk 7 1) [.v 15, .v 41, .v 30, .v 31, .v 32, .v 33, .v 34] 1 <|
       (.lt none (.app 7 56 true) [.v 8, .v 42] 1 <|
       (.leaf (.yield 2) [.v 43, .v 28, .c .undef, .v 38, .v 39, .v 40] ())))))))))))))))))) <|
     (.lt none (.bin .sub) [.v 10, .c (.int .i64 1)] 1 <|
     (.leaf .cont [.v 15, .v 16, .v 21, .v 18, .v 19, .v 20] ())))
     (.leaf (.yield 1) [.v 8, .v 11, .v 12, .v 13] ())))) <|
  (.bind 0
   (.lt none .len [.v 8] 1 <|
   (.lt none (.bin .gtr) [.v 12, .c (.int .i64 0)] 1 <|
   (.call (some (.v 13, true)) 6 [.c (.int .i64 30), .v 9, .v 10, .v 11] 4 [.v 9, .v 10, .v 11] <|
   (.lt none .pick [.v 13, .v 14, .c (.bool false)] 1 <|
   (.ite (.v 18)
    (.lt none (.mk 1 2) [.c (.int .i64 (-1)), .c (.int .i64 4)] 1 <|
    (.call none 8 [.v 19, .v 15, .v 16, .v 17] 4 [] <|
    (.lt none .inb [.v 8, .c (.int .i64 0)] 0 <|
    (.lt none (.set 7 0 1) [.v 8, .c (.int .i64 0), .v 20] 1 <|
    (.leaf (.yield 0) [.v 24, .v 21, .v 22, .v 23] ())))))
    (.leaf (.yield 0) [.v 8, .v 15, .v 16, .v 17] ())))))) <|
  (.leaf .ret [.v 12, .v 13, .v 14, .v 15] ())))))
/-- (*spec.l1Cur).pick -/
def tm4 : Tm Unit :=
  (.lt none (.bin .leq) [.v 0, .c (.int .i64 1)] 1 <|
  (.ite (.v 4)
   (.leaf .ret [.c (.int .i64 0), .v 1, .v 2, .v 3] ())
   (.call none 5 [.v 1, .v 2, .v 3] 4 [] <|
   (.bind 0
    (.lt none (.bin .gtr) [.v 0, .c (.int .i64 200)] 1 <|
    (.ite (.v 9)
     (.lt none (.bin .mul) [.v 5, .c (.int .i64 256)] 1 <|
     (.call none 5 [.v 6, .v 7, .v 8] 4 [] <|
     (.lt none (.bin .add) [.v 10, .v 11] 1 <|
     (.leaf (.yield 0) [.v 15, .v 12, .v 13, .v 14] ()))))
     (.leaf (.yield 0) [.v 5, .v 6, .v 7, .v 8] ()))) <|
   (.lt none (.bin .rem) [.v 9, .v 0] 1 <|
   (.leaf .ret [.v 13, .v 10, .v 11, .v 12] ()))))))
/-- (*spec.l1Cur).next -/
def tm5 : Tm Unit :=
  (.bind 0
   (.lt none .len [.v 0] 1 <|
   (.lt none (.bin .lss) [.v 1, .v 3] 1 <|
   (.ite (.v 4)
    (.lt none .inb [.v 0, .v 1] 0 <|
    (.lt none (.row 1 0 [true]) [.v 0, .v 1] 1 <|
    (.lt none (.conv .i64) [.v 5] 1 <|
    (.leaf (.yield 0) [.v 6] ()))))
    (.leaf (.yield 0) [.c (.int .i64 0)] ())))) <|
  (.lt none (.bin .add) [.v 1, .c (.int .i64 1)] 1 <|
  (.lt none (.bin .mul) [.v 2, .c (.int .u64 6364136223846793005)] 1 <|
  (.lt none (.conv .u64) [.v 3] 1 <|
  (.lt none (.bin .add) [.v 5, .v 6] 1 <|
  (.lt none (.bin .add) [.v 7, .c (.int .u64 1442695040888963407)] 1 <|
  (.lt none .len [.v 0] 1 <|
  (.lt none (.bin .leq) [.v 4, .v 9] 1 <|
  (.ite (.v 10)
   (.leaf .ret [.v 3, .v 0, .v 4, .v 8] ())
   (.lt none (.bin .shr) [.v 8, .c (.int .u64 40)] 1 <|
   (.lt none (.bin .and) [.v 11, .c (.int .u64 255)] 1 <|
   (.lt none (.conv .i64) [.v 12] 1 <|
   (.leaf .ret [.v 13, .v 0, .v 4, .v 8] ())))))))))))))
/-- (*spec.l1Cur).one -/
def tm6 : Tm Unit :=
  (.call none 4 [.v 0, .v 1, .v 2, .v 3] 4 [] <|
  (.lt none (.bin .eql) [.v 4, .c (.int .i64 0)] 1 <|
  (.leaf .ret [.v 8, .v 5, .v 6, .v 7] ())))
/-- (*spec.l1Cur).cmd -/
def tm7 : Tm Unit :=
  (.call none 4 [.c (.int .i64 9), .v 0, .v 1, .v 2] 4 [] <|
  (.lt none (.bin .add) [.c (.int .i64 1), .v 3] 1 <|
  (.call none 4 [.c (.int .i64 4), .v 4, .v 5, .v 6] 4 [] <|
  (.call none 4 [.c (.int .i64 30), .v 9, .v 10, .v 11] 4 [] <|
  (.lt none (.bin .add) [.c (.int .i64 1), .v 12] 1 <|
  (.lt none (.bin .add) [.v 8, .c (.int .i64 1)] 1 <|
  (.call none 4 [.c (.int .i64 3), .v 13, .v 14, .v 15] 4 [] <|
  (.lt none (.bin .add) [.v 17, .v 18] 1 <|
  (.lt none (.bin .rem) [.v 22, .c (.int .i64 4)] 1 <|
  (.call none 6 [.c (.int .i64 4), .v 19, .v 20, .v 21] 4 [] <|
  (.ite (.v 24)
   (.leaf .ret [.c (.int .i64 2), .v 7, .v 8, .c (.int .i64 0), .c (.int .i64 0), .v 25, .v 26, .v 27] ())
   (.leaf .ret [.c (.int .i64 1), .v 7, .v 8, .v 23, .v 16, .v 25, .v 26, .v 27] ()))))))))))))
/-- (*spec.l1Cur).among -/
def tm8 : Tm Unit :=
  (.lt none .len [.v 0] 1 <|
  (.call none 4 [.v 4, .v 1, .v 2, .v 3] 4 [] <|
  (.lt none .inb [.v 0, .v 5] 0 <|
  (.lt none (.row 1 0 [true]) [.v 0, .v 5] 1 <|
  (.leaf .ret [.v 9, .v 6, .v 7, .v 8] ())))))
/-- impl.PlayAsks -/
def tm9 : Tm Unit :=
  (.lt none .len [.v 0] 1 <|
  (.lt none (.bin .gtr) [.v 1, .c (.int .i64 60)] 1 <|
  (.call (some (.v 2, false)) 10 [.v 0] 1 [] <|
  (.lt none .pick [.v 2, .c (.bool true), .v 3] 1 <|
  (.ite (.v 4)
   (.leaf .ret [.c (.rows 1 []), .c (.rows 1 []), .c (.rows 2 []), .c (.rows 2 []), .c (.rows 1 []), .c (.bool false)] ())
   (.call none 17 [] 3 [] <|
   (.lt none (.mk 2 0) [] 1 <|
   (.lt none (.mk 1 0) [] 1 <|
   (.lt none .len [.v 0] 1 <|
   (.bind 1
    (.loop [.v 8, .v 9, .c (.int .i64 0), .v 5, .v 6, .v 7]
     (.lt none (.bin .lss) [.v 13, .v 10] 1 <|
     (.ite (.v 17)
      (.lt none .inb [.v 0, .v 13] 0 <|
      (.lt none (.row 7 0 [true, true, true, true, true, true, true]) [.v 0, .v 13] 7 <|
      (.call none 22 [.v 18, .v 19, .v 20, .v 21, .v 22, .v 23, .v 24, .v 14, .v 15, .v 16] 6 [] <|
      (.lt none (.mk 2 1) [.v 25, .v 26] 1 <|
      (.lt none (.app 2 16 true) [.v 11, .v 31] 1 <|
      (.lt none (.mk 1 1) [.v 27] 1 <|
      (.lt none (.app 1 8 true) [.v 12, .v 33] 1 <|
      (.lt none (.bin .add) [.v 13, .c (.int .i64 1)] 1 <|
      (.leaf .cont [.v 32, .v 34, .v 35, .v 28, .v 29, .v 30] ())))))))))
      (.leaf (.yield 1) [.v 11, .v 12, .v 14, .v 15, .v 16] ())))) <|
   (.leaf .ret [.v 13, .v 14, .v 15, .v 11, .v 12, .c (.bool true)] ())))))))))))
/-- slices.ContainsFunc[[]impl.Ask,impl.Ask]@impl.PlayAsks$1 -/
def tm10 : Tm Unit :=
  (.call none 11 [.v 0] 1 [] <|
  (.lt none (.bin .geq) [.v 1, .c (.int .i64 0)] 1 <|
  (.leaf .ret [.v 2] ())))
/-- slices.IndexFunc[[]impl.Ask,impl.Ask]@impl.PlayAsks$1 -/
def tm11 : Tm Unit :=
  (.lt none .len [.v 0] 1 <|
  (.bind 1
   (.loop [.c (.int .i64 0)]
    (.lt none (.bin .lss) [.v 2, .v 1] 1 <|
    (.ite (.v 3)
     (.lt none .inb [.v 0, .v 2] 0 <|
     (.lt none (.row 7 0 [true, true, true, true, true, true, true]) [.v 0, .v 2] 7 <|
     (.call none 12 [.v 4, .v 5, .v 6, .v 7, .v 8, .v 9, .v 10] 1 [] <|
     (.ite (.v 11)
      (.leaf .ret [.v 2] ())
      (.lt none (.bin .add) [.v 2, .c (.int .i64 1)] 1 <|
      (.leaf .cont [.v 12] ()))))))
     (.leaf (.yield 1) [] ())))) <|
  (.leaf .ret [.c (.int .i64 (-1))] ())))
/-- impl.PlayAsks$1 -/
def tm12 : Tm Unit :=
  (.call none 13 [.v 0, .v 1, .v 2, .v 3, .v 4, .v 5, .v 6] 1 [] <|
  (.lt none .not [.v 7] 1 <|
  (.leaf .ret [.v 8] ())))
/-- impl.goodAsk -/
def tm13 : Tm Unit :=
  (.call none 14 [.v 0, .c (.int .i64 0), .c (.int .i64 3)] 1 [] <|
  (.lt (some (.v 7, true)) .id [.v 1] 1 <|
  (.call (some (.v 7, true)) 14 [.v 8, .c (.int .i64 1), .c (.int .i64 999)] 1 [] <|
  (.lt none .pick [.v 7, .v 9, .c (.bool false)] 1 <|
  (.call (some (.v 10, true)) 15 [.v 2, .v 3, .v 4, .v 5, .v 6] 1 [] <|
  (.lt none .pick [.v 10, .v 11, .c (.bool false)] 1 <|
  (.leaf .ret [.v 12] ())))))))
/-- impl.within -/
def tm14 : Tm Unit :=
  (.lt none (.bin .leq) [.v 1, .v 0] 1 <|
  (.lt (some (.v 3, true)) .id [.v 0] 1 <|
  (.lt (some (.v 3, true)) .id [.v 2] 1 <|
  (.lt (some (.v 3, true)) (.bin .leq) [.v 4, .v 5] 1 <|
  (.lt none .pick [.v 3, .v 6, .c (.bool false)] 1 <|
  (.leaf .ret [.v 7] ()))))))
/-- impl.GoodCmd -/
def tm15 : Tm Unit :=
  (.lt none (.bin .eql) [.v 0, .c (.int .i64 0)] 1 <|
  (.ite (.v 5)
   (.lt none (.eqs [0, 0, 0, 0, 0]) [.v 0, .v 1, .v 2, .v 3, .v 4, .c (.int .i64 0), .c (.int .i64 0), .c (.int .i64 0), .c (.int .i64 0), .c (.int .i64 0)] 1 <|
   (.leaf .ret [.v 6] ()))
   (.lt none (.bin .eql) [.v 0, .c (.int .i64 1)] 1 <|
   (.ite (.v 6)
    (.call none 14 [.v 1, .c (.int .i64 1), .c (.int .i64 999)] 1 [] <|
    (.lt (some (.v 7, true)) .id [.v 2] 1 <|
    (.call (some (.v 7, true)) 16 [.v 8] 1 [] <|
    (.lt none .pick [.v 7, .v 9, .c (.bool false)] 1 <|
    (.lt (some (.v 10, true)) .id [.v 3] 1 <|
    (.call (some (.v 10, true)) 16 [.v 11] 1 [] <|
    (.lt none .pick [.v 10, .v 12, .c (.bool false)] 1 <|
    (.lt (some (.v 13, true)) .id [.v 2] 1 <|
    (.lt (some (.v 13, true)) .id [.v 3] 1 <|
    (.lt (some (.v 13, true)) (.bin .neq) [.v 14, .v 15] 1 <|
    (.lt none .pick [.v 13, .v 16, .c (.bool false)] 1 <|
    (.lt (some (.v 17, true)) .id [.v 4] 1 <|
    (.call (some (.v 17, true)) 14 [.v 18, .c (.int .i64 1), .c (.int .i64 1000)] 1 [] <|
    (.lt none .pick [.v 17, .v 19, .c (.bool false)] 1 <|
    (.leaf .ret [.v 20] ())))))))))))))))
    (.lt none (.bin .eql) [.v 0, .c (.int .i64 2)] 1 <|
    (.lt (some (.v 7, true)) .id [.v 1] 1 <|
    (.call (some (.v 7, true)) 14 [.v 8, .c (.int .i64 1), .c (.int .i64 999)] 1 [] <|
    (.lt none .pick [.v 7, .v 9, .c (.bool false)] 1 <|
    (.lt (some (.v 10, true)) .id [.v 2] 1 <|
    (.call (some (.v 10, true)) 16 [.v 11] 1 [] <|
    (.lt none .pick [.v 10, .v 12, .c (.bool false)] 1 <|
    (.lt (some (.v 13, true)) .id [.v 3] 1 <|
    (.lt (some (.v 13, true)) (.bin .eql) [.v 14, .c (.int .i64 0)] 1 <|
    (.lt none .pick [.v 13, .v 15, .c (.bool false)] 1 <|
    (.lt (some (.v 16, true)) .id [.v 4] 1 <|
    (.lt (some (.v 16, true)) (.bin .eql) [.v 17, .c (.int .i64 0)] 1 <|
    (.lt none .pick [.v 16, .v 18, .c (.bool false)] 1 <|
    (.leaf .ret [.v 19] ()))))))))))))))))))
/-- impl.isAccount -/
def tm16 : Tm Unit :=
  (.call none 14 [.v 0, .c (.int .i64 0), .c (.int .i64 3)] 1 [] <|
  (.leaf .ret [.v 1] ()))
/-- impl.NewClerk -/
def tm17 : Tm Unit :=
  (.call none 18 [] 1 [] <|
  (.lt none (.make 8 [(.int .i64 0)]) [.c (.int .i64 4)] 1 <|
  (.lt none (.make 16 [(.int .i64 0), (.int .i64 0)]) [.c (.int .i64 4)] 1 <|
  (.leaf .ret [.v 0, .v 1, .v 2] ()))))
/-- impl.NewSums -/
def tm18 : Tm Unit :=
  (.lt none (.mk 1 1) [.c (.int .i64 100)] 1 <|
  (.call none 19 [.v 0, .c (.int .i64 4)] 1 [] <|
  (.lt none (.dep 99) [.v 1] 0 <|
  (.leaf .ret [.v 1] ()))))
/-- slices.Repeat[[]int,int] -/
def tm19 : Tm Unit := .stuck
/-- (*impl.Clerk).serve -/
def tm22 : Tm Unit :=
  (.lt none .inb [.v 8, .v 0] 0 <|
  (.lt none (.row 1 0 [true]) [.v 8, .v 0] 1 <|
  (.lt none (.bin .eql) [.v 1, .v 10] 1 <|
  (.ite (.v 11)
   (.lt none .inb [.v 9, .v 0] 0 <|
   (.lt none (.row 2 0 [true, true]) [.v 9, .v 0] 2 <|
   (.leaf .ret [.v 12, .v 13, .c (.int .i64 1), .v 7, .v 8, .v 9] ())))
   (.lt none (.bin .lss) [.v 1, .v 10] 1 <|
   (.ite (.v 12)
    (.leaf .ret [.c (.int .i64 0), .c (.int .i64 0), .c (.int .i64 2), .v 7, .v 8, .v 9] ())
    (.lt none (.bin .add) [.v 10, .c (.int .i64 1)] 1 <|
    (.lt none (.bin .gtr) [.v 1, .v 13] 1 <|
    (.ite (.v 14)
     (.leaf .ret [.c (.int .i64 0), .c (.int .i64 0), .c (.int .i64 3), .v 7, .v 8, .v 9] ())
     (.call none 23 [.v 7, .v 2, .v 3, .v 4, .v 5, .v 6] 3 [] <|
     (.lt none (.dep 1) [.v 17] 0 <|
     (.lt none .inb [.v 8, .v 0] 0 <|
     (.lt none (.set 1 0 1) [.v 8, .v 0, .v 1] 1 <|
     (.lt none .inb [.v 9, .v 0] 0 <|
     (.lt none (.set 2 0 2) [.v 9, .v 0, .v 15, .v 16] 1 <|
     (.leaf .ret [.v 15, .v 16, .c (.int .i64 0), .v 17, .v 18, .v 19] ()))))))))))))))))
/-- impl.apply -/
def tm23 : Tm Unit :=
  (.lt none (.bin .eql) [.v 1, .c (.int .i64 2)] 1 <|
  (.ite (.v 6)
   (.lt none .inb [.v 0, .v 3] 0 <|
   (.lt none (.row 1 0 [true]) [.v 0, .v 3] 1 <|
   (.leaf .ret [.c (.int .i64 3), .v 7, .v 0] ())))
   (.lt none (.bin .eql) [.v 1, .c (.int .i64 0)] 1 <|
   (.ite (.v 7)
    (.leaf .ret [.c (.int .i64 0), .c (.int .i64 0), .v 0] ())
    (.lt none .inb [.v 0, .v 3] 0 <|
    (.lt none (.row 1 0 [true]) [.v 0, .v 3] 1 <|
    (.lt none (.bin .lss) [.v 8, .v 5] 1 <|
    (.ite (.v 9)
     (.leaf .ret [.c (.int .i64 2), .c (.int .i64 0), .v 0] ())
     (.lt none .inb [.v 0, .v 3] 0 <|
     (.lt none (.row 1 0 [true]) [.v 0, .v 3] 1 <|
     (.lt none (.bin .sub) [.v 10, .v 5] 1 <|
     (.lt none .inb [.v 0, .v 3] 0 <|
     (.lt none (.set 1 0 1) [.v 0, .v 3, .v 11] 1 <|
     (.lt none .inb [.v 12, .v 4] 0 <|
     (.lt none (.row 1 0 [true]) [.v 12, .v 4] 1 <|
     (.lt none (.bin .add) [.v 13, .v 5] 1 <|
     (.lt none .inb [.v 12, .v 4] 0 <|
     (.lt none (.set 1 0 1) [.v 12, .v 4, .v 14] 1 <|
     (.leaf .ret [.c (.int .i64 1), .c (.int .i64 0), .v 15] ())))))))))))))))))))
/-- spec.PlayAsks -/
def tm24 : Tm Unit :=
  (.call none 25 [.v 0] 1 [] <|
  (.lt none .not [.v 1] 1 <|
  (.ite (.v 2)
   (.leaf .ret [.c (.rows 1 []), .c (.rows 1 []), .c (.rows 2 []), .c (.rows 2 []), .c (.rows 1 []), .c (.bool false)] ())
   (.call none 31 [.v 0] 5 [] <|
   (.leaf .ret [.v 3, .v 4, .v 5, .v 6, .v 7, .c (.bool true)] ())))))
/-- spec.l15Asks -/
def tm25 : Tm Unit :=
  (.lt none .len [.v 0] 1 <|
  (.bind 1
   (.loop [.c (.int .i64 0)]
    (.lt none (.bin .lss) [.v 2, .v 1] 1 <|
    (.ite (.v 3)
     (.lt none .inb [.v 0, .v 2] 0 <|
     (.lt none (.row 7 0 [true, true, true, true, true, true, true]) [.v 0, .v 2] 7 <|
     (.call none 26 [.v 4, .v 5, .v 6, .v 7, .v 8, .v 9, .v 10] 1 [] <|
     (.lt none .not [.v 11] 1 <|
     (.ite (.v 12)
      (.leaf .ret [.c (.bool false)] ())
      (.lt none (.bin .add) [.v 2, .c (.int .i64 1)] 1 <|
      (.leaf .cont [.v 13] ())))))))
     (.leaf (.yield 1) [] ())))) <|
  (.lt none .len [.v 0] 1 <|
  (.lt none (.bin .leq) [.v 2, .c (.int .i64 60)] 1 <|
  (.leaf .ret [.v 3] ())))))
/-- spec.l15Ask -/
def tm26 : Tm Unit :=
  (.call none 27 [.v 0, .c (.int .i64 0), .c (.int .i64 3)] 1 [] <|
  (.lt (some (.v 7, true)) .id [.v 1] 1 <|
  (.call (some (.v 7, true)) 27 [.v 8, .c (.int .i64 1), .c (.int .i64 999)] 1 [] <|
  (.lt none .pick [.v 7, .v 9, .c (.bool false)] 1 <|
  (.call (some (.v 10, true)) 28 [.v 2, .v 3, .v 4, .v 5, .v 6] 1 [] <|
  (.lt none .pick [.v 10, .v 11, .c (.bool false)] 1 <|
  (.leaf .ret [.v 12] ())))))))
/-- spec.l1In -/
def tm27 : Tm Unit :=
  (.lt none (.bin .geq) [.v 0, .v 1] 1 <|
  (.lt (some (.v 3, true)) .id [.v 0] 1 <|
  (.lt (some (.v 3, true)) .id [.v 2] 1 <|
  (.lt (some (.v 3, true)) (.bin .leq) [.v 4, .v 5] 1 <|
  (.lt none .pick [.v 3, .v 6, .c (.bool false)] 1 <|
  (.leaf .ret [.v 7] ()))))))
/-- spec.GoodCmd -/
def tm28 : Tm Unit :=
  (.lt none (.bin .eql) [.v 0, .c (.int .i64 0)] 1 <|
  (.ite (.v 5)
   (.lt none (.eqs [0, 0, 0, 0, 0]) [.v 0, .v 1, .v 2, .v 3, .v 4, .c (.int .i64 0), .c (.int .i64 0), .c (.int .i64 0), .c (.int .i64 0), .c (.int .i64 0)] 1 <|
   (.leaf .ret [.v 6] ()))
   (.lt none (.bin .eql) [.v 0, .c (.int .i64 1)] 1 <|
   (.ite (.v 6)
    (.call none 29 [.v 0, .v 1, .v 2, .v 3, .v 4] 1 [] <|
    (.lt none (.bin .eql) [.v 7, .c (.int .i64 0)] 1 <|
    (.leaf .ret [.v 8] ())))
    (.lt none (.bin .eql) [.v 0, .c (.int .i64 2)] 1 <|
    (.ite (.v 7)
     (.call none 29 [.v 0, .v 1, .v 2, .v 3, .v 4] 1 [] <|
     (.lt none (.bin .eql) [.v 8, .c (.int .i64 0)] 1 <|
     (.lt (some (.v 9, true)) .id [.v 3] 1 <|
     (.lt (some (.v 9, true)) (.bin .eql) [.v 10, .c (.int .i64 0)] 1 <|
     (.lt none .pick [.v 9, .v 11, .c (.bool false)] 1 <|
     (.lt (some (.v 12, true)) .id [.v 4] 1 <|
     (.lt (some (.v 12, true)) (.bin .eql) [.v 13, .c (.int .i64 0)] 1 <|
     (.lt none .pick [.v 12, .v 14, .c (.bool false)] 1 <|
     (.leaf .ret [.v 15] ())))))))))
     (.leaf .ret [.c (.bool false)] ())))))))
/-- spec.l2Code -/
def tm29 : Tm Unit :=
  (.lt none (.bin .eql) [.v 0, .c (.int .i64 1)] 1 <|
  (.call none 30 [.v 2] 1 [] <|
  (.lt none .not [.v 6] 1 <|
  (.lt (some (.v 7, false)) .id [.v 5] 1 <|
  (.lt (some (.v 7, false)) .id [.v 8] 1 <|
  (.lt (some (.v 9, true)) .id [.v 3] 1 <|
  (.call (some (.v 9, true)) 30 [.v 10] 1 [] <|
  (.lt (some (.v 9, true)) .not [.v 11] 1 <|
  (.lt (some (.v 7, false)) .pick [.v 9, .v 12, .c (.bool false)] 1 <|
  (.lt none .pick [.v 7, .c (.bool true), .v 13] 1 <|
  (.ite (.v 14)
   (.leaf .ret [.c (.int .i64 4)] ())
   (.lt (some (.v 5, true)) .id [.v 2] 1 <|
   (.lt (some (.v 5, true)) .id [.v 3] 1 <|
   (.lt (some (.v 5, true)) (.bin .eql) [.v 15, .v 16] 1 <|
   (.lt none .pick [.v 5, .v 17, .c (.bool false)] 1 <|
   (.ite (.v 18)
    (.leaf .ret [.c (.int .i64 5)] ())
    (.call none 27 [.v 1, .c (.int .i64 1), .c (.int .i64 999)] 1 [] <|
    (.lt none .not [.v 19] 1 <|
    (.lt (some (.v 20, false)) .id [.v 5] 1 <|
    (.lt (some (.v 20, false)) .id [.v 21] 1 <|
    (.lt (some (.v 22, true)) .id [.v 4] 1 <|
    (.call (some (.v 22, true)) 27 [.v 23, .c (.int .i64 1), .c (.int .i64 1000)] 1 [] <|
    (.lt (some (.v 22, true)) .not [.v 24] 1 <|
    (.lt (some (.v 20, false)) .pick [.v 22, .v 25, .c (.bool false)] 1 <|
    (.lt none .pick [.v 20, .c (.bool true), .v 26] 1 <|
    (.ite (.v 27)
     (.leaf .ret [.c (.int .i64 6)] ())
     (.leaf .ret [.c (.int .i64 0)] ())))))))))))))))))))))))))))
/-- spec.l2Account -/
def tm30 : Tm Unit :=
  (.call none 27 [.v 0, .c (.int .i64 0), .c (.int .i64 3)] 1 [] <|
  (.leaf .ret [.v 1] ()))
/-- spec.l15Play -/
def tm31 : Tm Unit :=
  (.call none 32 [] 3 [] <|
  (.lt none .len [.v 0] 1 <|
  (.bind 1
   (.loop [.c (.rows 2 []), .c (.rows 1 []), .c (.int .i64 0), .v 1, .v 2, .v 3]
    (.lt none (.bin .lss) [.v 7, .v 4] 1 <|
    (.ite (.v 11)
     (.lt none .inb [.v 0, .v 7] 0 <|
     (.lt none (.row 7 0 [true, true, true, true, true, true, true]) [.v 0, .v 7] 7 <|
     (.call none 34 [.v 8, .v 9, .v 10, .v 12, .v 13, .v 14, .v 15, .v 16, .v 17, .v 18] 6 [] <|
     (.lt none (.dep 99) [.v 19] 0 <|
     (.lt none (.dep 99) [.v 20] 0 <|
     (.lt none (.dep 99) [.v 21] 0 <|
     (.lt none (.mk 2 1) [.v 22, .v 23] 1 <|
     (.lt none (.app 2 16 true) [.v 5, .v 25] 1 <|
     (.lt none (.mk 1 1) [.v 24] 1 <|
     (.lt none (.app 1 8 true) [.v 6, .v 27] 1 <|
     (.lt none (.bin .add) [.v 7, .c (.int .i64 1)] 1 <|
     (.leaf .cont [.v 26, .v 28, .v 29, .v 19, .v 20, .v 21] ()))))))))))))
     (.leaf (.yield 1) [.v 5, .v 6, .v 8, .v 9, .v 10] ())))) <|
  (.leaf .ret [.v 7, .v 8, .v 9, .v 5, .v 6] ()))))
/-- spec.NewClerk -/
def tm32 : Tm Unit :=
  (.call none 33 [] 1 [] <|
  (.lt none (.make 8 [(.int .i64 0)]) [.c (.int .i64 4)] 1 <|
  (.lt none (.make 16 [(.int .i64 0), (.int .i64 0)]) [.c (.int .i64 4)] 1 <|
  (.leaf .ret [.v 0, .v 1, .v 2] ()))))
/-- spec.NewSums -/
def tm33 : Tm Unit :=
  (.bind 1
   (.loop [.c (.rows 1 []), .c (.int .i64 0)]
    (.lt none (.bin .lss) [.v 1, .c (.int .i64 4)] 1 <|
    (.ite (.v 2)
     (.lt none (.mk 1 1) [.c (.int .i64 100)] 1 <|
     (.lt none (.app 1 8 true) [.v 0, .v 3] 1 <|
     (.lt none (.bin .add) [.v 1, .c (.int .i64 1)] 1 <|
     (.leaf .cont [.v 4, .v 5] ()))))
     (.leaf (.yield 1) [.v 0] ())))) <|
  (.leaf .ret [.v 0] ()))
/-- spec.l15Serve -/
def tm34 : Tm Unit :=
  (.call none 35 [.v 0, .v 1, .v 2] 3 [] <|
  (.lt none .inb [.v 1, .v 3] 0 <|
  (.lt none (.row 1 0 [true]) [.v 1, .v 3] 1 <|
  (.lt none (.bin .eql) [.v 4, .v 13] 1 <|
  (.ite (.v 14)
   (.lt none .inb [.v 2, .v 3] 0 <|
   (.lt none (.row 2 0 [true, true]) [.v 2, .v 3] 2 <|
   (.leaf .ret [.v 10, .v 11, .v 12, .v 15, .v 16, .c (.int .i64 1)] ())))
   (.lt none (.bin .lss) [.v 4, .v 13] 1 <|
   (.ite (.v 15)
    (.leaf .ret [.v 10, .v 11, .v 12, .c (.int .i64 0), .c (.int .i64 0), .c (.int .i64 2)] ())
    (.lt none (.bin .add) [.v 13, .c (.int .i64 1)] 1 <|
    (.lt none (.bin .gtr) [.v 4, .v 16] 1 <|
    (.ite (.v 17)
     (.leaf .ret [.v 10, .v 11, .v 12, .c (.int .i64 0), .c (.int .i64 0), .c (.int .i64 3)] ())
     (.call none 37 [.v 10, .v 5, .v 6, .v 7, .v 8, .v 9] 3 [] <|
     (.lt none (.dep 99) [.v 18] 0 <|
     (.lt none .inb [.v 11, .v 3] 0 <|
     (.lt none (.set 1 0 1) [.v 11, .v 3, .v 4] 1 <|
     (.lt none .inb [.v 12, .v 3] 0 <|
     (.lt none (.set 2 0 2) [.v 12, .v 3, .v 19, .v 20] 1 <|
     (.leaf .ret [.v 18, .v 21, .v 22, .v 19, .v 20, .c (.int .i64 0)] ())))))))))))))))))
/-- spec.l15Own -/
def tm35 : Tm Unit :=
  (.call none 36 [.v 0] 1 [] <|
  (.call none 36 [.v 1] 1 [] <|
  (.lt none (.mk 2 0) [] 1 <|
  (.lt none (.app 2 16 true) [.v 5, .v 2] 1 <|
  (.leaf .ret [.v 3, .v 4, .v 6] ())))))
/-- spec.l1Own -/
def tm36 : Tm Unit :=
  (.lt none (.mk 1 0) [] 1 <|
  (.lt none (.app 1 8 true) [.v 1, .v 0] 1 <|
  (.leaf .ret [.v 2] ())))
/-- spec.l11Apply -/
def tm37 : Tm Unit :=
  (.call none 36 [.v 0] 1 [] <|
  (.lt none (.bin .eql) [.v 1, .c (.int .i64 2)] 1 <|
  (.ite (.v 7)
   (.lt none .inb [.v 0, .v 3] 0 <|
   (.lt none (.row 1 0 [true]) [.v 0, .v 3] 1 <|
   (.leaf .ret [.v 6, .c (.int .i64 3), .v 8] ())))
   (.lt none (.bin .eql) [.v 1, .c (.int .i64 1)] 1 <|
   (.ite (.v 8)
    (.lt none .inb [.v 0, .v 3] 0 <|
    (.lt none (.row 1 0 [true]) [.v 0, .v 3] 1 <|
    (.lt none (.bin .lss) [.v 9, .v 5] 1 <|
    (.ite (.v 10)
     (.leaf .ret [.v 6, .c (.int .i64 2), .c (.int .i64 0)] ())
     (.lt none .inb [.v 6, .v 3] 0 <|
     (.lt none (.row 1 0 [true]) [.v 6, .v 3] 1 <|
     (.lt none (.bin .sub) [.v 11, .v 5] 1 <|
     (.lt none .inb [.v 6, .v 3] 0 <|
     (.lt none (.set 1 0 1) [.v 6, .v 3, .v 12] 1 <|
     (.lt none .inb [.v 13, .v 4] 0 <|
     (.lt none (.row 1 0 [true]) [.v 13, .v 4] 1 <|
     (.lt none (.bin .add) [.v 14, .v 5] 1 <|
     (.lt none .inb [.v 13, .v 4] 0 <|
     (.lt none (.set 1 0 1) [.v 13, .v 4, .v 15] 1 <|
     (.leaf .ret [.v 16, .c (.int .i64 1), .c (.int .i64 0)] ())))))))))))))))
    (.leaf .ret [.v 6, .c (.int .i64 0), .c (.int .i64 0)] ()))))))
/-- impl.OnceOf -/
def tm38 : Tm Unit :=
  (.call none 9 [.v 0] 6 [] <|
  (.lt none .not [.v 6] 1 <|
  (.ite (.v 7)
   (.leaf .ret [.c (.rows 7 []), .c (.bool false)] ())
   (.lt none (.mk 7 0) [] 1 <|
   (.lt none .len [.v 0] 1 <|
   (.bind 1
    (.loop [.v 8, .c (.int .i64 0)]
     (.lt none (.bin .lss) [.v 11, .v 9] 1 <|
     (.ite (.v 12)
      (.bind 0
       (.lt none .inb [.v 0, .v 11] 0 <|
       (.lt none (.row 7 0 [true, true, true, true, true, true, true]) [.v 0, .v 11] 7 <|
       (.lt none .inb [.v 5, .v 11] 0 <|
       (.lt none (.row 1 0 [true]) [.v 5, .v 11] 1 <|
       (.lt none (.bin .eql) [.v 20, .c (.int .i64 0)] 1 <|
       (.ite (.v 21)
        (.lt none (.mk 7 1) [.v 13, .v 14, .v 15, .v 16, .v 17, .v 18, .v 19] 1 <|
        (.lt none (.app 7 56 true) [.v 10, .v 22] 1 <|
        (.leaf (.yield 0) [.v 23] ())))
        (.leaf (.yield 0) [.v 10] ()))))))) <|
      (.lt none (.bin .add) [.v 11, .c (.int .i64 1)] 1 <|
      (.leaf .cont [.v 13, .v 14] ())))
      (.leaf (.yield 1) [.v 10] ())))) <|
   (.leaf .ret [.v 10, .c (.bool true)] ())))))))
/-- spec.OnceOf -/
def tm39 : Tm Unit :=
  (.call none 25 [.v 0] 1 [] <|
  (.lt none .not [.v 1] 1 <|
  (.ite (.v 2)
   (.leaf .ret [.c (.rows 7 []), .c (.bool false)] ())
   (.call none 31 [.v 0] 5 [] <|
   (.lt none .len [.v 0] 1 <|
   (.bind 1
    (.loop [.c (.rows 7 []), .c (.int .i64 0)]
     (.lt none (.bin .lss) [.v 10, .v 8] 1 <|
     (.ite (.v 11)
      (.bind 0
       (.lt none .inb [.v 0, .v 10] 0 <|
       (.lt none (.row 7 0 [true, true, true, true, true, true, true]) [.v 0, .v 10] 7 <|
       (.lt none .inb [.v 7, .v 10] 0 <|
       (.lt none (.row 1 0 [true]) [.v 7, .v 10] 1 <|
       (.lt none (.bin .eql) [.v 19, .c (.int .i64 0)] 1 <|
       (.ite (.v 20)
        (.lt none (.mk 7 1) [.v 12, .v 13, .v 14, .v 15, .v 16, .v 17, .v 18] 1 <|
        (.lt none (.app 7 56 true) [.v 9, .v 21] 1 <|
        (.leaf (.yield 0) [.v 22] ())))
        (.leaf (.yield 0) [.v 9] ()))))))) <|
      (.lt none (.bin .add) [.v 10, .c (.int .i64 1)] 1 <|
      (.leaf .cont [.v 12, .v 13] ())))
      (.leaf (.yield 1) [.v 9] ())))) <|
   (.leaf .ret [.v 9, .c (.bool true)] ())))))))
/-- laws.sameClerk -/
def tm40 : Tm Unit :=
  (.call none 41 [.v 0, .v 3] 1 [] <|
  (.call (some (.v 6, true)) 41 [.v 1, .v 4] 1 [] <|
  (.lt none .pick [.v 6, .v 7, .c (.bool false)] 1 <|
  (.call (some (.v 8, true)) 42 [.v 2, .v 5] 1 [] <|
  (.lt none .pick [.v 8, .v 9, .c (.bool false)] 1 <|
  (.leaf .ret [.v 10] ()))))))
/-- laws.sameInts -/
def tm41 : Tm Unit :=
  (.lt none .len [.v 0] 1 <|
  (.lt none .len [.v 1] 1 <|
  (.lt none (.bin .neq) [.v 2, .v 3] 1 <|
  (.ite (.v 4)
   (.leaf .ret [.c (.bool false)] ())
   (.lt none .len [.v 0] 1 <|
   (.bind 1
    (.loop [.c (.int .i64 0)]
     (.lt none (.bin .lss) [.v 6, .v 5] 1 <|
     (.ite (.v 7)
      (.lt none .inb [.v 0, .v 6] 0 <|
      (.lt none (.row 1 0 [true]) [.v 0, .v 6] 1 <|
      (.lt none .inb [.v 1, .v 6] 0 <|
      (.lt none (.row 1 0 [true]) [.v 1, .v 6] 1 <|
      (.lt none (.bin .neq) [.v 8, .v 9] 1 <|
      (.ite (.v 10)
       (.leaf .ret [.c (.bool false)] ())
       (.lt none (.bin .add) [.v 6, .c (.int .i64 1)] 1 <|
       (.leaf .cont [.v 11] ()))))))))
      (.leaf (.yield 1) [] ())))) <|
   (.leaf .ret [.c (.bool true)] ())))))))
/-- laws.sameTolds -/
def tm42 : Tm Unit :=
  (.lt none .len [.v 0] 1 <|
  (.lt none .len [.v 1] 1 <|
  (.lt none (.bin .neq) [.v 2, .v 3] 1 <|
  (.ite (.v 4)
   (.leaf .ret [.c (.bool false)] ())
   (.lt none .len [.v 0] 1 <|
   (.bind 1
    (.loop [.c (.int .i64 0)]
     (.lt none (.bin .lss) [.v 6, .v 5] 1 <|
     (.ite (.v 7)
      (.lt none .inb [.v 0, .v 6] 0 <|
      (.lt none (.row 2 0 [true, true]) [.v 0, .v 6] 2 <|
      (.lt none .inb [.v 1, .v 6] 0 <|
      (.lt none (.row 2 0 [true, true]) [.v 1, .v 6] 2 <|
      (.lt none (.eqs [0, 0]) [.v 8, .v 9, .v 10, .v 11] 1 <|
      (.lt none .not [.v 12] 1 <|
      (.ite (.v 13)
       (.leaf .ret [.c (.bool false)] ())
       (.lt none (.bin .add) [.v 6, .c (.int .i64 1)] 1 <|
       (.leaf .cont [.v 14] ())))))))))
      (.leaf (.yield 1) [] ())))) <|
   (.leaf .ret [.c (.bool true)] ())))))))
/-- impl.SameClerk -/
def tm43 : Tm Unit :=
  (.call none 44 [.v 0, .v 3] 1 [] <|
  (.call (some (.v 6, true)) 44 [.v 1, .v 4] 1 [] <|
  (.lt none .pick [.v 6, .v 7, .c (.bool false)] 1 <|
  (.call (some (.v 8, true)) 45 [.v 2, .v 5] 1 [] <|
  (.lt none .pick [.v 8, .v 9, .c (.bool false)] 1 <|
  (.leaf .ret [.v 10] ()))))))
/-- slices.Equal[[]int,int] -/
def tm44 : Tm Unit :=
  (.lt none .len [.v 0] 1 <|
  (.lt none .len [.v 1] 1 <|
  (.lt none (.bin .neq) [.v 2, .v 3] 1 <|
  (.ite (.v 4)
   (.leaf .ret [.c (.bool false)] ())
   (.lt none .len [.v 0] 1 <|
   (.bind 1
    (.loop [.c (.int .i64 0)]
     (.lt none (.bin .lss) [.v 6, .v 5] 1 <|
     (.ite (.v 7)
      (.lt none .inb [.v 0, .v 6] 0 <|
      (.lt none (.row 1 0 [true]) [.v 0, .v 6] 1 <|
      (.lt none .inb [.v 1, .v 6] 0 <|
      (.lt none (.row 1 0 [true]) [.v 1, .v 6] 1 <|
      (.lt none (.bin .neq) [.v 8, .v 9] 1 <|
      (.ite (.v 10)
       (.leaf .ret [.c (.bool false)] ())
       (.lt none (.bin .add) [.v 6, .c (.int .i64 1)] 1 <|
       (.leaf .cont [.v 11] ()))))))))
      (.leaf (.yield 1) [] ())))) <|
   (.leaf .ret [.c (.bool true)] ())))))))
/-- slices.Equal[[]impl.Told,impl.Told] -/
def tm45 : Tm Unit :=
  (.lt none .len [.v 0] 1 <|
  (.lt none .len [.v 1] 1 <|
  (.lt none (.bin .neq) [.v 2, .v 3] 1 <|
  (.ite (.v 4)
   (.leaf .ret [.c (.bool false)] ())
   (.lt none .len [.v 0] 1 <|
   (.bind 1
    (.loop [.c (.int .i64 0)]
     (.lt none (.bin .lss) [.v 6, .v 5] 1 <|
     (.ite (.v 7)
      (.lt none .inb [.v 0, .v 6] 0 <|
      (.lt none (.row 2 0 [true, true]) [.v 0, .v 6] 2 <|
      (.lt none .inb [.v 1, .v 6] 0 <|
      (.lt none (.row 2 0 [true, true]) [.v 1, .v 6] 2 <|
      (.lt none (.eqs [0, 0]) [.v 8, .v 9, .v 10, .v 11] 1 <|
      (.lt none .not [.v 12] 1 <|
      (.ite (.v 13)
       (.leaf .ret [.c (.bool false)] ())
       (.lt none (.bin .add) [.v 6, .c (.int .i64 1)] 1 <|
       (.leaf .cont [.v 14] ())))))))))
      (.leaf (.yield 1) [] ())))) <|
   (.leaf .ret [.c (.bool true)] ())))))))
/-- impl.GoodClerk -/
def tm46 : Tm Unit :=
  (.call none 47 [.v 0] 1 [] <|
  (.lt none .not [.v 3] 1 <|
  (.lt (some (.v 4, false)) .len [.v 1] 1 <|
  (.lt (some (.v 4, false)) (.bin .neq) [.v 5, .c (.int .i64 4)] 1 <|
  (.lt none .pick [.v 4, .c (.bool true), .v 6] 1 <|
  (.lt (some (.v 7, false)) .len [.v 2] 1 <|
  (.lt (some (.v 7, false)) (.bin .neq) [.v 8, .c (.int .i64 4)] 1 <|
  (.lt none .pick [.v 7, .c (.bool true), .v 9] 1 <|
  (.ite (.v 10)
   (.leaf .ret [.c (.bool false)] ())
   (.lt none .len [.v 1] 1 <|
   (.bind 1
    (.loop [.c (.int .i64 0)]
     (.lt none (.bin .lss) [.v 12, .v 11] 1 <|
     (.ite (.v 13)
      (.lt none .inb [.v 1, .v 12] 0 <|
      (.lt none (.row 1 0 [true]) [.v 1, .v 12] 1 <|
      (.call none 14 [.v 14, .c (.int .i64 0), .c (.int .i64 999)] 1 [] <|
      (.lt none .not [.v 15] 1 <|
      (.lt (some (.v 16, false)) .id [.v 12] 1 <|
      (.lt (some (.v 16, false)) .inb [.v 2, .v 17] 0 <|
      (.lt (some (.v 16, false)) (.row 2 0 [true, true]) [.v 2, .v 17] 2 <|
      (.call (some (.v 16, false)) 52 [.v 18, .v 19] 1 [] <|
      (.lt (some (.v 16, false)) .not [.v 20] 1 <|
      (.lt none .pick [.v 16, .c (.bool true), .v 21] 1 <|
      (.lt (some (.v 22, false)) .id [.v 14] 1 <|
      (.lt (some (.v 22, false)) (.bin .eql) [.v 23, .c (.int .i64 0)] 1 <|
      (.lt (some (.v 22, false)) .id [.v 24] 1 <|
      (.lt (some (.v 25, true)) .id [.v 12] 1 <|
      (.lt (some (.v 25, true)) .inb [.v 2, .v 26] 0 <|
      (.lt (some (.v 25, true)) (.row 2 0 [true]) [.v 2, .v 26] 1 <|
      (.lt (some (.v 25, true)) (.bin .neq) [.v 27, .c (.int .i64 0)] 1 <|
      (.lt (some (.v 22, false)) .pick [.v 25, .v 28, .c (.bool false)] 1 <|
      (.lt none .pick [.v 22, .c (.bool true), .v 29] 1 <|
      (.ite (.v 30)
       (.leaf .ret [.c (.bool false)] ())
       (.lt none (.bin .add) [.v 12, .c (.int .i64 1)] 1 <|
       (.leaf .cont [.v 31] ()))))))))))))))))))))))
      (.leaf (.yield 1) [] ())))) <|
   (.leaf .ret [.c (.bool true)] ()))))))))))))
/-- impl.GoodSums -/
def tm47 : Tm Unit :=
  (.lt none .len [.v 0] 1 <|
  (.lt none (.bin .eql) [.v 1, .c (.int .i64 4)] 1 <|
  (.call (some (.v 2, true)) 48 [.v 0] 1 [] <|
  (.lt (some (.v 2, true)) .not [.v 3] 1 <|
  (.lt none .pick [.v 2, .v 4, .c (.bool false)] 1 <|
  (.call (some (.v 5, true)) 51 [.v 0] 1 [] <|
  (.lt (some (.v 5, true)) (.bin .eql) [.v 6, .c (.int .i64 400)] 1 <|
  (.lt none .pick [.v 5, .v 7, .c (.bool false)] 1 <|
  (.leaf .ret [.v 8] ())))))))))
/-- slices.ContainsFunc[[]int,int]@impl.GoodSums$1 -/
def tm48 : Tm Unit :=
  (.call none 49 [.v 0] 1 [] <|
  (.lt none (.bin .geq) [.v 1, .c (.int .i64 0)] 1 <|
  (.leaf .ret [.v 2] ())))
/-- slices.IndexFunc[[]int,int]@impl.GoodSums$1 -/
def tm49 : Tm Unit :=
  (.lt none .len [.v 0] 1 <|
  (.bind 1
   (.loop [.c (.int .i64 0)]
    (.lt none (.bin .lss) [.v 2, .v 1] 1 <|
    (.ite (.v 3)
     (.lt none .inb [.v 0, .v 2] 0 <|
     (.lt none (.row 1 0 [true]) [.v 0, .v 2] 1 <|
     (.call none 50 [.v 4] 1 [] <|
     (.ite (.v 5)
      (.leaf .ret [.v 2] ())
      (.lt none (.bin .add) [.v 2, .c (.int .i64 1)] 1 <|
      (.leaf .cont [.v 6] ()))))))
     (.leaf (.yield 1) [] ())))) <|
  (.leaf .ret [.c (.int .i64 (-1))] ())))
/-- impl.GoodSums$1 -/
def tm50 : Tm Unit :=
  (.call none 14 [.v 0, .c (.int .i64 0), .c (.int .i64 400)] 1 [] <|
  (.lt none .not [.v 1] 1 <|
  (.leaf .ret [.v 2] ())))
/-- impl.total -/
def tm51 : Tm Unit :=
  (.lt none .len [.v 0] 1 <|
  (.bind 1
   (.loop [.c (.int .i64 0), .c (.int .i64 0)]
    (.lt none (.bin .lss) [.v 3, .v 1] 1 <|
    (.ite (.v 4)
     (.lt none .inb [.v 0, .v 3] 0 <|
     (.lt none (.row 1 0 [true]) [.v 0, .v 3] 1 <|
     (.lt none (.bin .add) [.v 2, .v 5] 1 <|
     (.lt none (.bin .add) [.v 3, .c (.int .i64 1)] 1 <|
     (.leaf .cont [.v 6, .v 7] ())))))
     (.leaf (.yield 1) [.v 2] ())))) <|
  (.leaf .ret [.v 2] ())))
/-- impl.goodTold -/
def tm52 : Tm Unit :=
  (.call none 14 [.v 0, .c (.int .i64 0), .c (.int .i64 3)] 1 [] <|
  (.lt (some (.v 2, true)) .id [.v 1] 1 <|
  (.call (some (.v 2, true)) 14 [.v 3, .c (.int .i64 0), .c (.int .i64 400)] 1 [] <|
  (.lt none .pick [.v 2, .v 4, .c (.bool false)] 1 <|
  (.lt (some (.v 5, true)) .id [.v 0] 1 <|
  (.lt (some (.v 5, true)) (.bin .eql) [.v 6, .c (.int .i64 3)] 1 <|
  (.lt (some (.v 5, true)) .id [.v 7] 1 <|
  (.lt (some (.v 8, false)) .id [.v 1] 1 <|
  (.lt (some (.v 8, false)) (.bin .eql) [.v 9, .c (.int .i64 0)] 1 <|
  (.lt (some (.v 5, true)) .pick [.v 8, .c (.bool true), .v 10] 1 <|
  (.lt none .pick [.v 5, .v 11, .c (.bool false)] 1 <|
  (.leaf .ret [.v 12] ()))))))))))))
/-- impl.PlayCmds -/
def tm53 : Tm Unit :=
  (.call none 54 [.v 0] 1 [] <|
  (.lt none .not [.v 1] 1 <|
  (.ite (.v 2)
   (.leaf .ret [.c (.rows 1 []), .c (.rows 2 []), .c (.bool false)] ())
   (.call none 58 [.v 0] 2 [] <|
   (.leaf .ret [.v 3, .v 4, .c (.bool true)] ())))))
/-- impl.goodCmds -/
def tm54 : Tm Unit :=
  (.lt none .len [.v 0] 1 <|
  (.lt none (.bin .leq) [.v 1, .c (.int .i64 60)] 1 <|
  (.call (some (.v 2, true)) 55 [.v 0] 1 [] <|
  (.lt (some (.v 2, true)) .not [.v 3] 1 <|
  (.lt none .pick [.v 2, .v 4, .c (.bool false)] 1 <|
  (.leaf .ret [.v 5] ()))))))
/-- slices.ContainsFunc[[]impl.Cmd,impl.Cmd]@impl.goodCmds$1 -/
def tm55 : Tm Unit :=
  (.call none 56 [.v 0] 1 [] <|
  (.lt none (.bin .geq) [.v 1, .c (.int .i64 0)] 1 <|
  (.leaf .ret [.v 2] ())))
/-- slices.IndexFunc[[]impl.Cmd,impl.Cmd]@impl.goodCmds$1 -/
def tm56 : Tm Unit :=
  (.lt none .len [.v 0] 1 <|
  (.bind 1
   (.loop [.c (.int .i64 0)]
    (.lt none (.bin .lss) [.v 2, .v 1] 1 <|
    (.ite (.v 3)
     (.lt none .inb [.v 0, .v 2] 0 <|
     (.lt none (.row 5 0 [true, true, true, true, true]) [.v 0, .v 2] 5 <|
     (.call none 57 [.v 4, .v 5, .v 6, .v 7, .v 8] 1 [] <|
     (.ite (.v 9)
      (.leaf .ret [.v 2] ())
      (.lt none (.bin .add) [.v 2, .c (.int .i64 1)] 1 <|
      (.leaf .cont [.v 10] ()))))))
     (.leaf (.yield 1) [] ())))) <|
  (.leaf .ret [.c (.int .i64 (-1))] ())))
/-- impl.goodCmds$1 -/
def tm57 : Tm Unit :=
  (.call none 15 [.v 0, .v 1, .v 2, .v 3, .v 4] 1 [] <|
  (.lt none .not [.v 5] 1 <|
  (.leaf .ret [.v 6] ())))
/-- impl.playCmds -/
def tm58 : Tm Unit :=
  (.call none 18 [] 1 [] <|
  (.lt none (.mk 2 0) [] 1 <|
  (.lt none .len [.v 0] 1 <|
  (.bind 1
   (.loop [.v 1, .v 2, .c (.int .i64 0)]
    (.lt none (.bin .lss) [.v 6, .v 3] 1 <|
    (.ite (.v 7)
     (.lt none .inb [.v 0, .v 6] 0 <|
     (.lt none (.row 5 0 [true, true, true, true, true]) [.v 0, .v 6] 5 <|
     (.call none 23 [.v 4, .v 8, .v 9, .v 10, .v 11, .v 12] 3 [] <|
     (.lt none (.dep 1) [.v 15] 0 <|
     (.lt none (.mk 2 1) [.v 13, .v 14] 1 <|
     (.lt none (.app 2 16 true) [.v 5, .v 16] 1 <|
     (.lt none (.bin .add) [.v 6, .c (.int .i64 1)] 1 <|
     (.leaf .cont [.v 15, .v 17, .v 18] ()))))))))
     (.leaf (.yield 1) [.v 4, .v 5] ())))) <|
  (.leaf .ret [.v 4, .v 5] ())))))
/-- impl.ServeAsk -/
def tm59 : Tm Unit :=
  (.call none 46 [.v 0, .v 1, .v 2] 1 [] <|
  (.lt none .not [.v 10] 1 <|
  (.call (some (.v 11, false)) 13 [.v 3, .v 4, .v 5, .v 6, .v 7, .v 8, .v 9] 1 [] <|
  (.lt (some (.v 11, false)) .not [.v 12] 1 <|
  (.lt none .pick [.v 11, .c (.bool true), .v 13] 1 <|
  (.ite (.v 14)
   (.leaf .ret [.c (.rows 1 []), .c (.rows 1 []), .c (.rows 2 []), .c (.int .i64 0), .c (.int .i64 0), .c (.int .i64 0), .c (.bool false)] ())
   (.call none 60 [.v 0, .v 1, .v 2] 3 [] <|
   (.call none 22 [.v 3, .v 4, .v 5, .v 6, .v 7, .v 8, .v 9, .v 15, .v 16, .v 17] 6 [] <|
   (.leaf .ret [.v 21, .v 22, .v 23, .v 18, .v 19, .v 20, .c (.bool true)] ())))))))))
/-- (impl.Clerk).copied -/
def tm60 : Tm Unit :=
  (.call none 61 [.v 0] 1 [] <|
  (.call none 61 [.v 1] 1 [] <|
  (.call none 62 [.v 2] 1 [] <|
  (.leaf .ret [.v 3, .v 4, .v 5] ()))))
/-- slices.Clone[[]int,int] -/
def tm61 : Tm Unit :=
  (.lt none .ne [.v 0] 0 <|
  (.lt none .emp [.v 0] 1 <|
  (.ite (.v 1)
   (.leaf .ret [.c (.rows 1 [])] ())
   (.lt none (.mk 1 0) [] 1 <|
   (.lt none (.app 1 8 true) [.v 2, .v 0] 1 <|
   (.leaf .ret [.v 3] ()))))))
/-- slices.Clone[[]impl.Told,impl.Told] -/
def tm62 : Tm Unit :=
  (.lt none .ne [.v 0] 0 <|
  (.lt none .emp [.v 0] 1 <|
  (.ite (.v 1)
   (.leaf .ret [.c (.rows 2 [])] ())
   (.lt none (.mk 2 0) [] 1 <|
   (.lt none (.app 2 16 true) [.v 2, .v 0] 1 <|
   (.leaf .ret [.v 3] ()))))))
/-- spec.DrawServeAsk -/
def tm63 : Tm Unit :=
  (.call none 64 [.v 0, .c (.int .i64 0), .c (.int .u64 0)] 6 [] <|
  (.call none 4 [.c (.int .i64 4), .v 4, .v 5, .v 6] 4 [] <|
  (.call none 4 [.c (.int .i64 3), .v 8, .v 9, .v 10] 4 [] <|
  (.lt none (.bin .add) [.c (.int .i64 1), .v 11] 1 <|
  (.call none 65 [.v 12, .v 13, .v 14] 8 [] <|
  (.bind 0
   (.lt none .len [.v 2] 1 <|
   (.lt none (.bin .eql) [.v 24, .c (.int .i64 4)] 1 <|
   (.call (some (.v 25, true)) 6 [.c (.int .i64 2), .v 21, .v 22, .v 23] 4 [.v 21, .v 22, .v 23] <|
   (.lt none .pick [.v 25, .v 26, .c (.bool false)] 1 <|
   (.ite (.v 30)
    (.lt none .inb [.v 2, .v 7] 0 <|
    (.lt none (.row 1 0 [true]) [.v 2, .v 7] 1 <|
    (.lt none (.bin .add) [.v 31, .c (.int .i64 1)] 1 <|
    (.leaf (.yield 0) [.v 27, .v 28, .v 29, .v 32] ()))))
    (.leaf (.yield 0) [.v 27, .v 28, .v 29, .v 15] ())))))) <|
  (.leaf .ret [.v 1, .v 2, .v 3, .v 7, .v 27, .v 16, .v 17, .v 18, .v 19, .v 20] ())))))))
/-- (*spec.l1Cur).clerk -/
def tm64 : Tm Unit :=
  (.call none 3 [.v 0, .v 1, .v 2] 4 [] <|
  (.call none 24 [.v 3] 6 [] <|
  (.lt none (.dep 99) [.v 7] 0 <|
  (.lt none (.dep 99) [.v 8] 0 <|
  (.lt none (.dep 99) [.v 9] 0 <|
  (.lt none (.dep 99) [.v 10] 0 <|
  (.lt none (.dep 99) [.v 11] 0 <|
  (.lt none .not [.v 12] 1 <|
  (.ite (.v 13)
   (.leaf .ret [.c (.rows 1 []), .c (.rows 1 []), .c (.rows 2 []), .v 4, .v 5, .v 6] ())
   (.bind 0
    (.call none 4 [.c (.int .i64 20), .v 4, .v 5, .v 6] 4 [] <|
    (.lt none (.bin .eql) [.v 14, .c (.int .i64 0)] 1 <|
    (.ite (.v 18)
     (.lt none (.mk 1 3) [.c (.int .i64 (-1)), .c (.int .i64 999), .c (.int .i64 1000)] 1 <|
     (.call none 8 [.v 19, .v 15, .v 16, .v 17] 4 [] <|
     (.lt none .inb [.v 8, .c (.int .i64 0)] 0 <|
     (.lt none (.set 1 0 1) [.v 8, .c (.int .i64 0), .v 20] 1 <|
     (.leaf (.yield 0) [.v 21, .v 22, .v 23, .v 24, .v 9] ())))))
     (.lt none (.bin .eql) [.v 14, .c (.int .i64 1)] 1 <|
     (.ite (.v 19)
      (.call none 4 [.c (.int .i64 5), .v 15, .v 16, .v 17] 4 [] <|
      (.call none 4 [.c (.int .i64 2), .v 21, .v 22, .v 23] 4 [] <|
      (.lt none .inb [.v 9, .c (.int .i64 0)] 0 <|
      (.lt none (.set 2 0 2) [.v 9, .c (.int .i64 0), .v 20, .v 24] 1 <|
      (.leaf (.yield 0) [.v 25, .v 26, .v 27, .v 8, .v 28] ())))))
      (.leaf (.yield 0) [.v 15, .v 16, .v 17, .v 8, .v 9] ())))))) <|
   (.leaf .ret [.v 7, .v 17, .v 18, .v 14, .v 15, .v 16] ())))))))))))
/-- (*spec.l1Cur).anyCmd -/
def tm65 : Tm Unit :=
  (.call none 7 [.v 0, .v 1, .v 2] 8 [] <|
  (.bind 0
   (.call none 4 [.c (.int .i64 20), .v 8, .v 9, .v 10] 4 [] <|
   (.lt none (.bin .eql) [.v 11, .c (.int .i64 0)] 1 <|
   (.ite (.v 15)
    (.leaf .ret [.c (.int .i64 0), .c (.int .i64 0), .c (.int .i64 0), .c (.int .i64 0), .c (.int .i64 0), .v 12, .v 13, .v 14] ())
    (.lt none (.bin .eql) [.v 11, .c (.int .i64 1)] 1 <|
    (.ite (.v 16)
     (.leaf (.yield 0) [.v 12, .v 13, .v 14, .v 3, .v 4, .v 5, .v 5, .v 7] ())
     (.lt none (.bin .eql) [.v 11, .c (.int .i64 2)] 1 <|
     (.ite (.v 17)
      (.lt none (.mk 1 3) [.c (.int .i64 0), .c (.int .i64 999), .c (.int .i64 1000)] 1 <|
      (.call none 8 [.v 18, .v 12, .v 13, .v 14] 4 [] <|
      (.leaf (.yield 0) [.v 20, .v 21, .v 22, .v 3, .v 19, .v 5, .v 6, .v 7] ())))
      (.lt none (.bin .eql) [.v 11, .c (.int .i64 3)] 1 <|
      (.ite (.v 18)
       (.lt none (.mk 1 3) [.c (.int .i64 0), .c (.int .i64 1000), .c (.int .i64 1001)] 1 <|
       (.call none 8 [.v 19, .v 12, .v 13, .v 14] 4 [] <|
       (.leaf (.yield 0) [.v 21, .v 22, .v 23, .v 3, .v 4, .v 5, .v 6, .v 20] ())))
       (.lt none (.bin .eql) [.v 11, .c (.int .i64 4)] 1 <|
       (.ite (.v 19)
        (.lt none (.mk 1 2) [.c (.int .i64 (-1)), .c (.int .i64 4)] 1 <|
        (.call none 8 [.v 20, .v 12, .v 13, .v 14] 4 [] <|
        (.leaf (.yield 0) [.v 22, .v 23, .v 24, .v 3, .v 4, .v 21, .v 6, .v 7] ())))
        (.lt none (.bin .eql) [.v 11, .c (.int .i64 5)] 1 <|
        (.ite (.v 20)
         (.call none 4 [.c (.int .i64 4), .v 12, .v 13, .v 14] 4 [] <|
         (.leaf (.yield 0) [.v 22, .v 23, .v 24, .v 21, .v 4, .v 5, .v 6, .v 7] ()))
         (.leaf (.yield 0) [.v 12, .v 13, .v 14, .v 3, .v 4, .v 5, .v 6, .v 7] ())))))))))))))) <|
  (.leaf .ret [.v 14, .v 15, .v 16, .v 17, .v 18, .v 11, .v 12, .v 13] ())))
/-- spec.ServeAsk -/
def tm66 : Tm Unit :=
  (.call none 67 [.v 0, .v 1, .v 2] 1 [] <|
  (.lt none .not [.v 10] 1 <|
  (.call (some (.v 11, false)) 26 [.v 3, .v 4, .v 5, .v 6, .v 7, .v 8, .v 9] 1 [] <|
  (.lt (some (.v 11, false)) .not [.v 12] 1 <|
  (.lt none .pick [.v 11, .c (.bool true), .v 13] 1 <|
  (.ite (.v 14)
   (.leaf .ret [.c (.rows 1 []), .c (.rows 1 []), .c (.rows 2 []), .c (.int .i64 0), .c (.int .i64 0), .c (.int .i64 0), .c (.bool false)] ())
   (.call none 34 [.v 0, .v 1, .v 2, .v 3, .v 4, .v 5, .v 6, .v 7, .v 8, .v 9] 6 [] <|
   (.leaf .ret [.v 15, .v 16, .v 17, .v 18, .v 19, .v 20, .c (.bool true)] ()))))))))
/-- spec.GoodClerk -/
def tm67 : Tm Unit :=
  (.call none 68 [.v 0] 1 [] <|
  (.lt none .not [.v 3] 1 <|
  (.lt (some (.v 4, false)) .len [.v 1] 1 <|
  (.lt (some (.v 4, false)) (.bin .neq) [.v 5, .c (.int .i64 4)] 1 <|
  (.lt none .pick [.v 4, .c (.bool true), .v 6] 1 <|
  (.lt (some (.v 7, false)) .len [.v 2] 1 <|
  (.lt (some (.v 7, false)) (.bin .neq) [.v 8, .c (.int .i64 4)] 1 <|
  (.lt none .pick [.v 7, .c (.bool true), .v 9] 1 <|
  (.call (some (.v 10, false)) 69 [.v 1, .c (.int .i64 0), .c (.int .i64 999)] 1 [] <|
  (.lt (some (.v 10, false)) .not [.v 11] 1 <|
  (.lt none .pick [.v 10, .c (.bool true), .v 12] 1 <|
  (.ite (.v 13)
   (.leaf .ret [.c (.bool false)] ())
   (.lt none .len [.v 2] 1 <|
   (.bind 1
    (.loop [.c (.int .i64 0)]
     (.lt none (.bin .lss) [.v 15, .v 14] 1 <|
     (.ite (.v 16)
      (.lt none .inb [.v 2, .v 15] 0 <|
      (.lt none (.row 2 0 [true, true]) [.v 2, .v 15] 2 <|
      (.call none 70 [.v 17, .v 18] 1 [] <|
      (.lt none .not [.v 19] 1 <|
      (.lt (some (.v 20, false)) .id [.v 15] 1 <|
      (.lt (some (.v 20, false)) .inb [.v 1, .v 21] 0 <|
      (.lt (some (.v 20, false)) (.row 1 0 [true]) [.v 1, .v 21] 1 <|
      (.lt (some (.v 20, false)) (.bin .eql) [.v 22, .c (.int .i64 0)] 1 <|
      (.lt (some (.v 20, false)) .id [.v 23] 1 <|
      (.lt (some (.v 24, true)) .id [.v 17] 1 <|
      (.lt (some (.v 24, true)) (.bin .neq) [.v 25, .c (.int .i64 0)] 1 <|
      (.lt (some (.v 20, false)) .pick [.v 24, .v 26, .c (.bool false)] 1 <|
      (.lt none .pick [.v 20, .c (.bool true), .v 27] 1 <|
      (.ite (.v 28)
       (.leaf .ret [.c (.bool false)] ())
       (.lt none (.bin .add) [.v 15, .c (.int .i64 1)] 1 <|
       (.leaf .cont [.v 29] ()))))))))))))))))
      (.leaf (.yield 1) [] ())))) <|
   (.leaf .ret [.c (.bool true)] ())))))))))))))))
/-- spec.GoodSums -/
def tm68 : Tm Unit :=
  (.lt none .len [.v 0] 1 <|
  (.bind 1
   (.loop [.c (.int .i64 0), .c (.int .i64 0)]
    (.lt none (.bin .lss) [.v 3, .v 1] 1 <|
    (.ite (.v 4)
     (.lt none .inb [.v 0, .v 3] 0 <|
     (.lt none (.row 1 0 [true]) [.v 0, .v 3] 1 <|
     (.call none 27 [.v 5, .c (.int .i64 0), .c (.int .i64 400)] 1 [] <|
     (.lt none .not [.v 6] 1 <|
     (.ite (.v 7)
      (.leaf .ret [.c (.bool false)] ())
      (.lt none (.bin .add) [.v 2, .v 5] 1 <|
      (.lt none (.bin .add) [.v 3, .c (.int .i64 1)] 1 <|
      (.leaf .cont [.v 8, .v 9] ()))))))))
     (.leaf (.yield 1) [.v 2] ())))) <|
  (.lt none .len [.v 0] 1 <|
  (.lt none (.bin .eql) [.v 3, .c (.int .i64 4)] 1 <|
  (.lt (some (.v 4, true)) .id [.v 2] 1 <|
  (.lt (some (.v 4, true)) (.bin .eql) [.v 5, .c (.int .i64 400)] 1 <|
  (.lt none .pick [.v 4, .v 6, .c (.bool false)] 1 <|
  (.leaf .ret [.v 7] ()))))))))
/-- spec.l1All -/
def tm69 : Tm Unit :=
  (.lt none .len [.v 0] 1 <|
  (.bind 1
   (.loop [.c (.int .i64 0)]
    (.lt none (.bin .lss) [.v 4, .v 3] 1 <|
    (.ite (.v 5)
     (.lt none .inb [.v 0, .v 4] 0 <|
     (.lt none (.row 1 0 [true]) [.v 0, .v 4] 1 <|
     (.call none 27 [.v 6, .v 1, .v 2] 1 [] <|
     (.lt none .not [.v 7] 1 <|
     (.ite (.v 8)
      (.leaf .ret [.c (.bool false)] ())
      (.lt none (.bin .add) [.v 4, .c (.int .i64 1)] 1 <|
      (.leaf .cont [.v 9] ())))))))
     (.leaf (.yield 1) [] ())))) <|
  (.leaf .ret [.c (.bool true)] ())))
/-- spec.l15Told -/
def tm70 : Tm Unit :=
  (.call none 27 [.v 0, .c (.int .i64 0), .c (.int .i64 3)] 1 [] <|
  (.lt (some (.v 2, true)) .id [.v 1] 1 <|
  (.call (some (.v 2, true)) 27 [.v 3, .c (.int .i64 0), .c (.int .i64 400)] 1 [] <|
  (.lt none .pick [.v 2, .v 4, .c (.bool false)] 1 <|
  (.lt (some (.v 5, true)) .id [.v 0] 1 <|
  (.lt (some (.v 5, true)) (.bin .eql) [.v 6, .c (.int .i64 3)] 1 <|
  (.lt (some (.v 5, true)) .id [.v 7] 1 <|
  (.lt (some (.v 8, false)) .id [.v 1] 1 <|
  (.lt (some (.v 8, false)) (.bin .eql) [.v 9, .c (.int .i64 0)] 1 <|
  (.lt (some (.v 5, true)) .pick [.v 8, .c (.bool true), .v 10] 1 <|
  (.lt none .pick [.v 5, .v 11, .c (.bool false)] 1 <|
  (.leaf .ret [.v 12] ()))))))))))))
/-- spec.DrawSameClerk -/
def tm71 : Tm Unit :=
  (.call none 64 [.v 0, .c (.int .i64 0), .c (.int .u64 0)] 6 [] <|
  (.call none 6 [.c (.int .i64 2), .v 4, .v 5, .v 6] 4 [] <|
  (.ite (.v 7)
   (.call none 35 [.v 1, .v 2, .v 3] 3 [] <|
   (.lt none (.dep 99) [.v 11] 0 <|
   (.lt none (.dep 99) [.v 12] 0 <|
   (.lt none (.dep 99) [.v 13] 0 <|
   (.leaf .ret [.v 1, .v 2, .v 3, .v 11, .v 12, .v 13] ())))))
   (.call none 64 [.v 8, .v 9, .v 10] 6 [] <|
   (.leaf .ret [.v 1, .v 2, .v 3, .v 11, .v 12, .v 13] ())))))
/-- spec.SameClerk -/
def tm72 : Tm Unit :=
  (.call none 73 [.v 0, .v 3] 1 [] <|
  (.lt none .not [.v 6] 1 <|
  (.call (some (.v 7, false)) 73 [.v 1, .v 4] 1 [] <|
  (.lt (some (.v 7, false)) .not [.v 8] 1 <|
  (.lt none .pick [.v 7, .c (.bool true), .v 9] 1 <|
  (.lt (some (.v 10, false)) .len [.v 2] 1 <|
  (.lt (some (.v 10, false)) .len [.v 5] 1 <|
  (.lt (some (.v 10, false)) (.bin .neq) [.v 11, .v 12] 1 <|
  (.lt none .pick [.v 10, .c (.bool true), .v 13] 1 <|
  (.ite (.v 14)
   (.leaf .ret [.c (.bool false)] ())
   (.lt none .len [.v 2] 1 <|
   (.bind 1
    (.loop [.c (.int .i64 0)]
     (.lt none (.bin .lss) [.v 16, .v 15] 1 <|
     (.ite (.v 17)
      (.lt none .inb [.v 2, .v 16] 0 <|
      (.lt none (.row 2 0 [true, true]) [.v 2, .v 16] 2 <|
      (.lt none .inb [.v 5, .v 16] 0 <|
      (.lt none (.row 2 0 [true, true]) [.v 5, .v 16] 2 <|
      (.lt none (.eqs [0, 0]) [.v 18, .v 19, .v 20, .v 21] 1 <|
      (.lt none .not [.v 22] 1 <|
      (.ite (.v 23)
       (.leaf .ret [.c (.bool false)] ())
       (.lt none (.bin .add) [.v 16, .c (.int .i64 1)] 1 <|
       (.leaf .cont [.v 24] ())))))))))
      (.leaf (.yield 1) [] ())))) <|
   (.leaf .ret [.c (.bool true)] ())))))))))))))
/-- spec.l1Same -/
def tm73 : Tm Unit :=
  (.lt none .len [.v 0] 1 <|
  (.lt none .len [.v 1] 1 <|
  (.lt none (.bin .neq) [.v 2, .v 3] 1 <|
  (.ite (.v 4)
   (.leaf .ret [.c (.bool false)] ())
   (.lt none .len [.v 0] 1 <|
   (.bind 1
    (.loop [.c (.int .i64 0)]
     (.lt none (.bin .lss) [.v 6, .v 5] 1 <|
     (.ite (.v 7)
      (.lt none .inb [.v 0, .v 6] 0 <|
      (.lt none (.row 1 0 [true]) [.v 0, .v 6] 1 <|
      (.lt none .inb [.v 1, .v 6] 0 <|
      (.lt none (.row 1 0 [true]) [.v 1, .v 6] 1 <|
      (.lt none (.bin .neq) [.v 8, .v 9] 1 <|
      (.ite (.v 10)
       (.leaf .ret [.c (.bool false)] ())
       (.lt none (.bin .add) [.v 6, .c (.int .i64 1)] 1 <|
       (.leaf .cont [.v 11] ()))))))))
      (.leaf (.yield 1) [] ())))) <|
   (.leaf .ret [.c (.bool true)] ())))))))
theorem cl61 : ∀ n, Contract Try.prog (entTab [(61, .tm tm61)]) n 61 sg61 := fun n => contracts tiL_ok (by kernel_rfl) (fnOk_all (List.forall_mem_cons.2 ⟨fnOk_tm (E := ⟨tiTab tiL, [(61, sg61)], 0, 0, false, false, [], []⟩) Try.func148 (by kernel_rfl) (tm := tm61) (by kernel_rfl) (by kernel_rfl), List.forall_mem_nil _⟩)) n 61 sg61 (by simp)
def ren61 : Go.Shelf.Ren := ⟨fun | 41 => 148 | n => n, fun | 4 => 4 | 22 => 22 | 23 => 3 | n => n, fun n => n⟩
theorem lays61 : Go.Proofs.SlLaysE0.n41 Try.prog ren61 := { mixed := by kernel_rfl, f41 := ⟨Try.f148.name, by kernel_rfl, Try.func148.trans (congrArg some (by kernel_rfl))⟩, t4 := Try.underlying4, a4 := Try.isAgg4, z4 := Try.sizeOf4, v4 := Try.zeroValue4, t22 := Try.underlying22, a22 := Try.isAgg22, z22 := Try.sizeOf22, v22 := Try.zeroValue22 }
noncomputable def ex61 : List D → Option (List D) := cloneE 1 (entTab [(61, .tm tm61)]) 61
theorem cl62 : ∀ n, Contract Try.prog (entTab [(62, .tm tm62)]) n 62 sg62 := fun n => contracts tiL_ok (by kernel_rfl) (fnOk_all (List.forall_mem_cons.2 ⟨fnOk_tm (E := ⟨tiTab tiL, [(62, sg62)], 0, 0, false, false, [], []⟩) Try.func149 (by kernel_rfl) (tm := tm62) (by kernel_rfl) (by kernel_rfl), List.forall_mem_nil _⟩)) n 62 sg62 (by simp)
def ren62 : Go.Shelf.Ren := ⟨fun | 41 => 149 | n => n, fun | 4 => 4 | 22 => 23 | 23 => 57 | n => n, fun n => n⟩
theorem lays62 : Go.Proofs.SlLaysE0.n41 Try.prog ren62 := { mixed := by kernel_rfl, f41 := ⟨Try.f149.name, by kernel_rfl, Try.func149.trans (congrArg some (by kernel_rfl))⟩, t4 := Try.underlying4, a4 := Try.isAgg4, z4 := Try.sizeOf4, v4 := Try.zeroValue4, t22 := Try.underlying23, a22 := Try.isAgg23, z22 := Try.sizeOf23, v22 := Try.zeroValue23 }
noncomputable def ex62 : List D → Option (List D) := cloneE 2 (entTab [(62, .tm tm62)]) 62

noncomputable def T : Nat → Ent := entTab [(0, .tm tm0), (1, .tm tm1), (2, .tm tm2), (3, .tm tm3), (4, .tm tm4), (5, .tm tm5), (6, .tm tm6), (7, .tm tm7), (8, .tm tm8), (9, .tm tm9), (10, .tm tm10), (11, .tm tm11), (12, .tm tm12), (13, .tm tm13), (14, .tm tm14), (15, .tm tm15), (16, .tm tm16), (17, .tm tm17), (18, .tm tm18), (19, .ext repE), (22, .tm tm22), (23, .tm tm23), (24, .tm tm24), (25, .tm tm25), (26, .tm tm26), (27, .tm tm27), (28, .tm tm28), (29, .tm tm29), (30, .tm tm30), (31, .tm tm31), (32, .tm tm32), (33, .tm tm33), (34, .tm tm34), (35, .tm tm35), (36, .tm tm36), (37, .tm tm37), (38, .tm tm38), (39, .tm tm39), (40, .tm tm40), (41, .tm tm41), (42, .tm tm42), (43, .tm tm43), (44, .tm tm44), (45, .tm tm45), (46, .tm tm46), (47, .tm tm47), (48, .tm tm48), (49, .tm tm49), (50, .tm tm50), (51, .tm tm51), (52, .tm tm52), (53, .tm tm53), (54, .tm tm54), (55, .tm tm55), (56, .tm tm56), (57, .tm tm57), (58, .tm tm58), (59, .tm tm59), (60, .tm tm60), (61, .ext ex61), (62, .ext ex62), (63, .tm tm63), (64, .tm tm64), (65, .tm tm65), (66, .tm tm66), (67, .tm tm67), (68, .tm tm68), (69, .tm tm69), (70, .tm tm70), (71, .tm tm71), (72, .tm tm72), (73, .tm tm73)]
abbrev K := FnOk Try.prog T (tiTab tiL) sigs
theorem ok61 : FnOk Try.prog T (tiTab tiL) sigs 61 sg61 := clone_ent (m := 98) lays61 rfl (by kernel_rfl) Try.sizeOf3 cl61 rfl
theorem ok62 : FnOk Try.prog T (tiTab tiL) sigs 62 sg62 := clone_ent (m := 98) lays62 rfl (by kernel_rfl) Try.sizeOf57 cl62 rfl
open Go.RowKit in
set_option maxHeartbeats 2000000 in
theorem repMul (w : World) : Calls Try.prog 173 #[.int .u64 1, .int .u64 4] w fun e w' => e = .returned (.tuple #[.int .u64 0, .int .u64 4]) ∧ w' = w := by
  go_enter Try.func173, Try.ntmps173
  go_wp2
  go_ret2
  exact ⟨rfl, rfl⟩
open Go.RowKit in
set_option maxHeartbeats 2000000 in
theorem repWalk : RepWalk Try.prog 136 := by
  intro a c x w hc
  have hmk : ∀ w, (Instr.makeSlice 22 (.int .i64 4) (.int .i64 4)).run Try.prog w = .ok (.slice (some ⟨w.heap.size, 0, none⟩) 4 4) (w.alloc (.cells #[.int .i64 0, .int .i64 0, .int .i64 0, .int .i64 0] 3)) := fun w => by kernel_rfl
  have hsz : (Try.prog.info? 3).map (·.size) = some 1 := by kernel_rfl
  obtain ⟨W1, e1, b1, hc1⟩ := rep_copy1 (P := Try.prog) 22 3 w a c x Try.underlying22 hsz hc
  obtain ⟨W2, e2, b2, hc2⟩ := rep_copy2 (P := Try.prog) 22 3 w W1 x Try.underlying22 hsz e1 b1
  obtain ⟨W3, e3, b3, hc3⟩ := rep_copy3 (P := Try.prog) 22 3 w W2 x Try.underlying22 hsz e2 b2
  go_enter Try.func136, Try.ntmps136
  go_wp2_with (go_at_call 173; refine (repMul _).mono ?_; rintro e w' ⟨rfl, hw⟩; rw [hw])
  refine wp_loop_rounds 3 ?_
  rw [rounds_succ]
  go_wp2
  go_region
  go_wp2
  rw [rounds_succ]
  go_wp2
  go_region
  go_wp2
  rw [rounds_succ]
  go_wp2
  go_ret
  exact ⟨w.heap.size, 4, 3, rfl, Nat.le_refl _, Nat.le_refl _, Nat.le_refl _, e3, b3⟩
theorem ok19 : FnOk Try.prog T (tiTab tiL) sigs 19 sg19 := rep_ent Try.func136 (by kernel_rfl) rfl repWalk rfl
theorem ok0 : K 0 sg0 := fnK (E := ⟨tiTab tiL, sigs, 0, 0, false, false, [], [(16, [(66, 0, 2, 99), (462, 0, 0, 0)], [3, 15, 18, 21, 24, 42, 48, 57, 60, 66, 459, 462, 43, 79, 259], 480, [241, 385, 388, 391, 394, 397, 961, 964, 967, 970, 973, 1537, 1873, 3841, 3844, 3847, 3850, 3853]), (26, [(615, 0, 0, 0)], [3, 18, 21, 24, 609, 612, 615, 43, 79, 259], 1104, [1, 4, 7, 10, 13, 16, 19, 22, 25, 28, 31, 34, 37, 40, 43, 46, 49, 52, 55, 58, 61, 64, 67, 70, 73, 76, 79, 82, 85, 88, 91, 94, 97, 100, 103, 106, 109, 112, 115, 118, 121, 124, 127, 130, 133, 136, 139, 142, 145, 148, 151, 154, 157, 160, 163, 166, 169, 172, 175, 178, 181, 184, 187, 190, 193, 196, 199, 202, 205, 208, 211, 214, 217, 220, 223, 226, 229, 232, 235, 238, 241, 244, 247, 250, 253, 256, 259, 262, 265, 268, 271, 274, 277, 280, 283, 286, 289, 292, 295, 298, 301, 304, 307, 310, 313, 316, 319, 322, 325, 328, 331, 334, 337, 340, 343, 346, 349, 352, 355, 358, 361, 364, 367, 370, 373, 376, 379, 382, 385, 388, 391, 394, 397, 400, 403, 406, 409, 412, 415, 418, 421, 424, 427, 430, 433, 436, 439, 442, 445, 448, 451, 454, 457, 460, 463, 466, 469, 472, 475, 478, 481, 484, 487, 490, 493, 496, 499, 502, 505, 508, 511, 514, 517, 520, 523, 526, 529, 532, 535, 538, 541, 544, 547, 550, 553, 556, 559, 562, 565, 568, 571, 574, 577, 580, 583, 586, 589, 592, 595, 598, 601, 604, 607, 610, 613, 616, 619, 622, 625, 628, 631, 634, 637, 640, 643, 646, 649, 652, 655, 658, 661, 664, 667, 670, 673, 676, 679, 682, 685, 688, 691, 694, 697, 700, 703, 706, 709, 712, 715, 718, 721, 724, 727, 730, 733, 736, 739, 742, 745, 748, 751, 754, 757, 760, 763, 766, 769, 772, 775, 778, 781, 784, 787, 790, 793, 796, 799, 802, 805, 808, 811, 814, 817, 820, 823, 826, 829, 832, 835, 838, 841, 844, 847, 850, 853, 856, 859, 862, 865, 868, 871, 874, 877, 880, 883, 886, 889, 892, 895, 898, 901, 904, 907, 910, 913, 916, 919, 922, 925, 928, 931, 934, 937, 940, 943, 946, 949, 952, 955, 958, 961, 964, 967, 970, 973, 976, 979, 982, 985, 988, 991, 994, 997, 1000, 1003, 1006, 1009, 1012, 1015, 1018, 1021, 1024, 1027, 1030, 1033, 1036, 1039, 1042, 1045, 1048, 1051, 1054, 1057, 1060, 1063, 1066, 1069, 1072, 1075, 1078, 1081, 1084, 1087, 1090, 1093, 1096, 1099, 1102, 1105, 1108, 1111, 1114, 1117, 1120, 1123, 1126, 1129, 1132, 1135, 1138, 1141, 1144, 1147, 1150, 1153, 1156, 1159, 1162, 1165, 1168, 1171, 1174, 1177, 1180, 1183, 1186, 1189, 1192, 1195, 1198, 1201, 1204, 1207, 1210, 1213, 1216, 1219, 1222, 1225, 1228, 1231, 1234, 1237, 1240, 1243, 1246, 1249, 1252, 1255, 1258, 1261, 1264, 1267, 1270, 1273, 1276, 1279, 1282, 1285, 1288, 1291, 1294, 1297, 1300, 1303, 1306, 1309, 1312, 1315, 1318, 1321, 1324, 1327, 1330, 1333, 1336, 1339, 1342, 1345, 1348, 1351, 1354, 1357, 1360, 1363, 1366, 1369, 1372, 1375, 1378, 1381, 1384, 1387, 1390, 1393, 1396, 1399, 1402, 1405, 1408, 1411, 1414, 1417, 1420, 1423, 1426, 1429, 1432, 1435, 1438, 1441, 1444, 1447, 1450, 1453, 1456, 1459, 1462, 1465, 1468, 1471, 1474, 1477, 1480, 1483, 1486, 1489, 1492, 1495, 1498, 1501, 1504, 1507, 1510, 1513, 1516, 1519, 1522, 1525, 1528, 1531, 1534, 1537, 1540, 1543, 1546, 1549, 1552, 1555, 1558, 1561, 1564, 1567, 1570, 1573, 1576, 1579, 1582, 1585, 1588, 1591, 1594, 1597, 1600, 1603, 1606, 1609, 1612, 1615, 1618, 1621, 1624, 1627, 1630, 1633, 1636, 1639, 1642, 1645, 1648, 1651, 1654, 1657, 1660, 1663, 1666, 1669, 1672, 1675, 1678, 1681, 1684, 1687, 1690, 1693, 1696, 1699, 1702, 1705, 1708, 1711, 1714, 1717, 1720, 1723, 1726, 1729, 1732, 1735, 1738, 1741, 1744, 1747, 1750, 1753, 1756, 1759, 1762, 1765, 1768, 1771, 1774, 1777, 1780, 1783, 1786, 1789, 1792, 1795, 1798, 1801, 1804, 1807, 1810, 1813, 1816, 1819, 1822, 1825, 1828, 1831, 1834, 1837, 1840, 1843, 1846, 1849, 1852, 1855, 1858, 1861, 1864, 1867, 1870, 1873, 1876, 1879, 1882, 1885, 1888, 1891, 1894, 1897, 1900, 1903, 1906, 1909, 1912, 1915, 1918, 1921, 1924, 1927, 1930, 1933, 1936, 1939, 1942, 1945, 1948, 1951, 1954, 1957, 1960, 1963, 1966, 1969, 1972, 1975, 1978, 1981, 1984, 1987, 1990, 1993, 1996, 1999, 2002, 2005, 2008, 2011, 2014, 2017, 2020, 2023, 2026, 2029, 2032, 2035, 2038, 2041, 2044, 2047, 2050, 2053, 2056, 2059, 2062, 2065, 2068, 2071, 2074, 2077, 2080, 2083, 2086, 2089, 2092, 2095, 2098, 2101, 2104, 2107, 2110, 2113, 2116, 2119, 2122, 2125, 2128, 2131, 2134, 2137, 2140, 2143, 2146, 2149, 2152, 2155, 2158, 2161, 2164, 2167, 2170, 2173, 2176, 2179, 2182, 2185, 2188, 2191, 2194, 2197, 2200, 2203, 2206, 2209, 2212, 2215, 2218, 2221, 2224, 2227, 2230, 2233, 2236, 2239, 2242, 2245, 2248, 2251, 2254, 2257, 2260, 2263, 2266, 2269, 2272, 2275, 2278, 2281, 2284, 2287, 2290, 2293, 2296, 2299, 2302, 2305, 2308, 2311, 2314, 2317, 2320, 2323, 2326, 2329, 2332, 2335, 2338, 2341, 2344, 2347, 2350, 2353, 2356, 2359, 2362, 2365, 2368, 2371, 2374, 2377, 2380, 2383, 2386, 2389, 2392, 2395, 2398, 2401, 2404, 2407, 2410, 2413, 2416, 2419, 2422, 2425, 2428, 2431, 2434, 2437, 2440, 2443, 2446, 2449, 2452, 2455, 2458, 2461, 2464, 2467, 2470, 2473, 2476, 2479, 2482, 2485, 2488, 2491, 2494, 2497, 2500, 2503, 2506, 2509, 2512, 2515, 2518, 2521, 2524, 2527, 2530, 2533, 2536, 2539, 2542, 2545, 2548, 2551, 2554, 2557, 2560, 2563, 2566, 2569, 2572, 2575, 2578, 2581, 2584, 2587, 2590, 2593, 2596, 2599, 2602, 2605, 2608, 2611, 2614, 2617, 2620, 2623, 2626, 2629, 2632, 2635, 2638, 2641, 2644, 2647, 2650, 2653, 2656, 2659, 2662, 2665, 2668, 2671, 2674, 2677, 2680, 2683, 2686, 2689, 2692, 2695, 2698, 2701, 2704, 2707, 2710, 2713, 2716, 2719, 2722, 2725, 2728, 2731, 2734, 2737, 2740, 2743, 2746, 2749, 2752, 2755, 2758, 2761, 2764, 2767, 2770, 2773, 2776, 2779, 2782, 2785, 2788, 2791, 2794, 2797, 2800, 2803, 2806, 2809, 2812, 2815, 2818, 2821, 2824, 2827, 2830, 2833, 2836, 2839, 2842, 2845, 2848, 2851, 2854, 2857, 2860, 2863, 2866, 2869, 2872, 2875, 2878, 2881, 2884, 2887, 2890, 2893, 2896, 2899, 2902, 2905, 2908, 2911, 2914, 2917, 2920, 2923, 2926, 2929, 2932, 2935, 2938, 2941, 2944, 2947, 2950, 2953, 2956, 2959, 2962, 2965, 2968, 2971, 2974, 2977, 2980, 2983, 2986, 2989, 2992, 2995, 2998, 3001, 3004, 3007, 3010, 3013, 3016, 3019, 3022, 3025, 3028, 3031, 3034, 3037, 3040, 3043, 3046, 3049, 3052, 3055, 3058, 3061, 3064, 3067, 3070, 3073, 3076, 3079, 3082, 3085, 3088, 3091, 3094, 3097, 3100, 3103, 3106, 3109, 3112, 3115, 3118, 3121, 3124, 3127, 3130, 3133, 3136, 3139, 3142, 3145, 3148, 3151, 3154, 3157, 3160, 3163, 3166, 3169, 3172, 3175, 3178, 3181, 3184, 3187, 3190, 3193, 3196, 3199, 3202, 3205, 3208, 3211, 3214, 3217, 3220, 3223, 3226, 3229, 3232, 3235, 3238, 3241, 3244, 3247, 3250, 3253, 3256, 3259, 3262, 3265, 3268, 3271, 3274, 3277, 3280, 3283, 3286, 3289, 3292, 3295, 3298, 3301, 3304, 3307, 3310, 3313, 3316, 3319, 3322, 3325, 3328, 3331, 3334, 3337, 3340, 3343, 3346, 3349, 3352, 3355, 3358, 3361, 3364, 3367, 3370, 3373, 3376, 3379, 3382, 3385, 3388, 3391, 3394, 3397, 3400, 3403, 3406, 3409, 3412, 3415, 3418, 3421, 3424, 3427, 3430, 3433, 3436, 3439, 3442, 3445, 3448, 3451, 3454, 3457, 3460, 3463, 3466, 3469, 3472, 3475, 3478, 3481, 3484, 3487, 3490, 3493, 3496, 3499, 3502, 3505, 3508, 3511, 3514, 3517, 3520, 3523, 3526, 3529, 3532, 3535, 3538, 3541, 3544, 3547, 3550, 3553, 3556, 3559, 3562, 3565, 3568, 3571, 3574, 3577, 3580, 3583, 3586, 3589, 3592, 3595, 3598, 3601, 3604, 3607, 3610, 3613, 3616, 3619, 3622, 3625, 3628, 3631, 3634, 3637, 3640, 3643, 3646, 3649, 3652, 3655, 3658, 3661, 3664, 3667, 3670, 3673, 3676, 3679, 3682, 3685, 3688, 3691, 3694, 3697, 3700, 3703, 3706, 3709, 3712, 3715, 3718, 3721, 3724, 3727, 3730, 3733, 3736, 3739, 3742, 3745, 3748, 3751, 3754, 3757, 3760, 3763, 3766, 3769, 3772, 3775, 3778, 3781, 3784, 3787, 3790, 3793, 3796, 3799, 3802, 3805, 3808, 3811, 3814, 3817, 3820, 3823, 3826, 3829, 3832, 3835, 3838, 3841, 3844, 3847, 3850, 3853, 3856, 3859, 3862, 3865, 3868, 3871, 3874, 3877, 3880, 3883, 3886, 3889, 3892, 3895, 3898, 3901, 3904, 3907, 3910, 3913, 3916, 3919, 3922, 3925, 3928, 3931, 3934, 3937, 3940, 3943, 3946, 3949, 3952, 3955, 3958, 3961, 3964, 3967, 3970, 3973, 3976, 3979, 3982, 3985, 3988, 3991, 3994, 3997, 4000, 4003, 4006, 4009, 4012, 4015, 4018, 4021, 4024, 4027, 4030, 4033, 4036, 4039, 4042, 4045, 4048, 4051, 4054, 4057, 4060, 4063, 4066, 4069, 4072, 4075, 4078, 4081, 4084, 4087, 4090, 4093, 4096, 4099, 4102, 4105, 4108, 4111, 4114, 4117, 4120, 4123, 4126, 4129, 4132, 4135, 4138, 4141, 4144, 4147, 4150, 4153, 4156, 4159, 4162, 4165, 4168, 4171, 4174, 4177, 4180, 4183, 4186, 4189, 4192, 4195, 4198, 4201, 4204, 4207, 4210, 4213, 4216, 4219, 4222, 4225, 4228, 4231, 4234, 4237, 4240, 4243, 4246, 4249, 4252, 4255, 4258, 4261, 4264, 4267, 4270, 4273, 4276, 4279, 4282, 4285, 4288, 4291, 4294, 4297, 4300, 4303, 4306, 4309, 4312, 4315, 4318, 4321, 4324, 4327, 4330, 4333, 4336, 4339, 4342, 4345, 4348, 4351, 4354, 4357, 4360, 4363, 4366, 4369, 4372, 4375, 4378, 4381, 4384, 4387, 4390, 4393, 4396, 4399, 4402, 4405, 4408, 4411, 4414, 4417, 4420, 4423, 4426, 4429, 4432, 4435, 4438, 4441, 4444, 4447, 4450, 4453, 4456, 4459, 4462, 4465, 4468, 4471, 4474, 4477, 4480, 4483, 4486, 4489, 4492, 4495, 4498, 4501, 4504, 4507, 4510, 4513, 4516, 4519, 4522, 4525, 4528, 4531, 4534, 4537, 4540, 4543, 4546, 4549, 4552, 4555, 4558, 4561, 4564, 4567, 4570, 4573, 4576, 4579, 4582, 4585, 4588, 4591, 4594, 4597, 4600, 4603, 4606, 4609, 4612, 4615, 4618, 4621, 4624, 4627, 4630, 4633, 4636, 4639, 4642, 4645, 4648, 4651, 4654, 4657, 4660, 4663, 4666, 4669, 4672, 4675, 4678, 4681, 4684, 4687, 4690, 4693, 4696, 4699, 4702, 4705, 4708, 4711, 4714, 4717, 4720, 4723, 4726, 4729, 4732, 4735, 4738, 4741, 4744, 4747, 4750, 4753, 4756, 4759, 4762, 4765, 4768, 4771, 4774, 4777, 4780, 4783, 4786, 4789, 4792, 4795, 4798, 4801, 4804, 4807, 4810, 4813, 4816, 4819, 4822, 4825, 4828, 4831, 4834, 4837, 4840, 4843, 4846, 4849, 4852, 4855, 4858, 4861, 4864, 4867, 4870, 4873, 4876, 4879, 4882, 4885, 4888, 4891, 4894, 4897, 4900, 4903, 4906, 4909, 4912, 4915, 4918, 4921, 4924, 4927, 4930, 4933, 4936, 4939, 4942, 4945, 4948, 4951, 4954, 4957, 4960, 4963, 4966, 4969, 4972, 4975, 4978, 4981, 4984, 4987, 4990, 4993, 4996, 4999, 5002, 5005, 5008, 5011, 5014, 5017, 5020, 5023, 5026, 5029, 5032, 5035, 5038, 5041, 5044, 5047, 5050, 5053, 5056, 5059, 5062, 5065, 5068, 5071, 5074, 5077, 5080, 5083, 5086, 5089, 5092, 5095, 5098, 5101, 5104, 5107, 5110, 5113, 5116, 5119, 5122, 5125, 5128, 5131, 5134, 5137, 5140, 5143, 5146, 5149, 5152, 5155, 5158, 5161, 5164, 5167, 5170, 5173, 5176, 5179, 5182, 5185, 5188, 5191, 5194, 5197, 5200, 5203, 5206, 5209, 5212, 5215, 5218, 5221, 5224, 5227, 5230, 5233, 5236, 5239, 5242, 5245, 5248, 5251, 5254, 5257, 5260, 5263, 5266, 5269, 5272, 5275, 5278, 5281, 5284, 5287, 5290, 5293, 5296, 5299, 5302, 5305, 5308, 5311, 5314, 5317, 5320, 5323, 5326, 5329, 5332, 5335, 5338, 5341, 5344, 5347, 5350, 5353, 5356, 5359, 5362, 5365, 5368, 5371, 5374, 5377, 5380, 5383, 5386, 5389, 5392, 5395, 5398, 5401, 5404, 5407, 5410, 5413, 5416, 5419, 5422, 5425, 5428, 5431, 5434, 5437, 5440, 5443, 5446, 5449, 5452, 5455, 5458, 5461, 5464, 5467, 5470, 5473, 5476, 5479, 5482, 5485, 5488, 5491, 5494, 5497, 5500, 5503, 5506, 5509, 5512, 5515, 5518, 5521, 5524, 5527, 5530, 5533, 5536, 5539, 5542, 5545, 5548, 5551, 5554, 5557, 5560, 5563, 5566, 5569, 5572, 5575, 5578, 5581, 5584, 5587, 5590, 5593, 5596, 5599, 5602, 5605, 5608, 5611, 5614, 5617, 5620, 5623, 5626, 5629, 5632, 5635, 5638, 5641, 5644, 5647, 5650, 5653, 5656, 5659, 5662, 5665, 5668, 5671, 5674, 5677, 5680, 5683, 5686, 5689, 5692, 5695, 5698, 5701, 5704, 5707, 5710, 5713, 5716, 5719, 5722, 5725, 5728, 5731, 5734, 5737, 5740, 5743, 5746, 5749, 5752, 5755, 5758, 5761, 5764, 5767, 5770, 5773, 5776, 5779, 5782, 5785, 5788, 5791, 5794, 5797, 5800, 5803, 5806, 5809, 5812, 5815, 5818, 5821, 5824, 5827, 5830, 5833, 5836, 5839, 5842, 5845, 5848, 5851, 5854, 5857, 5860, 5863, 5866, 5869, 5872, 5875, 5878, 5881, 5884, 5887, 5890, 5893, 5896, 5899, 5902, 5905, 5908, 5911, 5914, 5917, 5920, 5923, 5926, 5929, 5932, 5935, 5938, 5941, 5944, 5947, 5950, 5953, 5956, 5959, 5962, 5965, 5968, 5971, 5974, 5977, 5980, 5983, 5986, 5989, 5992, 5995, 5998, 6001, 6004, 6007, 6010, 6013, 6016, 6019, 6022, 6025, 6028, 6031, 6034, 6037, 6040, 6043, 6046, 6049, 6052, 6055, 6058, 6061, 6064, 6067, 6070, 6073, 6076, 6079, 6082, 6085, 6088, 6091, 6094, 6097, 6100, 6103, 6106, 6109, 6112, 6115, 6118, 6121, 6124, 6127, 6130, 6133, 6136, 6139, 6142, 6145, 6148, 6151, 6154, 6157, 6160, 6163, 6166, 6169, 6172, 6175, 6178, 6181, 6184, 6187, 6190, 6193, 6196, 6199, 6202, 6205, 6208, 6211, 6214, 6217, 6220, 6223, 6226, 6229, 6232, 6235, 6238, 6241, 6244, 6247, 6250, 6253, 6256, 6259, 6262, 6265, 6268, 6271, 6274, 6277, 6280, 6283, 6286, 6289, 6292, 6295, 6298, 6301, 6304, 6307, 6310, 6313, 6316, 6319, 6322, 6325, 6328, 6331, 6334, 7831, 7882, 7885])]⟩) (tm := tm0) Try.func6 (by kernel_rfl)
theorem ok1 : K 1 sg1 := fnK (E := E0) (tm := tm1) Try.func29 (by kernel_rfl)
theorem ok2 : K 2 sg2 := fnK (E := E0) (tm := tm2) Try.func30 (by kernel_rfl)
theorem ok3 : K 3 sg3 := fnK (E := E0) (tm := tm3) Try.func79 (by kernel_rfl)
theorem ok4 : K 4 sg4 := fnK (E := E0) (tm := tm4) Try.func89 (by kernel_rfl)
theorem ok5 : K 5 sg5 := fnK (E := E0) (tm := tm5) Try.func150 (by kernel_rfl)
theorem ok6 : K 6 sg6 := fnK (E := E0) (tm := tm6) Try.func91 (by kernel_rfl)
theorem ok7 : K 7 sg7 := fnK (E := E0) (tm := tm7) Try.func142 (by kernel_rfl)
theorem ok8 : K 8 sg8 := fnK (E := E0) (tm := tm8) Try.func99 (by kernel_rfl)
theorem ok9 : K 9 sg9 := fnK (E := E0) (tm := tm9) Try.func22 (by kernel_rfl)
theorem ok10 : K 10 sg10 := fnK (E := E0) (tm := tm10) Try.func74 (by kernel_rfl)
theorem ok11 : K 11 sg11 := fnK (E := E0) (tm := tm11) Try.func139 (by kernel_rfl)
theorem ok12 : K 12 sg12 := fnK (E := E0) (tm := tm12) Try.func75 (by kernel_rfl)
theorem ok13 : K 13 sg13 := fnK (E := E0) (tm := tm13) Try.func76 (by kernel_rfl)
theorem ok14 : K 14 sg14 := fnK (E := E0) (tm := tm14) Try.func83 (by kernel_rfl)
theorem ok15 : K 15 sg15 := fnK (E := E0) (tm := tm15) Try.func140 (by kernel_rfl)
theorem ok16 : K 16 sg16 := fnK (E := E0) (tm := tm16) Try.func174 (by kernel_rfl)
theorem ok17 : K 17 sg17 := fnK (E := E0) (tm := tm17) Try.func10 (by kernel_rfl)
theorem ok18 : K 18 sg18 := fnK (E := E0) (tm := tm18) Try.func69 (by kernel_rfl)
theorem ok22 : K 22 sg22 := fnK (E := E0) (tm := tm22) Try.func77 (by kernel_rfl)
theorem ok23 : K 23 sg23 := fnK (E := E0) (tm := tm23) Try.func141 (by kernel_rfl)
theorem ok24 : K 24 sg24 := fnK (E := E0) (tm := tm24) Try.func21 (by kernel_rfl)
theorem ok25 : K 25 sg25 := fnK (E := E0) (tm := tm25) Try.func70 (by kernel_rfl)
theorem ok26 : K 26 sg26 := fnK (E := E0) (tm := tm26) Try.func92 (by kernel_rfl)
theorem ok27 : K 27 sg27 := fnK (E := E0) (tm := tm27) Try.func109 (by kernel_rfl)
theorem ok28 : K 28 sg28 := fnK (E := E0) (tm := tm28) Try.func151 (by kernel_rfl)
theorem ok29 : K 29 sg29 := fnK (E := E0) (tm := tm29) Try.func177 (by kernel_rfl)
theorem ok30 : K 30 sg30 := fnK (E := E0) (tm := tm30) Try.func181 (by kernel_rfl)
theorem ok31 : K 31 sg31 := fnK (E := E0) (tm := tm31) Try.func71 (by kernel_rfl)
theorem ok32 : K 32 sg32 := fnK (E := E0) (tm := tm32) Try.func9 (by kernel_rfl)
theorem ok33 : K 33 sg33 := fnK (E := E0) (tm := tm33) Try.func68 (by kernel_rfl)
theorem ok34 : K 34 sg34 := fnK (E := E0) (tm := tm34) Try.func93 (by kernel_rfl)
theorem ok35 : K 35 sg35 := fnK (E := E0) (tm := tm35) Try.func94 (by kernel_rfl)
theorem ok36 : K 36 sg36 := fnK (E := E0) (tm := tm36) Try.func153 (by kernel_rfl)
theorem ok37 : K 37 sg37 := fnK (E := E0) (tm := tm37) Try.func152 (by kernel_rfl)
theorem ok38 : K 38 sg38 := fnK (E := E0) (tm := tm38) Try.func17 (by kernel_rfl)
theorem ok39 : K 39 sg39 := fnK (E := E0) (tm := tm39) Try.func15 (by kernel_rfl)
theorem ok40 : K 40 sg40 := fnK (E := E0) (tm := tm40) Try.func31 (by kernel_rfl)
theorem ok41 : K 41 sg41 := fnK (E := E0) (tm := tm41) Try.func33 (by kernel_rfl)
theorem ok42 : K 42 sg42 := fnK (E := E0) (tm := tm42) Try.func32 (by kernel_rfl)
theorem ok43 : K 43 sg43 := fnK (E := E0) (tm := tm43) Try.func34 (by kernel_rfl)
theorem ok44 : K 44 sg44 := fnK (E := E0) (tm := tm44) Try.func80 (by kernel_rfl)
theorem ok45 : K 45 sg45 := fnK (E := E0) (tm := tm45) Try.func81 (by kernel_rfl)
theorem ok46 : K 46 sg46 := fnK (E := E0) (tm := tm46) Try.func35 (by kernel_rfl)
theorem ok47 : K 47 sg47 := fnK (E := E0) (tm := tm47) Try.func82 (by kernel_rfl)
theorem ok48 : K 48 sg48 := fnK (E := E0) (tm := tm48) Try.func143 (by kernel_rfl)
theorem ok49 : K 49 sg49 := fnK (E := E0) (tm := tm49) Try.func175 (by kernel_rfl)
theorem ok50 : K 50 sg50 := fnK (E := E0) (tm := tm50) Try.func144 (by kernel_rfl)
theorem ok51 : K 51 sg51 := fnK (E := E0) (tm := tm51) Try.func145 (by kernel_rfl)
theorem ok52 : K 52 sg52 := fnK (E := E0) (tm := tm52) Try.func84 (by kernel_rfl)
theorem ok53 : K 53 sg53 := fnK (E := E0) (tm := tm53) Try.func36 (by kernel_rfl)
theorem ok54 : K 54 sg54 := fnK (E := E0) (tm := tm54) Try.func85 (by kernel_rfl)
theorem ok55 : K 55 sg55 := fnK (E := E0) (tm := tm55) Try.func146 (by kernel_rfl)
theorem ok56 : K 56 sg56 := fnK (E := E0) (tm := tm56) Try.func176 (by kernel_rfl)
theorem ok57 : K 57 sg57 := fnK (E := E0) (tm := tm57) Try.func147 (by kernel_rfl)
theorem ok58 : K 58 sg58 := fnK (E := E0) (tm := tm58) Try.func86 (by kernel_rfl)
theorem ok59 : K 59 sg59 := fnK (E := E0) (tm := tm59) Try.func37 (by kernel_rfl)
theorem ok60 : K 60 sg60 := fnK (E := E0) (tm := tm60) Try.func87 (by kernel_rfl)
theorem ok63 : K 63 sg63 := fnK (E := E0) (tm := tm63) Try.func38 (by kernel_rfl)
theorem ok64 : K 64 sg64 := fnK (E := E0) (tm := tm64) Try.func88 (by kernel_rfl)
theorem ok65 : K 65 sg65 := fnK (E := E0) (tm := tm65) Try.func90 (by kernel_rfl)
theorem ok66 : K 66 sg66 := fnK (E := E0) (tm := tm66) Try.func39 (by kernel_rfl)
theorem ok67 : K 67 sg67 := fnK (E := E0) (tm := tm67) Try.func42 (by kernel_rfl)
theorem ok68 : K 68 sg68 := fnK (E := E0) (tm := tm68) Try.func96 (by kernel_rfl)
theorem ok69 : K 69 sg69 := fnK (E := E0) (tm := tm69) Try.func97 (by kernel_rfl)
theorem ok70 : K 70 sg70 := fnK (E := E0) (tm := tm70) Try.func98 (by kernel_rfl)
theorem ok71 : K 71 sg71 := fnK (E := E0) (tm := tm71) Try.func40 (by kernel_rfl)
theorem ok72 : K 72 sg72 := fnK (E := E0) (tm := tm72) Try.func41 (by kernel_rfl)
theorem ok73 : K 73 sg73 := fnK (E := E0) (tm := tm73) Try.func95 (by kernel_rfl)
theorem fns_ok : ∀ key s, (key, s) ∈ sigs → FnOk Try.prog T (tiTab tiL) sigs key s := fnOk_all (fc ok0 <| fc ok1 <| fc ok2 <| fc ok3 <| fc ok4 <| fc ok5 <| fc ok6 <| fc ok7 <| fc ok8 <| fc ok9 <| fc ok10 <| fc ok11 <| fc ok12 <| fc ok13 <| fc ok14 <| fc ok15 <| fc ok16 <| fc ok17 <| fc ok18 <| fc ok19 <| fc ok22 <| fc ok23 <| fc ok24 <| fc ok25 <| fc ok26 <| fc ok27 <| fc ok28 <| fc ok29 <| fc ok30 <| fc ok31 <| fc ok32 <| fc ok33 <| fc ok34 <| fc ok35 <| fc ok36 <| fc ok37 <| fc ok38 <| fc ok39 <| fc ok40 <| fc ok41 <| fc ok42 <| fc ok43 <| fc ok44 <| fc ok45 <| fc ok46 <| fc ok47 <| fc ok48 <| fc ok49 <| fc ok50 <| fc ok51 <| fc ok52 <| fc ok53 <| fc ok54 <| fc ok55 <| fc ok56 <| fc ok57 <| fc ok58 <| fc ok59 <| fc ok60 <| fc ok61 <| fc ok62 <| fc ok63 <| fc ok64 <| fc ok65 <| fc ok66 <| fc ok67 <| fc ok68 <| fc ok69 <| fc ok70 <| fc ok71 <| fc ok72 <| fc ok73 <| fc0)
theorem contract : ∀ n, Contract Try.prog T n 0 sg0 := fun n => contracts tiL_ok (by kernel_rfl) fns_ok n 0 sg0 (by simp [sigs])
end FnOnce
end Go.Proofs.Ytjoebpmeeampfaa
