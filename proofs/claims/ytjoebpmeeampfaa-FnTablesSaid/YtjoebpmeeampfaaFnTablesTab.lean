/- The terms of the functions that FnTables reaches (printed by the author's own program). -/
import Derived.Test.YtjoebpmeeampfaaChecked
import Derived.Test.YtjoebpmeeampfaaRf8
import Derived.KernelRfl
namespace Go.Proofs.Ytjoebpmeeampfaa
namespace FnTables
open Go Go.Proofs.Ytjoebpmeeampfaa.Rf
set_option maxRecDepth 100000

def t3 : TI := ⟨false, 1, 8, [.sc (.int .i64 0)], [], none, (some .i64), false, false, false, false⟩
theorem ti3 : tiOf Try.prog 3 = some t3 := by kernel_rfl
def t4 : TI := ⟨false, 1, 1, [.sc (.bool false)], [], none, none, true, false, false, false⟩
theorem ti4 : tiOf Try.prog 4 = some t4 := by kernel_rfl
def t5 : TI := ⟨false, 1, 1, [.sc (.int .u8 0)], [], none, (some .u8), false, false, false, false⟩
theorem ti5 : tiOf Try.prog 5 = some t5 := by kernel_rfl
def t22 : TI := ⟨false, 1, 24, [.sl 1], [], (some 3), none, false, false, false, false⟩
theorem ti22 : tiOf Try.prog 22 = some t22 := by kernel_rfl
def t45 : TI := ⟨false, 1, 24, [.sl 1], [], (some 5), none, false, false, false, false⟩
theorem ti45 : tiOf Try.prog 45 = some t45 := by kernel_rfl
def t51 : TI := ⟨true, 5, 40, [.sc (.int .i64 0), .sc (.int .i64 0), .sc (.int .i64 0), .sc (.int .i64 0), .sc (.int .i64 0)], [(0, 3), (1, 3), (2, 3), (3, 3), (4, 3)], none, none, false, false, false, true⟩
theorem ti51 : tiOf Try.prog 51 = some t51 := by kernel_rfl
def t64 : TI := ⟨false, 1, 24, [.sl 10], [], (some 73), none, false, false, false, false⟩
theorem ti64 : tiOf Try.prog 64 = some t64 := by kernel_rfl
def t68 : TI := ⟨true, 2, 32, [.sc (.int .i64 0), .sl 1], [(0, 3), (1, 22)], none, none, false, false, false, false⟩
theorem ti68 : tiOf Try.prog 68 = some t68 := by kernel_rfl
def t73 : TI := ⟨true, 10, 96, [.sc (.int .i64 0), .sc (.int .i64 0), .sc (.int .i64 0), .sc (.int .i64 0), .sc (.int .i64 0), .sc (.int .i64 0), .sc (.int .i64 0), .sc (.int .i64 0), .sc (.int .i64 0), .sl 1], [(0, 3), (1, 3), (2, 3), (3, 51), (8, 68)], none, none, false, false, false, false⟩
theorem ti73 : tiOf Try.prog 73 = some t73 := by kernel_rfl
def t76 : TI := ⟨false, 1, 24, [.sl 1], [], (some 64), none, false, false, false, false⟩
theorem ti76 : tiOf Try.prog 76 = some t76 := by kernel_rfl
def t78 : TI := ⟨true, 2, 32, [.sc (.int .i64 0), .sl 1], [(0, 3), (1, 76)], none, none, false, false, false, false⟩
theorem ti78 : tiOf Try.prog 78 = some t78 := by kernel_rfl
def t95 : TI := ⟨false, 1, 24, [.sl 1], [], (some 22), none, false, false, false, false⟩
theorem ti95 : tiOf Try.prog 95 = some t95 := by kernel_rfl
def t116 : TI := ⟨false, 1, 8, [.sc (.int .u64 0)], [], none, (some .u64), false, false, false, false⟩
theorem ti116 : tiOf Try.prog 116 = some t116 := by kernel_rfl
def t118 : TI := ⟨true, 3, 40, [.sl 1, .sc (.int .i64 0), .sc (.int .u64 0)], [(0, 45), (1, 3), (2, 116)], none, none, false, false, false, false⟩
theorem ti118 : tiOf Try.prog 118 = some t118 := by kernel_rfl
def tiL : List (Nat × TI) := [(3, t3), (4, t4), (5, t5), (22, t22), (45, t45), (51, t51), (64, t64), (68, t68), (73, t73), (76, t76), (78, t78), (95, t95), (116, t116), (118, t118)]
theorem tiL_ok : TiOk Try.prog (tiTab tiL) := tiTab_ok (l := tiL) (fc ti3 <| fc ti4 <| fc ti5 <| fc ti22 <| fc ti45 <| fc ti51 <| fc ti64 <| fc ti68 <| fc ti73 <| fc ti76 <| fc ti78 <| fc ti95 <| fc ti116 <| fc ti118 <| fc0)

def sg0 : Sig := ⟨8, [(false, [.fz false]), (false, [.fz false])], [], [(false, [.sc])]⟩
def sg1 : Sig := ⟨29, [(false, [.fz false]), (false, [.fz false])], [], [(false, [.sc])]⟩
def sg2 : Sig := ⟨48, [(false, [.fz false])], [], [(true, [.sc, .ow 99]), (false, [.sc]), (false, [.sc]), (true, [.sc, .sc, .sc, .sc, .sc, .sc, .sc, .sc, .sc, .ow 99])]⟩
def sg3 : Sig := ⟨114, [(false, [.px 0])], [(false, [(.fz false, .fz), (.sc, .sc), (.sc, .sc)])], [(true, [.sc, .ow 99])]⟩
def sg4 : Sig := ⟨99, [(false, [.px 0]), (false, [.fz false])], [(false, [(.fz false, .fz), (.sc, .sc), (.sc, .sc)])], [(false, [.sc])]⟩
def sg5 : Sig := ⟨89, [(false, [.px 0]), (false, [.sc])], [(false, [(.fz false, .fz), (.sc, .sc), (.sc, .sc)])], [(false, [.sc])]⟩
def sg6 : Sig := ⟨150, [(false, [.px 0])], [(false, [(.fz false, .fz), (.sc, .sc), (.sc, .sc)])], [(false, [.sc])]⟩
def sg7 : Sig := ⟨135, [(false, [.sc])], [], [(true, [.sc, .ow 99])]⟩
def sg8 : Sig := ⟨100, [(false, [.px 0]), (false, [.sc])], [(false, [(.fz false, .fz), (.sc, .sc), (.sc, .sc)])], [(true, [.sc, .sc, .sc, .sc, .sc, .sc, .sc, .sc, .sc, .ow 99])]⟩
def sg9 : Sig := ⟨142, [(false, [.px 0])], [(false, [(.fz false, .fz), (.sc, .sc), (.sc, .sc)])], [(true, [.sc, .sc, .sc, .sc, .sc])]⟩
def sg10 : Sig := ⟨91, [(false, [.px 0]), (false, [.sc])], [(false, [(.fz false, .fz), (.sc, .sc), (.sc, .sc)])], [(false, [.sc])]⟩
def sg11 : Sig := ⟨154, [(false, [.sc])], [], [(true, [.sc, .ow 99])]⟩
def sg12 : Sig := ⟨115, [(false, [.px 0])], [(false, [(.fz false, .fz), (.sc, .sc), (.sc, .sc)])], [(false, [.sc]), (false, [.sc])]⟩
def sg13 : Sig := ⟨49, [(true, [.sc, .fz false]), (false, [.sc]), (false, [.sc]), (true, [.sc, .sc, .sc, .sc, .sc, .sc, .sc, .sc, .sc, .fz false])], [], [(true, [.sc, .ow 99]), (false, [.sc])]⟩
def sg14 : Sig := ⟨52, [(true, [.sc, .fz false])], [], [(false, [.sc])]⟩
def sg15 : Sig := ⟨102, [(false, [.sc])], [], [(false, [.sc])]⟩
def sg16 : Sig := ⟨122, [(false, [.fz false]), (false, [.clo 123 [.px 0]])], [(true, [(.sc, .sc), (.fz false, .fz)])], [(false, [.sc])]⟩
def sg17 : Sig := ⟨170, [(false, [.fz false]), (false, [.clo 123 [.px 0]])], [(true, [(.sc, .sc), (.fz false, .fz)])], [(false, [.sc])]⟩
def sg18 : Sig := ⟨123, [(false, [.fz false]), (false, [.px 0])], [(true, [(.sc, .sc), (.fz false, .fz)])], [(false, [.sc])]⟩
def sg19 : Sig := ⟨104, [(false, [.fz false]), (false, [.clo 124 [.px 0]])], [(true, [(.sc, .sc), (.fz false, .fz)])], [(false, [.sc])]⟩
def sg20 : Sig := ⟨156, [(false, [.fz false]), (false, [.clo 124 [.px 0]])], [(true, [(.sc, .sc), (.fz false, .fz)])], [(false, [.sc])]⟩
def sg21 : Sig := ⟨124, [(true, [.sc, .sc, .sc, .sc, .sc, .sc, .sc, .sc, .sc, .fz false]), (false, [.px 0])], [(true, [(.sc, .sc), (.fz false, .fz)])], [(false, [.sc])]⟩
def sg22 : Sig := ⟨106, [(false, [.sc]), (true, [.sc, .sc, .sc, .sc, .sc, .sc, .sc, .sc, .sc, .fz false])], [], [(false, [.sc])]⟩
def sg23 : Sig := ⟨83, [(false, [.sc]), (false, [.sc]), (false, [.sc])], [], [(false, [.sc])]⟩
def sg24 : Sig := ⟨140, [(true, [.sc, .sc, .sc, .sc, .sc])], [], [(false, [.sc])]⟩
def sg25 : Sig := ⟨174, [(false, [.sc])], [], [(false, [.sc])]⟩
def sg26 : Sig := ⟨112, [(false, [.sc]), (true, [.sc, .fz false])], [], [(false, [.sc])]⟩
def sg27 : Sig := ⟨143, [(false, [.fz false]), (false, [.clo 165 []])], [], [(false, [.sc])]⟩
def sg28 : Sig := ⟨175, [(false, [.fz false]), (false, [.clo 165 []])], [], [(false, [.sc])]⟩
def sg29 : Sig := ⟨165, [(false, [.sc])], [], [(false, [.sc])]⟩
def sg30 : Sig := ⟨158, [(false, [.sc])], [], [(true, [.sc, .ow 99])]⟩
def sg31 : Sig := ⟨157, [(true, [.sc, .fz false]), (true, [.sc, .fz false])], [], [(false, [.sc])]⟩
def sg32 : Sig := ⟨80, [(false, [.fz false]), (false, [.fz false])], [], [(false, [.sc])]⟩
def sg33 : Sig := ⟨116, [(false, [.sc]), (false, [.sc]), (false, [.sc])], [], [(false, [.sc])]⟩
def sg34 : Sig := ⟨117, [(true, [.sc, .fz false])], [], [(true, [.sc, .ow 99])]⟩
def sg35 : Sig := ⟨166, [(false, [.fz false])], [], [(false, [.ow 99])]⟩
def sg36 : Sig := ⟨167, [(true, [.sc, .sc, .sc, .sc, .sc, .sc, .sc, .sc, .sc, .fz false])], [], [(true, [.sc, .sc, .sc, .sc, .sc, .sc, .sc, .sc, .sc, .ow 99])]⟩
def sg37 : Sig := ⟨160, [(true, [.sc, .fz false])], [], [(true, [.sc, .ow 99])]⟩
def sg38 : Sig := ⟨148, [(false, [.fz false])], [], [(false, [.ow 99])]⟩
def sg39 : Sig := ⟨118, [(false, [.px 0]), (false, [.sc]), (false, [.sc]), (true, [.sc, .sc, .sc, .sc, .sc, .sc, .sc, .sc, .sc, .fz false])], [(false, [(.sc, .sc), (.ow 99, .ow 99)])], []⟩
def sg40 : Sig := ⟨50, [(true, [.sc, .fz false]), (false, [.sc]), (false, [.sc]), (true, [.sc, .sc, .sc, .sc, .sc, .sc, .sc, .sc, .sc, .fz false])], [], [(true, [.sc, .ow 99]), (false, [.sc])]⟩
def sg41 : Sig := ⟨119, [(true, [.sc, .fz false]), (false, [.sc]), (false, [.sc])], [], [(false, [.sc])]⟩
def sg42 : Sig := ⟨53, [(true, [.sc, .fz false])], [], [(false, [.sc])]⟩
def sg43 : Sig := ⟨125, [(false, [.sc])], [], [(false, [.sc])]⟩
def sg44 : Sig := ⟨110, [(false, [.sc]), (true, [.sc, .sc, .sc, .sc, .sc, .sc, .sc, .sc, .sc, .fz false])], [], [(false, [.sc])]⟩
def sg45 : Sig := ⟨109, [(false, [.sc]), (false, [.sc]), (false, [.sc])], [], [(false, [.sc])]⟩
def sg46 : Sig := ⟨162, [(true, [.sc, .fz false]), (true, [.sc, .fz false])], [], [(false, [.sc])]⟩
def sg47 : Sig := ⟨95, [(false, [.fz false]), (false, [.fz false])], [], [(false, [.sc])]⟩
def sg48 : Sig := ⟨151, [(true, [.sc, .sc, .sc, .sc, .sc])], [], [(false, [.sc])]⟩
def sg49 : Sig := ⟨177, [(true, [.sc, .sc, .sc, .sc, .sc])], [], [(false, [.sc])]⟩
def sg50 : Sig := ⟨181, [(false, [.sc])], [], [(false, [.sc])]⟩
def sg51 : Sig := ⟨163, [(false, [.sc]), (true, [.sc, .fz false])], [], [(false, [.sc])]⟩
def sg52 : Sig := ⟨97, [(false, [.fz false]), (false, [.sc]), (false, [.sc])], [], [(false, [.sc])]⟩
def sg53 : Sig := ⟨168, [(false, [.sc]), (false, [.sc]), (false, [.sc])], [], [(false, [.sc])]⟩
def sg54 : Sig := ⟨120, [(true, [.sc, .fz false]), (false, [.sc]), (false, [.sc]), (true, [.sc, .sc, .sc, .sc, .sc, .sc, .sc, .sc, .sc, .fz false])], [], [(true, [.sc, .ow 99])]⟩
def sg55 : Sig := ⟨169, [(true, [.sc, .fz false])], [], [(true, [.sc, .ow 99])]⟩
def sg56 : Sig := ⟨101, [(true, [.sc, .sc, .sc, .sc, .sc, .sc, .sc, .sc, .sc, .fz false])], [], [(true, [.sc, .sc, .sc, .sc, .sc, .sc, .sc, .sc, .sc, .ow 99])]⟩
def sg57 : Sig := ⟨155, [(true, [.sc, .fz false])], [], [(true, [.sc, .ow 99])]⟩
def sg58 : Sig := ⟨153, [(false, [.fz false])], [], [(false, [.ow 99])]⟩
def sg59 : Sig := ⟨51, [(true, [.sc, .fz false]), (true, [.sc, .fz false])], [], [(false, [.sc])]⟩
def sg60 : Sig := ⟨121, [(false, [.fz false]), (false, [.fz false])], [], [(false, [.sc])]⟩
def sg61 : Sig := ⟨55, [(true, [.sc, .sc, .sc, .sc, .sc, .sc, .sc, .sc, .sc, .fz false]), (true, [.sc, .sc, .sc, .sc, .sc, .sc, .sc, .sc, .sc, .fz false])], [], [(false, [.sc])]⟩
def sg62 : Sig := ⟨46, [(true, [.sc, .fz false]), (true, [.sc, .fz false])], [], [(false, [.sc])]⟩
def sg63 : Sig := ⟨33, [(false, [.fz false]), (false, [.fz false])], [], [(false, [.sc])]⟩
def sg64 : Sig := ⟨54, [(true, [.sc, .fz false]), (false, [.sc]), (false, [.sc])], [], [(true, [.sc, .sc, .sc, .sc, .sc, .sc, .sc, .sc, .sc, .ow 99]), (false, [.sc])]⟩
def sg65 : Sig := ⟨126, [(true, [.sc, .fz false]), (false, [.sc]), (false, [.sc])], [], [(true, [.sc, .sc, .sc, .sc, .sc, .sc, .sc, .sc, .sc, .ow 99])]⟩
def sg66 : Sig := ⟨56, [(false, [.fz false])], [], [(true, [.sc, .ow 99]), (false, [.sc]), (false, [.sc]), (false, [.sc])]⟩
def sg67 : Sig := ⟨57, [(true, [.sc, .fz false]), (false, [.sc]), (false, [.sc]), (false, [.sc])], [], [(false, [.sc]), (false, [.sc])]⟩
def sg68 : Sig := ⟨127, [(true, [.sc, .fz false]), (false, [.sc]), (false, [.sc]), (false, [.sc])], [], [(false, [.sc]), (false, [.sc])]⟩
def sg69 : Sig := ⟨58, [(true, [.sc, .fz false]), (false, [.sc]), (false, [.sc]), (false, [.sc])], [], [(false, [.sc]), (false, [.sc])]⟩
def sg70 : Sig := ⟨128, [(true, [.sc, .fz false]), (false, [.sc]), (false, [.sc]), (false, [.sc])], [], [(false, [.sc])]⟩
def sg71 : Sig := ⟨129, [(true, [.sc, .fz false]), (false, [.sc]), (false, [.sc])], [], [(true, [.sc, .sc, .sc, .sc, .sc, .sc, .sc, .sc, .sc, .ow 99])]⟩
def sg72 : Sig := ⟨59, [(false, [.fz false])], [], [(true, [.sc, .ow 99]), (false, [.sc]), (false, [.sc])]⟩
def sg73 : Sig := ⟨60, [(true, [.sc, .fz false]), (false, [.sc]), (false, [.sc])], [], [(true, [.sc, .sc, .sc, .sc, .sc, .sc, .sc, .sc, .sc, .ow 99]), (false, [.sc])]⟩
def sg74 : Sig := ⟨61, [(false, [.fz false])], [], [(true, [.sc, .ow 99])]⟩
def sg75 : Sig := ⟨130, [(false, [.fz false])], [], [(true, [.sc, .ow 99])]⟩
def sg76 : Sig := ⟨62, [(true, [.sc, .fz false])], [], [(false, [.ow 99]), (false, [.sc])]⟩
def sg77 : Sig := ⟨131, [(true, [.sc, .fz false])], [], [(false, [.ow 99])]⟩
def sg78 : Sig := ⟨171, [(true, [.sc, .fz false]), (false, [.clo 172 [.px 0]])], [(false, [(.ow 99, .ow 99)])], []⟩
def sg79 : Sig := ⟨172, [(false, [.sc]), (false, [.sc]), (true, [.sc, .sc, .sc, .sc, .sc, .sc, .sc, .sc, .sc, .fz false]), (false, [.px 0])], [(false, [(.ow 99, .ow 99)])], []⟩
def sg80 : Sig := ⟨63, [(true, [.sc, .fz false])], [], [(false, [.ow 99]), (false, [.sc])]⟩
def sg81 : Sig := ⟨132, [(true, [.sc, .fz false])], [], [(false, [.ow 99])]⟩
def sg82 : Sig := ⟨64, [(false, [.fz false])], [], [(false, [.sc])]⟩
def sg83 : Sig := ⟨133, [(false, [.fz false])], [], [(false, [.sc])]⟩
def sg84 : Sig := ⟨65, [(false, [.sc])], [], [(true, [.sc, .ow 99]), (false, [.sc])]⟩
def sg85 : Sig := ⟨134, [(false, [.sc])], [], [(true, [.sc, .ow 99])]⟩
def sg86 : Sig := ⟨66, [(false, [.sc])], [], [(true, [.sc, .ow 99]), (false, [.sc])]⟩
def sg87 : Sig := ⟨67, [(false, [.fz false]), (false, [.fz false])], [], [(false, [.sc])]⟩
def sigs : List (Nat × Sig) := [(0, sg0), (1, sg1), (2, sg2), (3, sg3), (4, sg4), (5, sg5), (6, sg6), (7, sg7), (8, sg8), (9, sg9), (10, sg10), (11, sg11), (12, sg12), (13, sg13), (14, sg14), (15, sg15), (16, sg16), (17, sg17), (18, sg18), (19, sg19), (20, sg20), (21, sg21), (22, sg22), (23, sg23), (24, sg24), (25, sg25), (26, sg26), (27, sg27), (28, sg28), (29, sg29), (30, sg30), (31, sg31), (32, sg32), (33, sg33), (34, sg34), (35, sg35), (36, sg36), (37, sg37), (38, sg38), (39, sg39), (40, sg40), (41, sg41), (42, sg42), (43, sg43), (44, sg44), (45, sg45), (46, sg46), (47, sg47), (48, sg48), (49, sg49), (50, sg50), (51, sg51), (52, sg52), (53, sg53), (54, sg54), (55, sg55), (56, sg56), (57, sg57), (58, sg58), (59, sg59), (60, sg60), (61, sg61), (62, sg62), (63, sg63), (64, sg64), (65, sg65), (66, sg66), (67, sg67), (68, sg68), (69, sg69), (70, sg70), (71, sg71), (72, sg72), (73, sg73), (74, sg74), (75, sg75), (76, sg76), (77, sg77), (78, sg78), (79, sg79), (80, sg80), (81, sg81), (82, sg82), (83, sg83), (84, sg84), (85, sg85), (86, sg86), (87, sg87)]
abbrev E0 : Env := ⟨tiTab tiL, sigs, 0, 0, false, false, [], []⟩

/-- laws.FnTables -/
def tm0 : Tm Unit :=
  (.call none 1 [.v 0, .v 1] 1 [] <|
  (.ite (.v 2)
   (.leaf .ret [.c (.bool true)] ())
   (.call none 2 [.v 0] 14 [] <|
   (.call none 13 [.v 3, .v 4, .v 5, .v 6, .v 7, .v 8, .v 9, .v 10, .v 11, .v 12, .v 13, .v 14, .v 15, .v 16] 3 [] <|
   (.lt none (.dep 99) [.v 18] 0 <|
   (.call none 40 [.v 3, .v 4, .v 5, .v 6, .v 7, .v 8, .v 9, .v 10, .v 11, .v 12, .v 13, .v 14, .v 15, .v 16] 3 [] <|
   (.lt none (.dep 99) [.v 21] 0 <|
   (.lt none (.eqb true) [.v 19, .v 22] 1 <|
   (.call (some (.v 23, false)) 59 [.v 17, .v 18, .v 20, .v 21] 1 [] <|
   (.lt (some (.v 23, false)) .not [.v 24] 1 <|
   (.lt none .pick [.v 23, .c (.bool true), .v 25] 1 <|
   (.call (some (.v 26, false)) 14 [.v 3, .v 4] 1 [] <|
   (.call (some (.v 26, false)) 42 [.v 3, .v 4] 1 [] <|
   (.lt (some (.v 26, false)) (.eqb true) [.v 27, .v 28] 1 <|
   (.lt none .pick [.v 26, .c (.bool true), .v 29] 1 <|
   (.ite (.v 30)
    (.leaf .ret [.c (.bool false)] ())
    (.bind 0
     (.ite (.v 19)
      (.bind 1
       (.loop [.c (.int .i64 0)]
        (.lt none (.bin .lss) [.v 31, .v 3] 1 <|
        (.ite (.v 32)
         (.bind 3
          (.loop [.c (.int .i64 1)]
           (.lt none (.bin .leq) [.v 33, .c (.int .i64 6)] 1 <|
           (.ite (.v 34)
            (.call none 64 [.v 3, .v 4, .v 31, .v 33] 11 [] <|
            (.lt none (.dep 99) [.v 44] 0 <|
            (.call none 64 [.v 17, .v 18, .v 31, .v 33] 11 [] <|
            (.lt none (.dep 99) [.v 55] 0 <|
            (.lt none .not [.v 45] 1 <|
            (.lt (some (.v 57, false)) .id [.v 56] 1 <|
            (.lt (some (.v 57, false)) .not [.v 58] 1 <|
            (.lt none .pick [.v 57, .c (.bool true), .v 59] 1 <|
            (.lt (some (.v 60, false)) .id [.v 31] 1 <|
            (.lt (some (.v 60, false)) .id [.v 5] 1 <|
            (.lt (some (.v 60, false)) (.bin .neq) [.v 61, .v 62] 1 <|
            (.lt (some (.v 60, false)) .id [.v 63] 1 <|
            (.lt (some (.v 64, false)) .id [.v 33] 1 <|
            (.lt (some (.v 64, false)) .id [.v 6] 1 <|
            (.lt (some (.v 64, false)) (.bin .neq) [.v 65, .v 66] 1 <|
            (.lt (some (.v 60, false)) .pick [.v 64, .c (.bool true), .v 67] 1 <|
            (.lt (some (.v 60, false)) .id [.v 68] 1 <|
            (.call (some (.v 69, true)) 61 [.v 35, .v 36, .v 37, .v 38, .v 39, .v 40, .v 41, .v 42, .v 43, .v 44, .v 46, .v 47, .v 48, .v 49, .v 50, .v 51, .v 52, .v 53, .v 54, .v 55] 1 [] <|
            (.lt (some (.v 69, true)) .not [.v 70] 1 <|
            (.lt (some (.v 60, false)) .pick [.v 69, .v 71, .c (.bool false)] 1 <|
            (.lt none .pick [.v 60, .c (.bool true), .v 72] 1 <|
            (.lt (some (.v 73, false)) .id [.v 31] 1 <|
            (.lt (some (.v 73, false)) .id [.v 5] 1 <|
            (.lt (some (.v 73, false)) (.bin .eql) [.v 74, .v 75] 1 <|
            (.lt (some (.v 73, false)) .id [.v 76] 1 <|
            (.lt (some (.v 77, true)) .id [.v 33] 1 <|
            (.lt (some (.v 77, true)) .id [.v 6] 1 <|
            (.lt (some (.v 77, true)) (.bin .eql) [.v 78, .v 79] 1 <|
            (.lt (some (.v 73, false)) .pick [.v 77, .v 80, .c (.bool false)] 1 <|
            (.lt (some (.v 73, false)) .id [.v 81] 1 <|
            (.call (some (.v 82, true)) 61 [.v 46, .v 47, .v 48, .v 49, .v 50, .v 51, .v 52, .v 53, .v 54, .v 55, .v 7, .v 8, .v 9, .v 10, .v 11, .v 12, .v 13, .v 14, .v 15, .v 16] 1 [] <|
            (.lt (some (.v 82, true)) .not [.v 83] 1 <|
            (.lt (some (.v 73, false)) .pick [.v 82, .v 84, .c (.bool false)] 1 <|
            (.lt none .pick [.v 73, .c (.bool true), .v 85] 1 <|
            (.ite (.v 86)
             (.leaf .ret [.c (.bool false)] ())
             (.lt none (.bin .add) [.v 33, .c (.int .i64 1)] 1 <|
             (.leaf .cont [.v 87] ())))))))))))))))))))))))))))))))))))))
            (.leaf (.yield 3) [] ())))) <|
         (.lt none (.bin .add) [.v 31, .c (.int .i64 1)] 1 <|
         (.leaf .cont [.v 33] ())))
         (.leaf (.yield 1) [] ())))) <|
      (.call none 14 [.v 17, .v 18] 1 [] <|
      (.lt none .not [.v 31] 1 <|
      (.ite (.v 32)
       (.leaf .ret [.c (.bool false)] ())
       (.leaf (.yield 0) [] ())))))
      (.leaf (.yield 0) [] ())) <|
    (.call none 66 [.v 1] 5 [] <|
    (.call none 67 [.v 31, .v 32, .v 33, .v 34, .v 35] 2 [] <|
    (.call none 69 [.v 31, .v 32, .v 33, .v 34, .v 35] 2 [] <|
    (.lt none (.eqb true) [.v 37, .v 39] 1 <|
    (.lt (some (.v 40, false)) .id [.v 36] 1 <|
    (.lt (some (.v 40, false)) .id [.v 38] 1 <|
    (.lt (some (.v 40, false)) (.bin .neq) [.v 41, .v 42] 1 <|
    (.lt none .pick [.v 40, .c (.bool true), .v 43] 1 <|
    (.ite (.v 44)
     (.leaf .ret [.c (.bool false)] ())
     (.bind 0
      (.ite (.v 37)
       (.call none 64 [.v 31, .v 32, .v 33, .v 34] 11 [] <|
       (.lt none (.dep 99) [.v 54] 0 <|
       (.lt none .not [.v 55] 1 <|
       (.lt (some (.v 56, false)) .id [.v 36] 1 <|
       (.lt (some (.v 56, false)) .id [.v 45] 1 <|
       (.lt (some (.v 56, false)) (.bin .leq) [.v 57, .v 58] 1 <|
       (.lt none .pick [.v 56, .c (.bool true), .v 59] 1 <|
       (.lt (some (.v 60, false)) .id [.v 36] 1 <|
       (.lt (some (.v 60, false)) (.bin .rem) [.v 61, .c (.int .i64 8)] 1 <|
       (.lt (some (.v 60, false)) .id [.v 35] 1 <|
       (.lt (some (.v 60, false)) (.bin .neq) [.v 62, .v 63] 1 <|
       (.lt none .pick [.v 60, .c (.bool true), .v 64] 1 <|
       (.lt (some (.v 65, false)) .id [.v 36] 1 <|
       (.lt (some (.v 65, false)) (.bin .lss) [.v 66, .c (.int .i64 8)] 1 <|
       (.lt none .pick [.v 65, .c (.bool true), .v 67] 1 <|
       (.ite (.v 68)
        (.leaf .ret [.c (.bool false)] ())
        (.leaf (.yield 0) [] ())))))))))))))))))
       (.leaf (.yield 0) [] ())) <|
     (.call none 72 [.v 1] 4 [] <|
     (.call none 64 [.v 45, .v 46, .v 47, .v 48] 11 [] <|
     (.lt none (.dep 99) [.v 58] 0 <|
     (.call none 73 [.v 45, .v 46, .v 47, .v 48] 11 [] <|
     (.lt none (.dep 99) [.v 69] 0 <|
     (.call none 74 [.v 1] 2 [] <|
     (.call none 76 [.v 71, .v 72] 2 [] <|
     (.lt none (.dep 99) [.v 73] 0 <|
     (.call none 80 [.v 71, .v 72] 2 [] <|
     (.lt none (.dep 99) [.v 75] 0 <|
     (.call none 82 [.v 1] 1 [] <|
     (.call none 84 [.v 77] 3 [] <|
     (.call none 86 [.v 77] 3 [] <|
     (.lt none (.eqb false) [.v 59, .v 70] 1 <|
     (.call (some (.v 84, true)) 61 [.v 49, .v 50, .v 51, .v 52, .v 53, .v 54, .v 55, .v 56, .v 57, .v 58, .v 60, .v 61, .v 62, .v 63, .v 64, .v 65, .v 66, .v 67, .v 68, .v 69] 1 [] <|
     (.lt none .pick [.v 84, .v 85, .c (.bool false)] 1 <|
     (.lt (some (.v 86, true)) .id [.v 74] 1 <|
     (.lt (some (.v 86, true)) .id [.v 76] 1 <|
     (.lt (some (.v 86, true)) (.eqb false) [.v 87, .v 88] 1 <|
     (.lt none .pick [.v 86, .v 89, .c (.bool false)] 1 <|
     (.call (some (.v 90, true)) 87 [.v 73, .v 75] 1 [] <|
     (.lt none .pick [.v 90, .v 91, .c (.bool false)] 1 <|
     (.lt (some (.v 92, true)) .id [.v 80] 1 <|
     (.lt (some (.v 92, true)) .id [.v 83] 1 <|
     (.lt (some (.v 92, true)) (.eqb false) [.v 93, .v 94] 1 <|
     (.lt none .pick [.v 92, .v 95, .c (.bool false)] 1 <|
     (.call (some (.v 96, true)) 59 [.v 78, .v 79, .v 81, .v 82] 1 [] <|
     (.lt none .pick [.v 96, .v 97, .c (.bool false)] 1 <|
     (.leaf .ret [.v 98] ()))))))))))))))))))))))))))))))))))))))))))))))))))))))))
/-- laws.big -/
def tm1 : Tm Unit :=
  (.lt none .len [.v 0] 1 <|
  (.lt none (.bin .gtr) [.v 2, .c (.int .i64 1048576)] 1 <|
  (.lt (some (.v 3, false)) .len [.v 1] 1 <|
  (.lt (some (.v 3, false)) .len [.v 0] 1 <|
  (.lt (some (.v 3, false)) (.bin .sub) [.c (.int .i64 1048576), .v 5] 1 <|
  (.lt (some (.v 3, false)) (.bin .gtr) [.v 4, .v 6] 1 <|
  (.lt none .pick [.v 3, .c (.bool true), .v 7] 1 <|
  (.leaf .ret [.v 8] ()))))))))
/-- spec.DrawSetRow -/
def tm2 : Tm Unit :=
  (.call none 3 [.v 0, .c (.int .i64 0), .c (.int .u64 0)] 5 [] <|
  (.call none 12 [.v 3, .v 4, .v 5] 5 [] <|
  (.call none 8 [.v 1, .v 8, .v 9, .v 10] 13 [] <|
  (.leaf .ret [.v 1, .v 2, .v 6, .v 7, .v 11, .v 12, .v 13, .v 14, .v 15, .v 16, .v 17, .v 18, .v 19, .v 20] ()))))
/-- (*spec.l1Cur).table -/
def tm3 : Tm Unit :=
  (.lt none (.mk 1 4) [.c (.int .i64 3), .c (.int .i64 3), .c (.int .i64 3), .c (.int .i64 5)] 1 <|
  (.call none 4 [.v 3, .v 0, .v 1, .v 2] 4 [] <|
  (.call none 7 [.v 4] 2 [] <|
  (.lt none .len [.v 9] 1 <|
  (.bind 1
   (.loop [.c (.int .i64 0), .v 5, .v 6, .v 7, .v 9]
    (.lt none (.bin .lss) [.v 11, .v 10] 1 <|
    (.ite (.v 16)
     (.call none 5 [.c (.int .i64 4), .v 12, .v 13, .v 14] 4 [] <|
     (.bind 3
      (.loop [.v 17, .v 18, .v 19, .v 20, .v 15]
       (.lt none (.bin .gtr) [.v 21, .c (.int .i64 0)] 1 <|
       (.ite (.v 26)
        (.lt none .inb [.v 25, .v 11] 0 <|
        (.lt none (.row 1 0 [false]) [.v 25, .v 11] 1 <|
        (.call none 8 [.v 4, .v 22, .v 23, .v 24] 13 [] <|
        (.lt none (.mk 10 1) [.v 28, .v 29, .v 30, .v 31, .v 32, .v 33, .v 34, .v 35, .v 36, .v 37] 1 <|
        (.lt none (.set 1 0 1) [.v 25, .v 11, .c .hole] 1 <|
        (.lt none (.app 10 96 false) [.v 27, .v 41] 1 <|
        (.lt none .inb [.v 42, .v 11] 0 <|
        (.lt none (.set 1 0 1) [.v 42, .v 11, .v 43] 1 <|
        (.lt none (.bin .sub) [.v 21, .c (.int .i64 1)] 1 <|
        (.leaf .cont [.v 45, .v 38, .v 39, .v 40, .v 44] ()))))))))))
        (.leaf (.yield 3) [.v 22, .v 23, .v 24, .v 25] ())))) <|
     (.lt none (.bin .add) [.v 11, .c (.int .i64 1)] 1 <|
     (.leaf .cont [.v 25, .v 21, .v 22, .v 23, .v 24] ()))))
     (.leaf (.yield 1) [.v 12, .v 13, .v 14, .v 15] ())))) <|
  (.bind 0
   (.call none 5 [.c (.int .i64 40), .v 11, .v 12, .v 13] 4 [] <|
   (.lt none (.bin .eql) [.v 15, .c (.int .i64 0)] 1 <|
   (.ite (.v 19)
    (.call none 5 [.c (.int .i64 6), .v 16, .v 17, .v 18] 4 [] <|
    (.leaf (.yield 0) [.v 21, .v 22, .v 23, .v 20, .v 14] ()))
    (.lt none (.bin .eql) [.v 15, .c (.int .i64 1)] 1 <|
    (.ite (.v 20)
     (.lt none .inb [.v 14, .c (.int .i64 0)] 0 <|
     (.lt none (.row 1 0 [false]) [.v 14, .c (.int .i64 0)] 1 <|
     (.lt none (.mk 10 1) [.c (.int .i64 0), .c (.int .i64 1), .c (.int .i64 0), .c (.int .i64 0), .c (.int .i64 0), .c (.int .i64 0), .c (.int .i64 0), .c (.int .i64 0), .c (.int .i64 0), .c (.rows 1 [])] 1 <|
     (.lt none (.set 1 0 1) [.v 14, .c (.int .i64 0), .c .hole] 1 <|
     (.lt none (.app 10 96 false) [.v 21, .v 22] 1 <|
     (.lt none .inb [.v 23, .c (.int .i64 0)] 0 <|
     (.lt none (.set 1 0 1) [.v 23, .c (.int .i64 0), .v 24] 1 <|
     (.leaf (.yield 0) [.v 16, .v 17, .v 18, .v 8, .v 25] ()))))))))
     (.leaf (.yield 0) [.v 16, .v 17, .v 18, .v 8, .v 14] ())))))) <|
  (.leaf .ret [.v 18, .v 19, .v 15, .v 16, .v 17] ())))))))
/-- (*spec.l1Cur).among -/
def tm4 : Tm Unit :=
  (.lt none .len [.v 0] 1 <|
  (.call none 5 [.v 4, .v 1, .v 2, .v 3] 4 [] <|
  (.lt none .inb [.v 0, .v 5] 0 <|
  (.lt none (.row 1 0 [true]) [.v 0, .v 5] 1 <|
  (.leaf .ret [.v 9, .v 6, .v 7, .v 8] ())))))
/-- (*spec.l1Cur).pick -/
def tm5 : Tm Unit :=
  (.lt none (.bin .leq) [.v 0, .c (.int .i64 1)] 1 <|
  (.ite (.v 4)
   (.leaf .ret [.c (.int .i64 0), .v 1, .v 2, .v 3] ())
   (.call none 6 [.v 1, .v 2, .v 3] 4 [] <|
   (.bind 0
    (.lt none (.bin .gtr) [.v 0, .c (.int .i64 200)] 1 <|
    (.ite (.v 9)
     (.lt none (.bin .mul) [.v 5, .c (.int .i64 256)] 1 <|
     (.call none 6 [.v 6, .v 7, .v 8] 4 [] <|
     (.lt none (.bin .add) [.v 10, .v 11] 1 <|
     (.leaf (.yield 0) [.v 15, .v 12, .v 13, .v 14] ()))))
     (.leaf (.yield 0) [.v 5, .v 6, .v 7, .v 8] ()))) <|
   (.lt none (.bin .rem) [.v 9, .v 0] 1 <|
   (.leaf .ret [.v 13, .v 10, .v 11, .v 12] ()))))))
/-- (*spec.l1Cur).next -/
def tm6 : Tm Unit :=
  (.bind 0
   (.lt none .len [.v 0] 1 <|
   (.lt none (.bin .lss) [.v 1, .v 3] 1 <|
   (.ite (.v 4)
    (.lt none .inb [.v 0, .v 1] 0 <|
    (.lt none (.row 1 0 [true]) [.v 0, .v 1] 1 <|
    (.lt none (.conv .i64) [.v 5] 1 <|
    (.leaf (.yield 0) [.v 6] ()))))
    (.leaf (.yield 0) [.c (.int .i64 0)] ())))) <|
  (.lt none (.bin .add) [.v 1, .c (.int .i64 1)] 1 <|
  (.lt none (.bin .mul) [.v 2, .c (.int .u64 6364136223846793005)] 1 <|
  (.lt none (.conv .u64) [.v 3] 1 <|
  (.lt none (.bin .add) [.v 5, .v 6] 1 <|
  (.lt none (.bin .add) [.v 7, .c (.int .u64 1442695040888963407)] 1 <|
  (.lt none .len [.v 0] 1 <|
  (.lt none (.bin .leq) [.v 4, .v 9] 1 <|
  (.ite (.v 10)
   (.leaf .ret [.v 3, .v 0, .v 4, .v 8] ())
   (.lt none (.bin .shr) [.v 8, .c (.int .u64 40)] 1 <|
   (.lt none (.bin .and) [.v 11, .c (.int .u64 255)] 1 <|
   (.lt none (.conv .i64) [.v 12] 1 <|
   (.leaf .ret [.v 13, .v 0, .v 4, .v 8] ())))))))))))))
/-- spec.l4New -/
def tm7 : Tm Unit :=
  (.lt none (.make 24 [(.rows 10 [])]) [.v 0] 1 <|
  (.leaf .ret [.v 0, .v 1] ()))
/-- (*spec.l1Cur).row -/
def tm8 : Tm Unit :=
  (.lt none (.mk 1 5) [.c (.int .i64 0), .c (.int .i64 0), .c (.int .i64 8), .c (.int .i64 9), .c (.int .i64 17)] 1 <|
  (.call none 4 [.v 4, .v 1, .v 2, .v 3] 4 [] <|
  (.call none 5 [.c (.int .i64 4), .v 6, .v 7, .v 8] 4 [] <|
  (.call none 9 [.v 10, .v 11, .v 12] 8 [] <|
  (.call none 5 [.c (.int .i64 5), .v 18, .v 19, .v 20] 4 [] <|
  (.bind 1
   (.loop [.c (.int .i64 0), .v 22, .v 23, .v 24, .c (.rows 1 [])]
    (.lt none (.bin .lss) [.v 25, .v 0] 1 <|
    (.ite (.v 30)
     (.call none 5 [.c (.int .i64 3), .v 26, .v 27, .v 28] 4 [] <|
     (.lt none (.mk 1 1) [.v 31] 1 <|
     (.lt none (.app 1 8 true) [.v 29, .v 35] 1 <|
     (.lt none (.bin .add) [.v 25, .c (.int .i64 1)] 1 <|
     (.leaf .cont [.v 37, .v 32, .v 33, .v 34, .v 36] ())))))
     (.leaf (.yield 1) [.v 26, .v 27, .v 28, .v 29] ())))) <|
  (.bind 0
   (.call none 10 [.c (.int .i64 2), .v 25, .v 26, .v 27] 4 [] <|
   (.ite (.v 29)
    (.leaf (.yield 0) [.v 30, .v 31, .v 32, .v 5] ())
    (.leaf (.yield 0) [.v 30, .v 31, .v 32, .c (.int .i64 0)] ()))) <|
  (.bind 0
   (.lt none (.bin .eql) [.v 9, .c (.int .i64 0)] 1 <|
   (.ite (.v 33)
    (.call none 11 [.v 0] 2 [] <|
    (.leaf (.yield 0) [.c (.int .i64 0), .c (.int .i64 0), .c (.int .i64 0), .c (.int .i64 0), .c (.int .i64 0), .c (.int .i64 0), .c (.int .i64 0), .v 34, .v 35] ()))
    (.leaf (.yield 0) [.v 32, .v 9, .v 13, .v 14, .v 15, .v 16, .v 17, .v 21, .v 28] ()))) <|
  (.leaf .ret [.v 5, .v 33, .v 34, .v 35, .v 36, .v 37, .v 38, .v 39, .v 40, .v 41, .v 29, .v 30, .v 31] ())))))))))
/-- (*spec.l1Cur).cmd -/
def tm9 : Tm Unit :=
  (.call none 5 [.c (.int .i64 9), .v 0, .v 1, .v 2] 4 [] <|
  (.lt none (.bin .add) [.c (.int .i64 1), .v 3] 1 <|
  (.call none 5 [.c (.int .i64 4), .v 4, .v 5, .v 6] 4 [] <|
  (.call none 5 [.c (.int .i64 30), .v 9, .v 10, .v 11] 4 [] <|
  (.lt none (.bin .add) [.c (.int .i64 1), .v 12] 1 <|
  (.lt none (.bin .add) [.v 8, .c (.int .i64 1)] 1 <|
  (.call none 5 [.c (.int .i64 3), .v 13, .v 14, .v 15] 4 [] <|
  (.lt none (.bin .add) [.v 17, .v 18] 1 <|
  (.lt none (.bin .rem) [.v 22, .c (.int .i64 4)] 1 <|
  (.call none 10 [.c (.int .i64 4), .v 19, .v 20, .v 21] 4 [] <|
  (.ite (.v 24)
   (.leaf .ret [.c (.int .i64 2), .v 7, .v 8, .c (.int .i64 0), .c (.int .i64 0), .v 25, .v 26, .v 27] ())
   (.leaf .ret [.c (.int .i64 1), .v 7, .v 8, .v 23, .v 16, .v 25, .v 26, .v 27] ()))))))))))))
/-- (*spec.l1Cur).one -/
def tm10 : Tm Unit :=
  (.call none 5 [.v 0, .v 1, .v 2, .v 3] 4 [] <|
  (.lt none (.bin .eql) [.v 4, .c (.int .i64 0)] 1 <|
  (.leaf .ret [.v 8, .v 5, .v 6, .v 7] ())))
/-- spec.l3None -/
def tm11 : Tm Unit :=
  (.lt none (.make 8 [(.int .i64 0)]) [.v 0] 1 <|
  (.leaf .ret [.c (.int .i64 0), .v 1] ()))
/-- (*spec.l1Cur).inst -/
def tm12 : Tm Unit :=
  (.call none 5 [.c (.int .i64 4), .v 0, .v 1, .v 2] 4 [] <|
  (.call none 5 [.c (.int .i64 12), .v 4, .v 5, .v 6] 4 [] <|
  (.lt none (.bin .quo) [.v 7, .c (.int .i64 11)] 1 <|
  (.lt none (.bin .sub) [.v 3, .v 11] 1 <|
  (.lt none (.mk 1 9) [.c (.int .i64 1), .c (.int .i64 1), .c (.int .i64 2), .c (.int .i64 2), .c (.int .i64 3), .c (.int .i64 4), .c (.int .i64 6), .c (.int .i64 7), .c (.int .i64 0)] 1 <|
  (.call none 4 [.v 13, .v 8, .v 9, .v 10] 4 [] <|
  (.leaf .ret [.v 12, .v 14, .v 15, .v 16, .v 17] ())))))))
/-- impl.SetRow -/
def tm13 : Tm Unit :=
  (.call none 14 [.v 0, .v 1] 1 [] <|
  (.lt none .not [.v 14] 1 <|
  (.lt (some (.v 15, false)) .id [.v 0] 1 <|
  (.lt (some (.v 15, false)) .id [.v 2] 1 <|
  (.lt (some (.v 15, false)) .id [.v 3] 1 <|
  (.call (some (.v 15, false)) 33 [.v 16, .v 17, .v 18] 1 [] <|
  (.lt (some (.v 15, false)) .not [.v 19] 1 <|
  (.lt none .pick [.v 15, .c (.bool true), .v 20] 1 <|
  (.lt (some (.v 21, false)) .id [.v 0] 1 <|
  (.call (some (.v 21, false)) 22 [.v 22, .v 4, .v 5, .v 6, .v 7, .v 8, .v 9, .v 10, .v 11, .v 12, .v 13] 1 [] <|
  (.lt (some (.v 21, false)) .not [.v 23] 1 <|
  (.lt none .pick [.v 21, .c (.bool true), .v 24] 1 <|
  (.ite (.v 25)
   (.leaf .ret [.c (.int .i64 0), .c (.rows 1 []), .c (.bool false)] ())
   (.call none 34 [.v 0, .v 1] 2 [] <|
   (.call none 39 [.v 2, .v 3, .v 4, .v 5, .v 6, .v 7, .v 8, .v 9, .v 10, .v 11, .v 12, .v 13, .v 26, .v 27] 2 [] <|
   (.leaf .ret [.v 28, .v 29, .c (.bool true)] ()))))))))))))))))
/-- impl.GoodTable -/
def tm14 : Tm Unit :=
  (.call none 15 [.v 0] 1 [] <|
  (.lt (some (.v 2, true)) .len [.v 1] 1 <|
  (.lt (some (.v 2, true)) .id [.v 0] 1 <|
  (.lt (some (.v 2, true)) (.bin .eql) [.v 3, .v 4] 1 <|
  (.lt none .pick [.v 2, .v 5, .c (.bool false)] 1 <|
  (.call (some (.v 6, true)) 16 [.v 1, .v 0, .v 1] 1 [] <|
  (.lt (some (.v 6, true)) .not [.v 7] 1 <|
  (.lt none .pick [.v 6, .v 8, .c (.bool false)] 1 <|
  (.leaf .ret [.v 9] ())))))))))
/-- impl.IsGroup -/
def tm15 : Tm Unit :=
  (.lt none (.bin .eql) [.v 0, .c (.int .i64 3)] 1 <|
  (.lt (some (.v 1, false)) .id [.v 0] 1 <|
  (.lt (some (.v 1, false)) (.bin .eql) [.v 2, .c (.int .i64 5)] 1 <|
  (.lt none .pick [.v 1, .c (.bool true), .v 3] 1 <|
  (.leaf .ret [.v 4] ())))))
/-- slices.ContainsFunc[[][]impl.Row,[]impl.Row]@impl.GoodTable$1 -/
def tm16 : Tm Unit :=
  (.call none 17 [.v 0, .v 1, .v 2] 1 [] <|
  (.lt none (.bin .geq) [.v 3, .c (.int .i64 0)] 1 <|
  (.leaf .ret [.v 4] ())))
/-- slices.IndexFunc[[][]impl.Row,[]impl.Row]@impl.GoodTable$1 -/
def tm17 : Tm Unit :=
  (.lt none .len [.v 0] 1 <|
  (.bind 1
   (.loop [.c (.int .i64 0)]
    (.lt none (.bin .lss) [.v 4, .v 3] 1 <|
    (.ite (.v 5)
     (.lt none .inb [.v 0, .v 4] 0 <|
     (.lt none (.row 1 0 [false]) [.v 0, .v 4] 1 <|
     (.call none 18 [.v 6, .v 1, .v 2] 1 [] <|
     (.ite (.v 7)
      (.leaf .ret [.v 4] ())
      (.lt none (.bin .add) [.v 4, .c (.int .i64 1)] 1 <|
      (.leaf .cont [.v 8] ()))))))
     (.leaf (.yield 1) [] ())))) <|
  (.leaf .ret [.c (.int .i64 (-1))] ())))
/-- impl.GoodTable$1 -/
def tm18 : Tm Unit :=
  (.lt none .len [.v 0] 1 <|
  (.lt none (.bin .gtr) [.v 3, .c (.int .i64 6)] 1 <|
  (.call (some (.v 4, false)) 19 [.v 0, .v 1, .v 2] 1 [] <|
  (.lt none .pick [.v 4, .c (.bool true), .v 5] 1 <|
  (.leaf .ret [.v 6] ())))))
/-- slices.ContainsFunc[[]impl.Row,impl.Row]@impl.GoodTable$1$1 -/
def tm19 : Tm Unit :=
  (.call none 20 [.v 0, .v 1, .v 2] 1 [] <|
  (.lt none (.bin .geq) [.v 3, .c (.int .i64 0)] 1 <|
  (.leaf .ret [.v 4] ())))
/-- slices.IndexFunc[[]impl.Row,impl.Row]@impl.GoodTable$1$1 -/
def tm20 : Tm Unit :=
  (.lt none .len [.v 0] 1 <|
  (.bind 1
   (.loop [.c (.int .i64 0)]
    (.lt none (.bin .lss) [.v 4, .v 3] 1 <|
    (.ite (.v 5)
     (.lt none .inb [.v 0, .v 4] 0 <|
     (.lt none (.row 10 0 [true, true, true, true, true, true, true, true, true, false]) [.v 0, .v 4] 10 <|
     (.call none 21 [.v 6, .v 7, .v 8, .v 9, .v 10, .v 11, .v 12, .v 13, .v 14, .v 15, .v 1, .v 2] 1 [] <|
     (.ite (.v 16)
      (.leaf .ret [.v 4] ())
      (.lt none (.bin .add) [.v 4, .c (.int .i64 1)] 1 <|
      (.leaf .cont [.v 17] ()))))))
     (.leaf (.yield 1) [] ())))) <|
  (.leaf .ret [.c (.int .i64 (-1))] ())))
/-- impl.GoodTable$1$1 -/
def tm21 : Tm Unit :=
  (.call none 22 [.v 10, .v 0, .v 1, .v 2, .v 3, .v 4, .v 5, .v 6, .v 7, .v 8, .v 9] 1 [] <|
  (.lt none .not [.v 12] 1 <|
  (.leaf .ret [.v 13] ())))
/-- impl.goodRow -/
def tm22 : Tm Unit :=
  (.call none 23 [.v 1, .c (.int .i64 0), .c (.int .i64 9999)] 1 [] <|
  (.lt none .not [.v 11] 1 <|
  (.lt (some (.v 12, false)) .id [.v 2] 1 <|
  (.lt (some (.v 12, false)) .id [.v 1] 1 <|
  (.call (some (.v 12, false)) 23 [.v 13, .c (.int .i64 0), .v 14] 1 [] <|
  (.lt (some (.v 12, false)) .not [.v 15] 1 <|
  (.lt none .pick [.v 12, .c (.bool true), .v 16] 1 <|
  (.lt (some (.v 17, false)) .id [.v 3] 1 <|
  (.call (some (.v 17, false)) 23 [.v 18, .c (.int .i64 0), .c (.int .i64 3)] 1 [] <|
  (.lt (some (.v 17, false)) .not [.v 19] 1 <|
  (.lt none .pick [.v 17, .c (.bool true), .v 20] 1 <|
  (.call (some (.v 21, false)) 24 [.v 4, .v 5, .v 6, .v 7, .v 8] 1 [] <|
  (.lt (some (.v 21, false)) .not [.v 22] 1 <|
  (.lt none .pick [.v 21, .c (.bool true), .v 23] 1 <|
  (.lt (some (.v 24, false)) .id [.v 0] 1 <|
  (.call (some (.v 24, false)) 26 [.v 25, .v 9, .v 10] 1 [] <|
  (.lt (some (.v 24, false)) .not [.v 26] 1 <|
  (.lt none .pick [.v 24, .c (.bool true), .v 27] 1 <|
  (.ite (.v 28)
   (.leaf .ret [.c (.bool false)] ())
   (.lt none (.bin .neq) [.v 3, .c (.int .i64 0)] 1 <|
   (.lt (some (.v 29, false)) .id [.v 2] 1 <|
   (.lt (some (.v 29, false)) (.bin .eql) [.v 30, .c (.int .i64 0)] 1 <|
   (.lt (some (.v 29, false)) .id [.v 31] 1 <|
   (.lt (some (.v 32, true)) (.eqs [0, 0, 0, 0, 0]) [.v 4, .v 5, .v 6, .v 7, .v 8, .c (.int .i64 0), .c (.int .i64 0), .c (.int .i64 0), .c (.int .i64 0), .c (.int .i64 0)] 1 <|
   (.lt (some (.v 29, false)) .pick [.v 32, .v 33, .c (.bool false)] 1 <|
   (.lt (some (.v 29, false)) .id [.v 34] 1 <|
   (.lt (some (.v 35, true)) .id [.v 0] 1 <|
   (.call (some (.v 35, true)) 30 [.v 36] 2 [] <|
   (.call (some (.v 35, true)) 31 [.v 9, .v 10, .v 37, .v 38] 1 [] <|
   (.lt (some (.v 29, false)) .pick [.v 35, .v 39, .c (.bool false)] 1 <|
   (.lt none .pick [.v 29, .c (.bool true), .v 40] 1 <|
   (.leaf .ret [.v 41] ()))))))))))))))))))))))))))))))))
/-- impl.within -/
def tm23 : Tm Unit :=
  (.lt none (.bin .leq) [.v 1, .v 0] 1 <|
  (.lt (some (.v 3, true)) .id [.v 0] 1 <|
  (.lt (some (.v 3, true)) .id [.v 2] 1 <|
  (.lt (some (.v 3, true)) (.bin .leq) [.v 4, .v 5] 1 <|
  (.lt none .pick [.v 3, .v 6, .c (.bool false)] 1 <|
  (.leaf .ret [.v 7] ()))))))
/-- impl.GoodCmd -/
def tm24 : Tm Unit :=
  (.lt none (.bin .eql) [.v 0, .c (.int .i64 0)] 1 <|
  (.ite (.v 5)
   (.lt none (.eqs [0, 0, 0, 0, 0]) [.v 0, .v 1, .v 2, .v 3, .v 4, .c (.int .i64 0), .c (.int .i64 0), .c (.int .i64 0), .c (.int .i64 0), .c (.int .i64 0)] 1 <|
   (.leaf .ret [.v 6] ()))
   (.lt none (.bin .eql) [.v 0, .c (.int .i64 1)] 1 <|
   (.ite (.v 6)
    (.call none 23 [.v 1, .c (.int .i64 1), .c (.int .i64 999)] 1 [] <|
    (.lt (some (.v 7, true)) .id [.v 2] 1 <|
    (.call (some (.v 7, true)) 25 [.v 8] 1 [] <|
    (.lt none .pick [.v 7, .v 9, .c (.bool false)] 1 <|
    (.lt (some (.v 10, true)) .id [.v 3] 1 <|
    (.call (some (.v 10, true)) 25 [.v 11] 1 [] <|
    (.lt none .pick [.v 10, .v 12, .c (.bool false)] 1 <|
    (.lt (some (.v 13, true)) .id [.v 2] 1 <|
    (.lt (some (.v 13, true)) .id [.v 3] 1 <|
    (.lt (some (.v 13, true)) (.bin .neq) [.v 14, .v 15] 1 <|
    (.lt none .pick [.v 13, .v 16, .c (.bool false)] 1 <|
    (.lt (some (.v 17, true)) .id [.v 4] 1 <|
    (.call (some (.v 17, true)) 23 [.v 18, .c (.int .i64 1), .c (.int .i64 1000)] 1 [] <|
    (.lt none .pick [.v 17, .v 19, .c (.bool false)] 1 <|
    (.leaf .ret [.v 20] ())))))))))))))))
    (.lt none (.bin .eql) [.v 0, .c (.int .i64 2)] 1 <|
    (.lt (some (.v 7, true)) .id [.v 1] 1 <|
    (.call (some (.v 7, true)) 23 [.v 8, .c (.int .i64 1), .c (.int .i64 999)] 1 [] <|
    (.lt none .pick [.v 7, .v 9, .c (.bool false)] 1 <|
    (.lt (some (.v 10, true)) .id [.v 2] 1 <|
    (.call (some (.v 10, true)) 25 [.v 11] 1 [] <|
    (.lt none .pick [.v 10, .v 12, .c (.bool false)] 1 <|
    (.lt (some (.v 13, true)) .id [.v 3] 1 <|
    (.lt (some (.v 13, true)) (.bin .eql) [.v 14, .c (.int .i64 0)] 1 <|
    (.lt none .pick [.v 13, .v 15, .c (.bool false)] 1 <|
    (.lt (some (.v 16, true)) .id [.v 4] 1 <|
    (.lt (some (.v 16, true)) (.bin .eql) [.v 17, .c (.int .i64 0)] 1 <|
    (.lt none .pick [.v 16, .v 18, .c (.bool false)] 1 <|
    (.leaf .ret [.v 19] ()))))))))))))))))))
/-- impl.isAccount -/
def tm25 : Tm Unit :=
  (.call none 23 [.v 0, .c (.int .i64 0), .c (.int .i64 3)] 1 [] <|
  (.leaf .ret [.v 1] ()))
/-- impl.GoodAttr -/
def tm26 : Tm Unit :=
  (.call none 15 [.v 0] 1 [] <|
  (.lt (some (.v 3, true)) .id [.v 1] 1 <|
  (.call (some (.v 3, true)) 23 [.v 4, .c (.int .i64 0), .c (.int .i64 999)] 1 [] <|
  (.lt none .pick [.v 3, .v 5, .c (.bool false)] 1 <|
  (.lt (some (.v 6, true)) .len [.v 2] 1 <|
  (.lt (some (.v 6, true)) .id [.v 0] 1 <|
  (.lt (some (.v 6, true)) (.bin .eql) [.v 7, .v 8] 1 <|
  (.lt none .pick [.v 6, .v 9, .c (.bool false)] 1 <|
  (.call (some (.v 10, true)) 27 [.v 2] 1 [] <|
  (.lt (some (.v 10, true)) .not [.v 11] 1 <|
  (.lt none .pick [.v 10, .v 12, .c (.bool false)] 1 <|
  (.leaf .ret [.v 13] ()))))))))))))
/-- slices.ContainsFunc[[]int,int]@impl.GoodAttr$1 -/
def tm27 : Tm Unit :=
  (.call none 28 [.v 0] 1 [] <|
  (.lt none (.bin .geq) [.v 1, .c (.int .i64 0)] 1 <|
  (.leaf .ret [.v 2] ())))
/-- slices.IndexFunc[[]int,int]@impl.GoodAttr$1 -/
def tm28 : Tm Unit :=
  (.lt none .len [.v 0] 1 <|
  (.bind 1
   (.loop [.c (.int .i64 0)]
    (.lt none (.bin .lss) [.v 2, .v 1] 1 <|
    (.ite (.v 3)
     (.lt none .inb [.v 0, .v 2] 0 <|
     (.lt none (.row 1 0 [true]) [.v 0, .v 2] 1 <|
     (.call none 29 [.v 4] 1 [] <|
     (.ite (.v 5)
      (.leaf .ret [.v 2] ())
      (.lt none (.bin .add) [.v 2, .c (.int .i64 1)] 1 <|
      (.leaf .cont [.v 6] ()))))))
     (.leaf (.yield 1) [] ())))) <|
  (.leaf .ret [.c (.int .i64 (-1))] ())))
/-- impl.GoodAttr$1 -/
def tm29 : Tm Unit :=
  (.call none 23 [.v 0, .c (.int .i64 0), .c (.int .i64 6)] 1 [] <|
  (.lt none .not [.v 1] 1 <|
  (.leaf .ret [.v 2] ())))
/-- impl.noneAttr -/
def tm30 : Tm Unit :=
  (.lt none (.make 8 [(.int .i64 0)]) [.v 0] 1 <|
  (.leaf .ret [.c (.int .i64 0), .v 1] ()))
/-- impl.SameAttr -/
def tm31 : Tm Unit :=
  (.lt none (.bin .eql) [.v 0, .v 2] 1 <|
  (.call (some (.v 4, true)) 32 [.v 1, .v 3] 1 [] <|
  (.lt none .pick [.v 4, .v 5, .c (.bool false)] 1 <|
  (.leaf .ret [.v 6] ()))))
/-- slices.Equal[[]int,int] -/
def tm32 : Tm Unit :=
  (.lt none .len [.v 0] 1 <|
  (.lt none .len [.v 1] 1 <|
  (.lt none (.bin .neq) [.v 2, .v 3] 1 <|
  (.ite (.v 4)
   (.leaf .ret [.c (.bool false)] ())
   (.lt none .len [.v 0] 1 <|
   (.bind 1
    (.loop [.c (.int .i64 0)]
     (.lt none (.bin .lss) [.v 6, .v 5] 1 <|
     (.ite (.v 7)
      (.lt none .inb [.v 0, .v 6] 0 <|
      (.lt none (.row 1 0 [true]) [.v 0, .v 6] 1 <|
      (.lt none .inb [.v 1, .v 6] 0 <|
      (.lt none (.row 1 0 [true]) [.v 1, .v 6] 1 <|
      (.lt none (.bin .neq) [.v 8, .v 9] 1 <|
      (.ite (.v 10)
       (.leaf .ret [.c (.bool false)] ())
       (.lt none (.bin .add) [.v 6, .c (.int .i64 1)] 1 <|
       (.leaf .cont [.v 11] ()))))))))
      (.leaf (.yield 1) [] ())))) <|
   (.leaf .ret [.c (.bool true)] ())))))))
/-- impl.isInstance -/
def tm33 : Tm Unit :=
  (.call none 15 [.v 0] 1 [] <|
  (.lt (some (.v 3, true)) .id [.v 1] 1 <|
  (.lt (some (.v 3, true)) .id [.v 0] 1 <|
  (.lt (some (.v 3, true)) (.bin .sub) [.v 5, .c (.int .i64 1)] 1 <|
  (.call (some (.v 3, true)) 23 [.v 4, .c (.int .i64 0), .v 6] 1 [] <|
  (.lt none .pick [.v 3, .v 7, .c (.bool false)] 1 <|
  (.lt (some (.v 8, true)) .id [.v 2] 1 <|
  (.call (some (.v 8, true)) 23 [.v 9, .c (.int .i64 1), .c (.int .i64 6)] 1 [] <|
  (.lt none .pick [.v 8, .v 10, .c (.bool false)] 1 <|
  (.leaf .ret [.v 11] ()))))))))))
/-- (impl.Table).copied -/
def tm34 : Tm Unit :=
  (.lt none .len [.v 1] 1 <|
  (.bind 1
   (.loop [.c (.int .i64 0), .c (.rows 1 [])]
    (.lt none (.bin .lss) [.v 3, .v 2] 1 <|
    (.ite (.v 5)
     (.lt none .inb [.v 1, .v 3] 0 <|
     (.lt none (.row 1 0 [false]) [.v 1, .v 3] 1 <|
     (.call none 35 [.v 6] 1 [] <|
     (.lt none (.mk 1 1) [.v 7] 1 <|
     (.lt none (.app 1 24 false) [.v 4, .v 8] 1 <|
     (.lt none (.bin .add) [.v 3, .c (.int .i64 1)] 1 <|
     (.leaf .cont [.v 10, .v 9] ())))))))
     (.leaf (.yield 1) [.v 4] ())))) <|
  (.leaf .ret [.v 0, .v 3] ())))
/-- impl.copyRows -/
def tm35 : Tm Unit :=
  (.lt none (.mk 10 0) [] 1 <|
  (.lt none .len [.v 0] 1 <|
  (.bind 1
   (.loop [.v 1, .c (.int .i64 0)]
    (.lt none (.bin .lss) [.v 4, .v 2] 1 <|
    (.ite (.v 5)
     (.lt none .inb [.v 0, .v 4] 0 <|
     (.lt none (.row 10 0 [true, true, true, true, true, true, true, true, true, false]) [.v 0, .v 4] 10 <|
     (.call none 36 [.v 6, .v 7, .v 8, .v 9, .v 10, .v 11, .v 12, .v 13, .v 14, .v 15] 10 [] <|
     (.lt none (.mk 10 1) [.v 16, .v 17, .v 18, .v 19, .v 20, .v 21, .v 22, .v 23, .v 24, .v 25] 1 <|
     (.lt none (.app 10 96 false) [.v 3, .v 26] 1 <|
     (.lt none (.bin .add) [.v 4, .c (.int .i64 1)] 1 <|
     (.leaf .cont [.v 27, .v 28] ())))))))
     (.leaf (.yield 1) [.v 3] ())))) <|
  (.leaf .ret [.v 3] ()))))
/-- (impl.Row).copied -/
def tm36 : Tm Unit :=
  (.call none 37 [.v 8, .v 9] 2 [] <|
  (.leaf .ret [.v 0, .v 1, .v 2, .v 3, .v 4, .v 5, .v 6, .v 7, .v 10, .v 11] ()))
/-- (impl.Attr).copied -/
def tm37 : Tm Unit :=
  (.call none 38 [.v 1] 1 [] <|
  (.leaf .ret [.v 0, .v 2] ()))
/-- slices.Clone[[]int,int] -/
def tm38 : Tm Unit :=
  (.lt none .ne [.v 0] 0 <|
  (.lt none .emp [.v 0] 1 <|
  (.ite (.v 1)
   (.leaf .ret [.c (.rows 1 [])] ())
   (.lt none (.mk 1 0) [] 1 <|
   (.lt none (.app 1 8 true) [.v 2, .v 0] 1 <|
   (.leaf .ret [.v 3] ()))))))
/-- (*impl.Table).set -/
def tm39 : Tm Unit :=
  (.bind 1
   (.loop [.v 13]
    (.lt none .inb [.v 14, .v 0] 0 <|
    (.lt none (.row 1 0 [false]) [.v 14, .v 0] 1 <|
    (.lt none .len [.v 15] 1 <|
    (.lt none (.bin .lss) [.v 16, .v 1] 1 <|
    (.ite (.v 17)
     (.lt none .inb [.v 14, .v 0] 0 <|
     (.lt none (.row 1 0 [false]) [.v 14, .v 0] 1 <|
     (.call none 30 [.v 12] 2 [] <|
     (.lt none (.mk 10 1) [.c (.int .i64 0), .c (.int .i64 0), .c (.int .i64 0), .c (.int .i64 0), .c (.int .i64 0), .c (.int .i64 0), .c (.int .i64 0), .c (.int .i64 0), .v 19, .v 20] 1 <|
     (.lt none (.set 1 0 1) [.v 14, .v 0, .c .hole] 1 <|
     (.lt none (.app 10 96 false) [.v 18, .v 21] 1 <|
     (.lt none .inb [.v 22, .v 0] 0 <|
     (.lt none (.set 1 0 1) [.v 22, .v 0, .v 23] 1 <|
     (.leaf .cont [.v 24] ())))))))))
     (.leaf (.yield 1) [.v 14] ()))))))) <|
  (.lt none .inb [.v 14, .v 0] 0 <|
  (.lt none (.row 1 0 [false]) [.v 14, .v 0] 1 <|
  (.lt none (.bin .sub) [.v 1, .c (.int .i64 1)] 1 <|
  (.call none 36 [.v 2, .v 3, .v 4, .v 5, .v 6, .v 7, .v 8, .v 9, .v 10, .v 11] 10 [] <|
  (.lt none .inb [.v 15, .v 16] 0 <|
  (.lt none (.set 10 0 10) [.v 15, .v 16, .v 17, .v 18, .v 19, .v 20, .v 21, .v 22, .v 23, .v 24, .v 25, .v 26] 1 <|
  (.lt none (.set 1 0 1) [.v 14, .v 0, .v 27] 1 <|
  (.leaf .ret [.v 12, .v 28] ())))))))))
/-- spec.SetRow -/
def tm40 : Tm Unit :=
  (.call none 41 [.v 0, .v 1, .v 2, .v 3] 1 [] <|
  (.lt none .not [.v 14] 1 <|
  (.lt (some (.v 15, false)) .id [.v 0] 1 <|
  (.call (some (.v 15, false)) 44 [.v 16, .v 4, .v 5, .v 6, .v 7, .v 8, .v 9, .v 10, .v 11, .v 12, .v 13] 1 [] <|
  (.lt (some (.v 15, false)) .not [.v 17] 1 <|
  (.lt none .pick [.v 15, .c (.bool true), .v 18] 1 <|
  (.ite (.v 19)
   (.leaf .ret [.c (.int .i64 0), .c (.rows 1 []), .c (.bool false)] ())
   (.call none 54 [.v 0, .v 1, .v 2, .v 3, .v 4, .v 5, .v 6, .v 7, .v 8, .v 9, .v 10, .v 11, .v 12, .v 13] 2 [] <|
   (.leaf .ret [.v 20, .v 21, .c (.bool true)] ())))))))))
/-- spec.l4Asked -/
def tm41 : Tm Unit :=
  (.call none 42 [.v 0, .v 1] 1 [] <|
  (.lt (some (.v 4, true)) .id [.v 0] 1 <|
  (.lt (some (.v 4, true)) .id [.v 2] 1 <|
  (.lt (some (.v 4, true)) .id [.v 3] 1 <|
  (.call (some (.v 4, true)) 53 [.v 5, .v 6, .v 7] 1 [] <|
  (.lt none .pick [.v 4, .v 8, .c (.bool false)] 1 <|
  (.leaf .ret [.v 9] ())))))))
/-- spec.GoodTable -/
def tm42 : Tm Unit :=
  (.call none 43 [.v 0] 1 [] <|
  (.lt none .not [.v 2] 1 <|
  (.lt (some (.v 3, false)) .len [.v 1] 1 <|
  (.lt (some (.v 3, false)) .id [.v 0] 1 <|
  (.lt (some (.v 3, false)) (.bin .neq) [.v 4, .v 5] 1 <|
  (.lt none .pick [.v 3, .c (.bool true), .v 6] 1 <|
  (.ite (.v 7)
   (.leaf .ret [.c (.bool false)] ())
   (.lt none .len [.v 1] 1 <|
   (.bind 1
    (.loop [.c (.int .i64 0)]
     (.lt none (.bin .lss) [.v 9, .v 8] 1 <|
     (.ite (.v 10)
      (.lt none .inb [.v 1, .v 9] 0 <|
      (.lt none (.row 1 0 [false]) [.v 1, .v 9] 1 <|
      (.lt none .len [.v 11] 1 <|
      (.bind 3
       (.loop [.c (.int .i64 0)]
        (.lt none (.bin .lss) [.v 13, .v 12] 1 <|
        (.ite (.v 14)
         (.lt none .inb [.v 11, .v 13] 0 <|
         (.lt none (.row 10 0 [true, true, true, true, true, true, true, true, true, false]) [.v 11, .v 13] 10 <|
         (.call none 44 [.v 0, .v 15, .v 16, .v 17, .v 18, .v 19, .v 20, .v 21, .v 22, .v 23, .v 24] 1 [] <|
         (.lt none .not [.v 25] 1 <|
         (.ite (.v 26)
          (.leaf .ret [.c (.bool false)] ())
          (.lt none (.bin .add) [.v 13, .c (.int .i64 1)] 1 <|
          (.leaf .cont [.v 27] ())))))))
         (.leaf (.yield 3) [] ())))) <|
      (.lt none .len [.v 11] 1 <|
      (.lt none (.bin .gtr) [.v 13, .c (.int .i64 6)] 1 <|
      (.ite (.v 14)
       (.leaf .ret [.c (.bool false)] ())
       (.lt none (.bin .add) [.v 9, .c (.int .i64 1)] 1 <|
       (.leaf .cont [.v 15] ())))))))))
      (.leaf (.yield 1) [] ())))) <|
   (.leaf .ret [.c (.bool true)] ()))))))))))
/-- spec.IsGroup -/
def tm43 : Tm Unit :=
  (.lt none (.bin .eql) [.v 0, .c (.int .i64 3)] 1 <|
  (.lt (some (.v 1, false)) .id [.v 0] 1 <|
  (.lt (some (.v 1, false)) (.bin .eql) [.v 2, .c (.int .i64 5)] 1 <|
  (.lt none .pick [.v 1, .c (.bool true), .v 3] 1 <|
  (.leaf .ret [.v 4] ())))))
/-- spec.l4Row -/
def tm44 : Tm Unit :=
  (.call none 45 [.v 1, .c (.int .i64 0), .c (.int .i64 9999)] 1 [] <|
  (.lt none .not [.v 11] 1 <|
  (.lt (some (.v 12, false)) .id [.v 2] 1 <|
  (.lt (some (.v 12, false)) .id [.v 1] 1 <|
  (.call (some (.v 12, false)) 45 [.v 13, .c (.int .i64 0), .v 14] 1 [] <|
  (.lt (some (.v 12, false)) .not [.v 15] 1 <|
  (.lt none .pick [.v 12, .c (.bool true), .v 16] 1 <|
  (.lt (some (.v 17, false)) .id [.v 3] 1 <|
  (.call (some (.v 17, false)) 45 [.v 18, .c (.int .i64 0), .c (.int .i64 3)] 1 [] <|
  (.lt (some (.v 17, false)) .not [.v 19] 1 <|
  (.lt none .pick [.v 17, .c (.bool true), .v 20] 1 <|
  (.ite (.v 21)
   (.leaf .ret [.c (.bool false)] ())
   (.lt none (.bin .eql) [.v 3, .c (.int .i64 0)] 1 <|
   (.ite (.v 22)
    (.lt none (.bin .eql) [.v 2, .c (.int .i64 0)] 1 <|
    (.lt (some (.v 23, true)) (.eqs [0, 0, 0, 0, 0]) [.v 4, .v 5, .v 6, .v 7, .v 8, .c (.int .i64 0), .c (.int .i64 0), .c (.int .i64 0), .c (.int .i64 0), .c (.int .i64 0)] 1 <|
    (.lt none .pick [.v 23, .v 24, .c (.bool false)] 1 <|
    (.lt (some (.v 25, true)) .id [.v 0] 1 <|
    (.call (some (.v 25, true)) 11 [.v 26] 2 [] <|
    (.call (some (.v 25, true)) 46 [.v 9, .v 10, .v 27, .v 28] 1 [] <|
    (.lt none .pick [.v 25, .v 29, .c (.bool false)] 1 <|
    (.leaf .ret [.v 30] ()))))))))
    (.call none 48 [.v 4, .v 5, .v 6, .v 7, .v 8] 1 [] <|
    (.lt (some (.v 23, true)) .id [.v 0] 1 <|
    (.call (some (.v 23, true)) 51 [.v 24, .v 9, .v 10] 1 [] <|
    (.lt none .pick [.v 23, .v 25, .c (.bool false)] 1 <|
    (.leaf .ret [.v 26] ())))))))))))))))))))
/-- spec.l1In -/
def tm45 : Tm Unit :=
  (.lt none (.bin .geq) [.v 0, .v 1] 1 <|
  (.lt (some (.v 3, true)) .id [.v 0] 1 <|
  (.lt (some (.v 3, true)) .id [.v 2] 1 <|
  (.lt (some (.v 3, true)) (.bin .leq) [.v 4, .v 5] 1 <|
  (.lt none .pick [.v 3, .v 6, .c (.bool false)] 1 <|
  (.leaf .ret [.v 7] ()))))))
/-- spec.SameAttr -/
def tm46 : Tm Unit :=
  (.lt none (.bin .eql) [.v 0, .v 2] 1 <|
  (.call (some (.v 4, true)) 47 [.v 1, .v 3] 1 [] <|
  (.lt none .pick [.v 4, .v 5, .c (.bool false)] 1 <|
  (.leaf .ret [.v 6] ()))))
/-- spec.l1Same -/
def tm47 : Tm Unit :=
  (.lt none .len [.v 0] 1 <|
  (.lt none .len [.v 1] 1 <|
  (.lt none (.bin .neq) [.v 2, .v 3] 1 <|
  (.ite (.v 4)
   (.leaf .ret [.c (.bool false)] ())
   (.lt none .len [.v 0] 1 <|
   (.bind 1
    (.loop [.c (.int .i64 0)]
     (.lt none (.bin .lss) [.v 6, .v 5] 1 <|
     (.ite (.v 7)
      (.lt none .inb [.v 0, .v 6] 0 <|
      (.lt none (.row 1 0 [true]) [.v 0, .v 6] 1 <|
      (.lt none .inb [.v 1, .v 6] 0 <|
      (.lt none (.row 1 0 [true]) [.v 1, .v 6] 1 <|
      (.lt none (.bin .neq) [.v 8, .v 9] 1 <|
      (.ite (.v 10)
       (.leaf .ret [.c (.bool false)] ())
       (.lt none (.bin .add) [.v 6, .c (.int .i64 1)] 1 <|
       (.leaf .cont [.v 11] ()))))))))
      (.leaf (.yield 1) [] ())))) <|
   (.leaf .ret [.c (.bool true)] ())))))))
/-- spec.GoodCmd -/
def tm48 : Tm Unit :=
  (.lt none (.bin .eql) [.v 0, .c (.int .i64 0)] 1 <|
  (.ite (.v 5)
   (.lt none (.eqs [0, 0, 0, 0, 0]) [.v 0, .v 1, .v 2, .v 3, .v 4, .c (.int .i64 0), .c (.int .i64 0), .c (.int .i64 0), .c (.int .i64 0), .c (.int .i64 0)] 1 <|
   (.leaf .ret [.v 6] ()))
   (.lt none (.bin .eql) [.v 0, .c (.int .i64 1)] 1 <|
   (.ite (.v 6)
    (.call none 49 [.v 0, .v 1, .v 2, .v 3, .v 4] 1 [] <|
    (.lt none (.bin .eql) [.v 7, .c (.int .i64 0)] 1 <|
    (.leaf .ret [.v 8] ())))
    (.lt none (.bin .eql) [.v 0, .c (.int .i64 2)] 1 <|
    (.ite (.v 7)
     (.call none 49 [.v 0, .v 1, .v 2, .v 3, .v 4] 1 [] <|
     (.lt none (.bin .eql) [.v 8, .c (.int .i64 0)] 1 <|
     (.lt (some (.v 9, true)) .id [.v 3] 1 <|
     (.lt (some (.v 9, true)) (.bin .eql) [.v 10, .c (.int .i64 0)] 1 <|
     (.lt none .pick [.v 9, .v 11, .c (.bool false)] 1 <|
     (.lt (some (.v 12, true)) .id [.v 4] 1 <|
     (.lt (some (.v 12, true)) (.bin .eql) [.v 13, .c (.int .i64 0)] 1 <|
     (.lt none .pick [.v 12, .v 14, .c (.bool false)] 1 <|
     (.leaf .ret [.v 15] ())))))))))
     (.leaf .ret [.c (.bool false)] ())))))))
/-- spec.l2Code -/
def tm49 : Tm Unit :=
  (.lt none (.bin .eql) [.v 0, .c (.int .i64 1)] 1 <|
  (.call none 50 [.v 2] 1 [] <|
  (.lt none .not [.v 6] 1 <|
  (.lt (some (.v 7, false)) .id [.v 5] 1 <|
  (.lt (some (.v 7, false)) .id [.v 8] 1 <|
  (.lt (some (.v 9, true)) .id [.v 3] 1 <|
  (.call (some (.v 9, true)) 50 [.v 10] 1 [] <|
  (.lt (some (.v 9, true)) .not [.v 11] 1 <|
  (.lt (some (.v 7, false)) .pick [.v 9, .v 12, .c (.bool false)] 1 <|
  (.lt none .pick [.v 7, .c (.bool true), .v 13] 1 <|
  (.ite (.v 14)
   (.leaf .ret [.c (.int .i64 4)] ())
   (.lt (some (.v 5, true)) .id [.v 2] 1 <|
   (.lt (some (.v 5, true)) .id [.v 3] 1 <|
   (.lt (some (.v 5, true)) (.bin .eql) [.v 15, .v 16] 1 <|
   (.lt none .pick [.v 5, .v 17, .c (.bool false)] 1 <|
   (.ite (.v 18)
    (.leaf .ret [.c (.int .i64 5)] ())
    (.call none 45 [.v 1, .c (.int .i64 1), .c (.int .i64 999)] 1 [] <|
    (.lt none .not [.v 19] 1 <|
    (.lt (some (.v 20, false)) .id [.v 5] 1 <|
    (.lt (some (.v 20, false)) .id [.v 21] 1 <|
    (.lt (some (.v 22, true)) .id [.v 4] 1 <|
    (.call (some (.v 22, true)) 45 [.v 23, .c (.int .i64 1), .c (.int .i64 1000)] 1 [] <|
    (.lt (some (.v 22, true)) .not [.v 24] 1 <|
    (.lt (some (.v 20, false)) .pick [.v 22, .v 25, .c (.bool false)] 1 <|
    (.lt none .pick [.v 20, .c (.bool true), .v 26] 1 <|
    (.ite (.v 27)
     (.leaf .ret [.c (.int .i64 6)] ())
     (.leaf .ret [.c (.int .i64 0)] ())))))))))))))))))))))))))))
/-- spec.l2Account -/
def tm50 : Tm Unit :=
  (.call none 45 [.v 0, .c (.int .i64 0), .c (.int .i64 3)] 1 [] <|
  (.leaf .ret [.v 1] ()))
/-- spec.l3Attr -/
def tm51 : Tm Unit :=
  (.call none 45 [.v 1, .c (.int .i64 0), .c (.int .i64 999)] 1 [] <|
  (.lt (some (.v 3, true)) .len [.v 2] 1 <|
  (.lt (some (.v 3, true)) .id [.v 0] 1 <|
  (.lt (some (.v 3, true)) (.bin .eql) [.v 4, .v 5] 1 <|
  (.lt none .pick [.v 3, .v 6, .c (.bool false)] 1 <|
  (.call (some (.v 7, true)) 52 [.v 2, .c (.int .i64 0), .c (.int .i64 6)] 1 [] <|
  (.lt none .pick [.v 7, .v 8, .c (.bool false)] 1 <|
  (.leaf .ret [.v 9] ()))))))))
/-- spec.l1All -/
def tm52 : Tm Unit :=
  (.lt none .len [.v 0] 1 <|
  (.bind 1
   (.loop [.c (.int .i64 0)]
    (.lt none (.bin .lss) [.v 4, .v 3] 1 <|
    (.ite (.v 5)
     (.lt none .inb [.v 0, .v 4] 0 <|
     (.lt none (.row 1 0 [true]) [.v 0, .v 4] 1 <|
     (.call none 45 [.v 6, .v 1, .v 2] 1 [] <|
     (.lt none .not [.v 7] 1 <|
     (.ite (.v 8)
      (.leaf .ret [.c (.bool false)] ())
      (.lt none (.bin .add) [.v 4, .c (.int .i64 1)] 1 <|
      (.leaf .cont [.v 9] ())))))))
     (.leaf (.yield 1) [] ())))) <|
  (.leaf .ret [.c (.bool true)] ())))
/-- spec.l3Inst -/
def tm53 : Tm Unit :=
  (.lt none (.bin .sub) [.v 0, .c (.int .i64 1)] 1 <|
  (.call none 45 [.v 1, .c (.int .i64 0), .v 3] 1 [] <|
  (.lt (some (.v 4, true)) .id [.v 2] 1 <|
  (.call (some (.v 4, true)) 45 [.v 5, .c (.int .i64 1), .c (.int .i64 6)] 1 [] <|
  (.lt none .pick [.v 4, .v 6, .c (.bool false)] 1 <|
  (.leaf .ret [.v 7] ()))))))
/-- spec.l4Set -/
def tm54 : Tm Unit :=
  (.call none 55 [.v 0, .v 1] 2 [] <|
  (.bind 1
   (.loop [.v 15]
    (.lt none .inb [.v 16, .v 2] 0 <|
    (.lt none (.row 1 0 [false]) [.v 16, .v 2] 1 <|
    (.lt none .len [.v 17] 1 <|
    (.lt none (.bin .lss) [.v 18, .v 3] 1 <|
    (.ite (.v 19)
     (.lt none .inb [.v 16, .v 2] 0 <|
     (.lt none (.row 1 0 [false]) [.v 16, .v 2] 1 <|
     (.call none 11 [.v 0] 2 [] <|
     (.lt none (.mk 10 1) [.c (.int .i64 0), .c (.int .i64 0), .c (.int .i64 0), .c (.int .i64 0), .c (.int .i64 0), .c (.int .i64 0), .c (.int .i64 0), .c (.int .i64 0), .v 21, .v 22] 1 <|
     (.lt none (.set 1 0 1) [.v 16, .v 2, .c .hole] 1 <|
     (.lt none (.app 10 96 false) [.v 20, .v 23] 1 <|
     (.lt none .inb [.v 24, .v 2] 0 <|
     (.lt none (.set 1 0 1) [.v 24, .v 2, .v 25] 1 <|
     (.leaf .cont [.v 26] ())))))))))
     (.leaf (.yield 1) [.v 16] ()))))))) <|
  (.lt none .inb [.v 16, .v 2] 0 <|
  (.lt none (.row 1 0 [false]) [.v 16, .v 2] 1 <|
  (.lt none (.bin .sub) [.v 3, .c (.int .i64 1)] 1 <|
  (.call none 56 [.v 4, .v 5, .v 6, .v 7, .v 8, .v 9, .v 10, .v 11, .v 12, .v 13] 10 [] <|
  (.lt none .inb [.v 17, .v 18] 0 <|
  (.lt none (.set 10 0 10) [.v 17, .v 18, .v 19, .v 20, .v 21, .v 22, .v 23, .v 24, .v 25, .v 26, .v 27, .v 28] 1 <|
  (.lt none (.set 1 0 1) [.v 16, .v 2, .v 29] 1 <|
  (.leaf .ret [.v 14, .v 30] ()))))))))))
/-- spec.l4Own -/
def tm55 : Tm Unit :=
  (.call none 7 [.v 0] 2 [] <|
  (.lt none .len [.v 1] 1 <|
  (.bind 1
   (.loop [.c (.int .i64 0), .v 3]
    (.lt none (.bin .lss) [.v 5, .v 4] 1 <|
    (.ite (.v 7)
     (.lt none .inb [.v 1, .v 5] 0 <|
     (.lt none (.row 1 0 [false]) [.v 1, .v 5] 1 <|
     (.lt none .len [.v 8] 1 <|
     (.bind 3
      (.loop [.c (.int .i64 0), .v 6]
       (.lt none (.bin .lss) [.v 10, .v 9] 1 <|
       (.ite (.v 12)
        (.lt none .inb [.v 8, .v 10] 0 <|
        (.lt none (.row 10 0 [true, true, true, true, true, true, true, true, true, false]) [.v 8, .v 10] 10 <|
        (.lt none .inb [.v 11, .v 5] 0 <|
        (.lt none (.row 1 0 [false]) [.v 11, .v 5] 1 <|
        (.call none 56 [.v 13, .v 14, .v 15, .v 16, .v 17, .v 18, .v 19, .v 20, .v 21, .v 22] 10 [] <|
        (.lt none (.mk 10 1) [.v 24, .v 25, .v 26, .v 27, .v 28, .v 29, .v 30, .v 31, .v 32, .v 33] 1 <|
        (.lt none (.set 1 0 1) [.v 11, .v 5, .c .hole] 1 <|
        (.lt none (.app 10 96 false) [.v 23, .v 34] 1 <|
        (.lt none .inb [.v 35, .v 5] 0 <|
        (.lt none (.set 1 0 1) [.v 35, .v 5, .v 36] 1 <|
        (.lt none (.bin .add) [.v 10, .c (.int .i64 1)] 1 <|
        (.leaf .cont [.v 38, .v 37] ()))))))))))))
        (.leaf (.yield 3) [.v 11] ())))) <|
     (.lt none (.bin .add) [.v 5, .c (.int .i64 1)] 1 <|
     (.leaf .cont [.v 11, .v 10] ()))))))
     (.leaf (.yield 1) [.v 6] ())))) <|
  (.leaf .ret [.v 2, .v 5] ()))))
/-- spec.l4OwnRow -/
def tm56 : Tm Unit :=
  (.call none 57 [.v 8, .v 9] 2 [] <|
  (.leaf .ret [.v 0, .v 1, .v 2, .v 3, .v 4, .v 5, .v 6, .v 7, .v 10, .v 11] ()))
/-- spec.l4OwnAttr -/
def tm57 : Tm Unit :=
  (.call none 58 [.v 1] 1 [] <|
  (.leaf .ret [.v 0, .v 2] ()))
/-- spec.l1Own -/
def tm58 : Tm Unit :=
  (.lt none (.mk 1 0) [] 1 <|
  (.lt none (.app 1 8 true) [.v 1, .v 0] 1 <|
  (.leaf .ret [.v 2] ())))
/-- laws.sameTable -/
def tm59 : Tm Unit :=
  (.lt none (.bin .neq) [.v 0, .v 2] 1 <|
  (.lt (some (.v 4, false)) .len [.v 1] 1 <|
  (.lt (some (.v 4, false)) .len [.v 3] 1 <|
  (.lt (some (.v 4, false)) (.bin .neq) [.v 5, .v 6] 1 <|
  (.lt none .pick [.v 4, .c (.bool true), .v 7] 1 <|
  (.ite (.v 8)
   (.leaf .ret [.c (.bool false)] ())
   (.lt none .len [.v 1] 1 <|
   (.bind 1
    (.loop [.c (.int .i64 0)]
     (.lt none (.bin .lss) [.v 10, .v 9] 1 <|
     (.ite (.v 11)
      (.lt none .inb [.v 1, .v 10] 0 <|
      (.lt none (.row 1 0 [false]) [.v 1, .v 10] 1 <|
      (.lt none .inb [.v 3, .v 10] 0 <|
      (.lt none (.row 1 0 [false]) [.v 3, .v 10] 1 <|
      (.call none 60 [.v 12, .v 13] 1 [] <|
      (.lt none .not [.v 14] 1 <|
      (.ite (.v 15)
       (.leaf .ret [.c (.bool false)] ())
       (.lt none (.bin .add) [.v 10, .c (.int .i64 1)] 1 <|
       (.leaf .cont [.v 16] ())))))))))
      (.leaf (.yield 1) [] ())))) <|
   (.leaf .ret [.c (.bool true)] ())))))))))
/-- laws.sameRows -/
def tm60 : Tm Unit :=
  (.lt none .len [.v 0] 1 <|
  (.lt none .len [.v 1] 1 <|
  (.lt none (.bin .neq) [.v 2, .v 3] 1 <|
  (.ite (.v 4)
   (.leaf .ret [.c (.bool false)] ())
   (.lt none .len [.v 0] 1 <|
   (.bind 1
    (.loop [.c (.int .i64 0)]
     (.lt none (.bin .lss) [.v 6, .v 5] 1 <|
     (.ite (.v 7)
      (.lt none .inb [.v 0, .v 6] 0 <|
      (.lt none (.row 10 0 [true, true, true, true, true, true, true, true, true, false]) [.v 0, .v 6] 10 <|
      (.lt none .inb [.v 1, .v 6] 0 <|
      (.lt none (.row 10 0 [true, true, true, true, true, true, true, true, true, false]) [.v 1, .v 6] 10 <|
      (.call none 61 [.v 8, .v 9, .v 10, .v 11, .v 12, .v 13, .v 14, .v 15, .v 16, .v 17, .v 18, .v 19, .v 20, .v 21, .v 22, .v 23, .v 24, .v 25, .v 26, .v 27] 1 [] <|
      (.lt none .not [.v 28] 1 <|
      (.ite (.v 29)
       (.leaf .ret [.c (.bool false)] ())
       (.lt none (.bin .add) [.v 6, .c (.int .i64 1)] 1 <|
       (.leaf .cont [.v 30] ())))))))))
      (.leaf (.yield 1) [] ())))) <|
   (.leaf .ret [.c (.bool true)] ())))))))
/-- laws.sameRow -/
def tm61 : Tm Unit :=
  (.lt none (.bin .eql) [.v 0, .v 10] 1 <|
  (.lt (some (.v 20, true)) .id [.v 1] 1 <|
  (.lt (some (.v 20, true)) .id [.v 11] 1 <|
  (.lt (some (.v 20, true)) (.bin .eql) [.v 21, .v 22] 1 <|
  (.lt none .pick [.v 20, .v 23, .c (.bool false)] 1 <|
  (.lt (some (.v 24, true)) .id [.v 2] 1 <|
  (.lt (some (.v 24, true)) .id [.v 12] 1 <|
  (.lt (some (.v 24, true)) (.bin .eql) [.v 25, .v 26] 1 <|
  (.lt none .pick [.v 24, .v 27, .c (.bool false)] 1 <|
  (.lt (some (.v 28, true)) (.eqs [0, 0, 0, 0, 0]) [.v 3, .v 4, .v 5, .v 6, .v 7, .v 13, .v 14, .v 15, .v 16, .v 17] 1 <|
  (.lt none .pick [.v 28, .v 29, .c (.bool false)] 1 <|
  (.call (some (.v 30, true)) 62 [.v 8, .v 9, .v 18, .v 19] 1 [] <|
  (.lt none .pick [.v 30, .v 31, .c (.bool false)] 1 <|
  (.leaf .ret [.v 32] ()))))))))))))))
/-- laws.sameAttr -/
def tm62 : Tm Unit :=
  (.lt none (.bin .eql) [.v 0, .v 2] 1 <|
  (.call (some (.v 4, true)) 63 [.v 1, .v 3] 1 [] <|
  (.lt none .pick [.v 4, .v 5, .c (.bool false)] 1 <|
  (.leaf .ret [.v 6] ()))))
/-- laws.sameInts -/
def tm63 : Tm Unit :=
  (.lt none .len [.v 0] 1 <|
  (.lt none .len [.v 1] 1 <|
  (.lt none (.bin .neq) [.v 2, .v 3] 1 <|
  (.ite (.v 4)
   (.leaf .ret [.c (.bool false)] ())
   (.lt none .len [.v 0] 1 <|
   (.bind 1
    (.loop [.c (.int .i64 0)]
     (.lt none (.bin .lss) [.v 6, .v 5] 1 <|
     (.ite (.v 7)
      (.lt none .inb [.v 0, .v 6] 0 <|
      (.lt none (.row 1 0 [true]) [.v 0, .v 6] 1 <|
      (.lt none .inb [.v 1, .v 6] 0 <|
      (.lt none (.row 1 0 [true]) [.v 1, .v 6] 1 <|
      (.lt none (.bin .neq) [.v 8, .v 9] 1 <|
      (.ite (.v 10)
       (.leaf .ret [.c (.bool false)] ())
       (.lt none (.bin .add) [.v 6, .c (.int .i64 1)] 1 <|
       (.leaf .cont [.v 11] ()))))))))
      (.leaf (.yield 1) [] ())))) <|
   (.leaf .ret [.c (.bool true)] ())))))))
/-- impl.RowAt -/
def tm64 : Tm Unit :=
  (.call none 14 [.v 0, .v 1] 1 [] <|
  (.lt none .not [.v 4] 1 <|
  (.lt (some (.v 5, false)) .id [.v 0] 1 <|
  (.lt (some (.v 5, false)) .id [.v 2] 1 <|
  (.lt (some (.v 5, false)) .id [.v 3] 1 <|
  (.call (some (.v 5, false)) 33 [.v 6, .v 7, .v 8] 1 [] <|
  (.lt (some (.v 5, false)) .not [.v 9] 1 <|
  (.lt none .pick [.v 5, .c (.bool true), .v 10] 1 <|
  (.ite (.v 11)
   (.leaf .ret [.c (.int .i64 0), .c (.int .i64 0), .c (.int .i64 0), .c (.int .i64 0), .c (.int .i64 0), .c (.int .i64 0), .c (.int .i64 0), .c (.int .i64 0), .c (.int .i64 0), .c (.rows 1 []), .c (.bool false)] ())
   (.call none 65 [.v 0, .v 1, .v 2, .v 3] 10 [] <|
   (.leaf .ret [.v 12, .v 13, .v 14, .v 15, .v 16, .v 17, .v 18, .v 19, .v 20, .v 21, .c (.bool true)] ())))))))))))
/-- (impl.Table).row -/
def tm65 : Tm Unit :=
  (.lt none .inb [.v 1, .v 2] 0 <|
  (.lt none (.row 1 0 [false]) [.v 1, .v 2] 1 <|
  (.lt none .len [.v 4] 1 <|
  (.lt none (.bin .leq) [.v 3, .v 5] 1 <|
  (.ite (.v 6)
   (.lt none .inb [.v 1, .v 2] 0 <|
   (.lt none (.row 1 0 [false]) [.v 1, .v 2] 1 <|
   (.lt none (.bin .sub) [.v 3, .c (.int .i64 1)] 1 <|
   (.lt none .inb [.v 7, .v 8] 0 <|
   (.lt none (.row 10 0 [true, true, true, true, true, true, true, true, true, false]) [.v 7, .v 8] 10 <|
   (.call none 36 [.v 9, .v 10, .v 11, .v 12, .v 13, .v 14, .v 15, .v 16, .v 17, .v 18] 10 [] <|
   (.leaf .ret [.v 19, .v 20, .v 21, .v 22, .v 23, .v 24, .v 25, .v 26, .v 27, .v 28] ())))))))
   (.call none 30 [.v 0] 2 [] <|
   (.leaf .ret [.c (.int .i64 0), .c (.int .i64 0), .c (.int .i64 0), .c (.int .i64 0), .c (.int .i64 0), .c (.int .i64 0), .c (.int .i64 0), .c (.int .i64 0), .v 7, .v 8] ())))))))
/-- spec.DrawNextBallot -/
def tm66 : Tm Unit :=
  (.call none 3 [.v 0, .c (.int .i64 0), .c (.int .u64 0)] 5 [] <|
  (.call none 12 [.v 3, .v 4, .v 5] 5 [] <|
  (.call none 5 [.c (.int .i64 6), .v 8, .v 9, .v 10] 4 [] <|
  (.leaf .ret [.v 1, .v 2, .v 6, .v 7, .v 11] ()))))
/-- impl.NextBallot -/
def tm67 : Tm Unit :=
  (.call none 14 [.v 0, .v 1] 1 [] <|
  (.lt none .not [.v 5] 1 <|
  (.lt (some (.v 6, false)) .id [.v 0] 1 <|
  (.lt (some (.v 6, false)) .id [.v 2] 1 <|
  (.lt (some (.v 6, false)) .id [.v 3] 1 <|
  (.call (some (.v 6, false)) 33 [.v 7, .v 8, .v 9] 1 [] <|
  (.lt (some (.v 6, false)) .not [.v 10] 1 <|
  (.lt none .pick [.v 6, .c (.bool true), .v 11] 1 <|
  (.lt (some (.v 12, false)) .id [.v 4] 1 <|
  (.lt (some (.v 12, false)) .id [.v 0] 1 <|
  (.lt (some (.v 12, false)) (.bin .sub) [.v 14, .c (.int .i64 1)] 1 <|
  (.call (some (.v 12, false)) 23 [.v 13, .c (.int .i64 0), .v 15] 1 [] <|
  (.lt (some (.v 12, false)) .not [.v 16] 1 <|
  (.lt none .pick [.v 12, .c (.bool true), .v 17] 1 <|
  (.ite (.v 18)
   (.leaf .ret [.c (.int .i64 0), .c (.bool false)] ())
   (.call none 68 [.v 0, .v 1, .v 2, .v 3, .v 4] 2 [] <|
   (.lt none .not [.v 20] 1 <|
   (.ite (.v 21)
    (.leaf .ret [.c (.int .i64 0), .c (.bool false)] ())
    (.leaf .ret [.v 19, .c (.bool true)] ())))))))))))))))))))
/-- (impl.Table).nextBallot -/
def tm68 : Tm Unit :=
  (.call none 65 [.v 0, .v 1, .v 2, .v 3] 10 [] <|
  (.lt none (.bin .add) [.v 5, .c (.int .i64 1)] 1 <|
  (.lt none .max [.v 15, .c (.int .i64 8)] 1 <|
  (.bind 1
   (.loop [.v 16]
    (.lt none (.bin .rem) [.v 17, .c (.int .i64 8)] 1 <|
    (.lt none (.bin .neq) [.v 18, .v 4] 1 <|
    (.ite (.v 19)
     (.lt none (.bin .add) [.v 17, .c (.int .i64 1)] 1 <|
     (.leaf .cont [.v 20] ()))
     (.leaf (.yield 1) [.v 17] ()))))) <|
  (.lt none (.bin .leq) [.v 17, .c (.int .i64 9999)] 1 <|
  (.leaf .ret [.v 17, .v 18] ()))))))
/-- spec.NextBallot -/
def tm69 : Tm Unit :=
  (.call none 41 [.v 0, .v 1, .v 2, .v 3] 1 [] <|
  (.lt none .not [.v 5] 1 <|
  (.lt (some (.v 6, false)) .id [.v 4] 1 <|
  (.lt (some (.v 6, false)) .id [.v 0] 1 <|
  (.lt (some (.v 6, false)) (.bin .sub) [.v 8, .c (.int .i64 1)] 1 <|
  (.call (some (.v 6, false)) 45 [.v 7, .c (.int .i64 0), .v 9] 1 [] <|
  (.lt (some (.v 6, false)) .not [.v 10] 1 <|
  (.lt none .pick [.v 6, .c (.bool true), .v 11] 1 <|
  (.lt (some (.v 12, false)) .id [.v 2] 1 <|
  (.lt (some (.v 12, false)) .id [.v 3] 1 <|
  (.lt (some (.v 12, false)) .id [.v 4] 1 <|
  (.call (some (.v 12, false)) 70 [.v 0, .v 1, .v 13, .v 14, .v 15] 1 [] <|
  (.lt (some (.v 12, false)) (.bin .gtr) [.v 16, .c (.int .i64 9999)] 1 <|
  (.lt none .pick [.v 12, .c (.bool true), .v 17] 1 <|
  (.ite (.v 18)
   (.leaf .ret [.c (.int .i64 0), .c (.bool false)] ())
   (.call none 70 [.v 0, .v 1, .v 2, .v 3, .v 4] 1 [] <|
   (.leaf .ret [.v 19, .c (.bool true)] ())))))))))))))))))
/-- spec.l4Ballot -/
def tm70 : Tm Unit :=
  (.call none 71 [.v 0, .v 1, .v 2, .v 3] 10 [] <|
  (.lt none (.bin .add) [.c (.int .i64 8), .v 4] 1 <|
  (.bind 1
   (.loop [.v 15]
    (.lt none (.bin .leq) [.v 16, .v 5] 1 <|
    (.ite (.v 17)
     (.lt none (.bin .add) [.v 16, .c (.int .i64 8)] 1 <|
     (.leaf .cont [.v 18] ()))
     (.leaf (.yield 1) [.v 16] ())))) <|
  (.leaf .ret [.v 16] ()))))
/-- spec.l4At -/
def tm71 : Tm Unit :=
  (.lt none .inb [.v 1, .v 2] 0 <|
  (.lt none (.row 1 0 [false]) [.v 1, .v 2] 1 <|
  (.lt none .len [.v 4] 1 <|
  (.lt none (.bin .gtr) [.v 3, .v 5] 1 <|
  (.ite (.v 6)
   (.call none 11 [.v 0] 2 [] <|
   (.leaf .ret [.c (.int .i64 0), .c (.int .i64 0), .c (.int .i64 0), .c (.int .i64 0), .c (.int .i64 0), .c (.int .i64 0), .c (.int .i64 0), .c (.int .i64 0), .v 7, .v 8] ()))
   (.lt none .inb [.v 1, .v 2] 0 <|
   (.lt none (.row 1 0 [false]) [.v 1, .v 2] 1 <|
   (.lt none (.bin .sub) [.v 3, .c (.int .i64 1)] 1 <|
   (.lt none .inb [.v 7, .v 8] 0 <|
   (.lt none (.row 10 0 [true, true, true, true, true, true, true, true, true, false]) [.v 7, .v 8] 10 <|
   (.call none 56 [.v 9, .v 10, .v 11, .v 12, .v 13, .v 14, .v 15, .v 16, .v 17, .v 18] 10 [] <|
   (.leaf .ret [.v 19, .v 20, .v 21, .v 22, .v 23, .v 24, .v 25, .v 26, .v 27, .v 28] ()))))))))))))
/-- spec.DrawRowAt -/
def tm72 : Tm Unit :=
  (.call none 3 [.v 0, .c (.int .i64 0), .c (.int .u64 0)] 5 [] <|
  (.call none 12 [.v 3, .v 4, .v 5] 5 [] <|
  (.leaf .ret [.v 1, .v 2, .v 6, .v 7] ())))
/-- spec.RowAt -/
def tm73 : Tm Unit :=
  (.call none 41 [.v 0, .v 1, .v 2, .v 3] 1 [] <|
  (.lt none .not [.v 4] 1 <|
  (.ite (.v 5)
   (.leaf .ret [.c (.int .i64 0), .c (.int .i64 0), .c (.int .i64 0), .c (.int .i64 0), .c (.int .i64 0), .c (.int .i64 0), .c (.int .i64 0), .c (.int .i64 0), .c (.int .i64 0), .c (.rows 1 []), .c (.bool false)] ())
   (.call none 71 [.v 0, .v 1, .v 2, .v 3] 10 [] <|
   (.leaf .ret [.v 6, .v 7, .v 8, .v 9, .v 10, .v 11, .v 12, .v 13, .v 14, .v 15, .c (.bool true)] ())))))
/-- spec.DrawCommitted -/
def tm74 : Tm Unit :=
  (.call none 75 [.v 0] 2 [] <|
  (.leaf .ret [.v 1, .v 2] ()))
/-- spec.DrawGoodTable -/
def tm75 : Tm Unit :=
  (.call none 3 [.v 0, .c (.int .i64 0), .c (.int .u64 0)] 5 [] <|
  (.leaf .ret [.v 1, .v 2] ()))
/-- impl.Committed -/
def tm76 : Tm Unit :=
  (.call none 14 [.v 0, .v 1] 1 [] <|
  (.lt none .not [.v 2] 1 <|
  (.ite (.v 3)
   (.leaf .ret [.c (.rows 1 []), .c (.bool false)] ())
   (.call none 77 [.v 0, .v 1] 1 [] <|
   (.leaf .ret [.v 4, .c (.bool true)] ())))))
/-- (impl.Table).committed -/
def tm77 : Tm Unit :=
  (.lt none (.mk 1 0) [] 1 <|
  (.call none 78 [.v 0, .v 1, .v 2] 1 [] <|
  (.leaf .ret [.v 3] ())))
/-- (impl.Table).each@(impl.Table).committed$1 -/
def tm78 : Tm Unit :=
  (.lt none .len [.v 1] 1 <|
  (.bind 1
   (.loop [.c (.int .i64 0), .v 2]
    (.lt none (.bin .lss) [.v 4, .v 3] 1 <|
    (.ite (.v 6)
     (.lt none .inb [.v 1, .v 4] 0 <|
     (.lt none (.row 1 0 [false]) [.v 1, .v 4] 1 <|
     (.lt none .len [.v 7] 1 <|
     (.bind 3
      (.loop [.c (.int .i64 0), .v 5]
       (.lt none (.bin .lss) [.v 9, .v 8] 1 <|
       (.ite (.v 11)
        (.lt none .inb [.v 7, .v 9] 0 <|
        (.lt none (.row 10 0 [true, true, true, true, true, true, true, true, true, false]) [.v 7, .v 9] 10 <|
        (.lt none (.bin .add) [.v 9, .c (.int .i64 1)] 1 <|
        (.call none 79 [.v 4, .v 22, .v 12, .v 13, .v 14, .v 15, .v 16, .v 17, .v 18, .v 19, .v 20, .v 21, .v 10] 1 [] <|
        (.lt none (.bin .add) [.v 9, .c (.int .i64 1)] 1 <|
        (.leaf .cont [.v 24, .v 23] ()))))))
        (.leaf (.yield 3) [.v 10] ())))) <|
     (.lt none (.bin .add) [.v 4, .c (.int .i64 1)] 1 <|
     (.leaf .cont [.v 10, .v 9] ()))))))
     (.leaf (.yield 1) [.v 5] ())))) <|
  (.leaf .ret [.v 4] ())))
/-- (impl.Table).committed$1 -/
def tm79 : Tm Unit :=
  (.lt none (.bin .eql) [.v 4, .c (.int .i64 3)] 1 <|
  (.ite (.v 13)
   (.lt none (.mk 1 2) [.v 0, .v 1] 1 <|
   (.lt none (.mk 1 1) [.v 14] 1 <|
   (.lt none (.app 1 24 false) [.v 12, .v 15] 1 <|
   (.leaf .ret [.v 16] ()))))
   (.leaf .ret [.v 12] ())))
/-- spec.Committed -/
def tm80 : Tm Unit :=
  (.call none 42 [.v 0, .v 1] 1 [] <|
  (.lt none .not [.v 2] 1 <|
  (.ite (.v 3)
   (.leaf .ret [.c (.rows 1 []), .c (.bool false)] ())
   (.call none 81 [.v 0, .v 1] 1 [] <|
   (.leaf .ret [.v 4, .c (.bool true)] ())))))
/-- spec.l4Committed -/
def tm81 : Tm Unit :=
  (.lt none .len [.v 1] 1 <|
  (.bind 1
   (.loop [.c (.rows 1 []), .c (.int .i64 0)]
    (.lt none (.bin .lss) [.v 4, .v 2] 1 <|
    (.ite (.v 5)
     (.lt none .inb [.v 1, .v 4] 0 <|
     (.lt none (.row 1 0 [false]) [.v 1, .v 4] 1 <|
     (.lt none .len [.v 6] 1 <|
     (.bind 3
      (.loop [.v 3, .c (.int .i64 0)]
       (.lt none (.bin .lss) [.v 9, .v 7] 1 <|
       (.ite (.v 10)
        (.bind 0
         (.lt none .inb [.v 6, .v 9] 0 <|
         (.lt none (.row 10 0 [true, true, true, true, true, true, true, true, true, false]) [.v 6, .v 9] 10 <|
         (.lt none (.bin .eql) [.v 13, .c (.int .i64 3)] 1 <|
         (.ite (.v 21)
          (.lt none (.bin .add) [.v 9, .c (.int .i64 1)] 1 <|
          (.lt none (.mk 1 2) [.v 4, .v 22] 1 <|
          (.lt none (.mk 1 1) [.v 23] 1 <|
          (.lt none (.app 1 24 false) [.v 8, .v 24] 1 <|
          (.leaf (.yield 0) [.v 25] ())))))
          (.leaf (.yield 0) [.v 8] ()))))) <|
        (.lt none (.bin .add) [.v 9, .c (.int .i64 1)] 1 <|
        (.leaf .cont [.v 11, .v 12] ())))
        (.leaf (.yield 3) [.v 8] ())))) <|
     (.lt none (.bin .add) [.v 4, .c (.int .i64 1)] 1 <|
     (.leaf .cont [.v 8, .v 9] ()))))))
     (.leaf (.yield 1) [.v 3] ())))) <|
  (.leaf .ret [.v 3] ())))
/-- spec.DrawNewTable -/
def tm82 : Tm Unit :=
  (.call none 83 [.v 0] 1 [] <|
  (.leaf .ret [.v 1] ()))
/-- spec.DrawIsGroup -/
def tm83 : Tm Unit :=
  (.call none 5 [.c (.int .i64 8), .v 0, .c (.int .i64 0), .c (.int .u64 0)] 4 [] <|
  (.lt none (.bin .sub) [.v 1, .c (.int .i64 1)] 1 <|
  (.leaf .ret [.v 5] ())))
/-- impl.NewTable -/
def tm84 : Tm Unit :=
  (.call none 15 [.v 0] 1 [] <|
  (.lt none .not [.v 1] 1 <|
  (.ite (.v 2)
   (.leaf .ret [.c (.int .i64 0), .c (.rows 1 []), .c (.bool false)] ())
   (.call none 85 [.v 0] 2 [] <|
   (.leaf .ret [.v 3, .v 4, .c (.bool true)] ())))))
/-- impl.newTable -/
def tm85 : Tm Unit :=
  (.lt none (.make 24 [(.rows 10 [])]) [.v 0] 1 <|
  (.leaf .ret [.v 0, .v 1] ()))
/-- spec.NewTable -/
def tm86 : Tm Unit :=
  (.call none 43 [.v 0] 1 [] <|
  (.lt none .not [.v 1] 1 <|
  (.ite (.v 2)
   (.leaf .ret [.c (.int .i64 0), .c (.rows 1 []), .c (.bool false)] ())
   (.call none 7 [.v 0] 2 [] <|
   (.leaf .ret [.v 3, .v 4, .c (.bool true)] ())))))
/-- laws.sameLists -/
def tm87 : Tm Unit :=
  (.lt none .len [.v 0] 1 <|
  (.lt none .len [.v 1] 1 <|
  (.lt none (.bin .neq) [.v 2, .v 3] 1 <|
  (.ite (.v 4)
   (.leaf .ret [.c (.bool false)] ())
   (.lt none .len [.v 0] 1 <|
   (.bind 1
    (.loop [.c (.int .i64 0)]
     (.lt none (.bin .lss) [.v 6, .v 5] 1 <|
     (.ite (.v 7)
      (.lt none .inb [.v 0, .v 6] 0 <|
      (.lt none (.row 1 0 [false]) [.v 0, .v 6] 1 <|
      (.lt none .inb [.v 1, .v 6] 0 <|
      (.lt none (.row 1 0 [false]) [.v 1, .v 6] 1 <|
      (.call none 63 [.v 8, .v 9] 1 [] <|
      (.lt none .not [.v 10] 1 <|
      (.ite (.v 11)
       (.leaf .ret [.c (.bool false)] ())
       (.lt none (.bin .add) [.v 6, .c (.int .i64 1)] 1 <|
       (.leaf .cont [.v 12] ())))))))))
      (.leaf (.yield 1) [] ())))) <|
   (.leaf .ret [.c (.bool true)] ())))))))
theorem cl38 : ∀ n, Contract Try.prog (entTab [(38, .tm tm38)]) n 38 sg38 := fun n => contracts tiL_ok (by kernel_rfl) (fnOk_all (List.forall_mem_cons.2 ⟨fnOk_tm (E := ⟨tiTab tiL, [(38, sg38)], 0, 0, false, false, [], []⟩) Try.func148 (by kernel_rfl) (tm := tm38) (by kernel_rfl) (by kernel_rfl), List.forall_mem_nil _⟩)) n 38 sg38 (by simp)
def ren38 : Go.Shelf.Ren := ⟨fun | 41 => 148 | n => n, fun | 4 => 4 | 22 => 22 | 23 => 3 | n => n, fun n => n⟩
theorem lays38 : Go.Proofs.SlLaysE0.n41 Try.prog ren38 := { mixed := by kernel_rfl, f41 := ⟨Try.f148.name, by kernel_rfl, Try.func148.trans (congrArg some (by kernel_rfl))⟩, t4 := Try.underlying4, a4 := Try.isAgg4, z4 := Try.sizeOf4, v4 := Try.zeroValue4, t22 := Try.underlying22, a22 := Try.isAgg22, z22 := Try.sizeOf22, v22 := Try.zeroValue22 }
noncomputable def ex38 : List D → Option (List D) := cloneE 1 (entTab [(38, .tm tm38)]) 38

noncomputable def T : Nat → Ent := entTab [(0, .tm tm0), (1, .tm tm1), (2, .tm tm2), (3, .tm tm3), (4, .tm tm4), (5, .tm tm5), (6, .tm tm6), (7, .tm tm7), (8, .tm tm8), (9, .tm tm9), (10, .tm tm10), (11, .tm tm11), (12, .tm tm12), (13, .tm tm13), (14, .tm tm14), (15, .tm tm15), (16, .tm tm16), (17, .tm tm17), (18, .tm tm18), (19, .tm tm19), (20, .tm tm20), (21, .tm tm21), (22, .tm tm22), (23, .tm tm23), (24, .tm tm24), (25, .tm tm25), (26, .tm tm26), (27, .tm tm27), (28, .tm tm28), (29, .tm tm29), (30, .tm tm30), (31, .tm tm31), (32, .tm tm32), (33, .tm tm33), (34, .tm tm34), (35, .tm tm35), (36, .tm tm36), (37, .tm tm37), (38, .ext ex38), (39, .tm tm39), (40, .tm tm40), (41, .tm tm41), (42, .tm tm42), (43, .tm tm43), (44, .tm tm44), (45, .tm tm45), (46, .tm tm46), (47, .tm tm47), (48, .tm tm48), (49, .tm tm49), (50, .tm tm50), (51, .tm tm51), (52, .tm tm52), (53, .tm tm53), (54, .tm tm54), (55, .tm tm55), (56, .tm tm56), (57, .tm tm57), (58, .tm tm58), (59, .tm tm59), (60, .tm tm60), (61, .tm tm61), (62, .tm tm62), (63, .tm tm63), (64, .tm tm64), (65, .tm tm65), (66, .tm tm66), (67, .tm tm67), (68, .tm tm68), (69, .tm tm69), (70, .tm tm70), (71, .tm tm71), (72, .tm tm72), (73, .tm tm73), (74, .tm tm74), (75, .tm tm75), (76, .tm tm76), (77, .tm tm77), (78, .tm tm78), (79, .tm tm79), (80, .tm tm80), (81, .tm tm81), (82, .tm tm82), (83, .tm tm83), (84, .tm tm84), (85, .tm tm85), (86, .tm tm86), (87, .tm tm87)]
abbrev K := FnOk Try.prog T (tiTab tiL) sigs
theorem ok38 : FnOk Try.prog T (tiTab tiL) sigs 38 sg38 := clone_ent (m := 98) lays38 rfl (by kernel_rfl) Try.sizeOf3 cl38 rfl
theorem ok0 : K 0 sg0 := fnK (E := ⟨tiTab tiL, sigs, 0, 0, false, false, [], [(13, [(42, 0, 0, 0)], [3, 15, 18, 21, 24, 27, 39, 42, 34, 37, 76, 109], 1008, [1, 4, 7, 10, 13, 16, 19, 22, 25, 28, 31, 34, 37, 40, 43, 46, 49, 52, 55, 58, 61, 64, 67, 70, 73, 76, 79, 82, 85, 88, 91, 94, 97, 100, 103, 106, 109, 112, 115, 118, 121, 124, 127, 130, 133, 136, 139, 142, 145, 148, 151, 154, 157, 160, 163, 166, 169, 172, 175, 178, 181, 184, 187, 190, 193, 196, 199, 202, 205, 208, 211, 214, 217, 220, 223, 226, 229, 232, 235, 238, 241, 244, 247, 250, 253, 256, 259, 262, 265, 268, 271, 274, 277, 280, 283, 286, 289, 292, 295, 298, 301, 304, 307, 310, 313, 316, 319, 322, 325, 328, 331, 334, 337, 340, 343, 346, 349, 352, 355, 358, 361, 364, 367, 370, 373, 376, 379, 382, 385, 388, 391, 394, 397, 400, 403, 406, 409, 412, 415, 418, 421, 424, 427, 430, 433, 436, 439, 442, 445, 448, 451, 454, 457, 460, 463, 466, 469, 472, 475, 478, 481, 484, 487, 490, 493, 496, 499, 502, 505, 508, 511, 514, 517, 520, 523, 526, 529, 532, 535, 538, 541, 544, 547, 550, 553, 556, 559, 562, 565, 568, 571, 574, 577, 580, 583, 586, 589, 592, 595, 598, 601, 604, 607, 610, 613, 616, 619, 622, 625, 628, 631, 634, 637, 640, 643, 646, 649, 652, 655, 658, 661, 664, 667, 670, 673, 676, 679, 682, 685, 688, 691, 694, 697, 700, 703, 706, 709, 712, 715, 718, 721, 724, 727, 730, 733, 736, 739, 742, 745, 748, 751, 754, 757, 760, 763, 766, 769, 772, 775, 778, 781, 784, 787, 790, 793, 796, 799, 802, 805, 808, 811, 814, 817, 820, 823, 826, 829, 832, 835, 838, 841, 844, 847, 850, 853, 856, 859, 862, 865, 868, 871, 874, 877, 880, 883, 886, 889, 892, 895, 898, 901, 904, 907, 910, 913, 916, 919, 922, 925, 928, 931, 934, 937, 940, 943, 946, 949, 952, 955, 958, 961, 964, 967, 970, 973, 976, 979, 982, 985, 988, 991, 994, 997, 1000, 1003, 1006, 1009, 1012, 1015, 1018, 1021, 1024, 1027, 1030, 1033, 1036, 1039, 1042, 1045, 1048, 1051, 1054, 1057, 1060, 1063, 1066, 1069, 1072, 1075, 1078, 1081, 1084, 1087, 1090, 1093, 1096, 1099, 1102, 1105, 1108, 1111, 1114, 1117, 1120, 1123, 1126, 1129, 1132, 1135, 1138, 1141, 1144, 1147, 1150, 1153, 1156, 1159, 1162, 1165, 1168, 1171, 1174, 1177, 1180, 1183, 1186, 1189, 1192, 1195, 1198, 1201, 1204, 1207, 1210, 1213, 1216, 1219, 1222, 1225, 1228, 1231, 1234, 1237, 1240, 1243, 1246, 1249, 1252, 1255, 1258, 1261, 1264, 1267, 1270, 1273, 1276, 1279, 1282, 1285, 1288, 1291, 1294, 1297, 1300, 1303, 1306, 1309, 1312, 1315, 1318, 1321, 1324, 1327, 1330, 1333, 1336, 1339, 1342, 1345, 1348, 1351, 1354, 1357, 1360, 1363, 1366, 1369, 1372, 1375, 1378, 1381, 1384, 1387, 1390, 1393, 1396, 1399, 1402, 1405, 1408, 1411, 1414, 1417, 1420, 1423, 1426, 1429, 1432, 1435, 1438, 1441, 1444, 1447, 1450, 1453, 1456, 1459, 1462, 1465, 1468, 1471, 1474, 1477, 1480, 1483, 1486, 1489, 1492, 1495, 1498, 1501, 1504, 1507, 1510, 1513, 1516, 1519, 1522, 1525, 1528, 1531, 1534, 1537, 1540, 1543, 1546, 1549, 1552, 1555, 1558, 1561, 1564, 1567, 1570, 1573, 1576, 1579, 1582, 1585, 1588, 1591, 1594, 1597, 1600, 1603, 1606, 1609, 1612, 1615, 1618, 1621, 1624, 1627, 1630, 1633, 1636, 1639, 1642, 1645, 1648, 1651, 1654, 1657, 1660, 1663, 1666, 1669, 1672, 1675, 1678, 1681, 1684, 1687, 1690, 1693, 1696, 1699, 1702, 1705, 1708, 1711, 1714, 1717, 1720, 1723, 1726, 1729, 1732, 1735, 1738, 1741, 1744, 1747, 1750, 1753, 1756, 1759, 1762, 1765, 1768, 1771, 1774, 1777, 1780, 1783, 1786, 1789, 1792, 1795, 1798, 1801, 1804, 1807, 1810, 1813, 1816, 1819, 1822, 1825, 1828, 1831, 1834, 1837, 1840, 1843, 1846, 1849, 1852, 1855, 1858, 1861, 1864, 1867, 1870, 1873, 1876, 1879, 1882, 1885, 1888, 1891, 1894, 1897, 1900, 1903, 1906, 1909, 1912, 1915, 1918, 1921, 1924, 1927, 1930, 1933, 1936, 1939, 1942, 1945, 1948, 1951, 1954, 1957, 1960, 1963, 1966, 1969, 1972, 1975, 1978, 1981, 1984, 1987, 1990, 1993, 1996, 1999, 2002, 2005, 2008, 2011, 2014, 2017, 2020, 2023, 2026, 2029, 2032, 2035, 2038, 2041, 2044, 2047, 2050, 2053, 2056, 2059, 2062, 2065, 2068, 2071, 2074, 2077, 2080, 2083, 2086, 2089, 2092, 2095, 2098, 2101, 2104, 2107, 2110, 2113, 2116, 2119, 2122, 2125, 2128, 2131, 2134, 2137, 2140, 2143, 2146, 2149, 2152, 2155, 2158, 2161, 2164, 2167, 2170, 2173, 2176, 2179, 2182, 2185, 2188, 2191, 2194, 2197, 2200, 2203, 2206, 2209, 2212, 2215, 2218, 2221, 2224, 2227, 2230, 2233, 2236, 2239, 2242, 2245, 2248, 2251, 2254, 2257, 2260, 2263, 2266, 2269, 2272, 2275, 2278, 2281, 2284, 2287, 2290, 2293, 2296, 2299, 2302, 2305, 2308, 2311, 2314, 2317, 2320, 2323, 2326, 2329, 2332, 2335, 2338, 2341, 2344, 2347, 2350, 2353, 2356, 2359, 2362, 2365, 2368, 2371, 2374, 2377, 2380, 2383, 2386, 2389, 2392, 2395, 2398, 2401, 2404, 2407, 2410, 2413, 2416, 2419, 2422, 2425, 2428, 2431, 2434, 2437, 2440, 2443, 2446, 2449, 2452, 2455, 2458, 2461, 2464, 2467, 2470, 2473, 2476, 2479, 2482, 2485, 2488, 2491, 2494, 2497, 2500, 2503, 2506, 2509, 2512, 2515, 2518, 2521, 2524, 2527, 2530, 2533, 2536, 2539, 2542, 2545, 2548, 2551, 2554, 2557, 2560, 2563, 2566, 2569, 2572, 2575, 2578, 2581, 2584, 2587, 2590, 2593, 2596, 2599, 2602, 2605, 2608, 2611, 2614, 2617, 2620, 2623, 2626, 2629, 2632, 2635, 2638, 2641, 2644, 2647, 2650, 2653, 2656, 2659, 2662, 2665, 2668, 2671, 2674, 2677, 2680, 2683, 2686, 2689, 2692, 2695, 2698, 2701, 2704, 2707, 2710, 2713, 2716, 2719, 2722, 2725, 2728, 2731, 2734]), (10, [(39, 0, 0, 0)], [3, 15, 18, 21, 24, 27, 39, 34, 37, 76, 109], 1169, [241, 244, 1009, 1537])]⟩) (tm := tm0) Try.func8 (by kernel_rfl)
theorem ok1 : K 1 sg1 := fnK (E := E0) (tm := tm1) Try.func29 (by kernel_rfl)
theorem ok2 : K 2 sg2 := fnK (E := E0) (tm := tm2) Try.func48 (by kernel_rfl)
theorem ok3 : K 3 sg3 := fnK (E := ⟨tiTab tiL, sigs, 0, 0, false, false, [], [(7, [(18, 0, 0, 0), (1, 0, 3, 0), (1, 1, 0, 0), (1, 2, 0, 0), (25, 1, 2, 99)], [177, 0, 6, 9, 12, 15, 18, 42, 45, 1, 4, 25], 320, [1, 4, 7, 10, 13, 16, 19, 22, 25, 28, 31, 34, 37, 40, 43, 46, 49, 52, 55, 58, 61, 64, 67, 70, 73, 76, 79, 82, 85, 88, 91, 94, 97, 100, 103, 106, 109, 112, 115, 118, 121, 124, 127, 130, 133, 136, 139, 142, 145, 148, 151, 154, 157, 160, 163, 166, 169, 172, 175, 178, 181, 184, 187, 190, 193, 196, 199, 202, 205, 208, 211, 214, 217, 220, 223, 226, 229, 232, 235, 238, 241, 244, 247, 250, 253, 256, 259, 262, 265, 268, 271, 274, 277, 280, 283, 286, 289, 292, 295, 298, 301, 304, 307, 310, 313, 316, 319, 322, 325, 328, 331, 334, 337, 340, 343, 346, 349, 352, 355, 358, 361, 364, 367, 370, 373, 376, 379, 382, 385, 388, 391, 394, 397, 400, 403, 406, 409, 412, 415, 418, 421, 424, 427, 430, 433, 436, 439, 442, 445, 448, 451, 454, 457, 460, 463, 466, 469, 472, 475, 478, 481, 484, 487, 490, 493, 496, 499, 502, 505, 508, 511, 514, 517, 520, 523, 526, 529, 532, 535, 538, 541, 544, 547, 550, 553, 556, 559, 562, 565, 568, 571, 574, 577, 580, 583, 586, 589, 592, 595, 598, 601, 604, 607, 610, 613, 616, 619, 622, 2103]), (4, [(45, 0, 0, 0), (1, 0, 3, 0), (1, 1, 0, 0), (1, 2, 0, 0), (25, 1, 2, 99)], [177, 0, 6, 9, 12, 42, 45, 1, 4, 25], 489, [98, 288])]⟩) (tm := tm3) Try.func114 (by kernel_rfl)
theorem ok4 : K 4 sg4 := fnK (E := E0) (tm := tm4) Try.func99 (by kernel_rfl)
theorem ok5 : K 5 sg5 := fnK (E := E0) (tm := tm5) Try.func89 (by kernel_rfl)
theorem ok6 : K 6 sg6 := fnK (E := E0) (tm := tm6) Try.func150 (by kernel_rfl)
theorem ok7 : K 7 sg7 := fnK (E := E0) (tm := tm7) Try.func135 (by kernel_rfl)
theorem ok8 : K 8 sg8 := fnK (E := E0) (tm := tm8) Try.func100 (by kernel_rfl)
theorem ok9 : K 9 sg9 := fnK (E := E0) (tm := tm9) Try.func142 (by kernel_rfl)
theorem ok10 : K 10 sg10 := fnK (E := E0) (tm := tm10) Try.func91 (by kernel_rfl)
theorem ok11 : K 11 sg11 := fnK (E := E0) (tm := tm11) Try.func154 (by kernel_rfl)
theorem ok12 : K 12 sg12 := fnK (E := E0) (tm := tm12) Try.func115 (by kernel_rfl)
theorem ok13 : K 13 sg13 := fnK (E := E0) (tm := tm13) Try.func49 (by kernel_rfl)
theorem ok14 : K 14 sg14 := fnK (E := E0) (tm := tm14) Try.func52 (by kernel_rfl)
theorem ok15 : K 15 sg15 := fnK (E := E0) (tm := tm15) Try.func102 (by kernel_rfl)
theorem ok16 : K 16 sg16 := fnK (E := E0) (tm := tm16) Try.func122 (by kernel_rfl)
theorem ok17 : K 17 sg17 := fnK (E := E0) (tm := tm17) Try.func170 (by kernel_rfl)
theorem ok18 : K 18 sg18 := fnK (E := E0) (tm := tm18) Try.func123 (by kernel_rfl)
theorem ok19 : K 19 sg19 := fnK (E := E0) (tm := tm19) Try.func104 (by kernel_rfl)
theorem ok20 : K 20 sg20 := fnK (E := E0) (tm := tm20) Try.func156 (by kernel_rfl)
theorem ok21 : K 21 sg21 := fnK (E := E0) (tm := tm21) Try.func124 (by kernel_rfl)
theorem ok22 : K 22 sg22 := fnK (E := E0) (tm := tm22) Try.func106 (by kernel_rfl)
theorem ok23 : K 23 sg23 := fnK (E := E0) (tm := tm23) Try.func83 (by kernel_rfl)
theorem ok24 : K 24 sg24 := fnK (E := E0) (tm := tm24) Try.func140 (by kernel_rfl)
theorem ok25 : K 25 sg25 := fnK (E := E0) (tm := tm25) Try.func174 (by kernel_rfl)
theorem ok26 : K 26 sg26 := fnK (E := E0) (tm := tm26) Try.func112 (by kernel_rfl)
theorem ok27 : K 27 sg27 := fnK (E := E0) (tm := tm27) Try.func143 (by kernel_rfl)
theorem ok28 : K 28 sg28 := fnK (E := E0) (tm := tm28) Try.func175 (by kernel_rfl)
theorem ok29 : K 29 sg29 := fnK (E := E0) (tm := tm29) Try.func165 (by kernel_rfl)
theorem ok30 : K 30 sg30 := fnK (E := E0) (tm := tm30) Try.func158 (by kernel_rfl)
theorem ok31 : K 31 sg31 := fnK (E := E0) (tm := tm31) Try.func157 (by kernel_rfl)
theorem ok32 : K 32 sg32 := fnK (E := E0) (tm := tm32) Try.func80 (by kernel_rfl)
theorem ok33 : K 33 sg33 := fnK (E := E0) (tm := tm33) Try.func116 (by kernel_rfl)
theorem ok34 : K 34 sg34 := fnK (E := E0) (tm := tm34) Try.func117 (by kernel_rfl)
theorem ok35 : K 35 sg35 := fnK (E := E0) (tm := tm35) Try.func166 (by kernel_rfl)
theorem ok36 : K 36 sg36 := fnK (E := E0) (tm := tm36) Try.func167 (by kernel_rfl)
theorem ok37 : K 37 sg37 := fnK (E := E0) (tm := tm37) Try.func160 (by kernel_rfl)
theorem ok39 : K 39 sg39 := fnK (E := E0) (tm := tm39) Try.func118 (by kernel_rfl)
theorem ok40 : K 40 sg40 := fnK (E := E0) (tm := tm40) Try.func50 (by kernel_rfl)
theorem ok41 : K 41 sg41 := fnK (E := E0) (tm := tm41) Try.func119 (by kernel_rfl)
theorem ok42 : K 42 sg42 := fnK (E := ⟨tiTab tiL, sigs, 0, 0, false, false, [], [(7, [(84, 0, 0, 0)], [3, 12, 60, 63, 66, 78, 81, 84, 1], 192, [1, 4, 7, 10, 13, 16, 19, 22, 25, 28, 31, 34, 37, 40, 43, 46, 49, 52, 55, 58, 61, 64, 67, 70, 73, 76, 79, 82, 85, 88, 91, 94, 97, 100, 103, 106, 109, 112, 115, 118, 121, 124, 127, 130, 133, 136, 139, 142, 145, 148, 151, 154, 157, 160, 163, 166, 169, 172, 175, 178, 181, 184, 187, 190, 193, 196, 199, 202, 205, 208, 211, 214, 217, 220, 223, 226, 229, 232, 235, 238, 241, 244, 247, 250, 253, 256, 259, 262, 265, 268, 271, 274, 277, 280, 283, 286, 289, 292, 295, 298, 301, 304, 307, 310, 313, 316, 319, 322, 325, 328, 331, 334, 337, 340, 343, 346, 349, 352, 355, 358, 361, 364, 367, 370, 373, 376, 379, 382, 385, 388, 391, 394, 397, 400, 403, 406, 409, 412, 415, 418, 421, 424, 427, 430, 433, 436, 439, 442, 445, 448, 451, 454, 457, 460, 463, 466, 469, 472, 475, 478, 481, 484, 487, 490, 493, 496, 499, 502, 505, 508, 511, 514, 517, 520, 523, 526, 529, 532, 535, 538, 541, 544, 547, 550, 553, 556, 559, 562, 565, 568, 571, 574, 577, 580, 583, 586, 589, 592, 595, 598, 601, 604, 607, 610, 613, 616, 619, 622, 625, 628, 631, 634, 637, 640, 643, 646, 649, 652, 655, 658, 661, 664, 667, 670, 673, 676, 679, 682, 685, 688, 691, 694, 697, 700, 703, 706, 709, 712, 715, 718, 721, 724, 727, 730, 733, 736, 739, 742, 745, 748, 751, 754, 757, 760, 763, 766, 769, 772, 775, 778, 781, 784, 787, 790, 793, 796, 799, 802, 805, 808, 811, 814, 817, 820, 823, 826, 829, 832, 835, 838, 841, 844, 847, 850, 853, 856, 859, 862]), (4, [(66, 0, 0, 0)], [3, 60, 63, 66, 1], 401, [])]⟩) (tm := tm42) Try.func53 (by kernel_rfl)
theorem ok43 : K 43 sg43 := fnK (E := E0) (tm := tm43) Try.func125 (by kernel_rfl)
theorem ok44 : K 44 sg44 := fnK (E := E0) (tm := tm44) Try.func110 (by kernel_rfl)
theorem ok45 : K 45 sg45 := fnK (E := E0) (tm := tm45) Try.func109 (by kernel_rfl)
theorem ok46 : K 46 sg46 := fnK (E := E0) (tm := tm46) Try.func162 (by kernel_rfl)
theorem ok47 : K 47 sg47 := fnK (E := E0) (tm := tm47) Try.func95 (by kernel_rfl)
theorem ok48 : K 48 sg48 := fnK (E := E0) (tm := tm48) Try.func151 (by kernel_rfl)
theorem ok49 : K 49 sg49 := fnK (E := E0) (tm := tm49) Try.func177 (by kernel_rfl)
theorem ok50 : K 50 sg50 := fnK (E := E0) (tm := tm50) Try.func181 (by kernel_rfl)
theorem ok51 : K 51 sg51 := fnK (E := E0) (tm := tm51) Try.func163 (by kernel_rfl)
theorem ok52 : K 52 sg52 := fnK (E := E0) (tm := tm52) Try.func97 (by kernel_rfl)
theorem ok53 : K 53 sg53 := fnK (E := E0) (tm := tm53) Try.func168 (by kernel_rfl)
theorem ok54 : K 54 sg54 := fnK (E := E0) (tm := tm54) Try.func120 (by kernel_rfl)
theorem ok55 : K 55 sg55 := fnK (E := ⟨tiTab tiL, sigs, 0, 0, false, false, [], [(6, [(63, 0, 0, 0), (16, 1, 2, 99)], [6, 9, 12, 36, 39, 42, 57, 60, 63, 1, 4, 16], 336, [1, 4, 7, 10, 13, 16, 19, 22, 25, 28, 31, 34, 37, 40, 43, 46, 49, 52, 55, 58, 61, 64, 67, 70, 73, 76, 79, 82, 85, 88, 91, 94, 97, 100, 103, 106, 109, 112, 115, 118, 121, 124, 127, 130, 133, 136, 139, 142, 145, 148, 151, 154, 157, 160, 163, 166, 169, 172, 175, 178, 181, 184, 187, 190, 193, 196, 199, 202, 205, 208, 211, 214, 217, 220, 223, 226, 229, 232, 235, 238, 241, 244, 247, 250, 253, 256, 259, 262, 265, 268, 271, 274, 277, 280, 283, 286, 289, 292, 295, 298, 301, 304, 307, 310, 313, 316, 319, 322, 325, 328, 331, 334, 337, 340, 343, 346, 349, 352, 355, 358, 361, 364, 367, 370, 373, 376, 379, 382, 385, 388, 391, 394, 397, 400, 403, 406, 409, 412, 415, 418, 421, 424, 427, 430, 433, 436, 439, 442, 445, 448, 451, 454, 457, 460, 463, 466, 469, 472, 475, 478, 481, 484, 487, 490, 493, 496, 499, 502, 505, 508, 511, 514, 517, 520, 523, 526, 2124]), (3, [(42, 0, 0, 0), (16, 1, 2, 99)], [6, 9, 36, 39, 42, 1, 4, 16], 531, [192])]⟩) (tm := tm55) Try.func169 (by kernel_rfl)
theorem ok56 : K 56 sg56 := fnK (E := E0) (tm := tm56) Try.func101 (by kernel_rfl)
theorem ok57 : K 57 sg57 := fnK (E := E0) (tm := tm57) Try.func155 (by kernel_rfl)
theorem ok58 : K 58 sg58 := fnK (E := E0) (tm := tm58) Try.func153 (by kernel_rfl)
theorem ok59 : K 59 sg59 := fnK (E := E0) (tm := tm59) Try.func51 (by kernel_rfl)
theorem ok60 : K 60 sg60 := fnK (E := E0) (tm := tm60) Try.func121 (by kernel_rfl)
theorem ok61 : K 61 sg61 := fnK (E := E0) (tm := tm61) Try.func55 (by kernel_rfl)
theorem ok62 : K 62 sg62 := fnK (E := E0) (tm := tm62) Try.func46 (by kernel_rfl)
theorem ok63 : K 63 sg63 := fnK (E := E0) (tm := tm63) Try.func33 (by kernel_rfl)
theorem ok64 : K 64 sg64 := fnK (E := E0) (tm := tm64) Try.func54 (by kernel_rfl)
theorem ok65 : K 65 sg65 := fnK (E := E0) (tm := tm65) Try.func126 (by kernel_rfl)
theorem ok66 : K 66 sg66 := fnK (E := E0) (tm := tm66) Try.func56 (by kernel_rfl)
theorem ok67 : K 67 sg67 := fnK (E := E0) (tm := tm67) Try.func57 (by kernel_rfl)
theorem ok68 : K 68 sg68 := fnK (E := E0) (tm := tm68) Try.func127 (by kernel_rfl)
theorem ok69 : K 69 sg69 := fnK (E := E0) (tm := tm69) Try.func58 (by kernel_rfl)
theorem ok70 : K 70 sg70 := fnK (E := E0) (tm := tm70) Try.func128 (by kernel_rfl)
theorem ok71 : K 71 sg71 := fnK (E := E0) (tm := tm71) Try.func129 (by kernel_rfl)
theorem ok72 : K 72 sg72 := fnK (E := E0) (tm := tm72) Try.func59 (by kernel_rfl)
theorem ok73 : K 73 sg73 := fnK (E := E0) (tm := tm73) Try.func60 (by kernel_rfl)
theorem ok74 : K 74 sg74 := fnK (E := E0) (tm := tm74) Try.func61 (by kernel_rfl)
theorem ok75 : K 75 sg75 := fnK (E := E0) (tm := tm75) Try.func130 (by kernel_rfl)
theorem ok76 : K 76 sg76 := fnK (E := E0) (tm := tm76) Try.func62 (by kernel_rfl)
theorem ok77 : K 77 sg77 := fnK (E := E0) (tm := tm77) Try.func131 (by kernel_rfl)
theorem ok78 : K 78 sg78 := fnK (E := ⟨tiTab tiL, sigs, 0, 0, false, false, [], [(5, [(54, 0, 0, 0), (1, 0, 2, 99)], [93, 3, 12, 27, 30, 33, 48, 51, 54, 1, 4], 240, [1, 4, 7, 10, 13, 16, 19, 22, 25, 28, 31, 34, 37, 40, 43, 46, 49, 52, 55, 58, 61, 64, 67, 70, 73, 76, 79, 82, 85, 88, 91, 94, 97, 100, 103, 106, 109, 112, 115, 118, 121, 124, 127, 130, 133, 136, 139, 142, 145, 148, 151, 154, 157, 160, 163, 166, 169, 172, 175, 178, 181, 184, 187, 190, 193, 196, 199, 202, 205, 208, 211, 214, 217, 220, 223, 226, 229, 232, 235, 238, 241, 1551]), (2, [(33, 0, 0, 0), (1, 0, 2, 99)], [93, 3, 27, 30, 33, 1, 4], 435, [0])]⟩) (tm := tm78) Try.func171 (by kernel_rfl)
theorem ok79 : K 79 sg79 := fnK (E := E0) (tm := tm79) Try.func172 (by kernel_rfl)
theorem ok80 : K 80 sg80 := fnK (E := E0) (tm := tm80) Try.func63 (by kernel_rfl)
theorem ok81 : K 81 sg81 := fnK (E := ⟨tiTab tiL, sigs, 0, 0, false, false, [], [(6, [(9, 0, 2, 99), (54, 0, 0, 0)], [9, 12, 27, 30, 33, 48, 51, 54, 1], 321, [1, 4, 7, 10, 13, 16, 19, 22, 25, 28, 31, 34, 37, 40, 43, 46, 49, 52, 55, 58, 61, 64, 67, 70, 73, 76, 79, 82, 85, 88, 91, 94, 97, 100, 103, 106, 109, 112, 115, 118, 121, 124, 127, 130, 133, 136, 139, 142, 145, 148, 151, 154, 157, 160, 163, 166, 169, 172, 175, 178, 181, 184, 187, 190, 193, 196, 199, 202, 205, 208, 211, 214, 217, 220, 223, 226, 229, 232, 235, 238, 241, 244, 247, 250, 253, 256, 259, 262, 265, 268, 271, 274, 277, 280, 283, 286, 289, 292, 295, 298, 301, 304, 307, 310, 313, 316, 319, 322, 325, 328, 331, 334, 1884]), (3, [(9, 0, 2, 99), (33, 0, 0, 0)], [9, 27, 30, 33, 1], 516, [])]⟩) (tm := tm81) Try.func132 (by kernel_rfl)
theorem ok82 : K 82 sg82 := fnK (E := E0) (tm := tm82) Try.func64 (by kernel_rfl)
theorem ok83 : K 83 sg83 := fnK (E := E0) (tm := tm83) Try.func133 (by kernel_rfl)
theorem ok84 : K 84 sg84 := fnK (E := E0) (tm := tm84) Try.func65 (by kernel_rfl)
theorem ok85 : K 85 sg85 := fnK (E := E0) (tm := tm85) Try.func134 (by kernel_rfl)
theorem ok86 : K 86 sg86 := fnK (E := E0) (tm := tm86) Try.func66 (by kernel_rfl)
theorem ok87 : K 87 sg87 := fnK (E := E0) (tm := tm87) Try.func67 (by kernel_rfl)
theorem fns_ok : ∀ key s, (key, s) ∈ sigs → FnOk Try.prog T (tiTab tiL) sigs key s := fnOk_all (fc ok0 <| fc ok1 <| fc ok2 <| fc ok3 <| fc ok4 <| fc ok5 <| fc ok6 <| fc ok7 <| fc ok8 <| fc ok9 <| fc ok10 <| fc ok11 <| fc ok12 <| fc ok13 <| fc ok14 <| fc ok15 <| fc ok16 <| fc ok17 <| fc ok18 <| fc ok19 <| fc ok20 <| fc ok21 <| fc ok22 <| fc ok23 <| fc ok24 <| fc ok25 <| fc ok26 <| fc ok27 <| fc ok28 <| fc ok29 <| fc ok30 <| fc ok31 <| fc ok32 <| fc ok33 <| fc ok34 <| fc ok35 <| fc ok36 <| fc ok37 <| fc ok38 <| fc ok39 <| fc ok40 <| fc ok41 <| fc ok42 <| fc ok43 <| fc ok44 <| fc ok45 <| fc ok46 <| fc ok47 <| fc ok48 <| fc ok49 <| fc ok50 <| fc ok51 <| fc ok52 <| fc ok53 <| fc ok54 <| fc ok55 <| fc ok56 <| fc ok57 <| fc ok58 <| fc ok59 <| fc ok60 <| fc ok61 <| fc ok62 <| fc ok63 <| fc ok64 <| fc ok65 <| fc ok66 <| fc ok67 <| fc ok68 <| fc ok69 <| fc ok70 <| fc ok71 <| fc ok72 <| fc ok73 <| fc ok74 <| fc ok75 <| fc ok76 <| fc ok77 <| fc ok78 <| fc ok79 <| fc ok80 <| fc ok81 <| fc ok82 <| fc ok83 <| fc ok84 <| fc ok85 <| fc ok86 <| fc ok87 <| fc0)
theorem contract : ∀ n, Contract Try.prog T n 0 sg0 := fun n => contracts tiL_ok (by kernel_rfl) fns_ok n 0 sg0 (by simp [sigs])
end FnTables
end Go.Proofs.Ytjoebpmeeampfaa
