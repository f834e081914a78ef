/- The terms of the functions that FnExactFoldLog reaches (printed by the author's own program). -/
import Derived.Test.YtnlhnfifkninpaaDoorChecked
import Derived.Test.YtnlhnfifkninpaaDoorRf8
import Derived.KernelRfl
namespace Go.Proofs.YtnlhnfifkninpaaDoor
namespace FnExactFoldLog
open Go Go.Proofs.YtnlhnfifkninpaaDoor.Rf
set_option maxRecDepth 100000

def t3 : TI := ⟨false, 1, 8, [.sc (.int .i64 0)], [], none, (some .i64), false, false, false, false⟩
theorem ti3 : tiOf Tryd.prog 3 = some t3 := by kernel_rfl
def t4 : TI := ⟨false, 1, 1, [.sc (.bool false)], [], none, none, true, false, false, false⟩
theorem ti4 : tiOf Tryd.prog 4 = some t4 := by kernel_rfl
def t5 : TI := ⟨false, 1, 1, [.sc (.int .u8 0)], [], none, (some .u8), false, false, false, false⟩
theorem ti5 : tiOf Tryd.prog 5 = some t5 := by kernel_rfl
def t9 : TI := ⟨false, 1, 16, [.sc (.str [])], [], none, none, false, true, false, false⟩
theorem ti9 : tiOf Tryd.prog 9 = some t9 := by kernel_rfl
def t21 : TI := ⟨false, 1, 4, [.sc (.int .i32 0)], [], none, (some .i32), false, false, false, false⟩
theorem ti21 : tiOf Tryd.prog 21 = some t21 := by kernel_rfl
def t24 : TI := ⟨false, 1, 24, [.sl 1], [], (some 3), none, false, false, false, false⟩
theorem ti24 : tiOf Tryd.prog 24 = some t24 := by kernel_rfl
def t32 : TI := ⟨true, 5, 40, [.sc (.int .i64 0), .sc (.int .i64 0), .sc (.int .i64 0), .sc (.int .i64 0), .sc (.int .i64 0)], [(0, 3), (1, 3), (2, 3), (3, 3), (4, 3)], none, none, false, false, false, true⟩
theorem ti32 : tiOf Tryd.prog 32 = some t32 := by kernel_rfl
def t33 : TI := ⟨true, 2, 32, [.sc (.int .i64 0), .sl 1], [(0, 3), (1, 24)], none, none, false, false, false, false⟩
theorem ti33 : tiOf Tryd.prog 33 = some t33 := by kernel_rfl
def t35 : TI := ⟨true, 10, 96, [.sc (.int .i64 0), .sc (.int .i64 0), .sc (.int .i64 0), .sc (.int .i64 0), .sc (.int .i64 0), .sc (.int .i64 0), .sc (.int .i64 0), .sc (.int .i64 0), .sc (.int .i64 0), .sl 1], [(0, 3), (1, 3), (2, 3), (3, 32), (8, 33)], none, none, false, false, false, false⟩
theorem ti35 : tiOf Tryd.prog 35 = some t35 := by kernel_rfl
def t53 : TI := ⟨false, 1, 24, [.sl 1], [], (some 87), none, false, false, false, false⟩
theorem ti53 : tiOf Tryd.prog 53 = some t53 := by kernel_rfl
def t55 : TI := ⟨true, 2, 32, [.sc (.int .i64 0), .sl 1], [(0, 3), (1, 53)], none, none, false, false, false, false⟩
theorem ti55 : tiOf Tryd.prog 55 = some t55 := by kernel_rfl
def t79 : TI := ⟨false, 1, 24, [.sl 1], [], (some 9), none, false, false, false, false⟩
theorem ti79 : tiOf Tryd.prog 79 = some t79 := by kernel_rfl
def t87 : TI := ⟨false, 1, 24, [.sl 10], [], (some 35), none, false, false, false, false⟩
theorem ti87 : tiOf Tryd.prog 87 = some t87 := by kernel_rfl
def t116 : TI := ⟨false, 1, 24, [.sl 1], [], (some 5), none, false, false, false, false⟩
theorem ti116 : tiOf Tryd.prog 116 = some t116 := by kernel_rfl
def tiL : List (Nat × TI) := [(3, t3), (4, t4), (5, t5), (9, t9), (21, t21), (24, t24), (32, t32), (33, t33), (35, t35), (53, t53), (55, t55), (79, t79), (87, t87), (116, t116)]
theorem tiL_ok : TiOk Tryd.prog (tiTab tiL) := tiTab_ok (l := tiL) (fc ti3 <| fc ti4 <| fc ti5 <| fc ti9 <| fc ti21 <| fc ti24 <| fc ti32 <| fc ti33 <| fc ti35 <| fc ti53 <| fc ti55 <| fc ti79 <| fc ti87 <| fc ti116 <| fc0)

def sg0 : Sig := ⟨8, [(false, [.sc]), (false, [.sc])], [], [(false, [.sc])]⟩
def sg1 : Sig := ⟨32, [(false, [.sc]), (false, [.sc])], [], [(true, [.sc, .ow 99]), (false, [.sc]), (false, [.sc])]⟩
def sg2 : Sig := ⟨37, [(false, [.sc])], [], [(false, [.sc])]⟩
def sg3 : Sig := ⟨77, [(false, [.sc]), (false, [.sc])], [], [(true, [.sc, .ow 99]), (false, [.sc])]⟩
def sg4 : Sig := ⟨118, [(false, [.sc])], [], [(true, [.sc, .ow 99])]⟩
def sg5 : Sig := ⟨119, [(false, [.sc])], [], [(false, [.ow 99]), (false, [.sc])]⟩
def sg6 : Sig := ⟨57, [(false, [.sc])], [], [(false, [.sc])]⟩
def sg7 : Sig := ⟨24, [(false, [.sc]), (false, [.sc])], [], [(false, [.sc]), (false, [.sc]), (true, [.sc, .sc, .sc, .sc, .sc, .sc, .sc, .sc, .sc, .ow 99]), (false, [.sc])]⟩
def sg8 : Sig := ⟨64, [(false, [.sc]), (false, [.sc])], [], [(false, [.ow 99])]⟩
def sg9 : Sig := ⟨65, [(false, [.sc])], [], [(false, [.sc])]⟩
def sg10 : Sig := ⟨84, [(false, [.sc]), (false, [.sc]), (false, [.sc])], [], [(false, [.sc])]⟩
def sg11 : Sig := ⟨66, [(false, [.sc])], [], [(true, [.sc, .sc, .sc, .sc, .sc]), (false, [.sc]), (false, [.sc])]⟩
def sg12 : Sig := ⟨110, [(true, [.sc, .sc, .sc, .sc, .sc])], [], [(false, [.sc])]⟩
def sg13 : Sig := ⟨134, [(false, [.sc])], [], [(false, [.sc])]⟩
def sg14 : Sig := ⟨67, [(false, [.sc]), (false, [.sc])], [], [(true, [.sc, .ow 99]), (false, [.sc])]⟩
def sg15 : Sig := ⟨111, [(false, [.sc]), (true, [.sc, .fz false])], [], [(false, [.sc])]⟩
def sg16 : Sig := ⟨88, [(false, [.sc]), (true, [.sc, .fz false])], [], [(false, [.sc])]⟩
def sg17 : Sig := ⟨125, [(false, [.fz false]), (false, [.sc]), (false, [.sc])], [], [(false, [.sc])]⟩
def sg18 : Sig := ⟨10, [(false, [.sc]), (false, [.sc]), (false, [.sc]), (true, [.sc, .sc, .sc, .sc, .sc, .sc, .sc, .sc, .sc, .fz false])], [], [(false, [.sc]), (false, [.sc])]⟩
def sg19 : Sig := ⟨38, [(false, [.sc]), (false, [.sc]), (false, [.sc])], [], [(false, [.sc])]⟩
def sg20 : Sig := ⟨39, [(false, [.sc]), (true, [.sc, .sc, .sc, .sc, .sc, .sc, .sc, .sc, .sc, .fz false])], [], [(false, [.sc])]⟩
def sg21 : Sig := ⟨86, [(false, [.sc])], [], [(true, [.sc, .ow 99])]⟩
def sg22 : Sig := ⟨85, [(true, [.sc, .fz false]), (true, [.sc, .fz false])], [], [(false, [.sc])]⟩
def sg23 : Sig := ⟨124, [(false, [.fz false]), (false, [.fz false])], [], [(false, [.sc])]⟩
def sg24 : Sig := ⟨87, [(true, [.sc, .sc, .sc, .sc, .sc])], [], [(false, [.sc])]⟩
def sg25 : Sig := ⟨40, [(false, [.sc]), (false, [.sc]), (true, [.sc, .sc, .sc, .sc, .sc, .sc, .sc, .sc, .sc, .fz false])], [], [(false, [.sc])]⟩
def sg26 : Sig := ⟨50, [(false, [.sc])], [], [(false, [.sc])]⟩
def sg27 : Sig := ⟨51, [(true, [.sc, .sc, .sc, .sc, .sc])], [], [(false, [.sc])]⟩
def sg28 : Sig := ⟨52, [(true, [.sc, .fz false])], [], [(false, [.sc])]⟩
def sg29 : Sig := ⟨99, [(false, [.fz false])], [], [(false, [.sc])]⟩
def sg30 : Sig := ⟨120, [(true, [.sc, .fz false]), (false, [.sc]), (false, [.sc]), (true, [.sc, .sc, .sc, .sc, .sc, .sc, .sc, .sc, .sc, .fz false])], [], [(true, [.sc, .ow 99])]⟩
def sg31 : Sig := ⟨139, [(true, [.sc, .fz false])], [], [(true, [.sc, .ow 99])]⟩
def sg32 : Sig := ⟨140, [(true, [.sc, .sc, .sc, .sc, .sc, .sc, .sc, .sc, .sc, .fz false])], [], [(true, [.sc, .sc, .sc, .sc, .sc, .sc, .sc, .sc, .sc, .ow 99])]⟩
def sg33 : Sig := ⟨149, [(true, [.sc, .fz false])], [], [(true, [.sc, .ow 99])]⟩
def sg34 : Sig := ⟨159, [(false, [.fz false])], [], [(false, [.ow 99])]⟩
def sg35 : Sig := ⟨33, [(false, [.sc]), (false, [.sc])], [], [(true, [.sc, .ow 99]), (false, [.sc]), (false, [.sc])]⟩
def sg36 : Sig := ⟨74, [(false, [.sc])], [], [(false, [.sc])]⟩
def sg37 : Sig := ⟨78, [(false, [.sc])], [], [(true, [.sc, .ow 99])]⟩
def sg38 : Sig := ⟨79, [(false, [.sc])], [], [(false, [.ow 99])]⟩
def sg39 : Sig := ⟨62, [(false, [.sc])], [], [(false, [.sc])]⟩
def sg40 : Sig := ⟨108, [(false, [.sc]), (false, [.sc]), (false, [.sc])], [], [(false, [.sc])]⟩
def sg41 : Sig := ⟨107, [(false, [.sc])], [], [(false, [.sc])]⟩
def sg42 : Sig := ⟨25, [(false, [.sc]), (false, [.sc])], [], [(false, [.sc]), (false, [.sc]), (true, [.sc, .sc, .sc, .sc, .sc, .sc, .sc, .sc, .sc, .ow 99]), (false, [.sc])]⟩
def sg43 : Sig := ⟨68, [(false, [.sc]), (false, [.sc])], [], [(false, [.ow 99])]⟩
def sg44 : Sig := ⟨112, [(false, [.sc]), (false, [.sc]), (false, [.sc]), (false, [.sc])], [], [(false, [.ow 99])]⟩
def sg45 : Sig := ⟨135, [(false, [.sc]), (false, [.sc])], [], [(false, [.ow 99])]⟩
def sg46 : Sig := ⟨145, [(false, [.sc])], [], [(false, [.sc])]⟩
def sg47 : Sig := ⟨146, [(false, [.sc])], [], [(false, [.sc]), (false, [.sc])]⟩
def sg48 : Sig := ⟨154, [(false, [.sc])], [], [(false, [.sc]), (false, [.sc])]⟩
def sg49 : Sig := ⟨136, [(false, [.sc]), (false, [.sc])], [], [(false, [.sc])]⟩
def sg50 : Sig := ⟨147, [(false, [.sc]), (false, [.sc])], [], [(false, [.sc])]⟩
def sg51 : Sig := ⟨137, [(false, [.sc]), (false, [.sc])], [], [(false, [.sc])]⟩
def sg52 : Sig := ⟨148, [(false, [.sc]), (false, [.sc])], [], [(false, [.sc])]⟩
def sg53 : Sig := ⟨155, [(false, [.sc]), (false, [.sc])], [], [(false, [.sc])]⟩
def sg54 : Sig := ⟨166, [(false, [.sc]), (false, [.sc])], [], [(false, [.sc])]⟩
def sg55 : Sig := ⟨69, [(false, [.fz false]), (false, [.sc])], [], [(false, [.ow 99]), (false, [.sc])]⟩
def sg56 : Sig := ⟨113, [(false, [.sc]), (false, [.sc])], [], [(false, [.sc])]⟩
def sg57 : Sig := ⟨70, [(false, [.sc])], [], [(true, [.sc, .sc, .sc, .sc, .sc]), (false, [.sc]), (false, [.sc])]⟩
def sg58 : Sig := ⟨75, [(false, [.fz false]), (false, [.sc])], [], [(false, [.sc])]⟩
def sg59 : Sig := ⟨114, [(false, [.sc])], [], [(false, [.sc])]⟩
def sg60 : Sig := ⟨90, [(false, [.sc]), (false, [.sc]), (false, [.sc])], [], [(false, [.sc])]⟩
def sg61 : Sig := ⟨91, [(true, [.sc, .sc, .sc, .sc, .sc])], [], [(false, [.sc])]⟩
def sg62 : Sig := ⟨71, [(false, [.sc]), (false, [.sc])], [], [(true, [.sc, .ow 99]), (false, [.sc])]⟩
def sg63 : Sig := ⟨115, [(false, [.sc]), (false, [.sc])], [], [(false, [.sc]), (false, [.sc]), (false, [.sc])]⟩
def sg64 : Sig := ⟨138, [(false, [.sc]), (false, [.sc])], [], [(false, [.sc]), (false, [.sc]), (false, [.sc])]⟩
def sg65 : Sig := ⟨92, [(false, [.sc]), (true, [.sc, .fz false])], [], [(false, [.sc])]⟩
def sg66 : Sig := ⟨126, [(false, [.fz false]), (false, [.clo 127 []])], [], [(false, [.sc])]⟩
def sg67 : Sig := ⟨141, [(false, [.fz false]), (false, [.clo 127 []])], [], [(false, [.sc])]⟩
def sg68 : Sig := ⟨127, [(false, [.sc])], [], [(false, [.sc])]⟩
def sg69 : Sig := ⟨43, [(false, [.sc]), (false, [.sc]), (false, [.sc])], [], [(false, [.sc])]⟩
def sg70 : Sig := ⟨44, [(false, [.sc]), (true, [.sc, .sc, .sc, .sc, .sc, .sc, .sc, .sc, .sc, .fz false])], [], [(false, [.sc])]⟩
def sg71 : Sig := ⟨94, [(false, [.sc])], [], [(true, [.sc, .ow 99])]⟩
def sg72 : Sig := ⟨93, [(true, [.sc, .fz false]), (true, [.sc, .fz false])], [], [(false, [.sc])]⟩
def sg73 : Sig := ⟨128, [(false, [.fz false]), (false, [.fz false])], [], [(false, [.sc])]⟩
def sg74 : Sig := ⟨80, [(false, [.px 0]), (false, [.sc]), (false, [.sc]), (true, [.sc, .sc, .sc, .sc, .sc, .sc, .sc, .sc, .sc, .fz false])], [(false, [(.sc, .sc), (.ow 99, .ow 99)])], []⟩
def sg75 : Sig := ⟨121, [(true, [.sc, .sc, .sc, .sc, .sc, .sc, .sc, .sc, .sc, .fz false])], [], [(true, [.sc, .sc, .sc, .sc, .sc, .sc, .sc, .sc, .sc, .ow 99])]⟩
def sg76 : Sig := ⟨131, [(true, [.sc, .fz false])], [], [(true, [.sc, .ow 99])]⟩
def sg77 : Sig := ⟨144, [(false, [.fz false])], [], [(false, [.ow 99])]⟩
def sg78 : Sig := ⟨23, [(true, [.sc, .fz false]), (true, [.sc, .fz false])], [], [(false, [.sc])]⟩
def sg79 : Sig := ⟨63, [(false, [.fz false]), (false, [.fz false])], [], [(false, [.sc])]⟩
def sg80 : Sig := ⟨109, [(false, [.fz false]), (false, [.fz false])], [], [(false, [.sc])]⟩
def sg81 : Sig := ⟨13, [(true, [.sc, .sc, .sc, .sc, .sc, .sc, .sc, .sc, .sc, .fz false]), (true, [.sc, .sc, .sc, .sc, .sc, .sc, .sc, .sc, .sc, .fz false])], [], [(false, [.sc])]⟩
def sg82 : Sig := ⟨46, [(true, [.sc, .sc, .sc, .sc, .sc]), (true, [.sc, .sc, .sc, .sc, .sc])], [], [(false, [.sc])]⟩
def sg83 : Sig := ⟨47, [(true, [.sc, .fz false]), (true, [.sc, .fz false])], [], [(false, [.sc])]⟩
def sg84 : Sig := ⟨98, [(false, [.fz false]), (false, [.fz false])], [], [(false, [.sc])]⟩
def sg85 : Sig := ⟨34, [(true, [.sc, .mu 3]), (false, [.sc])], [], [(false, [.sc])]⟩
def sg86 : Sig := ⟨81, [(false, [.mu 3]), (false, [.sc])], [], [(false, [.sc])]⟩
def sg87 : Sig := ⟨122, [(false, [.mu 2]), (false, [.sc])], [], [(false, [.sc])]⟩
def sg88 : Sig := ⟨116, [(false, [.mu 1]), (false, [.sc])], [], [(false, [.sc])]⟩
def sg89 : Sig := ⟨35, [(true, [.sc, .fz false]), (false, [.sc])], [], [(false, [.sc])]⟩
def sg90 : Sig := ⟨82, [(false, [.fz false]), (false, [.sc])], [], [(false, [.sc])]⟩
def sg91 : Sig := ⟨123, [(false, [.fz false]), (false, [.sc])], [], [(false, [.sc])]⟩
def sg92 : Sig := ⟨117, [(false, [.fz false]), (false, [.sc])], [], [(false, [.sc])]⟩
def sigs : List (Nat × Sig) := [(0, sg0), (1, sg1), (2, sg2), (3, sg3), (4, sg4), (5, sg5), (6, sg6), (7, sg7), (8, sg8), (9, sg9), (10, sg10), (11, sg11), (12, sg12), (13, sg13), (14, sg14), (15, sg15), (16, sg16), (17, sg17), (18, sg18), (19, sg19), (20, sg20), (21, sg21), (22, sg22), (23, sg23), (24, sg24), (25, sg25), (26, sg26), (27, sg27), (28, sg28), (29, sg29), (30, sg30), (31, sg31), (32, sg32), (33, sg33), (34, sg34), (35, sg35), (36, sg36), (37, sg37), (38, sg38), (39, sg39), (40, sg40), (41, sg41), (42, sg42), (43, sg43), (44, sg44), (45, sg45), (46, sg46), (47, sg47), (48, sg48), (49, sg49), (50, sg50), (51, sg51), (52, sg52), (53, sg53), (54, sg54), (55, sg55), (56, sg56), (57, sg57), (58, sg58), (59, sg59), (60, sg60), (61, sg61), (62, sg62), (63, sg63), (64, sg64), (65, sg65), (66, sg66), (67, sg67), (68, sg68), (69, sg69), (70, sg70), (71, sg71), (72, sg72), (73, sg73), (74, sg74), (75, sg75), (76, sg76), (77, sg77), (78, sg78), (79, sg79), (80, sg80), (81, sg81), (82, sg82), (83, sg83), (84, sg84), (85, sg85), (86, sg86), (87, sg87), (88, sg88), (89, sg89), (90, sg90), (91, sg91), (92, sg92)]
abbrev E0 : Env := ⟨tiTab tiL, sigs, 0, 0, false, false, [], []⟩

def tm0 : Tm Unit :=
(.lt none .slen [.v 1] 1 <|
(.lt none (.bin .gtr) [.v 2, .c (.int .i64 1048576)] 1 <|
(.ite (.v 3)
(.leaf .ret [.c (.bool true)] ())
(.call none 1 [.v 0, .v 1] 4 [] <|
(.call none 35 [.v 0, .v 1] 4 [] <|
(.call none 78 [.v 8, .v 9, .v 4, .v 5] 1 [] <|
(.lt none .not [.v 12] 1 <|
(.lt (some (.v 13, false)) .id [.v 10] 1 <|
(.lt (some (.v 13, false)) .id [.v 6] 1 <|
(.lt (some (.v 13, false)) (.bin .neq) [.v 14, .v 15] 1 <|
(.lt none .pick [.v 13, .c (.bool true), .v 16] 1 <|
(.lt (some (.v 17, false)) .id [.v 11] 1 <|
(.lt (some (.v 17, false)) .id [.v 7] 1 <|
(.lt (some (.v 17, false)) (.eqb true) [.v 18, .v 19] 1 <|
(.lt none .pick [.v 17, .c (.bool true), .v 20] 1 <|
(.ite (.v 21)
(.leaf .ret [.c (.bool false)] ())
(.call none 85 [.v 8, .v 9, .c (.int .i64 1)] 2 [] <|
(.lt none (.dep 3) [.v 23] 0 <|
(.call none 89 [.v 8, .v 23, .c (.int .i64 1)] 1 [] <|
(.lt none (.bin .lss) [.v 24, .c (.int .i64 0)] 1 <|
(.ite (.v 25)
(.leaf .ret [.c (.bool false)] ())
(.lt none (.bin .neq) [.v 24, .v 22] 1 <|
(.ite (.v 26)
(.leaf .ret [.c (.bool false)] ())
(.call none 35 [.v 0, .v 1] 4 [] <|
(.call none 78 [.v 27, .v 28, .v 4, .v 5] 1 [] <|
(.lt none .not [.v 31] 1 <|
(.lt (some (.v 32, false)) .id [.v 29] 1 <|
(.lt (some (.v 32, false)) .id [.v 6] 1 <|
(.lt (some (.v 32, false)) (.bin .neq) [.v 33, .v 34] 1 <|
(.lt none .pick [.v 32, .c (.bool true), .v 35] 1 <|
(.lt (some (.v 36, false)) .id [.v 30] 1 <|
(.lt (some (.v 36, false)) .id [.v 7] 1 <|
(.lt (some (.v 36, false)) (.eqb true) [.v 37, .v 38] 1 <|
(.lt none .pick [.v 36, .c (.bool true), .v 39] 1 <|
(.ite (.v 40)
(.leaf .ret [.c (.bool false)] ())
(.call none 89 [.v 8, .v 23, .c (.int .i64 1)] 1 [] <|
(.lt none (.bin .lss) [.v 41, .c (.int .i64 0)] 1 <|
(.ite (.v 42)
(.leaf .ret [.c (.bool false)] ())
(.lt none (.bin .neq) [.v 41, .v 22] 1 <|
(.ite (.v 43)
(.leaf .ret [.c (.bool false)] ())
(.leaf .ret [.c (.bool true)] ())))))))))))))))))))))))))))))))))))))))))
def tm1 : Tm Unit :=
(.call none 2 [.v 0] 1 [] <|
(.lt none .not [.v 2] 1 <|
(.lt (some (.v 3, false)) .id [.v 1] 1 <|
(.lt (some (.v 3, false)) .slen [.v 4] 1 <|
(.lt (some (.v 3, false)) (.bin .gtr) [.v 5, .c (.int .i64 20000)] 1 <|
(.lt none .pick [.v 3, .c (.bool true), .v 6] 1 <|
(.ite (.v 7)
(.leaf .ret [.c (.int .i64 0), .c (.rows 1 []), .c (.int .i64 0), .c (.bool false)] ())
(.call none 3 [.v 0, .v 1] 3 [] <|
(.leaf .ret [.v 8, .v 9, .v 10, .c (.bool true)] ())))))))))
def tm2 : Tm Unit :=
(.lt none (.bin .eql) [.v 0, .c (.int .i64 3)] 1 <|
(.lt (some (.v 1, false)) .id [.v 0] 1 <|
(.lt (some (.v 1, false)) (.bin .eql) [.v 2, .c (.int .i64 5)] 1 <|
(.lt none .pick [.v 1, .c (.bool true), .v 3] 1 <|
(.leaf .ret [.v 4] ())))))
def tm3 : Tm Unit :=
(.call none 4 [.v 0] 2 [] <|
(.call none 5 [.v 1] 2 [] <|
(.lt none .len [.v 4] 1 <|
(.bind 1
(.loop [.c (.int .i64 0), .c (.int .i64 0), .v 2, .v 3]
(.lt none (.bin .lss) [.v 8, .v 6] 1 <|
(.ite (.v 11)
(.lt none .inb [.v 4, .v 8] 0 <|
(.lt none (.row 1 0 [true]) [.v 4, .v 8] 1 <|
(.call none 7 [.v 0, .v 12] 13 [] <|
(.lt none .not [.v 25] 1 <|
(.ite (.v 26)
(.leaf (.yield 1) [.v 7, .v 9, .v 10] ())
(.call none 30 [.v 9, .v 10, .v 13, .v 14, .v 15, .v 16, .v 17, .v 18, .v 19, .v 20, .v 21, .v 22, .v 23, .v 24] 2 [] <|
(.lt none (.dep 99) [.v 28] 0 <|
(.lt none .slen [.v 12] 1 <|
(.lt none (.bin .add) [.v 29, .c (.int .i64 4)] 1 <|
(.lt none (.bin .add) [.v 7, .v 30] 1 <|
(.lt none (.bin .add) [.v 8, .c (.int .i64 1)] 1 <|
(.leaf .cont [.v 31, .v 32, .v 27, .v 28] ()))))))))))))
(.leaf (.yield 1) [.v 7, .v 9, .v 10] ())))) <|
(.leaf .ret [.v 8, .v 9, .v 7] ())))))
def tm4 : Tm Unit :=
(.lt none (.make 24 [(.rows 10 [])]) [.v 0] 1 <|
(.leaf .ret [.v 0, .v 1] ()))
def tm5 : Tm Unit :=
(.bind 1
(.loop [.c (.rows 1 []), .c (.int .i64 0)]
(.lt none .slen [.v 0] 1 <|
(.lt none (.bin .lss) [.v 2, .v 3] 1 <|
(.ite (.v 4)
(.lt none .sidx [.v 0, .v 2] 1 <|
(.lt none (.conv .i64) [.v 5] 1 <|
(.lt none (.bin .gtr) [.v 6, .c (.int .i64 200)] 1 <|
(.lt (some (.v 7, false)) .id [.v 2] 1 <|
(.lt (some (.v 7, false)) .id [.v 6] 1 <|
(.lt (some (.v 7, false)) (.bin .add) [.v 8, .v 9] 1 <|
(.lt (some (.v 7, false)) (.bin .add) [.v 10, .c (.int .i64 4)] 1 <|
(.lt (some (.v 7, false)) .id [.v 0] 1 <|
(.lt (some (.v 7, false)) .slen [.v 12] 1 <|
(.lt (some (.v 7, false)) (.bin .gtr) [.v 11, .v 13] 1 <|
(.lt none .pick [.v 7, .c (.bool true), .v 14] 1 <|
(.ite (.v 15)
(.leaf (.yield 1) [.v 1, .v 2] ())
(.lt none (.bin .add) [.v 2, .c (.int .i64 1)] 1 <|
(.lt none (.bin .add) [.v 2, .c (.int .i64 1)] 1 <|
(.lt none (.bin .add) [.v 17, .v 6] 1 <|
(.lt none .ssub [.v 0, .v 16, .v 18] 1 <|
(.call none 6 [.v 19] 1 [] <|
(.lt none (.bin .add) [.v 2, .v 6] 1 <|
(.lt none (.bin .add) [.v 21, .c (.int .i64 4)] 1 <|
(.lt none .ssub [.v 0, .v 2, .v 22] 1 <|
(.lt none (.bin .neq) [.v 20, .v 23] 1 <|
(.ite (.v 24)
(.leaf (.yield 1) [.v 1, .v 2] ())
(.lt none (.mk 1 1) [.v 19] 1 <|
(.lt none (.app 1 16 true) [.v 1, .v 25] 1 <|
(.lt none (.bin .add) [.v 6, .c (.int .i64 4)] 1 <|
(.lt none (.bin .add) [.v 2, .v 27] 1 <|
(.leaf .cont [.v 26, .v 28] ())))))))))))))))))))))))))))
(.leaf (.yield 1) [.v 1, .v 2] ()))))) <|
(.leaf .ret [.v 1, .v 2] ()))
def tm6 : Tm Unit :=
(.lt none .slen [.v 0] 1 <|
(.lt none (.conv .u8) [.v 1] 1 <|
(.lt none (.mk 1 1) [.v 2] 1 <|
(.lt none .bstr [.v 3] 1 <|
(.lt none (.bin .add) [.v 4, .v 0] 1 <|
(.bind 1
(.loop [.c (.int .i64 7), .c (.int .i64 0)]
(.lt none .slen [.v 5] 1 <|
(.lt none (.bin .lss) [.v 7, .v 8] 1 <|
(.ite (.v 9)
(.lt none (.bin .mul) [.c (.int .i64 33), .v 6] 1 <|
(.lt none .sidx [.v 5, .v 7] 1 <|
(.lt none (.conv .i64) [.v 11] 1 <|
(.lt none (.bin .add) [.v 10, .v 12] 1 <|
(.lt none (.bin .rem) [.v 13, .c (.int .i64 65521)] 1 <|
(.lt none (.bin .add) [.v 7, .c (.int .i64 1)] 1 <|
(.leaf .cont [.v 14, .v 15] ())))))))
(.leaf (.yield 1) [.v 6] ()))))) <|
(.lt none (.bin .quo) [.v 6, .c (.int .i64 256)] 1 <|
(.lt none (.conv .u8) [.v 7] 1 <|
(.lt none (.bin .rem) [.v 6, .c (.int .i64 256)] 1 <|
(.lt none (.conv .u8) [.v 9] 1 <|
(.lt none (.mk 1 3) [.v 8, .v 10, .c (.int .u8 1)] 1 <|
(.lt none .bstr [.v 11] 1 <|
(.lt none (.bin .add) [.v 5, .v 12] 1 <|
(.leaf .ret [.v 13] ()))))))))))))))
def tm7 : Tm Unit :=
(.call none 8 [.v 1, .c (.int .u8 124)] 1 [] <|
(.call none 2 [.v 0] 1 [] <|
(.lt none .not [.v 3] 1 <|
(.lt (some (.v 4, false)) .len [.v 2] 1 <|
(.lt (some (.v 4, false)) (.bin .neq) [.v 5, .c (.int .i64 3)] 1 <|
(.lt none .pick [.v 4, .c (.bool true), .v 6] 1 <|
(.ite (.v 7)
(.leaf .ret [.c (.int .i64 0), .c (.int .i64 0), .c (.int .i64 0), .c (.int .i64 0), .c (.int .i64 0), .c (.int .i64 0), .c (.int .i64 0), .c (.int .i64 0), .c (.int .i64 0), .c (.int .i64 0), .c (.int .i64 0), .c (.rows 1 []), .c (.bool false)] ())
(.lt none .inb [.v 2, .c (.int .i64 0)] 0 <|
(.lt none (.row 1 0 [true]) [.v 2, .c (.int .i64 0)] 1 <|
(.call none 8 [.v 8, .c (.int .u8 32)] 1 [] <|
(.lt none .len [.v 9] 1 <|
(.bind 1
(.loop [.c (.rows 1 []), .c (.int .i64 0)]
(.lt none (.bin .lss) [.v 12, .v 10] 1 <|
(.ite (.v 13)
(.lt none .inb [.v 9, .v 12] 0 <|
(.lt none (.row 1 0 [true]) [.v 9, .v 12] 1 <|
(.call none 9 [.v 14] 1 [] <|
(.lt none (.mk 1 1) [.v 15] 1 <|
(.lt none (.app 1 8 true) [.v 11, .v 16] 1 <|
(.lt none (.bin .add) [.v 12, .c (.int .i64 1)] 1 <|
(.leaf .cont [.v 17, .v 18] ())))))))
(.leaf (.yield 1) [.v 11] ())))) <|
(.lt none .inb [.v 2, .c (.int .i64 1)] 0 <|
(.lt none (.row 1 0 [true]) [.v 2, .c (.int .i64 1)] 1 <|
(.call none 11 [.v 12] 7 [] <|
(.lt none .inb [.v 2, .c (.int .i64 2)] 0 <|
(.lt none (.row 1 0 [true]) [.v 2, .c (.int .i64 2)] 1 <|
(.call none 14 [.v 0, .v 20] 3 [] <|
(.lt none .len [.v 11] 1 <|
(.lt none (.bin .neq) [.v 24, .c (.int .i64 5)] 1 <|
(.lt (some (.v 25, false)) .id [.v 19] 1 <|
(.lt (some (.v 25, false)) .not [.v 26] 1 <|
(.lt none .pick [.v 25, .c (.bool true), .v 27] 1 <|
(.lt (some (.v 28, false)) .id [.v 23] 1 <|
(.lt (some (.v 28, false)) .not [.v 29] 1 <|
(.lt none .pick [.v 28, .c (.bool true), .v 30] 1 <|
(.ite (.v 31)
(.leaf .ret [.c (.int .i64 0), .c (.int .i64 0), .c (.int .i64 0), .c (.int .i64 0), .c (.int .i64 0), .c (.int .i64 0), .c (.int .i64 0), .c (.int .i64 0), .c (.int .i64 0), .c (.int .i64 0), .c (.int .i64 0), .c (.rows 1 []), .c (.bool false)] ())
(.lt none .inb [.v 11, .c (.int .i64 2)] 0 <|
(.lt none (.row 1 0 [true]) [.v 11, .c (.int .i64 2)] 1 <|
(.lt none .inb [.v 11, .c (.int .i64 3)] 0 <|
(.lt none (.row 1 0 [true]) [.v 11, .c (.int .i64 3)] 1 <|
(.lt none .inb [.v 11, .c (.int .i64 4)] 0 <|
(.lt none (.row 1 0 [true]) [.v 11, .c (.int .i64 4)] 1 <|
(.lt none .inb [.v 11, .c (.int .i64 0)] 0 <|
(.lt none (.row 1 0 [true]) [.v 11, .c (.int .i64 0)] 1 <|
(.lt none .inb [.v 11, .c (.int .i64 1)] 0 <|
(.lt none (.row 1 0 [true]) [.v 11, .c (.int .i64 1)] 1 <|
(.call none 18 [.v 0, .v 35, .v 36, .v 32, .v 33, .v 34, .v 13, .v 14, .v 15, .v 16, .v 17, .v 21, .v 22] 2 [] <|
(.lt none .not [.v 38] 1 <|
(.lt (some (.v 39, false)) .id [.v 37] 1 <|
(.lt (some (.v 39, false)) .id [.v 1] 1 <|
(.lt (some (.v 39, false)) (.bin .neq) [.v 40, .v 41] 1 <|
(.lt none .pick [.v 39, .c (.bool true), .v 42] 1 <|
(.ite (.v 43)
(.leaf .ret [.c (.int .i64 0), .c (.int .i64 0), .c (.int .i64 0), .c (.int .i64 0), .c (.int .i64 0), .c (.int .i64 0), .c (.int .i64 0), .c (.int .i64 0), .c (.int .i64 0), .c (.int .i64 0), .c (.int .i64 0), .c (.rows 1 []), .c (.bool false)] ())
(.lt none .inb [.v 11, .c (.int .i64 0)] 0 <|
(.lt none (.row 1 0 [true]) [.v 11, .c (.int .i64 0)] 1 <|
(.lt none .inb [.v 11, .c (.int .i64 1)] 0 <|
(.lt none (.row 1 0 [true]) [.v 11, .c (.int .i64 1)] 1 <|
(.leaf .ret [.v 44, .v 45, .v 32, .v 33, .v 34, .v 13, .v 14, .v 15, .v 16, .v 17, .v 21, .v 22, .c (.bool true)] ())))))))))))))))))))))))))))))))))))))))))))))))))
def tm8 : Tm Unit :=
(.bind 1
(.loop [.c (.rows 1 []), .c (.int .i64 0), .c (.int .i64 0)]
(.lt none .slen [.v 0] 1 <|
(.lt none (.bin .lss) [.v 4, .v 5] 1 <|
(.ite (.v 6)
(.bind 0
(.lt none .sidx [.v 0, .v 4] 1 <|
(.lt none (.bin .eql) [.v 7, .v 1] 1 <|
(.ite (.v 8)
(.lt none .ssub [.v 0, .v 3, .v 4] 1 <|
(.lt none (.mk 1 1) [.v 9] 1 <|
(.lt none (.app 1 16 true) [.v 2, .v 10] 1 <|
(.lt none (.bin .add) [.v 4, .c (.int .i64 1)] 1 <|
(.leaf (.yield 0) [.v 11, .v 12] ())))))
(.leaf (.yield 0) [.v 2, .v 3] ())))) <|
(.lt none (.bin .add) [.v 4, .c (.int .i64 1)] 1 <|
(.leaf .cont [.v 7, .v 8, .v 9] ())))
(.leaf (.yield 1) [.v 2, .v 3] ()))))) <|
(.lt none .slen [.v 0] 1 <|
(.lt none .ssub [.v 0, .v 3, .v 4] 1 <|
(.lt none (.mk 1 1) [.v 5] 1 <|
(.lt none (.app 1 16 true) [.v 2, .v 6] 1 <|
(.leaf .ret [.v 7] ()))))))
def tm9 : Tm Unit :=
(.lt none .slen [.v 0] 1 <|
(.call none 10 [.v 1, .c (.int .i64 1), .c (.int .i64 6)] 1 [] <|
(.lt none .not [.v 2] 1 <|
(.lt (some (.v 3, false)) .id [.v 0] 1 <|
(.lt (some (.v 3, false)) .sidx [.v 4, .c (.int .i64 0)] 1 <|
(.lt (some (.v 3, false)) (.bin .eql) [.v 5, .c (.int .u8 48)] 1 <|
(.lt (some (.v 3, false)) .id [.v 6] 1 <|
(.lt (some (.v 7, true)) .id [.v 0] 1 <|
(.lt (some (.v 7, true)) .slen [.v 8] 1 <|
(.lt (some (.v 7, true)) (.bin .gtr) [.v 9, .c (.int .i64 1)] 1 <|
(.lt (some (.v 3, false)) .pick [.v 7, .v 10, .c (.bool false)] 1 <|
(.lt none .pick [.v 3, .c (.bool true), .v 11] 1 <|
(.ite (.v 12)
(.leaf .ret [.c (.int .i64 (-1))] ())
(.bind 1
(.loop [.c (.int .i64 0), .c (.int .i64 0)]
(.lt none .slen [.v 0] 1 <|
(.lt none (.bin .lss) [.v 14, .v 15] 1 <|
(.ite (.v 16)
(.lt none .sidx [.v 0, .v 14] 1 <|
(.lt none (.bin .lss) [.v 17, .c (.int .u8 48)] 1 <|
(.lt (some (.v 18, false)) .id [.v 0] 1 <|
(.lt (some (.v 18, false)) .id [.v 14] 1 <|
(.lt (some (.v 18, false)) .sidx [.v 19, .v 20] 1 <|
(.lt (some (.v 18, false)) (.bin .gtr) [.v 21, .c (.int .u8 57)] 1 <|
(.lt none .pick [.v 18, .c (.bool true), .v 22] 1 <|
(.ite (.v 23)
(.leaf .ret [.c (.int .i64 (-1))] ())
(.lt none (.bin .mul) [.c (.int .i64 10), .v 13] 1 <|
(.lt none .sidx [.v 0, .v 14] 1 <|
(.lt none (.bin .sub) [.v 25, .c (.int .u8 48)] 1 <|
(.lt none (.conv .i64) [.v 26] 1 <|
(.lt none (.bin .add) [.v 24, .v 27] 1 <|
(.lt none (.bin .add) [.v 14, .c (.int .i64 1)] 1 <|
(.leaf .cont [.v 28, .v 29] ())))))))))))))))
(.leaf (.yield 1) [.v 13] ()))))) <|
(.leaf .ret [.v 13] ())))))))))))))))
def tm10 : Tm Unit :=
(.lt none (.bin .geq) [.v 0, .v 1] 1 <|
(.lt (some (.v 3, true)) .id [.v 0] 1 <|
(.lt (some (.v 3, true)) .id [.v 2] 1 <|
(.lt (some (.v 3, true)) (.bin .leq) [.v 4, .v 5] 1 <|
(.lt none .pick [.v 3, .v 6, .c (.bool false)] 1 <|
(.leaf .ret [.v 7] ()))))))
def tm11 : Tm Unit :=
(.call none 8 [.v 0, .c (.int .u8 32)] 1 [] <|
(.bind 0
(.lt none .inb [.v 1, .c (.int .i64 0)] 0 <|
(.lt none (.row 1 0 [true]) [.v 1, .c (.int .i64 0)] 1 <|
(.lt none (.bin .eql) [.v 2, .c (.str [109, 111, 118, 101])] 1 <|
(.ite (.v 3)
(.leaf (.yield 0) [.c (.int .i64 5), .c (.int .i64 1)] ())
(.lt none (.bin .eql) [.v 2, .c (.str [114, 101, 97, 100])] 1 <|
(.ite (.v 4)
(.leaf (.yield 0) [.c (.int .i64 3), .c (.int .i64 2)] ())
(.lt none (.bin .eql) [.v 2, .c (.str [45])] 1 <|
(.ite (.v 5)
(.leaf (.yield 0) [.c (.int .i64 1), .c (.int .i64 0)] ())
(.leaf .ret [.c (.int .i64 0), .c (.int .i64 0), .c (.int .i64 0), .c (.int .i64 0), .c (.int .i64 0), .c (.int .i64 1), .c (.bool false)] ()))))))))) <|
(.lt none .len [.v 1] 1 <|
(.lt none (.bin .neq) [.v 4, .v 2] 1 <|
(.ite (.v 5)
(.leaf .ret [.c (.int .i64 0), .c (.int .i64 0), .c (.int .i64 0), .c (.int .i64 0), .c (.int .i64 0), .c (.int .i64 2), .c (.bool false)] ())
(.lt none (.make 8 [(.int .i64 0)]) [.c (.int .i64 4)] 1 <|
(.lt none .len [.v 1] 1 <|
(.lt none (.sub 1 true) [.v 1, .c (.int .i64 1), .v 7] 1 <|
(.lt none .len [.v 8] 1 <|
(.bind 2
(.loop [.v 6, .c (.int .i64 0)]
(.lt none (.bin .lss) [.v 11, .v 9] 1 <|
(.ite (.v 12)
(.lt none .inb [.v 8, .v 11] 0 <|
(.lt none (.row 1 0 [true]) [.v 8, .v 11] 1 <|
(.call none 9 [.v 13] 1 [] <|
(.lt none .inb [.v 10, .v 11] 0 <|
(.lt none (.set 1 0 1) [.v 10, .v 11, .v 14] 1 <|
(.lt none .slen [.v 13] 1 <|
(.lt none (.bin .gtr) [.v 16, .c (.int .i64 4)] 1 <|
(.lt (some (.v 17, false)) .id [.v 11] 1 <|
(.lt (some (.v 17, false)) .inb [.v 15, .v 18] 0 <|
(.lt (some (.v 17, false)) (.row 1 0 [true]) [.v 15, .v 18] 1 <|
(.lt (some (.v 17, false)) (.bin .lss) [.v 19, .c (.int .i64 0)] 1 <|
(.lt none .pick [.v 17, .c (.bool true), .v 20] 1 <|
(.ite (.v 21)
(.leaf .ret [.c (.int .i64 0), .c (.int .i64 0), .c (.int .i64 0), .c (.int .i64 0), .c (.int .i64 0), .c (.int .i64 3), .c (.bool false)] ())
(.lt none (.bin .add) [.v 11, .c (.int .i64 1)] 1 <|
(.leaf .cont [.v 15, .v 22] ())))))))))))))))
(.leaf (.yield 2) [.v 10] ())))) <|
(.lt none .inb [.v 10, .c (.int .i64 0)] 0 <|
(.lt none (.row 1 0 [true]) [.v 10, .c (.int .i64 0)] 1 <|
(.lt none .inb [.v 10, .c (.int .i64 1)] 0 <|
(.lt none (.row 1 0 [true]) [.v 10, .c (.int .i64 1)] 1 <|
(.lt none .inb [.v 10, .c (.int .i64 2)] 0 <|
(.lt none (.row 1 0 [true]) [.v 10, .c (.int .i64 2)] 1 <|
(.lt none .inb [.v 10, .c (.int .i64 3)] 0 <|
(.lt none (.row 1 0 [true]) [.v 10, .c (.int .i64 3)] 1 <|
(.lt none (.bin .eql) [.v 3, .c (.int .i64 0)] 1 <|
(.ite (.v 15)
(.leaf .ret [.v 3, .v 11, .v 12, .v 13, .v 14, .c (.int .i64 0), .c (.bool true)] ())
(.call none 12 [.v 3, .v 11, .v 12, .v 13, .v 14] 1 [] <|
(.lt none (.bin .gtr) [.v 16, .c (.int .i64 0)] 1 <|
(.ite (.v 17)
(.leaf .ret [.c (.int .i64 0), .c (.int .i64 0), .c (.int .i64 0), .c (.int .i64 0), .c (.int .i64 0), .v 16, .c (.bool false)] ())
(.leaf .ret [.v 3, .v 11, .v 12, .v 13, .v 14, .c (.int .i64 0), .c (.bool true)] ()))))))))))))))))))))))))
def tm12 : Tm Unit :=
(.lt none (.bin .eql) [.v 0, .c (.int .i64 1)] 1 <|
(.call none 13 [.v 2] 1 [] <|
(.lt none .not [.v 6] 1 <|
(.lt (some (.v 7, false)) .id [.v 5] 1 <|
(.lt (some (.v 7, false)) .id [.v 8] 1 <|
(.lt (some (.v 9, true)) .id [.v 3] 1 <|
(.call (some (.v 9, true)) 13 [.v 10] 1 [] <|
(.lt (some (.v 9, true)) .not [.v 11] 1 <|
(.lt (some (.v 7, false)) .pick [.v 9, .v 12, .c (.bool false)] 1 <|
(.lt none .pick [.v 7, .c (.bool true), .v 13] 1 <|
(.ite (.v 14)
(.leaf .ret [.c (.int .i64 4)] ())
(.lt (some (.v 5, true)) .id [.v 2] 1 <|
(.lt (some (.v 5, true)) .id [.v 3] 1 <|
(.lt (some (.v 5, true)) (.bin .eql) [.v 15, .v 16] 1 <|
(.lt none .pick [.v 5, .v 17, .c (.bool false)] 1 <|
(.ite (.v 18)
(.leaf .ret [.c (.int .i64 5)] ())
(.call none 10 [.v 1, .c (.int .i64 1), .c (.int .i64 999)] 1 [] <|
(.lt none .not [.v 19] 1 <|
(.lt (some (.v 20, false)) .id [.v 5] 1 <|
(.lt (some (.v 20, false)) .id [.v 21] 1 <|
(.lt (some (.v 22, true)) .id [.v 4] 1 <|
(.call (some (.v 22, true)) 10 [.v 23, .c (.int .i64 1), .c (.int .i64 1000)] 1 [] <|
(.lt (some (.v 22, true)) .not [.v 24] 1 <|
(.lt (some (.v 20, false)) .pick [.v 22, .v 25, .c (.bool false)] 1 <|
(.lt none .pick [.v 20, .c (.bool true), .v 26] 1 <|
(.ite (.v 27)
(.leaf .ret [.c (.int .i64 6)] ())
(.leaf .ret [.c (.int .i64 0)] ())))))))))))))))))))))))))))
def tm13 : Tm Unit :=
(.call none 10 [.v 0, .c (.int .i64 0), .c (.int .i64 3)] 1 [] <|
(.leaf .ret [.v 1] ()))
def tm14 : Tm Unit :=
(.call none 8 [.v 1, .c (.int .u8 58)] 1 [] <|
(.lt none .slen [.v 1] 1 <|
(.lt none (.bin .gtr) [.v 3, .c (.int .i64 40)] 1 <|
(.lt (some (.v 4, false)) .len [.v 2] 1 <|
(.lt (some (.v 4, false)) (.bin .neq) [.v 5, .c (.int .i64 2)] 1 <|
(.lt none .pick [.v 4, .c (.bool true), .v 6] 1 <|
(.ite (.v 7)
(.leaf .ret [.c (.int .i64 0), .c (.rows 1 []), .c (.bool false)] ())
(.lt none .inb [.v 2, .c (.int .i64 0)] 0 <|
(.lt none (.row 1 0 [true]) [.v 2, .c (.int .i64 0)] 1 <|
(.call none 9 [.v 8] 1 [] <|
(.lt none .inb [.v 2, .c (.int .i64 1)] 0 <|
(.lt none (.row 1 0 [true]) [.v 2, .c (.int .i64 1)] 1 <|
(.call none 8 [.v 10, .c (.int .u8 44)] 1 [] <|
(.lt none .len [.v 11] 1 <|
(.bind 1
(.loop [.c (.int .i64 0), .c (.rows 1 [])]
(.lt none (.bin .lss) [.v 13, .v 12] 1 <|
(.ite (.v 15)
(.lt none .inb [.v 11, .v 13] 0 <|
(.lt none (.row 1 0 [true]) [.v 11, .v 13] 1 <|
(.call none 9 [.v 16] 1 [] <|
(.lt none (.mk 1 1) [.v 17] 1 <|
(.lt none (.app 1 8 true) [.v 14, .v 18] 1 <|
(.lt none (.bin .add) [.v 13, .c (.int .i64 1)] 1 <|
(.leaf .cont [.v 20, .v 19] ())))))))
(.leaf (.yield 1) [.v 14] ())))) <|
(.call none 15 [.v 0, .v 9, .v 13] 1 [] <|
(.lt none .not [.v 14] 1 <|
(.ite (.v 15)
(.leaf .ret [.c (.int .i64 0), .c (.rows 1 []), .c (.bool false)] ())
(.leaf .ret [.v 9, .v 13, .c (.bool true)] ())))))))))))))))))))
def tm15 : Tm Unit :=
(.call none 2 [.v 0] 1 [] <|
(.lt (some (.v 3, true)) .id [.v 0] 1 <|
(.call (some (.v 3, true)) 16 [.v 4, .v 1, .v 2] 1 [] <|
(.lt none .pick [.v 3, .v 5, .c (.bool false)] 1 <|
(.leaf .ret [.v 6] ())))))
def tm16 : Tm Unit :=
(.call none 10 [.v 1, .c (.int .i64 0), .c (.int .i64 999)] 1 [] <|
(.lt (some (.v 3, true)) .len [.v 2] 1 <|
(.lt (some (.v 3, true)) .id [.v 0] 1 <|
(.lt (some (.v 3, true)) (.bin .eql) [.v 4, .v 5] 1 <|
(.lt none .pick [.v 3, .v 6, .c (.bool false)] 1 <|
(.call (some (.v 7, true)) 17 [.v 2, .c (.int .i64 0), .c (.int .i64 6)] 1 [] <|
(.lt none .pick [.v 7, .v 8, .c (.bool false)] 1 <|
(.leaf .ret [.v 9] ()))))))))
def tm17 : Tm Unit :=
(.lt none .len [.v 0] 1 <|
(.bind 1
(.loop [.c (.int .i64 0)]
(.lt none (.bin .lss) [.v 4, .v 3] 1 <|
(.ite (.v 5)
(.lt none .inb [.v 0, .v 4] 0 <|
(.lt none (.row 1 0 [true]) [.v 0, .v 4] 1 <|
(.call none 10 [.v 6, .v 1, .v 2] 1 [] <|
(.lt none .not [.v 7] 1 <|
(.ite (.v 8)
(.leaf .ret [.c (.bool false)] ())
(.lt none (.bin .add) [.v 4, .c (.int .i64 1)] 1 <|
(.leaf .cont [.v 9] ())))))))
(.leaf (.yield 1) [] ())))) <|
(.leaf .ret [.c (.bool true)] ())))
def tm18 : Tm Unit :=
(.call none 2 [.v 0] 1 [] <|
(.lt none .not [.v 13] 1 <|
(.lt (some (.v 14, false)) .id [.v 0] 1 <|
(.lt (some (.v 14, false)) .id [.v 1] 1 <|
(.lt (some (.v 14, false)) .id [.v 2] 1 <|
(.call (some (.v 14, false)) 19 [.v 15, .v 16, .v 17] 1 [] <|
(.lt (some (.v 14, false)) .not [.v 18] 1 <|
(.lt none .pick [.v 14, .c (.bool true), .v 19] 1 <|
(.lt (some (.v 20, false)) .id [.v 0] 1 <|
(.call (some (.v 20, false)) 20 [.v 21, .v 3, .v 4, .v 5, .v 6, .v 7, .v 8, .v 9, .v 10, .v 11, .v 12] 1 [] <|
(.lt (some (.v 20, false)) .not [.v 22] 1 <|
(.lt none .pick [.v 20, .c (.bool true), .v 23] 1 <|
(.ite (.v 24)
(.leaf .ret [.c (.str []), .c (.bool false)] ())
(.call none 25 [.v 1, .v 2, .v 3, .v 4, .v 5, .v 6, .v 7, .v 8, .v 9, .v 10, .v 11, .v 12] 1 [] <|
(.leaf .ret [.v 25, .c (.bool true)] ())))))))))))))))
def tm19 : Tm Unit :=
(.lt none (.bin .sub) [.v 0, .c (.int .i64 1)] 1 <|
(.call none 10 [.v 1, .c (.int .i64 0), .v 3] 1 [] <|
(.lt (some (.v 4, true)) .id [.v 2] 1 <|
(.call (some (.v 4, true)) 10 [.v 5, .c (.int .i64 1), .c (.int .i64 6)] 1 [] <|
(.lt none .pick [.v 4, .v 6, .c (.bool false)] 1 <|
(.leaf .ret [.v 7] ()))))))
def tm20 : Tm Unit :=
(.call none 10 [.v 1, .c (.int .i64 0), .c (.int .i64 9999)] 1 [] <|
(.lt none .not [.v 11] 1 <|
(.lt (some (.v 12, false)) .id [.v 2] 1 <|
(.lt (some (.v 12, false)) .id [.v 1] 1 <|
(.call (some (.v 12, false)) 10 [.v 13, .c (.int .i64 0), .v 14] 1 [] <|
(.lt (some (.v 12, false)) .not [.v 15] 1 <|
(.lt none .pick [.v 12, .c (.bool true), .v 16] 1 <|
(.lt (some (.v 17, false)) .id [.v 3] 1 <|
(.call (some (.v 17, false)) 10 [.v 18, .c (.int .i64 0), .c (.int .i64 3)] 1 [] <|
(.lt (some (.v 17, false)) .not [.v 19] 1 <|
(.lt none .pick [.v 17, .c (.bool true), .v 20] 1 <|
(.ite (.v 21)
(.leaf .ret [.c (.bool false)] ())
(.lt none (.bin .eql) [.v 3, .c (.int .i64 0)] 1 <|
(.ite (.v 22)
(.lt none (.bin .eql) [.v 2, .c (.int .i64 0)] 1 <|
(.lt (some (.v 23, true)) (.eqs [0, 0, 0, 0, 0]) [.v 4, .v 5, .v 6, .v 7, .v 8, .c (.int .i64 0), .c (.int .i64 0), .c (.int .i64 0), .c (.int .i64 0), .c (.int .i64 0)] 1 <|
(.lt none .pick [.v 23, .v 24, .c (.bool false)] 1 <|
(.lt (some (.v 25, true)) .id [.v 0] 1 <|
(.call (some (.v 25, true)) 21 [.v 26] 2 [] <|
(.call (some (.v 25, true)) 22 [.v 9, .v 10, .v 27, .v 28] 1 [] <|
(.lt none .pick [.v 25, .v 29, .c (.bool false)] 1 <|
(.leaf .ret [.v 30] ()))))))))
(.call none 24 [.v 4, .v 5, .v 6, .v 7, .v 8] 1 [] <|
(.lt (some (.v 23, true)) .id [.v 0] 1 <|
(.call (some (.v 23, true)) 16 [.v 24, .v 9, .v 10] 1 [] <|
(.lt none .pick [.v 23, .v 25, .c (.bool false)] 1 <|
(.leaf .ret [.v 26] ())))))))))))))))))))
def tm21 : Tm Unit :=
(.lt none (.make 8 [(.int .i64 0)]) [.v 0] 1 <|
(.leaf .ret [.c (.int .i64 0), .v 1] ()))
def tm22 : Tm Unit :=
(.lt none (.bin .eql) [.v 0, .v 2] 1 <|
(.call (some (.v 4, true)) 23 [.v 1, .v 3] 1 [] <|
(.lt none .pick [.v 4, .v 5, .c (.bool false)] 1 <|
(.leaf .ret [.v 6] ()))))
def tm23 : Tm Unit :=
(.lt none .len [.v 0] 1 <|
(.lt none .len [.v 1] 1 <|
(.lt none (.bin .neq) [.v 2, .v 3] 1 <|
(.ite (.v 4)
(.leaf .ret [.c (.bool false)] ())
(.lt none .len [.v 0] 1 <|
(.bind 1
(.loop [.c (.int .i64 0)]
(.lt none (.bin .lss) [.v 6, .v 5] 1 <|
(.ite (.v 7)
(.lt none .inb [.v 0, .v 6] 0 <|
(.lt none (.row 1 0 [true]) [.v 0, .v 6] 1 <|
(.lt none .inb [.v 1, .v 6] 0 <|
(.lt none (.row 1 0 [true]) [.v 1, .v 6] 1 <|
(.lt none (.bin .neq) [.v 8, .v 9] 1 <|
(.ite (.v 10)
(.leaf .ret [.c (.bool false)] ())
(.lt none (.bin .add) [.v 6, .c (.int .i64 1)] 1 <|
(.leaf .cont [.v 11] ()))))))))
(.leaf (.yield 1) [] ())))) <|
(.leaf .ret [.c (.bool true)] ())))))))
def tm24 : Tm Unit :=
(.lt none (.bin .eql) [.v 0, .c (.int .i64 0)] 1 <|
(.ite (.v 5)
(.lt none (.eqs [0, 0, 0, 0, 0]) [.v 0, .v 1, .v 2, .v 3, .v 4, .c (.int .i64 0), .c (.int .i64 0), .c (.int .i64 0), .c (.int .i64 0), .c (.int .i64 0)] 1 <|
(.leaf .ret [.v 6] ()))
(.lt none (.bin .eql) [.v 0, .c (.int .i64 1)] 1 <|
(.ite (.v 6)
(.call none 12 [.v 0, .v 1, .v 2, .v 3, .v 4] 1 [] <|
(.lt none (.bin .eql) [.v 7, .c (.int .i64 0)] 1 <|
(.leaf .ret [.v 8] ())))
(.lt none (.bin .eql) [.v 0, .c (.int .i64 2)] 1 <|
(.ite (.v 7)
(.call none 12 [.v 0, .v 1, .v 2, .v 3, .v 4] 1 [] <|
(.lt none (.bin .eql) [.v 8, .c (.int .i64 0)] 1 <|
(.lt (some (.v 9, true)) .id [.v 3] 1 <|
(.lt (some (.v 9, true)) (.bin .eql) [.v 10, .c (.int .i64 0)] 1 <|
(.lt none .pick [.v 9, .v 11, .c (.bool false)] 1 <|
(.lt (some (.v 12, true)) .id [.v 4] 1 <|
(.lt (some (.v 12, true)) (.bin .eql) [.v 13, .c (.int .i64 0)] 1 <|
(.lt none .pick [.v 12, .v 14, .c (.bool false)] 1 <|
(.leaf .ret [.v 15] ())))))))))
(.leaf .ret [.c (.bool false)] ())))))))
def tm25 : Tm Unit :=
(.call none 26 [.v 0] 1 [] <|
(.lt none (.mk 1 4) [.v 1, .v 2, .v 3, .v 4] 1 <|
(.lt none .len [.v 13] 1 <|
(.bind 1
(.loop [.v 12, .c (.int .i64 0)]
(.lt none (.bin .lss) [.v 16, .v 14] 1 <|
(.ite (.v 17)
(.lt none .inb [.v 13, .v 16] 0 <|
(.lt none (.row 1 0 [true]) [.v 13, .v 16] 1 <|
(.call none 26 [.v 18] 1 [] <|
(.lt none (.bin .add) [.c (.str [32]), .v 19] 1 <|
(.lt none (.bin .add) [.v 15, .v 20] 1 <|
(.lt none (.bin .add) [.v 16, .c (.int .i64 1)] 1 <|
(.leaf .cont [.v 21, .v 22] ())))))))
(.leaf (.yield 1) [.v 15] ())))) <|
(.lt none (.bin .add) [.v 15, .c (.str [124])] 1 <|
(.call none 27 [.v 5, .v 6, .v 7, .v 8, .v 9] 1 [] <|
(.lt none (.bin .add) [.v 16, .v 17] 1 <|
(.lt none (.bin .add) [.v 18, .c (.str [124])] 1 <|
(.call none 28 [.v 10, .v 11] 1 [] <|
(.lt none (.bin .add) [.v 19, .v 20] 1 <|
(.leaf .ret [.v 21] ())))))))))))
def tm26 : Tm Unit :=
(.lt none (.bin .lss) [.v 0, .c (.int .i64 10)] 1 <|
(.ite (.v 1)
(.lt none (.bin .add) [.c (.int .i64 48), .v 0] 1 <|
(.lt none (.conv .u8) [.v 2] 1 <|
(.lt none (.mk 1 1) [.v 3] 1 <|
(.lt none .bstr [.v 4] 1 <|
(.leaf .ret [.v 5] ())))))
(.lt none (.bin .quo) [.v 0, .c (.int .i64 10)] 1 <|
(.call none 26 [.v 2] 1 [] <|
(.lt none (.bin .rem) [.v 0, .c (.int .i64 10)] 1 <|
(.lt none (.bin .add) [.c (.int .i64 48), .v 4] 1 <|
(.lt none (.conv .u8) [.v 5] 1 <|
(.lt none (.mk 1 1) [.v 6] 1 <|
(.lt none .bstr [.v 7] 1 <|
(.lt none (.bin .add) [.v 3, .v 8] 1 <|
(.leaf .ret [.v 9] ())))))))))))
def tm27 : Tm Unit :=
(.lt none (.bin .eql) [.v 0, .c (.int .i64 1)] 1 <|
(.ite (.v 5)
(.call none 26 [.v 1] 1 [] <|
(.lt none (.bin .add) [.c (.str [109, 111, 118, 101, 32]), .v 6] 1 <|
(.lt none (.bin .add) [.v 7, .c (.str [32])] 1 <|
(.call none 26 [.v 2] 1 [] <|
(.lt none (.bin .add) [.v 8, .v 9] 1 <|
(.lt none (.bin .add) [.v 10, .c (.str [32])] 1 <|
(.call none 26 [.v 3] 1 [] <|
(.lt none (.bin .add) [.v 11, .v 12] 1 <|
(.lt none (.bin .add) [.v 13, .c (.str [32])] 1 <|
(.call none 26 [.v 4] 1 [] <|
(.lt none (.bin .add) [.v 14, .v 15] 1 <|
(.leaf .ret [.v 16] ()))))))))))))
(.lt none (.bin .eql) [.v 0, .c (.int .i64 2)] 1 <|
(.ite (.v 6)
(.call none 26 [.v 1] 1 [] <|
(.lt none (.bin .add) [.c (.str [114, 101, 97, 100, 32]), .v 7] 1 <|
(.lt none (.bin .add) [.v 8, .c (.str [32])] 1 <|
(.call none 26 [.v 2] 1 [] <|
(.lt none (.bin .add) [.v 9, .v 10] 1 <|
(.leaf .ret [.v 11] ()))))))
(.leaf .ret [.c (.str [45])] ())))))
def tm28 : Tm Unit :=
(.call none 26 [.v 0] 1 [] <|
(.lt none (.bin .add) [.v 2, .c (.str [58])] 1 <|
(.call none 29 [.v 1] 1 [] <|
(.lt none (.bin .add) [.v 3, .v 4] 1 <|
(.leaf .ret [.v 5] ())))))
def tm29 : Tm Unit :=
(.lt none .len [.v 0] 1 <|
(.bind 1
(.loop [.c (.str []), .c (.int .i64 0)]
(.lt none (.bin .lss) [.v 3, .v 1] 1 <|
(.ite (.v 4)
(.lt none .inb [.v 0, .v 3] 0 <|
(.lt none (.row 1 0 [true]) [.v 0, .v 3] 1 <|
(.bind 0
(.lt none (.bin .gtr) [.v 3, .c (.int .i64 0)] 1 <|
(.ite (.v 6)
(.lt none (.bin .add) [.v 2, .c (.str [44])] 1 <|
(.leaf (.yield 0) [.v 7] ()))
(.leaf (.yield 0) [.v 2] ()))) <|
(.call none 26 [.v 5] 1 [] <|
(.lt none (.bin .add) [.v 6, .v 7] 1 <|
(.lt none (.bin .add) [.v 3, .c (.int .i64 1)] 1 <|
(.leaf .cont [.v 8, .v 9] ())))))))
(.leaf (.yield 1) [.v 2] ())))) <|
(.leaf .ret [.v 2] ())))
def tm30 : Tm Unit :=
(.call none 31 [.v 0, .v 1] 2 [] <|
(.bind 1
(.loop [.v 15]
(.lt none .inb [.v 16, .v 2] 0 <|
(.lt none (.row 1 0 [false]) [.v 16, .v 2] 1 <|
(.lt none .len [.v 17] 1 <|
(.lt none (.bin .lss) [.v 18, .v 3] 1 <|
(.ite (.v 19)
(.lt none .inb [.v 16, .v 2] 0 <|
(.lt none (.row 1 0 [false]) [.v 16, .v 2] 1 <|
(.call none 21 [.v 0] 2 [] <|
(.lt none (.mk 10 1) [.c (.int .i64 0), .c (.int .i64 0), .c (.int .i64 0), .c (.int .i64 0), .c (.int .i64 0), .c (.int .i64 0), .c (.int .i64 0), .c (.int .i64 0), .v 21, .v 22] 1 <|
(.lt none (.set 1 0 1) [.v 16, .v 2, .c .hole] 1 <|
(.lt none (.app 10 96 false) [.v 20, .v 23] 1 <|
(.lt none .inb [.v 24, .v 2] 0 <|
(.lt none (.set 1 0 1) [.v 24, .v 2, .v 25] 1 <|
(.leaf .cont [.v 26] ())))))))))
(.leaf (.yield 1) [.v 16] ()))))))) <|
(.lt none .inb [.v 16, .v 2] 0 <|
(.lt none (.row 1 0 [false]) [.v 16, .v 2] 1 <|
(.lt none (.bin .sub) [.v 3, .c (.int .i64 1)] 1 <|
(.call none 32 [.v 4, .v 5, .v 6, .v 7, .v 8, .v 9, .v 10, .v 11, .v 12, .v 13] 10 [] <|
(.lt none .inb [.v 17, .v 18] 0 <|
(.lt none (.set 10 0 10) [.v 17, .v 18, .v 19, .v 20, .v 21, .v 22, .v 23, .v 24, .v 25, .v 26, .v 27, .v 28] 1 <|
(.lt none (.set 1 0 1) [.v 16, .v 2, .v 29] 1 <|
(.leaf .ret [.v 14, .v 30] ()))))))))))
def tm31 : Tm Unit :=
(.call none 4 [.v 0] 2 [] <|
(.lt none .len [.v 1] 1 <|
(.bind 1
(.loop [.c (.int .i64 0), .v 3]
(.lt none (.bin .lss) [.v 5, .v 4] 1 <|
(.ite (.v 7)
(.lt none .inb [.v 1, .v 5] 0 <|
(.lt none (.row 1 0 [false]) [.v 1, .v 5] 1 <|
(.lt none .len [.v 8] 1 <|
(.bind 3
(.loop [.c (.int .i64 0), .v 6]
(.lt none (.bin .lss) [.v 10, .v 9] 1 <|
(.ite (.v 12)
(.lt none .inb [.v 8, .v 10] 0 <|
(.lt none (.row 10 0 [true, true, true, true, true, true, true, true, true, false]) [.v 8, .v 10] 10 <|
(.lt none .inb [.v 11, .v 5] 0 <|
(.lt none (.row 1 0 [false]) [.v 11, .v 5] 1 <|
(.call none 32 [.v 13, .v 14, .v 15, .v 16, .v 17, .v 18, .v 19, .v 20, .v 21, .v 22] 10 [] <|
(.lt none (.mk 10 1) [.v 24, .v 25, .v 26, .v 27, .v 28, .v 29, .v 30, .v 31, .v 32, .v 33] 1 <|
(.lt none (.set 1 0 1) [.v 11, .v 5, .c .hole] 1 <|
(.lt none (.app 10 96 false) [.v 23, .v 34] 1 <|
(.lt none .inb [.v 35, .v 5] 0 <|
(.lt none (.set 1 0 1) [.v 35, .v 5, .v 36] 1 <|
(.lt none (.bin .add) [.v 10, .c (.int .i64 1)] 1 <|
(.leaf .cont [.v 38, .v 37] ()))))))))))))
(.leaf (.yield 3) [.v 11] ())))) <|
(.lt none (.bin .add) [.v 5, .c (.int .i64 1)] 1 <|
(.leaf .cont [.v 11, .v 10] ()))))))
(.leaf (.yield 1) [.v 6] ())))) <|
(.leaf .ret [.v 2, .v 5] ()))))
def tm32 : Tm Unit :=
(.call none 33 [.v 8, .v 9] 2 [] <|
(.leaf .ret [.v 0, .v 1, .v 2, .v 3, .v 4, .v 5, .v 6, .v 7, .v 10, .v 11] ()))
def tm33 : Tm Unit :=
(.call none 34 [.v 1] 1 [] <|
(.leaf .ret [.v 0, .v 2] ()))
def tm34 : Tm Unit :=
(.lt none (.mk 1 0) [] 1 <|
(.lt none (.app 1 8 true) [.v 1, .v 0] 1 <|
(.leaf .ret [.v 2] ())))
def tm35 : Tm Unit :=
(.call none 36 [.v 0] 1 [] <|
(.lt none .not [.v 2] 1 <|
(.lt (some (.v 3, false)) .id [.v 1] 1 <|
(.lt (some (.v 3, false)) .slen [.v 4] 1 <|
(.lt (some (.v 3, false)) (.bin .gtr) [.v 5, .c (.int .i64 20000)] 1 <|
(.lt none .pick [.v 3, .c (.bool true), .v 6] 1 <|
(.ite (.v 7)
(.leaf .ret [.c (.int .i64 0), .c (.rows 1 []), .c (.int .i64 0), .c (.bool false)] ())
(.call none 37 [.v 0] 2 [] <|
(.call none 38 [.v 1] 1 [] <|
(.lt none .len [.v 10] 1 <|
(.bind 1
(.loop [.c (.int .i64 0), .c (.int .i64 0), .v 8, .v 9]
(.lt none (.bin .lss) [.v 13, .v 11] 1 <|
(.ite (.v 16)
(.lt none .inb [.v 10, .v 13] 0 <|
(.lt none (.row 1 0 [true]) [.v 10, .v 13] 1 <|
(.call none 42 [.v 0, .v 17] 13 [] <|
(.lt none .not [.v 30] 1 <|
(.ite (.v 31)
(.leaf (.yield 1) [.v 12, .v 14, .v 15] ())
(.call none 74 [.v 18, .v 19, .v 20, .v 21, .v 22, .v 23, .v 24, .v 25, .v 26, .v 27, .v 28, .v 29, .v 14, .v 15] 2 [] <|
(.lt none (.dep 99) [.v 33] 0 <|
(.lt none .slen [.v 17] 1 <|
(.lt none (.bin .add) [.v 34, .c (.int .i64 4)] 1 <|
(.lt none (.bin .add) [.v 12, .v 35] 1 <|
(.lt none (.bin .add) [.v 13, .c (.int .i64 1)] 1 <|
(.leaf .cont [.v 36, .v 37, .v 32, .v 33] ()))))))))))))
(.leaf (.yield 1) [.v 12, .v 14, .v 15] ())))) <|
(.leaf .ret [.v 13, .v 14, .v 12, .c (.bool true)] ()))))))))))))
def tm36 : Tm Unit :=
(.lt none (.bin .eql) [.v 0, .c (.int .i64 3)] 1 <|
(.lt (some (.v 1, false)) .id [.v 0] 1 <|
(.lt (some (.v 1, false)) (.bin .eql) [.v 2, .c (.int .i64 5)] 1 <|
(.lt none .pick [.v 1, .c (.bool true), .v 3] 1 <|
(.leaf .ret [.v 4] ())))))
def tm37 : Tm Unit :=
(.lt none (.make 24 [(.rows 10 [])]) [.v 0] 1 <|
(.leaf .ret [.v 0, .v 1] ()))
def tm38 : Tm Unit :=
(.lt none (.mk 1 0) [] 1 <|
(.bind 1
(.loop [.v 0, .v 1]
(.lt none (.bin .neq) [.v 2, .c (.str [])] 1 <|
(.ite (.v 4)
(.lt none .sidx [.v 2, .c (.int .i64 0)] 1 <|
(.lt none (.conv .i64) [.v 5] 1 <|
(.lt none (.bin .gtr) [.v 6, .c (.int .i64 200)] 1 <|
(.lt (some (.v 7, false)) .id [.v 2] 1 <|
(.lt (some (.v 7, false)) .slen [.v 8] 1 <|
(.lt (some (.v 7, false)) .id [.v 6] 1 <|
(.lt (some (.v 7, false)) (.bin .add) [.v 10, .c (.int .i64 4)] 1 <|
(.lt (some (.v 7, false)) (.bin .lss) [.v 9, .v 11] 1 <|
(.lt none .pick [.v 7, .c (.bool true), .v 12] 1 <|
(.lt (some (.v 13, false)) .id [.v 2] 1 <|
(.lt (some (.v 13, false)) .id [.v 6] 1 <|
(.lt (some (.v 13, false)) (.bin .add) [.v 15, .c (.int .i64 1)] 1 <|
(.lt (some (.v 13, false)) .ssub [.v 14, .c (.int .i64 1), .v 16] 1 <|
(.call (some (.v 13, false)) 39 [.v 17] 1 [] <|
(.lt (some (.v 13, false)) .id [.v 2] 1 <|
(.lt (some (.v 13, false)) .id [.v 6] 1 <|
(.lt (some (.v 13, false)) (.bin .add) [.v 20, .c (.int .i64 4)] 1 <|
(.lt (some (.v 13, false)) .ssub [.v 19, .c (.int .i64 0), .v 21] 1 <|
(.lt (some (.v 13, false)) (.bin .neq) [.v 18, .v 22] 1 <|
(.lt none .pick [.v 13, .c (.bool true), .v 23] 1 <|
(.ite (.v 24)
(.leaf (.yield 1) [.v 3] ())
(.lt none (.bin .add) [.v 6, .c (.int .i64 1)] 1 <|
(.lt none .ssub [.v 2, .c (.int .i64 1), .v 25] 1 <|
(.lt none (.mk 1 1) [.v 26] 1 <|
(.lt none (.app 1 16 true) [.v 3, .v 27] 1 <|
(.lt none (.bin .add) [.v 6, .c (.int .i64 4)] 1 <|
(.lt none .slen [.v 2] 1 <|
(.lt none .ssub [.v 2, .v 29, .v 30] 1 <|
(.leaf .cont [.v 31, .v 28] ())))))))))))))))))))))))))))))
(.leaf (.yield 1) [.v 3] ())))) <|
(.leaf .ret [.v 2] ())))
def tm39 : Tm Unit :=
(.lt none .slen [.v 0] 1 <|
(.lt none (.conv .u8) [.v 1] 1 <|
(.lt none (.mk 1 1) [.v 2] 1 <|
(.lt none .bstr [.v 3] 1 <|
(.lt none (.bin .add) [.v 4, .v 0] 1 <|
(.call none 40 [.v 5, .c (.int .i64 7), .c (.int .i64 33)] 1 [] <|
(.call none 41 [.v 6] 1 [] <|
(.lt none (.bin .add) [.v 5, .v 7] 1 <|
(.lt none (.bin .add) [.v 8, .c (.str [1])] 1 <|
(.leaf .ret [.v 9] ()))))))))))
def tm40 : Tm Unit :=
(.lt none .slen [.v 0] 1 <|
(.bind 1
(.loop [.v 1, .c (.int .i64 0)]
(.lt none (.bin .lss) [.v 5, .v 3] 1 <|
(.ite (.v 6)
(.lt none (.bin .mul) [.v 4, .v 2] 1 <|
(.lt none .sidx [.v 0, .v 5] 1 <|
(.lt none (.conv .i64) [.v 8] 1 <|
(.lt none (.bin .add) [.v 7, .v 9] 1 <|
(.lt none (.bin .rem) [.v 10, .c (.int .i64 65521)] 1 <|
(.lt none (.bin .add) [.v 5, .c (.int .i64 1)] 1 <|
(.leaf .cont [.v 11, .v 12] ())))))))
(.leaf (.yield 1) [.v 4] ())))) <|
(.leaf .ret [.v 4] ())))
def tm41 : Tm Unit :=
(.lt none (.bin .quo) [.v 0, .c (.int .i64 256)] 1 <|
(.lt none (.conv .u8) [.v 1] 1 <|
(.lt none (.bin .rem) [.v 0, .c (.int .i64 256)] 1 <|
(.lt none (.conv .u8) [.v 3] 1 <|
(.lt none (.mk 1 2) [.v 2, .v 4] 1 <|
(.lt none .bstr [.v 5] 1 <|
(.leaf .ret [.v 6] ())))))))
def tm42 : Tm Unit :=
(.call none 43 [.v 1, .c (.str [124])] 1 [] <|
(.lt none .len [.v 2] 1 <|
(.lt none (.bin .neq) [.v 3, .c (.int .i64 3)] 1 <|
(.ite (.v 4)
(.leaf .ret [.c (.int .i64 0), .c (.int .i64 0), .c (.int .i64 0), .c (.int .i64 0), .c (.int .i64 0), .c (.int .i64 0), .c (.int .i64 0), .c (.int .i64 0), .c (.int .i64 0), .c (.int .i64 0), .c (.int .i64 0), .c (.rows 1 []), .c (.bool false)] ())
(.lt none .inb [.v 2, .c (.int .i64 0)] 0 <|
(.lt none (.row 1 0 [true]) [.v 2, .c (.int .i64 0)] 1 <|
(.call none 43 [.v 5, .c (.str [32])] 1 [] <|
(.call none 55 [.v 6, .c (.int .i64 4)] 2 [] <|
(.lt none (.dep 99) [.v 7] 0 <|
(.lt none .inb [.v 2, .c (.int .i64 1)] 0 <|
(.lt none (.row 1 0 [true]) [.v 2, .c (.int .i64 1)] 1 <|
(.call none 57 [.v 9] 7 [] <|
(.lt none .inb [.v 2, .c (.int .i64 2)] 0 <|
(.lt none (.row 1 0 [true]) [.v 2, .c (.int .i64 2)] 1 <|
(.call none 62 [.v 0, .v 17] 3 [] <|
(.lt none .not [.v 8] 1 <|
(.lt (some (.v 21, false)) .id [.v 16] 1 <|
(.lt (some (.v 21, false)) .not [.v 22] 1 <|
(.lt none .pick [.v 21, .c (.bool true), .v 23] 1 <|
(.lt (some (.v 24, false)) .id [.v 20] 1 <|
(.lt (some (.v 24, false)) .not [.v 25] 1 <|
(.lt none .pick [.v 24, .c (.bool true), .v 26] 1 <|
(.lt (some (.v 27, false)) .len [.v 7] 1 <|
(.lt (some (.v 27, false)) (.bin .neq) [.v 28, .c (.int .i64 5)] 1 <|
(.lt none .pick [.v 27, .c (.bool true), .v 29] 1 <|
(.ite (.v 30)
(.leaf .ret [.c (.int .i64 0), .c (.int .i64 0), .c (.int .i64 0), .c (.int .i64 0), .c (.int .i64 0), .c (.int .i64 0), .c (.int .i64 0), .c (.int .i64 0), .c (.int .i64 0), .c (.int .i64 0), .c (.int .i64 0), .c (.rows 1 []), .c (.bool false)] ())
(.lt none .inb [.v 7, .c (.int .i64 2)] 0 <|
(.lt none (.row 1 0 [true]) [.v 7, .c (.int .i64 2)] 1 <|
(.lt none .inb [.v 7, .c (.int .i64 3)] 0 <|
(.lt none (.row 1 0 [true]) [.v 7, .c (.int .i64 3)] 1 <|
(.lt none .inb [.v 7, .c (.int .i64 4)] 0 <|
(.lt none (.row 1 0 [true]) [.v 7, .c (.int .i64 4)] 1 <|
(.lt none .inb [.v 7, .c (.int .i64 0)] 0 <|
(.lt none (.row 1 0 [true]) [.v 7, .c (.int .i64 0)] 1 <|
(.lt none .inb [.v 7, .c (.int .i64 1)] 0 <|
(.lt none (.row 1 0 [true]) [.v 7, .c (.int .i64 1)] 1 <|
(.call none 69 [.v 0, .v 34, .v 35] 1 [] <|
(.lt none .not [.v 36] 1 <|
(.lt (some (.v 37, false)) .id [.v 0] 1 <|
(.call (some (.v 37, false)) 70 [.v 38, .v 31, .v 32, .v 33, .v 10, .v 11, .v 12, .v 13, .v 14, .v 18, .v 19] 1 [] <|
(.lt (some (.v 37, false)) .not [.v 39] 1 <|
(.lt none .pick [.v 37, .c (.bool true), .v 40] 1 <|
(.ite (.v 41)
(.leaf .ret [.c (.int .i64 0), .c (.int .i64 0), .c (.int .i64 0), .c (.int .i64 0), .c (.int .i64 0), .c (.int .i64 0), .c (.int .i64 0), .c (.int .i64 0), .c (.int .i64 0), .c (.int .i64 0), .c (.int .i64 0), .c (.rows 1 []), .c (.bool false)] ())
(.lt none .inb [.v 7, .c (.int .i64 0)] 0 <|
(.lt none (.row 1 0 [true]) [.v 7, .c (.int .i64 0)] 1 <|
(.lt none .inb [.v 7, .c (.int .i64 1)] 0 <|
(.lt none (.row 1 0 [true]) [.v 7, .c (.int .i64 1)] 1 <|
(.leaf .ret [.v 42, .v 43, .v 31, .v 32, .v 33, .v 10, .v 11, .v 12, .v 13, .v 14, .v 18, .v 19, .c (.bool true)] ()))))))))))))))))))))))))))))))))))))))))))))))))
def tm43 : Tm Unit :=
(.call none 44 [.v 0, .v 1, .c (.int .i64 0), .c (.int .i64 (-1))] 1 [] <|
(.leaf .ret [.v 2] ()))
def tm44 : Tm Unit :=
(.lt none (.bin .eql) [.v 3, .c (.int .i64 0)] 1 <|
(.ite (.v 4)
(.leaf .ret [.c (.rows 1 [])] ())
(.lt none (.bin .eql) [.v 1, .c (.str [])] 1 <|
(.ite (.v 5)
(.call none 45 [.v 0, .v 3] 1 [] <|
(.leaf .ret [.v 6] ()))
(.bind 0
(.lt none (.bin .lss) [.v 3, .c (.int .i64 0)] 1 <|
(.ite (.v 6)
(.call none 49 [.v 0, .v 1] 1 [] <|
(.lt none (.bin .add) [.v 7, .c (.int .i64 1)] 1 <|
(.leaf (.yield 0) [.v 8] ())))
(.leaf (.yield 0) [.v 3] ()))) <|
(.lt none .slen [.v 0] 1 <|
(.lt none (.bin .add) [.v 7, .c (.int .i64 1)] 1 <|
(.lt none .min [.v 6, .v 8] 1 <|
(.lt none (.make 16 [(.str [])]) [.v 9] 1 <|
(.lt none (.bin .sub) [.v 9, .c (.int .i64 1)] 1 <|
(.bind 1
(.loop [.v 0, .v 10, .c (.int .i64 0)]
(.lt none (.bin .lss) [.v 14, .v 11] 1 <|
(.ite (.v 15)
(.call none 51 [.v 12, .v 1] 1 [] <|
(.lt none (.bin .lss) [.v 16, .c (.int .i64 0)] 1 <|
(.ite (.v 17)
(.leaf (.yield 1) [.v 12, .v 13, .v 14] ())
(.lt none (.bin .add) [.v 16, .v 2] 1 <|
(.lt none .ssub [.v 12, .c (.int .i64 0), .v 18] 1 <|
(.lt none .inb [.v 13, .v 14] 0 <|
(.lt none (.set 1 0 1) [.v 13, .v 14, .v 19] 1 <|
(.lt none .slen [.v 1] 1 <|
(.lt none (.bin .add) [.v 16, .v 21] 1 <|
(.lt none .slen [.v 12] 1 <|
(.lt none .ssub [.v 12, .v 22, .v 23] 1 <|
(.lt none (.bin .add) [.v 14, .c (.int .i64 1)] 1 <|
(.leaf .cont [.v 24, .v 20, .v 25] ())))))))))))))
(.leaf (.yield 1) [.v 12, .v 13, .v 14] ())))) <|
(.lt none .inb [.v 13, .v 14] 0 <|
(.lt none (.set 1 0 1) [.v 13, .v 14, .v 12] 1 <|
(.lt none (.bin .add) [.v 14, .c (.int .i64 1)] 1 <|
(.lt none (.sub 1 false) [.v 15, .c (.int .i64 0), .v 16] 1 <|
(.leaf .ret [.v 17] ()))))))))))))))))
def tm45 : Tm Unit :=
(.call none 46 [.v 0] 1 [] <|
(.bind 0
(.lt none (.bin .lss) [.v 1, .c (.int .i64 0)] 1 <|
(.lt (some (.v 3, false)) .id [.v 1] 1 <|
(.lt (some (.v 3, false)) .id [.v 2] 1 <|
(.lt (some (.v 3, false)) (.bin .gtr) [.v 4, .v 5] 1 <|
(.lt none .pick [.v 3, .c (.bool true), .v 6] 1 <|
(.ite (.v 7)
(.leaf (.yield 0) [.v 2] ())
(.leaf (.yield 0) [.v 1] ()))))))) <|
(.lt none (.make 16 [(.str [])]) [.v 3] 1 <|
(.bind 1
(.loop [.v 0, .v 4, .c (.int .i64 0)]
(.lt none (.bin .sub) [.v 3, .c (.int .i64 1)] 1 <|
(.lt none (.bin .lss) [.v 7, .v 8] 1 <|
(.ite (.v 9)
(.call none 47 [.v 5] 2 [] <|
(.lt none .ssub [.v 5, .c (.int .i64 0), .v 11] 1 <|
(.lt none .inb [.v 6, .v 7] 0 <|
(.lt none (.set 1 0 1) [.v 6, .v 7, .v 12] 1 <|
(.lt none .slen [.v 5] 1 <|
(.lt none .ssub [.v 5, .v 11, .v 14] 1 <|
(.lt none (.bin .add) [.v 7, .c (.int .i64 1)] 1 <|
(.leaf .cont [.v 15, .v 13, .v 16] ()))))))))
(.leaf (.yield 1) [.v 5, .v 6] ()))))) <|
(.bind 0
(.lt none (.bin .gtr) [.v 3, .c (.int .i64 0)] 1 <|
(.ite (.v 7)
(.lt none (.bin .sub) [.v 3, .c (.int .i64 1)] 1 <|
(.lt none .inb [.v 6, .v 8] 0 <|
(.lt none (.set 1 0 1) [.v 6, .v 8, .v 5] 1 <|
(.leaf (.yield 0) [.v 9] ()))))
(.leaf (.yield 0) [.v 6] ()))) <|
(.leaf .ret [.v 7] ()))))))
def tm46 : Tm Unit :=
  .stuck
def tm47 : Tm Unit :=
(.lt none (.bin .neq) [.v 0, .c (.str [])] 1 <|
(.lt (some (.v 1, true)) .id [.v 0] 1 <|
(.lt (some (.v 1, true)) .sidx [.v 2, .c (.int .i64 0)] 1 <|
(.lt (some (.v 1, true)) (.bin .lss) [.v 3, .c (.int .u8 128)] 1 <|
(.lt none .pick [.v 1, .v 4, .c (.bool false)] 1 <|
(.ite (.v 5)
(.lt none .sidx [.v 0, .c (.int .i64 0)] 1 <|
(.lt none (.conv .i32) [.v 6] 1 <|
(.leaf .ret [.v 7, .c (.int .i64 1)] ())))
(.call none 48 [.v 0] 2 [] <|
(.leaf .ret [.v 6, .v 7] ()))))))))
def tm48 : Tm Unit :=
(.lt none .slen [.v 0] 1 <|
(.lt none (.bin .lss) [.v 1, .c (.int .i64 1)] 1 <|
(.ite (.v 2)
(.leaf .ret [.c (.int .i32 65533), .c (.int .i64 0)] ())
(.lt none .sidx [.v 0, .c (.int .i64 0)] 1 <|
   .stuck))))
def tm49 : Tm Unit :=
(.lt none .slen [.v 1] 1 <|
(.lt none (.bin .eql) [.v 2, .c (.int .i64 0)] 1 <|
(.ite (.v 3)
(.call none 46 [.v 0] 1 [] <|
(.lt none (.bin .add) [.v 4, .c (.int .i64 1)] 1 <|
(.leaf .ret [.v 5] ())))
(.lt none .slen [.v 1] 1 <|
(.lt none (.bin .eql) [.v 4, .c (.int .i64 1)] 1 <|
(.ite (.v 5)
(.lt none .sidx [.v 1, .c (.int .i64 0)] 1 <|
(.call none 50 [.v 0, .v 6] 1 [] <|
(.leaf .ret [.v 7] ())))
(.loop [.v 0, .c (.int .i64 0)]
(.call none 51 [.v 6, .v 1] 1 [] <|
(.lt none (.bin .eql) [.v 8, .c (.int .i64 (-1))] 1 <|
(.ite (.v 9)
(.leaf .ret [.v 7] ())
(.lt none (.bin .add) [.v 7, .c (.int .i64 1)] 1 <|
(.lt none .slen [.v 1] 1 <|
(.lt none (.bin .add) [.v 8, .v 11] 1 <|
(.lt none .slen [.v 6] 1 <|
(.lt none .ssub [.v 6, .v 12, .v 13] 1 <|
(.leaf .cont [.v 14, .v 10] ()))))))))))))))))
def tm50 : Tm Unit := .stuck
def tm51 : Tm Unit :=
(.call none 52 [.v 0, .v 1] 1 [] <|
(.leaf .ret [.v 2] ()))
def tm52 : Tm Unit :=
(.lt none .slen [.v 1] 1 <|
(.lt none (.bin .eql) [.v 2, .c (.int .i64 0)] 1 <|
(.lt (some (.v 3, false)) .id [.v 1] 1 <|
(.lt (some (.v 3, false)) .id [.v 0] 1 <|
(.lt (some (.v 3, false)) (.bin .eql) [.v 4, .v 5] 1 <|
(.lt none .pick [.v 3, .c (.bool true), .v 6] 1 <|
(.ite (.v 7)
(.leaf .ret [.c (.int .i64 0)] ())
(.lt none (.bin .eql) [.v 2, .c (.int .i64 1)] 1 <|
(.ite (.v 8)
(.lt none .sidx [.v 1, .c (.int .i64 0)] 1 <|
(.call none 53 [.v 0, .v 9] 1 [] <|
(.leaf .ret [.v 10] ())))
(.lt none .slen [.v 0] 1 <|
(.lt none (.bin .geq) [.v 2, .v 9] 1 <|
(.ite (.v 10)
(.leaf .ret [.c (.int .i64 (-1))] ())
     .stuck))))))))))))
def tm53 : Tm Unit :=
(.call none 54 [.v 0, .v 1] 1 [] <|
(.leaf .ret [.v 2] ()))
def tm54 : Tm Unit := .stuck
def tm55 : Tm Unit :=
(.lt none (.mk 1 0) [] 1 <|
(.lt none .len [.v 0] 1 <|
(.bind 1
(.loop [.v 2, .c (.int .i64 0)]
(.lt none (.bin .lss) [.v 5, .v 3] 1 <|
(.ite (.v 6)
(.lt none .inb [.v 0, .v 5] 0 <|
(.lt none (.row 1 0 [true]) [.v 0, .v 5] 1 <|
(.call none 56 [.v 7, .v 1] 1 [] <|
(.lt none (.bin .lss) [.v 8, .c (.int .i64 0)] 1 <|
(.ite (.v 9)
(.leaf .ret [.c (.rows 1 []), .c (.bool false)] ())
(.lt none (.mk 1 1) [.v 8] 1 <|
(.lt none (.app 1 8 true) [.v 4, .v 10] 1 <|
(.lt none (.bin .add) [.v 5, .c (.int .i64 1)] 1 <|
(.leaf .cont [.v 11, .v 12] ())))))))))
(.leaf (.yield 1) [.v 4] ())))) <|
(.leaf .ret [.v 4, .c (.bool true)] ()))))
def tm56 : Tm Unit :=
(.lt none .slen [.v 0] 1 <|
(.bind 1
(.loop [.c (.int .i64 0), .c (.int .i64 0)]
(.lt none (.bin .lss) [.v 4, .v 2] 1 <|
(.ite (.v 5)
(.lt none .sidx [.v 0, .v 4] 1 <|
(.lt none (.bin .lss) [.v 6, .c (.int .u8 48)] 1 <|
(.lt (some (.v 7, false)) .id [.v 0] 1 <|
(.lt (some (.v 7, false)) .id [.v 4] 1 <|
(.lt (some (.v 7, false)) .sidx [.v 8, .v 9] 1 <|
(.lt (some (.v 7, false)) (.bin .gtr) [.v 10, .c (.int .u8 57)] 1 <|
(.lt none .pick [.v 7, .c (.bool true), .v 11] 1 <|
(.lt (some (.v 12, false)) .id [.v 4] 1 <|
(.lt (some (.v 12, false)) .id [.v 1] 1 <|
(.lt (some (.v 12, false)) (.bin .geq) [.v 13, .v 14] 1 <|
(.lt none .pick [.v 12, .c (.bool true), .v 15] 1 <|
(.ite (.v 16)
(.leaf .ret [.c (.int .i64 (-1))] ())
(.lt none (.bin .mul) [.c (.int .i64 10), .v 3] 1 <|
(.lt none .sidx [.v 0, .v 4] 1 <|
(.lt none (.bin .sub) [.v 18, .c (.int .u8 48)] 1 <|
(.lt none (.conv .i64) [.v 19] 1 <|
(.lt none (.bin .add) [.v 17, .v 20] 1 <|
(.lt none (.bin .add) [.v 4, .c (.int .i64 1)] 1 <|
(.leaf .cont [.v 21, .v 22] ())))))))))))))))))))
(.leaf (.yield 1) [.v 3] ())))) <|
(.lt none (.bin .eql) [.v 0, .c (.str [])] 1 <|
(.lt (some (.v 4, false)) .id [.v 0] 1 <|
(.lt (some (.v 4, false)) .sidx [.v 5, .c (.int .i64 0)] 1 <|
(.lt (some (.v 4, false)) (.bin .eql) [.v 6, .c (.int .u8 48)] 1 <|
(.lt (some (.v 4, false)) .id [.v 7] 1 <|
(.lt (some (.v 8, true)) .id [.v 0] 1 <|
(.lt (some (.v 8, true)) .slen [.v 9] 1 <|
(.lt (some (.v 8, true)) (.bin .gtr) [.v 10, .c (.int .i64 1)] 1 <|
(.lt (some (.v 4, false)) .pick [.v 8, .v 11, .c (.bool false)] 1 <|
(.lt none .pick [.v 4, .c (.bool true), .v 12] 1 <|
(.ite (.v 13)
(.leaf .ret [.c (.int .i64 (-1))] ())
(.leaf .ret [.v 3] ()))))))))))))))
def tm57 : Tm Unit :=
(.call none 43 [.v 0, .c (.str [32])] 1 [] <|
(.lt none (.mk 1 3) [.c (.str [45]), .c (.str [109, 111, 118, 101]), .c (.str [114, 101, 97, 100])] 1 <|
(.lt none .inb [.v 1, .c (.int .i64 0)] 0 <|
(.lt none (.row 1 0 [true]) [.v 1, .c (.int .i64 0)] 1 <|
(.call none 58 [.v 2, .v 3] 1 [] <|
(.lt none (.bin .lss) [.v 4, .c (.int .i64 0)] 1 <|
(.ite (.v 5)
(.leaf .ret [.c (.int .i64 0), .c (.int .i64 0), .c (.int .i64 0), .c (.int .i64 0), .c (.int .i64 0), .c (.int .i64 1), .c (.bool false)] ())
(.lt none .len [.v 1] 1 <|
(.lt none (.mk 1 3) [.c (.int .i64 1), .c (.int .i64 5), .c (.int .i64 3)] 1 <|
(.lt none .inb [.v 7, .v 4] 0 <|
(.lt none (.row 1 0 [true]) [.v 7, .v 4] 1 <|
(.lt none (.bin .neq) [.v 6, .v 8] 1 <|
(.ite (.v 9)
(.leaf .ret [.c (.int .i64 0), .c (.int .i64 0), .c (.int .i64 0), .c (.int .i64 0), .c (.int .i64 0), .c (.int .i64 2), .c (.bool false)] ())
(.lt none .len [.v 1] 1 <|
(.lt none (.sub 1 true) [.v 1, .c (.int .i64 1), .v 10] 1 <|
(.call none 55 [.v 11, .c (.int .i64 4)] 2 [] <|
(.lt none (.dep 99) [.v 12] 0 <|
(.lt none .not [.v 13] 1 <|
(.ite (.v 14)
(.leaf .ret [.c (.int .i64 0), .c (.int .i64 0), .c (.int .i64 0), .c (.int .i64 0), .c (.int .i64 0), .c (.int .i64 3), .c (.bool false)] ())
(.bind 0
(.lt none (.bin .eql) [.v 4, .c (.int .i64 1)] 1 <|
(.ite (.v 15)
(.lt none .inb [.v 12, .c (.int .i64 0)] 0 <|
(.lt none (.row 1 0 [true]) [.v 12, .c (.int .i64 0)] 1 <|
(.lt none .inb [.v 12, .c (.int .i64 1)] 0 <|
(.lt none (.row 1 0 [true]) [.v 12, .c (.int .i64 1)] 1 <|
(.lt none .inb [.v 12, .c (.int .i64 2)] 0 <|
(.lt none (.row 1 0 [true]) [.v 12, .c (.int .i64 2)] 1 <|
(.lt none .inb [.v 12, .c (.int .i64 3)] 0 <|
(.lt none (.row 1 0 [true]) [.v 12, .c (.int .i64 3)] 1 <|
(.leaf (.yield 0) [.v 16, .v 17, .v 18, .v 19] ())))))))))
(.lt none (.bin .eql) [.v 4, .c (.int .i64 2)] 1 <|
(.ite (.v 16)
(.lt none .inb [.v 12, .c (.int .i64 0)] 0 <|
(.lt none (.row 1 0 [true]) [.v 12, .c (.int .i64 0)] 1 <|
(.lt none .inb [.v 12, .c (.int .i64 1)] 0 <|
(.lt none (.row 1 0 [true]) [.v 12, .c (.int .i64 1)] 1 <|
(.leaf (.yield 0) [.v 17, .v 18, .c (.int .i64 0), .c (.int .i64 0)] ())))))
(.leaf (.yield 0) [.c (.int .i64 0), .c (.int .i64 0), .c (.int .i64 0), .c (.int .i64 0)] ()))))) <|
(.call none 59 [.v 16] 1 [] <|
(.lt none .not [.v 19] 1 <|
(.lt (some (.v 20, false)) .id [.v 17] 1 <|
(.call (some (.v 20, false)) 59 [.v 21] 1 [] <|
(.lt (some (.v 20, false)) .not [.v 22] 1 <|
(.lt none .pick [.v 20, .c (.bool true), .v 23] 1 <|
(.ite (.v 24)
(.leaf .ret [.c (.int .i64 0), .c (.int .i64 0), .c (.int .i64 0), .c (.int .i64 0), .c (.int .i64 0), .c (.int .i64 4), .c (.bool false)] ())
(.lt none (.bin .eql) [.v 4, .c (.int .i64 1)] 1 <|
(.lt (some (.v 25, true)) .id [.v 16] 1 <|
(.lt (some (.v 25, true)) .id [.v 17] 1 <|
(.lt (some (.v 25, true)) (.bin .eql) [.v 26, .v 27] 1 <|
(.lt none .pick [.v 25, .v 28, .c (.bool false)] 1 <|
(.ite (.v 29)
(.leaf .ret [.c (.int .i64 0), .c (.int .i64 0), .c (.int .i64 0), .c (.int .i64 0), .c (.int .i64 0), .c (.int .i64 5), .c (.bool false)] ())
(.call none 61 [.v 4, .v 15, .v 16, .v 17, .v 18] 1 [] <|
(.lt none .not [.v 30] 1 <|
(.ite (.v 31)
(.leaf .ret [.c (.int .i64 0), .c (.int .i64 0), .c (.int .i64 0), .c (.int .i64 0), .c (.int .i64 0), .c (.int .i64 6), .c (.bool false)] ())
(.leaf .ret [.v 4, .v 15, .v 16, .v 17, .v 18, .c (.int .i64 0), .c (.bool true)] ())))))))))))))))))))))))))))))))))))))
def tm58 : Tm Unit :=
(.lt none .len [.v 0] 1 <|
(.bind 1
(.loop [.c (.int .i64 0)]
(.lt none (.bin .lss) [.v 3, .v 2] 1 <|
(.ite (.v 4)
(.lt none .inb [.v 0, .v 3] 0 <|
(.lt none (.row 1 0 [true]) [.v 0, .v 3] 1 <|
(.lt none (.bin .eql) [.v 1, .v 5] 1 <|
(.ite (.v 6)
(.leaf .ret [.v 3] ())
(.lt none (.bin .add) [.v 3, .c (.int .i64 1)] 1 <|
(.leaf .cont [.v 7] ()))))))
(.leaf (.yield 1) [] ())))) <|
(.leaf .ret [.c (.int .i64 (-1))] ())))
def tm59 : Tm Unit :=
(.call none 60 [.v 0, .c (.int .i64 0), .c (.int .i64 3)] 1 [] <|
(.leaf .ret [.v 1] ()))
def tm60 : Tm Unit :=
(.lt none (.bin .leq) [.v 1, .v 0] 1 <|
(.lt (some (.v 3, true)) .id [.v 0] 1 <|
(.lt (some (.v 3, true)) .id [.v 2] 1 <|
(.lt (some (.v 3, true)) (.bin .leq) [.v 4, .v 5] 1 <|
(.lt none .pick [.v 3, .v 6, .c (.bool false)] 1 <|
(.leaf .ret [.v 7] ()))))))
def tm61 : Tm Unit :=
(.lt none (.bin .eql) [.v 0, .c (.int .i64 0)] 1 <|
(.ite (.v 5)
(.lt none (.eqs [0, 0, 0, 0, 0]) [.v 0, .v 1, .v 2, .v 3, .v 4, .c (.int .i64 0), .c (.int .i64 0), .c (.int .i64 0), .c (.int .i64 0), .c (.int .i64 0)] 1 <|
(.leaf .ret [.v 6] ()))
(.lt none (.bin .eql) [.v 0, .c (.int .i64 1)] 1 <|
(.ite (.v 6)
(.call none 60 [.v 1, .c (.int .i64 1), .c (.int .i64 999)] 1 [] <|
(.lt (some (.v 7, true)) .id [.v 2] 1 <|
(.call (some (.v 7, true)) 59 [.v 8] 1 [] <|
(.lt none .pick [.v 7, .v 9, .c (.bool false)] 1 <|
(.lt (some (.v 10, true)) .id [.v 3] 1 <|
(.call (some (.v 10, true)) 59 [.v 11] 1 [] <|
(.lt none .pick [.v 10, .v 12, .c (.bool false)] 1 <|
(.lt (some (.v 13, true)) .id [.v 2] 1 <|
(.lt (some (.v 13, true)) .id [.v 3] 1 <|
(.lt (some (.v 13, true)) (.bin .neq) [.v 14, .v 15] 1 <|
(.lt none .pick [.v 13, .v 16, .c (.bool false)] 1 <|
(.lt (some (.v 17, true)) .id [.v 4] 1 <|
(.call (some (.v 17, true)) 60 [.v 18, .c (.int .i64 1), .c (.int .i64 1000)] 1 [] <|
(.lt none .pick [.v 17, .v 19, .c (.bool false)] 1 <|
(.leaf .ret [.v 20] ())))))))))))))))
(.lt none (.bin .eql) [.v 0, .c (.int .i64 2)] 1 <|
(.lt (some (.v 7, true)) .id [.v 1] 1 <|
(.call (some (.v 7, true)) 60 [.v 8, .c (.int .i64 1), .c (.int .i64 999)] 1 [] <|
(.lt none .pick [.v 7, .v 9, .c (.bool false)] 1 <|
(.lt (some (.v 10, true)) .id [.v 2] 1 <|
(.call (some (.v 10, true)) 59 [.v 11] 1 [] <|
(.lt none .pick [.v 10, .v 12, .c (.bool false)] 1 <|
(.lt (some (.v 13, true)) .id [.v 3] 1 <|
(.lt (some (.v 13, true)) (.bin .eql) [.v 14, .c (.int .i64 0)] 1 <|
(.lt none .pick [.v 13, .v 15, .c (.bool false)] 1 <|
(.lt (some (.v 16, true)) .id [.v 4] 1 <|
(.lt (some (.v 16, true)) (.bin .eql) [.v 17, .c (.int .i64 0)] 1 <|
(.lt none .pick [.v 16, .v 18, .c (.bool false)] 1 <|
(.leaf .ret [.v 19] ()))))))))))))))))))
def tm62 : Tm Unit :=
(.call none 63 [.v 1, .c (.str [58])] 3 [] <|
(.call none 56 [.v 2, .c (.int .i64 3)] 1 [] <|
(.call none 43 [.v 3, .c (.str [44])] 1 [] <|
(.call none 55 [.v 6, .c (.int .i64 1)] 2 [] <|
(.lt none (.dep 99) [.v 7] 0 <|
(.lt none .not [.v 4] 1 <|
(.lt (some (.v 9, false)) .id [.v 8] 1 <|
(.lt (some (.v 9, false)) .not [.v 10] 1 <|
(.lt none .pick [.v 9, .c (.bool true), .v 11] 1 <|
(.lt (some (.v 12, false)) .id [.v 1] 1 <|
(.lt (some (.v 12, false)) .slen [.v 13] 1 <|
(.lt (some (.v 12, false)) (.bin .gtr) [.v 14, .c (.int .i64 40)] 1 <|
(.lt none .pick [.v 12, .c (.bool true), .v 15] 1 <|
(.lt (some (.v 16, false)) .id [.v 0] 1 <|
(.call (some (.v 16, false)) 65 [.v 17, .v 5, .v 7] 1 [] <|
(.lt (some (.v 16, false)) .not [.v 18] 1 <|
(.lt none .pick [.v 16, .c (.bool true), .v 19] 1 <|
(.ite (.v 20)
(.leaf .ret [.c (.int .i64 0), .c (.rows 1 []), .c (.bool false)] ())
(.leaf .ret [.v 5, .v 7, .c (.bool true)] ())))))))))))))))))))
def tm63 : Tm Unit :=
(.call none 64 [.v 0, .v 1] 3 [] <|
(.leaf .ret [.v 2, .v 3, .v 4] ()))
def tm64 : Tm Unit :=
(.call none 52 [.v 0, .v 1] 1 [] <|
(.lt none (.bin .geq) [.v 2, .c (.int .i64 0)] 1 <|
(.ite (.v 3)
(.lt none .ssub [.v 0, .c (.int .i64 0), .v 2] 1 <|
(.lt none .slen [.v 1] 1 <|
(.lt none (.bin .add) [.v 2, .v 5] 1 <|
(.lt none .slen [.v 0] 1 <|
(.lt none .ssub [.v 0, .v 6, .v 7] 1 <|
(.leaf .ret [.v 4, .v 8, .c (.bool true)] ()))))))
(.leaf .ret [.v 0, .c (.str []), .c (.bool false)] ()))))
def tm65 : Tm Unit :=
(.call none 36 [.v 0] 1 [] <|
(.lt (some (.v 3, true)) .id [.v 1] 1 <|
(.call (some (.v 3, true)) 60 [.v 4, .c (.int .i64 0), .c (.int .i64 999)] 1 [] <|
(.lt none .pick [.v 3, .v 5, .c (.bool false)] 1 <|
(.lt (some (.v 6, true)) .len [.v 2] 1 <|
(.lt (some (.v 6, true)) .id [.v 0] 1 <|
(.lt (some (.v 6, true)) (.bin .eql) [.v 7, .v 8] 1 <|
(.lt none .pick [.v 6, .v 9, .c (.bool false)] 1 <|
(.call (some (.v 10, true)) 66 [.v 2] 1 [] <|
(.lt (some (.v 10, true)) .not [.v 11] 1 <|
(.lt none .pick [.v 10, .v 12, .c (.bool false)] 1 <|
(.leaf .ret [.v 13] ()))))))))))))
def tm66 : Tm Unit :=
(.call none 67 [.v 0] 1 [] <|
(.lt none (.bin .geq) [.v 1, .c (.int .i64 0)] 1 <|
(.leaf .ret [.v 2] ())))
def tm67 : Tm Unit :=
(.lt none .len [.v 0] 1 <|
(.bind 1
(.loop [.c (.int .i64 0)]
(.lt none (.bin .lss) [.v 2, .v 1] 1 <|
(.ite (.v 3)
(.lt none .inb [.v 0, .v 2] 0 <|
(.lt none (.row 1 0 [true]) [.v 0, .v 2] 1 <|
(.call none 68 [.v 4] 1 [] <|
(.ite (.v 5)
(.leaf .ret [.v 2] ())
(.lt none (.bin .add) [.v 2, .c (.int .i64 1)] 1 <|
(.leaf .cont [.v 6] ()))))))
(.leaf (.yield 1) [] ())))) <|
(.leaf .ret [.c (.int .i64 (-1))] ())))
def tm68 : Tm Unit :=
(.call none 60 [.v 0, .c (.int .i64 0), .c (.int .i64 6)] 1 [] <|
(.lt none .not [.v 1] 1 <|
(.leaf .ret [.v 2] ())))
def tm69 : Tm Unit :=
(.call none 36 [.v 0] 1 [] <|
(.lt (some (.v 3, true)) .id [.v 1] 1 <|
(.lt (some (.v 3, true)) .id [.v 0] 1 <|
(.lt (some (.v 3, true)) (.bin .sub) [.v 5, .c (.int .i64 1)] 1 <|
(.call (some (.v 3, true)) 60 [.v 4, .c (.int .i64 0), .v 6] 1 [] <|
(.lt none .pick [.v 3, .v 7, .c (.bool false)] 1 <|
(.lt (some (.v 8, true)) .id [.v 2] 1 <|
(.call (some (.v 8, true)) 60 [.v 9, .c (.int .i64 1), .c (.int .i64 6)] 1 [] <|
(.lt none .pick [.v 8, .v 10, .c (.bool false)] 1 <|
(.leaf .ret [.v 11] ()))))))))))
def tm70 : Tm Unit :=
(.call none 60 [.v 1, .c (.int .i64 0), .c (.int .i64 9999)] 1 [] <|
(.lt none .not [.v 11] 1 <|
(.lt (some (.v 12, false)) .id [.v 2] 1 <|
(.lt (some (.v 12, false)) .id [.v 1] 1 <|
(.call (some (.v 12, false)) 60 [.v 13, .c (.int .i64 0), .v 14] 1 [] <|
(.lt (some (.v 12, false)) .not [.v 15] 1 <|
(.lt none .pick [.v 12, .c (.bool true), .v 16] 1 <|
(.lt (some (.v 17, false)) .id [.v 3] 1 <|
(.call (some (.v 17, false)) 60 [.v 18, .c (.int .i64 0), .c (.int .i64 3)] 1 [] <|
(.lt (some (.v 17, false)) .not [.v 19] 1 <|
(.lt none .pick [.v 17, .c (.bool true), .v 20] 1 <|
(.call (some (.v 21, false)) 61 [.v 4, .v 5, .v 6, .v 7, .v 8] 1 [] <|
(.lt (some (.v 21, false)) .not [.v 22] 1 <|
(.lt none .pick [.v 21, .c (.bool true), .v 23] 1 <|
(.lt (some (.v 24, false)) .id [.v 0] 1 <|
(.call (some (.v 24, false)) 65 [.v 25, .v 9, .v 10] 1 [] <|
(.lt (some (.v 24, false)) .not [.v 26] 1 <|
(.lt none .pick [.v 24, .c (.bool true), .v 27] 1 <|
(.ite (.v 28)
(.leaf .ret [.c (.bool false)] ())
(.lt none (.bin .neq) [.v 3, .c (.int .i64 0)] 1 <|
(.lt (some (.v 29, false)) .id [.v 2] 1 <|
(.lt (some (.v 29, false)) (.bin .eql) [.v 30, .c (.int .i64 0)] 1 <|
(.lt (some (.v 29, false)) .id [.v 31] 1 <|
(.lt (some (.v 32, true)) (.eqs [0, 0, 0, 0, 0]) [.v 4, .v 5, .v 6, .v 7, .v 8, .c (.int .i64 0), .c (.int .i64 0), .c (.int .i64 0), .c (.int .i64 0), .c (.int .i64 0)] 1 <|
(.lt (some (.v 29, false)) .pick [.v 32, .v 33, .c (.bool false)] 1 <|
(.lt (some (.v 29, false)) .id [.v 34] 1 <|
(.lt (some (.v 35, true)) .id [.v 0] 1 <|
(.call (some (.v 35, true)) 71 [.v 36] 2 [] <|
(.call (some (.v 35, true)) 72 [.v 9, .v 10, .v 37, .v 38] 1 [] <|
(.lt (some (.v 29, false)) .pick [.v 35, .v 39, .c (.bool false)] 1 <|
(.lt none .pick [.v 29, .c (.bool true), .v 40] 1 <|
(.leaf .ret [.v 41] ()))))))))))))))))))))))))))))))))
def tm71 : Tm Unit :=
(.lt none (.make 8 [(.int .i64 0)]) [.v 0] 1 <|
(.leaf .ret [.c (.int .i64 0), .v 1] ()))
def tm72 : Tm Unit :=
(.lt none (.bin .eql) [.v 0, .v 2] 1 <|
(.call (some (.v 4, true)) 73 [.v 1, .v 3] 1 [] <|
(.lt none .pick [.v 4, .v 5, .c (.bool false)] 1 <|
(.leaf .ret [.v 6] ()))))
def tm73 : Tm Unit :=
(.lt none .len [.v 0] 1 <|
(.lt none .len [.v 1] 1 <|
(.lt none (.bin .neq) [.v 2, .v 3] 1 <|
(.ite (.v 4)
(.leaf .ret [.c (.bool false)] ())
(.lt none .len [.v 0] 1 <|
(.bind 1
(.loop [.c (.int .i64 0)]
(.lt none (.bin .lss) [.v 6, .v 5] 1 <|
(.ite (.v 7)
(.lt none .inb [.v 0, .v 6] 0 <|
(.lt none (.row 1 0 [true]) [.v 0, .v 6] 1 <|
(.lt none .inb [.v 1, .v 6] 0 <|
(.lt none (.row 1 0 [true]) [.v 1, .v 6] 1 <|
(.lt none (.bin .neq) [.v 8, .v 9] 1 <|
(.ite (.v 10)
(.leaf .ret [.c (.bool false)] ())
(.lt none (.bin .add) [.v 6, .c (.int .i64 1)] 1 <|
(.leaf .cont [.v 11] ()))))))))
(.leaf (.yield 1) [] ())))) <|
(.leaf .ret [.c (.bool true)] ())))))))
def tm74 : Tm Unit :=
(.bind 1
(.loop [.v 13]
(.lt none .inb [.v 14, .v 0] 0 <|
(.lt none (.row 1 0 [false]) [.v 14, .v 0] 1 <|
(.lt none .len [.v 15] 1 <|
(.lt none (.bin .lss) [.v 16, .v 1] 1 <|
(.ite (.v 17)
(.lt none .inb [.v 14, .v 0] 0 <|
(.lt none (.row 1 0 [false]) [.v 14, .v 0] 1 <|
(.call none 71 [.v 12] 2 [] <|
(.lt none (.mk 10 1) [.c (.int .i64 0), .c (.int .i64 0), .c (.int .i64 0), .c (.int .i64 0), .c (.int .i64 0), .c (.int .i64 0), .c (.int .i64 0), .c (.int .i64 0), .v 19, .v 20] 1 <|
(.lt none (.set 1 0 1) [.v 14, .v 0, .c .hole] 1 <|
(.lt none (.app 10 96 false) [.v 18, .v 21] 1 <|
(.lt none .inb [.v 22, .v 0] 0 <|
(.lt none (.set 1 0 1) [.v 22, .v 0, .v 23] 1 <|
(.leaf .cont [.v 24] ())))))))))
(.leaf (.yield 1) [.v 14] ()))))))) <|
(.lt none .inb [.v 14, .v 0] 0 <|
(.lt none (.row 1 0 [false]) [.v 14, .v 0] 1 <|
(.lt none (.bin .sub) [.v 1, .c (.int .i64 1)] 1 <|
(.call none 75 [.v 2, .v 3, .v 4, .v 5, .v 6, .v 7, .v 8, .v 9, .v 10, .v 11] 10 [] <|
(.lt none .inb [.v 15, .v 16] 0 <|
(.lt none (.set 10 0 10) [.v 15, .v 16, .v 17, .v 18, .v 19, .v 20, .v 21, .v 22, .v 23, .v 24, .v 25, .v 26] 1 <|
(.lt none (.set 1 0 1) [.v 14, .v 0, .v 27] 1 <|
(.leaf .ret [.v 12, .v 28] ())))))))))
def tm75 : Tm Unit :=
(.call none 76 [.v 8, .v 9] 2 [] <|
(.leaf .ret [.v 0, .v 1, .v 2, .v 3, .v 4, .v 5, .v 6, .v 7, .v 10, .v 11] ()))
def tm76 : Tm Unit :=
(.call none 77 [.v 1] 1 [] <|
(.leaf .ret [.v 0, .v 2] ()))
def tm77 : Tm Unit :=
(.lt none .ne [.v 0] 0 <|
(.lt none .emp [.v 0] 1 <|
(.ite (.v 1)
(.leaf .ret [.c (.rows 1 [])] ())
(.lt none (.mk 1 0) [] 1 <|
(.lt none (.app 1 8 true) [.v 2, .v 0] 1 <|
(.leaf .ret [.v 3] ()))))))
def tm78 : Tm Unit :=
(.lt none (.bin .neq) [.v 0, .v 2] 1 <|
(.ite (.v 4)
(.leaf .ret [.c (.bool false)] ())
(.call none 79 [.v 1, .v 3] 1 [] <|
(.lt none .not [.v 5] 1 <|
(.ite (.v 6)
(.leaf .ret [.c (.bool false)] ())
(.leaf .ret [.c (.bool true)] ()))))))
def tm79 : Tm Unit :=
(.lt none .len [.v 0] 1 <|
(.lt none .len [.v 1] 1 <|
(.lt none (.bin .neq) [.v 2, .v 3] 1 <|
(.ite (.v 4)
(.leaf .ret [.c (.bool false)] ())
(.bind 1
(.loop [.c (.int .i64 0)]
(.lt none .len [.v 0] 1 <|
(.lt none (.bin .lss) [.v 5, .v 6] 1 <|
(.ite (.v 7)
(.lt none .inb [.v 0, .v 5] 0 <|
(.lt none (.row 1 0 [false]) [.v 0, .v 5] 1 <|
(.lt none .inb [.v 1, .v 5] 0 <|
(.lt none (.row 1 0 [false]) [.v 1, .v 5] 1 <|
(.call none 80 [.v 8, .v 9] 1 [] <|
(.lt none .not [.v 10] 1 <|
(.ite (.v 11)
(.leaf .ret [.c (.bool false)] ())
(.lt none (.bin .add) [.v 5, .c (.int .i64 1)] 1 <|
(.leaf .cont [.v 12] ())))))))))
(.leaf (.yield 1) [] ()))))) <|
(.leaf .ret [.c (.bool true)] ()))))))
def tm80 : Tm Unit :=
(.lt none .len [.v 0] 1 <|
(.lt none .len [.v 1] 1 <|
(.lt none (.bin .neq) [.v 2, .v 3] 1 <|
(.ite (.v 4)
(.leaf .ret [.c (.bool false)] ())
(.bind 1
(.loop [.c (.int .i64 0)]
(.lt none .len [.v 0] 1 <|
(.lt none (.bin .lss) [.v 5, .v 6] 1 <|
(.ite (.v 7)
(.lt none .inb [.v 0, .v 5] 0 <|
(.lt none (.row 10 0 [true, true, true, true, true, true, true, true, true, false]) [.v 0, .v 5] 10 <|
(.lt none .inb [.v 1, .v 5] 0 <|
(.lt none (.row 10 0 [true, true, true, true, true, true, true, true, true, false]) [.v 1, .v 5] 10 <|
(.call none 81 [.v 8, .v 9, .v 10, .v 11, .v 12, .v 13, .v 14, .v 15, .v 16, .v 17, .v 18, .v 19, .v 20, .v 21, .v 22, .v 23, .v 24, .v 25, .v 26, .v 27] 1 [] <|
(.lt none .not [.v 28] 1 <|
(.ite (.v 29)
(.leaf .ret [.c (.bool false)] ())
(.lt none (.bin .add) [.v 5, .c (.int .i64 1)] 1 <|
(.leaf .cont [.v 30] ())))))))))
(.leaf (.yield 1) [] ()))))) <|
(.leaf .ret [.c (.bool true)] ()))))))
def tm81 : Tm Unit :=
(.lt none (.bin .neq) [.v 0, .v 10] 1 <|
(.ite (.v 20)
(.leaf .ret [.c (.bool false)] ())
(.lt none (.bin .neq) [.v 1, .v 11] 1 <|
(.ite (.v 21)
(.leaf .ret [.c (.bool false)] ())
(.lt none (.bin .neq) [.v 2, .v 12] 1 <|
(.ite (.v 22)
(.leaf .ret [.c (.bool false)] ())
(.call none 82 [.v 3, .v 4, .v 5, .v 6, .v 7, .v 13, .v 14, .v 15, .v 16, .v 17] 1 [] <|
(.lt none .not [.v 23] 1 <|
(.ite (.v 24)
(.leaf .ret [.c (.bool false)] ())
(.call none 83 [.v 8, .v 9, .v 18, .v 19] 1 [] <|
(.lt none .not [.v 25] 1 <|
(.ite (.v 26)
(.leaf .ret [.c (.bool false)] ())
(.leaf .ret [.c (.bool true)] ())))))))))))))
def tm82 : Tm Unit :=
(.lt none (.bin .neq) [.v 0, .v 5] 1 <|
(.ite (.v 10)
(.leaf .ret [.c (.bool false)] ())
(.lt none (.bin .neq) [.v 1, .v 6] 1 <|
(.ite (.v 11)
(.leaf .ret [.c (.bool false)] ())
(.lt none (.bin .neq) [.v 2, .v 7] 1 <|
(.ite (.v 12)
(.leaf .ret [.c (.bool false)] ())
(.lt none (.bin .neq) [.v 3, .v 8] 1 <|
(.ite (.v 13)
(.leaf .ret [.c (.bool false)] ())
(.lt none (.bin .neq) [.v 4, .v 9] 1 <|
(.ite (.v 14)
(.leaf .ret [.c (.bool false)] ())
(.leaf .ret [.c (.bool true)] ())))))))))))
def tm83 : Tm Unit :=
(.lt none (.bin .neq) [.v 0, .v 2] 1 <|
(.ite (.v 4)
(.leaf .ret [.c (.bool false)] ())
(.call none 84 [.v 1, .v 3] 1 [] <|
(.lt none .not [.v 5] 1 <|
(.ite (.v 6)
(.leaf .ret [.c (.bool false)] ())
(.leaf .ret [.c (.bool true)] ()))))))
def tm84 : Tm Unit :=
(.lt none .len [.v 0] 1 <|
(.lt none .len [.v 1] 1 <|
(.lt none (.bin .neq) [.v 2, .v 3] 1 <|
(.ite (.v 4)
(.leaf .ret [.c (.bool false)] ())
(.bind 1
(.loop [.c (.int .i64 0)]
(.lt none .len [.v 0] 1 <|
(.lt none (.bin .lss) [.v 5, .v 6] 1 <|
(.ite (.v 7)
(.lt none .inb [.v 0, .v 5] 0 <|
(.lt none (.row 1 0 [true]) [.v 0, .v 5] 1 <|
(.lt none .inb [.v 1, .v 5] 0 <|
(.lt none (.row 1 0 [true]) [.v 1, .v 5] 1 <|
(.lt none (.bin .neq) [.v 8, .v 9] 1 <|
(.ite (.v 10)
(.leaf .ret [.c (.bool false)] ())
(.lt none (.bin .add) [.v 5, .c (.int .i64 1)] 1 <|
(.leaf .cont [.v 11] ()))))))))
(.leaf (.yield 1) [] ()))))) <|
(.leaf .ret [.c (.bool true)] ()))))))
def tm85 : Tm Unit :=
(.call none 86 [.v 1, .v 2] 2 [] <|
(.leaf .ret [.v 3, .v 4] ()))
def tm86 : Tm Unit :=
(.bind 1
(.loop [.v 0, .c .undef, .v 1, .c (.int .i64 0)]
(.lt none .len [.v 2] 1 <|
(.lt none (.bin .lss) [.v 5, .v 6] 1 <|
(.ite (.v 7)
(.lt none .inb [.v 2, .v 5] 0 <|
(.lt none (.row 1 0 [false]) [.v 2, .v 5] 1 <|
(.call none 87 [.v 8, .v 4] 2 [] <|
(.lt none (.set 1 0 1) [.v 2, .v 5, .v 10] 1 <|
(.lt none (.bin .add) [.v 5, .c (.int .i64 1)] 1 <|
(.leaf .cont [.v 11, .c .undef, .v 9, .v 12] ()))))))
(.leaf (.yield 1) [.v 2, .v 4] ()))))) <|
(.leaf .ret [.v 3, .v 2] ()))
def tm87 : Tm Unit :=
(.bind 1
(.loop [.v 0, .c .undef, .v 1, .c (.int .i64 0)]
(.lt none .len [.v 2] 1 <|
(.lt none (.bin .lss) [.v 5, .v 6] 1 <|
(.ite (.v 7)
(.lt none .inb [.v 2, .v 5] 0 <|
(.lt none (.set 10 0 1) [.v 2, .v 5, .v 4] 1 <|
(.lt none (.bin .add) [.v 4, .c (.int .i64 1)] 1 <|
(.lt none .inb [.v 8, .v 5] 0 <|
(.lt none (.set 10 1 1) [.v 8, .v 5, .v 9] 1 <|
(.lt none (.bin .add) [.v 9, .c (.int .i64 1)] 1 <|
(.lt none .inb [.v 10, .v 5] 0 <|
(.lt none (.set 10 2 1) [.v 10, .v 5, .v 11] 1 <|
(.lt none (.bin .add) [.v 11, .c (.int .i64 1)] 1 <|
(.lt none .inb [.v 12, .v 5] 0 <|
(.lt none (.set 10 3 1) [.v 12, .v 5, .v 13] 1 <|
(.lt none (.bin .add) [.v 13, .c (.int .i64 1)] 1 <|
(.lt none .inb [.v 14, .v 5] 0 <|
(.lt none (.set 10 4 1) [.v 14, .v 5, .v 15] 1 <|
(.lt none (.bin .add) [.v 15, .c (.int .i64 1)] 1 <|
(.lt none .inb [.v 16, .v 5] 0 <|
(.lt none (.set 10 5 1) [.v 16, .v 5, .v 17] 1 <|
(.lt none (.bin .add) [.v 17, .c (.int .i64 1)] 1 <|
(.lt none .inb [.v 18, .v 5] 0 <|
(.lt none (.set 10 6 1) [.v 18, .v 5, .v 19] 1 <|
(.lt none (.bin .add) [.v 19, .c (.int .i64 1)] 1 <|
(.lt none .inb [.v 20, .v 5] 0 <|
(.lt none (.set 10 7 1) [.v 20, .v 5, .v 21] 1 <|
(.lt none (.bin .add) [.v 21, .c (.int .i64 1)] 1 <|
(.lt none .inb [.v 22, .v 5] 0 <|
(.lt none (.set 10 8 1) [.v 22, .v 5, .v 23] 1 <|
(.lt none (.bin .add) [.v 23, .c (.int .i64 1)] 1 <|
(.lt none .inb [.v 24, .v 5] 0 <|
(.lt none (.row 10 9 [false]) [.v 24, .v 5] 1 <|
(.call none 88 [.v 26, .v 25] 2 [] <|
(.lt none (.set 10 9 1) [.v 24, .v 5, .v 28] 1 <|
(.lt none (.bin .add) [.v 5, .c (.int .i64 1)] 1 <|
(.leaf .cont [.v 29, .c .undef, .v 27, .v 30] ())))))))))))))))))))))))))))))))))
(.leaf (.yield 1) [.v 2, .v 4] ()))))) <|
(.leaf .ret [.v 3, .v 2] ()))
def tm88 : Tm Unit :=
(.bind 1
(.loop [.v 0, .c .undef, .v 1, .c (.int .i64 0)]
(.lt none .len [.v 2] 1 <|
(.lt none (.bin .lss) [.v 5, .v 6] 1 <|
(.ite (.v 7)
(.lt none .inb [.v 2, .v 5] 0 <|
(.lt none (.set 1 0 1) [.v 2, .v 5, .v 4] 1 <|
(.lt none (.bin .add) [.v 4, .c (.int .i64 1)] 1 <|
(.lt none (.bin .add) [.v 5, .c (.int .i64 1)] 1 <|
(.leaf .cont [.v 8, .c .undef, .v 9, .v 10] ())))))
(.leaf (.yield 1) [.v 2, .v 4] ()))))) <|
(.leaf .ret [.v 3, .v 2] ()))
def tm89 : Tm Unit :=
(.call none 90 [.v 1, .v 2] 1 [] <|
(.lt none (.bin .lss) [.v 3, .c (.int .i64 0)] 1 <|
(.ite (.v 4)
(.leaf .ret [.c (.int .i64 (-1))] ())
(.leaf .ret [.v 3] ()))))
def tm90 : Tm Unit :=
(.bind 1
(.loop [.v 1, .c (.int .i64 0)]
(.lt none .len [.v 0] 1 <|
(.lt none (.bin .lss) [.v 3, .v 4] 1 <|
(.ite (.v 5)
(.lt none .inb [.v 0, .v 3] 0 <|
(.lt none (.row 1 0 [false]) [.v 0, .v 3] 1 <|
(.call none 91 [.v 6, .v 2] 1 [] <|
(.lt none (.bin .lss) [.v 7, .c (.int .i64 0)] 1 <|
(.ite (.v 8)
(.leaf .ret [.c (.int .i64 (-1))] ())
(.lt none (.bin .add) [.v 3, .c (.int .i64 1)] 1 <|
(.leaf .cont [.v 7, .v 9] ())))))))
(.leaf (.yield 1) [.v 2] ()))))) <|
(.leaf .ret [.v 2] ()))
def tm91 : Tm Unit :=
(.bind 1
(.loop [.v 1, .c (.int .i64 0)]
(.lt none .len [.v 0] 1 <|
(.lt none (.bin .lss) [.v 3, .v 4] 1 <|
(.ite (.v 5)
(.lt none .inb [.v 0, .v 3] 0 <|
(.lt none (.row 10 0 [true]) [.v 0, .v 3] 1 <|
(.lt none (.bin .neq) [.v 6, .v 2] 1 <|
(.ite (.v 7)
(.leaf .ret [.c (.int .i64 (-1))] ())
(.lt none (.bin .add) [.v 2, .c (.int .i64 1)] 1 <|
(.lt none .inb [.v 0, .v 3] 0 <|
(.lt none (.row 10 1 [true]) [.v 0, .v 3] 1 <|
(.lt none (.bin .neq) [.v 9, .v 8] 1 <|
(.ite (.v 10)
(.leaf .ret [.c (.int .i64 (-1))] ())
(.lt none (.bin .add) [.v 8, .c (.int .i64 1)] 1 <|
(.lt none .inb [.v 0, .v 3] 0 <|
(.lt none (.row 10 2 [true]) [.v 0, .v 3] 1 <|
(.lt none (.bin .neq) [.v 12, .v 11] 1 <|
(.ite (.v 13)
(.leaf .ret [.c (.int .i64 (-1))] ())
(.lt none (.bin .add) [.v 11, .c (.int .i64 1)] 1 <|
(.lt none .inb [.v 0, .v 3] 0 <|
(.lt none (.row 10 3 [true]) [.v 0, .v 3] 1 <|
(.lt none (.bin .neq) [.v 15, .v 14] 1 <|
(.ite (.v 16)
(.leaf .ret [.c (.int .i64 (-1))] ())
(.lt none (.bin .add) [.v 14, .c (.int .i64 1)] 1 <|
(.lt none .inb [.v 0, .v 3] 0 <|
(.lt none (.row 10 4 [true]) [.v 0, .v 3] 1 <|
(.lt none (.bin .neq) [.v 18, .v 17] 1 <|
(.ite (.v 19)
(.leaf .ret [.c (.int .i64 (-1))] ())
(.lt none (.bin .add) [.v 17, .c (.int .i64 1)] 1 <|
(.lt none .inb [.v 0, .v 3] 0 <|
(.lt none (.row 10 5 [true]) [.v 0, .v 3] 1 <|
(.lt none (.bin .neq) [.v 21, .v 20] 1 <|
(.ite (.v 22)
(.leaf .ret [.c (.int .i64 (-1))] ())
(.lt none (.bin .add) [.v 20, .c (.int .i64 1)] 1 <|
(.lt none .inb [.v 0, .v 3] 0 <|
(.lt none (.row 10 6 [true]) [.v 0, .v 3] 1 <|
(.lt none (.bin .neq) [.v 24, .v 23] 1 <|
(.ite (.v 25)
(.leaf .ret [.c (.int .i64 (-1))] ())
(.lt none (.bin .add) [.v 23, .c (.int .i64 1)] 1 <|
(.lt none .inb [.v 0, .v 3] 0 <|
(.lt none (.row 10 7 [true]) [.v 0, .v 3] 1 <|
(.lt none (.bin .neq) [.v 27, .v 26] 1 <|
(.ite (.v 28)
(.leaf .ret [.c (.int .i64 (-1))] ())
(.lt none (.bin .add) [.v 26, .c (.int .i64 1)] 1 <|
(.lt none .inb [.v 0, .v 3] 0 <|
(.lt none (.row 10 8 [true]) [.v 0, .v 3] 1 <|
(.lt none (.bin .neq) [.v 30, .v 29] 1 <|
(.ite (.v 31)
(.leaf .ret [.c (.int .i64 (-1))] ())
(.lt none (.bin .add) [.v 29, .c (.int .i64 1)] 1 <|
(.lt none .inb [.v 0, .v 3] 0 <|
(.lt none (.row 10 9 [false]) [.v 0, .v 3] 1 <|
(.call none 92 [.v 33, .v 32] 1 [] <|
(.lt none (.bin .lss) [.v 34, .c (.int .i64 0)] 1 <|
(.ite (.v 35)
(.leaf .ret [.c (.int .i64 (-1))] ())
(.lt none (.bin .add) [.v 3, .c (.int .i64 1)] 1 <|
(.leaf .cont [.v 34, .v 36] ()))))))))))))))))))))))))))))))))))))))))))))))))))))
(.leaf (.yield 1) [.v 2] ()))))) <|
(.leaf .ret [.v 2] ()))
def tm92 : Tm Unit :=
(.bind 1
(.loop [.v 1, .c (.int .i64 0)]
(.lt none .len [.v 0] 1 <|
(.lt none (.bin .lss) [.v 3, .v 4] 1 <|
(.ite (.v 5)
(.lt none .inb [.v 0, .v 3] 0 <|
(.lt none (.row 1 0 [true]) [.v 0, .v 3] 1 <|
(.lt none (.bin .neq) [.v 6, .v 2] 1 <|
(.ite (.v 7)
(.leaf .ret [.c (.int .i64 (-1))] ())
(.lt none (.bin .add) [.v 2, .c (.int .i64 1)] 1 <|
(.lt none (.bin .add) [.v 3, .c (.int .i64 1)] 1 <|
(.leaf .cont [.v 8, .v 9] ())))))))
(.leaf (.yield 1) [.v 2] ()))))) <|
(.leaf .ret [.v 2] ()))
theorem cl77 : ∀ n, Contract Tryd.prog (entTab [(77, .tm tm77)]) n 77 sg77 := fun n => contracts tiL_ok (by kernel_rfl) (fnOk_all (List.forall_mem_cons.2 ⟨fnOk_tm (E := ⟨tiTab tiL, [(77, sg77)], 0, 0, false, false, [], []⟩) Tryd.func144 (by kernel_rfl) (tm := tm77) (by kernel_rfl) (by kernel_rfl), List.forall_mem_nil _⟩)) n 77 sg77 (by simp)
def ren77 : Go.Shelf.Ren := ⟨fun | 41 => 144 | n => n, fun | 4 => 4 | 22 => 24 | 23 => 3 | n => n, fun n => n⟩
theorem lays77 : Go.Proofs.SlLaysE0.n41 Tryd.prog ren77 := { mixed := by kernel_rfl, f41 := ⟨Tryd.f144.name, by kernel_rfl, Tryd.func144.trans (congrArg some (by kernel_rfl))⟩, t4 := Tryd.underlying4, a4 := Tryd.isAgg4, z4 := Tryd.sizeOf4, v4 := Tryd.zeroValue4, t22 := Tryd.underlying24, a22 := Tryd.isAgg24, z22 := Tryd.sizeOf24, v22 := Tryd.zeroValue24 }
noncomputable def ex77 : List D → Option (List D) := cloneE 1 (entTab [(77, .tm tm77)]) 77

noncomputable def T : Nat → Ent := entTab [(0, .tm tm0), (1, .tm tm1), (2, .tm tm2), (3, .tm tm3), (4, .tm tm4), (5, .tm tm5), (6, .tm tm6), (7, .tm tm7), (8, .tm tm8), (9, .tm tm9), (10, .tm tm10), (11, .tm tm11), (12, .tm tm12), (13, .tm tm13), (14, .tm tm14), (15, .tm tm15), (16, .tm tm16), (17, .tm tm17), (18, .tm tm18), (19, .tm tm19), (20, .tm tm20), (21, .tm tm21), (22, .tm tm22), (23, .tm tm23), (24, .tm tm24), (25, .tm tm25), (26, .tm tm26), (27, .tm tm27), (28, .tm tm28), (29, .tm tm29), (30, .tm tm30), (31, .tm tm31), (32, .tm tm32), (33, .tm tm33), (34, .tm tm34), (35, .tm tm35), (36, .tm tm36), (37, .tm tm37), (38, .tm tm38), (39, .tm tm39), (40, .tm tm40), (41, .tm tm41), (42, .tm tm42), (43, .tm tm43), (44, .tm tm44), (45, .tm tm45), (46, .tm tm46), (47, .tm tm47), (48, .tm tm48), (49, .tm tm49), (50, .ext cntE), (51, .tm tm51), (52, .tm tm52), (53, .tm tm53), (54, .ext ixE), (55, .tm tm55), (56, .tm tm56), (57, .tm tm57), (58, .tm tm58), (59, .tm tm59), (60, .tm tm60), (61, .tm tm61), (62, .tm tm62), (63, .tm tm63), (64, .tm tm64), (65, .tm tm65), (66, .tm tm66), (67, .tm tm67), (68, .tm tm68), (69, .tm tm69), (70, .tm tm70), (71, .tm tm71), (72, .tm tm72), (73, .tm tm73), (74, .tm tm74), (75, .tm tm75), (76, .tm tm76), (77, .ext ex77), (78, .tm tm78), (79, .tm tm79), (80, .tm tm80), (81, .tm tm81), (82, .tm tm82), (83, .tm tm83), (84, .tm tm84), (85, .tm tm85), (86, .tm tm86), (87, .tm tm87), (88, .tm tm88), (89, .tm tm89), (90, .tm tm90), (91, .tm tm91), (92, .tm tm92)]
abbrev K := FnOk Tryd.prog T (tiTab tiL) sigs
theorem o77 : FnOk Tryd.prog T (tiTab tiL) sigs 77 sg77 := clone_ent (m := 98) lays77 rfl (by kernel_rfl) Tryd.sizeOf3 cl77 rfl
theorem o50 : K 50 sg50 := cnt_ent (fun s c w => by rw [run_callFunc_extern Tryd.func147 (by kernel_rfl) (by kernel_rfl) (by kernel_rfl) (e := Extern.BytealgCount.count) (by kernel_rfl), Lib.run_countString]; rfl) rfl
theorem o54 : K 54 sg54 := ix_ent (fun s c w => by rw [run_callFunc_extern Tryd.func166 (by kernel_rfl) (by kernel_rfl) (by kernel_rfl) (e := Extern.BytealgIndexByte.indexByte) (by kernel_rfl), Lib.run_indexByteString]; rfl) rfl
theorem o0 : K 0 sg0 := fnK (E := E0) (tm := tm0) Tryd.func8 (by kernel_rfl)
theorem o1 : K 1 sg1 := fnK (E := E0) (tm := tm1) Tryd.func32 (by kernel_rfl)
theorem o2 : K 2 sg2 := fnK (E := E0) (tm := tm2) Tryd.func37 (by kernel_rfl)
theorem o3 : K 3 sg3 := fnK (E := E0) (tm := tm3) Tryd.func77 (by kernel_rfl)
theorem o4 : K 4 sg4 := fnK (E := E0) (tm := tm4) Tryd.func118 (by kernel_rfl)
theorem o5 : K 5 sg5 := fnK (E := E0) (tm := tm5) Tryd.func119 (by kernel_rfl)
theorem o6 : K 6 sg6 := fnK (E := E0) (tm := tm6) Tryd.func57 (by kernel_rfl)
theorem o7 : K 7 sg7 := fnK (E := ⟨tiTab tiL, sigs, 0, 0, false, false, [], [(6, [(27, 0, 2, 99), (108, 0, 0, 0)], [0, 3, 18, 24, 27, 102, 105, 108, 7], 192, [241, 913])]⟩) (tm := tm7) Tryd.func24 (by kernel_rfl)
theorem o8 : K 8 sg8 := fnK (E := E0) (tm := tm8) Tryd.func64 (by kernel_rfl)
theorem o9 : K 9 sg9 := fnK (E := E0) (tm := tm9) Tryd.func65 (by kernel_rfl)
theorem o10 : K 10 sg10 := fnK (E := E0) (tm := tm10) Tryd.func84 (by kernel_rfl)
theorem o11 : K 11 sg11 := fnK (E := E0) (tm := tm11) Tryd.func66 (by kernel_rfl)
theorem o12 : K 12 sg12 := fnK (E := E0) (tm := tm12) Tryd.func110 (by kernel_rfl)
theorem o13 : K 13 sg13 := fnK (E := E0) (tm := tm13) Tryd.func134 (by kernel_rfl)
theorem o14 : K 14 sg14 := fnK (E := E0) (tm := tm14) Tryd.func67 (by kernel_rfl)
theorem o15 : K 15 sg15 := fnK (E := E0) (tm := tm15) Tryd.func111 (by kernel_rfl)
theorem o16 : K 16 sg16 := fnK (E := E0) (tm := tm16) Tryd.func88 (by kernel_rfl)
theorem o17 : K 17 sg17 := fnK (E := E0) (tm := tm17) Tryd.func125 (by kernel_rfl)
theorem o18 : K 18 sg18 := fnK (E := E0) (tm := tm18) Tryd.func10 (by kernel_rfl)
theorem o19 : K 19 sg19 := fnK (E := E0) (tm := tm19) Tryd.func38 (by kernel_rfl)
theorem o20 : K 20 sg20 := fnK (E := E0) (tm := tm20) Tryd.func39 (by kernel_rfl)
theorem o21 : K 21 sg21 := fnK (E := E0) (tm := tm21) Tryd.func86 (by kernel_rfl)
theorem o22 : K 22 sg22 := fnK (E := E0) (tm := tm22) Tryd.func85 (by kernel_rfl)
theorem o23 : K 23 sg23 := fnK (E := E0) (tm := tm23) Tryd.func124 (by kernel_rfl)
theorem o24 : K 24 sg24 := fnK (E := E0) (tm := tm24) Tryd.func87 (by kernel_rfl)
theorem o25 : K 25 sg25 := fnK (E := E0) (tm := tm25) Tryd.func40 (by kernel_rfl)
theorem o26 : K 26 sg26 := fnK (E := E0) (tm := tm26) Tryd.func50 (by kernel_rfl)
theorem o27 : K 27 sg27 := fnK (E := E0) (tm := tm27) Tryd.func51 (by kernel_rfl)
theorem o28 : K 28 sg28 := fnK (E := E0) (tm := tm28) Tryd.func52 (by kernel_rfl)
theorem o29 : K 29 sg29 := fnK (E := E0) (tm := tm29) Tryd.func99 (by kernel_rfl)
theorem o30 : K 30 sg30 := fnK (E := E0) (tm := tm30) Tryd.func120 (by kernel_rfl)
theorem o31 : K 31 sg31 := fnK (E := ⟨tiTab tiL, sigs, 0, 0, false, false, [], [(6, [(63, 0, 0, 0), (16, 1, 2, 99)], [6, 9, 12, 36, 39, 42, 57, 60, 63, 1, 4, 16], 336, [1, 4, 7, 10, 13, 16, 19, 22, 25, 28, 31, 34, 37, 40, 43, 46, 49, 52, 55, 58, 61, 64, 67, 70, 73, 76, 79, 82, 85, 88, 91, 94, 97, 100, 103, 106, 109, 112, 115, 118, 121, 124, 127, 130, 133, 136, 139, 142, 145, 148, 151, 154, 157, 160, 163, 166, 169, 172, 175, 178, 181, 184, 187, 190, 193, 196, 199, 202, 205, 208, 211, 214, 217, 220, 223, 226, 229, 232, 235, 238, 241, 244, 247, 250, 253, 256, 259, 262, 265, 268, 271, 274, 277, 280, 283, 286, 289, 292, 295, 298, 301, 304, 307, 310, 313, 316, 319, 322, 325, 328, 331, 334, 337, 340, 343, 346, 349, 352, 355, 358, 361, 364, 367, 370, 373, 376, 379, 382, 385, 388, 391, 394, 397, 400, 403, 406, 409, 412, 415, 418, 421, 424, 427, 430, 433, 436, 439, 442, 445, 448, 451, 454, 457, 460, 463, 466, 469, 472, 475, 478, 481, 484, 487, 490, 493, 496, 499, 502, 505, 508, 511, 514, 517, 520, 523, 526, 2124]), (3, [(42, 0, 0, 0), (16, 1, 2, 99)], [6, 9, 36, 39, 42, 1, 4, 16], 531, [192])]⟩) (tm := tm31) Tryd.func139 (by kernel_rfl)
theorem o32 : K 32 sg32 := fnK (E := E0) (tm := tm32) Tryd.func140 (by kernel_rfl)
theorem o33 : K 33 sg33 := fnK (E := E0) (tm := tm33) Tryd.func149 (by kernel_rfl)
theorem o34 : K 34 sg34 := fnK (E := E0) (tm := tm34) Tryd.func159 (by kernel_rfl)
theorem o35 : K 35 sg35 := fnK (E := E0) (tm := tm35) Tryd.func33 (by kernel_rfl)
theorem o36 : K 36 sg36 := fnK (E := E0) (tm := tm36) Tryd.func74 (by kernel_rfl)
theorem o37 : K 37 sg37 := fnK (E := E0) (tm := tm37) Tryd.func78 (by kernel_rfl)
theorem o38 : K 38 sg38 := fnK (E := E0) (tm := tm38) Tryd.func79 (by kernel_rfl)
theorem o39 : K 39 sg39 := fnK (E := E0) (tm := tm39) Tryd.func62 (by kernel_rfl)
theorem o40 : K 40 sg40 := fnK (E := E0) (tm := tm40) Tryd.func108 (by kernel_rfl)
theorem o41 : K 41 sg41 := fnK (E := E0) (tm := tm41) Tryd.func107 (by kernel_rfl)
theorem o42 : K 42 sg42 := fnK (E := E0) (tm := tm42) Tryd.func25 (by kernel_rfl)
theorem o43 : K 43 sg43 := fnK (E := E0) (tm := tm43) Tryd.func68 (by kernel_rfl)
theorem o44 : K 44 sg44 := fnK (E := E0) (tm := tm44) Tryd.func112 (by kernel_rfl)
theorem o45 : K 45 sg45 := fnK (E := E0) (tm := tm45) Tryd.func135 (by kernel_rfl)
theorem o46 : K 46 sg46 := fnK (E := E0) (tm := tm46) Tryd.func145 (by kernel_rfl)
theorem o47 : K 47 sg47 := fnK (E := E0) (tm := tm47) Tryd.func146 (by kernel_rfl)
theorem o48 : K 48 sg48 := fnK (E := E0) (tm := tm48) Tryd.func154 (by kernel_rfl)
theorem o49 : K 49 sg49 := fnK (E := E0) (tm := tm49) Tryd.func136 (by kernel_rfl)
theorem o51 : K 51 sg51 := fnK (E := E0) (tm := tm51) Tryd.func137 (by kernel_rfl)
theorem o52 : K 52 sg52 := fnK (E := E0) (tm := tm52) Tryd.func148 (by kernel_rfl)
theorem o53 : K 53 sg53 := fnK (E := E0) (tm := tm53) Tryd.func155 (by kernel_rfl)
theorem o55 : K 55 sg55 := fnK (E := E0) (tm := tm55) Tryd.func69 (by kernel_rfl)
theorem o56 : K 56 sg56 := fnK (E := E0) (tm := tm56) Tryd.func113 (by kernel_rfl)
theorem o57 : K 57 sg57 := fnK (E := E0) (tm := tm57) Tryd.func70 (by kernel_rfl)
theorem o58 : K 58 sg58 := fnK (E := E0) (tm := tm58) Tryd.func75 (by kernel_rfl)
theorem o59 : K 59 sg59 := fnK (E := E0) (tm := tm59) Tryd.func114 (by kernel_rfl)
theorem o60 : K 60 sg60 := fnK (E := E0) (tm := tm60) Tryd.func90 (by kernel_rfl)
theorem o61 : K 61 sg61 := fnK (E := E0) (tm := tm61) Tryd.func91 (by kernel_rfl)
theorem o62 : K 62 sg62 := fnK (E := E0) (tm := tm62) Tryd.func71 (by kernel_rfl)
theorem o63 : K 63 sg63 := fnK (E := E0) (tm := tm63) Tryd.func115 (by kernel_rfl)
theorem o64 : K 64 sg64 := fnK (E := E0) (tm := tm64) Tryd.func138 (by kernel_rfl)
theorem o65 : K 65 sg65 := fnK (E := E0) (tm := tm65) Tryd.func92 (by kernel_rfl)
theorem o66 : K 66 sg66 := fnK (E := E0) (tm := tm66) Tryd.func126 (by kernel_rfl)
theorem o67 : K 67 sg67 := fnK (E := E0) (tm := tm67) Tryd.func141 (by kernel_rfl)
theorem o68 : K 68 sg68 := fnK (E := E0) (tm := tm68) Tryd.func127 (by kernel_rfl)
theorem o69 : K 69 sg69 := fnK (E := E0) (tm := tm69) Tryd.func43 (by kernel_rfl)
theorem o70 : K 70 sg70 := fnK (E := E0) (tm := tm70) Tryd.func44 (by kernel_rfl)
theorem o71 : K 71 sg71 := fnK (E := E0) (tm := tm71) Tryd.func94 (by kernel_rfl)
theorem o72 : K 72 sg72 := fnK (E := E0) (tm := tm72) Tryd.func93 (by kernel_rfl)
theorem o73 : K 73 sg73 := fnK (E := E0) (tm := tm73) Tryd.func128 (by kernel_rfl)
theorem o74 : K 74 sg74 := fnK (E := E0) (tm := tm74) Tryd.func80 (by kernel_rfl)
theorem o75 : K 75 sg75 := fnK (E := E0) (tm := tm75) Tryd.func121 (by kernel_rfl)
theorem o76 : K 76 sg76 := fnK (E := E0) (tm := tm76) Tryd.func131 (by kernel_rfl)
theorem o78 : K 78 sg78 := fnK (E := E0) (tm := tm78) Tryd.func23 (by kernel_rfl)
theorem o79 : K 79 sg79 := fnK (E := E0) (tm := tm79) Tryd.func63 (by kernel_rfl)
theorem o80 : K 80 sg80 := fnK (E := E0) (tm := tm80) Tryd.func109 (by kernel_rfl)
theorem o81 : K 81 sg81 := fnK (E := E0) (tm := tm81) Tryd.func13 (by kernel_rfl)
theorem o82 : K 82 sg82 := fnK (E := E0) (tm := tm82) Tryd.func46 (by kernel_rfl)
theorem o83 : K 83 sg83 := fnK (E := E0) (tm := tm83) Tryd.func47 (by kernel_rfl)
theorem o84 : K 84 sg84 := fnK (E := E0) (tm := tm84) Tryd.func98 (by kernel_rfl)
theorem o85 : K 85 sg85 := fnK (E := E0) (tm := tm85) Tryd.func34 (by kernel_rfl)
theorem o86 : K 86 sg86 := fnK (E := E0) (tm := tm86) Tryd.func81 (by kernel_rfl)
theorem o87 : K 87 sg87 := fnK (E := E0) (tm := tm87) Tryd.func122 (by kernel_rfl)
theorem o88 : K 88 sg88 := fnK (E := E0) (tm := tm88) Tryd.func116 (by kernel_rfl)
theorem o89 : K 89 sg89 := fnK (E := E0) (tm := tm89) Tryd.func35 (by kernel_rfl)
theorem o90 : K 90 sg90 := fnK (E := E0) (tm := tm90) Tryd.func82 (by kernel_rfl)
theorem o91 : K 91 sg91 := fnK (E := ⟨tiTab tiL, sigs, 0, 0, false, false, [], [(2, [(3, 0, 0, 0), (15, 0, 0, 0)], [0, 3, 15], 1824, [])]⟩) (tm := tm91) Tryd.func123 (by kernel_rfl)
theorem o92 : K 92 sg92 := fnK (E := E0) (tm := tm92) Tryd.func117 (by kernel_rfl)
theorem fns_ok : ∀ key s, (key, s) ∈ sigs → FnOk Tryd.prog T (tiTab tiL) sigs key s := fnOk_all (fc o0 <| fc o1 <| fc o2 <| fc o3 <| fc o4 <| fc o5 <| fc o6 <| fc o7 <| fc o8 <| fc o9 <| fc o10 <| fc o11 <| fc o12 <| fc o13 <| fc o14 <| fc o15 <| fc o16 <| fc o17 <| fc o18 <| fc o19 <| fc o20 <| fc o21 <| fc o22 <| fc o23 <| fc o24 <| fc o25 <| fc o26 <| fc o27 <| fc o28 <| fc o29 <| fc o30 <| fc o31 <| fc o32 <| fc o33 <| fc o34 <| fc o35 <| fc o36 <| fc o37 <| fc o38 <| fc o39 <| fc o40 <| fc o41 <| fc o42 <| fc o43 <| fc o44 <| fc o45 <| fc o46 <| fc o47 <| fc o48 <| fc o49 <| fc o50 <| fc o51 <| fc o52 <| fc o53 <| fc o54 <| fc o55 <| fc o56 <| fc o57 <| fc o58 <| fc o59 <| fc o60 <| fc o61 <| fc o62 <| fc o63 <| fc o64 <| fc o65 <| fc o66 <| fc o67 <| fc o68 <| fc o69 <| fc o70 <| fc o71 <| fc o72 <| fc o73 <| fc o74 <| fc o75 <| fc o76 <| fc o77 <| fc o78 <| fc o79 <| fc o80 <| fc o81 <| fc o82 <| fc o83 <| fc o84 <| fc o85 <| fc o86 <| fc o87 <| fc o88 <| fc o89 <| fc o90 <| fc o91 <| fc o92 <| fc0)
theorem contract : ∀ n, Contract Tryd.prog T n 0 sg0 := fun n => contracts tiL_ok (by kernel_rfl) fns_ok n 0 sg0 (by simp [sigs])
end FnExactFoldLog
end Go.Proofs.YtnlhnfifkninpaaDoor
