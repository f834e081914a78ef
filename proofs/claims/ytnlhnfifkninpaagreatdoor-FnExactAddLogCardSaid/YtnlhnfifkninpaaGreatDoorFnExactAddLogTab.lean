/- The terms of the functions that FnExactAddLog reaches (printed by the author's own program). -/
import Derived.Test.YtnlhnfifkninpaaGreatDoorChecked
import Derived.Test.YtnlhnfifkninpaaGreatDoorRf9
import Derived.KernelRfl
namespace Go.Proofs.YtnlhnfifkninpaaGreatDoor
namespace FnExactAddLog
open Go Go.Proofs.YtnlhnfifkninpaaGreatDoor.Rf
set_option maxRecDepth 100000

def t3 : TI := ⟨false, 1, 8, [.sc (.int .i64 0)], [], none, (some .i64), false, false, false, false⟩
theorem ti3 : tiOf Tryz.prog 3 = some t3 := by kernel_rfl
def t4 : TI := ⟨false, 1, 1, [.sc (.bool false)], [], none, none, true, false, false, false⟩
theorem ti4 : tiOf Tryz.prog 4 = some t4 := by kernel_rfl
def t5 : TI := ⟨false, 1, 1, [.sc (.int .u8 0)], [], none, (some .u8), false, false, false, false⟩
theorem ti5 : tiOf Tryz.prog 5 = some t5 := by kernel_rfl
def t9 : TI := ⟨false, 1, 16, [.sc (.str [])], [], none, none, false, true, false, false⟩
theorem ti9 : tiOf Tryz.prog 9 = some t9 := by kernel_rfl
def t21 : TI := ⟨false, 1, 4, [.sc (.int .i32 0)], [], none, (some .i32), false, false, false, false⟩
theorem ti21 : tiOf Tryz.prog 21 = some t21 := by kernel_rfl
def t23 : TI := ⟨true, 5, 40, [.sc (.int .i64 0), .sc (.int .i64 0), .sc (.int .i64 0), .sc (.int .i64 0), .sc (.int .i64 0)], [(0, 3), (1, 3), (2, 3), (3, 3), (4, 3)], none, none, false, false, false, true⟩
theorem ti23 : tiOf Tryz.prog 23 = some t23 := by kernel_rfl
def t24 : TI := ⟨false, 1, 24, [.sl 1], [], (some 3), none, false, false, false, false⟩
theorem ti24 : tiOf Tryz.prog 24 = some t24 := by kernel_rfl
def t26 : TI := ⟨true, 2, 32, [.sc (.int .i64 0), .sl 1], [(0, 3), (1, 24)], none, none, false, false, false, false⟩
theorem ti26 : tiOf Tryz.prog 26 = some t26 := by kernel_rfl
def t28 : TI := ⟨true, 10, 96, [.sc (.int .i64 0), .sc (.int .i64 0), .sc (.int .i64 0), .sc (.int .i64 0), .sc (.int .i64 0), .sc (.int .i64 0), .sc (.int .i64 0), .sc (.int .i64 0), .sc (.int .i64 0), .sl 1], [(0, 3), (1, 3), (2, 3), (3, 23), (8, 26)], none, none, false, false, false, false⟩
theorem ti28 : tiOf Tryz.prog 28 = some t28 := by kernel_rfl
def t32 : TI := ⟨true, 5, 40, [.sc (.int .i64 0), .sc (.int .i64 0), .sc (.int .i64 0), .sc (.int .i64 0), .sc (.int .i64 0)], [(0, 3), (1, 3), (2, 3), (3, 3), (4, 3)], none, none, false, false, false, true⟩
theorem ti32 : tiOf Tryz.prog 32 = some t32 := by kernel_rfl
def t33 : TI := ⟨true, 2, 32, [.sc (.int .i64 0), .sl 1], [(0, 3), (1, 24)], none, none, false, false, false, false⟩
theorem ti33 : tiOf Tryz.prog 33 = some t33 := by kernel_rfl
def t35 : TI := ⟨true, 10, 96, [.sc (.int .i64 0), .sc (.int .i64 0), .sc (.int .i64 0), .sc (.int .i64 0), .sc (.int .i64 0), .sc (.int .i64 0), .sc (.int .i64 0), .sc (.int .i64 0), .sc (.int .i64 0), .sl 1], [(0, 3), (1, 3), (2, 3), (3, 32), (8, 33)], none, none, false, false, false, false⟩
theorem ti35 : tiOf Tryz.prog 35 = some t35 := by kernel_rfl
def t41 : TI := ⟨false, 1, 24, [.sl 1], [], (some 84), none, false, false, false, false⟩
theorem ti41 : tiOf Tryz.prog 41 = some t41 := by kernel_rfl
def t43 : TI := ⟨true, 2, 32, [.sc (.int .i64 0), .sl 1], [(0, 3), (1, 41)], none, none, false, false, false, false⟩
theorem ti43 : tiOf Tryz.prog 43 = some t43 := by kernel_rfl
def t59 : TI := ⟨false, 1, 24, [.sl 1], [], (some 9), none, false, false, false, false⟩
theorem ti59 : tiOf Tryz.prog 59 = some t59 := by kernel_rfl
def t65 : TI := ⟨false, 1, 24, [.sl 1], [], (some 5), none, false, false, false, false⟩
theorem ti65 : tiOf Tryz.prog 65 = some t65 := by kernel_rfl
def t84 : TI := ⟨false, 1, 24, [.sl 10], [], (some 35), none, false, false, false, false⟩
theorem ti84 : tiOf Tryz.prog 84 = some t84 := by kernel_rfl
def tiL : List (Nat × TI) := [(3, t3), (4, t4), (5, t5), (9, t9), (21, t21), (23, t23), (24, t24), (26, t26), (28, t28), (32, t32), (33, t33), (35, t35), (41, t41), (43, t43), (59, t59), (65, t65), (84, t84)]
theorem tiL_ok : TiOk Tryz.prog (tiTab tiL) := tiTab_ok (l := tiL) (fc ti3 <| fc ti4 <| fc ti5 <| fc ti9 <| fc ti21 <| fc ti23 <| fc ti24 <| fc ti26 <| fc ti28 <| fc ti32 <| fc ti33 <| fc ti35 <| fc ti41 <| fc ti43 <| fc ti59 <| fc ti65 <| fc ti84 <| fc0)

def sg0 : Sig := ⟨3, [(false, [.sc]), (false, [.sc]), (false, [.sc]), (false, [.sc]), (true, [.sc, .sc, .sc, .sc, .sc, .sc, .sc, .sc, .sc, .fz false])], [], [(false, [.sc])]⟩
def sg1 : Sig := ⟨4, [(true, [.sc, .sc, .sc, .sc, .sc, .sc, .sc, .sc, .sc, .fz false]), (false, [.sc])], [], [(false, [.sc])]⟩
def sg2 : Sig := ⟨9, [(true, [.sc, .fz false]), (false, [.sc])], [], [(false, [.sc])]⟩
def sg3 : Sig := ⟨20, [(false, [.fz false]), (false, [.sc])], [], [(false, [.sc])]⟩
def sg4 : Sig := ⟨6, [(true, [.sc, .sc, .sc, .sc, .sc, .sc, .sc, .sc, .sc, .fz false])], [], [(true, [.sc, .sc, .sc, .sc, .sc, .sc, .sc, .sc, .sc, .ow 99])]⟩
def sg5 : Sig := ⟨13, [(true, [.sc, .sc, .sc, .sc, .sc])], [], [(true, [.sc, .sc, .sc, .sc, .sc])]⟩
def sg6 : Sig := ⟨14, [(true, [.sc, .fz false])], [], [(true, [.sc, .ow 99])]⟩
def sg7 : Sig := ⟨29, [(false, [.fz false])], [], [(false, [.ow 99])]⟩
def sg8 : Sig := ⟨5, [(false, [.sc]), (false, [.sc]), (false, [.sc]), (false, [.sc]), (true, [.sc, .sc, .sc, .sc, .sc, .sc, .sc, .sc, .sc, .fz false])], [], [(false, [.sc]), (false, [.sc])]⟩
def sg9 : Sig := ⟨10, [(false, [.sc]), (false, [.sc]), (false, [.sc]), (true, [.sc, .sc, .sc, .sc, .sc, .sc, .sc, .sc, .sc, .fz false])], [], [(false, [.sc]), (false, [.sc])]⟩
def sg10 : Sig := ⟨21, [(false, [.sc])], [], [(false, [.sc])]⟩
def sg11 : Sig := ⟨22, [(false, [.sc]), (false, [.sc]), (false, [.sc])], [], [(false, [.sc])]⟩
def sg12 : Sig := ⟨41, [(false, [.sc]), (false, [.sc]), (false, [.sc])], [], [(false, [.sc])]⟩
def sg13 : Sig := ⟨23, [(false, [.sc]), (true, [.sc, .sc, .sc, .sc, .sc, .sc, .sc, .sc, .sc, .fz false])], [], [(false, [.sc])]⟩
def sg14 : Sig := ⟨43, [(false, [.sc])], [], [(true, [.sc, .ow 99])]⟩
def sg15 : Sig := ⟨42, [(true, [.sc, .fz false]), (true, [.sc, .fz false])], [], [(false, [.sc])]⟩
def sg16 : Sig := ⟨68, [(false, [.fz false]), (false, [.fz false])], [], [(false, [.sc])]⟩
def sg17 : Sig := ⟨44, [(true, [.sc, .sc, .sc, .sc, .sc])], [], [(false, [.sc])]⟩
def sg18 : Sig := ⟨69, [(true, [.sc, .sc, .sc, .sc, .sc])], [], [(false, [.sc])]⟩
def sg19 : Sig := ⟨85, [(false, [.sc])], [], [(false, [.sc])]⟩
def sg20 : Sig := ⟨45, [(false, [.sc]), (true, [.sc, .fz false])], [], [(false, [.sc])]⟩
def sg21 : Sig := ⟨70, [(false, [.fz false]), (false, [.sc]), (false, [.sc])], [], [(false, [.sc])]⟩
def sg22 : Sig := ⟨24, [(false, [.sc]), (false, [.sc]), (true, [.sc, .sc, .sc, .sc, .sc, .sc, .sc, .sc, .sc, .fz false])], [], [(false, [.sc])]⟩
def sg23 : Sig := ⟨46, [(false, [.sc])], [], [(false, [.sc])]⟩
def sg24 : Sig := ⟨47, [(true, [.sc, .sc, .sc, .sc, .sc])], [], [(false, [.sc])]⟩
def sg25 : Sig := ⟨48, [(true, [.sc, .fz false])], [], [(false, [.sc])]⟩
def sg26 : Sig := ⟨71, [(false, [.fz false])], [], [(false, [.sc])]⟩
def sg27 : Sig := ⟨11, [(false, [.sc]), (false, [.sc])], [], [(true, [.sc, .ow 99]), (false, [.sc])]⟩
def sg28 : Sig := ⟨25, [(false, [.sc])], [], [(true, [.sc, .ow 99])]⟩
def sg29 : Sig := ⟨26, [(false, [.sc])], [], [(false, [.ow 99]), (false, [.sc])]⟩
def sg30 : Sig := ⟨12, [(false, [.sc])], [], [(false, [.sc])]⟩
def sg31 : Sig := ⟨27, [(false, [.sc]), (false, [.sc])], [], [(false, [.sc]), (false, [.sc]), (true, [.sc, .sc, .sc, .sc, .sc, .sc, .sc, .sc, .sc, .ow 99]), (false, [.sc])]⟩
def sg32 : Sig := ⟨49, [(false, [.sc]), (false, [.sc])], [], [(false, [.ow 99])]⟩
def sg33 : Sig := ⟨50, [(false, [.sc])], [], [(false, [.sc])]⟩
def sg34 : Sig := ⟨51, [(false, [.sc])], [], [(true, [.sc, .sc, .sc, .sc, .sc]), (false, [.sc]), (false, [.sc])]⟩
def sg35 : Sig := ⟨52, [(false, [.sc]), (false, [.sc])], [], [(true, [.sc, .ow 99]), (false, [.sc])]⟩
def sg36 : Sig := ⟨72, [(false, [.sc]), (true, [.sc, .fz false])], [], [(false, [.sc])]⟩
def sg37 : Sig := ⟨28, [(true, [.sc, .fz false]), (false, [.sc]), (false, [.sc]), (true, [.sc, .sc, .sc, .sc, .sc, .sc, .sc, .sc, .sc, .fz false])], [], [(true, [.sc, .ow 99])]⟩
def sg38 : Sig := ⟨53, [(true, [.sc, .fz false])], [], [(true, [.sc, .ow 99])]⟩
def sg39 : Sig := ⟨54, [(true, [.sc, .sc, .sc, .sc, .sc, .sc, .sc, .sc, .sc, .fz false])], [], [(true, [.sc, .sc, .sc, .sc, .sc, .sc, .sc, .sc, .sc, .ow 99])]⟩
def sg40 : Sig := ⟨73, [(true, [.sc, .fz false])], [], [(true, [.sc, .ow 99])]⟩
def sg41 : Sig := ⟨86, [(false, [.fz false])], [], [(false, [.ow 99])]⟩
def sg42 : Sig := ⟨7, [(false, [.sc]), (false, [.sc]), (false, [.sc]), (false, [.sc]), (true, [.sc, .sc, .sc, .sc, .sc, .sc, .sc, .sc, .sc, .fz false])], [], [(false, [.sc]), (false, [.sc])]⟩
def sg43 : Sig := ⟨15, [(false, [.sc]), (false, [.sc]), (false, [.sc]), (true, [.sc, .sc, .sc, .sc, .sc, .sc, .sc, .sc, .sc, .fz false])], [], [(false, [.sc]), (false, [.sc])]⟩
def sg44 : Sig := ⟨30, [(false, [.sc]), (false, [.sc]), (false, [.sc])], [], [(false, [.sc])]⟩
def sg45 : Sig := ⟨33, [(false, [.sc])], [], [(false, [.sc])]⟩
def sg46 : Sig := ⟨55, [(false, [.sc]), (false, [.sc]), (false, [.sc])], [], [(false, [.sc])]⟩
def sg47 : Sig := ⟨31, [(false, [.sc]), (true, [.sc, .sc, .sc, .sc, .sc, .sc, .sc, .sc, .sc, .fz false])], [], [(false, [.sc])]⟩
def sg48 : Sig := ⟨56, [(true, [.sc, .sc, .sc, .sc, .sc])], [], [(false, [.sc])]⟩
def sg49 : Sig := ⟨74, [(false, [.sc])], [], [(false, [.sc])]⟩
def sg50 : Sig := ⟨57, [(false, [.sc]), (true, [.sc, .fz false])], [], [(false, [.sc])]⟩
def sg51 : Sig := ⟨75, [(false, [.fz false]), (false, [.clo 76 []])], [], [(false, [.sc])]⟩
def sg52 : Sig := ⟨87, [(false, [.fz false]), (false, [.clo 76 []])], [], [(false, [.sc])]⟩
def sg53 : Sig := ⟨76, [(false, [.sc])], [], [(false, [.sc])]⟩
def sg54 : Sig := ⟨59, [(false, [.sc])], [], [(true, [.sc, .ow 99])]⟩
def sg55 : Sig := ⟨58, [(true, [.sc, .fz false]), (true, [.sc, .fz false])], [], [(false, [.sc])]⟩
def sg56 : Sig := ⟨77, [(false, [.fz false]), (false, [.fz false])], [], [(false, [.sc])]⟩
def sg57 : Sig := ⟨32, [(false, [.sc]), (false, [.sc]), (true, [.sc, .sc, .sc, .sc, .sc, .sc, .sc, .sc, .sc, .fz false])], [], [(false, [.sc])]⟩
def sg58 : Sig := ⟨60, [(false, [.fz false])], [], [(false, [.sc])]⟩
def sg59 : Sig := ⟨78, [(false, [.sc]), (false, [.fz false])], [], [(false, [.sc])]⟩
def sg60 : Sig := ⟨79, [(false, [.sc])], [], [(false, [.sc])]⟩
def sg61 : Sig := ⟨89, [(false, [.sc])], [], [(false, [.sc])]⟩
def sg62 : Sig := ⟨98, [(false, [.sc]), (false, [.sc])], [], [(false, [.sc])]⟩
def sg65 : Sig := ⟨88, [(false, [.fz false]), (false, [.sc])], [], [(false, [.sc])]⟩
def sg70 : Sig := ⟨61, [(true, [.sc, .sc, .sc, .sc, .sc])], [], [(false, [.sc])]⟩
def sg71 : Sig := ⟨62, [(true, [.sc, .fz false])], [], [(false, [.sc])]⟩
def sg72 : Sig := ⟨16, [(false, [.sc]), (false, [.sc])], [], [(true, [.sc, .ow 99]), (false, [.sc]), (false, [.sc])]⟩
def sg73 : Sig := ⟨34, [(false, [.sc])], [], [(true, [.sc, .ow 99])]⟩
def sg74 : Sig := ⟨35, [(false, [.sc])], [], [(false, [.ow 99])]⟩
def sg75 : Sig := ⟨17, [(false, [.sc])], [], [(false, [.sc])]⟩
def sg76 : Sig := ⟨39, [(false, [.sc]), (false, [.sc]), (false, [.sc])], [], [(false, [.sc])]⟩
def sg77 : Sig := ⟨38, [(false, [.sc])], [], [(false, [.sc])]⟩
def sg78 : Sig := ⟨36, [(false, [.sc]), (false, [.sc])], [], [(false, [.sc]), (false, [.sc]), (true, [.sc, .sc, .sc, .sc, .sc, .sc, .sc, .sc, .sc, .ow 99]), (false, [.sc])]⟩
def sg79 : Sig := ⟨63, [(false, [.sc]), (false, [.sc])], [], [(false, [.ow 99])]⟩
def sg80 : Sig := ⟨80, [(false, [.sc]), (false, [.sc]), (false, [.sc]), (false, [.sc])], [], [(false, [.ow 99])]⟩
def sg81 : Sig := ⟨90, [(false, [.sc]), (false, [.sc])], [], [(false, [.ow 99])]⟩
def sg82 : Sig := ⟨99, [(false, [.sc])], [], [(false, [.sc])]⟩
def sg83 : Sig := ⟨100, [(false, [.sc])], [], [(false, [.sc]), (false, [.sc])]⟩
def sg84 : Sig := ⟨109, [(false, [.sc])], [], [(false, [.sc]), (false, [.sc])]⟩
def sg85 : Sig := ⟨91, [(false, [.sc]), (false, [.sc])], [], [(false, [.sc])]⟩
def sg86 : Sig := ⟨101, [(false, [.sc]), (false, [.sc])], [], [(false, [.sc])]⟩
def sg87 : Sig := ⟨92, [(false, [.sc]), (false, [.sc])], [], [(false, [.sc])]⟩
def sg88 : Sig := ⟨102, [(false, [.sc]), (false, [.sc])], [], [(false, [.sc])]⟩
def sg89 : Sig := ⟨110, [(false, [.sc]), (false, [.sc])], [], [(false, [.sc])]⟩
def sg90 : Sig := ⟨121, [(false, [.sc]), (false, [.sc])], [], [(false, [.sc])]⟩
def sg91 : Sig := ⟨64, [(false, [.fz false]), (false, [.sc])], [], [(false, [.ow 99]), (false, [.sc])]⟩
def sg92 : Sig := ⟨81, [(false, [.sc]), (false, [.sc])], [], [(false, [.sc])]⟩
def sg93 : Sig := ⟨65, [(false, [.sc])], [], [(true, [.sc, .sc, .sc, .sc, .sc]), (false, [.sc]), (false, [.sc])]⟩
def sg94 : Sig := ⟨82, [(false, [.fz false]), (false, [.sc])], [], [(false, [.sc])]⟩
def sg95 : Sig := ⟨66, [(false, [.sc]), (false, [.sc])], [], [(true, [.sc, .ow 99]), (false, [.sc])]⟩
def sg96 : Sig := ⟨83, [(false, [.sc]), (false, [.sc])], [], [(false, [.sc]), (false, [.sc]), (false, [.sc])]⟩
def sg97 : Sig := ⟨93, [(false, [.sc]), (false, [.sc])], [], [(false, [.sc]), (false, [.sc]), (false, [.sc])]⟩
def sg98 : Sig := ⟨37, [(false, [.px 0]), (false, [.sc]), (false, [.sc]), (true, [.sc, .sc, .sc, .sc, .sc, .sc, .sc, .sc, .sc, .fz false])], [(false, [(.sc, .sc), (.ow 99, .ow 99)])], []⟩
def sg99 : Sig := ⟨67, [(true, [.sc, .sc, .sc, .sc, .sc, .sc, .sc, .sc, .sc, .fz false])], [], [(true, [.sc, .sc, .sc, .sc, .sc, .sc, .sc, .sc, .sc, .ow 99])]⟩
def sg100 : Sig := ⟨84, [(true, [.sc, .fz false])], [], [(true, [.sc, .ow 99])]⟩
def sg101 : Sig := ⟨94, [(false, [.fz false])], [], [(false, [.ow 99])]⟩
def sg102 : Sig := ⟨8, [(true, [.sc, .sc, .sc, .sc, .sc, .sc, .sc, .sc, .sc, .fz false]), (true, [.sc, .sc, .sc, .sc, .sc, .sc, .sc, .sc, .sc, .fz false])], [], [(false, [.sc])]⟩
def sg103 : Sig := ⟨18, [(true, [.sc, .sc, .sc, .sc, .sc]), (true, [.sc, .sc, .sc, .sc, .sc])], [], [(false, [.sc])]⟩
def sg104 : Sig := ⟨19, [(true, [.sc, .fz false]), (true, [.sc, .fz false])], [], [(false, [.sc])]⟩
def sg105 : Sig := ⟨40, [(false, [.fz false]), (false, [.fz false])], [], [(false, [.sc])]⟩
def sigs : List (Nat × Sig) := [(0, sg0), (1, sg1), (2, sg2), (3, sg3), (4, sg4), (5, sg5), (6, sg6), (7, sg7), (8, sg8), (9, sg9), (10, sg10), (11, sg11), (12, sg12), (13, sg13), (14, sg14), (15, sg15), (16, sg16), (17, sg17), (18, sg18), (19, sg19), (20, sg20), (21, sg21), (22, sg22), (23, sg23), (24, sg24), (25, sg25), (26, sg26), (27, sg27), (28, sg28), (29, sg29), (30, sg30), (31, sg31), (32, sg32), (33, sg33), (34, sg34), (35, sg35), (36, sg36), (37, sg37), (38, sg38), (39, sg39), (40, sg40), (41, sg41), (42, sg42), (43, sg43), (44, sg44), (45, sg45), (46, sg46), (47, sg47), (48, sg48), (49, sg49), (50, sg50), (51, sg51), (52, sg52), (53, sg53), (54, sg54), (55, sg55), (56, sg56), (57, sg57), (58, sg58), (59, sg59), (60, sg60), (61, sg61), (62, sg62), (65, sg65), (70, sg70), (71, sg71), (72, sg72), (73, sg73), (74, sg74), (75, sg75), (76, sg76), (77, sg77), (78, sg78), (79, sg79), (80, sg80), (81, sg81), (82, sg82), (83, sg83), (84, sg84), (85, sg85), (86, sg86), (87, sg87), (88, sg88), (89, sg89), (90, sg90), (91, sg91), (92, sg92), (93, sg93), (94, sg94), (95, sg95), (96, sg96), (97, sg97), (98, sg98), (99, sg99), (100, sg100), (101, sg101), (102, sg102), (103, sg103), (104, sg104), (105, sg105)]
abbrev E0 : Env := ⟨tiTab tiL, sigs, 0, 0, false, false, [], []⟩

def tm0 : Tm Unit :=
(.lt none .slen [.v 1] 1 <|
(.lt none (.bin .gtr) [.v 14, .c (.int .i64 1048576)] 1 <|
(.ite (.v 15)
(.leaf .ret [.c (.bool true)] ())
(.call none 1 [.v 4, .v 5, .v 6, .v 7, .v 8, .v 9, .v 10, .v 11, .v 12, .v 13, .c (.int .i64 1048576)] 1 [] <|
(.lt none (.bin .lss) [.v 16, .c (.int .i64 0)] 1 <|
(.ite (.v 17)
(.leaf .ret [.c (.bool true)] ())
(.call none 4 [.v 4, .v 5, .v 6, .v 7, .v 8, .v 9, .v 10, .v 11, .v 12, .v 13] 10 [] <|
(.call none 8 [.v 0, .v 1, .v 2, .v 3, .v 18, .v 19, .v 20, .v 21, .v 22, .v 23, .v 24, .v 25, .v 26, .v 27] 2 [] <|
(.call none 4 [.v 4, .v 5, .v 6, .v 7, .v 8, .v 9, .v 10, .v 11, .v 12, .v 13] 10 [] <|
(.call none 42 [.v 0, .v 1, .v 2, .v 3, .v 30, .v 31, .v 32, .v 33, .v 34, .v 35, .v 36, .v 37, .v 38, .v 39] 2 [] <|
(.lt none (.bin .neq) [.v 40, .v 28] 1 <|
(.lt (some (.v 42, false)) .id [.v 41] 1 <|
(.lt (some (.v 42, false)) .id [.v 29] 1 <|
(.lt (some (.v 42, false)) (.eqb true) [.v 43, .v 44] 1 <|
(.lt none .pick [.v 42, .c (.bool true), .v 45] 1 <|
(.ite (.v 46)
(.leaf .ret [.c (.bool false)] ())
(.call none 4 [.v 4, .v 5, .v 6, .v 7, .v 8, .v 9, .v 10, .v 11, .v 12, .v 13] 10 [] <|
(.call none 102 [.v 30, .v 31, .v 32, .v 33, .v 34, .v 35, .v 36, .v 37, .v 38, .v 39, .v 47, .v 48, .v 49, .v 50, .v 51, .v 52, .v 53, .v 54, .v 55, .v 56] 1 [] <|
(.lt none .not [.v 57] 1 <|
(.ite (.v 58)
(.leaf .ret [.c (.bool false)] ())
(.leaf .ret [.c (.bool true)] ())))))))))))))))))))))
def tm1 : Tm Unit :=
(.call none 2 [.v 8, .v 9, .v 10] 1 [] <|
(.lt none (.bin .lss) [.v 11, .c (.int .i64 0)] 1 <|
(.ite (.v 12)
(.leaf .ret [.c (.int .i64 (-1))] ())
(.leaf .ret [.v 11] ()))))
def tm2 : Tm Unit :=
(.call none 3 [.v 1, .v 2] 1 [] <|
(.lt none (.bin .lss) [.v 3, .c (.int .i64 0)] 1 <|
(.ite (.v 4)
(.leaf .ret [.c (.int .i64 (-1))] ())
(.leaf .ret [.v 3] ()))))
def tm3 : Tm Unit :=
(.lt none .len [.v 0] 1 <|
(.lt none (.bin .sub) [.v 1, .v 2] 1 <|
(.lt none (.bin .lss) [.v 3, .c (.int .i64 0)] 1 <|
(.ite (.v 4)
(.leaf .ret [.c (.int .i64 (-1))] ())
(.leaf .ret [.v 3] ())))))
def tm4 : Tm Unit :=
(.call none 5 [.v 3, .v 4, .v 5, .v 6, .v 7] 5 [] <|
(.call none 6 [.v 8, .v 9] 2 [] <|
(.leaf .ret [.v 0, .v 1, .v 2, .v 10, .v 11, .v 12, .v 13, .v 14, .v 15, .v 16] ())))
def tm5 : Tm Unit :=
(.leaf .ret [.v 0, .v 1, .v 2, .v 3, .v 4] ())
def tm6 : Tm Unit :=
(.call none 7 [.v 1] 1 [] <|
(.leaf .ret [.v 0, .v 2] ()))
def tm7 : Tm Unit :=
(.lt none .len [.v 0] 1 <|
(.lt none (.make 8 [(.int .i64 0)]) [.v 1] 1 <|
(.bind 1
(.loop [.v 2, .c (.int .i64 0)]
(.lt none .len [.v 0] 1 <|
(.lt none (.bin .lss) [.v 4, .v 5] 1 <|
(.ite (.v 6)
(.lt none .inb [.v 0, .v 4] 0 <|
(.lt none (.row 1 0 [true]) [.v 0, .v 4] 1 <|
(.lt none .inb [.v 3, .v 4] 0 <|
(.lt none (.set 1 0 1) [.v 3, .v 4, .v 7] 1 <|
(.lt none (.bin .add) [.v 4, .c (.int .i64 1)] 1 <|
(.leaf .cont [.v 8, .v 9] ()))))))
(.leaf (.yield 1) [.v 3] ()))))) <|
(.leaf .ret [.v 3] ()))))
def tm8 : Tm Unit :=
(.call none 9 [.v 0, .v 2, .v 3, .v 4, .v 5, .v 6, .v 7, .v 8, .v 9, .v 10, .v 11, .v 12, .v 13] 2 [] <|
(.lt none .not [.v 15] 1 <|
(.lt (some (.v 16, false)) .id [.v 1] 1 <|
(.lt (some (.v 16, false)) .slen [.v 17] 1 <|
(.lt (some (.v 16, false)) (.bin .gtr) [.v 18, .c (.int .i64 20000)] 1 <|
(.lt none .pick [.v 16, .c (.bool true), .v 19] 1 <|
(.ite (.v 20)
(.leaf .ret [.c (.str []), .c (.bool false)] ())
(.call none 27 [.v 0, .v 1] 3 [] <|
(.call none 30 [.v 14] 1 [] <|
(.lt none (.bin .add) [.v 1, .v 24] 1 <|
(.lt none .slen [.v 1] 1 <|
(.lt none (.bin .lss) [.v 23, .v 26] 1 <|
(.lt (some (.v 27, false)) .id [.v 25] 1 <|
(.lt (some (.v 27, false)) .slen [.v 28] 1 <|
(.lt (some (.v 27, false)) (.bin .gtr) [.v 29, .c (.int .i64 20000)] 1 <|
(.lt none .pick [.v 27, .c (.bool true), .v 30] 1 <|
(.ite (.v 31)
(.leaf .ret [.c (.str []), .c (.bool false)] ())
(.leaf .ret [.v 25, .c (.bool true)] ()))))))))))))))))))
def tm9 : Tm Unit :=
(.call none 10 [.v 0] 1 [] <|
(.lt none .not [.v 13] 1 <|
(.lt (some (.v 14, false)) .id [.v 0] 1 <|
(.lt (some (.v 14, false)) .id [.v 1] 1 <|
(.lt (some (.v 14, false)) .id [.v 2] 1 <|
(.call (some (.v 14, false)) 11 [.v 15, .v 16, .v 17] 1 [] <|
(.lt (some (.v 14, false)) .not [.v 18] 1 <|
(.lt none .pick [.v 14, .c (.bool true), .v 19] 1 <|
(.lt (some (.v 20, false)) .id [.v 0] 1 <|
(.call (some (.v 20, false)) 13 [.v 21, .v 3, .v 4, .v 5, .v 6, .v 7, .v 8, .v 9, .v 10, .v 11, .v 12] 1 [] <|
(.lt (some (.v 20, false)) .not [.v 22] 1 <|
(.lt none .pick [.v 20, .c (.bool true), .v 23] 1 <|
(.ite (.v 24)
(.leaf .ret [.c (.str []), .c (.bool false)] ())
(.call none 22 [.v 1, .v 2, .v 3, .v 4, .v 5, .v 6, .v 7, .v 8, .v 9, .v 10, .v 11, .v 12] 1 [] <|
(.leaf .ret [.v 25, .c (.bool true)] ())))))))))))))))
def tm10 : Tm Unit :=
(.lt none (.bin .eql) [.v 0, .c (.int .i64 3)] 1 <|
(.lt (some (.v 1, false)) .id [.v 0] 1 <|
(.lt (some (.v 1, false)) (.bin .eql) [.v 2, .c (.int .i64 5)] 1 <|
(.lt none .pick [.v 1, .c (.bool true), .v 3] 1 <|
(.leaf .ret [.v 4] ())))))
def tm11 : Tm Unit :=
(.lt none (.bin .sub) [.v 0, .c (.int .i64 1)] 1 <|
(.call none 12 [.v 1, .c (.int .i64 0), .v 3] 1 [] <|
(.lt (some (.v 4, true)) .id [.v 2] 1 <|
(.call (some (.v 4, true)) 12 [.v 5, .c (.int .i64 1), .c (.int .i64 6)] 1 [] <|
(.lt none .pick [.v 4, .v 6, .c (.bool false)] 1 <|
(.leaf .ret [.v 7] ()))))))
def tm12 : Tm Unit :=
(.lt none (.bin .geq) [.v 0, .v 1] 1 <|
(.lt (some (.v 3, true)) .id [.v 0] 1 <|
(.lt (some (.v 3, true)) .id [.v 2] 1 <|
(.lt (some (.v 3, true)) (.bin .leq) [.v 4, .v 5] 1 <|
(.lt none .pick [.v 3, .v 6, .c (.bool false)] 1 <|
(.leaf .ret [.v 7] ()))))))
def tm13 : Tm Unit :=
(.call none 12 [.v 1, .c (.int .i64 0), .c (.int .i64 9999)] 1 [] <|
(.lt none .not [.v 11] 1 <|
(.lt (some (.v 12, false)) .id [.v 2] 1 <|
(.lt (some (.v 12, false)) .id [.v 1] 1 <|
(.call (some (.v 12, false)) 12 [.v 13, .c (.int .i64 0), .v 14] 1 [] <|
(.lt (some (.v 12, false)) .not [.v 15] 1 <|
(.lt none .pick [.v 12, .c (.bool true), .v 16] 1 <|
(.lt (some (.v 17, false)) .id [.v 3] 1 <|
(.call (some (.v 17, false)) 12 [.v 18, .c (.int .i64 0), .c (.int .i64 3)] 1 [] <|
(.lt (some (.v 17, false)) .not [.v 19] 1 <|
(.lt none .pick [.v 17, .c (.bool true), .v 20] 1 <|
(.ite (.v 21)
(.leaf .ret [.c (.bool false)] ())
(.lt none (.bin .eql) [.v 3, .c (.int .i64 0)] 1 <|
(.ite (.v 22)
(.lt none (.bin .eql) [.v 2, .c (.int .i64 0)] 1 <|
(.lt (some (.v 23, true)) (.eqs [0, 0, 0, 0, 0]) [.v 4, .v 5, .v 6, .v 7, .v 8, .c (.int .i64 0), .c (.int .i64 0), .c (.int .i64 0), .c (.int .i64 0), .c (.int .i64 0)] 1 <|
(.lt none .pick [.v 23, .v 24, .c (.bool false)] 1 <|
(.lt (some (.v 25, true)) .id [.v 0] 1 <|
(.call (some (.v 25, true)) 14 [.v 26] 2 [] <|
(.call (some (.v 25, true)) 15 [.v 9, .v 10, .v 27, .v 28] 1 [] <|
(.lt none .pick [.v 25, .v 29, .c (.bool false)] 1 <|
(.leaf .ret [.v 30] ()))))))))
(.call none 17 [.v 4, .v 5, .v 6, .v 7, .v 8] 1 [] <|
(.lt (some (.v 23, true)) .id [.v 0] 1 <|
(.call (some (.v 23, true)) 20 [.v 24, .v 9, .v 10] 1 [] <|
(.lt none .pick [.v 23, .v 25, .c (.bool false)] 1 <|
(.leaf .ret [.v 26] ())))))))))))))))))))
def tm14 : Tm Unit :=
(.lt none (.make 8 [(.int .i64 0)]) [.v 0] 1 <|
(.leaf .ret [.c (.int .i64 0), .v 1] ()))
def tm15 : Tm Unit :=
(.lt none (.bin .eql) [.v 0, .v 2] 1 <|
(.call (some (.v 4, true)) 16 [.v 1, .v 3] 1 [] <|
(.lt none .pick [.v 4, .v 5, .c (.bool false)] 1 <|
(.leaf .ret [.v 6] ()))))
def tm16 : Tm Unit :=
(.lt none .len [.v 0] 1 <|
(.lt none .len [.v 1] 1 <|
(.lt none (.bin .neq) [.v 2, .v 3] 1 <|
(.ite (.v 4)
(.leaf .ret [.c (.bool false)] ())
(.lt none .len [.v 0] 1 <|
(.bind 1
(.loop [.c (.int .i64 0)]
(.lt none (.bin .lss) [.v 6, .v 5] 1 <|
(.ite (.v 7)
(.lt none .inb [.v 0, .v 6] 0 <|
(.lt none (.row 1 0 [true]) [.v 0, .v 6] 1 <|
(.lt none .inb [.v 1, .v 6] 0 <|
(.lt none (.row 1 0 [true]) [.v 1, .v 6] 1 <|
(.lt none (.bin .neq) [.v 8, .v 9] 1 <|
(.ite (.v 10)
(.leaf .ret [.c (.bool false)] ())
(.lt none (.bin .add) [.v 6, .c (.int .i64 1)] 1 <|
(.leaf .cont [.v 11] ()))))))))
(.leaf (.yield 1) [] ())))) <|
(.leaf .ret [.c (.bool true)] ())))))))
def tm17 : Tm Unit :=
(.lt none (.bin .eql) [.v 0, .c (.int .i64 0)] 1 <|
(.ite (.v 5)
(.lt none (.eqs [0, 0, 0, 0, 0]) [.v 0, .v 1, .v 2, .v 3, .v 4, .c (.int .i64 0), .c (.int .i64 0), .c (.int .i64 0), .c (.int .i64 0), .c (.int .i64 0)] 1 <|
(.leaf .ret [.v 6] ()))
(.lt none (.bin .eql) [.v 0, .c (.int .i64 1)] 1 <|
(.ite (.v 6)
(.call none 18 [.v 0, .v 1, .v 2, .v 3, .v 4] 1 [] <|
(.lt none (.bin .eql) [.v 7, .c (.int .i64 0)] 1 <|
(.leaf .ret [.v 8] ())))
(.lt none (.bin .eql) [.v 0, .c (.int .i64 2)] 1 <|
(.ite (.v 7)
(.call none 18 [.v 0, .v 1, .v 2, .v 3, .v 4] 1 [] <|
(.lt none (.bin .eql) [.v 8, .c (.int .i64 0)] 1 <|
(.lt (some (.v 9, true)) .id [.v 3] 1 <|
(.lt (some (.v 9, true)) (.bin .eql) [.v 10, .c (.int .i64 0)] 1 <|
(.lt none .pick [.v 9, .v 11, .c (.bool false)] 1 <|
(.lt (some (.v 12, true)) .id [.v 4] 1 <|
(.lt (some (.v 12, true)) (.bin .eql) [.v 13, .c (.int .i64 0)] 1 <|
(.lt none .pick [.v 12, .v 14, .c (.bool false)] 1 <|
(.leaf .ret [.v 15] ())))))))))
(.leaf .ret [.c (.bool false)] ())))))))
def tm18 : Tm Unit :=
(.lt none (.bin .eql) [.v 0, .c (.int .i64 1)] 1 <|
(.call none 19 [.v 2] 1 [] <|
(.lt none .not [.v 6] 1 <|
(.lt (some (.v 7, false)) .id [.v 5] 1 <|
(.lt (some (.v 7, false)) .id [.v 8] 1 <|
(.lt (some (.v 9, true)) .id [.v 3] 1 <|
(.call (some (.v 9, true)) 19 [.v 10] 1 [] <|
(.lt (some (.v 9, true)) .not [.v 11] 1 <|
(.lt (some (.v 7, false)) .pick [.v 9, .v 12, .c (.bool false)] 1 <|
(.lt none .pick [.v 7, .c (.bool true), .v 13] 1 <|
(.ite (.v 14)
(.leaf .ret [.c (.int .i64 4)] ())
(.lt (some (.v 5, true)) .id [.v 2] 1 <|
(.lt (some (.v 5, true)) .id [.v 3] 1 <|
(.lt (some (.v 5, true)) (.bin .eql) [.v 15, .v 16] 1 <|
(.lt none .pick [.v 5, .v 17, .c (.bool false)] 1 <|
(.ite (.v 18)
(.leaf .ret [.c (.int .i64 5)] ())
(.call none 12 [.v 1, .c (.int .i64 1), .c (.int .i64 999)] 1 [] <|
(.lt none .not [.v 19] 1 <|
(.lt (some (.v 20, false)) .id [.v 5] 1 <|
(.lt (some (.v 20, false)) .id [.v 21] 1 <|
(.lt (some (.v 22, true)) .id [.v 4] 1 <|
(.call (some (.v 22, true)) 12 [.v 23, .c (.int .i64 1), .c (.int .i64 1000)] 1 [] <|
(.lt (some (.v 22, true)) .not [.v 24] 1 <|
(.lt (some (.v 20, false)) .pick [.v 22, .v 25, .c (.bool false)] 1 <|
(.lt none .pick [.v 20, .c (.bool true), .v 26] 1 <|
(.ite (.v 27)
(.leaf .ret [.c (.int .i64 6)] ())
(.leaf .ret [.c (.int .i64 0)] ())))))))))))))))))))))))))))
def tm19 : Tm Unit :=
(.call none 12 [.v 0, .c (.int .i64 0), .c (.int .i64 3)] 1 [] <|
(.leaf .ret [.v 1] ()))
def tm20 : Tm Unit :=
(.call none 12 [.v 1, .c (.int .i64 0), .c (.int .i64 999)] 1 [] <|
(.lt (some (.v 3, true)) .len [.v 2] 1 <|
(.lt (some (.v 3, true)) .id [.v 0] 1 <|
(.lt (some (.v 3, true)) (.bin .eql) [.v 4, .v 5] 1 <|
(.lt none .pick [.v 3, .v 6, .c (.bool false)] 1 <|
(.call (some (.v 7, true)) 21 [.v 2, .c (.int .i64 0), .c (.int .i64 6)] 1 [] <|
(.lt none .pick [.v 7, .v 8, .c (.bool false)] 1 <|
(.leaf .ret [.v 9] ()))))))))
def tm21 : Tm Unit :=
(.lt none .len [.v 0] 1 <|
(.bind 1
(.loop [.c (.int .i64 0)]
(.lt none (.bin .lss) [.v 4, .v 3] 1 <|
(.ite (.v 5)
(.lt none .inb [.v 0, .v 4] 0 <|
(.lt none (.row 1 0 [true]) [.v 0, .v 4] 1 <|
(.call none 12 [.v 6, .v 1, .v 2] 1 [] <|
(.lt none .not [.v 7] 1 <|
(.ite (.v 8)
(.leaf .ret [.c (.bool false)] ())
(.lt none (.bin .add) [.v 4, .c (.int .i64 1)] 1 <|
(.leaf .cont [.v 9] ())))))))
(.leaf (.yield 1) [] ())))) <|
(.leaf .ret [.c (.bool true)] ())))
def tm22 : Tm Unit :=
(.call none 23 [.v 0] 1 [] <|
(.lt none (.mk 1 4) [.v 1, .v 2, .v 3, .v 4] 1 <|
(.lt none .len [.v 13] 1 <|
(.bind 1
(.loop [.v 12, .c (.int .i64 0)]
(.lt none (.bin .lss) [.v 16, .v 14] 1 <|
(.ite (.v 17)
(.lt none .inb [.v 13, .v 16] 0 <|
(.lt none (.row 1 0 [true]) [.v 13, .v 16] 1 <|
(.call none 23 [.v 18] 1 [] <|
(.lt none (.bin .add) [.c (.str [32]), .v 19] 1 <|
(.lt none (.bin .add) [.v 15, .v 20] 1 <|
(.lt none (.bin .add) [.v 16, .c (.int .i64 1)] 1 <|
(.leaf .cont [.v 21, .v 22] ())))))))
(.leaf (.yield 1) [.v 15] ())))) <|
(.lt none (.bin .add) [.v 15, .c (.str [124])] 1 <|
(.call none 24 [.v 5, .v 6, .v 7, .v 8, .v 9] 1 [] <|
(.lt none (.bin .add) [.v 16, .v 17] 1 <|
(.lt none (.bin .add) [.v 18, .c (.str [124])] 1 <|
(.call none 25 [.v 10, .v 11] 1 [] <|
(.lt none (.bin .add) [.v 19, .v 20] 1 <|
(.leaf .ret [.v 21] ())))))))))))
def tm23 : Tm Unit :=
(.lt none (.bin .lss) [.v 0, .c (.int .i64 10)] 1 <|
(.ite (.v 1)
(.lt none (.bin .add) [.c (.int .i64 48), .v 0] 1 <|
(.lt none (.conv .u8) [.v 2] 1 <|
(.lt none (.mk 1 1) [.v 3] 1 <|
(.lt none .bstr [.v 4] 1 <|
(.leaf .ret [.v 5] ())))))
(.lt none (.bin .quo) [.v 0, .c (.int .i64 10)] 1 <|
(.call none 23 [.v 2] 1 [] <|
(.lt none (.bin .rem) [.v 0, .c (.int .i64 10)] 1 <|
(.lt none (.bin .add) [.c (.int .i64 48), .v 4] 1 <|
(.lt none (.conv .u8) [.v 5] 1 <|
(.lt none (.mk 1 1) [.v 6] 1 <|
(.lt none .bstr [.v 7] 1 <|
(.lt none (.bin .add) [.v 3, .v 8] 1 <|
(.leaf .ret [.v 9] ())))))))))))
def tm24 : Tm Unit :=
(.lt none (.bin .eql) [.v 0, .c (.int .i64 1)] 1 <|
(.ite (.v 5)
(.call none 23 [.v 1] 1 [] <|
(.lt none (.bin .add) [.c (.str [109, 111, 118, 101, 32]), .v 6] 1 <|
(.lt none (.bin .add) [.v 7, .c (.str [32])] 1 <|
(.call none 23 [.v 2] 1 [] <|
(.lt none (.bin .add) [.v 8, .v 9] 1 <|
(.lt none (.bin .add) [.v 10, .c (.str [32])] 1 <|
(.call none 23 [.v 3] 1 [] <|
(.lt none (.bin .add) [.v 11, .v 12] 1 <|
(.lt none (.bin .add) [.v 13, .c (.str [32])] 1 <|
(.call none 23 [.v 4] 1 [] <|
(.lt none (.bin .add) [.v 14, .v 15] 1 <|
(.leaf .ret [.v 16] ()))))))))))))
(.lt none (.bin .eql) [.v 0, .c (.int .i64 2)] 1 <|
(.ite (.v 6)
(.call none 23 [.v 1] 1 [] <|
(.lt none (.bin .add) [.c (.str [114, 101, 97, 100, 32]), .v 7] 1 <|
(.lt none (.bin .add) [.v 8, .c (.str [32])] 1 <|
(.call none 23 [.v 2] 1 [] <|
(.lt none (.bin .add) [.v 9, .v 10] 1 <|
(.leaf .ret [.v 11] ()))))))
(.leaf .ret [.c (.str [45])] ())))))
def tm25 : Tm Unit :=
(.call none 23 [.v 0] 1 [] <|
(.lt none (.bin .add) [.v 2, .c (.str [58])] 1 <|
(.call none 26 [.v 1] 1 [] <|
(.lt none (.bin .add) [.v 3, .v 4] 1 <|
(.leaf .ret [.v 5] ())))))
def tm26 : Tm Unit :=
(.lt none .len [.v 0] 1 <|
(.bind 1
(.loop [.c (.str []), .c (.int .i64 0)]
(.lt none (.bin .lss) [.v 3, .v 1] 1 <|
(.ite (.v 4)
(.lt none .inb [.v 0, .v 3] 0 <|
(.lt none (.row 1 0 [true]) [.v 0, .v 3] 1 <|
(.bind 0
(.lt none (.bin .gtr) [.v 3, .c (.int .i64 0)] 1 <|
(.ite (.v 6)
(.lt none (.bin .add) [.v 2, .c (.str [44])] 1 <|
(.leaf (.yield 0) [.v 7] ()))
(.leaf (.yield 0) [.v 2] ()))) <|
(.call none 23 [.v 5] 1 [] <|
(.lt none (.bin .add) [.v 6, .v 7] 1 <|
(.lt none (.bin .add) [.v 3, .c (.int .i64 1)] 1 <|
(.leaf .cont [.v 8, .v 9] ())))))))
(.leaf (.yield 1) [.v 2] ())))) <|
(.leaf .ret [.v 2] ())))
def tm27 : Tm Unit :=
(.call none 28 [.v 0] 2 [] <|
(.call none 29 [.v 1] 2 [] <|
(.lt none .len [.v 4] 1 <|
(.bind 1
(.loop [.c (.int .i64 0), .c (.int .i64 0), .v 2, .v 3]
(.lt none (.bin .lss) [.v 8, .v 6] 1 <|
(.ite (.v 11)
(.lt none .inb [.v 4, .v 8] 0 <|
(.lt none (.row 1 0 [true]) [.v 4, .v 8] 1 <|
(.call none 31 [.v 0, .v 12] 13 [] <|
(.lt none .not [.v 25] 1 <|
(.ite (.v 26)
(.leaf (.yield 1) [.v 7, .v 9, .v 10] ())
(.call none 37 [.v 9, .v 10, .v 13, .v 14, .v 15, .v 16, .v 17, .v 18, .v 19, .v 20, .v 21, .v 22, .v 23, .v 24] 2 [] <|
(.lt none (.dep 99) [.v 28] 0 <|
(.lt none .slen [.v 12] 1 <|
(.lt none (.bin .add) [.v 29, .c (.int .i64 4)] 1 <|
(.lt none (.bin .add) [.v 7, .v 30] 1 <|
(.lt none (.bin .add) [.v 8, .c (.int .i64 1)] 1 <|
(.leaf .cont [.v 31, .v 32, .v 27, .v 28] ()))))))))))))
(.leaf (.yield 1) [.v 7, .v 9, .v 10] ())))) <|
(.leaf .ret [.v 8, .v 9, .v 7] ())))))
def tm28 : Tm Unit :=
(.lt none (.make 24 [(.rows 10 [])]) [.v 0] 1 <|
(.leaf .ret [.v 0, .v 1] ()))
def tm29 : Tm Unit :=
(.bind 1
(.loop [.c (.rows 1 []), .c (.int .i64 0)]
(.lt none .slen [.v 0] 1 <|
(.lt none (.bin .lss) [.v 2, .v 3] 1 <|
(.ite (.v 4)
(.lt none .sidx [.v 0, .v 2] 1 <|
(.lt none (.conv .i64) [.v 5] 1 <|
(.lt none (.bin .gtr) [.v 6, .c (.int .i64 200)] 1 <|
(.lt (some (.v 7, false)) .id [.v 2] 1 <|
(.lt (some (.v 7, false)) .id [.v 6] 1 <|
(.lt (some (.v 7, false)) (.bin .add) [.v 8, .v 9] 1 <|
(.lt (some (.v 7, false)) (.bin .add) [.v 10, .c (.int .i64 4)] 1 <|
(.lt (some (.v 7, false)) .id [.v 0] 1 <|
(.lt (some (.v 7, false)) .slen [.v 12] 1 <|
(.lt (some (.v 7, false)) (.bin .gtr) [.v 11, .v 13] 1 <|
(.lt none .pick [.v 7, .c (.bool true), .v 14] 1 <|
(.ite (.v 15)
(.leaf (.yield 1) [.v 1, .v 2] ())
(.lt none (.bin .add) [.v 2, .c (.int .i64 1)] 1 <|
(.lt none (.bin .add) [.v 2, .c (.int .i64 1)] 1 <|
(.lt none (.bin .add) [.v 17, .v 6] 1 <|
(.lt none .ssub [.v 0, .v 16, .v 18] 1 <|
(.call none 30 [.v 19] 1 [] <|
(.lt none (.bin .add) [.v 2, .v 6] 1 <|
(.lt none (.bin .add) [.v 21, .c (.int .i64 4)] 1 <|
(.lt none .ssub [.v 0, .v 2, .v 22] 1 <|
(.lt none (.bin .neq) [.v 20, .v 23] 1 <|
(.ite (.v 24)
(.leaf (.yield 1) [.v 1, .v 2] ())
(.lt none (.mk 1 1) [.v 19] 1 <|
(.lt none (.app 1 16 true) [.v 1, .v 25] 1 <|
(.lt none (.bin .add) [.v 6, .c (.int .i64 4)] 1 <|
(.lt none (.bin .add) [.v 2, .v 27] 1 <|
(.leaf .cont [.v 26, .v 28] ())))))))))))))))))))))))))))
(.leaf (.yield 1) [.v 1, .v 2] ()))))) <|
(.leaf .ret [.v 1, .v 2] ()))
def tm30 : Tm Unit :=
(.lt none .slen [.v 0] 1 <|
(.lt none (.conv .u8) [.v 1] 1 <|
(.lt none (.mk 1 1) [.v 2] 1 <|
(.lt none .bstr [.v 3] 1 <|
(.lt none (.bin .add) [.v 4, .v 0] 1 <|
(.bind 1
(.loop [.c (.int .i64 7), .c (.int .i64 0)]
(.lt none .slen [.v 5] 1 <|
(.lt none (.bin .lss) [.v 7, .v 8] 1 <|
(.ite (.v 9)
(.lt none (.bin .mul) [.c (.int .i64 33), .v 6] 1 <|
(.lt none .sidx [.v 5, .v 7] 1 <|
(.lt none (.conv .i64) [.v 11] 1 <|
(.lt none (.bin .add) [.v 10, .v 12] 1 <|
(.lt none (.bin .rem) [.v 13, .c (.int .i64 65521)] 1 <|
(.lt none (.bin .add) [.v 7, .c (.int .i64 1)] 1 <|
(.leaf .cont [.v 14, .v 15] ())))))))
(.leaf (.yield 1) [.v 6] ()))))) <|
(.lt none (.bin .quo) [.v 6, .c (.int .i64 256)] 1 <|
(.lt none (.conv .u8) [.v 7] 1 <|
(.lt none (.bin .rem) [.v 6, .c (.int .i64 256)] 1 <|
(.lt none (.conv .u8) [.v 9] 1 <|
(.lt none (.mk 1 3) [.v 8, .v 10, .c (.int .u8 1)] 1 <|
(.lt none .bstr [.v 11] 1 <|
(.lt none (.bin .add) [.v 5, .v 12] 1 <|
(.leaf .ret [.v 13] ()))))))))))))))
def tm31 : Tm Unit :=
(.call none 32 [.v 1, .c (.int .u8 124)] 1 [] <|
(.call none 10 [.v 0] 1 [] <|
(.lt none .not [.v 3] 1 <|
(.lt (some (.v 4, false)) .len [.v 2] 1 <|
(.lt (some (.v 4, false)) (.bin .neq) [.v 5, .c (.int .i64 3)] 1 <|
(.lt none .pick [.v 4, .c (.bool true), .v 6] 1 <|
(.ite (.v 7)
(.leaf .ret [.c (.int .i64 0), .c (.int .i64 0), .c (.int .i64 0), .c (.int .i64 0), .c (.int .i64 0), .c (.int .i64 0), .c (.int .i64 0), .c (.int .i64 0), .c (.int .i64 0), .c (.int .i64 0), .c (.int .i64 0), .c (.rows 1 []), .c (.bool false)] ())
(.lt none .inb [.v 2, .c (.int .i64 0)] 0 <|
(.lt none (.row 1 0 [true]) [.v 2, .c (.int .i64 0)] 1 <|
(.call none 32 [.v 8, .c (.int .u8 32)] 1 [] <|
(.lt none .len [.v 9] 1 <|
(.bind 1
(.loop [.c (.rows 1 []), .c (.int .i64 0)]
(.lt none (.bin .lss) [.v 12, .v 10] 1 <|
(.ite (.v 13)
(.lt none .inb [.v 9, .v 12] 0 <|
(.lt none (.row 1 0 [true]) [.v 9, .v 12] 1 <|
(.call none 33 [.v 14] 1 [] <|
(.lt none (.mk 1 1) [.v 15] 1 <|
(.lt none (.app 1 8 true) [.v 11, .v 16] 1 <|
(.lt none (.bin .add) [.v 12, .c (.int .i64 1)] 1 <|
(.leaf .cont [.v 17, .v 18] ())))))))
(.leaf (.yield 1) [.v 11] ())))) <|
(.lt none .inb [.v 2, .c (.int .i64 1)] 0 <|
(.lt none (.row 1 0 [true]) [.v 2, .c (.int .i64 1)] 1 <|
(.call none 34 [.v 12] 7 [] <|
(.lt none .inb [.v 2, .c (.int .i64 2)] 0 <|
(.lt none (.row 1 0 [true]) [.v 2, .c (.int .i64 2)] 1 <|
(.call none 35 [.v 0, .v 20] 3 [] <|
(.lt none .len [.v 11] 1 <|
(.lt none (.bin .neq) [.v 24, .c (.int .i64 5)] 1 <|
(.lt (some (.v 25, false)) .id [.v 19] 1 <|
(.lt (some (.v 25, false)) .not [.v 26] 1 <|
(.lt none .pick [.v 25, .c (.bool true), .v 27] 1 <|
(.lt (some (.v 28, false)) .id [.v 23] 1 <|
(.lt (some (.v 28, false)) .not [.v 29] 1 <|
(.lt none .pick [.v 28, .c (.bool true), .v 30] 1 <|
(.ite (.v 31)
(.leaf .ret [.c (.int .i64 0), .c (.int .i64 0), .c (.int .i64 0), .c (.int .i64 0), .c (.int .i64 0), .c (.int .i64 0), .c (.int .i64 0), .c (.int .i64 0), .c (.int .i64 0), .c (.int .i64 0), .c (.int .i64 0), .c (.rows 1 []), .c (.bool false)] ())
(.lt none .inb [.v 11, .c (.int .i64 2)] 0 <|
(.lt none (.row 1 0 [true]) [.v 11, .c (.int .i64 2)] 1 <|
(.lt none .inb [.v 11, .c (.int .i64 3)] 0 <|
(.lt none (.row 1 0 [true]) [.v 11, .c (.int .i64 3)] 1 <|
(.lt none .inb [.v 11, .c (.int .i64 4)] 0 <|
(.lt none (.row 1 0 [true]) [.v 11, .c (.int .i64 4)] 1 <|
(.lt none .inb [.v 11, .c (.int .i64 0)] 0 <|
(.lt none (.row 1 0 [true]) [.v 11, .c (.int .i64 0)] 1 <|
(.lt none .inb [.v 11, .c (.int .i64 1)] 0 <|
(.lt none (.row 1 0 [true]) [.v 11, .c (.int .i64 1)] 1 <|
(.call none 9 [.v 0, .v 35, .v 36, .v 32, .v 33, .v 34, .v 13, .v 14, .v 15, .v 16, .v 17, .v 21, .v 22] 2 [] <|
(.lt none .not [.v 38] 1 <|
(.lt (some (.v 39, false)) .id [.v 37] 1 <|
(.lt (some (.v 39, false)) .id [.v 1] 1 <|
(.lt (some (.v 39, false)) (.bin .neq) [.v 40, .v 41] 1 <|
(.lt none .pick [.v 39, .c (.bool true), .v 42] 1 <|
(.ite (.v 43)
(.leaf .ret [.c (.int .i64 0), .c (.int .i64 0), .c (.int .i64 0), .c (.int .i64 0), .c (.int .i64 0), .c (.int .i64 0), .c (.int .i64 0), .c (.int .i64 0), .c (.int .i64 0), .c (.int .i64 0), .c (.int .i64 0), .c (.rows 1 []), .c (.bool false)] ())
(.lt none .inb [.v 11, .c (.int .i64 0)] 0 <|
(.lt none (.row 1 0 [true]) [.v 11, .c (.int .i64 0)] 1 <|
(.lt none .inb [.v 11, .c (.int .i64 1)] 0 <|
(.lt none (.row 1 0 [true]) [.v 11, .c (.int .i64 1)] 1 <|
(.leaf .ret [.v 44, .v 45, .v 32, .v 33, .v 34, .v 13, .v 14, .v 15, .v 16, .v 17, .v 21, .v 22, .c (.bool true)] ())))))))))))))))))))))))))))))))))))))))))))))))))
def tm32 : Tm Unit :=
(.bind 1
(.loop [.c (.rows 1 []), .c (.int .i64 0), .c (.int .i64 0)]
(.lt none .slen [.v 0] 1 <|
(.lt none (.bin .lss) [.v 4, .v 5] 1 <|
(.ite (.v 6)
(.bind 0
(.lt none .sidx [.v 0, .v 4] 1 <|
(.lt none (.bin .eql) [.v 7, .v 1] 1 <|
(.ite (.v 8)
(.lt none .ssub [.v 0, .v 3, .v 4] 1 <|
(.lt none (.mk 1 1) [.v 9] 1 <|
(.lt none (.app 1 16 true) [.v 2, .v 10] 1 <|
(.lt none (.bin .add) [.v 4, .c (.int .i64 1)] 1 <|
(.leaf (.yield 0) [.v 11, .v 12] ())))))
(.leaf (.yield 0) [.v 2, .v 3] ())))) <|
(.lt none (.bin .add) [.v 4, .c (.int .i64 1)] 1 <|
(.leaf .cont [.v 7, .v 8, .v 9] ())))
(.leaf (.yield 1) [.v 2, .v 3] ()))))) <|
(.lt none .slen [.v 0] 1 <|
(.lt none .ssub [.v 0, .v 3, .v 4] 1 <|
(.lt none (.mk 1 1) [.v 5] 1 <|
(.lt none (.app 1 16 true) [.v 2, .v 6] 1 <|
(.leaf .ret [.v 7] ()))))))
def tm33 : Tm Unit :=
(.lt none .slen [.v 0] 1 <|
(.call none 12 [.v 1, .c (.int .i64 1), .c (.int .i64 6)] 1 [] <|
(.lt none .not [.v 2] 1 <|
(.lt (some (.v 3, false)) .id [.v 0] 1 <|
(.lt (some (.v 3, false)) .sidx [.v 4, .c (.int .i64 0)] 1 <|
(.lt (some (.v 3, false)) (.bin .eql) [.v 5, .c (.int .u8 48)] 1 <|
(.lt (some (.v 3, false)) .id [.v 6] 1 <|
(.lt (some (.v 7, true)) .id [.v 0] 1 <|
(.lt (some (.v 7, true)) .slen [.v 8] 1 <|
(.lt (some (.v 7, true)) (.bin .gtr) [.v 9, .c (.int .i64 1)] 1 <|
(.lt (some (.v 3, false)) .pick [.v 7, .v 10, .c (.bool false)] 1 <|
(.lt none .pick [.v 3, .c (.bool true), .v 11] 1 <|
(.ite (.v 12)
(.leaf .ret [.c (.int .i64 (-1))] ())
(.bind 1
(.loop [.c (.int .i64 0), .c (.int .i64 0)]
(.lt none .slen [.v 0] 1 <|
(.lt none (.bin .lss) [.v 14, .v 15] 1 <|
(.ite (.v 16)
(.lt none .sidx [.v 0, .v 14] 1 <|
(.lt none (.bin .lss) [.v 17, .c (.int .u8 48)] 1 <|
(.lt (some (.v 18, false)) .id [.v 0] 1 <|
(.lt (some (.v 18, false)) .id [.v 14] 1 <|
(.lt (some (.v 18, false)) .sidx [.v 19, .v 20] 1 <|
(.lt (some (.v 18, false)) (.bin .gtr) [.v 21, .c (.int .u8 57)] 1 <|
(.lt none .pick [.v 18, .c (.bool true), .v 22] 1 <|
(.ite (.v 23)
(.leaf .ret [.c (.int .i64 (-1))] ())
(.lt none (.bin .mul) [.c (.int .i64 10), .v 13] 1 <|
(.lt none .sidx [.v 0, .v 14] 1 <|
(.lt none (.bin .sub) [.v 25, .c (.int .u8 48)] 1 <|
(.lt none (.conv .i64) [.v 26] 1 <|
(.lt none (.bin .add) [.v 24, .v 27] 1 <|
(.lt none (.bin .add) [.v 14, .c (.int .i64 1)] 1 <|
(.leaf .cont [.v 28, .v 29] ())))))))))))))))
(.leaf (.yield 1) [.v 13] ()))))) <|
(.leaf .ret [.v 13] ())))))))))))))))
def tm34 : Tm Unit :=
(.call none 32 [.v 0, .c (.int .u8 32)] 1 [] <|
(.bind 0
(.lt none .inb [.v 1, .c (.int .i64 0)] 0 <|
(.lt none (.row 1 0 [true]) [.v 1, .c (.int .i64 0)] 1 <|
(.lt none (.bin .eql) [.v 2, .c (.str [109, 111, 118, 101])] 1 <|
(.ite (.v 3)
(.leaf (.yield 0) [.c (.int .i64 5), .c (.int .i64 1)] ())
(.lt none (.bin .eql) [.v 2, .c (.str [114, 101, 97, 100])] 1 <|
(.ite (.v 4)
(.leaf (.yield 0) [.c (.int .i64 3), .c (.int .i64 2)] ())
(.lt none (.bin .eql) [.v 2, .c (.str [45])] 1 <|
(.ite (.v 5)
(.leaf (.yield 0) [.c (.int .i64 1), .c (.int .i64 0)] ())
(.leaf .ret [.c (.int .i64 0), .c (.int .i64 0), .c (.int .i64 0), .c (.int .i64 0), .c (.int .i64 0), .c (.int .i64 1), .c (.bool false)] ()))))))))) <|
(.lt none .len [.v 1] 1 <|
(.lt none (.bin .neq) [.v 4, .v 2] 1 <|
(.ite (.v 5)
(.leaf .ret [.c (.int .i64 0), .c (.int .i64 0), .c (.int .i64 0), .c (.int .i64 0), .c (.int .i64 0), .c (.int .i64 2), .c (.bool false)] ())
(.lt none (.make 8 [(.int .i64 0)]) [.c (.int .i64 4)] 1 <|
(.lt none .len [.v 1] 1 <|
(.lt none (.sub 1 true) [.v 1, .c (.int .i64 1), .v 7] 1 <|
(.lt none .len [.v 8] 1 <|
(.bind 2
(.loop [.v 6, .c (.int .i64 0)]
(.lt none (.bin .lss) [.v 11, .v 9] 1 <|
(.ite (.v 12)
(.lt none .inb [.v 8, .v 11] 0 <|
(.lt none (.row 1 0 [true]) [.v 8, .v 11] 1 <|
(.call none 33 [.v 13] 1 [] <|
(.lt none .inb [.v 10, .v 11] 0 <|
(.lt none (.set 1 0 1) [.v 10, .v 11, .v 14] 1 <|
(.lt none .slen [.v 13] 1 <|
(.lt none (.bin .gtr) [.v 16, .c (.int .i64 4)] 1 <|
(.lt (some (.v 17, false)) .id [.v 11] 1 <|
(.lt (some (.v 17, false)) .inb [.v 15, .v 18] 0 <|
(.lt (some (.v 17, false)) (.row 1 0 [true]) [.v 15, .v 18] 1 <|
(.lt (some (.v 17, false)) (.bin .lss) [.v 19, .c (.int .i64 0)] 1 <|
(.lt none .pick [.v 17, .c (.bool true), .v 20] 1 <|
(.ite (.v 21)
(.leaf .ret [.c (.int .i64 0), .c (.int .i64 0), .c (.int .i64 0), .c (.int .i64 0), .c (.int .i64 0), .c (.int .i64 3), .c (.bool false)] ())
(.lt none (.bin .add) [.v 11, .c (.int .i64 1)] 1 <|
(.leaf .cont [.v 15, .v 22] ())))))))))))))))
(.leaf (.yield 2) [.v 10] ())))) <|
(.lt none .inb [.v 10, .c (.int .i64 0)] 0 <|
(.lt none (.row 1 0 [true]) [.v 10, .c (.int .i64 0)] 1 <|
(.lt none .inb [.v 10, .c (.int .i64 1)] 0 <|
(.lt none (.row 1 0 [true]) [.v 10, .c (.int .i64 1)] 1 <|
(.lt none .inb [.v 10, .c (.int .i64 2)] 0 <|
(.lt none (.row 1 0 [true]) [.v 10, .c (.int .i64 2)] 1 <|
(.lt none .inb [.v 10, .c (.int .i64 3)] 0 <|
(.lt none (.row 1 0 [true]) [.v 10, .c (.int .i64 3)] 1 <|
(.lt none (.bin .eql) [.v 3, .c (.int .i64 0)] 1 <|
(.ite (.v 15)
(.leaf .ret [.v 3, .v 11, .v 12, .v 13, .v 14, .c (.int .i64 0), .c (.bool true)] ())
(.call none 18 [.v 3, .v 11, .v 12, .v 13, .v 14] 1 [] <|
(.lt none (.bin .gtr) [.v 16, .c (.int .i64 0)] 1 <|
(.ite (.v 17)
(.leaf .ret [.c (.int .i64 0), .c (.int .i64 0), .c (.int .i64 0), .c (.int .i64 0), .c (.int .i64 0), .v 16, .c (.bool false)] ())
(.leaf .ret [.v 3, .v 11, .v 12, .v 13, .v 14, .c (.int .i64 0), .c (.bool true)] ()))))))))))))))))))))))))
def tm35 : Tm Unit :=
(.call none 32 [.v 1, .c (.int .u8 58)] 1 [] <|
(.lt none .slen [.v 1] 1 <|
(.lt none (.bin .gtr) [.v 3, .c (.int .i64 40)] 1 <|
(.lt (some (.v 4, false)) .len [.v 2] 1 <|
(.lt (some (.v 4, false)) (.bin .neq) [.v 5, .c (.int .i64 2)] 1 <|
(.lt none .pick [.v 4, .c (.bool true), .v 6] 1 <|
(.ite (.v 7)
(.leaf .ret [.c (.int .i64 0), .c (.rows 1 []), .c (.bool false)] ())
(.lt none .inb [.v 2, .c (.int .i64 0)] 0 <|
(.lt none (.row 1 0 [true]) [.v 2, .c (.int .i64 0)] 1 <|
(.call none 33 [.v 8] 1 [] <|
(.lt none .inb [.v 2, .c (.int .i64 1)] 0 <|
(.lt none (.row 1 0 [true]) [.v 2, .c (.int .i64 1)] 1 <|
(.call none 32 [.v 10, .c (.int .u8 44)] 1 [] <|
(.lt none .len [.v 11] 1 <|
(.bind 1
(.loop [.c (.int .i64 0), .c (.rows 1 [])]
(.lt none (.bin .lss) [.v 13, .v 12] 1 <|
(.ite (.v 15)
(.lt none .inb [.v 11, .v 13] 0 <|
(.lt none (.row 1 0 [true]) [.v 11, .v 13] 1 <|
(.call none 33 [.v 16] 1 [] <|
(.lt none (.mk 1 1) [.v 17] 1 <|
(.lt none (.app 1 8 true) [.v 14, .v 18] 1 <|
(.lt none (.bin .add) [.v 13, .c (.int .i64 1)] 1 <|
(.leaf .cont [.v 20, .v 19] ())))))))
(.leaf (.yield 1) [.v 14] ())))) <|
(.call none 36 [.v 0, .v 9, .v 13] 1 [] <|
(.lt none .not [.v 14] 1 <|
(.ite (.v 15)
(.leaf .ret [.c (.int .i64 0), .c (.rows 1 []), .c (.bool false)] ())
(.leaf .ret [.v 9, .v 13, .c (.bool true)] ())))))))))))))))))))
def tm36 : Tm Unit :=
(.call none 10 [.v 0] 1 [] <|
(.lt (some (.v 3, true)) .id [.v 0] 1 <|
(.call (some (.v 3, true)) 20 [.v 4, .v 1, .v 2] 1 [] <|
(.lt none .pick [.v 3, .v 5, .c (.bool false)] 1 <|
(.leaf .ret [.v 6] ())))))
def tm37 : Tm Unit :=
(.call none 38 [.v 0, .v 1] 2 [] <|
(.bind 1
(.loop [.v 15]
(.lt none .inb [.v 16, .v 2] 0 <|
(.lt none (.row 1 0 [false]) [.v 16, .v 2] 1 <|
(.lt none .len [.v 17] 1 <|
(.lt none (.bin .lss) [.v 18, .v 3] 1 <|
(.ite (.v 19)
(.lt none .inb [.v 16, .v 2] 0 <|
(.lt none (.row 1 0 [false]) [.v 16, .v 2] 1 <|
(.call none 14 [.v 0] 2 [] <|
(.lt none (.mk 10 1) [.c (.int .i64 0), .c (.int .i64 0), .c (.int .i64 0), .c (.int .i64 0), .c (.int .i64 0), .c (.int .i64 0), .c (.int .i64 0), .c (.int .i64 0), .v 21, .v 22] 1 <|
(.lt none (.set 1 0 1) [.v 16, .v 2, .c .hole] 1 <|
(.lt none (.app 10 96 false) [.v 20, .v 23] 1 <|
(.lt none .inb [.v 24, .v 2] 0 <|
(.lt none (.set 1 0 1) [.v 24, .v 2, .v 25] 1 <|
(.leaf .cont [.v 26] ())))))))))
(.leaf (.yield 1) [.v 16] ()))))))) <|
(.lt none .inb [.v 16, .v 2] 0 <|
(.lt none (.row 1 0 [false]) [.v 16, .v 2] 1 <|
(.lt none (.bin .sub) [.v 3, .c (.int .i64 1)] 1 <|
(.call none 39 [.v 4, .v 5, .v 6, .v 7, .v 8, .v 9, .v 10, .v 11, .v 12, .v 13] 10 [] <|
(.lt none .inb [.v 17, .v 18] 0 <|
(.lt none (.set 10 0 10) [.v 17, .v 18, .v 19, .v 20, .v 21, .v 22, .v 23, .v 24, .v 25, .v 26, .v 27, .v 28] 1 <|
(.lt none (.set 1 0 1) [.v 16, .v 2, .v 29] 1 <|
(.leaf .ret [.v 14, .v 30] ()))))))))))
def tm38 : Tm Unit :=
(.call none 28 [.v 0] 2 [] <|
(.lt none .len [.v 1] 1 <|
(.bind 1
(.loop [.c (.int .i64 0), .v 3]
(.lt none (.bin .lss) [.v 5, .v 4] 1 <|
(.ite (.v 7)
(.lt none .inb [.v 1, .v 5] 0 <|
(.lt none (.row 1 0 [false]) [.v 1, .v 5] 1 <|
(.lt none .len [.v 8] 1 <|
(.bind 3
(.loop [.c (.int .i64 0), .v 6]
(.lt none (.bin .lss) [.v 10, .v 9] 1 <|
(.ite (.v 12)
(.lt none .inb [.v 8, .v 10] 0 <|
(.lt none (.row 10 0 [true, true, true, true, true, true, true, true, true, false]) [.v 8, .v 10] 10 <|
(.lt none .inb [.v 11, .v 5] 0 <|
(.lt none (.row 1 0 [false]) [.v 11, .v 5] 1 <|
(.call none 39 [.v 13, .v 14, .v 15, .v 16, .v 17, .v 18, .v 19, .v 20, .v 21, .v 22] 10 [] <|
(.lt none (.mk 10 1) [.v 24, .v 25, .v 26, .v 27, .v 28, .v 29, .v 30, .v 31, .v 32, .v 33] 1 <|
(.lt none (.set 1 0 1) [.v 11, .v 5, .c .hole] 1 <|
(.lt none (.app 10 96 false) [.v 23, .v 34] 1 <|
(.lt none .inb [.v 35, .v 5] 0 <|
(.lt none (.set 1 0 1) [.v 35, .v 5, .v 36] 1 <|
(.lt none (.bin .add) [.v 10, .c (.int .i64 1)] 1 <|
(.leaf .cont [.v 38, .v 37] ()))))))))))))
(.leaf (.yield 3) [.v 11] ())))) <|
(.lt none (.bin .add) [.v 5, .c (.int .i64 1)] 1 <|
(.leaf .cont [.v 11, .v 10] ()))))))
(.leaf (.yield 1) [.v 6] ())))) <|
(.leaf .ret [.v 2, .v 5] ()))))
def tm39 : Tm Unit :=
(.call none 40 [.v 8, .v 9] 2 [] <|
(.leaf .ret [.v 0, .v 1, .v 2, .v 3, .v 4, .v 5, .v 6, .v 7, .v 10, .v 11] ()))
def tm40 : Tm Unit :=
(.call none 41 [.v 1] 1 [] <|
(.leaf .ret [.v 0, .v 2] ()))
def tm41 : Tm Unit :=
(.lt none (.mk 1 0) [] 1 <|
(.lt none (.app 1 8 true) [.v 1, .v 0] 1 <|
(.leaf .ret [.v 2] ())))
def tm42 : Tm Unit :=
(.call none 43 [.v 0, .v 2, .v 3, .v 4, .v 5, .v 6, .v 7, .v 8, .v 9, .v 10, .v 11, .v 12, .v 13] 2 [] <|
(.call none 72 [.v 0, .v 1] 4 [] <|
(.lt none .not [.v 15] 1 <|
(.lt (some (.v 20, false)) .id [.v 19] 1 <|
(.lt (some (.v 20, false)) .not [.v 21] 1 <|
(.lt none .pick [.v 20, .c (.bool true), .v 22] 1 <|
(.lt (some (.v 23, false)) .id [.v 18] 1 <|
(.lt (some (.v 23, false)) .id [.v 1] 1 <|
(.lt (some (.v 23, false)) .slen [.v 25] 1 <|
(.lt (some (.v 23, false)) (.bin .neq) [.v 24, .v 26] 1 <|
(.lt none .pick [.v 23, .c (.bool true), .v 27] 1 <|
(.lt (some (.v 28, false)) .id [.v 14] 1 <|
(.lt (some (.v 28, false)) .slen [.v 29] 1 <|
(.lt (some (.v 28, false)) (.bin .gtr) [.v 30, .c (.int .i64 200)] 1 <|
(.lt none .pick [.v 28, .c (.bool true), .v 31] 1 <|
(.lt (some (.v 32, false)) .id [.v 1] 1 <|
(.lt (some (.v 32, false)) .slen [.v 33] 1 <|
(.lt (some (.v 32, false)) .id [.v 14] 1 <|
(.lt (some (.v 32, false)) .slen [.v 35] 1 <|
(.lt (some (.v 32, false)) (.bin .add) [.v 34, .v 36] 1 <|
(.lt (some (.v 32, false)) (.bin .add) [.v 37, .c (.int .i64 4)] 1 <|
(.lt (some (.v 32, false)) (.bin .gtr) [.v 38, .c (.int .i64 20000)] 1 <|
(.lt none .pick [.v 32, .c (.bool true), .v 39] 1 <|
(.ite (.v 40)
(.leaf .ret [.c (.str []), .c (.bool false)] ())
(.call none 75 [.v 14] 1 [] <|
(.lt none (.bin .add) [.v 1, .v 41] 1 <|
(.leaf .ret [.v 42, .c (.bool true)] ())))))))))))))))))))))))))))
def tm43 : Tm Unit :=
(.call none 44 [.v 0, .v 1, .v 2] 1 [] <|
(.lt none .not [.v 13] 1 <|
(.lt (some (.v 14, false)) .id [.v 0] 1 <|
(.call (some (.v 14, false)) 47 [.v 15, .v 3, .v 4, .v 5, .v 6, .v 7, .v 8, .v 9, .v 10, .v 11, .v 12] 1 [] <|
(.lt (some (.v 14, false)) .not [.v 16] 1 <|
(.lt none .pick [.v 14, .c (.bool true), .v 17] 1 <|
(.ite (.v 18)
(.leaf .ret [.c (.str []), .c (.bool false)] ())
(.call none 57 [.v 1, .v 2, .v 3, .v 4, .v 5, .v 6, .v 7, .v 8, .v 9, .v 10, .v 11, .v 12] 1 [] <|
(.leaf .ret [.v 19, .c (.bool true)] ())))))))))
def tm44 : Tm Unit :=
(.call none 45 [.v 0] 1 [] <|
(.lt (some (.v 3, true)) .id [.v 1] 1 <|
(.lt (some (.v 3, true)) .id [.v 0] 1 <|
(.lt (some (.v 3, true)) (.bin .sub) [.v 5, .c (.int .i64 1)] 1 <|
(.call (some (.v 3, true)) 46 [.v 4, .c (.int .i64 0), .v 6] 1 [] <|
(.lt none .pick [.v 3, .v 7, .c (.bool false)] 1 <|
(.lt (some (.v 8, true)) .id [.v 2] 1 <|
(.call (some (.v 8, true)) 46 [.v 9, .c (.int .i64 1), .c (.int .i64 6)] 1 [] <|
(.lt none .pick [.v 8, .v 10, .c (.bool false)] 1 <|
(.leaf .ret [.v 11] ()))))))))))
def tm45 : Tm Unit :=
(.lt none (.bin .eql) [.v 0, .c (.int .i64 3)] 1 <|
(.lt (some (.v 1, false)) .id [.v 0] 1 <|
(.lt (some (.v 1, false)) (.bin .eql) [.v 2, .c (.int .i64 5)] 1 <|
(.lt none .pick [.v 1, .c (.bool true), .v 3] 1 <|
(.leaf .ret [.v 4] ())))))
def tm46 : Tm Unit :=
(.lt none (.bin .leq) [.v 1, .v 0] 1 <|
(.lt (some (.v 3, true)) .id [.v 0] 1 <|
(.lt (some (.v 3, true)) .id [.v 2] 1 <|
(.lt (some (.v 3, true)) (.bin .leq) [.v 4, .v 5] 1 <|
(.lt none .pick [.v 3, .v 6, .c (.bool false)] 1 <|
(.leaf .ret [.v 7] ()))))))
def tm47 : Tm Unit :=
(.call none 46 [.v 1, .c (.int .i64 0), .c (.int .i64 9999)] 1 [] <|
(.lt none .not [.v 11] 1 <|
(.lt (some (.v 12, false)) .id [.v 2] 1 <|
(.lt (some (.v 12, false)) .id [.v 1] 1 <|
(.call (some (.v 12, false)) 46 [.v 13, .c (.int .i64 0), .v 14] 1 [] <|
(.lt (some (.v 12, false)) .not [.v 15] 1 <|
(.lt none .pick [.v 12, .c (.bool true), .v 16] 1 <|
(.lt (some (.v 17, false)) .id [.v 3] 1 <|
(.call (some (.v 17, false)) 46 [.v 18, .c (.int .i64 0), .c (.int .i64 3)] 1 [] <|
(.lt (some (.v 17, false)) .not [.v 19] 1 <|
(.lt none .pick [.v 17, .c (.bool true), .v 20] 1 <|
(.call (some (.v 21, false)) 48 [.v 4, .v 5, .v 6, .v 7, .v 8] 1 [] <|
(.lt (some (.v 21, false)) .not [.v 22] 1 <|
(.lt none .pick [.v 21, .c (.bool true), .v 23] 1 <|
(.lt (some (.v 24, false)) .id [.v 0] 1 <|
(.call (some (.v 24, false)) 50 [.v 25, .v 9, .v 10] 1 [] <|
(.lt (some (.v 24, false)) .not [.v 26] 1 <|
(.lt none .pick [.v 24, .c (.bool true), .v 27] 1 <|
(.ite (.v 28)
(.leaf .ret [.c (.bool false)] ())
(.lt none (.bin .neq) [.v 3, .c (.int .i64 0)] 1 <|
(.lt (some (.v 29, false)) .id [.v 2] 1 <|
(.lt (some (.v 29, false)) (.bin .eql) [.v 30, .c (.int .i64 0)] 1 <|
(.lt (some (.v 29, false)) .id [.v 31] 1 <|
(.lt (some (.v 32, true)) (.eqs [0, 0, 0, 0, 0]) [.v 4, .v 5, .v 6, .v 7, .v 8, .c (.int .i64 0), .c (.int .i64 0), .c (.int .i64 0), .c (.int .i64 0), .c (.int .i64 0)] 1 <|
(.lt (some (.v 29, false)) .pick [.v 32, .v 33, .c (.bool false)] 1 <|
(.lt (some (.v 29, false)) .id [.v 34] 1 <|
(.lt (some (.v 35, true)) .id [.v 0] 1 <|
(.call (some (.v 35, true)) 54 [.v 36] 2 [] <|
(.call (some (.v 35, true)) 55 [.v 9, .v 10, .v 37, .v 38] 1 [] <|
(.lt (some (.v 29, false)) .pick [.v 35, .v 39, .c (.bool false)] 1 <|
(.lt none .pick [.v 29, .c (.bool true), .v 40] 1 <|
(.leaf .ret [.v 41] ()))))))))))))))))))))))))))))))))
def tm48 : Tm Unit :=
(.lt none (.bin .eql) [.v 0, .c (.int .i64 0)] 1 <|
(.ite (.v 5)
(.lt none (.eqs [0, 0, 0, 0, 0]) [.v 0, .v 1, .v 2, .v 3, .v 4, .c (.int .i64 0), .c (.int .i64 0), .c (.int .i64 0), .c (.int .i64 0), .c (.int .i64 0)] 1 <|
(.leaf .ret [.v 6] ()))
(.lt none (.bin .eql) [.v 0, .c (.int .i64 1)] 1 <|
(.ite (.v 6)
(.call none 46 [.v 1, .c (.int .i64 1), .c (.int .i64 999)] 1 [] <|
(.lt (some (.v 7, true)) .id [.v 2] 1 <|
(.call (some (.v 7, true)) 49 [.v 8] 1 [] <|
(.lt none .pick [.v 7, .v 9, .c (.bool false)] 1 <|
(.lt (some (.v 10, true)) .id [.v 3] 1 <|
(.call (some (.v 10, true)) 49 [.v 11] 1 [] <|
(.lt none .pick [.v 10, .v 12, .c (.bool false)] 1 <|
(.lt (some (.v 13, true)) .id [.v 2] 1 <|
(.lt (some (.v 13, true)) .id [.v 3] 1 <|
(.lt (some (.v 13, true)) (.bin .neq) [.v 14, .v 15] 1 <|
(.lt none .pick [.v 13, .v 16, .c (.bool false)] 1 <|
(.lt (some (.v 17, true)) .id [.v 4] 1 <|
(.call (some (.v 17, true)) 46 [.v 18, .c (.int .i64 1), .c (.int .i64 1000)] 1 [] <|
(.lt none .pick [.v 17, .v 19, .c (.bool false)] 1 <|
(.leaf .ret [.v 20] ())))))))))))))))
(.lt none (.bin .eql) [.v 0, .c (.int .i64 2)] 1 <|
(.lt (some (.v 7, true)) .id [.v 1] 1 <|
(.call (some (.v 7, true)) 46 [.v 8, .c (.int .i64 1), .c (.int .i64 999)] 1 [] <|
(.lt none .pick [.v 7, .v 9, .c (.bool false)] 1 <|
(.lt (some (.v 10, true)) .id [.v 2] 1 <|
(.call (some (.v 10, true)) 49 [.v 11] 1 [] <|
(.lt none .pick [.v 10, .v 12, .c (.bool false)] 1 <|
(.lt (some (.v 13, true)) .id [.v 3] 1 <|
(.lt (some (.v 13, true)) (.bin .eql) [.v 14, .c (.int .i64 0)] 1 <|
(.lt none .pick [.v 13, .v 15, .c (.bool false)] 1 <|
(.lt (some (.v 16, true)) .id [.v 4] 1 <|
(.lt (some (.v 16, true)) (.bin .eql) [.v 17, .c (.int .i64 0)] 1 <|
(.lt none .pick [.v 16, .v 18, .c (.bool false)] 1 <|
(.leaf .ret [.v 19] ()))))))))))))))))))
def tm49 : Tm Unit :=
(.call none 46 [.v 0, .c (.int .i64 0), .c (.int .i64 3)] 1 [] <|
(.leaf .ret [.v 1] ()))
def tm50 : Tm Unit :=
(.call none 45 [.v 0] 1 [] <|
(.lt (some (.v 3, true)) .id [.v 1] 1 <|
(.call (some (.v 3, true)) 46 [.v 4, .c (.int .i64 0), .c (.int .i64 999)] 1 [] <|
(.lt none .pick [.v 3, .v 5, .c (.bool false)] 1 <|
(.lt (some (.v 6, true)) .len [.v 2] 1 <|
(.lt (some (.v 6, true)) .id [.v 0] 1 <|
(.lt (some (.v 6, true)) (.bin .eql) [.v 7, .v 8] 1 <|
(.lt none .pick [.v 6, .v 9, .c (.bool false)] 1 <|
(.call (some (.v 10, true)) 51 [.v 2] 1 [] <|
(.lt (some (.v 10, true)) .not [.v 11] 1 <|
(.lt none .pick [.v 10, .v 12, .c (.bool false)] 1 <|
(.leaf .ret [.v 13] ()))))))))))))
def tm51 : Tm Unit :=
(.call none 52 [.v 0] 1 [] <|
(.lt none (.bin .geq) [.v 1, .c (.int .i64 0)] 1 <|
(.leaf .ret [.v 2] ())))
def tm52 : Tm Unit :=
(.lt none .len [.v 0] 1 <|
(.bind 1
(.loop [.c (.int .i64 0)]
(.lt none (.bin .lss) [.v 2, .v 1] 1 <|
(.ite (.v 3)
(.lt none .inb [.v 0, .v 2] 0 <|
(.lt none (.row 1 0 [true]) [.v 0, .v 2] 1 <|
(.call none 53 [.v 4] 1 [] <|
(.ite (.v 5)
(.leaf .ret [.v 2] ())
(.lt none (.bin .add) [.v 2, .c (.int .i64 1)] 1 <|
(.leaf .cont [.v 6] ()))))))
(.leaf (.yield 1) [] ())))) <|
(.leaf .ret [.c (.int .i64 (-1))] ())))
def tm53 : Tm Unit :=
(.call none 46 [.v 0, .c (.int .i64 0), .c (.int .i64 6)] 1 [] <|
(.lt none .not [.v 1] 1 <|
(.leaf .ret [.v 2] ())))
def tm54 : Tm Unit :=
(.lt none (.make 8 [(.int .i64 0)]) [.v 0] 1 <|
(.leaf .ret [.c (.int .i64 0), .v 1] ()))
def tm55 : Tm Unit :=
(.lt none (.bin .eql) [.v 0, .v 2] 1 <|
(.call (some (.v 4, true)) 56 [.v 1, .v 3] 1 [] <|
(.lt none .pick [.v 4, .v 5, .c (.bool false)] 1 <|
(.leaf .ret [.v 6] ()))))
def tm56 : Tm Unit :=
(.lt none .len [.v 0] 1 <|
(.lt none .len [.v 1] 1 <|
(.lt none (.bin .neq) [.v 2, .v 3] 1 <|
(.ite (.v 4)
(.leaf .ret [.c (.bool false)] ())
(.lt none .len [.v 0] 1 <|
(.bind 1
(.loop [.c (.int .i64 0)]
(.lt none (.bin .lss) [.v 6, .v 5] 1 <|
(.ite (.v 7)
(.lt none .inb [.v 0, .v 6] 0 <|
(.lt none (.row 1 0 [true]) [.v 0, .v 6] 1 <|
(.lt none .inb [.v 1, .v 6] 0 <|
(.lt none (.row 1 0 [true]) [.v 1, .v 6] 1 <|
(.lt none (.bin .neq) [.v 8, .v 9] 1 <|
(.ite (.v 10)
(.leaf .ret [.c (.bool false)] ())
(.lt none (.bin .add) [.v 6, .c (.int .i64 1)] 1 <|
(.leaf .cont [.v 11] ()))))))))
(.leaf (.yield 1) [] ())))) <|
(.leaf .ret [.c (.bool true)] ())))))))
def tm57 : Tm Unit :=
(.lt none (.mk 1 5) [.v 0, .v 1, .v 2, .v 3, .v 4] 1 <|
(.call none 58 [.v 12] 1 [] <|
(.lt none (.bin .add) [.v 13, .c (.str [124])] 1 <|
(.call none 70 [.v 5, .v 6, .v 7, .v 8, .v 9] 1 [] <|
(.lt none (.bin .add) [.v 14, .v 15] 1 <|
(.lt none (.bin .add) [.v 16, .c (.str [124])] 1 <|
(.call none 71 [.v 10, .v 11] 1 [] <|
(.lt none (.bin .add) [.v 17, .v 18] 1 <|
(.leaf .ret [.v 19] ())))))))))
def tm58 : Tm Unit :=
(.call none 59 [.c (.str [32]), .v 0] 1 [] <|
(.leaf .ret [.v 1] ()))
def tm59 : Tm Unit :=
(.lt none (.mk 1 0) [] 1 <|
(.lt none .len [.v 1] 1 <|
(.bind 1
(.loop [.v 2, .c (.int .i64 0)]
(.lt none (.bin .lss) [.v 5, .v 3] 1 <|
(.ite (.v 6)
(.lt none .inb [.v 1, .v 5] 0 <|
(.lt none (.row 1 0 [true]) [.v 1, .v 5] 1 <|
(.call none 60 [.v 7] 1 [] <|
(.lt none (.mk 1 1) [.v 8] 1 <|
(.lt none (.app 1 16 true) [.v 4, .v 9] 1 <|
(.lt none (.bin .add) [.v 5, .c (.int .i64 1)] 1 <|
(.leaf .cont [.v 10, .v 11] ())))))))
(.leaf (.yield 1) [.v 4] ())))) <|
(.call none 65 [.v 4, .v 0] 1 [] <|
(.leaf .ret [.v 5] ())))))
def tm60 : Tm Unit :=
(.call none 61 [.v 0] 1 [] <|
(.leaf .ret [.v 1] ()))
def tm61 : Tm Unit :=
(.call none 62 [.v 0, .c (.int .i64 10)] 1 [] <|
(.leaf .ret [.v 1] ()))
def tm62 : Tm Unit := .stuck
def tm65 : Tm Unit := .stuck
def tm70 : Tm Unit :=
(.lt none (.bin .eql) [.v 0, .c (.int .i64 1)] 1 <|
(.ite (.v 5)
(.lt none (.mk 1 4) [.v 1, .v 2, .v 3, .v 4] 1 <|
(.call none 58 [.v 6] 1 [] <|
(.lt none (.bin .add) [.c (.str [109, 111, 118, 101, 32]), .v 7] 1 <|
(.leaf .ret [.v 8] ()))))
(.lt none (.bin .eql) [.v 0, .c (.int .i64 2)] 1 <|
(.ite (.v 6)
(.lt none (.mk 1 2) [.v 1, .v 2] 1 <|
(.call none 58 [.v 7] 1 [] <|
(.lt none (.bin .add) [.c (.str [114, 101, 97, 100, 32]), .v 8] 1 <|
(.leaf .ret [.v 9] ()))))
(.leaf .ret [.c (.str [45])] ())))))
def tm71 : Tm Unit :=
(.call none 60 [.v 0] 1 [] <|
(.lt none (.bin .add) [.v 2, .c (.str [58])] 1 <|
(.call none 59 [.c (.str [44]), .v 1] 1 [] <|
(.lt none (.bin .add) [.v 3, .v 4] 1 <|
(.leaf .ret [.v 5] ())))))
def tm72 : Tm Unit :=
(.call none 45 [.v 0] 1 [] <|
(.lt none .not [.v 2] 1 <|
(.lt (some (.v 3, false)) .id [.v 1] 1 <|
(.lt (some (.v 3, false)) .slen [.v 4] 1 <|
(.lt (some (.v 3, false)) (.bin .gtr) [.v 5, .c (.int .i64 20000)] 1 <|
(.lt none .pick [.v 3, .c (.bool true), .v 6] 1 <|
(.ite (.v 7)
(.leaf .ret [.c (.int .i64 0), .c (.rows 1 []), .c (.int .i64 0), .c (.bool false)] ())
(.call none 73 [.v 0] 2 [] <|
(.call none 74 [.v 1] 1 [] <|
(.lt none .len [.v 10] 1 <|
(.bind 1
(.loop [.c (.int .i64 0), .c (.int .i64 0), .v 8, .v 9]
(.lt none (.bin .lss) [.v 13, .v 11] 1 <|
(.ite (.v 16)
(.lt none .inb [.v 10, .v 13] 0 <|
(.lt none (.row 1 0 [true]) [.v 10, .v 13] 1 <|
(.call none 78 [.v 0, .v 17] 13 [] <|
(.lt none .not [.v 30] 1 <|
(.ite (.v 31)
(.leaf (.yield 1) [.v 12, .v 14, .v 15] ())
(.call none 98 [.v 18, .v 19, .v 20, .v 21, .v 22, .v 23, .v 24, .v 25, .v 26, .v 27, .v 28, .v 29, .v 14, .v 15] 2 [] <|
(.lt none (.dep 99) [.v 33] 0 <|
(.lt none .slen [.v 17] 1 <|
(.lt none (.bin .add) [.v 34, .c (.int .i64 4)] 1 <|
(.lt none (.bin .add) [.v 12, .v 35] 1 <|
(.lt none (.bin .add) [.v 13, .c (.int .i64 1)] 1 <|
(.leaf .cont [.v 36, .v 37, .v 32, .v 33] ()))))))))))))
(.leaf (.yield 1) [.v 12, .v 14, .v 15] ())))) <|
(.leaf .ret [.v 13, .v 14, .v 12, .c (.bool true)] ()))))))))))))
def tm73 : Tm Unit :=
(.lt none (.make 24 [(.rows 10 [])]) [.v 0] 1 <|
(.leaf .ret [.v 0, .v 1] ()))
def tm74 : Tm Unit :=
(.lt none (.mk 1 0) [] 1 <|
(.bind 1
(.loop [.v 0, .v 1]
(.lt none (.bin .neq) [.v 2, .c (.str [])] 1 <|
(.ite (.v 4)
(.lt none .sidx [.v 2, .c (.int .i64 0)] 1 <|
(.lt none (.conv .i64) [.v 5] 1 <|
(.lt none (.bin .gtr) [.v 6, .c (.int .i64 200)] 1 <|
(.lt (some (.v 7, false)) .id [.v 2] 1 <|
(.lt (some (.v 7, false)) .slen [.v 8] 1 <|
(.lt (some (.v 7, false)) .id [.v 6] 1 <|
(.lt (some (.v 7, false)) (.bin .add) [.v 10, .c (.int .i64 4)] 1 <|
(.lt (some (.v 7, false)) (.bin .lss) [.v 9, .v 11] 1 <|
(.lt none .pick [.v 7, .c (.bool true), .v 12] 1 <|
(.lt (some (.v 13, false)) .id [.v 2] 1 <|
(.lt (some (.v 13, false)) .id [.v 6] 1 <|
(.lt (some (.v 13, false)) (.bin .add) [.v 15, .c (.int .i64 1)] 1 <|
(.lt (some (.v 13, false)) .ssub [.v 14, .c (.int .i64 1), .v 16] 1 <|
(.call (some (.v 13, false)) 75 [.v 17] 1 [] <|
(.lt (some (.v 13, false)) .id [.v 2] 1 <|
(.lt (some (.v 13, false)) .id [.v 6] 1 <|
(.lt (some (.v 13, false)) (.bin .add) [.v 20, .c (.int .i64 4)] 1 <|
(.lt (some (.v 13, false)) .ssub [.v 19, .c (.int .i64 0), .v 21] 1 <|
(.lt (some (.v 13, false)) (.bin .neq) [.v 18, .v 22] 1 <|
(.lt none .pick [.v 13, .c (.bool true), .v 23] 1 <|
(.ite (.v 24)
(.leaf (.yield 1) [.v 3] ())
(.lt none (.bin .add) [.v 6, .c (.int .i64 1)] 1 <|
(.lt none .ssub [.v 2, .c (.int .i64 1), .v 25] 1 <|
(.lt none (.mk 1 1) [.v 26] 1 <|
(.lt none (.app 1 16 true) [.v 3, .v 27] 1 <|
(.lt none (.bin .add) [.v 6, .c (.int .i64 4)] 1 <|
(.lt none .slen [.v 2] 1 <|
(.lt none .ssub [.v 2, .v 29, .v 30] 1 <|
(.leaf .cont [.v 31, .v 28] ())))))))))))))))))))))))))))))
(.leaf (.yield 1) [.v 3] ())))) <|
(.leaf .ret [.v 2] ())))
def tm75 : Tm Unit :=
(.lt none .slen [.v 0] 1 <|
(.lt none (.conv .u8) [.v 1] 1 <|
(.lt none (.mk 1 1) [.v 2] 1 <|
(.lt none .bstr [.v 3] 1 <|
(.lt none (.bin .add) [.v 4, .v 0] 1 <|
(.call none 76 [.v 5, .c (.int .i64 7), .c (.int .i64 33)] 1 [] <|
(.call none 77 [.v 6] 1 [] <|
(.lt none (.bin .add) [.v 5, .v 7] 1 <|
(.lt none (.bin .add) [.v 8, .c (.str [1])] 1 <|
(.leaf .ret [.v 9] ()))))))))))
def tm76 : Tm Unit :=
(.lt none .slen [.v 0] 1 <|
(.bind 1
(.loop [.v 1, .c (.int .i64 0)]
(.lt none (.bin .lss) [.v 5, .v 3] 1 <|
(.ite (.v 6)
(.lt none (.bin .mul) [.v 4, .v 2] 1 <|
(.lt none .sidx [.v 0, .v 5] 1 <|
(.lt none (.conv .i64) [.v 8] 1 <|
(.lt none (.bin .add) [.v 7, .v 9] 1 <|
(.lt none (.bin .rem) [.v 10, .c (.int .i64 65521)] 1 <|
(.lt none (.bin .add) [.v 5, .c (.int .i64 1)] 1 <|
(.leaf .cont [.v 11, .v 12] ())))))))
(.leaf (.yield 1) [.v 4] ())))) <|
(.leaf .ret [.v 4] ())))
def tm77 : Tm Unit :=
(.lt none (.bin .quo) [.v 0, .c (.int .i64 256)] 1 <|
(.lt none (.conv .u8) [.v 1] 1 <|
(.lt none (.bin .rem) [.v 0, .c (.int .i64 256)] 1 <|
(.lt none (.conv .u8) [.v 3] 1 <|
(.lt none (.mk 1 2) [.v 2, .v 4] 1 <|
(.lt none .bstr [.v 5] 1 <|
(.leaf .ret [.v 6] ())))))))
def tm78 : Tm Unit :=
(.call none 79 [.v 1, .c (.str [124])] 1 [] <|
(.lt none .len [.v 2] 1 <|
(.lt none (.bin .neq) [.v 3, .c (.int .i64 3)] 1 <|
(.ite (.v 4)
(.leaf .ret [.c (.int .i64 0), .c (.int .i64 0), .c (.int .i64 0), .c (.int .i64 0), .c (.int .i64 0), .c (.int .i64 0), .c (.int .i64 0), .c (.int .i64 0), .c (.int .i64 0), .c (.int .i64 0), .c (.int .i64 0), .c (.rows 1 []), .c (.bool false)] ())
(.lt none .inb [.v 2, .c (.int .i64 0)] 0 <|
(.lt none (.row 1 0 [true]) [.v 2, .c (.int .i64 0)] 1 <|
(.call none 79 [.v 5, .c (.str [32])] 1 [] <|
(.call none 91 [.v 6, .c (.int .i64 4)] 2 [] <|
(.lt none (.dep 99) [.v 7] 0 <|
(.lt none .inb [.v 2, .c (.int .i64 1)] 0 <|
(.lt none (.row 1 0 [true]) [.v 2, .c (.int .i64 1)] 1 <|
(.call none 93 [.v 9] 7 [] <|
(.lt none .inb [.v 2, .c (.int .i64 2)] 0 <|
(.lt none (.row 1 0 [true]) [.v 2, .c (.int .i64 2)] 1 <|
(.call none 95 [.v 0, .v 17] 3 [] <|
(.lt none .not [.v 8] 1 <|
(.lt (some (.v 21, false)) .id [.v 16] 1 <|
(.lt (some (.v 21, false)) .not [.v 22] 1 <|
(.lt none .pick [.v 21, .c (.bool true), .v 23] 1 <|
(.lt (some (.v 24, false)) .id [.v 20] 1 <|
(.lt (some (.v 24, false)) .not [.v 25] 1 <|
(.lt none .pick [.v 24, .c (.bool true), .v 26] 1 <|
(.lt (some (.v 27, false)) .len [.v 7] 1 <|
(.lt (some (.v 27, false)) (.bin .neq) [.v 28, .c (.int .i64 5)] 1 <|
(.lt none .pick [.v 27, .c (.bool true), .v 29] 1 <|
(.ite (.v 30)
(.leaf .ret [.c (.int .i64 0), .c (.int .i64 0), .c (.int .i64 0), .c (.int .i64 0), .c (.int .i64 0), .c (.int .i64 0), .c (.int .i64 0), .c (.int .i64 0), .c (.int .i64 0), .c (.int .i64 0), .c (.int .i64 0), .c (.rows 1 []), .c (.bool false)] ())
(.lt none .inb [.v 7, .c (.int .i64 2)] 0 <|
(.lt none (.row 1 0 [true]) [.v 7, .c (.int .i64 2)] 1 <|
(.lt none .inb [.v 7, .c (.int .i64 3)] 0 <|
(.lt none (.row 1 0 [true]) [.v 7, .c (.int .i64 3)] 1 <|
(.lt none .inb [.v 7, .c (.int .i64 4)] 0 <|
(.lt none (.row 1 0 [true]) [.v 7, .c (.int .i64 4)] 1 <|
(.lt none .inb [.v 7, .c (.int .i64 0)] 0 <|
(.lt none (.row 1 0 [true]) [.v 7, .c (.int .i64 0)] 1 <|
(.lt none .inb [.v 7, .c (.int .i64 1)] 0 <|
(.lt none (.row 1 0 [true]) [.v 7, .c (.int .i64 1)] 1 <|
(.call none 44 [.v 0, .v 34, .v 35] 1 [] <|
(.lt none .not [.v 36] 1 <|
(.lt (some (.v 37, false)) .id [.v 0] 1 <|
(.call (some (.v 37, false)) 47 [.v 38, .v 31, .v 32, .v 33, .v 10, .v 11, .v 12, .v 13, .v 14, .v 18, .v 19] 1 [] <|
(.lt (some (.v 37, false)) .not [.v 39] 1 <|
(.lt none .pick [.v 37, .c (.bool true), .v 40] 1 <|
(.ite (.v 41)
(.leaf .ret [.c (.int .i64 0), .c (.int .i64 0), .c (.int .i64 0), .c (.int .i64 0), .c (.int .i64 0), .c (.int .i64 0), .c (.int .i64 0), .c (.int .i64 0), .c (.int .i64 0), .c (.int .i64 0), .c (.int .i64 0), .c (.rows 1 []), .c (.bool false)] ())
(.lt none .inb [.v 7, .c (.int .i64 0)] 0 <|
(.lt none (.row 1 0 [true]) [.v 7, .c (.int .i64 0)] 1 <|
(.lt none .inb [.v 7, .c (.int .i64 1)] 0 <|
(.lt none (.row 1 0 [true]) [.v 7, .c (.int .i64 1)] 1 <|
(.leaf .ret [.v 42, .v 43, .v 31, .v 32, .v 33, .v 10, .v 11, .v 12, .v 13, .v 14, .v 18, .v 19, .c (.bool true)] ()))))))))))))))))))))))))))))))))))))))))))))))))
def tm79 : Tm Unit :=
(.call none 80 [.v 0, .v 1, .c (.int .i64 0), .c (.int .i64 (-1))] 1 [] <|
(.leaf .ret [.v 2] ()))
def tm80 : Tm Unit :=
(.lt none (.bin .eql) [.v 3, .c (.int .i64 0)] 1 <|
(.ite (.v 4)
(.leaf .ret [.c (.rows 1 [])] ())
(.lt none (.bin .eql) [.v 1, .c (.str [])] 1 <|
(.ite (.v 5)
(.call none 81 [.v 0, .v 3] 1 [] <|
(.leaf .ret [.v 6] ()))
(.bind 0
(.lt none (.bin .lss) [.v 3, .c (.int .i64 0)] 1 <|
(.ite (.v 6)
(.call none 85 [.v 0, .v 1] 1 [] <|
(.lt none (.bin .add) [.v 7, .c (.int .i64 1)] 1 <|
(.leaf (.yield 0) [.v 8] ())))
(.leaf (.yield 0) [.v 3] ()))) <|
(.lt none .slen [.v 0] 1 <|
(.lt none (.bin .add) [.v 7, .c (.int .i64 1)] 1 <|
(.lt none .min [.v 6, .v 8] 1 <|
(.lt none (.make 16 [(.str [])]) [.v 9] 1 <|
(.lt none (.bin .sub) [.v 9, .c (.int .i64 1)] 1 <|
(.bind 1
(.loop [.v 0, .v 10, .c (.int .i64 0)]
(.lt none (.bin .lss) [.v 14, .v 11] 1 <|
(.ite (.v 15)
(.call none 87 [.v 12, .v 1] 1 [] <|
(.lt none (.bin .lss) [.v 16, .c (.int .i64 0)] 1 <|
(.ite (.v 17)
(.leaf (.yield 1) [.v 12, .v 13, .v 14] ())
(.lt none (.bin .add) [.v 16, .v 2] 1 <|
(.lt none .ssub [.v 12, .c (.int .i64 0), .v 18] 1 <|
(.lt none .inb [.v 13, .v 14] 0 <|
(.lt none (.set 1 0 1) [.v 13, .v 14, .v 19] 1 <|
(.lt none .slen [.v 1] 1 <|
(.lt none (.bin .add) [.v 16, .v 21] 1 <|
(.lt none .slen [.v 12] 1 <|
(.lt none .ssub [.v 12, .v 22, .v 23] 1 <|
(.lt none (.bin .add) [.v 14, .c (.int .i64 1)] 1 <|
(.leaf .cont [.v 24, .v 20, .v 25] ())))))))))))))
(.leaf (.yield 1) [.v 12, .v 13, .v 14] ())))) <|
(.lt none .inb [.v 13, .v 14] 0 <|
(.lt none (.set 1 0 1) [.v 13, .v 14, .v 12] 1 <|
(.lt none (.bin .add) [.v 14, .c (.int .i64 1)] 1 <|
(.lt none (.sub 1 false) [.v 15, .c (.int .i64 0), .v 16] 1 <|
(.leaf .ret [.v 17] ()))))))))))))))))
def tm81 : Tm Unit :=
(.call none 82 [.v 0] 1 [] <|
(.bind 0
(.lt none (.bin .lss) [.v 1, .c (.int .i64 0)] 1 <|
(.lt (some (.v 3, false)) .id [.v 1] 1 <|
(.lt (some (.v 3, false)) .id [.v 2] 1 <|
(.lt (some (.v 3, false)) (.bin .gtr) [.v 4, .v 5] 1 <|
(.lt none .pick [.v 3, .c (.bool true), .v 6] 1 <|
(.ite (.v 7)
(.leaf (.yield 0) [.v 2] ())
(.leaf (.yield 0) [.v 1] ()))))))) <|
(.lt none (.make 16 [(.str [])]) [.v 3] 1 <|
(.bind 1
(.loop [.v 0, .v 4, .c (.int .i64 0)]
(.lt none (.bin .sub) [.v 3, .c (.int .i64 1)] 1 <|
(.lt none (.bin .lss) [.v 7, .v 8] 1 <|
(.ite (.v 9)
(.call none 83 [.v 5] 2 [] <|
(.lt none .ssub [.v 5, .c (.int .i64 0), .v 11] 1 <|
(.lt none .inb [.v 6, .v 7] 0 <|
(.lt none (.set 1 0 1) [.v 6, .v 7, .v 12] 1 <|
(.lt none .slen [.v 5] 1 <|
(.lt none .ssub [.v 5, .v 11, .v 14] 1 <|
(.lt none (.bin .add) [.v 7, .c (.int .i64 1)] 1 <|
(.leaf .cont [.v 15, .v 13, .v 16] ()))))))))
(.leaf (.yield 1) [.v 5, .v 6] ()))))) <|
(.bind 0
(.lt none (.bin .gtr) [.v 3, .c (.int .i64 0)] 1 <|
(.ite (.v 7)
(.lt none (.bin .sub) [.v 3, .c (.int .i64 1)] 1 <|
(.lt none .inb [.v 6, .v 8] 0 <|
(.lt none (.set 1 0 1) [.v 6, .v 8, .v 5] 1 <|
(.leaf (.yield 0) [.v 9] ()))))
(.leaf (.yield 0) [.v 6] ()))) <|
(.leaf .ret [.v 7] ()))))))
def tm82 : Tm Unit :=
  .stuck
def tm83 : Tm Unit :=
(.lt none (.bin .neq) [.v 0, .c (.str [])] 1 <|
(.lt (some (.v 1, true)) .id [.v 0] 1 <|
(.lt (some (.v 1, true)) .sidx [.v 2, .c (.int .i64 0)] 1 <|
(.lt (some (.v 1, true)) (.bin .lss) [.v 3, .c (.int .u8 128)] 1 <|
(.lt none .pick [.v 1, .v 4, .c (.bool false)] 1 <|
(.ite (.v 5)
(.lt none .sidx [.v 0, .c (.int .i64 0)] 1 <|
(.lt none (.conv .i32) [.v 6] 1 <|
(.leaf .ret [.v 7, .c (.int .i64 1)] ())))
(.call none 84 [.v 0] 2 [] <|
(.leaf .ret [.v 6, .v 7] ()))))))))
def tm84 : Tm Unit :=
(.lt none .slen [.v 0] 1 <|
(.lt none (.bin .lss) [.v 1, .c (.int .i64 1)] 1 <|
(.ite (.v 2)
(.leaf .ret [.c (.int .i32 65533), .c (.int .i64 0)] ())
(.lt none .sidx [.v 0, .c (.int .i64 0)] 1 <|
   .stuck))))
def tm85 : Tm Unit :=
(.lt none .slen [.v 1] 1 <|
(.lt none (.bin .eql) [.v 2, .c (.int .i64 0)] 1 <|
(.ite (.v 3)
(.call none 82 [.v 0] 1 [] <|
(.lt none (.bin .add) [.v 4, .c (.int .i64 1)] 1 <|
(.leaf .ret [.v 5] ())))
(.lt none .slen [.v 1] 1 <|
(.lt none (.bin .eql) [.v 4, .c (.int .i64 1)] 1 <|
(.ite (.v 5)
(.lt none .sidx [.v 1, .c (.int .i64 0)] 1 <|
(.call none 86 [.v 0, .v 6] 1 [] <|
(.leaf .ret [.v 7] ())))
(.loop [.v 0, .c (.int .i64 0)]
(.call none 87 [.v 6, .v 1] 1 [] <|
(.lt none (.bin .eql) [.v 8, .c (.int .i64 (-1))] 1 <|
(.ite (.v 9)
(.leaf .ret [.v 7] ())
(.lt none (.bin .add) [.v 7, .c (.int .i64 1)] 1 <|
(.lt none .slen [.v 1] 1 <|
(.lt none (.bin .add) [.v 8, .v 11] 1 <|
(.lt none .slen [.v 6] 1 <|
(.lt none .ssub [.v 6, .v 12, .v 13] 1 <|
(.leaf .cont [.v 14, .v 10] ()))))))))))))))))
def tm86 : Tm Unit := .stuck
def tm87 : Tm Unit :=
(.call none 88 [.v 0, .v 1] 1 [] <|
(.leaf .ret [.v 2] ()))
def tm88 : Tm Unit :=
(.lt none .slen [.v 1] 1 <|
(.lt none (.bin .eql) [.v 2, .c (.int .i64 0)] 1 <|
(.lt (some (.v 3, false)) .id [.v 1] 1 <|
(.lt (some (.v 3, false)) .id [.v 0] 1 <|
(.lt (some (.v 3, false)) (.bin .eql) [.v 4, .v 5] 1 <|
(.lt none .pick [.v 3, .c (.bool true), .v 6] 1 <|
(.ite (.v 7)
(.leaf .ret [.c (.int .i64 0)] ())
(.lt none (.bin .eql) [.v 2, .c (.int .i64 1)] 1 <|
(.ite (.v 8)
(.lt none .sidx [.v 1, .c (.int .i64 0)] 1 <|
(.call none 89 [.v 0, .v 9] 1 [] <|
(.leaf .ret [.v 10] ())))
(.lt none .slen [.v 0] 1 <|
(.lt none (.bin .geq) [.v 2, .v 9] 1 <|
(.ite (.v 10)
(.leaf .ret [.c (.int .i64 (-1))] ())
     .stuck))))))))))))
def tm89 : Tm Unit :=
(.call none 90 [.v 0, .v 1] 1 [] <|
(.leaf .ret [.v 2] ()))
def tm90 : Tm Unit := .stuck
def tm91 : Tm Unit :=
(.lt none (.mk 1 0) [] 1 <|
(.lt none .len [.v 0] 1 <|
(.bind 1
(.loop [.v 2, .c (.int .i64 0)]
(.lt none (.bin .lss) [.v 5, .v 3] 1 <|
(.ite (.v 6)
(.lt none .inb [.v 0, .v 5] 0 <|
(.lt none (.row 1 0 [true]) [.v 0, .v 5] 1 <|
(.call none 92 [.v 7, .v 1] 1 [] <|
(.lt none (.bin .lss) [.v 8, .c (.int .i64 0)] 1 <|
(.ite (.v 9)
(.leaf .ret [.c (.rows 1 []), .c (.bool false)] ())
(.lt none (.mk 1 1) [.v 8] 1 <|
(.lt none (.app 1 8 true) [.v 4, .v 10] 1 <|
(.lt none (.bin .add) [.v 5, .c (.int .i64 1)] 1 <|
(.leaf .cont [.v 11, .v 12] ())))))))))
(.leaf (.yield 1) [.v 4] ())))) <|
(.leaf .ret [.v 4, .c (.bool true)] ()))))
def tm92 : Tm Unit :=
(.lt none .slen [.v 0] 1 <|
(.bind 1
(.loop [.c (.int .i64 0), .c (.int .i64 0)]
(.lt none (.bin .lss) [.v 4, .v 2] 1 <|
(.ite (.v 5)
(.lt none .sidx [.v 0, .v 4] 1 <|
(.lt none (.bin .lss) [.v 6, .c (.int .u8 48)] 1 <|
(.lt (some (.v 7, false)) .id [.v 0] 1 <|
(.lt (some (.v 7, false)) .id [.v 4] 1 <|
(.lt (some (.v 7, false)) .sidx [.v 8, .v 9] 1 <|
(.lt (some (.v 7, false)) (.bin .gtr) [.v 10, .c (.int .u8 57)] 1 <|
(.lt none .pick [.v 7, .c (.bool true), .v 11] 1 <|
(.lt (some (.v 12, false)) .id [.v 4] 1 <|
(.lt (some (.v 12, false)) .id [.v 1] 1 <|
(.lt (some (.v 12, false)) (.bin .geq) [.v 13, .v 14] 1 <|
(.lt none .pick [.v 12, .c (.bool true), .v 15] 1 <|
(.ite (.v 16)
(.leaf .ret [.c (.int .i64 (-1))] ())
(.lt none (.bin .mul) [.c (.int .i64 10), .v 3] 1 <|
(.lt none .sidx [.v 0, .v 4] 1 <|
(.lt none (.bin .sub) [.v 18, .c (.int .u8 48)] 1 <|
(.lt none (.conv .i64) [.v 19] 1 <|
(.lt none (.bin .add) [.v 17, .v 20] 1 <|
(.lt none (.bin .add) [.v 4, .c (.int .i64 1)] 1 <|
(.leaf .cont [.v 21, .v 22] ())))))))))))))))))))
(.leaf (.yield 1) [.v 3] ())))) <|
(.lt none (.bin .eql) [.v 0, .c (.str [])] 1 <|
(.lt (some (.v 4, false)) .id [.v 0] 1 <|
(.lt (some (.v 4, false)) .sidx [.v 5, .c (.int .i64 0)] 1 <|
(.lt (some (.v 4, false)) (.bin .eql) [.v 6, .c (.int .u8 48)] 1 <|
(.lt (some (.v 4, false)) .id [.v 7] 1 <|
(.lt (some (.v 8, true)) .id [.v 0] 1 <|
(.lt (some (.v 8, true)) .slen [.v 9] 1 <|
(.lt (some (.v 8, true)) (.bin .gtr) [.v 10, .c (.int .i64 1)] 1 <|
(.lt (some (.v 4, false)) .pick [.v 8, .v 11, .c (.bool false)] 1 <|
(.lt none .pick [.v 4, .c (.bool true), .v 12] 1 <|
(.ite (.v 13)
(.leaf .ret [.c (.int .i64 (-1))] ())
(.leaf .ret [.v 3] ()))))))))))))))
def tm93 : Tm Unit :=
(.call none 79 [.v 0, .c (.str [32])] 1 [] <|
(.lt none (.mk 1 3) [.c (.str [45]), .c (.str [109, 111, 118, 101]), .c (.str [114, 101, 97, 100])] 1 <|
(.lt none .inb [.v 1, .c (.int .i64 0)] 0 <|
(.lt none (.row 1 0 [true]) [.v 1, .c (.int .i64 0)] 1 <|
(.call none 94 [.v 2, .v 3] 1 [] <|
(.lt none (.bin .lss) [.v 4, .c (.int .i64 0)] 1 <|
(.ite (.v 5)
(.leaf .ret [.c (.int .i64 0), .c (.int .i64 0), .c (.int .i64 0), .c (.int .i64 0), .c (.int .i64 0), .c (.int .i64 1), .c (.bool false)] ())
(.lt none .len [.v 1] 1 <|
(.lt none (.mk 1 3) [.c (.int .i64 1), .c (.int .i64 5), .c (.int .i64 3)] 1 <|
(.lt none .inb [.v 7, .v 4] 0 <|
(.lt none (.row 1 0 [true]) [.v 7, .v 4] 1 <|
(.lt none (.bin .neq) [.v 6, .v 8] 1 <|
(.ite (.v 9)
(.leaf .ret [.c (.int .i64 0), .c (.int .i64 0), .c (.int .i64 0), .c (.int .i64 0), .c (.int .i64 0), .c (.int .i64 2), .c (.bool false)] ())
(.lt none .len [.v 1] 1 <|
(.lt none (.sub 1 true) [.v 1, .c (.int .i64 1), .v 10] 1 <|
(.call none 91 [.v 11, .c (.int .i64 4)] 2 [] <|
(.lt none (.dep 99) [.v 12] 0 <|
(.lt none .not [.v 13] 1 <|
(.ite (.v 14)
(.leaf .ret [.c (.int .i64 0), .c (.int .i64 0), .c (.int .i64 0), .c (.int .i64 0), .c (.int .i64 0), .c (.int .i64 3), .c (.bool false)] ())
(.bind 0
(.lt none (.bin .eql) [.v 4, .c (.int .i64 1)] 1 <|
(.ite (.v 15)
(.lt none .inb [.v 12, .c (.int .i64 0)] 0 <|
(.lt none (.row 1 0 [true]) [.v 12, .c (.int .i64 0)] 1 <|
(.lt none .inb [.v 12, .c (.int .i64 1)] 0 <|
(.lt none (.row 1 0 [true]) [.v 12, .c (.int .i64 1)] 1 <|
(.lt none .inb [.v 12, .c (.int .i64 2)] 0 <|
(.lt none (.row 1 0 [true]) [.v 12, .c (.int .i64 2)] 1 <|
(.lt none .inb [.v 12, .c (.int .i64 3)] 0 <|
(.lt none (.row 1 0 [true]) [.v 12, .c (.int .i64 3)] 1 <|
(.leaf (.yield 0) [.v 16, .v 17, .v 18, .v 19] ())))))))))
(.lt none (.bin .eql) [.v 4, .c (.int .i64 2)] 1 <|
(.ite (.v 16)
(.lt none .inb [.v 12, .c (.int .i64 0)] 0 <|
(.lt none (.row 1 0 [true]) [.v 12, .c (.int .i64 0)] 1 <|
(.lt none .inb [.v 12, .c (.int .i64 1)] 0 <|
(.lt none (.row 1 0 [true]) [.v 12, .c (.int .i64 1)] 1 <|
(.leaf (.yield 0) [.v 17, .v 18, .c (.int .i64 0), .c (.int .i64 0)] ())))))
(.leaf (.yield 0) [.c (.int .i64 0), .c (.int .i64 0), .c (.int .i64 0), .c (.int .i64 0)] ()))))) <|
(.call none 49 [.v 16] 1 [] <|
(.lt none .not [.v 19] 1 <|
(.lt (some (.v 20, false)) .id [.v 17] 1 <|
(.call (some (.v 20, false)) 49 [.v 21] 1 [] <|
(.lt (some (.v 20, false)) .not [.v 22] 1 <|
(.lt none .pick [.v 20, .c (.bool true), .v 23] 1 <|
(.ite (.v 24)
(.leaf .ret [.c (.int .i64 0), .c (.int .i64 0), .c (.int .i64 0), .c (.int .i64 0), .c (.int .i64 0), .c (.int .i64 4), .c (.bool false)] ())
(.lt none (.bin .eql) [.v 4, .c (.int .i64 1)] 1 <|
(.lt (some (.v 25, true)) .id [.v 16] 1 <|
(.lt (some (.v 25, true)) .id [.v 17] 1 <|
(.lt (some (.v 25, true)) (.bin .eql) [.v 26, .v 27] 1 <|
(.lt none .pick [.v 25, .v 28, .c (.bool false)] 1 <|
(.ite (.v 29)
(.leaf .ret [.c (.int .i64 0), .c (.int .i64 0), .c (.int .i64 0), .c (.int .i64 0), .c (.int .i64 0), .c (.int .i64 5), .c (.bool false)] ())
(.call none 48 [.v 4, .v 15, .v 16, .v 17, .v 18] 1 [] <|
(.lt none .not [.v 30] 1 <|
(.ite (.v 31)
(.leaf .ret [.c (.int .i64 0), .c (.int .i64 0), .c (.int .i64 0), .c (.int .i64 0), .c (.int .i64 0), .c (.int .i64 6), .c (.bool false)] ())
(.leaf .ret [.v 4, .v 15, .v 16, .v 17, .v 18, .c (.int .i64 0), .c (.bool true)] ())))))))))))))))))))))))))))))))))))))
def tm94 : Tm Unit :=
(.lt none .len [.v 0] 1 <|
(.bind 1
(.loop [.c (.int .i64 0)]
(.lt none (.bin .lss) [.v 3, .v 2] 1 <|
(.ite (.v 4)
(.lt none .inb [.v 0, .v 3] 0 <|
(.lt none (.row 1 0 [true]) [.v 0, .v 3] 1 <|
(.lt none (.bin .eql) [.v 1, .v 5] 1 <|
(.ite (.v 6)
(.leaf .ret [.v 3] ())
(.lt none (.bin .add) [.v 3, .c (.int .i64 1)] 1 <|
(.leaf .cont [.v 7] ()))))))
(.leaf (.yield 1) [] ())))) <|
(.leaf .ret [.c (.int .i64 (-1))] ())))
def tm95 : Tm Unit :=
(.call none 96 [.v 1, .c (.str [58])] 3 [] <|
(.call none 92 [.v 2, .c (.int .i64 3)] 1 [] <|
(.call none 79 [.v 3, .c (.str [44])] 1 [] <|
(.call none 91 [.v 6, .c (.int .i64 1)] 2 [] <|
(.lt none (.dep 99) [.v 7] 0 <|
(.lt none .not [.v 4] 1 <|
(.lt (some (.v 9, false)) .id [.v 8] 1 <|
(.lt (some (.v 9, false)) .not [.v 10] 1 <|
(.lt none .pick [.v 9, .c (.bool true), .v 11] 1 <|
(.lt (some (.v 12, false)) .id [.v 1] 1 <|
(.lt (some (.v 12, false)) .slen [.v 13] 1 <|
(.lt (some (.v 12, false)) (.bin .gtr) [.v 14, .c (.int .i64 40)] 1 <|
(.lt none .pick [.v 12, .c (.bool true), .v 15] 1 <|
(.lt (some (.v 16, false)) .id [.v 0] 1 <|
(.call (some (.v 16, false)) 50 [.v 17, .v 5, .v 7] 1 [] <|
(.lt (some (.v 16, false)) .not [.v 18] 1 <|
(.lt none .pick [.v 16, .c (.bool true), .v 19] 1 <|
(.ite (.v 20)
(.leaf .ret [.c (.int .i64 0), .c (.rows 1 []), .c (.bool false)] ())
(.leaf .ret [.v 5, .v 7, .c (.bool true)] ())))))))))))))))))))
def tm96 : Tm Unit :=
(.call none 97 [.v 0, .v 1] 3 [] <|
(.leaf .ret [.v 2, .v 3, .v 4] ()))
def tm97 : Tm Unit :=
(.call none 88 [.v 0, .v 1] 1 [] <|
(.lt none (.bin .geq) [.v 2, .c (.int .i64 0)] 1 <|
(.ite (.v 3)
(.lt none .ssub [.v 0, .c (.int .i64 0), .v 2] 1 <|
(.lt none .slen [.v 1] 1 <|
(.lt none (.bin .add) [.v 2, .v 5] 1 <|
(.lt none .slen [.v 0] 1 <|
(.lt none .ssub [.v 0, .v 6, .v 7] 1 <|
(.leaf .ret [.v 4, .v 8, .c (.bool true)] ()))))))
(.leaf .ret [.v 0, .c (.str []), .c (.bool false)] ()))))
def tm98 : Tm Unit :=
(.bind 1
(.loop [.v 13]
(.lt none .inb [.v 14, .v 0] 0 <|
(.lt none (.row 1 0 [false]) [.v 14, .v 0] 1 <|
(.lt none .len [.v 15] 1 <|
(.lt none (.bin .lss) [.v 16, .v 1] 1 <|
(.ite (.v 17)
(.lt none .inb [.v 14, .v 0] 0 <|
(.lt none (.row 1 0 [false]) [.v 14, .v 0] 1 <|
(.call none 54 [.v 12] 2 [] <|
(.lt none (.mk 10 1) [.c (.int .i64 0), .c (.int .i64 0), .c (.int .i64 0), .c (.int .i64 0), .c (.int .i64 0), .c (.int .i64 0), .c (.int .i64 0), .c (.int .i64 0), .v 19, .v 20] 1 <|
(.lt none (.set 1 0 1) [.v 14, .v 0, .c .hole] 1 <|
(.lt none (.app 10 96 false) [.v 18, .v 21] 1 <|
(.lt none .inb [.v 22, .v 0] 0 <|
(.lt none (.set 1 0 1) [.v 22, .v 0, .v 23] 1 <|
(.leaf .cont [.v 24] ())))))))))
(.leaf (.yield 1) [.v 14] ()))))))) <|
(.lt none .inb [.v 14, .v 0] 0 <|
(.lt none (.row 1 0 [false]) [.v 14, .v 0] 1 <|
(.lt none (.bin .sub) [.v 1, .c (.int .i64 1)] 1 <|
(.call none 99 [.v 2, .v 3, .v 4, .v 5, .v 6, .v 7, .v 8, .v 9, .v 10, .v 11] 10 [] <|
(.lt none .inb [.v 15, .v 16] 0 <|
(.lt none (.set 10 0 10) [.v 15, .v 16, .v 17, .v 18, .v 19, .v 20, .v 21, .v 22, .v 23, .v 24, .v 25, .v 26] 1 <|
(.lt none (.set 1 0 1) [.v 14, .v 0, .v 27] 1 <|
(.leaf .ret [.v 12, .v 28] ())))))))))
def tm99 : Tm Unit :=
(.call none 100 [.v 8, .v 9] 2 [] <|
(.leaf .ret [.v 0, .v 1, .v 2, .v 3, .v 4, .v 5, .v 6, .v 7, .v 10, .v 11] ()))
def tm100 : Tm Unit :=
(.call none 101 [.v 1] 1 [] <|
(.leaf .ret [.v 0, .v 2] ()))
def tm101 : Tm Unit :=
(.lt none .ne [.v 0] 0 <|
(.lt none .emp [.v 0] 1 <|
(.ite (.v 1)
(.leaf .ret [.c (.rows 1 [])] ())
(.lt none (.mk 1 0) [] 1 <|
(.lt none (.app 1 8 true) [.v 2, .v 0] 1 <|
(.leaf .ret [.v 3] ()))))))
def tm102 : Tm Unit :=
(.lt none (.bin .neq) [.v 0, .v 10] 1 <|
(.ite (.v 20)
(.leaf .ret [.c (.bool false)] ())
(.lt none (.bin .neq) [.v 1, .v 11] 1 <|
(.ite (.v 21)
(.leaf .ret [.c (.bool false)] ())
(.lt none (.bin .neq) [.v 2, .v 12] 1 <|
(.ite (.v 22)
(.leaf .ret [.c (.bool false)] ())
(.call none 103 [.v 3, .v 4, .v 5, .v 6, .v 7, .v 13, .v 14, .v 15, .v 16, .v 17] 1 [] <|
(.lt none .not [.v 23] 1 <|
(.ite (.v 24)
(.leaf .ret [.c (.bool false)] ())
(.call none 104 [.v 8, .v 9, .v 18, .v 19] 1 [] <|
(.lt none .not [.v 25] 1 <|
(.ite (.v 26)
(.leaf .ret [.c (.bool false)] ())
(.leaf .ret [.c (.bool true)] ())))))))))))))
def tm103 : Tm Unit :=
(.lt none (.bin .neq) [.v 0, .v 5] 1 <|
(.ite (.v 10)
(.leaf .ret [.c (.bool false)] ())
(.lt none (.bin .neq) [.v 1, .v 6] 1 <|
(.ite (.v 11)
(.leaf .ret [.c (.bool false)] ())
(.lt none (.bin .neq) [.v 2, .v 7] 1 <|
(.ite (.v 12)
(.leaf .ret [.c (.bool false)] ())
(.lt none (.bin .neq) [.v 3, .v 8] 1 <|
(.ite (.v 13)
(.leaf .ret [.c (.bool false)] ())
(.lt none (.bin .neq) [.v 4, .v 9] 1 <|
(.ite (.v 14)
(.leaf .ret [.c (.bool false)] ())
(.leaf .ret [.c (.bool true)] ())))))))))))
def tm104 : Tm Unit :=
(.lt none (.bin .neq) [.v 0, .v 2] 1 <|
(.ite (.v 4)
(.leaf .ret [.c (.bool false)] ())
(.call none 105 [.v 1, .v 3] 1 [] <|
(.lt none .not [.v 5] 1 <|
(.ite (.v 6)
(.leaf .ret [.c (.bool false)] ())
(.leaf .ret [.c (.bool true)] ()))))))
def tm105 : Tm Unit :=
(.lt none .len [.v 0] 1 <|
(.lt none .len [.v 1] 1 <|
(.lt none (.bin .neq) [.v 2, .v 3] 1 <|
(.ite (.v 4)
(.leaf .ret [.c (.bool false)] ())
(.bind 1
(.loop [.c (.int .i64 0)]
(.lt none .len [.v 0] 1 <|
(.lt none (.bin .lss) [.v 5, .v 6] 1 <|
(.ite (.v 7)
(.lt none .inb [.v 0, .v 5] 0 <|
(.lt none (.row 1 0 [true]) [.v 0, .v 5] 1 <|
(.lt none .inb [.v 1, .v 5] 0 <|
(.lt none (.row 1 0 [true]) [.v 1, .v 5] 1 <|
(.lt none (.bin .neq) [.v 8, .v 9] 1 <|
(.ite (.v 10)
(.leaf .ret [.c (.bool false)] ())
(.lt none (.bin .add) [.v 5, .c (.int .i64 1)] 1 <|
(.leaf .cont [.v 11] ()))))))))
(.leaf (.yield 1) [] ()))))) <|
(.leaf .ret [.c (.bool true)] ()))))))
theorem cl101 : ∀ n, Contract Tryz.prog (entTab [(101, .tm tm101)]) n 101 sg101 := fun n => contracts tiL_ok (by kernel_rfl) (fnOk_all (List.forall_mem_cons.2 ⟨fnOk_tm (E := ⟨tiTab tiL, [(101, sg101)], 0, 0, false, false, [], []⟩) Tryz.func94 (by kernel_rfl) (tm := tm101) (by kernel_rfl) (by kernel_rfl), List.forall_mem_nil _⟩)) n 101 sg101 (by simp)
def ren101 : Go.Shelf.Ren := ⟨fun | 41 => 94 | n => n, fun | 4 => 4 | 22 => 24 | 23 => 3 | n => n, fun n => n⟩
theorem lays101 : Go.Proofs.SlLaysE0.n41 Tryz.prog ren101 := { mixed := by kernel_rfl, f41 := ⟨Tryz.f94.name, by kernel_rfl, Tryz.func94.trans (congrArg some (by kernel_rfl))⟩, t4 := Tryz.underlying4, a4 := Tryz.isAgg4, z4 := Tryz.sizeOf4, v4 := Tryz.zeroValue4, t22 := Tryz.underlying24, a22 := Tryz.isAgg24, z22 := Tryz.sizeOf24, v22 := Tryz.zeroValue24 }
noncomputable def ex101 : List D → Option (List D) := cloneE 1 (entTab [(101, .tm tm101)]) 101

noncomputable def T : Nat → Ent := entTab [(0, .tm tm0), (1, .tm tm1), (2, .tm tm2), (3, .tm tm3), (4, .tm tm4), (5, .tm tm5), (6, .tm tm6), (7, .tm tm7), (8, .tm tm8), (9, .tm tm9), (10, .tm tm10), (11, .tm tm11), (12, .tm tm12), (13, .tm tm13), (14, .tm tm14), (15, .tm tm15), (16, .tm tm16), (17, .tm tm17), (18, .tm tm18), (19, .tm tm19), (20, .tm tm20), (21, .tm tm21), (22, .tm tm22), (23, .tm tm23), (24, .tm tm24), (25, .tm tm25), (26, .tm tm26), (27, .tm tm27), (28, .tm tm28), (29, .tm tm29), (30, .tm tm30), (31, .tm tm31), (32, .tm tm32), (33, .tm tm33), (34, .tm tm34), (35, .tm tm35), (36, .tm tm36), (37, .tm tm37), (38, .tm tm38), (39, .tm tm39), (40, .tm tm40), (41, .tm tm41), (42, .tm tm42), (43, .tm tm43), (44, .tm tm44), (45, .tm tm45), (46, .tm tm46), (47, .tm tm47), (48, .tm tm48), (49, .tm tm49), (50, .tm tm50), (51, .tm tm51), (52, .tm tm52), (53, .tm tm53), (54, .tm tm54), (55, .tm tm55), (56, .tm tm56), (57, .tm tm57), (58, .tm tm58), (59, .tm tm59), (60, .tm tm60), (61, .tm tm61), (62, .ext fmtE), (65, .ext joinE), (70, .tm tm70), (71, .tm tm71), (72, .tm tm72), (73, .tm tm73), (74, .tm tm74), (75, .tm tm75), (76, .tm tm76), (77, .tm tm77), (78, .tm tm78), (79, .tm tm79), (80, .tm tm80), (81, .tm tm81), (82, .tm tm82), (83, .tm tm83), (84, .tm tm84), (85, .tm tm85), (86, .ext cntE), (87, .tm tm87), (88, .tm tm88), (89, .tm tm89), (90, .ext ixE), (91, .tm tm91), (92, .tm tm92), (93, .tm tm93), (94, .tm tm94), (95, .tm tm95), (96, .tm tm96), (97, .tm tm97), (98, .tm tm98), (99, .tm tm99), (100, .tm tm100), (101, .ext ex101), (102, .tm tm102), (103, .tm tm103), (104, .tm tm104), (105, .tm tm105)]
abbrev K := FnOk Tryz.prog T (tiTab tiL) sigs
theorem o101 : FnOk Tryz.prog T (tiTab tiL) sigs 101 sg101 := clone_ent (m := 98) lays101 rfl (by kernel_rfl) Tryz.sizeOf3 cl101 rfl
theorem o86 : K 86 sg86 := cnt_ent (fun s c w => by rw [run_callFunc_extern Tryz.func101 (by kernel_rfl) (by kernel_rfl) (by kernel_rfl) (e := Extern.BytealgCount.count) (by kernel_rfl), Lib.run_countString]; rfl) rfl
theorem o90 : K 90 sg90 := ix_ent (fun s c w => by rw [run_callFunc_extern Tryz.func121 (by kernel_rfl) (by kernel_rfl) (by kernel_rfl) (e := Extern.BytealgIndexByte.indexByte) (by kernel_rfl), Lib.run_indexByteString]; rfl) rfl
def Tryz.lays156_ren : Go.Shelf.Ren := ⟨fun | 156 => 88 | 165 => 95 | 166 => 96 | 169 => 97 | 240 => 103 | 241 => 104 | 276 => 114 | 277 => 115 | n => n, fun | 31 => 59 | 9 => 9 | 3 => 3 | 4 => 4 | 0 => 0 | 20 => 20 | 72 => 110 | 76 => 114 | 70 => 108 | 37 => 65 | 75 => 113 | 127 => 121 | 164 => 130 | 5 => 5 | 80 => 116 | n => n, fun | n => n⟩
theorem Tryz.lays156 : Go.Proofs.Lays.n156 Tryz.prog Tryz.lays156_ren := {
  mixed := by kernel_rfl
  f156 := Tryz.func88.trans (congrArg some (by kernel_rfl))
  f165 := Tryz.func95.trans (congrArg some (by kernel_rfl))
  f166 := Tryz.func96.trans (congrArg some (by kernel_rfl))
  f169 := Tryz.func97.trans (congrArg some (by kernel_rfl))
  f240 := Tryz.func103.trans (congrArg some (by kernel_rfl))
  f241 := Tryz.func104.trans (congrArg some (by kernel_rfl))
  f276 := Tryz.func114.trans (congrArg some (by kernel_rfl))
  f277 := Tryz.func115.trans (congrArg some (by kernel_rfl))
  t0 := Tryz.underlying0
  a0 := Tryz.isAgg0
  z0 := Tryz.sizeOf0
  v0 := Tryz.zeroValue0
  t3 := Tryz.underlying3
  a3 := Tryz.isAgg3
  z3 := Tryz.sizeOf3
  v3 := Tryz.zeroValue3
  t4 := Tryz.underlying4
  a4 := Tryz.isAgg4
  z4 := Tryz.sizeOf4
  v4 := Tryz.zeroValue4
  t9 := Tryz.underlying9
  a9 := Tryz.isAgg9
  z9 := Tryz.sizeOf9
  v9 := Tryz.zeroValue9
  t20 := Tryz.underlying20
  a20 := Tryz.isAgg20
  z20 := Tryz.sizeOf20
  v20 := Tryz.zeroValue20
  t31 := Tryz.underlying59
  a31 := Tryz.isAgg59
  z31 := Tryz.sizeOf59
  v31 := Tryz.zeroValue59
  t37 := Tryz.underlying65
  a37 := Tryz.isAgg65
  z37 := Tryz.sizeOf65
  v37 := Tryz.zeroValue65
  t70 := Tryz.underlying108
  a70 := Tryz.isAgg108
  z70 := Tryz.sizeOf108
  v70 := Tryz.zeroValue108
  t72 := Tryz.underlying110
  a72 := Tryz.isAgg110
  z72 := Tryz.sizeOf110
  v72 := Tryz.zeroValue110
  t75 := Tryz.underlying113
  a75 := Tryz.isAgg113
  z75 := Tryz.sizeOf113
  v75 := Tryz.zeroValue113
  t76 := Tryz.underlying114
  a76 := Tryz.isAgg114
  z76 := Tryz.sizeOf114
  v76 := Tryz.zeroValue114
  t127 := Tryz.underlying121
  a127 := Tryz.isAgg121
  z127 := Tryz.sizeOf121
  v127 := Tryz.zeroValue121
  t164 := Tryz.underlying130
  a164 := Tryz.isAgg130
  z164 := Tryz.sizeOf130
  v164 := Tryz.zeroValue130 }
theorem extra : Go.Proofs.Builder.Extra Tryz.prog Tryz.lays156_ren := { sizeBuilder := by kernel_rfl, liesBuilder := by kernel_rfl, t5 := Tryz.underlying5, a5 := Tryz.isAgg5, z5 := Tryz.sizeOf5, v5 := Tryz.zeroValue5, infoByte := by kernel_rfl, cellsByte := by kernel_rfl, sizeByte := by kernel_rfl, neB5 := by decide }
theorem o65 : K 65 sg65 := .inr ⟨joinE, rfl, join_ok Tryz.lays156 extra⟩
def Tryz.laysM246_ren : Go.Shelf.Ren := ⟨fun | 246 => 98 | 283 => 105 | 284 => 106 | 285 => 107 | 286 => 108 | 129 => 117 | 317 => 116 | 318 => 118 | 319 => 119 | 320 => 120 | 337 => 123 | 338 => 124 | n => n, fun | 2 => 2 | 3 => 3 | 9 => 9 | 4 => 4 | 171 => 122 | 0 => 0 | 53 => 123 | 37 => 65 | 5 => 5 | 173 => 126 | 212 => 134 | 51 => 135 | 20 => 20 | 213 => 136 | 46 => 129 | 232 => 145 | 233 => 146 | n => n, fun | 17 => 1 | 18 => 4 | 19 => 5 | n => n⟩
theorem Tryz.laysM246 : Go.Proofs.LaysM.n246 Tryz.prog Tryz.laysM246_ren := {
  mixed := by kernel_rfl
  f129 := Tryz.func117.trans (congrArg some (by kernel_rfl))
  f246 := Tryz.func98.trans (congrArg some (by kernel_rfl))
  f283 := Tryz.func105.trans (congrArg some (by kernel_rfl))
  f284 := Tryz.func106.trans (congrArg some (by kernel_rfl))
  f285 := Tryz.func107.trans (congrArg some (by kernel_rfl))
  f286 := Tryz.func108.trans (congrArg some (by kernel_rfl))
  f317 := Tryz.func116.trans (congrArg some (by kernel_rfl))
  f318 := Tryz.func118.trans (congrArg some (by kernel_rfl))
  f319 := Tryz.func119.trans (congrArg some (by kernel_rfl))
  f320 := Tryz.func120.trans (congrArg some (by kernel_rfl))
  f337 := Tryz.func123.trans (congrArg some (by kernel_rfl))
  f338 := Tryz.func124.trans (congrArg some (by kernel_rfl))
  t0 := Tryz.underlying0
  a0 := Tryz.isAgg0
  z0 := Tryz.sizeOf0
  v0 := Tryz.zeroValue0
  t2 := Tryz.underlying2
  a2 := Tryz.isAgg2
  z2 := Tryz.sizeOf2
  v2 := Tryz.zeroValue2
  t3 := Tryz.underlying3
  a3 := Tryz.isAgg3
  z3 := Tryz.sizeOf3
  v3 := Tryz.zeroValue3
  t4 := Tryz.underlying4
  a4 := Tryz.isAgg4
  z4 := Tryz.sizeOf4
  v4 := Tryz.zeroValue4
  t5 := Tryz.underlying5
  a5 := Tryz.isAgg5
  z5 := Tryz.sizeOf5
  v5 := Tryz.zeroValue5
  t9 := Tryz.underlying9
  a9 := Tryz.isAgg9
  z9 := Tryz.sizeOf9
  v9 := Tryz.zeroValue9
  t20 := Tryz.underlying20
  a20 := Tryz.isAgg20
  z20 := Tryz.sizeOf20
  v20 := Tryz.zeroValue20
  t37 := Tryz.underlying65
  a37 := Tryz.isAgg65
  z37 := Tryz.sizeOf65
  v37 := Tryz.zeroValue65
  t46 := Tryz.underlying129
  a46 := Tryz.isAgg129
  z46 := Tryz.sizeOf129
  v46 := Tryz.zeroValue129
  t51 := Tryz.underlying135
  a51 := Tryz.isAgg135
  z51 := Tryz.sizeOf135
  v51 := Tryz.zeroValue135
  t53 := Tryz.underlying123
  a53 := Tryz.isAgg123
  z53 := Tryz.sizeOf123
  v53 := Tryz.zeroValue123
  t171 := Tryz.underlying122
  a171 := Tryz.isAgg122
  z171 := Tryz.sizeOf122
  v171 := Tryz.zeroValue122
  t173 := Tryz.underlying126
  a173 := Tryz.isAgg126
  z173 := Tryz.sizeOf126
  v173 := Tryz.zeroValue126
  t212 := Tryz.underlying134
  a212 := Tryz.isAgg134
  z212 := Tryz.sizeOf134
  v212 := Tryz.zeroValue134
  t213 := Tryz.underlying136
  a213 := Tryz.isAgg136
  z213 := Tryz.sizeOf136
  t232 := Tryz.underlying145
  a232 := Tryz.isAgg145
  z232 := Tryz.sizeOf145
  v232 := Tryz.zeroValue145
  t233 := Tryz.underlying146
  a233 := Tryz.isAgg146
  z233 := Tryz.sizeOf146
  v233 := Tryz.zeroValue146
  g17 := by kernel_rfl
  g18 := by kernel_rfl
  g19 := by kernel_rfl
  i0 := by kernel_rfl
  i2 := by kernel_rfl
  i3 := by kernel_rfl
  i4 := by kernel_rfl
  i5 := by kernel_rfl
  i9 := by kernel_rfl
  i20 := by kernel_rfl
  i37 := by kernel_rfl
  i46 := by kernel_rfl
  i51 := by kernel_rfl
  i53 := by kernel_rfl
  i171 := by kernel_rfl
  i173 := by kernel_rfl
  i212 := by kernel_rfl
  i232 := by kernel_rfl
  i233 := by kernel_rfl
  m17 := by kernel_rfl
  m18 := by kernel_rfl
  m19 := by kernel_rfl }
theorem o62 : FnOkX Tryz.prog (pow10X Tryz.prog) T (tiTab tiL) sigs 62 sg62 := .inr ⟨fmtE, rfl, fmt_ok Tryz.laysM246⟩
theorem pow_of {W : World} {l : List (String × DataW Unit)} (h : laidMet Tryz.prog l W) (hm : (tabName, Lib.tabData .u64 Lib.pow10Tab) ∈ l) : pow10X Tryz.prog (fun _ => .frz) W := pow10_of (g := 1) (t := 134) (by kernel_rfl) (by kernel_rfl) Tryz.underlying134 Tryz.underlying123 (by kernel_rfl) (by kernel_rfl) h hm
theorem o0 : K 0 sg0 := fnK (E := E0) (tm := tm0) Tryz.func3 (by kernel_rfl)
theorem o1 : K 1 sg1 := fnK (E := E0) (tm := tm1) Tryz.func4 (by kernel_rfl)
theorem o2 : K 2 sg2 := fnK (E := E0) (tm := tm2) Tryz.func9 (by kernel_rfl)
theorem o3 : K 3 sg3 := fnK (E := E0) (tm := tm3) Tryz.func20 (by kernel_rfl)
theorem o4 : K 4 sg4 := fnK (E := E0) (tm := tm4) Tryz.func6 (by kernel_rfl)
theorem o5 : K 5 sg5 := fnK (E := E0) (tm := tm5) Tryz.func13 (by kernel_rfl)
theorem o6 : K 6 sg6 := fnK (E := E0) (tm := tm6) Tryz.func14 (by kernel_rfl)
theorem o7 : K 7 sg7 := fnK (E := E0) (tm := tm7) Tryz.func29 (by kernel_rfl)
theorem o8 : K 8 sg8 := fnK (E := E0) (tm := tm8) Tryz.func5 (by kernel_rfl)
theorem o9 : K 9 sg9 := fnK (E := E0) (tm := tm9) Tryz.func10 (by kernel_rfl)
theorem o10 : K 10 sg10 := fnK (E := E0) (tm := tm10) Tryz.func21 (by kernel_rfl)
theorem o11 : K 11 sg11 := fnK (E := E0) (tm := tm11) Tryz.func22 (by kernel_rfl)
theorem o12 : K 12 sg12 := fnK (E := E0) (tm := tm12) Tryz.func41 (by kernel_rfl)
theorem o13 : K 13 sg13 := fnK (E := E0) (tm := tm13) Tryz.func23 (by kernel_rfl)
theorem o14 : K 14 sg14 := fnK (E := E0) (tm := tm14) Tryz.func43 (by kernel_rfl)
theorem o15 : K 15 sg15 := fnK (E := E0) (tm := tm15) Tryz.func42 (by kernel_rfl)
theorem o16 : K 16 sg16 := fnK (E := E0) (tm := tm16) Tryz.func68 (by kernel_rfl)
theorem o17 : K 17 sg17 := fnK (E := E0) (tm := tm17) Tryz.func44 (by kernel_rfl)
theorem o18 : K 18 sg18 := fnK (E := E0) (tm := tm18) Tryz.func69 (by kernel_rfl)
theorem o19 : K 19 sg19 := fnK (E := E0) (tm := tm19) Tryz.func85 (by kernel_rfl)
theorem o20 : K 20 sg20 := fnK (E := E0) (tm := tm20) Tryz.func45 (by kernel_rfl)
theorem o21 : K 21 sg21 := fnK (E := E0) (tm := tm21) Tryz.func70 (by kernel_rfl)
theorem o22 : K 22 sg22 := fnK (E := E0) (tm := tm22) Tryz.func24 (by kernel_rfl)
theorem o23 : K 23 sg23 := fnK (E := E0) (tm := tm23) Tryz.func46 (by kernel_rfl)
theorem o24 : K 24 sg24 := fnK (E := E0) (tm := tm24) Tryz.func47 (by kernel_rfl)
theorem o25 : K 25 sg25 := fnK (E := E0) (tm := tm25) Tryz.func48 (by kernel_rfl)
theorem o26 : K 26 sg26 := fnK (E := E0) (tm := tm26) Tryz.func71 (by kernel_rfl)
theorem o27 : K 27 sg27 := fnK (E := E0) (tm := tm27) Tryz.func11 (by kernel_rfl)
theorem o28 : K 28 sg28 := fnK (E := E0) (tm := tm28) Tryz.func25 (by kernel_rfl)
theorem o29 : K 29 sg29 := fnK (E := E0) (tm := tm29) Tryz.func26 (by kernel_rfl)
theorem o30 : K 30 sg30 := fnK (E := E0) (tm := tm30) Tryz.func12 (by kernel_rfl)
theorem o31 : K 31 sg31 := fnK (E := ⟨tiTab tiL, sigs, 0, 0, false, false, [], [(6, [(27, 0, 2, 99), (108, 0, 0, 0)], [0, 3, 18, 24, 27, 102, 105, 108, 7], 192, [241, 913])]⟩) (tm := tm31) Tryz.func27 (by kernel_rfl)
theorem o32 : K 32 sg32 := fnK (E := E0) (tm := tm32) Tryz.func49 (by kernel_rfl)
theorem o33 : K 33 sg33 := fnK (E := E0) (tm := tm33) Tryz.func50 (by kernel_rfl)
theorem o34 : K 34 sg34 := fnK (E := E0) (tm := tm34) Tryz.func51 (by kernel_rfl)
theorem o35 : K 35 sg35 := fnK (E := E0) (tm := tm35) Tryz.func52 (by kernel_rfl)
theorem o36 : K 36 sg36 := fnK (E := E0) (tm := tm36) Tryz.func72 (by kernel_rfl)
theorem o37 : K 37 sg37 := fnK (E := E0) (tm := tm37) Tryz.func28 (by kernel_rfl)
theorem o38 : K 38 sg38 := fnK (E := ⟨tiTab tiL, sigs, 0, 0, false, false, [], [(6, [(63, 0, 0, 0), (16, 1, 2, 99)], [6, 9, 12, 36, 39, 42, 57, 60, 63, 1, 4, 16], 336, [1, 4, 7, 10, 13, 16, 19, 22, 25, 28, 31, 34, 37, 40, 43, 46, 49, 52, 55, 58, 61, 64, 67, 70, 73, 76, 79, 82, 85, 88, 91, 94, 97, 100, 103, 106, 109, 112, 115, 118, 121, 124, 127, 130, 133, 136, 139, 142, 145, 148, 151, 154, 157, 160, 163, 166, 169, 172, 175, 178, 181, 184, 187, 190, 193, 196, 199, 202, 205, 208, 211, 214, 217, 220, 223, 226, 229, 232, 235, 238, 241, 244, 247, 250, 253, 256, 259, 262, 265, 268, 271, 274, 277, 280, 283, 286, 289, 292, 295, 298, 301, 304, 307, 310, 313, 316, 319, 322, 325, 328, 331, 334, 337, 340, 343, 346, 349, 352, 355, 358, 361, 364, 367, 370, 373, 376, 379, 382, 385, 388, 391, 394, 397, 400, 403, 406, 409, 412, 415, 418, 421, 424, 427, 430, 433, 436, 439, 442, 445, 448, 451, 454, 457, 460, 463, 466, 469, 472, 475, 478, 481, 484, 487, 490, 493, 496, 499, 502, 505, 508, 511, 514, 517, 520, 523, 526, 2124]), (3, [(42, 0, 0, 0), (16, 1, 2, 99)], [6, 9, 36, 39, 42, 1, 4, 16], 531, [192])]⟩) (tm := tm38) Tryz.func53 (by kernel_rfl)
theorem o39 : K 39 sg39 := fnK (E := E0) (tm := tm39) Tryz.func54 (by kernel_rfl)
theorem o40 : K 40 sg40 := fnK (E := E0) (tm := tm40) Tryz.func73 (by kernel_rfl)
theorem o41 : K 41 sg41 := fnK (E := E0) (tm := tm41) Tryz.func86 (by kernel_rfl)
theorem o42 : K 42 sg42 := fnK (E := E0) (tm := tm42) Tryz.func7 (by kernel_rfl)
theorem o43 : K 43 sg43 := fnK (E := E0) (tm := tm43) Tryz.func15 (by kernel_rfl)
theorem o44 : K 44 sg44 := fnK (E := E0) (tm := tm44) Tryz.func30 (by kernel_rfl)
theorem o45 : K 45 sg45 := fnK (E := E0) (tm := tm45) Tryz.func33 (by kernel_rfl)
theorem o46 : K 46 sg46 := fnK (E := E0) (tm := tm46) Tryz.func55 (by kernel_rfl)
theorem o47 : K 47 sg47 := fnK (E := E0) (tm := tm47) Tryz.func31 (by kernel_rfl)
theorem o48 : K 48 sg48 := fnK (E := E0) (tm := tm48) Tryz.func56 (by kernel_rfl)
theorem o49 : K 49 sg49 := fnK (E := E0) (tm := tm49) Tryz.func74 (by kernel_rfl)
theorem o50 : K 50 sg50 := fnK (E := E0) (tm := tm50) Tryz.func57 (by kernel_rfl)
theorem o51 : K 51 sg51 := fnK (E := E0) (tm := tm51) Tryz.func75 (by kernel_rfl)
theorem o52 : K 52 sg52 := fnK (E := E0) (tm := tm52) Tryz.func87 (by kernel_rfl)
theorem o53 : K 53 sg53 := fnK (E := E0) (tm := tm53) Tryz.func76 (by kernel_rfl)
theorem o54 : K 54 sg54 := fnK (E := E0) (tm := tm54) Tryz.func59 (by kernel_rfl)
theorem o55 : K 55 sg55 := fnK (E := E0) (tm := tm55) Tryz.func58 (by kernel_rfl)
theorem o56 : K 56 sg56 := fnK (E := E0) (tm := tm56) Tryz.func77 (by kernel_rfl)
theorem o57 : K 57 sg57 := fnK (E := E0) (tm := tm57) Tryz.func32 (by kernel_rfl)
theorem o58 : K 58 sg58 := fnK (E := E0) (tm := tm58) Tryz.func60 (by kernel_rfl)
theorem o59 : K 59 sg59 := fnK (E := E0) (tm := tm59) Tryz.func78 (by kernel_rfl)
theorem o60 : K 60 sg60 := fnK (E := E0) (tm := tm60) Tryz.func79 (by kernel_rfl)
theorem o61 : K 61 sg61 := fnK (E := E0) (tm := tm61) Tryz.func89 (by kernel_rfl)
theorem o70 : K 70 sg70 := fnK (E := E0) (tm := tm70) Tryz.func61 (by kernel_rfl)
theorem o71 : K 71 sg71 := fnK (E := E0) (tm := tm71) Tryz.func62 (by kernel_rfl)
theorem o72 : K 72 sg72 := fnK (E := E0) (tm := tm72) Tryz.func16 (by kernel_rfl)
theorem o73 : K 73 sg73 := fnK (E := E0) (tm := tm73) Tryz.func34 (by kernel_rfl)
theorem o74 : K 74 sg74 := fnK (E := E0) (tm := tm74) Tryz.func35 (by kernel_rfl)
theorem o75 : K 75 sg75 := fnK (E := E0) (tm := tm75) Tryz.func17 (by kernel_rfl)
theorem o76 : K 76 sg76 := fnK (E := E0) (tm := tm76) Tryz.func39 (by kernel_rfl)
theorem o77 : K 77 sg77 := fnK (E := E0) (tm := tm77) Tryz.func38 (by kernel_rfl)
theorem o78 : K 78 sg78 := fnK (E := E0) (tm := tm78) Tryz.func36 (by kernel_rfl)
theorem o79 : K 79 sg79 := fnK (E := E0) (tm := tm79) Tryz.func63 (by kernel_rfl)
theorem o80 : K 80 sg80 := fnK (E := E0) (tm := tm80) Tryz.func80 (by kernel_rfl)
theorem o81 : K 81 sg81 := fnK (E := E0) (tm := tm81) Tryz.func90 (by kernel_rfl)
theorem o82 : K 82 sg82 := fnK (E := E0) (tm := tm82) Tryz.func99 (by kernel_rfl)
theorem o83 : K 83 sg83 := fnK (E := E0) (tm := tm83) Tryz.func100 (by kernel_rfl)
theorem o84 : K 84 sg84 := fnK (E := E0) (tm := tm84) Tryz.func109 (by kernel_rfl)
theorem o85 : K 85 sg85 := fnK (E := E0) (tm := tm85) Tryz.func91 (by kernel_rfl)
theorem o87 : K 87 sg87 := fnK (E := E0) (tm := tm87) Tryz.func92 (by kernel_rfl)
theorem o88 : K 88 sg88 := fnK (E := E0) (tm := tm88) Tryz.func102 (by kernel_rfl)
theorem o89 : K 89 sg89 := fnK (E := E0) (tm := tm89) Tryz.func110 (by kernel_rfl)
theorem o91 : K 91 sg91 := fnK (E := E0) (tm := tm91) Tryz.func64 (by kernel_rfl)
theorem o92 : K 92 sg92 := fnK (E := E0) (tm := tm92) Tryz.func81 (by kernel_rfl)
theorem o93 : K 93 sg93 := fnK (E := E0) (tm := tm93) Tryz.func65 (by kernel_rfl)
theorem o94 : K 94 sg94 := fnK (E := E0) (tm := tm94) Tryz.func82 (by kernel_rfl)
theorem o95 : K 95 sg95 := fnK (E := E0) (tm := tm95) Tryz.func66 (by kernel_rfl)
theorem o96 : K 96 sg96 := fnK (E := E0) (tm := tm96) Tryz.func83 (by kernel_rfl)
theorem o97 : K 97 sg97 := fnK (E := E0) (tm := tm97) Tryz.func93 (by kernel_rfl)
theorem o98 : K 98 sg98 := fnK (E := E0) (tm := tm98) Tryz.func37 (by kernel_rfl)
theorem o99 : K 99 sg99 := fnK (E := E0) (tm := tm99) Tryz.func67 (by kernel_rfl)
theorem o100 : K 100 sg100 := fnK (E := E0) (tm := tm100) Tryz.func84 (by kernel_rfl)
theorem o102 : K 102 sg102 := fnK (E := E0) (tm := tm102) Tryz.func8 (by kernel_rfl)
theorem o103 : K 103 sg103 := fnK (E := E0) (tm := tm103) Tryz.func18 (by kernel_rfl)
theorem o104 : K 104 sg104 := fnK (E := E0) (tm := tm104) Tryz.func19 (by kernel_rfl)
theorem o105 : K 105 sg105 := fnK (E := E0) (tm := tm105) Tryz.func40 (by kernel_rfl)
theorem fns_ok : ∀ key s, (key, s) ∈ sigs → FnOkX Tryz.prog (pow10X Tryz.prog) T (tiTab tiL) sigs key s := fnOkX_all (fcX o0 <| fcX o1 <| fcX o2 <| fcX o3 <| fcX o4 <| fcX o5 <| fcX o6 <| fcX o7 <| fcX o8 <| fcX o9 <| fcX o10 <| fcX o11 <| fcX o12 <| fcX o13 <| fcX o14 <| fcX o15 <| fcX o16 <| fcX o17 <| fcX o18 <| fcX o19 <| fcX o20 <| fcX o21 <| fcX o22 <| fcX o23 <| fcX o24 <| fcX o25 <| fcX o26 <| fcX o27 <| fcX o28 <| fcX o29 <| fcX o30 <| fcX o31 <| fcX o32 <| fcX o33 <| fcX o34 <| fcX o35 <| fcX o36 <| fcX o37 <| fcX o38 <| fcX o39 <| fcX o40 <| fcX o41 <| fcX o42 <| fcX o43 <| fcX o44 <| fcX o45 <| fcX o46 <| fcX o47 <| fcX o48 <| fcX o49 <| fcX o50 <| fcX o51 <| fcX o52 <| fcX o53 <| fcX o54 <| fcX o55 <| fcX o56 <| fcX o57 <| fcX o58 <| fcX o59 <| fcX o60 <| fcX o61 <| fc o62 <| fcX o65 <| fcX o70 <| fcX o71 <| fcX o72 <| fcX o73 <| fcX o74 <| fcX o75 <| fcX o76 <| fcX o77 <| fcX o78 <| fcX o79 <| fcX o80 <| fcX o81 <| fcX o82 <| fcX o83 <| fcX o84 <| fcX o85 <| fcX o86 <| fcX o87 <| fcX o88 <| fcX o89 <| fcX o90 <| fcX o91 <| fcX o92 <| fcX o93 <| fcX o94 <| fcX o95 <| fcX o96 <| fcX o97 <| fcX o98 <| fcX o99 <| fcX o100 <| fcX o101 <| fcX o102 <| fcX o103 <| fcX o104 <| fcX o105 <| fc0)
theorem contract : ∀ n, ContractX Tryz.prog (pow10X Tryz.prog) T n 0 sg0 := fun n => contractsX pow10X_stable tiL_ok (by kernel_rfl) fns_ok n 0 sg0 (by simp [sigs])
end FnExactAddLog
end Go.Proofs.YtnlhnfifkninpaaGreatDoor
