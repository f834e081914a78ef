/- The terms of the functions that FnMsgs reaches (printed by the author's own program). -/
import Derived.Test.YtdpfilpckndhcaaGreatDoorChecked
import Derived.Test.YtdpfilpckndhcaaGreatDoorRf9
import Derived.KernelRfl
namespace Go.Proofs.YtdpfilpckndhcaaGreatDoor
namespace FnMsgs
open Go Go.Proofs.YtdpfilpckndhcaaGreatDoor.Rf
set_option maxRecDepth 100000

def t3 : TI := ⟨false, 1, 8, [.sc (.int .i64 0)], [], none, (some .i64), false, false, false, false⟩
theorem ti3 : tiOf Tryz.prog 3 = some t3 := by kernel_rfl
def t4 : TI := ⟨false, 1, 1, [.sc (.bool false)], [], none, none, true, false, false, false⟩
theorem ti4 : tiOf Tryz.prog 4 = some t4 := by kernel_rfl
def t5 : TI := ⟨false, 1, 1, [.sc (.int .u8 0)], [], none, (some .u8), false, false, false, false⟩
theorem ti5 : tiOf Tryz.prog 5 = some t5 := by kernel_rfl
def t9 : TI := ⟨false, 1, 16, [.sc (.str [])], [], none, none, false, true, false, false⟩
theorem ti9 : tiOf Tryz.prog 9 = some t9 := by kernel_rfl
def t21 : TI := ⟨false, 1, 4, [.sc (.int .i32 0)], [], none, (some .i32), false, false, false, false⟩
theorem ti21 : tiOf Tryz.prog 21 = some t21 := by kernel_rfl
def t22 : TI := ⟨false, 1, 24, [.sl 1], [], (some 5), none, false, false, false, false⟩
theorem ti22 : tiOf Tryz.prog 22 = some t22 := by kernel_rfl
def t25 : TI := ⟨true, 5, 40, [.sc (.int .i64 0), .sc (.int .i64 0), .sc (.int .i64 0), .sc (.int .i64 0), .sc (.int .i64 0)], [(0, 3), (1, 3), (2, 3), (3, 3), (4, 3)], none, none, false, false, false, true⟩
theorem ti25 : tiOf Tryz.prog 25 = some t25 := by kernel_rfl
def t26 : TI := ⟨false, 1, 24, [.sl 1], [], (some 3), none, false, false, false, false⟩
theorem ti26 : tiOf Tryz.prog 26 = some t26 := by kernel_rfl
def t28 : TI := ⟨true, 2, 32, [.sc (.int .i64 0), .sl 1], [(0, 3), (1, 26)], none, none, false, false, false, false⟩
theorem ti28 : tiOf Tryz.prog 28 = some t28 := by kernel_rfl
def t30 : TI := ⟨true, 15, 136, [.sc (.int .i64 0), .sc (.int .i64 0), .sc (.int .i64 0), .sc (.int .i64 0), .sc (.int .i64 0), .sc (.int .i64 0), .sc (.int .i64 0), .sc (.int .i64 0), .sc (.int .i64 0), .sc (.int .i64 0), .sc (.int .i64 0), .sc (.int .i64 0), .sc (.int .i64 0), .sc (.int .i64 0), .sl 1], [(0, 3), (1, 3), (2, 3), (3, 3), (4, 3), (5, 3), (6, 3), (7, 3), (8, 25), (13, 28)], none, none, false, false, false, false⟩
theorem ti30 : tiOf Tryz.prog 30 = some t30 := by kernel_rfl
def t53 : TI := ⟨false, 1, 24, [.sl 1], [], (some 9), none, false, false, false, false⟩
theorem ti53 : tiOf Tryz.prog 53 = some t53 := by kernel_rfl
def t59 : TI := ⟨true, 10, 96, [.sc (.int .i64 0), .sc (.int .i64 0), .sc (.int .i64 0), .sc (.int .i64 0), .sc (.int .i64 0), .sc (.int .i64 0), .sc (.int .i64 0), .sc (.int .i64 0), .sc (.int .i64 0), .sl 1], [(0, 3), (1, 3), (2, 3), (3, 25), (8, 28)], none, none, false, false, false, false⟩
theorem ti59 : tiOf Tryz.prog 59 = some t59 := by kernel_rfl
def t97 : TI := ⟨false, 1, 8, [.sc (.int .u64 0)], [], none, (some .u64), false, false, false, false⟩
theorem ti97 : tiOf Tryz.prog 97 = some t97 := by kernel_rfl
def t99 : TI := ⟨true, 3, 40, [.sl 1, .sc (.int .i64 0), .sc (.int .u64 0)], [(0, 22), (1, 3), (2, 97)], none, none, false, false, false, false⟩
theorem ti99 : tiOf Tryz.prog 99 = some t99 := by kernel_rfl
def tiL : List (Nat × TI) := [(3, t3), (4, t4), (5, t5), (9, t9), (21, t21), (22, t22), (25, t25), (26, t26), (28, t28), (30, t30), (53, t53), (59, t59), (97, t97), (99, t99)]
theorem tiL_ok : TiOk Tryz.prog (tiTab tiL) := tiTab_ok (l := tiL) (fc ti3 <| fc ti4 <| fc ti5 <| fc ti9 <| fc ti21 <| fc ti22 <| fc ti25 <| fc ti26 <| fc ti28 <| fc ti30 <| fc ti53 <| fc ti59 <| fc ti97 <| fc ti99 <| fc0)

def sg0 : Sig := ⟨3, [(false, [.fz false]), (false, [.fz false])], [], [(false, [.sc])]⟩
def sg1 : Sig := ⟨6, [(false, [.fz false]), (false, [.fz false])], [], [(false, [.sc])]⟩
def sg2 : Sig := ⟨7, [(false, [.fz false])], [], [(false, [.sc]), (true, [.sc, .sc, .sc, .sc, .sc, .sc, .sc, .sc, .sc, .sc, .sc, .sc, .sc, .sc, .ow 99])]⟩
def sg3 : Sig := ⟨48, [(false, [.fz false])], [], [(false, [.sc]), (true, [.sc, .sc, .sc, .sc, .sc, .sc, .sc, .sc, .sc, .sc, .sc, .sc, .sc, .sc, .ow 99])]⟩
def sg4 : Sig := ⟨107, [(false, [.px 0])], [(false, [(.fz false, .fz), (.sc, .sc), (.sc, .sc)])], [(false, [.sc])]⟩
def sg5 : Sig := ⟨105, [(false, [.px 0]), (false, [.fz false])], [(false, [(.fz false, .fz), (.sc, .sc), (.sc, .sc)])], [(false, [.sc])]⟩
def sg6 : Sig := ⟨85, [(false, [.px 0]), (false, [.sc])], [(false, [(.fz false, .fz), (.sc, .sc), (.sc, .sc)])], [(false, [.sc])]⟩
def sg7 : Sig := ⟨127, [(false, [.px 0])], [(false, [(.fz false, .fz), (.sc, .sc), (.sc, .sc)])], [(false, [.sc])]⟩
def sg8 : Sig := ⟨108, [(false, [.px 0]), (false, [.sc])], [(false, [(.fz false, .fz), (.sc, .sc), (.sc, .sc)])], [(true, [.sc, .sc, .sc, .sc, .sc, .sc, .sc, .sc, .sc, .sc, .sc, .sc, .sc, .sc, .ow 99])]⟩
def sg9 : Sig := ⟨139, [(false, [.sc]), (false, [.sc])], [], [(false, [.sc])]⟩
def sg10 : Sig := ⟨69, [(false, [.sc])], [], [(true, [.sc, .ow 99])]⟩
def sg11 : Sig := ⟨129, [(false, [.px 0])], [(false, [(.fz false, .fz), (.sc, .sc), (.sc, .sc)])], [(true, [.sc, .sc, .sc, .sc, .sc])]⟩
def sg12 : Sig := ⟨78, [(false, [.px 0]), (false, [.sc])], [(false, [(.fz false, .fz), (.sc, .sc), (.sc, .sc)])], [(false, [.sc])]⟩
def sg13 : Sig := ⟨140, [(false, [.px 0]), (false, [.sc])], [(false, [(.fz false, .fz), (.sc, .sc), (.sc, .sc)])], [(true, [.sc, .ow 99])]⟩
def sg14 : Sig := ⟨103, [(false, [.px 0]), (false, [.sc])], [(false, [(.fz false, .fz), (.sc, .sc), (.sc, .sc)])], [(true, [.sc, .sc, .sc, .sc, .sc, .sc, .sc, .sc, .sc, .ow 99])]⟩
def sg15 : Sig := ⟨141, [(false, [.px 0])], [(false, [(.fz false, .fz), (.sc, .sc), (.sc, .sc)])], [(true, [.sc, .sc, .sc, .sc, .sc])]⟩
def sg16 : Sig := ⟨8, [(false, [.sc]), (true, [.sc, .sc, .sc, .sc, .sc, .sc, .sc, .sc, .sc, .sc, .sc, .sc, .sc, .sc, .fz false])], [], [(false, [.sc]), (false, [.sc])]⟩
def sg17 : Sig := ⟨10, [(false, [.sc]), (true, [.sc, .sc, .sc, .sc, .sc, .sc, .sc, .sc, .sc, .sc, .sc, .sc, .sc, .sc, .fz false])], [], [(false, [.sc])]⟩
def sg18 : Sig := ⟨54, [(false, [.sc]), (false, [.sc]), (false, [.sc])], [], [(false, [.sc])]⟩
def sg19 : Sig := ⟨55, [(false, [.sc]), (false, [.sc]), (false, [.sc])], [], [(false, [.sc])]⟩
def sg20 : Sig := ⟨71, [(false, [.sc])], [], [(false, [.sc])]⟩
def sg21 : Sig := ⟨57, [(true, [.sc, .sc, .sc, .sc, .sc, .sc, .sc, .sc, .sc, .sc, .sc, .sc, .sc, .sc, .fz false])], [], [(true, [.sc, .sc, .sc, .sc, .sc, .sc, .sc, .sc, .sc, .ow 99])]⟩
def sg22 : Sig := ⟨113, [(true, [.sc, .fz false])], [], [(true, [.sc, .ow 99])]⟩
def sg23 : Sig := ⟨144, [(false, [.fz false])], [], [(false, [.ow 99])]⟩
def sg24 : Sig := ⟨56, [(false, [.sc]), (true, [.sc, .sc, .sc, .sc, .sc, .sc, .sc, .sc, .sc, .fz false])], [], [(false, [.sc])]⟩
def sg25 : Sig := ⟨58, [(true, [.sc, .sc, .sc, .sc, .sc])], [], [(false, [.sc])]⟩
def sg26 : Sig := ⟨114, [(false, [.sc])], [], [(false, [.sc])]⟩
def sg27 : Sig := ⟨59, [(false, [.sc]), (true, [.sc, .fz false])], [], [(false, [.sc])]⟩
def sg28 : Sig := ⟨115, [(false, [.fz false]), (false, [.clo 116 []])], [], [(false, [.sc])]⟩
def sg29 : Sig := ⟨145, [(false, [.fz false]), (false, [.clo 116 []])], [], [(false, [.sc])]⟩
def sg30 : Sig := ⟨116, [(false, [.sc])], [], [(false, [.sc])]⟩
def sg31 : Sig := ⟨61, [(false, [.sc])], [], [(true, [.sc, .ow 99])]⟩
def sg32 : Sig := ⟨60, [(true, [.sc, .fz false]), (true, [.sc, .fz false])], [], [(false, [.sc])]⟩
def sg33 : Sig := ⟨117, [(false, [.fz false]), (false, [.fz false])], [], [(false, [.sc])]⟩
def sg34 : Sig := ⟨49, [(true, [.sc, .sc, .sc, .sc, .sc, .sc, .sc, .sc, .sc, .sc, .sc, .sc, .sc, .sc, .fz false])], [], [(false, [.sc])]⟩
def sg35 : Sig := ⟨73, [], [], [(false, [.ow 99])]⟩
def sg36 : Sig := ⟨109, [(false, [.fz false])], [], [(false, [.sc])]⟩
def sg37 : Sig := ⟨142, [(false, [.sc]), (false, [.fz false])], [], [(false, [.sc])]⟩
def sg38 : Sig := ⟨143, [(false, [.sc])], [], [(false, [.sc])]⟩
def sg39 : Sig := ⟨157, [(false, [.sc])], [], [(false, [.sc])]⟩
def sg40 : Sig := ⟨167, [(false, [.sc]), (false, [.sc])], [], [(false, [.sc])]⟩
def sg43 : Sig := ⟨156, [(false, [.fz false]), (false, [.sc])], [], [(false, [.sc])]⟩
def sg48 : Sig := ⟨110, [(true, [.sc, .sc, .sc, .sc, .sc])], [], [(false, [.sc])]⟩
def sg49 : Sig := ⟨111, [(true, [.sc, .fz false])], [], [(false, [.sc])]⟩
def sg50 : Sig := ⟨9, [(false, [.sc]), (true, [.sc, .sc, .sc, .sc, .sc, .sc, .sc, .sc, .sc, .sc, .sc, .sc, .sc, .sc, .fz false])], [], [(false, [.sc]), (false, [.sc])]⟩
def sg51 : Sig := ⟨11, [(false, [.sc]), (true, [.sc, .sc, .sc, .sc, .sc, .sc, .sc, .sc, .sc, .sc, .sc, .sc, .sc, .sc, .fz false])], [], [(false, [.sc])]⟩
def sg52 : Sig := ⟨62, [(false, [.sc])], [], [(false, [.sc])]⟩
def sg53 : Sig := ⟨63, [(false, [.sc]), (false, [.sc]), (false, [.sc])], [], [(false, [.sc])]⟩
def sg54 : Sig := ⟨64, [(false, [.sc]), (false, [.sc]), (false, [.sc])], [], [(false, [.sc])]⟩
def sg55 : Sig := ⟨65, [(false, [.sc]), (true, [.sc, .sc, .sc, .sc, .sc, .sc, .sc, .sc, .sc, .fz false])], [], [(false, [.sc])]⟩
def sg56 : Sig := ⟨68, [(true, [.sc, .fz false]), (true, [.sc, .fz false])], [], [(false, [.sc])]⟩
def sg57 : Sig := ⟨120, [(false, [.fz false]), (false, [.fz false])], [], [(false, [.sc])]⟩
def sg58 : Sig := ⟨67, [(true, [.sc, .sc, .sc, .sc, .sc])], [], [(false, [.sc])]⟩
def sg59 : Sig := ⟨119, [(true, [.sc, .sc, .sc, .sc, .sc])], [], [(false, [.sc])]⟩
def sg60 : Sig := ⟨146, [(false, [.sc])], [], [(false, [.sc])]⟩
def sg61 : Sig := ⟨66, [(false, [.sc]), (true, [.sc, .fz false])], [], [(false, [.sc])]⟩
def sg62 : Sig := ⟨118, [(false, [.fz false]), (false, [.sc]), (false, [.sc])], [], [(false, [.sc])]⟩
def sg63 : Sig := ⟨50, [], [], [(false, [.ow 99])]⟩
def sg64 : Sig := ⟨51, [(false, [.sc])], [], [(false, [.sc])]⟩
def sg65 : Sig := ⟨52, [(true, [.sc, .sc, .sc, .sc, .sc])], [], [(false, [.sc])]⟩
def sg66 : Sig := ⟨53, [(true, [.sc, .fz false])], [], [(false, [.sc])]⟩
def sg67 : Sig := ⟨112, [(false, [.fz false])], [], [(false, [.sc])]⟩
def sg68 : Sig := ⟨12, [(false, [.sc]), (false, [.sc])], [], [(true, [.sc, .sc, .sc, .sc, .sc, .sc, .sc, .sc, .sc, .sc, .sc, .sc, .sc, .sc, .ow 99]), (false, [.sc]), (false, [.sc])]⟩
def sg69 : Sig := ⟨70, [(false, [.sc]), (false, [.sc])], [], [(false, [.ow 99])]⟩
def sg70 : Sig := ⟨121, [(false, [.sc]), (false, [.sc]), (false, [.sc]), (false, [.sc])], [], [(false, [.ow 99])]⟩
def sg71 : Sig := ⟨147, [(false, [.sc]), (false, [.sc])], [], [(false, [.ow 99])]⟩
def sg72 : Sig := ⟨158, [(false, [.sc])], [], [(false, [.sc])]⟩
def sg73 : Sig := ⟨159, [(false, [.sc])], [], [(false, [.sc]), (false, [.sc])]⟩
def sg74 : Sig := ⟨168, [(false, [.sc])], [], [(false, [.sc]), (false, [.sc])]⟩
def sg75 : Sig := ⟨148, [(false, [.sc]), (false, [.sc])], [], [(false, [.sc])]⟩
def sg76 : Sig := ⟨160, [(false, [.sc]), (false, [.sc])], [], [(false, [.sc])]⟩
def sg77 : Sig := ⟨149, [(false, [.sc]), (false, [.sc])], [], [(false, [.sc])]⟩
def sg78 : Sig := ⟨161, [(false, [.sc]), (false, [.sc])], [], [(false, [.sc])]⟩
def sg79 : Sig := ⟨169, [(false, [.sc]), (false, [.sc])], [], [(false, [.sc])]⟩
def sg80 : Sig := ⟨180, [(false, [.sc]), (false, [.sc])], [], [(false, [.sc])]⟩
def sg81 : Sig := ⟨72, [(false, [.fz false]), (false, [.sc])], [], [(false, [.sc])]⟩
def sg82 : Sig := ⟨74, [(false, [.fz false]), (false, [.sc])], [], [(false, [.ow 99]), (false, [.sc])]⟩
def sg83 : Sig := ⟨122, [(false, [.sc]), (false, [.sc])], [], [(false, [.sc])]⟩
def sg84 : Sig := ⟨75, [(false, [.sc])], [], [(true, [.sc, .sc, .sc, .sc, .sc]), (false, [.sc]), (false, [.sc])]⟩
def sg85 : Sig := ⟨76, [(false, [.sc]), (false, [.sc])], [], [(true, [.sc, .ow 99]), (false, [.sc])]⟩
def sg86 : Sig := ⟨123, [(false, [.sc]), (false, [.sc])], [], [(false, [.sc]), (false, [.sc]), (false, [.sc])]⟩
def sg87 : Sig := ⟨150, [(false, [.sc]), (false, [.sc])], [], [(false, [.sc]), (false, [.sc]), (false, [.sc])]⟩
def sg88 : Sig := ⟨13, [(true, [.sc, .sc, .sc, .sc, .sc, .sc, .sc, .sc, .sc, .sc, .sc, .sc, .sc, .sc, .fz false]), (true, [.sc, .sc, .sc, .sc, .sc, .sc, .sc, .sc, .sc, .sc, .sc, .sc, .sc, .sc, .fz false])], [], [(false, [.sc])]⟩
def sg89 : Sig := ⟨77, [(true, [.sc, .fz false]), (true, [.sc, .fz false])], [], [(false, [.sc])]⟩
def sg90 : Sig := ⟨124, [(false, [.fz false]), (false, [.fz false])], [], [(false, [.sc])]⟩
def sg91 : Sig := ⟨14, [(true, [.sc, .sc, .sc, .sc, .sc, .sc, .sc, .sc, .sc, .sc, .sc, .sc, .sc, .sc, .fz false]), (true, [.sc, .sc, .sc, .sc, .sc, .sc, .sc, .sc, .sc, .sc, .sc, .sc, .sc, .sc, .fz false])], [], [(false, [.sc])]⟩
def sg92 : Sig := ⟨15, [(false, [.fz false])], [], [(false, [.sc]), (false, [.sc])]⟩
def sg93 : Sig := ⟨79, [(false, [.px 0]), (false, [.sc]), (false, [.sc])], [(false, [(.fz false, .fz), (.sc, .sc), (.sc, .sc)])], [(false, [.sc])]⟩
def sg94 : Sig := ⟨16, [(false, [.sc]), (false, [.sc])], [], [(true, [.sc, .sc, .sc, .sc, .sc, .sc, .sc, .sc, .sc, .sc, .sc, .sc, .sc, .sc, .ow 99]), (false, [.sc]), (false, [.sc])]⟩
def sg95 : Sig := ⟨80, [(false, [.sc]), (false, [.sc])], [], [(false, [.ow 99])]⟩
def sg96 : Sig := ⟨81, [(false, [.sc])], [], [(false, [.sc])]⟩
def sg97 : Sig := ⟨82, [(false, [.sc])], [], [(true, [.sc, .sc, .sc, .sc, .sc]), (false, [.sc]), (false, [.sc])]⟩
def sg98 : Sig := ⟨83, [(false, [.sc]), (false, [.sc])], [], [(true, [.sc, .ow 99]), (false, [.sc])]⟩
def sg99 : Sig := ⟨125, [(false, [.sc]), (true, [.sc, .fz false])], [], [(false, [.sc])]⟩
def sg100 : Sig := ⟨17, [(false, [.fz false])], [], [(true, [.sc, .sc, .sc, .sc, .sc, .sc, .sc, .sc, .sc, .sc, .sc, .sc, .sc, .sc, .ow 99]), (true, [.sc, .sc, .sc, .sc, .sc, .sc, .sc, .sc, .sc, .sc, .sc, .sc, .sc, .sc, .ow 99])]⟩
def sg101 : Sig := ⟨84, [(true, [.sc, .fz false])], [], [(true, [.sc, .ow 99])]⟩
def sg102 : Sig := ⟨126, [(false, [.fz false])], [], [(false, [.ow 99])]⟩
def sg103 : Sig := ⟨18, [(true, [.sc, .sc, .sc, .sc, .sc, .sc, .sc, .sc, .sc, .sc, .sc, .sc, .sc, .sc, .fz false]), (true, [.sc, .sc, .sc, .sc, .sc, .sc, .sc, .sc, .sc, .sc, .sc, .sc, .sc, .sc, .fz false])], [], [(false, [.sc])]⟩
def sigs : List (Nat × Sig) := [(0, sg0), (1, sg1), (2, sg2), (3, sg3), (4, sg4), (5, sg5), (6, sg6), (7, sg7), (8, sg8), (9, sg9), (10, sg10), (11, sg11), (12, sg12), (13, sg13), (14, sg14), (15, sg15), (16, sg16), (17, sg17), (18, sg18), (19, sg19), (20, sg20), (21, sg21), (22, sg22), (23, sg23), (24, sg24), (25, sg25), (26, sg26), (27, sg27), (28, sg28), (29, sg29), (30, sg30), (31, sg31), (32, sg32), (33, sg33), (34, sg34), (35, sg35), (36, sg36), (37, sg37), (38, sg38), (39, sg39), (40, sg40), (43, sg43), (48, sg48), (49, sg49), (50, sg50), (51, sg51), (52, sg52), (53, sg53), (54, sg54), (55, sg55), (56, sg56), (57, sg57), (58, sg58), (59, sg59), (60, sg60), (61, sg61), (62, sg62), (63, sg63), (64, sg64), (65, sg65), (66, sg66), (67, sg67), (68, sg68), (69, sg69), (70, sg70), (71, sg71), (72, sg72), (73, sg73), (74, sg74), (75, sg75), (76, sg76), (77, sg77), (78, sg78), (79, sg79), (80, sg80), (81, sg81), (82, sg82), (83, sg83), (84, sg84), (85, sg85), (86, sg86), (87, sg87), (88, sg88), (89, sg89), (90, sg90), (91, sg91), (92, sg92), (93, sg93), (94, sg94), (95, sg95), (96, sg96), (97, sg97), (98, sg98), (99, sg99), (100, sg100), (101, sg101), (102, sg102), (103, sg103)]
abbrev E0 : Env := ⟨tiTab tiL, sigs, 0, 0, false, false, [], []⟩

def tm0 : Tm Unit :=
(.call none 1 [.v 0, .v 1] 1 [] <|
(.ite (.v 2)
(.leaf .ret [.c (.bool true)] ())
(.call none 2 [.v 0] 16 [] <|
(.call none 16 [.v 3, .v 4, .v 5, .v 6, .v 7, .v 8, .v 9, .v 10, .v 11, .v 12, .v 13, .v 14, .v 15, .v 16, .v 17, .v 18] 2 [] <|
(.call none 50 [.v 3, .v 4, .v 5, .v 6, .v 7, .v 8, .v 9, .v 10, .v 11, .v 12, .v 13, .v 14, .v 15, .v 16, .v 17, .v 18] 2 [] <|
(.lt none (.eqb true) [.v 20, .v 22] 1 <|
(.lt (some (.v 23, false)) .id [.v 19] 1 <|
(.lt (some (.v 23, false)) .id [.v 21] 1 <|
(.lt (some (.v 23, false)) (.bin .neq) [.v 24, .v 25] 1 <|
(.lt none .pick [.v 23, .c (.bool true), .v 26] 1 <|
(.lt (some (.v 27, false)) .id [.v 3] 1 <|
(.call (some (.v 27, false)) 17 [.v 28, .v 4, .v 5, .v 6, .v 7, .v 8, .v 9, .v 10, .v 11, .v 12, .v 13, .v 14, .v 15, .v 16, .v 17, .v 18] 1 [] <|
(.lt (some (.v 27, false)) .id [.v 3] 1 <|
(.call (some (.v 27, false)) 51 [.v 30, .v 4, .v 5, .v 6, .v 7, .v 8, .v 9, .v 10, .v 11, .v 12, .v 13, .v 14, .v 15, .v 16, .v 17, .v 18] 1 [] <|
(.lt (some (.v 27, false)) (.eqb true) [.v 29, .v 31] 1 <|
(.lt none .pick [.v 27, .c (.bool true), .v 32] 1 <|
(.lt (some (.v 33, false)) .id [.v 20] 1 <|
(.lt (some (.v 33, false)) .id [.v 3] 1 <|
(.call (some (.v 33, false)) 17 [.v 35, .v 4, .v 5, .v 6, .v 7, .v 8, .v 9, .v 10, .v 11, .v 12, .v 13, .v 14, .v 15, .v 16, .v 17, .v 18] 1 [] <|
(.lt (some (.v 33, false)) (.eqb true) [.v 34, .v 36] 1 <|
(.lt none .pick [.v 33, .c (.bool true), .v 37] 1 <|
(.ite (.v 38)
(.leaf .ret [.c (.bool false)] ())
(.bind 0
(.ite (.v 20)
(.call none 68 [.v 3, .v 19] 17 [] <|
(.lt none .not [.v 55] 1 <|
(.lt (some (.v 56, false)) .id [.v 54] 1 <|
(.lt (some (.v 56, false)) (.bin .neq) [.v 57, .c (.int .i64 0)] 1 <|
(.lt none .pick [.v 56, .c (.bool true), .v 58] 1 <|
(.call (some (.v 59, false)) 88 [.v 39, .v 40, .v 41, .v 42, .v 43, .v 44, .v 45, .v 46, .v 47, .v 48, .v 49, .v 50, .v 51, .v 52, .v 53, .v 4, .v 5, .v 6, .v 7, .v 8, .v 9, .v 10, .v 11, .v 12, .v 13, .v 14, .v 15, .v 16, .v 17, .v 18] 1 [] <|
(.lt (some (.v 59, false)) .not [.v 60] 1 <|
(.lt none .pick [.v 59, .c (.bool true), .v 61] 1 <|
(.call (some (.v 62, false)) 91 [.v 39, .v 40, .v 41, .v 42, .v 43, .v 44, .v 45, .v 46, .v 47, .v 48, .v 49, .v 50, .v 51, .v 52, .v 53, .v 4, .v 5, .v 6, .v 7, .v 8, .v 9, .v 10, .v 11, .v 12, .v 13, .v 14, .v 15, .v 16, .v 17, .v 18] 1 [] <|
(.lt (some (.v 62, false)) .not [.v 63] 1 <|
(.lt none .pick [.v 62, .c (.bool true), .v 64] 1 <|
(.ite (.v 65)
(.leaf .ret [.c (.bool false)] ())
(.leaf (.yield 0) [] ())))))))))))))
(.leaf (.yield 0) [] ())) <|
(.call none 92 [.v 1] 2 [] <|
(.call none 68 [.v 39, .v 40] 17 [] <|
(.call none 94 [.v 39, .v 40] 17 [] <|
(.call none 100 [.v 1] 30 [] <|
(.lt none (.eqb true) [.v 57, .v 74] 1 <|
(.lt (some (.v 105, false)) .id [.v 56] 1 <|
(.lt (some (.v 105, false)) .id [.v 73] 1 <|
(.lt (some (.v 105, false)) (.bin .neq) [.v 106, .v 107] 1 <|
(.lt none .pick [.v 105, .c (.bool true), .v 108] 1 <|
(.call (some (.v 109, false)) 88 [.v 41, .v 42, .v 43, .v 44, .v 45, .v 46, .v 47, .v 48, .v 49, .v 50, .v 51, .v 52, .v 53, .v 54, .v 55, .v 58, .v 59, .v 60, .v 61, .v 62, .v 63, .v 64, .v 65, .v 66, .v 67, .v 68, .v 69, .v 70, .v 71, .v 72] 1 [] <|
(.lt (some (.v 109, false)) .not [.v 110] 1 <|
(.lt none .pick [.v 109, .c (.bool true), .v 111] 1 <|
(.call (some (.v 112, false)) 91 [.v 75, .v 76, .v 77, .v 78, .v 79, .v 80, .v 81, .v 82, .v 83, .v 84, .v 85, .v 86, .v 87, .v 88, .v 89, .v 90, .v 91, .v 92, .v 93, .v 94, .v 95, .v 96, .v 97, .v 98, .v 99, .v 100, .v 101, .v 102, .v 103, .v 104] 1 [] <|
(.call (some (.v 112, false)) 103 [.v 75, .v 76, .v 77, .v 78, .v 79, .v 80, .v 81, .v 82, .v 83, .v 84, .v 85, .v 86, .v 87, .v 88, .v 89, .v 90, .v 91, .v 92, .v 93, .v 94, .v 95, .v 96, .v 97, .v 98, .v 99, .v 100, .v 101, .v 102, .v 103, .v 104] 1 [] <|
(.lt (some (.v 112, false)) (.eqb true) [.v 113, .v 114] 1 <|
(.lt none .pick [.v 112, .c (.bool true), .v 115] 1 <|
(.ite (.v 116)
(.leaf .ret [.c (.bool false)] ())
(.ite (.v 57)
(.call none 16 [.v 39, .v 41, .v 42, .v 43, .v 44, .v 45, .v 46, .v 47, .v 48, .v 49, .v 50, .v 51, .v 52, .v 53, .v 54, .v 55] 2 [] <|
(.lt (some (.v 118, true)) .id [.v 117] 1 <|
(.lt (some (.v 118, true)) .id [.v 40] 1 <|
(.lt (some (.v 118, true)) (.bin .eql) [.v 119, .v 120] 1 <|
(.lt none .pick [.v 118, .v 121, .c (.bool false)] 1 <|
(.leaf .ret [.v 122] ()))))))
(.leaf .ret [.c (.bool true)] ()))))))))))))))))))))))))))))))))))))))))))
def tm1 : Tm Unit :=
(.lt none .len [.v 0] 1 <|
(.lt none (.bin .gtr) [.v 2, .c (.int .i64 1048576)] 1 <|
(.lt (some (.v 3, false)) .len [.v 1] 1 <|
(.lt (some (.v 3, false)) .len [.v 0] 1 <|
(.lt (some (.v 3, false)) (.bin .sub) [.c (.int .i64 1048576), .v 5] 1 <|
(.lt (some (.v 3, false)) (.bin .gtr) [.v 4, .v 6] 1 <|
(.lt none .pick [.v 3, .c (.bool true), .v 7] 1 <|
(.leaf .ret [.v 8] ()))))))))
def tm2 : Tm Unit :=
(.call none 3 [.v 0] 16 [] <|
(.leaf .ret [.v 1, .v 2, .v 3, .v 4, .v 5, .v 6, .v 7, .v 8, .v 9, .v 10, .v 11, .v 12, .v 13, .v 14, .v 15, .v 16] ()))
def tm3 : Tm Unit :=
(.call none 4 [.v 0, .c (.int .i64 0), .c (.int .u64 0)] 4 [] <|
(.call none 8 [.v 1, .v 2, .v 3, .v 4] 18 [] <|
(.leaf .ret [.v 1, .v 5, .v 6, .v 7, .v 8, .v 9, .v 10, .v 11, .v 12, .v 13, .v 14, .v 15, .v 16, .v 17, .v 18, .v 19] ())))
def tm4 : Tm Unit :=
(.lt none (.mk 1 7) [.c (.int .i64 3), .c (.int .i64 3), .c (.int .i64 3), .c (.int .i64 5), .c (.int .i64 5), .c (.int .i64 4), .c (.int .i64 0)] 1 <|
(.call none 5 [.v 3, .v 0, .v 1, .v 2] 4 [] <|
(.leaf .ret [.v 4, .v 5, .v 6, .v 7] ())))
def tm5 : Tm Unit :=
(.lt none .len [.v 0] 1 <|
(.call none 6 [.v 4, .v 1, .v 2, .v 3] 4 [] <|
(.lt none .inb [.v 0, .v 5] 0 <|
(.lt none (.row 1 0 [true]) [.v 0, .v 5] 1 <|
(.leaf .ret [.v 9, .v 6, .v 7, .v 8] ())))))
def tm6 : Tm Unit :=
(.lt none (.bin .leq) [.v 0, .c (.int .i64 1)] 1 <|
(.ite (.v 4)
(.leaf .ret [.c (.int .i64 0), .v 1, .v 2, .v 3] ())
(.call none 7 [.v 1, .v 2, .v 3] 4 [] <|
(.bind 0
(.lt none (.bin .gtr) [.v 0, .c (.int .i64 200)] 1 <|
(.ite (.v 9)
(.lt none (.bin .mul) [.v 5, .c (.int .i64 256)] 1 <|
(.call none 7 [.v 6, .v 7, .v 8] 4 [] <|
(.lt none (.bin .add) [.v 10, .v 11] 1 <|
(.leaf (.yield 0) [.v 15, .v 12, .v 13, .v 14] ()))))
(.leaf (.yield 0) [.v 5, .v 6, .v 7, .v 8] ()))) <|
(.lt none (.bin .rem) [.v 9, .v 0] 1 <|
(.leaf .ret [.v 13, .v 10, .v 11, .v 12] ()))))))
def tm7 : Tm Unit :=
(.bind 0
(.lt none .len [.v 0] 1 <|
(.lt none (.bin .lss) [.v 1, .v 3] 1 <|
(.ite (.v 4)
(.lt none .inb [.v 0, .v 1] 0 <|
(.lt none (.row 1 0 [true]) [.v 0, .v 1] 1 <|
(.lt none (.conv .i64) [.v 5] 1 <|
(.leaf (.yield 0) [.v 6] ()))))
(.leaf (.yield 0) [.c (.int .i64 0)] ())))) <|
(.lt none (.bin .add) [.v 1, .c (.int .i64 1)] 1 <|
(.lt none (.bin .mul) [.v 2, .c (.int .u64 6364136223846793005)] 1 <|
(.lt none (.conv .u64) [.v 3] 1 <|
(.lt none (.bin .add) [.v 5, .v 6] 1 <|
(.lt none (.bin .add) [.v 7, .c (.int .u64 1442695040888963407)] 1 <|
(.lt none .len [.v 0] 1 <|
(.lt none (.bin .leq) [.v 4, .v 9] 1 <|
(.ite (.v 10)
(.leaf .ret [.v 3, .v 0, .v 4, .v 8] ())
(.lt none (.bin .shr) [.v 8, .c (.int .u64 40)] 1 <|
(.lt none (.bin .and) [.v 11, .c (.int .u64 255)] 1 <|
(.lt none (.conv .i64) [.v 12] 1 <|
(.leaf .ret [.v 13, .v 0, .v 4, .v 8] ())))))))))))))
def tm8 : Tm Unit :=
(.call none 6 [.c (.int .i64 7), .v 1, .v 2, .v 3] 4 [] <|
(.lt none (.bin .add) [.c (.int .i64 1), .v 4] 1 <|
(.call none 6 [.c (.int .i64 3), .v 5, .v 6, .v 7] 4 [] <|
(.call none 6 [.c (.int .i64 3), .v 10, .v 11, .v 12] 4 [] <|
(.call none 6 [.c (.int .i64 3), .v 14, .v 15, .v 16] 4 [] <|
(.lt none (.bin .add) [.c (.int .i64 1), .v 17] 1 <|
(.lt none (.mk 1 5) [.c (.int .i64 0), .c (.int .i64 0), .c (.int .i64 8), .c (.int .i64 9), .c (.int .i64 17)] 1 <|
(.call none 5 [.v 22, .v 18, .v 19, .v 20] 4 [] <|
(.call none 9 [.v 0, .c (.int .i64 0)] 1 [] <|
(.call none 10 [.v 27] 2 [] <|
(.lt none (.bin .add) [.v 9, .c (.int .i64 1)] 1 <|
(.call none 6 [.c (.int .i64 2), .v 24, .v 25, .v 26] 4 [] <|
(.lt none (.bin .add) [.v 30, .v 31] 1 <|
(.lt none (.bin .rem) [.v 35, .c (.int .i64 3)] 1 <|
(.bind 0
(.bind 0
(.lt none (.bin .eql) [.v 8, .c (.int .i64 1)] 1 <|
(.ite (.v 37)
(.leaf (.yield 0) [.v 37] ())
(.lt none (.bin .eql) [.v 8, .c (.int .i64 3)] 1 <|
(.ite (.v 38)
(.leaf (.yield 0) [.v 38] ())
(.lt none (.bin .eql) [.v 8, .c (.int .i64 5)] 1 <|
(.leaf (.yield 0) [.v 39] ())))))) <|
(.ite (.v 37)
(.call none 11 [.v 32, .v 33, .v 34] 8 [] <|
(.call none 9 [.v 0, .c (.int .i64 0)] 1 [] <|
(.call none 13 [.v 46, .v 43, .v 44, .v 45] 5 [] <|
(.lt none (.dep 99) [.v 48] 0 <|
(.leaf (.yield 0) [.v 49, .v 50, .v 51, .v 23, .c (.int .i64 0), .c (.int .i64 0), .v 38, .v 39, .v 40, .v 41, .v 42, .v 47, .v 48] ())))))
(.lt none (.bin .eql) [.v 8, .c (.int .i64 2)] 1 <|
(.ite (.v 38)
(.call none 9 [.v 0, .c (.int .i64 0)] 1 [] <|
(.call none 13 [.v 39, .v 32, .v 33, .v 34] 5 [] <|
(.lt none (.dep 99) [.v 41] 0 <|
(.leaf (.yield 0) [.v 42, .v 43, .v 44, .v 23, .c (.int .i64 0), .c (.int .i64 0), .c (.int .i64 0), .c (.int .i64 0), .c (.int .i64 0), .c (.int .i64 0), .c (.int .i64 0), .v 40, .v 41] ()))))
(.lt none (.bin .eql) [.v 8, .c (.int .i64 7)] 1 <|
(.ite (.v 39)
(.call none 9 [.v 0, .c (.int .i64 0)] 1 [] <|
(.call none 14 [.v 40, .v 32, .v 33, .v 34] 13 [] <|
(.lt none (.dep 99) [.v 50] 0 <|
(.lt none (.bin .neq) [.v 43, .c (.int .i64 3)] 1 <|
(.ite (.v 54)
(.leaf (.yield 0) [.v 51, .v 52, .v 53, .v 41, .v 42, .v 43, .v 44, .v 45, .v 46, .v 47, .v 48, .v 49, .v 50] ())
(.leaf (.yield 0) [.v 51, .v 52, .v 53, .v 23, .c (.int .i64 0), .c (.int .i64 0), .c (.int .i64 0), .c (.int .i64 0), .c (.int .i64 0), .c (.int .i64 0), .c (.int .i64 0), .v 28, .v 29] ()))))))
(.leaf (.yield 0) [.v 32, .v 33, .v 34, .v 23, .c (.int .i64 0), .c (.int .i64 0), .c (.int .i64 0), .c (.int .i64 0), .c (.int .i64 0), .c (.int .i64 0), .c (.int .i64 0), .v 28, .v 29] ()))))))) <|
(.bind 0
(.lt none (.bin .eql) [.v 8, .c (.int .i64 5)] 1 <|
(.ite (.v 50)
(.leaf (.yield 0) [.c (.int .i64 0)] ())
(.leaf (.yield 0) [.v 40] ()))) <|
(.bind 0
(.call none 6 [.c (.int .i64 40), .v 37, .v 38, .v 39] 4 [] <|
(.lt none (.bin .eql) [.v 51, .c (.int .i64 0)] 1 <|
(.ite (.v 55)
(.leaf (.yield 0) [.v 52, .v 53, .v 54, .v 9, .v 42, .v 43, .v 44, .v 45, .v 46, .v 47] ())
(.lt none (.bin .eql) [.v 51, .c (.int .i64 1)] 1 <|
(.ite (.v 56)
(.call none 6 [.c (.int .i64 5), .v 52, .v 53, .v 54] 4 [] <|
(.leaf (.yield 0) [.v 58, .v 59, .v 60, .v 36, .v 57, .v 43, .v 44, .v 45, .v 46, .v 47] ()))
(.lt none (.bin .eql) [.v 51, .c (.int .i64 2)] 1 <|
(.ite (.v 57)
(.call none 15 [.v 52, .v 53, .v 54] 8 [] <|
(.leaf (.yield 0) [.v 63, .v 64, .v 65, .v 36, .v 42, .v 58, .v 59, .v 60, .v 61, .v 62] ()))
(.leaf (.yield 0) [.v 52, .v 53, .v 54, .v 36, .v 42, .v 43, .v 44, .v 45, .v 46, .v 47] ())))))))) <|
(.leaf .ret [.v 8, .v 9, .v 54, .v 13, .v 21, .v 50, .v 41, .v 55, .v 56, .v 57, .v 58, .v 59, .v 60, .v 48, .v 49, .v 51, .v 52, .v 53] ()))))))))))))))))))
def tm9 : Tm Unit :=
(.lt none (.bin .gtr) [.v 0, .v 1] 1 <|
(.ite (.v 2)
(.leaf .ret [.v 0] ())
(.leaf .ret [.v 1] ())))
def tm10 : Tm Unit :=
(.lt none (.make 8 [(.int .i64 0)]) [.v 0] 1 <|
(.leaf .ret [.c (.int .i64 0), .v 1] ()))
def tm11 : Tm Unit :=
(.call none 6 [.c (.int .i64 9), .v 0, .v 1, .v 2] 4 [] <|
(.lt none (.bin .add) [.c (.int .i64 1), .v 3] 1 <|
(.call none 6 [.c (.int .i64 4), .v 4, .v 5, .v 6] 4 [] <|
(.call none 6 [.c (.int .i64 30), .v 9, .v 10, .v 11] 4 [] <|
(.lt none (.bin .add) [.c (.int .i64 1), .v 12] 1 <|
(.lt none (.bin .add) [.v 8, .c (.int .i64 1)] 1 <|
(.call none 6 [.c (.int .i64 3), .v 13, .v 14, .v 15] 4 [] <|
(.lt none (.bin .add) [.v 17, .v 18] 1 <|
(.lt none (.bin .rem) [.v 22, .c (.int .i64 4)] 1 <|
(.call none 12 [.c (.int .i64 4), .v 19, .v 20, .v 21] 4 [] <|
(.ite (.v 24)
(.leaf .ret [.c (.int .i64 2), .v 7, .v 8, .c (.int .i64 0), .c (.int .i64 0), .v 25, .v 26, .v 27] ())
(.leaf .ret [.c (.int .i64 1), .v 7, .v 8, .v 23, .v 16, .v 25, .v 26, .v 27] ()))))))))))))
def tm12 : Tm Unit :=
(.call none 6 [.v 0, .v 1, .v 2, .v 3] 4 [] <|
(.lt none (.bin .eql) [.v 4, .c (.int .i64 0)] 1 <|
(.leaf .ret [.v 8, .v 5, .v 6, .v 7] ())))
def tm13 : Tm Unit :=
(.call none 6 [.c (.int .i64 5), .v 1, .v 2, .v 3] 4 [] <|
(.bind 1
(.loop [.c (.int .i64 0), .v 5, .v 6, .v 7, .c (.rows 1 [])]
(.lt none (.bin .lss) [.v 8, .v 0] 1 <|
(.ite (.v 13)
(.call none 6 [.c (.int .i64 4), .v 9, .v 10, .v 11] 4 [] <|
(.lt none (.mk 1 1) [.v 14] 1 <|
(.lt none (.app 1 8 true) [.v 12, .v 18] 1 <|
(.lt none (.bin .add) [.v 8, .c (.int .i64 1)] 1 <|
(.leaf .cont [.v 20, .v 15, .v 16, .v 17, .v 19] ())))))
(.leaf (.yield 1) [.v 9, .v 10, .v 11, .v 12] ())))) <|
(.bind 0
(.call none 6 [.c (.int .i64 30), .v 8, .v 9, .v 10] 4 [] <|
(.lt none (.bin .eql) [.v 12, .c (.int .i64 0)] 1 <|
(.ite (.v 16)
(.lt none (.mk 1 3) [.c (.int .i64 (-1)), .c (.int .i64 999), .c (.int .i64 1000)] 1 <|
(.call none 5 [.v 17, .v 13, .v 14, .v 15] 4 [] <|
(.leaf (.yield 0) [.v 19, .v 20, .v 21, .v 18, .v 11] ())))
(.lt none (.bin .eql) [.v 12, .c (.int .i64 1)] 1 <|
(.ite (.v 17)
(.lt none (.bin .gtr) [.v 0, .c (.int .i64 0)] 1 <|
(.ite (.v 18)
(.lt none (.mk 1 3) [.c (.int .i64 (-1)), .c (.int .i64 6), .c (.int .i64 7)] 1 <|
(.call none 5 [.v 19, .v 13, .v 14, .v 15] 4 [] <|
(.lt none .inb [.v 11, .c (.int .i64 0)] 0 <|
(.lt none (.set 1 0 1) [.v 11, .c (.int .i64 0), .v 20] 1 <|
(.leaf (.yield 0) [.v 21, .v 22, .v 23, .v 4, .v 24] ())))))
(.leaf (.yield 0) [.v 13, .v 14, .v 15, .v 4, .v 11] ())))
(.lt none (.bin .eql) [.v 12, .c (.int .i64 2)] 1 <|
(.ite (.v 18)
(.lt none (.mk 1 1) [.c (.int .i64 1)] 1 <|
(.lt none (.app 1 8 true) [.v 11, .v 19] 1 <|
(.leaf (.yield 0) [.v 13, .v 14, .v 15, .v 4, .v 20] ())))
(.leaf (.yield 0) [.v 13, .v 14, .v 15, .v 4, .v 11] ())))))))) <|
(.leaf .ret [.v 15, .v 16, .v 12, .v 13, .v 14] ()))))
def tm14 : Tm Unit :=
(.lt none (.mk 1 5) [.c (.int .i64 0), .c (.int .i64 0), .c (.int .i64 8), .c (.int .i64 9), .c (.int .i64 17)] 1 <|
(.call none 5 [.v 4, .v 1, .v 2, .v 3] 4 [] <|
(.call none 6 [.c (.int .i64 4), .v 6, .v 7, .v 8] 4 [] <|
(.call none 11 [.v 10, .v 11, .v 12] 8 [] <|
(.call none 6 [.c (.int .i64 5), .v 18, .v 19, .v 20] 4 [] <|
(.bind 1
(.loop [.c (.int .i64 0), .v 22, .v 23, .v 24, .c (.rows 1 [])]
(.lt none (.bin .lss) [.v 25, .v 0] 1 <|
(.ite (.v 30)
(.call none 6 [.c (.int .i64 3), .v 26, .v 27, .v 28] 4 [] <|
(.lt none (.mk 1 1) [.v 31] 1 <|
(.lt none (.app 1 8 true) [.v 29, .v 35] 1 <|
(.lt none (.bin .add) [.v 25, .c (.int .i64 1)] 1 <|
(.leaf .cont [.v 37, .v 32, .v 33, .v 34, .v 36] ())))))
(.leaf (.yield 1) [.v 26, .v 27, .v 28, .v 29] ())))) <|
(.bind 0
(.call none 12 [.c (.int .i64 2), .v 25, .v 26, .v 27] 4 [] <|
(.ite (.v 29)
(.leaf (.yield 0) [.v 30, .v 31, .v 32, .v 5] ())
(.leaf (.yield 0) [.v 30, .v 31, .v 32, .c (.int .i64 0)] ()))) <|
(.bind 0
(.lt none (.bin .eql) [.v 9, .c (.int .i64 0)] 1 <|
(.ite (.v 33)
(.call none 10 [.v 0] 2 [] <|
(.leaf (.yield 0) [.c (.int .i64 0), .c (.int .i64 0), .c (.int .i64 0), .c (.int .i64 0), .c (.int .i64 0), .c (.int .i64 0), .c (.int .i64 0), .v 34, .v 35] ()))
(.leaf (.yield 0) [.v 32, .v 9, .v 13, .v 14, .v 15, .v 16, .v 17, .v 21, .v 28] ()))) <|
(.leaf .ret [.v 5, .v 33, .v 34, .v 35, .v 36, .v 37, .v 38, .v 39, .v 40, .v 41, .v 29, .v 30, .v 31] ())))))))))
def tm15 : Tm Unit :=
(.call none 11 [.v 0, .v 1, .v 2] 8 [] <|
(.bind 0
(.call none 6 [.c (.int .i64 20), .v 8, .v 9, .v 10] 4 [] <|
(.lt none (.bin .eql) [.v 11, .c (.int .i64 0)] 1 <|
(.ite (.v 15)
(.leaf .ret [.c (.int .i64 0), .c (.int .i64 0), .c (.int .i64 0), .c (.int .i64 0), .c (.int .i64 0), .v 12, .v 13, .v 14] ())
(.lt none (.bin .eql) [.v 11, .c (.int .i64 1)] 1 <|
(.ite (.v 16)
(.leaf (.yield 0) [.v 12, .v 13, .v 14, .v 3, .v 4, .v 5, .v 5, .v 7] ())
(.lt none (.bin .eql) [.v 11, .c (.int .i64 2)] 1 <|
(.ite (.v 17)
(.lt none (.mk 1 3) [.c (.int .i64 0), .c (.int .i64 999), .c (.int .i64 1000)] 1 <|
(.call none 5 [.v 18, .v 12, .v 13, .v 14] 4 [] <|
(.leaf (.yield 0) [.v 20, .v 21, .v 22, .v 3, .v 19, .v 5, .v 6, .v 7] ())))
(.lt none (.bin .eql) [.v 11, .c (.int .i64 3)] 1 <|
(.ite (.v 18)
(.lt none (.mk 1 3) [.c (.int .i64 0), .c (.int .i64 1000), .c (.int .i64 1001)] 1 <|
(.call none 5 [.v 19, .v 12, .v 13, .v 14] 4 [] <|
(.leaf (.yield 0) [.v 21, .v 22, .v 23, .v 3, .v 4, .v 5, .v 6, .v 20] ())))
(.lt none (.bin .eql) [.v 11, .c (.int .i64 4)] 1 <|
(.ite (.v 19)
(.lt none (.mk 1 2) [.c (.int .i64 (-1)), .c (.int .i64 4)] 1 <|
(.call none 5 [.v 20, .v 12, .v 13, .v 14] 4 [] <|
(.leaf (.yield 0) [.v 22, .v 23, .v 24, .v 3, .v 4, .v 21, .v 6, .v 7] ())))
(.lt none (.bin .eql) [.v 11, .c (.int .i64 5)] 1 <|
(.ite (.v 20)
(.call none 6 [.c (.int .i64 4), .v 12, .v 13, .v 14] 4 [] <|
(.leaf (.yield 0) [.v 22, .v 23, .v 24, .v 21, .v 4, .v 5, .v 6, .v 7] ()))
(.leaf (.yield 0) [.v 12, .v 13, .v 14, .v 3, .v 4, .v 5, .v 6, .v 7] ())))))))))))))) <|
(.leaf .ret [.v 14, .v 15, .v 16, .v 17, .v 18, .v 11, .v 12, .v 13] ())))
def tm16 : Tm Unit :=
(.call none 17 [.v 0, .v 1, .v 2, .v 3, .v 4, .v 5, .v 6, .v 7, .v 8, .v 9, .v 10, .v 11, .v 12, .v 13, .v 14, .v 15] 1 [] <|
(.lt none .not [.v 16] 1 <|
(.ite (.v 17)
(.leaf .ret [.c (.str []), .c (.bool false)] ())
(.call none 34 [.v 1, .v 2, .v 3, .v 4, .v 5, .v 6, .v 7, .v 8, .v 9, .v 10, .v 11, .v 12, .v 13, .v 14, .v 15] 1 [] <|
(.leaf .ret [.v 18, .c (.bool true)] ())))))
def tm17 : Tm Unit :=
(.call none 18 [.v 1, .c (.int .i64 1), .c (.int .i64 7)] 1 [] <|
(.lt none .not [.v 16] 1 <|
(.lt (some (.v 17, false)) .id [.v 0] 1 <|
(.lt (some (.v 17, false)) .id [.v 4] 1 <|
(.lt (some (.v 17, false)) .id [.v 5] 1 <|
(.call (some (.v 17, false)) 19 [.v 18, .v 19, .v 20] 1 [] <|
(.lt (some (.v 17, false)) .not [.v 21] 1 <|
(.lt none .pick [.v 17, .c (.bool true), .v 22] 1 <|
(.lt (some (.v 23, false)) .id [.v 2] 1 <|
(.lt (some (.v 23, false)) .id [.v 0] 1 <|
(.lt (some (.v 23, false)) (.bin .sub) [.v 25, .c (.int .i64 1)] 1 <|
(.call (some (.v 23, false)) 18 [.v 24, .c (.int .i64 0), .v 26] 1 [] <|
(.lt (some (.v 23, false)) .not [.v 27] 1 <|
(.lt none .pick [.v 23, .c (.bool true), .v 28] 1 <|
(.lt (some (.v 29, false)) .id [.v 3] 1 <|
(.lt (some (.v 29, false)) .id [.v 0] 1 <|
(.lt (some (.v 29, false)) (.bin .sub) [.v 31, .c (.int .i64 1)] 1 <|
(.call (some (.v 29, false)) 18 [.v 30, .c (.int .i64 0), .v 32] 1 [] <|
(.lt (some (.v 29, false)) .not [.v 33] 1 <|
(.lt none .pick [.v 29, .c (.bool true), .v 34] 1 <|
(.lt (some (.v 35, false)) .id [.v 2] 1 <|
(.lt (some (.v 35, false)) .id [.v 3] 1 <|
(.lt (some (.v 35, false)) (.bin .eql) [.v 36, .v 37] 1 <|
(.lt none .pick [.v 35, .c (.bool true), .v 38] 1 <|
(.lt (some (.v 39, false)) .id [.v 6] 1 <|
(.call (some (.v 39, false)) 18 [.v 40, .c (.int .i64 0), .c (.int .i64 9999)] 1 [] <|
(.lt (some (.v 39, false)) .not [.v 41] 1 <|
(.lt none .pick [.v 39, .c (.bool true), .v 42] 1 <|
(.lt (some (.v 43, false)) .id [.v 1] 1 <|
(.lt (some (.v 43, false)) (.bin .eql) [.v 44, .c (.int .i64 5)] 1 <|
(.lt (some (.v 43, false)) .id [.v 45] 1 <|
(.lt (some (.v 46, true)) .id [.v 6] 1 <|
(.lt (some (.v 46, true)) (.bin .neq) [.v 47, .c (.int .i64 0)] 1 <|
(.lt (some (.v 43, false)) .pick [.v 46, .v 48, .c (.bool false)] 1 <|
(.lt none .pick [.v 43, .c (.bool true), .v 49] 1 <|
(.ite (.v 50)
(.leaf .ret [.c (.bool false)] ())
(.lt none (.bin .eql) [.v 1, .c (.int .i64 7)] 1 <|
(.ite (.v 51)
(.lt none (.bin .neq) [.v 8, .c (.int .i64 3)] 1 <|
(.lt (some (.v 52, true)) .id [.v 0] 1 <|
(.call (some (.v 52, true)) 21 [.v 1, .v 2, .v 3, .v 4, .v 5, .v 6, .v 7, .v 8, .v 9, .v 10, .v 11, .v 12, .v 13, .v 14, .v 15] 10 [] <|
(.call (some (.v 52, true)) 24 [.v 53, .v 54, .v 55, .v 56, .v 57, .v 58, .v 59, .v 60, .v 61, .v 62, .v 63] 1 [] <|
(.lt none .pick [.v 52, .v 64, .c (.bool false)] 1 <|
(.leaf .ret [.v 65] ()))))))
(.lt none (.bin .eql) [.v 1, .c (.int .i64 1)] 1 <|
(.lt (some (.v 52, false)) .id [.v 1] 1 <|
(.lt (some (.v 52, false)) (.bin .eql) [.v 53, .c (.int .i64 3)] 1 <|
(.lt none .pick [.v 52, .c (.bool true), .v 54] 1 <|
(.lt (some (.v 55, false)) .id [.v 1] 1 <|
(.lt (some (.v 55, false)) (.bin .eql) [.v 56, .c (.int .i64 5)] 1 <|
(.lt none .pick [.v 55, .c (.bool true), .v 57] 1 <|
(.bind 0
(.lt none (.bin .neq) [.v 7, .c (.int .i64 0)] 1 <|
(.lt (some (.v 59, false)) .id [.v 8] 1 <|
(.lt (some (.v 59, false)) (.bin .neq) [.v 60, .c (.int .i64 0)] 1 <|
(.lt none .pick [.v 59, .c (.bool true), .v 61] 1 <|
(.call (some (.v 62, false)) 25 [.v 9, .v 10, .v 11, .v 12, .v 13] 1 [] <|
(.lt (some (.v 62, false)) .not [.v 63] 1 <|
(.lt none .pick [.v 62, .c (.bool true), .v 64] 1 <|
(.lt (some (.v 65, false)) .id [.v 0] 1 <|
(.call (some (.v 65, false)) 27 [.v 66, .v 14, .v 15] 1 [] <|
(.lt (some (.v 65, false)) .not [.v 67] 1 <|
(.lt none .pick [.v 65, .c (.bool true), .v 68] 1 <|
(.ite (.v 69)
(.leaf (.yield 0) [.v 69] ())
(.lt none .not [.v 58] 1 <|
(.lt (some (.v 70, true)) (.eqs [0, 0, 0, 0, 0]) [.v 9, .v 10, .v 11, .v 12, .v 13, .c (.int .i64 0), .c (.int .i64 0), .c (.int .i64 0), .c (.int .i64 0), .c (.int .i64 0)] 1 <|
(.lt (some (.v 70, true)) .not [.v 71] 1 <|
(.lt none .pick [.v 70, .v 72, .c (.bool false)] 1 <|
(.leaf (.yield 0) [.v 73] ()))))))))))))))))) <|
(.ite (.v 59)
(.leaf .ret [.c (.bool false)] ())
(.lt (some (.v 58, false)) .id [.v 1] 1 <|
(.lt (some (.v 58, false)) (.bin .eql) [.v 60, .c (.int .i64 2)] 1 <|
(.lt none .pick [.v 58, .c (.bool true), .v 61] 1 <|
(.lt (some (.v 62, false)) .id [.v 0] 1 <|
(.call (some (.v 62, false)) 31 [.v 63] 2 [] <|
(.call (some (.v 62, false)) 32 [.v 14, .v 15, .v 64, .v 65] 1 [] <|
(.lt none .pick [.v 62, .c (.bool true), .v 66] 1 <|
(.leaf .ret [.v 67] ())))))))))))))))))))))))))))))))))))))))))))))))))))))))
def tm18 : Tm Unit :=
(.lt none (.bin .leq) [.v 1, .v 0] 1 <|
(.lt (some (.v 3, true)) .id [.v 0] 1 <|
(.lt (some (.v 3, true)) .id [.v 2] 1 <|
(.lt (some (.v 3, true)) (.bin .leq) [.v 4, .v 5] 1 <|
(.lt none .pick [.v 3, .v 6, .c (.bool false)] 1 <|
(.leaf .ret [.v 7] ()))))))
def tm19 : Tm Unit :=
(.call none 20 [.v 0] 1 [] <|
(.lt (some (.v 3, true)) .id [.v 1] 1 <|
(.lt (some (.v 3, true)) .id [.v 0] 1 <|
(.lt (some (.v 3, true)) (.bin .sub) [.v 5, .c (.int .i64 1)] 1 <|
(.call (some (.v 3, true)) 18 [.v 4, .c (.int .i64 0), .v 6] 1 [] <|
(.lt none .pick [.v 3, .v 7, .c (.bool false)] 1 <|
(.lt (some (.v 8, true)) .id [.v 2] 1 <|
(.call (some (.v 8, true)) 18 [.v 9, .c (.int .i64 1), .c (.int .i64 6)] 1 [] <|
(.lt none .pick [.v 8, .v 10, .c (.bool false)] 1 <|
(.leaf .ret [.v 11] ()))))))))))
def tm20 : Tm Unit :=
(.lt none (.bin .eql) [.v 0, .c (.int .i64 3)] 1 <|
(.lt (some (.v 1, false)) .id [.v 0] 1 <|
(.lt (some (.v 1, false)) (.bin .eql) [.v 2, .c (.int .i64 5)] 1 <|
(.lt none .pick [.v 1, .c (.bool true), .v 3] 1 <|
(.leaf .ret [.v 4] ())))))
def tm21 : Tm Unit :=
(.call none 22 [.v 13, .v 14] 2 [] <|
(.leaf .ret [.v 5, .v 6, .v 7, .v 8, .v 9, .v 10, .v 11, .v 12, .v 15, .v 16] ()))
def tm22 : Tm Unit :=
(.call none 23 [.v 1] 1 [] <|
(.leaf .ret [.v 0, .v 2] ()))
def tm23 : Tm Unit :=
(.lt none .ne [.v 0] 0 <|
(.lt none .emp [.v 0] 1 <|
(.ite (.v 1)
(.leaf .ret [.c (.rows 1 [])] ())
(.lt none (.mk 1 0) [] 1 <|
(.lt none (.app 1 8 true) [.v 2, .v 0] 1 <|
(.leaf .ret [.v 3] ()))))))
def tm24 : Tm Unit :=
(.call none 18 [.v 1, .c (.int .i64 0), .c (.int .i64 9999)] 1 [] <|
(.lt none .not [.v 11] 1 <|
(.lt (some (.v 12, false)) .id [.v 2] 1 <|
(.lt (some (.v 12, false)) .id [.v 1] 1 <|
(.call (some (.v 12, false)) 18 [.v 13, .c (.int .i64 0), .v 14] 1 [] <|
(.lt (some (.v 12, false)) .not [.v 15] 1 <|
(.lt none .pick [.v 12, .c (.bool true), .v 16] 1 <|
(.lt (some (.v 17, false)) .id [.v 3] 1 <|
(.call (some (.v 17, false)) 18 [.v 18, .c (.int .i64 0), .c (.int .i64 3)] 1 [] <|
(.lt (some (.v 17, false)) .not [.v 19] 1 <|
(.lt none .pick [.v 17, .c (.bool true), .v 20] 1 <|
(.call (some (.v 21, false)) 25 [.v 4, .v 5, .v 6, .v 7, .v 8] 1 [] <|
(.lt (some (.v 21, false)) .not [.v 22] 1 <|
(.lt none .pick [.v 21, .c (.bool true), .v 23] 1 <|
(.lt (some (.v 24, false)) .id [.v 0] 1 <|
(.call (some (.v 24, false)) 27 [.v 25, .v 9, .v 10] 1 [] <|
(.lt (some (.v 24, false)) .not [.v 26] 1 <|
(.lt none .pick [.v 24, .c (.bool true), .v 27] 1 <|
(.ite (.v 28)
(.leaf .ret [.c (.bool false)] ())
(.lt none (.bin .neq) [.v 3, .c (.int .i64 0)] 1 <|
(.lt (some (.v 29, false)) .id [.v 2] 1 <|
(.lt (some (.v 29, false)) (.bin .eql) [.v 30, .c (.int .i64 0)] 1 <|
(.lt (some (.v 29, false)) .id [.v 31] 1 <|
(.lt (some (.v 32, true)) (.eqs [0, 0, 0, 0, 0]) [.v 4, .v 5, .v 6, .v 7, .v 8, .c (.int .i64 0), .c (.int .i64 0), .c (.int .i64 0), .c (.int .i64 0), .c (.int .i64 0)] 1 <|
(.lt (some (.v 29, false)) .pick [.v 32, .v 33, .c (.bool false)] 1 <|
(.lt (some (.v 29, false)) .id [.v 34] 1 <|
(.lt (some (.v 35, true)) .id [.v 0] 1 <|
(.call (some (.v 35, true)) 31 [.v 36] 2 [] <|
(.call (some (.v 35, true)) 32 [.v 9, .v 10, .v 37, .v 38] 1 [] <|
(.lt (some (.v 29, false)) .pick [.v 35, .v 39, .c (.bool false)] 1 <|
(.lt none .pick [.v 29, .c (.bool true), .v 40] 1 <|
(.leaf .ret [.v 41] ()))))))))))))))))))))))))))))))))
def tm25 : Tm Unit :=
(.lt none (.bin .eql) [.v 0, .c (.int .i64 0)] 1 <|
(.ite (.v 5)
(.lt none (.eqs [0, 0, 0, 0, 0]) [.v 0, .v 1, .v 2, .v 3, .v 4, .c (.int .i64 0), .c (.int .i64 0), .c (.int .i64 0), .c (.int .i64 0), .c (.int .i64 0)] 1 <|
(.leaf .ret [.v 6] ()))
(.lt none (.bin .eql) [.v 0, .c (.int .i64 1)] 1 <|
(.ite (.v 6)
(.call none 18 [.v 1, .c (.int .i64 1), .c (.int .i64 999)] 1 [] <|
(.lt (some (.v 7, true)) .id [.v 2] 1 <|
(.call (some (.v 7, true)) 26 [.v 8] 1 [] <|
(.lt none .pick [.v 7, .v 9, .c (.bool false)] 1 <|
(.lt (some (.v 10, true)) .id [.v 3] 1 <|
(.call (some (.v 10, true)) 26 [.v 11] 1 [] <|
(.lt none .pick [.v 10, .v 12, .c (.bool false)] 1 <|
(.lt (some (.v 13, true)) .id [.v 2] 1 <|
(.lt (some (.v 13, true)) .id [.v 3] 1 <|
(.lt (some (.v 13, true)) (.bin .neq) [.v 14, .v 15] 1 <|
(.lt none .pick [.v 13, .v 16, .c (.bool false)] 1 <|
(.lt (some (.v 17, true)) .id [.v 4] 1 <|
(.call (some (.v 17, true)) 18 [.v 18, .c (.int .i64 1), .c (.int .i64 1000)] 1 [] <|
(.lt none .pick [.v 17, .v 19, .c (.bool false)] 1 <|
(.leaf .ret [.v 20] ())))))))))))))))
(.lt none (.bin .eql) [.v 0, .c (.int .i64 2)] 1 <|
(.lt (some (.v 7, true)) .id [.v 1] 1 <|
(.call (some (.v 7, true)) 18 [.v 8, .c (.int .i64 1), .c (.int .i64 999)] 1 [] <|
(.lt none .pick [.v 7, .v 9, .c (.bool false)] 1 <|
(.lt (some (.v 10, true)) .id [.v 2] 1 <|
(.call (some (.v 10, true)) 26 [.v 11] 1 [] <|
(.lt none .pick [.v 10, .v 12, .c (.bool false)] 1 <|
(.lt (some (.v 13, true)) .id [.v 3] 1 <|
(.lt (some (.v 13, true)) (.bin .eql) [.v 14, .c (.int .i64 0)] 1 <|
(.lt none .pick [.v 13, .v 15, .c (.bool false)] 1 <|
(.lt (some (.v 16, true)) .id [.v 4] 1 <|
(.lt (some (.v 16, true)) (.bin .eql) [.v 17, .c (.int .i64 0)] 1 <|
(.lt none .pick [.v 16, .v 18, .c (.bool false)] 1 <|
(.leaf .ret [.v 19] ()))))))))))))))))))
def tm26 : Tm Unit :=
(.call none 18 [.v 0, .c (.int .i64 0), .c (.int .i64 3)] 1 [] <|
(.leaf .ret [.v 1] ()))
def tm27 : Tm Unit :=
(.call none 20 [.v 0] 1 [] <|
(.lt (some (.v 3, true)) .id [.v 1] 1 <|
(.call (some (.v 3, true)) 18 [.v 4, .c (.int .i64 0), .c (.int .i64 999)] 1 [] <|
(.lt none .pick [.v 3, .v 5, .c (.bool false)] 1 <|
(.lt (some (.v 6, true)) .len [.v 2] 1 <|
(.lt (some (.v 6, true)) .id [.v 0] 1 <|
(.lt (some (.v 6, true)) (.bin .eql) [.v 7, .v 8] 1 <|
(.lt none .pick [.v 6, .v 9, .c (.bool false)] 1 <|
(.call (some (.v 10, true)) 28 [.v 2] 1 [] <|
(.lt (some (.v 10, true)) .not [.v 11] 1 <|
(.lt none .pick [.v 10, .v 12, .c (.bool false)] 1 <|
(.leaf .ret [.v 13] ()))))))))))))
def tm28 : Tm Unit :=
(.call none 29 [.v 0] 1 [] <|
(.lt none (.bin .geq) [.v 1, .c (.int .i64 0)] 1 <|
(.leaf .ret [.v 2] ())))
def tm29 : Tm Unit :=
(.lt none .len [.v 0] 1 <|
(.bind 1
(.loop [.c (.int .i64 0)]
(.lt none (.bin .lss) [.v 2, .v 1] 1 <|
(.ite (.v 3)
(.lt none .inb [.v 0, .v 2] 0 <|
(.lt none (.row 1 0 [true]) [.v 0, .v 2] 1 <|
(.call none 30 [.v 4] 1 [] <|
(.ite (.v 5)
(.leaf .ret [.v 2] ())
(.lt none (.bin .add) [.v 2, .c (.int .i64 1)] 1 <|
(.leaf .cont [.v 6] ()))))))
(.leaf (.yield 1) [] ())))) <|
(.leaf .ret [.c (.int .i64 (-1))] ())))
def tm30 : Tm Unit :=
(.call none 18 [.v 0, .c (.int .i64 0), .c (.int .i64 6)] 1 [] <|
(.lt none .not [.v 1] 1 <|
(.leaf .ret [.v 2] ())))
def tm31 : Tm Unit :=
(.lt none (.make 8 [(.int .i64 0)]) [.v 0] 1 <|
(.leaf .ret [.c (.int .i64 0), .v 1] ()))
def tm32 : Tm Unit :=
(.lt none (.bin .eql) [.v 0, .v 2] 1 <|
(.call (some (.v 4, true)) 33 [.v 1, .v 3] 1 [] <|
(.lt none .pick [.v 4, .v 5, .c (.bool false)] 1 <|
(.leaf .ret [.v 6] ()))))
def tm33 : Tm Unit :=
(.lt none .len [.v 0] 1 <|
(.lt none .len [.v 1] 1 <|
(.lt none (.bin .neq) [.v 2, .v 3] 1 <|
(.ite (.v 4)
(.leaf .ret [.c (.bool false)] ())
(.lt none .len [.v 0] 1 <|
(.bind 1
(.loop [.c (.int .i64 0)]
(.lt none (.bin .lss) [.v 6, .v 5] 1 <|
(.ite (.v 7)
(.lt none .inb [.v 0, .v 6] 0 <|
(.lt none (.row 1 0 [true]) [.v 0, .v 6] 1 <|
(.lt none .inb [.v 1, .v 6] 0 <|
(.lt none (.row 1 0 [true]) [.v 1, .v 6] 1 <|
(.lt none (.bin .neq) [.v 8, .v 9] 1 <|
(.ite (.v 10)
(.leaf .ret [.c (.bool false)] ())
(.lt none (.bin .add) [.v 6, .c (.int .i64 1)] 1 <|
(.leaf .cont [.v 11] ()))))))))
(.leaf (.yield 1) [] ())))) <|
(.leaf .ret [.c (.bool true)] ())))))))
def tm34 : Tm Unit :=
(.call none 35 [] 1 [] <|
(.lt none .inb [.v 15, .v 0] 0 <|
(.lt none (.row 1 0 [true]) [.v 15, .v 0] 1 <|
(.lt none (.bin .add) [.v 16, .c (.str [32])] 1 <|
(.lt none (.mk 1 7) [.v 1, .v 2, .v 3, .v 4, .v 5, .v 6, .v 7] 1 <|
(.call none 36 [.v 18] 1 [] <|
(.lt none (.bin .add) [.v 17, .v 19] 1 <|
(.lt none (.bin .add) [.v 20, .c (.str [124])] 1 <|
(.call none 48 [.v 8, .v 9, .v 10, .v 11, .v 12] 1 [] <|
(.lt none (.bin .add) [.v 21, .v 22] 1 <|
(.lt none (.bin .add) [.v 23, .c (.str [124])] 1 <|
(.call none 49 [.v 13, .v 14] 1 [] <|
(.lt none (.bin .add) [.v 24, .v 25] 1 <|
(.leaf .ret [.v 26] ()))))))))))))))
def tm35 : Tm Unit :=
(.lt none (.mk 1 8) [.c (.str []), .c (.str [112, 114, 101]), .c (.str [112, 114, 101, 111, 107]), .c (.str [97, 99, 99]), .c (.str [97, 99, 99, 111, 107]), .c (.str [99, 111, 109]), .c (.str [112, 114, 101, 112]), .c (.str [112, 114, 101, 112, 111, 107])] 1 <|
(.leaf .ret [.v 0] ()))
def tm36 : Tm Unit :=
(.call none 37 [.c (.str [32]), .v 0] 1 [] <|
(.leaf .ret [.v 1] ()))
def tm37 : Tm Unit :=
(.lt none (.mk 1 0) [] 1 <|
(.lt none .len [.v 1] 1 <|
(.bind 1
(.loop [.v 2, .c (.int .i64 0)]
(.lt none (.bin .lss) [.v 5, .v 3] 1 <|
(.ite (.v 6)
(.lt none .inb [.v 1, .v 5] 0 <|
(.lt none (.row 1 0 [true]) [.v 1, .v 5] 1 <|
(.call none 38 [.v 7] 1 [] <|
(.lt none (.mk 1 1) [.v 8] 1 <|
(.lt none (.app 1 16 true) [.v 4, .v 9] 1 <|
(.lt none (.bin .add) [.v 5, .c (.int .i64 1)] 1 <|
(.leaf .cont [.v 10, .v 11] ())))))))
(.leaf (.yield 1) [.v 4] ())))) <|
(.call none 43 [.v 4, .v 0] 1 [] <|
(.leaf .ret [.v 5] ())))))
def tm38 : Tm Unit :=
(.call none 39 [.v 0] 1 [] <|
(.leaf .ret [.v 1] ()))
def tm39 : Tm Unit :=
(.call none 40 [.v 0, .c (.int .i64 10)] 1 [] <|
(.leaf .ret [.v 1] ()))
def tm40 : Tm Unit := .stuck
def tm43 : Tm Unit := .stuck
def tm48 : Tm Unit :=
(.lt none (.bin .eql) [.v 0, .c (.int .i64 1)] 1 <|
(.ite (.v 5)
(.lt none (.mk 1 4) [.v 1, .v 2, .v 3, .v 4] 1 <|
(.call none 36 [.v 6] 1 [] <|
(.lt none (.bin .add) [.c (.str [109, 111, 118, 101, 32]), .v 7] 1 <|
(.leaf .ret [.v 8] ()))))
(.lt none (.bin .eql) [.v 0, .c (.int .i64 2)] 1 <|
(.ite (.v 6)
(.lt none (.mk 1 2) [.v 1, .v 2] 1 <|
(.call none 36 [.v 7] 1 [] <|
(.lt none (.bin .add) [.c (.str [114, 101, 97, 100, 32]), .v 8] 1 <|
(.leaf .ret [.v 9] ()))))
(.leaf .ret [.c (.str [45])] ())))))
def tm49 : Tm Unit :=
(.call none 38 [.v 0] 1 [] <|
(.lt none (.bin .add) [.v 2, .c (.str [58])] 1 <|
(.call none 37 [.c (.str [44]), .v 1] 1 [] <|
(.lt none (.bin .add) [.v 3, .v 4] 1 <|
(.leaf .ret [.v 5] ())))))
def tm50 : Tm Unit :=
(.call none 51 [.v 0, .v 1, .v 2, .v 3, .v 4, .v 5, .v 6, .v 7, .v 8, .v 9, .v 10, .v 11, .v 12, .v 13, .v 14, .v 15] 1 [] <|
(.lt none .not [.v 16] 1 <|
(.ite (.v 17)
(.leaf .ret [.c (.str []), .c (.bool false)] ())
(.call none 63 [] 1 [] <|
(.lt none .inb [.v 18, .v 1] 0 <|
(.lt none (.row 1 0 [true]) [.v 18, .v 1] 1 <|
(.lt none (.mk 1 7) [.v 2, .v 3, .v 4, .v 5, .v 6, .v 7, .v 8] 1 <|
(.lt none .len [.v 20] 1 <|
(.bind 1
(.loop [.v 19, .c (.int .i64 0)]
(.lt none (.bin .lss) [.v 23, .v 21] 1 <|
(.ite (.v 24)
(.lt none .inb [.v 20, .v 23] 0 <|
(.lt none (.row 1 0 [true]) [.v 20, .v 23] 1 <|
(.call none 64 [.v 25] 1 [] <|
(.lt none (.bin .add) [.c (.str [32]), .v 26] 1 <|
(.lt none (.bin .add) [.v 22, .v 27] 1 <|
(.lt none (.bin .add) [.v 23, .c (.int .i64 1)] 1 <|
(.leaf .cont [.v 28, .v 29] ())))))))
(.leaf (.yield 1) [.v 22] ())))) <|
(.lt none (.bin .add) [.v 22, .c (.str [124])] 1 <|
(.call none 65 [.v 9, .v 10, .v 11, .v 12, .v 13] 1 [] <|
(.lt none (.bin .add) [.v 23, .v 24] 1 <|
(.lt none (.bin .add) [.v 25, .c (.str [124])] 1 <|
(.call none 66 [.v 14, .v 15] 1 [] <|
(.lt none (.bin .add) [.v 26, .v 27] 1 <|
(.leaf .ret [.v 28, .c (.bool true)] ()))))))))))))))))
def tm51 : Tm Unit :=
(.call none 52 [.v 0] 1 [] <|
(.lt none .not [.v 16] 1 <|
(.lt (some (.v 17, false)) .id [.v 1] 1 <|
(.call (some (.v 17, false)) 53 [.v 18, .c (.int .i64 1), .c (.int .i64 7)] 1 [] <|
(.lt (some (.v 17, false)) .not [.v 19] 1 <|
(.lt none .pick [.v 17, .c (.bool true), .v 20] 1 <|
(.lt (some (.v 21, false)) .id [.v 2] 1 <|
(.lt (some (.v 21, false)) .id [.v 0] 1 <|
(.lt (some (.v 21, false)) (.bin .sub) [.v 23, .c (.int .i64 1)] 1 <|
(.call (some (.v 21, false)) 53 [.v 22, .c (.int .i64 0), .v 24] 1 [] <|
(.lt (some (.v 21, false)) .not [.v 25] 1 <|
(.lt none .pick [.v 21, .c (.bool true), .v 26] 1 <|
(.lt (some (.v 27, false)) .id [.v 3] 1 <|
(.lt (some (.v 27, false)) .id [.v 0] 1 <|
(.lt (some (.v 27, false)) (.bin .sub) [.v 29, .c (.int .i64 1)] 1 <|
(.call (some (.v 27, false)) 53 [.v 28, .c (.int .i64 0), .v 30] 1 [] <|
(.lt (some (.v 27, false)) .not [.v 31] 1 <|
(.lt none .pick [.v 27, .c (.bool true), .v 32] 1 <|
(.lt (some (.v 33, false)) .id [.v 2] 1 <|
(.lt (some (.v 33, false)) .id [.v 3] 1 <|
(.lt (some (.v 33, false)) (.bin .eql) [.v 34, .v 35] 1 <|
(.lt none .pick [.v 33, .c (.bool true), .v 36] 1 <|
(.lt (some (.v 37, false)) .id [.v 0] 1 <|
(.lt (some (.v 37, false)) .id [.v 4] 1 <|
(.lt (some (.v 37, false)) .id [.v 5] 1 <|
(.call (some (.v 37, false)) 54 [.v 38, .v 39, .v 40] 1 [] <|
(.lt (some (.v 37, false)) .not [.v 41] 1 <|
(.lt none .pick [.v 37, .c (.bool true), .v 42] 1 <|
(.lt (some (.v 43, false)) .id [.v 6] 1 <|
(.call (some (.v 43, false)) 53 [.v 44, .c (.int .i64 0), .c (.int .i64 9999)] 1 [] <|
(.lt (some (.v 43, false)) .not [.v 45] 1 <|
(.lt none .pick [.v 43, .c (.bool true), .v 46] 1 <|
(.ite (.v 47)
(.leaf .ret [.c (.bool false)] ())
(.lt none (.bin .eql) [.v 1, .c (.int .i64 7)] 1 <|
(.ite (.v 48)
(.lt none (.bin .neq) [.v 8, .c (.int .i64 3)] 1 <|
(.lt (some (.v 49, true)) .id [.v 0] 1 <|
(.lt (some (.v 49, true)) .id [.v 6] 1 <|
(.lt (some (.v 49, true)) .id [.v 7] 1 <|
(.lt (some (.v 49, true)) .id [.v 8] 1 <|
(.call (some (.v 49, true)) 55 [.v 50, .v 51, .v 52, .v 53, .v 9, .v 10, .v 11, .v 12, .v 13, .v 14, .v 15] 1 [] <|
(.lt none .pick [.v 49, .v 54, .c (.bool false)] 1 <|
(.leaf .ret [.v 55] ()))))))))
(.lt none (.bin .neq) [.v 7, .c (.int .i64 0)] 1 <|
(.lt (some (.v 49, false)) .id [.v 8] 1 <|
(.lt (some (.v 49, false)) (.bin .neq) [.v 50, .c (.int .i64 0)] 1 <|
(.lt none .pick [.v 49, .c (.bool true), .v 51] 1 <|
(.lt (some (.v 52, false)) .id [.v 0] 1 <|
(.call (some (.v 52, false)) 61 [.v 53, .v 14, .v 15] 1 [] <|
(.lt (some (.v 52, false)) .not [.v 54] 1 <|
(.lt none .pick [.v 52, .c (.bool true), .v 55] 1 <|
(.call (some (.v 56, false)) 58 [.v 9, .v 10, .v 11, .v 12, .v 13] 1 [] <|
(.lt (some (.v 56, false)) .not [.v 57] 1 <|
(.lt none .pick [.v 56, .c (.bool true), .v 58] 1 <|
(.lt (some (.v 59, false)) .id [.v 1] 1 <|
(.lt (some (.v 59, false)) (.bin .eql) [.v 60, .c (.int .i64 5)] 1 <|
(.lt (some (.v 59, false)) .id [.v 61] 1 <|
(.lt (some (.v 62, true)) .id [.v 6] 1 <|
(.lt (some (.v 62, true)) (.bin .neq) [.v 63, .c (.int .i64 0)] 1 <|
(.lt (some (.v 59, false)) .pick [.v 62, .v 64, .c (.bool false)] 1 <|
(.lt none .pick [.v 59, .c (.bool true), .v 65] 1 <|
(.ite (.v 66)
(.leaf .ret [.c (.bool false)] ())
(.lt none (.bin .eql) [.v 1, .c (.int .i64 2)] 1 <|
(.ite (.v 67)
(.lt none (.eqs [0, 0, 0, 0, 0]) [.v 9, .v 10, .v 11, .v 12, .v 13, .c (.int .i64 0), .c (.int .i64 0), .c (.int .i64 0), .c (.int .i64 0), .c (.int .i64 0)] 1 <|
(.leaf .ret [.v 68] ()))
(.bind 0
(.lt none (.bin .eql) [.v 1, .c (.int .i64 4)] 1 <|
(.ite (.v 68)
(.leaf (.yield 0) [.v 68] ())
(.lt none (.bin .eql) [.v 1, .c (.int .i64 6)] 1 <|
(.leaf (.yield 0) [.v 69] ())))) <|
(.ite (.v 68)
(.lt none (.eqs [0, 0, 0, 0, 0]) [.v 9, .v 10, .v 11, .v 12, .v 13, .c (.int .i64 0), .c (.int .i64 0), .c (.int .i64 0), .c (.int .i64 0), .c (.int .i64 0)] 1 <|
(.lt (some (.v 69, true)) .id [.v 0] 1 <|
(.call (some (.v 69, true)) 10 [.v 70] 2 [] <|
(.call (some (.v 69, true)) 56 [.v 14, .v 15, .v 71, .v 72] 1 [] <|
(.lt none .pick [.v 69, .v 73, .c (.bool false)] 1 <|
(.leaf .ret [.v 74] ()))))))
(.leaf .ret [.c (.bool true)] ())))))))))))))))))))))))))))))))))))))))))))))))))))))))))))
def tm52 : Tm Unit :=
(.lt none (.bin .eql) [.v 0, .c (.int .i64 3)] 1 <|
(.lt (some (.v 1, false)) .id [.v 0] 1 <|
(.lt (some (.v 1, false)) (.bin .eql) [.v 2, .c (.int .i64 5)] 1 <|
(.lt none .pick [.v 1, .c (.bool true), .v 3] 1 <|
(.leaf .ret [.v 4] ())))))
def tm53 : Tm Unit :=
(.lt none (.bin .geq) [.v 0, .v 1] 1 <|
(.lt (some (.v 3, true)) .id [.v 0] 1 <|
(.lt (some (.v 3, true)) .id [.v 2] 1 <|
(.lt (some (.v 3, true)) (.bin .leq) [.v 4, .v 5] 1 <|
(.lt none .pick [.v 3, .v 6, .c (.bool false)] 1 <|
(.leaf .ret [.v 7] ()))))))
def tm54 : Tm Unit :=
(.lt none (.bin .sub) [.v 0, .c (.int .i64 1)] 1 <|
(.call none 53 [.v 1, .c (.int .i64 0), .v 3] 1 [] <|
(.lt (some (.v 4, true)) .id [.v 2] 1 <|
(.call (some (.v 4, true)) 53 [.v 5, .c (.int .i64 1), .c (.int .i64 6)] 1 [] <|
(.lt none .pick [.v 4, .v 6, .c (.bool false)] 1 <|
(.leaf .ret [.v 7] ()))))))
def tm55 : Tm Unit :=
(.call none 53 [.v 1, .c (.int .i64 0), .c (.int .i64 9999)] 1 [] <|
(.lt none .not [.v 11] 1 <|
(.lt (some (.v 12, false)) .id [.v 2] 1 <|
(.lt (some (.v 12, false)) .id [.v 1] 1 <|
(.call (some (.v 12, false)) 53 [.v 13, .c (.int .i64 0), .v 14] 1 [] <|
(.lt (some (.v 12, false)) .not [.v 15] 1 <|
(.lt none .pick [.v 12, .c (.bool true), .v 16] 1 <|
(.lt (some (.v 17, false)) .id [.v 3] 1 <|
(.call (some (.v 17, false)) 53 [.v 18, .c (.int .i64 0), .c (.int .i64 3)] 1 [] <|
(.lt (some (.v 17, false)) .not [.v 19] 1 <|
(.lt none .pick [.v 17, .c (.bool true), .v 20] 1 <|
(.ite (.v 21)
(.leaf .ret [.c (.bool false)] ())
(.lt none (.bin .eql) [.v 3, .c (.int .i64 0)] 1 <|
(.ite (.v 22)
(.lt none (.bin .eql) [.v 2, .c (.int .i64 0)] 1 <|
(.lt (some (.v 23, true)) (.eqs [0, 0, 0, 0, 0]) [.v 4, .v 5, .v 6, .v 7, .v 8, .c (.int .i64 0), .c (.int .i64 0), .c (.int .i64 0), .c (.int .i64 0), .c (.int .i64 0)] 1 <|
(.lt none .pick [.v 23, .v 24, .c (.bool false)] 1 <|
(.lt (some (.v 25, true)) .id [.v 0] 1 <|
(.call (some (.v 25, true)) 10 [.v 26] 2 [] <|
(.call (some (.v 25, true)) 56 [.v 9, .v 10, .v 27, .v 28] 1 [] <|
(.lt none .pick [.v 25, .v 29, .c (.bool false)] 1 <|
(.leaf .ret [.v 30] ()))))))))
(.call none 58 [.v 4, .v 5, .v 6, .v 7, .v 8] 1 [] <|
(.lt (some (.v 23, true)) .id [.v 0] 1 <|
(.call (some (.v 23, true)) 61 [.v 24, .v 9, .v 10] 1 [] <|
(.lt none .pick [.v 23, .v 25, .c (.bool false)] 1 <|
(.leaf .ret [.v 26] ())))))))))))))))))))
def tm56 : Tm Unit :=
(.lt none (.bin .eql) [.v 0, .v 2] 1 <|
(.call (some (.v 4, true)) 57 [.v 1, .v 3] 1 [] <|
(.lt none .pick [.v 4, .v 5, .c (.bool false)] 1 <|
(.leaf .ret [.v 6] ()))))
def tm57 : Tm Unit :=
(.lt none .len [.v 0] 1 <|
(.lt none .len [.v 1] 1 <|
(.lt none (.bin .neq) [.v 2, .v 3] 1 <|
(.ite (.v 4)
(.leaf .ret [.c (.bool false)] ())
(.lt none .len [.v 0] 1 <|
(.bind 1
(.loop [.c (.int .i64 0)]
(.lt none (.bin .lss) [.v 6, .v 5] 1 <|
(.ite (.v 7)
(.lt none .inb [.v 0, .v 6] 0 <|
(.lt none (.row 1 0 [true]) [.v 0, .v 6] 1 <|
(.lt none .inb [.v 1, .v 6] 0 <|
(.lt none (.row 1 0 [true]) [.v 1, .v 6] 1 <|
(.lt none (.bin .neq) [.v 8, .v 9] 1 <|
(.ite (.v 10)
(.leaf .ret [.c (.bool false)] ())
(.lt none (.bin .add) [.v 6, .c (.int .i64 1)] 1 <|
(.leaf .cont [.v 11] ()))))))))
(.leaf (.yield 1) [] ())))) <|
(.leaf .ret [.c (.bool true)] ())))))))
def tm58 : Tm Unit :=
(.lt none (.bin .eql) [.v 0, .c (.int .i64 0)] 1 <|
(.ite (.v 5)
(.lt none (.eqs [0, 0, 0, 0, 0]) [.v 0, .v 1, .v 2, .v 3, .v 4, .c (.int .i64 0), .c (.int .i64 0), .c (.int .i64 0), .c (.int .i64 0), .c (.int .i64 0)] 1 <|
(.leaf .ret [.v 6] ()))
(.lt none (.bin .eql) [.v 0, .c (.int .i64 1)] 1 <|
(.ite (.v 6)
(.call none 59 [.v 0, .v 1, .v 2, .v 3, .v 4] 1 [] <|
(.lt none (.bin .eql) [.v 7, .c (.int .i64 0)] 1 <|
(.leaf .ret [.v 8] ())))
(.lt none (.bin .eql) [.v 0, .c (.int .i64 2)] 1 <|
(.ite (.v 7)
(.call none 59 [.v 0, .v 1, .v 2, .v 3, .v 4] 1 [] <|
(.lt none (.bin .eql) [.v 8, .c (.int .i64 0)] 1 <|
(.lt (some (.v 9, true)) .id [.v 3] 1 <|
(.lt (some (.v 9, true)) (.bin .eql) [.v 10, .c (.int .i64 0)] 1 <|
(.lt none .pick [.v 9, .v 11, .c (.bool false)] 1 <|
(.lt (some (.v 12, true)) .id [.v 4] 1 <|
(.lt (some (.v 12, true)) (.bin .eql) [.v 13, .c (.int .i64 0)] 1 <|
(.lt none .pick [.v 12, .v 14, .c (.bool false)] 1 <|
(.leaf .ret [.v 15] ())))))))))
(.leaf .ret [.c (.bool false)] ())))))))
def tm59 : Tm Unit :=
(.lt none (.bin .eql) [.v 0, .c (.int .i64 1)] 1 <|
(.call none 60 [.v 2] 1 [] <|
(.lt none .not [.v 6] 1 <|
(.lt (some (.v 7, false)) .id [.v 5] 1 <|
(.lt (some (.v 7, false)) .id [.v 8] 1 <|
(.lt (some (.v 9, true)) .id [.v 3] 1 <|
(.call (some (.v 9, true)) 60 [.v 10] 1 [] <|
(.lt (some (.v 9, true)) .not [.v 11] 1 <|
(.lt (some (.v 7, false)) .pick [.v 9, .v 12, .c (.bool false)] 1 <|
(.lt none .pick [.v 7, .c (.bool true), .v 13] 1 <|
(.ite (.v 14)
(.leaf .ret [.c (.int .i64 4)] ())
(.lt (some (.v 5, true)) .id [.v 2] 1 <|
(.lt (some (.v 5, true)) .id [.v 3] 1 <|
(.lt (some (.v 5, true)) (.bin .eql) [.v 15, .v 16] 1 <|
(.lt none .pick [.v 5, .v 17, .c (.bool false)] 1 <|
(.ite (.v 18)
(.leaf .ret [.c (.int .i64 5)] ())
(.call none 53 [.v 1, .c (.int .i64 1), .c (.int .i64 999)] 1 [] <|
(.lt none .not [.v 19] 1 <|
(.lt (some (.v 20, false)) .id [.v 5] 1 <|
(.lt (some (.v 20, false)) .id [.v 21] 1 <|
(.lt (some (.v 22, true)) .id [.v 4] 1 <|
(.call (some (.v 22, true)) 53 [.v 23, .c (.int .i64 1), .c (.int .i64 1000)] 1 [] <|
(.lt (some (.v 22, true)) .not [.v 24] 1 <|
(.lt (some (.v 20, false)) .pick [.v 22, .v 25, .c (.bool false)] 1 <|
(.lt none .pick [.v 20, .c (.bool true), .v 26] 1 <|
(.ite (.v 27)
(.leaf .ret [.c (.int .i64 6)] ())
(.leaf .ret [.c (.int .i64 0)] ())))))))))))))))))))))))))))
def tm60 : Tm Unit :=
(.call none 53 [.v 0, .c (.int .i64 0), .c (.int .i64 3)] 1 [] <|
(.leaf .ret [.v 1] ()))
def tm61 : Tm Unit :=
(.call none 53 [.v 1, .c (.int .i64 0), .c (.int .i64 999)] 1 [] <|
(.lt (some (.v 3, true)) .len [.v 2] 1 <|
(.lt (some (.v 3, true)) .id [.v 0] 1 <|
(.lt (some (.v 3, true)) (.bin .eql) [.v 4, .v 5] 1 <|
(.lt none .pick [.v 3, .v 6, .c (.bool false)] 1 <|
(.call (some (.v 7, true)) 62 [.v 2, .c (.int .i64 0), .c (.int .i64 6)] 1 [] <|
(.lt none .pick [.v 7, .v 8, .c (.bool false)] 1 <|
(.leaf .ret [.v 9] ()))))))))
def tm62 : Tm Unit :=
(.lt none .len [.v 0] 1 <|
(.bind 1
(.loop [.c (.int .i64 0)]
(.lt none (.bin .lss) [.v 4, .v 3] 1 <|
(.ite (.v 5)
(.lt none .inb [.v 0, .v 4] 0 <|
(.lt none (.row 1 0 [true]) [.v 0, .v 4] 1 <|
(.call none 53 [.v 6, .v 1, .v 2] 1 [] <|
(.lt none .not [.v 7] 1 <|
(.ite (.v 8)
(.leaf .ret [.c (.bool false)] ())
(.lt none (.bin .add) [.v 4, .c (.int .i64 1)] 1 <|
(.leaf .cont [.v 9] ())))))))
(.leaf (.yield 1) [] ())))) <|
(.leaf .ret [.c (.bool true)] ())))
def tm63 : Tm Unit :=
(.lt none (.mk 1 8) [.c (.str []), .c (.str [112, 114, 101]), .c (.str [112, 114, 101, 111, 107]), .c (.str [97, 99, 99]), .c (.str [97, 99, 99, 111, 107]), .c (.str [99, 111, 109]), .c (.str [112, 114, 101, 112]), .c (.str [112, 114, 101, 112, 111, 107])] 1 <|
(.leaf .ret [.v 0] ()))
def tm64 : Tm Unit :=
(.lt none (.bin .lss) [.v 0, .c (.int .i64 10)] 1 <|
(.ite (.v 1)
(.lt none (.bin .add) [.c (.int .i64 48), .v 0] 1 <|
(.lt none (.conv .u8) [.v 2] 1 <|
(.lt none (.mk 1 1) [.v 3] 1 <|
(.lt none .bstr [.v 4] 1 <|
(.leaf .ret [.v 5] ())))))
(.lt none (.bin .quo) [.v 0, .c (.int .i64 10)] 1 <|
(.call none 64 [.v 2] 1 [] <|
(.lt none (.bin .rem) [.v 0, .c (.int .i64 10)] 1 <|
(.lt none (.bin .add) [.c (.int .i64 48), .v 4] 1 <|
(.lt none (.conv .u8) [.v 5] 1 <|
(.lt none (.mk 1 1) [.v 6] 1 <|
(.lt none .bstr [.v 7] 1 <|
(.lt none (.bin .add) [.v 3, .v 8] 1 <|
(.leaf .ret [.v 9] ())))))))))))
def tm65 : Tm Unit :=
(.lt none (.bin .eql) [.v 0, .c (.int .i64 1)] 1 <|
(.ite (.v 5)
(.call none 64 [.v 1] 1 [] <|
(.lt none (.bin .add) [.c (.str [109, 111, 118, 101, 32]), .v 6] 1 <|
(.lt none (.bin .add) [.v 7, .c (.str [32])] 1 <|
(.call none 64 [.v 2] 1 [] <|
(.lt none (.bin .add) [.v 8, .v 9] 1 <|
(.lt none (.bin .add) [.v 10, .c (.str [32])] 1 <|
(.call none 64 [.v 3] 1 [] <|
(.lt none (.bin .add) [.v 11, .v 12] 1 <|
(.lt none (.bin .add) [.v 13, .c (.str [32])] 1 <|
(.call none 64 [.v 4] 1 [] <|
(.lt none (.bin .add) [.v 14, .v 15] 1 <|
(.leaf .ret [.v 16] ()))))))))))))
(.lt none (.bin .eql) [.v 0, .c (.int .i64 2)] 1 <|
(.ite (.v 6)
(.call none 64 [.v 1] 1 [] <|
(.lt none (.bin .add) [.c (.str [114, 101, 97, 100, 32]), .v 7] 1 <|
(.lt none (.bin .add) [.v 8, .c (.str [32])] 1 <|
(.call none 64 [.v 2] 1 [] <|
(.lt none (.bin .add) [.v 9, .v 10] 1 <|
(.leaf .ret [.v 11] ()))))))
(.leaf .ret [.c (.str [45])] ())))))
def tm66 : Tm Unit :=
(.call none 64 [.v 0] 1 [] <|
(.lt none (.bin .add) [.v 2, .c (.str [58])] 1 <|
(.call none 67 [.v 1] 1 [] <|
(.lt none (.bin .add) [.v 3, .v 4] 1 <|
(.leaf .ret [.v 5] ())))))
def tm67 : Tm Unit :=
(.lt none .len [.v 0] 1 <|
(.bind 1
(.loop [.c (.str []), .c (.int .i64 0)]
(.lt none (.bin .lss) [.v 3, .v 1] 1 <|
(.ite (.v 4)
(.lt none .inb [.v 0, .v 3] 0 <|
(.lt none (.row 1 0 [true]) [.v 0, .v 3] 1 <|
(.bind 0
(.lt none (.bin .gtr) [.v 3, .c (.int .i64 0)] 1 <|
(.ite (.v 6)
(.lt none (.bin .add) [.v 2, .c (.str [44])] 1 <|
(.leaf (.yield 0) [.v 7] ()))
(.leaf (.yield 0) [.v 2] ()))) <|
(.call none 64 [.v 5] 1 [] <|
(.lt none (.bin .add) [.v 6, .v 7] 1 <|
(.lt none (.bin .add) [.v 3, .c (.int .i64 1)] 1 <|
(.leaf .cont [.v 8, .v 9] ())))))))
(.leaf (.yield 1) [.v 2] ())))) <|
(.leaf .ret [.v 2] ())))
def tm68 : Tm Unit :=
(.call none 69 [.v 1, .c (.str [124])] 1 [] <|
(.call none 20 [.v 0] 1 [] <|
(.lt none .not [.v 3] 1 <|
(.lt (some (.v 4, false)) .len [.v 2] 1 <|
(.lt (some (.v 4, false)) (.bin .neq) [.v 5, .c (.int .i64 3)] 1 <|
(.lt none .pick [.v 4, .c (.bool true), .v 6] 1 <|
(.ite (.v 7)
(.leaf .ret [.c (.int .i64 0), .c (.int .i64 0), .c (.int .i64 0), .c (.int .i64 0), .c (.int .i64 0), .c (.int .i64 0), .c (.int .i64 0), .c (.int .i64 0), .c (.int .i64 0), .c (.int .i64 0), .c (.int .i64 0), .c (.int .i64 0), .c (.int .i64 0), .c (.int .i64 0), .c (.rows 1 []), .c (.int .i64 1), .c (.bool false)] ())
(.lt none .inb [.v 2, .c (.int .i64 0)] 0 <|
(.lt none (.row 1 0 [true]) [.v 2, .c (.int .i64 0)] 1 <|
(.call none 69 [.v 8, .c (.str [32])] 1 [] <|
(.call none 35 [] 1 [] <|
(.lt none .inb [.v 9, .c (.int .i64 0)] 0 <|
(.lt none (.row 1 0 [true]) [.v 9, .c (.int .i64 0)] 1 <|
(.call none 81 [.v 10, .v 11] 1 [] <|
(.lt none .len [.v 9] 1 <|
(.lt none (.sub 1 true) [.v 9, .c (.int .i64 1), .v 13] 1 <|
(.call none 82 [.v 14, .c (.int .i64 4)] 2 [] <|
(.lt none (.dep 99) [.v 15] 0 <|
(.lt none (.bin .lss) [.v 12, .c (.int .i64 1)] 1 <|
(.lt (some (.v 17, false)) .id [.v 16] 1 <|
(.lt (some (.v 17, false)) .not [.v 18] 1 <|
(.lt none .pick [.v 17, .c (.bool true), .v 19] 1 <|
(.lt (some (.v 20, false)) .len [.v 15] 1 <|
(.lt (some (.v 20, false)) (.bin .neq) [.v 21, .c (.int .i64 7)] 1 <|
(.lt none .pick [.v 20, .c (.bool true), .v 22] 1 <|
(.ite (.v 23)
(.leaf .ret [.c (.int .i64 0), .c (.int .i64 0), .c (.int .i64 0), .c (.int .i64 0), .c (.int .i64 0), .c (.int .i64 0), .c (.int .i64 0), .c (.int .i64 0), .c (.int .i64 0), .c (.int .i64 0), .c (.int .i64 0), .c (.int .i64 0), .c (.int .i64 0), .c (.int .i64 0), .c (.rows 1 []), .c (.int .i64 2), .c (.bool false)] ())
(.lt none .inb [.v 2, .c (.int .i64 1)] 0 <|
(.lt none (.row 1 0 [true]) [.v 2, .c (.int .i64 1)] 1 <|
(.call none 84 [.v 24] 7 [] <|
(.lt none .not [.v 31] 1 <|
(.ite (.v 32)
(.leaf .ret [.c (.int .i64 0), .c (.int .i64 0), .c (.int .i64 0), .c (.int .i64 0), .c (.int .i64 0), .c (.int .i64 0), .c (.int .i64 0), .c (.int .i64 0), .c (.int .i64 0), .c (.int .i64 0), .c (.int .i64 0), .c (.int .i64 0), .c (.int .i64 0), .c (.int .i64 0), .c (.rows 1 []), .c (.int .i64 3), .c (.bool false)] ())
(.lt none .inb [.v 2, .c (.int .i64 2)] 0 <|
(.lt none (.row 1 0 [true]) [.v 2, .c (.int .i64 2)] 1 <|
(.call none 85 [.v 0, .v 33] 3 [] <|
(.lt none .not [.v 36] 1 <|
(.ite (.v 37)
(.leaf .ret [.c (.int .i64 0), .c (.int .i64 0), .c (.int .i64 0), .c (.int .i64 0), .c (.int .i64 0), .c (.int .i64 0), .c (.int .i64 0), .c (.int .i64 0), .c (.int .i64 0), .c (.int .i64 0), .c (.int .i64 0), .c (.int .i64 0), .c (.int .i64 0), .c (.int .i64 0), .c (.rows 1 []), .c (.int .i64 4), .c (.bool false)] ())
(.lt none .inb [.v 15, .c (.int .i64 0)] 0 <|
(.lt none (.row 1 0 [true]) [.v 15, .c (.int .i64 0)] 1 <|
(.lt none .inb [.v 15, .c (.int .i64 1)] 0 <|
(.lt none (.row 1 0 [true]) [.v 15, .c (.int .i64 1)] 1 <|
(.lt none .inb [.v 15, .c (.int .i64 2)] 0 <|
(.lt none (.row 1 0 [true]) [.v 15, .c (.int .i64 2)] 1 <|
(.lt none .inb [.v 15, .c (.int .i64 3)] 0 <|
(.lt none (.row 1 0 [true]) [.v 15, .c (.int .i64 3)] 1 <|
(.lt none .inb [.v 15, .c (.int .i64 4)] 0 <|
(.lt none (.row 1 0 [true]) [.v 15, .c (.int .i64 4)] 1 <|
(.lt none .inb [.v 15, .c (.int .i64 5)] 0 <|
(.lt none (.row 1 0 [true]) [.v 15, .c (.int .i64 5)] 1 <|
(.lt none .inb [.v 15, .c (.int .i64 6)] 0 <|
(.lt none (.row 1 0 [true]) [.v 15, .c (.int .i64 6)] 1 <|
(.call none 17 [.v 0, .v 12, .v 38, .v 39, .v 40, .v 41, .v 42, .v 43, .v 44, .v 25, .v 26, .v 27, .v 28, .v 29, .v 34, .v 35] 1 [] <|
(.lt none .not [.v 45] 1 <|
(.ite (.v 46)
(.leaf .ret [.c (.int .i64 0), .c (.int .i64 0), .c (.int .i64 0), .c (.int .i64 0), .c (.int .i64 0), .c (.int .i64 0), .c (.int .i64 0), .c (.int .i64 0), .c (.int .i64 0), .c (.int .i64 0), .c (.int .i64 0), .c (.int .i64 0), .c (.int .i64 0), .c (.int .i64 0), .c (.rows 1 []), .c (.int .i64 5), .c (.bool false)] ())
(.leaf .ret [.v 12, .v 38, .v 39, .v 40, .v 41, .v 42, .v 43, .v 44, .v 25, .v 26, .v 27, .v 28, .v 29, .v 34, .v 35, .c (.int .i64 0), .c (.bool true)] ()))))))))))))))))))))))))))))))))))))))))))))))))))))))
def tm69 : Tm Unit :=
(.call none 70 [.v 0, .v 1, .c (.int .i64 0), .c (.int .i64 (-1))] 1 [] <|
(.leaf .ret [.v 2] ()))
def tm70 : Tm Unit :=
(.lt none (.bin .eql) [.v 3, .c (.int .i64 0)] 1 <|
(.ite (.v 4)
(.leaf .ret [.c (.rows 1 [])] ())
(.lt none (.bin .eql) [.v 1, .c (.str [])] 1 <|
(.ite (.v 5)
(.call none 71 [.v 0, .v 3] 1 [] <|
(.leaf .ret [.v 6] ()))
(.bind 0
(.lt none (.bin .lss) [.v 3, .c (.int .i64 0)] 1 <|
(.ite (.v 6)
(.call none 75 [.v 0, .v 1] 1 [] <|
(.lt none (.bin .add) [.v 7, .c (.int .i64 1)] 1 <|
(.leaf (.yield 0) [.v 8] ())))
(.leaf (.yield 0) [.v 3] ()))) <|
(.lt none .slen [.v 0] 1 <|
(.lt none (.bin .add) [.v 7, .c (.int .i64 1)] 1 <|
(.lt none .min [.v 6, .v 8] 1 <|
(.lt none (.make 16 [(.str [])]) [.v 9] 1 <|
(.lt none (.bin .sub) [.v 9, .c (.int .i64 1)] 1 <|
(.bind 1
(.loop [.v 0, .v 10, .c (.int .i64 0)]
(.lt none (.bin .lss) [.v 14, .v 11] 1 <|
(.ite (.v 15)
(.call none 77 [.v 12, .v 1] 1 [] <|
(.lt none (.bin .lss) [.v 16, .c (.int .i64 0)] 1 <|
(.ite (.v 17)
(.leaf (.yield 1) [.v 12, .v 13, .v 14] ())
(.lt none (.bin .add) [.v 16, .v 2] 1 <|
(.lt none .ssub [.v 12, .c (.int .i64 0), .v 18] 1 <|
(.lt none .inb [.v 13, .v 14] 0 <|
(.lt none (.set 1 0 1) [.v 13, .v 14, .v 19] 1 <|
(.lt none .slen [.v 1] 1 <|
(.lt none (.bin .add) [.v 16, .v 21] 1 <|
(.lt none .slen [.v 12] 1 <|
(.lt none .ssub [.v 12, .v 22, .v 23] 1 <|
(.lt none (.bin .add) [.v 14, .c (.int .i64 1)] 1 <|
(.leaf .cont [.v 24, .v 20, .v 25] ())))))))))))))
(.leaf (.yield 1) [.v 12, .v 13, .v 14] ())))) <|
(.lt none .inb [.v 13, .v 14] 0 <|
(.lt none (.set 1 0 1) [.v 13, .v 14, .v 12] 1 <|
(.lt none (.bin .add) [.v 14, .c (.int .i64 1)] 1 <|
(.lt none (.sub 1 false) [.v 15, .c (.int .i64 0), .v 16] 1 <|
(.leaf .ret [.v 17] ()))))))))))))))))
def tm71 : Tm Unit :=
(.call none 72 [.v 0] 1 [] <|
(.bind 0
(.lt none (.bin .lss) [.v 1, .c (.int .i64 0)] 1 <|
(.lt (some (.v 3, false)) .id [.v 1] 1 <|
(.lt (some (.v 3, false)) .id [.v 2] 1 <|
(.lt (some (.v 3, false)) (.bin .gtr) [.v 4, .v 5] 1 <|
(.lt none .pick [.v 3, .c (.bool true), .v 6] 1 <|
(.ite (.v 7)
(.leaf (.yield 0) [.v 2] ())
(.leaf (.yield 0) [.v 1] ()))))))) <|
(.lt none (.make 16 [(.str [])]) [.v 3] 1 <|
(.bind 1
(.loop [.v 0, .v 4, .c (.int .i64 0)]
(.lt none (.bin .sub) [.v 3, .c (.int .i64 1)] 1 <|
(.lt none (.bin .lss) [.v 7, .v 8] 1 <|
(.ite (.v 9)
(.call none 73 [.v 5] 2 [] <|
(.lt none .ssub [.v 5, .c (.int .i64 0), .v 11] 1 <|
(.lt none .inb [.v 6, .v 7] 0 <|
(.lt none (.set 1 0 1) [.v 6, .v 7, .v 12] 1 <|
(.lt none .slen [.v 5] 1 <|
(.lt none .ssub [.v 5, .v 11, .v 14] 1 <|
(.lt none (.bin .add) [.v 7, .c (.int .i64 1)] 1 <|
(.leaf .cont [.v 15, .v 13, .v 16] ()))))))))
(.leaf (.yield 1) [.v 5, .v 6] ()))))) <|
(.bind 0
(.lt none (.bin .gtr) [.v 3, .c (.int .i64 0)] 1 <|
(.ite (.v 7)
(.lt none (.bin .sub) [.v 3, .c (.int .i64 1)] 1 <|
(.lt none .inb [.v 6, .v 8] 0 <|
(.lt none (.set 1 0 1) [.v 6, .v 8, .v 5] 1 <|
(.leaf (.yield 0) [.v 9] ()))))
(.leaf (.yield 0) [.v 6] ()))) <|
(.leaf .ret [.v 7] ()))))))
def tm72 : Tm Unit :=
  .stuck
def tm73 : Tm Unit :=
(.lt none (.bin .neq) [.v 0, .c (.str [])] 1 <|
(.lt (some (.v 1, true)) .id [.v 0] 1 <|
(.lt (some (.v 1, true)) .sidx [.v 2, .c (.int .i64 0)] 1 <|
(.lt (some (.v 1, true)) (.bin .lss) [.v 3, .c (.int .u8 128)] 1 <|
(.lt none .pick [.v 1, .v 4, .c (.bool false)] 1 <|
(.ite (.v 5)
(.lt none .sidx [.v 0, .c (.int .i64 0)] 1 <|
(.lt none (.conv .i32) [.v 6] 1 <|
(.leaf .ret [.v 7, .c (.int .i64 1)] ())))
(.call none 74 [.v 0] 2 [] <|
(.leaf .ret [.v 6, .v 7] ()))))))))
def tm74 : Tm Unit :=
(.lt none .slen [.v 0] 1 <|
(.lt none (.bin .lss) [.v 1, .c (.int .i64 1)] 1 <|
(.ite (.v 2)
(.leaf .ret [.c (.int .i32 65533), .c (.int .i64 0)] ())
(.lt none .sidx [.v 0, .c (.int .i64 0)] 1 <|
   .stuck))))
def tm75 : Tm Unit :=
(.lt none .slen [.v 1] 1 <|
(.lt none (.bin .eql) [.v 2, .c (.int .i64 0)] 1 <|
(.ite (.v 3)
(.call none 72 [.v 0] 1 [] <|
(.lt none (.bin .add) [.v 4, .c (.int .i64 1)] 1 <|
(.leaf .ret [.v 5] ())))
(.lt none .slen [.v 1] 1 <|
(.lt none (.bin .eql) [.v 4, .c (.int .i64 1)] 1 <|
(.ite (.v 5)
(.lt none .sidx [.v 1, .c (.int .i64 0)] 1 <|
(.call none 76 [.v 0, .v 6] 1 [] <|
(.leaf .ret [.v 7] ())))
(.loop [.v 0, .c (.int .i64 0)]
(.call none 77 [.v 6, .v 1] 1 [] <|
(.lt none (.bin .eql) [.v 8, .c (.int .i64 (-1))] 1 <|
(.ite (.v 9)
(.leaf .ret [.v 7] ())
(.lt none (.bin .add) [.v 7, .c (.int .i64 1)] 1 <|
(.lt none .slen [.v 1] 1 <|
(.lt none (.bin .add) [.v 8, .v 11] 1 <|
(.lt none .slen [.v 6] 1 <|
(.lt none .ssub [.v 6, .v 12, .v 13] 1 <|
(.leaf .cont [.v 14, .v 10] ()))))))))))))))))
def tm76 : Tm Unit := .stuck
def tm77 : Tm Unit :=
(.call none 78 [.v 0, .v 1] 1 [] <|
(.leaf .ret [.v 2] ()))
def tm78 : Tm Unit :=
(.lt none .slen [.v 1] 1 <|
(.lt none (.bin .eql) [.v 2, .c (.int .i64 0)] 1 <|
(.lt (some (.v 3, false)) .id [.v 1] 1 <|
(.lt (some (.v 3, false)) .id [.v 0] 1 <|
(.lt (some (.v 3, false)) (.bin .eql) [.v 4, .v 5] 1 <|
(.lt none .pick [.v 3, .c (.bool true), .v 6] 1 <|
(.ite (.v 7)
(.leaf .ret [.c (.int .i64 0)] ())
(.lt none (.bin .eql) [.v 2, .c (.int .i64 1)] 1 <|
(.ite (.v 8)
(.lt none .sidx [.v 1, .c (.int .i64 0)] 1 <|
(.call none 79 [.v 0, .v 9] 1 [] <|
(.leaf .ret [.v 10] ())))
(.lt none .slen [.v 0] 1 <|
(.lt none (.bin .geq) [.v 2, .v 9] 1 <|
(.ite (.v 10)
(.leaf .ret [.c (.int .i64 (-1))] ())
     .stuck))))))))))))
def tm79 : Tm Unit :=
(.call none 80 [.v 0, .v 1] 1 [] <|
(.leaf .ret [.v 2] ()))
def tm80 : Tm Unit := .stuck
def tm81 : Tm Unit :=
(.lt none .len [.v 0] 1 <|
(.bind 1
(.loop [.c (.int .i64 0)]
(.lt none (.bin .lss) [.v 3, .v 2] 1 <|
(.ite (.v 4)
(.lt none .inb [.v 0, .v 3] 0 <|
(.lt none (.row 1 0 [true]) [.v 0, .v 3] 1 <|
(.lt none (.bin .eql) [.v 1, .v 5] 1 <|
(.ite (.v 6)
(.leaf .ret [.v 3] ())
(.lt none (.bin .add) [.v 3, .c (.int .i64 1)] 1 <|
(.leaf .cont [.v 7] ()))))))
(.leaf (.yield 1) [] ())))) <|
(.leaf .ret [.c (.int .i64 (-1))] ())))
def tm82 : Tm Unit :=
(.lt none (.mk 1 0) [] 1 <|
(.lt none .len [.v 0] 1 <|
(.bind 1
(.loop [.v 2, .c (.int .i64 0)]
(.lt none (.bin .lss) [.v 5, .v 3] 1 <|
(.ite (.v 6)
(.lt none .inb [.v 0, .v 5] 0 <|
(.lt none (.row 1 0 [true]) [.v 0, .v 5] 1 <|
(.call none 83 [.v 7, .v 1] 1 [] <|
(.lt none (.bin .lss) [.v 8, .c (.int .i64 0)] 1 <|
(.ite (.v 9)
(.leaf .ret [.c (.rows 1 []), .c (.bool false)] ())
(.lt none (.mk 1 1) [.v 8] 1 <|
(.lt none (.app 1 8 true) [.v 4, .v 10] 1 <|
(.lt none (.bin .add) [.v 5, .c (.int .i64 1)] 1 <|
(.leaf .cont [.v 11, .v 12] ())))))))))
(.leaf (.yield 1) [.v 4] ())))) <|
(.leaf .ret [.v 4, .c (.bool true)] ()))))
def tm83 : Tm Unit :=
(.lt none .slen [.v 0] 1 <|
(.bind 1
(.loop [.c (.int .i64 0), .c (.int .i64 0)]
(.lt none (.bin .lss) [.v 4, .v 2] 1 <|
(.ite (.v 5)
(.lt none .sidx [.v 0, .v 4] 1 <|
(.lt none (.bin .lss) [.v 6, .c (.int .u8 48)] 1 <|
(.lt (some (.v 7, false)) .id [.v 0] 1 <|
(.lt (some (.v 7, false)) .id [.v 4] 1 <|
(.lt (some (.v 7, false)) .sidx [.v 8, .v 9] 1 <|
(.lt (some (.v 7, false)) (.bin .gtr) [.v 10, .c (.int .u8 57)] 1 <|
(.lt none .pick [.v 7, .c (.bool true), .v 11] 1 <|
(.lt (some (.v 12, false)) .id [.v 4] 1 <|
(.lt (some (.v 12, false)) .id [.v 1] 1 <|
(.lt (some (.v 12, false)) (.bin .geq) [.v 13, .v 14] 1 <|
(.lt none .pick [.v 12, .c (.bool true), .v 15] 1 <|
(.ite (.v 16)
(.leaf .ret [.c (.int .i64 (-1))] ())
(.lt none (.bin .mul) [.c (.int .i64 10), .v 3] 1 <|
(.lt none .sidx [.v 0, .v 4] 1 <|
(.lt none (.bin .sub) [.v 18, .c (.int .u8 48)] 1 <|
(.lt none (.conv .i64) [.v 19] 1 <|
(.lt none (.bin .add) [.v 17, .v 20] 1 <|
(.lt none (.bin .add) [.v 4, .c (.int .i64 1)] 1 <|
(.leaf .cont [.v 21, .v 22] ())))))))))))))))))))
(.leaf (.yield 1) [.v 3] ())))) <|
(.lt none (.bin .eql) [.v 0, .c (.str [])] 1 <|
(.lt (some (.v 4, false)) .id [.v 0] 1 <|
(.lt (some (.v 4, false)) .sidx [.v 5, .c (.int .i64 0)] 1 <|
(.lt (some (.v 4, false)) (.bin .eql) [.v 6, .c (.int .u8 48)] 1 <|
(.lt (some (.v 4, false)) .id [.v 7] 1 <|
(.lt (some (.v 8, true)) .id [.v 0] 1 <|
(.lt (some (.v 8, true)) .slen [.v 9] 1 <|
(.lt (some (.v 8, true)) (.bin .gtr) [.v 10, .c (.int .i64 1)] 1 <|
(.lt (some (.v 4, false)) .pick [.v 8, .v 11, .c (.bool false)] 1 <|
(.lt none .pick [.v 4, .c (.bool true), .v 12] 1 <|
(.ite (.v 13)
(.leaf .ret [.c (.int .i64 (-1))] ())
(.leaf .ret [.v 3] ()))))))))))))))
def tm84 : Tm Unit :=
(.call none 69 [.v 0, .c (.str [32])] 1 [] <|
(.lt none (.mk 1 3) [.c (.str [45]), .c (.str [109, 111, 118, 101]), .c (.str [114, 101, 97, 100])] 1 <|
(.lt none .inb [.v 1, .c (.int .i64 0)] 0 <|
(.lt none (.row 1 0 [true]) [.v 1, .c (.int .i64 0)] 1 <|
(.call none 81 [.v 2, .v 3] 1 [] <|
(.lt none (.bin .lss) [.v 4, .c (.int .i64 0)] 1 <|
(.ite (.v 5)
(.leaf .ret [.c (.int .i64 0), .c (.int .i64 0), .c (.int .i64 0), .c (.int .i64 0), .c (.int .i64 0), .c (.int .i64 1), .c (.bool false)] ())
(.lt none .len [.v 1] 1 <|
(.lt none (.mk 1 3) [.c (.int .i64 1), .c (.int .i64 5), .c (.int .i64 3)] 1 <|
(.lt none .inb [.v 7, .v 4] 0 <|
(.lt none (.row 1 0 [true]) [.v 7, .v 4] 1 <|
(.lt none (.bin .neq) [.v 6, .v 8] 1 <|
(.ite (.v 9)
(.leaf .ret [.c (.int .i64 0), .c (.int .i64 0), .c (.int .i64 0), .c (.int .i64 0), .c (.int .i64 0), .c (.int .i64 2), .c (.bool false)] ())
(.lt none .len [.v 1] 1 <|
(.lt none (.sub 1 true) [.v 1, .c (.int .i64 1), .v 10] 1 <|
(.call none 82 [.v 11, .c (.int .i64 4)] 2 [] <|
(.lt none (.dep 99) [.v 12] 0 <|
(.lt none .not [.v 13] 1 <|
(.ite (.v 14)
(.leaf .ret [.c (.int .i64 0), .c (.int .i64 0), .c (.int .i64 0), .c (.int .i64 0), .c (.int .i64 0), .c (.int .i64 3), .c (.bool false)] ())
(.bind 0
(.lt none (.bin .eql) [.v 4, .c (.int .i64 1)] 1 <|
(.ite (.v 15)
(.lt none .inb [.v 12, .c (.int .i64 0)] 0 <|
(.lt none (.row 1 0 [true]) [.v 12, .c (.int .i64 0)] 1 <|
(.lt none .inb [.v 12, .c (.int .i64 1)] 0 <|
(.lt none (.row 1 0 [true]) [.v 12, .c (.int .i64 1)] 1 <|
(.lt none .inb [.v 12, .c (.int .i64 2)] 0 <|
(.lt none (.row 1 0 [true]) [.v 12, .c (.int .i64 2)] 1 <|
(.lt none .inb [.v 12, .c (.int .i64 3)] 0 <|
(.lt none (.row 1 0 [true]) [.v 12, .c (.int .i64 3)] 1 <|
(.leaf (.yield 0) [.v 16, .v 17, .v 18, .v 19] ())))))))))
(.lt none (.bin .eql) [.v 4, .c (.int .i64 2)] 1 <|
(.ite (.v 16)
(.lt none .inb [.v 12, .c (.int .i64 0)] 0 <|
(.lt none (.row 1 0 [true]) [.v 12, .c (.int .i64 0)] 1 <|
(.lt none .inb [.v 12, .c (.int .i64 1)] 0 <|
(.lt none (.row 1 0 [true]) [.v 12, .c (.int .i64 1)] 1 <|
(.leaf (.yield 0) [.v 17, .v 18, .c (.int .i64 0), .c (.int .i64 0)] ())))))
(.leaf (.yield 0) [.c (.int .i64 0), .c (.int .i64 0), .c (.int .i64 0), .c (.int .i64 0)] ()))))) <|
(.call none 26 [.v 16] 1 [] <|
(.lt none .not [.v 19] 1 <|
(.lt (some (.v 20, false)) .id [.v 17] 1 <|
(.call (some (.v 20, false)) 26 [.v 21] 1 [] <|
(.lt (some (.v 20, false)) .not [.v 22] 1 <|
(.lt none .pick [.v 20, .c (.bool true), .v 23] 1 <|
(.ite (.v 24)
(.leaf .ret [.c (.int .i64 0), .c (.int .i64 0), .c (.int .i64 0), .c (.int .i64 0), .c (.int .i64 0), .c (.int .i64 4), .c (.bool false)] ())
(.lt none (.bin .eql) [.v 4, .c (.int .i64 1)] 1 <|
(.lt (some (.v 25, true)) .id [.v 16] 1 <|
(.lt (some (.v 25, true)) .id [.v 17] 1 <|
(.lt (some (.v 25, true)) (.bin .eql) [.v 26, .v 27] 1 <|
(.lt none .pick [.v 25, .v 28, .c (.bool false)] 1 <|
(.ite (.v 29)
(.leaf .ret [.c (.int .i64 0), .c (.int .i64 0), .c (.int .i64 0), .c (.int .i64 0), .c (.int .i64 0), .c (.int .i64 5), .c (.bool false)] ())
(.call none 25 [.v 4, .v 15, .v 16, .v 17, .v 18] 1 [] <|
(.lt none .not [.v 30] 1 <|
(.ite (.v 31)
(.leaf .ret [.c (.int .i64 0), .c (.int .i64 0), .c (.int .i64 0), .c (.int .i64 0), .c (.int .i64 0), .c (.int .i64 6), .c (.bool false)] ())
(.leaf .ret [.v 4, .v 15, .v 16, .v 17, .v 18, .c (.int .i64 0), .c (.bool true)] ())))))))))))))))))))))))))))))))))))))
def tm85 : Tm Unit :=
(.call none 86 [.v 1, .c (.str [58])] 3 [] <|
(.call none 83 [.v 2, .c (.int .i64 3)] 1 [] <|
(.call none 69 [.v 3, .c (.str [44])] 1 [] <|
(.call none 82 [.v 6, .c (.int .i64 1)] 2 [] <|
(.lt none (.dep 99) [.v 7] 0 <|
(.lt none .not [.v 4] 1 <|
(.lt (some (.v 9, false)) .id [.v 8] 1 <|
(.lt (some (.v 9, false)) .not [.v 10] 1 <|
(.lt none .pick [.v 9, .c (.bool true), .v 11] 1 <|
(.lt (some (.v 12, false)) .id [.v 1] 1 <|
(.lt (some (.v 12, false)) .slen [.v 13] 1 <|
(.lt (some (.v 12, false)) (.bin .gtr) [.v 14, .c (.int .i64 40)] 1 <|
(.lt none .pick [.v 12, .c (.bool true), .v 15] 1 <|
(.lt (some (.v 16, false)) .id [.v 0] 1 <|
(.call (some (.v 16, false)) 27 [.v 17, .v 5, .v 7] 1 [] <|
(.lt (some (.v 16, false)) .not [.v 18] 1 <|
(.lt none .pick [.v 16, .c (.bool true), .v 19] 1 <|
(.ite (.v 20)
(.leaf .ret [.c (.int .i64 0), .c (.rows 1 []), .c (.bool false)] ())
(.leaf .ret [.v 5, .v 7, .c (.bool true)] ())))))))))))))))))))
def tm86 : Tm Unit :=
(.call none 87 [.v 0, .v 1] 3 [] <|
(.leaf .ret [.v 2, .v 3, .v 4] ()))
def tm87 : Tm Unit :=
(.call none 78 [.v 0, .v 1] 1 [] <|
(.lt none (.bin .geq) [.v 2, .c (.int .i64 0)] 1 <|
(.ite (.v 3)
(.lt none .ssub [.v 0, .c (.int .i64 0), .v 2] 1 <|
(.lt none .slen [.v 1] 1 <|
(.lt none (.bin .add) [.v 2, .v 5] 1 <|
(.lt none .slen [.v 0] 1 <|
(.lt none .ssub [.v 0, .v 6, .v 7] 1 <|
(.leaf .ret [.v 4, .v 8, .c (.bool true)] ()))))))
(.leaf .ret [.v 0, .c (.str []), .c (.bool false)] ()))))
def tm88 : Tm Unit :=
(.lt none (.bin .eql) [.v 0, .v 15] 1 <|
(.lt (some (.v 30, true)) .id [.v 1] 1 <|
(.lt (some (.v 30, true)) .id [.v 16] 1 <|
(.lt (some (.v 30, true)) (.bin .eql) [.v 31, .v 32] 1 <|
(.lt none .pick [.v 30, .v 33, .c (.bool false)] 1 <|
(.lt (some (.v 34, true)) .id [.v 2] 1 <|
(.lt (some (.v 34, true)) .id [.v 17] 1 <|
(.lt (some (.v 34, true)) (.bin .eql) [.v 35, .v 36] 1 <|
(.lt none .pick [.v 34, .v 37, .c (.bool false)] 1 <|
(.lt (some (.v 38, true)) .id [.v 3] 1 <|
(.lt (some (.v 38, true)) .id [.v 18] 1 <|
(.lt (some (.v 38, true)) (.bin .eql) [.v 39, .v 40] 1 <|
(.lt none .pick [.v 38, .v 41, .c (.bool false)] 1 <|
(.lt (some (.v 42, true)) .id [.v 4] 1 <|
(.lt (some (.v 42, true)) .id [.v 19] 1 <|
(.lt (some (.v 42, true)) (.bin .eql) [.v 43, .v 44] 1 <|
(.lt none .pick [.v 42, .v 45, .c (.bool false)] 1 <|
(.lt (some (.v 46, true)) .id [.v 5] 1 <|
(.lt (some (.v 46, true)) .id [.v 20] 1 <|
(.lt (some (.v 46, true)) (.bin .eql) [.v 47, .v 48] 1 <|
(.lt none .pick [.v 46, .v 49, .c (.bool false)] 1 <|
(.lt (some (.v 50, true)) .id [.v 6] 1 <|
(.lt (some (.v 50, true)) .id [.v 21] 1 <|
(.lt (some (.v 50, true)) (.bin .eql) [.v 51, .v 52] 1 <|
(.lt none .pick [.v 50, .v 53, .c (.bool false)] 1 <|
(.lt (some (.v 54, true)) .id [.v 7] 1 <|
(.lt (some (.v 54, true)) .id [.v 22] 1 <|
(.lt (some (.v 54, true)) (.bin .eql) [.v 55, .v 56] 1 <|
(.lt none .pick [.v 54, .v 57, .c (.bool false)] 1 <|
(.lt (some (.v 58, true)) (.eqs [0, 0, 0, 0, 0]) [.v 8, .v 9, .v 10, .v 11, .v 12, .v 23, .v 24, .v 25, .v 26, .v 27] 1 <|
(.lt none .pick [.v 58, .v 59, .c (.bool false)] 1 <|
(.call (some (.v 60, true)) 89 [.v 13, .v 14, .v 28, .v 29] 1 [] <|
(.lt none .pick [.v 60, .v 61, .c (.bool false)] 1 <|
(.leaf .ret [.v 62] ()))))))))))))))))))))))))))))))))))
def tm89 : Tm Unit :=
(.lt none (.bin .eql) [.v 0, .v 2] 1 <|
(.call (some (.v 4, true)) 90 [.v 1, .v 3] 1 [] <|
(.lt none .pick [.v 4, .v 5, .c (.bool false)] 1 <|
(.leaf .ret [.v 6] ()))))
def tm90 : Tm Unit :=
(.lt none .len [.v 0] 1 <|
(.lt none .len [.v 1] 1 <|
(.lt none (.bin .neq) [.v 2, .v 3] 1 <|
(.ite (.v 4)
(.leaf .ret [.c (.bool false)] ())
(.lt none .len [.v 0] 1 <|
(.bind 1
(.loop [.c (.int .i64 0)]
(.lt none (.bin .lss) [.v 6, .v 5] 1 <|
(.ite (.v 7)
(.lt none .inb [.v 0, .v 6] 0 <|
(.lt none (.row 1 0 [true]) [.v 0, .v 6] 1 <|
(.lt none .inb [.v 1, .v 6] 0 <|
(.lt none (.row 1 0 [true]) [.v 1, .v 6] 1 <|
(.lt none (.bin .neq) [.v 8, .v 9] 1 <|
(.ite (.v 10)
(.leaf .ret [.c (.bool false)] ())
(.lt none (.bin .add) [.v 6, .c (.int .i64 1)] 1 <|
(.leaf .cont [.v 11] ()))))))))
(.leaf (.yield 1) [] ())))) <|
(.leaf .ret [.c (.bool true)] ())))))))
def tm91 : Tm Unit :=
(.lt none (.bin .eql) [.v 0, .v 15] 1 <|
(.lt (some (.v 30, true)) .id [.v 1] 1 <|
(.lt (some (.v 30, true)) .id [.v 16] 1 <|
(.lt (some (.v 30, true)) (.bin .eql) [.v 31, .v 32] 1 <|
(.lt none .pick [.v 30, .v 33, .c (.bool false)] 1 <|
(.lt (some (.v 34, true)) .id [.v 2] 1 <|
(.lt (some (.v 34, true)) .id [.v 17] 1 <|
(.lt (some (.v 34, true)) (.bin .eql) [.v 35, .v 36] 1 <|
(.lt none .pick [.v 34, .v 37, .c (.bool false)] 1 <|
(.lt (some (.v 38, true)) .id [.v 3] 1 <|
(.lt (some (.v 38, true)) .id [.v 18] 1 <|
(.lt (some (.v 38, true)) (.bin .eql) [.v 39, .v 40] 1 <|
(.lt none .pick [.v 38, .v 41, .c (.bool false)] 1 <|
(.lt (some (.v 42, true)) .id [.v 4] 1 <|
(.lt (some (.v 42, true)) .id [.v 19] 1 <|
(.lt (some (.v 42, true)) (.bin .eql) [.v 43, .v 44] 1 <|
(.lt none .pick [.v 42, .v 45, .c (.bool false)] 1 <|
(.lt (some (.v 46, true)) .id [.v 5] 1 <|
(.lt (some (.v 46, true)) .id [.v 20] 1 <|
(.lt (some (.v 46, true)) (.bin .eql) [.v 47, .v 48] 1 <|
(.lt none .pick [.v 46, .v 49, .c (.bool false)] 1 <|
(.lt (some (.v 50, true)) .id [.v 6] 1 <|
(.lt (some (.v 50, true)) .id [.v 21] 1 <|
(.lt (some (.v 50, true)) (.bin .eql) [.v 51, .v 52] 1 <|
(.lt none .pick [.v 50, .v 53, .c (.bool false)] 1 <|
(.lt (some (.v 54, true)) .id [.v 7] 1 <|
(.lt (some (.v 54, true)) .id [.v 22] 1 <|
(.lt (some (.v 54, true)) (.bin .eql) [.v 55, .v 56] 1 <|
(.lt none .pick [.v 54, .v 57, .c (.bool false)] 1 <|
(.lt (some (.v 58, true)) (.eqs [0, 0, 0, 0, 0]) [.v 8, .v 9, .v 10, .v 11, .v 12, .v 23, .v 24, .v 25, .v 26, .v 27] 1 <|
(.lt none .pick [.v 58, .v 59, .c (.bool false)] 1 <|
(.call (some (.v 60, true)) 32 [.v 13, .v 14, .v 28, .v 29] 1 [] <|
(.lt none .pick [.v 60, .v 61, .c (.bool false)] 1 <|
(.leaf .ret [.v 62] ()))))))))))))))))))))))))))))))))))
def tm92 : Tm Unit :=
(.call none 3 [.v 0] 16 [] <|
(.call none 50 [.v 1, .v 2, .v 3, .v 4, .v 5, .v 6, .v 7, .v 8, .v 9, .v 10, .v 11, .v 12, .v 13, .v 14, .v 15, .v 16] 2 [] <|
(.bind 0
(.call none 12 [.c (.int .i64 3), .v 0, .c (.int .i64 0), .c (.int .u64 0)] 4 [] <|
(.ite (.v 19)
(.call none 93 [.v 17, .c (.str [48, 49, 32, 124, 58, 44, 112]), .v 20, .v 21, .v 22] 4 [] <|
(.leaf (.yield 0) [.v 23, .v 24, .v 25, .v 26] ()))
(.leaf (.yield 0) [.v 17, .v 20, .v 21, .v 22] ()))) <|
(.leaf .ret [.v 1, .v 19] ()))))
def tm93 : Tm Unit :=
(.call none 6 [.c (.int .i64 2), .v 2, .v 3, .v 4] 4 [] <|
(.lt none (.bin .add) [.c (.int .i64 1), .v 5] 1 <|
(.bind 1
(.loop [.v 0, .v 9, .v 6, .v 7, .v 8]
(.lt none (.bin .gtr) [.v 11, .c (.int .i64 0)] 1 <|
(.lt (some (.v 15, true)) .id [.v 10] 1 <|
(.lt (some (.v 15, true)) .slen [.v 16] 1 <|
(.lt (some (.v 15, true)) (.bin .gtr) [.v 17, .c (.int .i64 0)] 1 <|
(.lt none .pick [.v 15, .v 18, .c (.bool false)] 1 <|
(.ite (.v 19)
(.bind 0
(.lt none .slen [.v 10] 1 <|
(.call none 6 [.v 20, .v 12, .v 13, .v 14] 4 [] <|
(.lt none .slen [.v 1] 1 <|
(.call none 6 [.v 25, .v 22, .v 23, .v 24] 4 [] <|
(.lt none .sidx [.v 1, .v 26] 1 <|
(.lt none (.mk 1 1) [.v 30] 1 <|
(.lt none .bstr [.v 31] 1 <|
(.call none 6 [.c (.int .i64 3), .v 27, .v 28, .v 29] 4 [] <|
(.lt none (.bin .eql) [.v 33, .c (.int .i64 0)] 1 <|
(.ite (.v 37)
(.lt none .ssub [.v 10, .c (.int .i64 0), .v 21] 1 <|
(.lt none (.bin .add) [.v 38, .v 32] 1 <|
(.lt none .slen [.v 10] 1 <|
(.lt none .ssub [.v 10, .v 21, .v 40] 1 <|
(.lt none (.bin .add) [.v 39, .v 41] 1 <|
(.leaf (.yield 0) [.v 42, .v 34, .v 35, .v 36] ()))))))
(.lt none (.bin .eql) [.v 33, .c (.int .i64 1)] 1 <|
(.ite (.v 38)
(.lt none .ssub [.v 10, .c (.int .i64 0), .v 21] 1 <|
(.lt none (.bin .add) [.v 39, .v 32] 1 <|
(.lt none (.bin .add) [.v 21, .c (.int .i64 1)] 1 <|
(.lt none .slen [.v 10] 1 <|
(.lt none .ssub [.v 10, .v 41, .v 42] 1 <|
(.lt none (.bin .add) [.v 40, .v 43] 1 <|
(.leaf (.yield 0) [.v 44, .v 34, .v 35, .v 36] ())))))))
(.lt none .ssub [.v 10, .c (.int .i64 0), .v 21] 1 <|
(.lt none (.bin .add) [.v 21, .c (.int .i64 1)] 1 <|
(.lt none .slen [.v 10] 1 <|
(.lt none .ssub [.v 10, .v 40, .v 41] 1 <|
(.lt none (.bin .add) [.v 39, .v 42] 1 <|
(.leaf (.yield 0) [.v 43, .v 34, .v 35, .v 36] ())))))))))))))))))) <|
(.lt none (.bin .sub) [.v 11, .c (.int .i64 1)] 1 <|
(.leaf .cont [.v 20, .v 24, .v 21, .v 22, .v 23] ())))
(.leaf (.yield 1) [.v 10, .v 12, .v 13, .v 14] ())))))))) <|
(.leaf .ret [.v 10, .v 11, .v 12, .v 13] ()))))
def tm94 : Tm Unit :=
(.call none 95 [.v 1, .c (.int .u8 124)] 1 [] <|
(.call none 52 [.v 0] 1 [] <|
(.lt none .not [.v 3] 1 <|
(.lt (some (.v 4, false)) .len [.v 2] 1 <|
(.lt (some (.v 4, false)) (.bin .neq) [.v 5, .c (.int .i64 3)] 1 <|
(.lt none .pick [.v 4, .c (.bool true), .v 6] 1 <|
(.ite (.v 7)
(.leaf .ret [.c (.int .i64 0), .c (.int .i64 0), .c (.int .i64 0), .c (.int .i64 0), .c (.int .i64 0), .c (.int .i64 0), .c (.int .i64 0), .c (.int .i64 0), .c (.int .i64 0), .c (.int .i64 0), .c (.int .i64 0), .c (.int .i64 0), .c (.int .i64 0), .c (.int .i64 0), .c (.rows 1 []), .c (.int .i64 1), .c (.bool false)] ())
(.lt none .inb [.v 2, .c (.int .i64 0)] 0 <|
(.lt none (.row 1 0 [true]) [.v 2, .c (.int .i64 0)] 1 <|
(.call none 95 [.v 8, .c (.int .u8 32)] 1 [] <|
(.call none 63 [] 1 [] <|
(.lt none .len [.v 10] 1 <|
(.bind 1
(.loop [.c (.int .i64 0), .c (.int .i64 0)]
(.lt none (.bin .lss) [.v 13, .v 11] 1 <|
(.ite (.v 14)
(.bind 0
(.lt none .inb [.v 10, .v 13] 0 <|
(.lt none (.row 1 0 [true]) [.v 10, .v 13] 1 <|
(.lt none (.bin .gtr) [.v 13, .c (.int .i64 0)] 1 <|
(.lt (some (.v 16, true)) .id [.v 15] 1 <|
(.lt (some (.v 16, true)) .inb [.v 9, .c (.int .i64 0)] 0 <|
(.lt (some (.v 16, true)) (.row 1 0 [true]) [.v 9, .c (.int .i64 0)] 1 <|
(.lt (some (.v 16, true)) (.bin .eql) [.v 17, .v 18] 1 <|
(.lt none .pick [.v 16, .v 19, .c (.bool false)] 1 <|
(.ite (.v 20)
(.leaf (.yield 0) [.v 13, .c .undef, .c .undef, .c .undef] ())
(.leaf (.yield 0) [.v 12, .c .undef, .c .undef, .c .undef] ())))))))))) <|
(.lt none (.bin .add) [.v 13, .c (.int .i64 1)] 1 <|
(.leaf .cont [.v 15, .v 19] ())))
(.leaf (.yield 1) [.v 12] ())))) <|
(.lt none (.bin .eql) [.v 12, .c (.int .i64 0)] 1 <|
(.lt (some (.v 13, false)) .len [.v 9] 1 <|
(.lt (some (.v 13, false)) (.bin .neq) [.v 14, .c (.int .i64 8)] 1 <|
(.lt none .pick [.v 13, .c (.bool true), .v 15] 1 <|
(.ite (.v 16)
(.leaf .ret [.c (.int .i64 0), .c (.int .i64 0), .c (.int .i64 0), .c (.int .i64 0), .c (.int .i64 0), .c (.int .i64 0), .c (.int .i64 0), .c (.int .i64 0), .c (.int .i64 0), .c (.int .i64 0), .c (.int .i64 0), .c (.int .i64 0), .c (.int .i64 0), .c (.int .i64 0), .c (.rows 1 []), .c (.int .i64 2), .c (.bool false)] ())
(.lt none .len [.v 9] 1 <|
(.lt none (.sub 1 true) [.v 9, .c (.int .i64 1), .v 17] 1 <|
(.lt none .len [.v 18] 1 <|
(.bind 3
(.loop [.c (.rows 1 []), .c (.int .i64 0)]
(.lt none (.bin .lss) [.v 21, .v 19] 1 <|
(.ite (.v 22)
(.lt none .inb [.v 18, .v 21] 0 <|
(.lt none (.row 1 0 [true]) [.v 18, .v 21] 1 <|
(.call none 96 [.v 23] 1 [] <|
(.lt none (.mk 1 1) [.v 24] 1 <|
(.lt none (.app 1 8 true) [.v 20, .v 25] 1 <|
(.lt none .slen [.v 23] 1 <|
(.lt none (.bin .gtr) [.v 27, .c (.int .i64 4)] 1 <|
(.lt (some (.v 28, false)) .len [.v 26] 1 <|
(.lt (some (.v 28, false)) (.bin .sub) [.v 29, .c (.int .i64 1)] 1 <|
(.lt (some (.v 28, false)) .inb [.v 26, .v 30] 0 <|
(.lt (some (.v 28, false)) (.row 1 0 [true]) [.v 26, .v 30] 1 <|
(.lt (some (.v 28, false)) (.bin .lss) [.v 31, .c (.int .i64 0)] 1 <|
(.lt none .pick [.v 28, .c (.bool true), .v 32] 1 <|
(.ite (.v 33)
(.leaf .ret [.c (.int .i64 0), .c (.int .i64 0), .c (.int .i64 0), .c (.int .i64 0), .c (.int .i64 0), .c (.int .i64 0), .c (.int .i64 0), .c (.int .i64 0), .c (.int .i64 0), .c (.int .i64 0), .c (.int .i64 0), .c (.int .i64 0), .c (.int .i64 0), .c (.int .i64 0), .c (.rows 1 []), .c (.int .i64 2), .c (.bool false)] ())
(.lt none (.bin .add) [.v 21, .c (.int .i64 1)] 1 <|
(.leaf .cont [.v 26, .v 34] ()))))))))))))))))
(.leaf (.yield 3) [.v 20] ())))) <|
(.lt none .inb [.v 2, .c (.int .i64 1)] 0 <|
(.lt none (.row 1 0 [true]) [.v 2, .c (.int .i64 1)] 1 <|
(.call none 97 [.v 21] 7 [] <|
(.lt none .not [.v 28] 1 <|
(.ite (.v 29)
(.leaf .ret [.c (.int .i64 0), .c (.int .i64 0), .c (.int .i64 0), .c (.int .i64 0), .c (.int .i64 0), .c (.int .i64 0), .c (.int .i64 0), .c (.int .i64 0), .c (.int .i64 0), .c (.int .i64 0), .c (.int .i64 0), .c (.int .i64 0), .c (.int .i64 0), .c (.int .i64 0), .c (.rows 1 []), .c (.int .i64 3), .c (.bool false)] ())
(.lt none .inb [.v 2, .c (.int .i64 2)] 0 <|
(.lt none (.row 1 0 [true]) [.v 2, .c (.int .i64 2)] 1 <|
(.call none 98 [.v 0, .v 30] 3 [] <|
(.lt none .not [.v 33] 1 <|
(.ite (.v 34)
(.leaf .ret [.c (.int .i64 0), .c (.int .i64 0), .c (.int .i64 0), .c (.int .i64 0), .c (.int .i64 0), .c (.int .i64 0), .c (.int .i64 0), .c (.int .i64 0), .c (.int .i64 0), .c (.int .i64 0), .c (.int .i64 0), .c (.int .i64 0), .c (.int .i64 0), .c (.int .i64 0), .c (.rows 1 []), .c (.int .i64 4), .c (.bool false)] ())
(.lt none .inb [.v 20, .c (.int .i64 0)] 0 <|
(.lt none (.row 1 0 [true]) [.v 20, .c (.int .i64 0)] 1 <|
(.lt none .inb [.v 20, .c (.int .i64 1)] 0 <|
(.lt none (.row 1 0 [true]) [.v 20, .c (.int .i64 1)] 1 <|
(.lt none .inb [.v 20, .c (.int .i64 2)] 0 <|
(.lt none (.row 1 0 [true]) [.v 20, .c (.int .i64 2)] 1 <|
(.lt none .inb [.v 20, .c (.int .i64 3)] 0 <|
(.lt none (.row 1 0 [true]) [.v 20, .c (.int .i64 3)] 1 <|
(.lt none .inb [.v 20, .c (.int .i64 4)] 0 <|
(.lt none (.row 1 0 [true]) [.v 20, .c (.int .i64 4)] 1 <|
(.lt none .inb [.v 20, .c (.int .i64 5)] 0 <|
(.lt none (.row 1 0 [true]) [.v 20, .c (.int .i64 5)] 1 <|
(.lt none .inb [.v 20, .c (.int .i64 6)] 0 <|
(.lt none (.row 1 0 [true]) [.v 20, .c (.int .i64 6)] 1 <|
(.call none 51 [.v 0, .v 12, .v 35, .v 36, .v 37, .v 38, .v 39, .v 40, .v 41, .v 22, .v 23, .v 24, .v 25, .v 26, .v 31, .v 32] 1 [] <|
(.lt none .not [.v 42] 1 <|
(.ite (.v 43)
(.leaf .ret [.c (.int .i64 0), .c (.int .i64 0), .c (.int .i64 0), .c (.int .i64 0), .c (.int .i64 0), .c (.int .i64 0), .c (.int .i64 0), .c (.int .i64 0), .c (.int .i64 0), .c (.int .i64 0), .c (.int .i64 0), .c (.int .i64 0), .c (.int .i64 0), .c (.int .i64 0), .c (.rows 1 []), .c (.int .i64 5), .c (.bool false)] ())
(.leaf .ret [.v 12, .v 35, .v 36, .v 37, .v 38, .v 39, .v 40, .v 41, .v 22, .v 23, .v 24, .v 25, .v 26, .v 31, .v 32, .c (.int .i64 0), .c (.bool true)] ()))))))))))))))))))))))))))))))))))))))))))))))))))
def tm95 : Tm Unit :=
(.bind 1
(.loop [.c (.rows 1 []), .c (.int .i64 0), .c (.int .i64 0)]
(.lt none .slen [.v 0] 1 <|
(.lt none (.bin .lss) [.v 4, .v 5] 1 <|
(.ite (.v 6)
(.bind 0
(.lt none .sidx [.v 0, .v 4] 1 <|
(.lt none (.bin .eql) [.v 7, .v 1] 1 <|
(.ite (.v 8)
(.lt none .ssub [.v 0, .v 3, .v 4] 1 <|
(.lt none (.mk 1 1) [.v 9] 1 <|
(.lt none (.app 1 16 true) [.v 2, .v 10] 1 <|
(.lt none (.bin .add) [.v 4, .c (.int .i64 1)] 1 <|
(.leaf (.yield 0) [.v 11, .v 12] ())))))
(.leaf (.yield 0) [.v 2, .v 3] ())))) <|
(.lt none (.bin .add) [.v 4, .c (.int .i64 1)] 1 <|
(.leaf .cont [.v 7, .v 8, .v 9] ())))
(.leaf (.yield 1) [.v 2, .v 3] ()))))) <|
(.lt none .slen [.v 0] 1 <|
(.lt none .ssub [.v 0, .v 3, .v 4] 1 <|
(.lt none (.mk 1 1) [.v 5] 1 <|
(.lt none (.app 1 16 true) [.v 2, .v 6] 1 <|
(.leaf .ret [.v 7] ()))))))
def tm96 : Tm Unit :=
(.lt none .slen [.v 0] 1 <|
(.call none 53 [.v 1, .c (.int .i64 1), .c (.int .i64 6)] 1 [] <|
(.lt none .not [.v 2] 1 <|
(.lt (some (.v 3, false)) .id [.v 0] 1 <|
(.lt (some (.v 3, false)) .sidx [.v 4, .c (.int .i64 0)] 1 <|
(.lt (some (.v 3, false)) (.bin .eql) [.v 5, .c (.int .u8 48)] 1 <|
(.lt (some (.v 3, false)) .id [.v 6] 1 <|
(.lt (some (.v 7, true)) .id [.v 0] 1 <|
(.lt (some (.v 7, true)) .slen [.v 8] 1 <|
(.lt (some (.v 7, true)) (.bin .gtr) [.v 9, .c (.int .i64 1)] 1 <|
(.lt (some (.v 3, false)) .pick [.v 7, .v 10, .c (.bool false)] 1 <|
(.lt none .pick [.v 3, .c (.bool true), .v 11] 1 <|
(.ite (.v 12)
(.leaf .ret [.c (.int .i64 (-1))] ())
(.bind 1
(.loop [.c (.int .i64 0), .c (.int .i64 0)]
(.lt none .slen [.v 0] 1 <|
(.lt none (.bin .lss) [.v 14, .v 15] 1 <|
(.ite (.v 16)
(.lt none .sidx [.v 0, .v 14] 1 <|
(.lt none (.bin .lss) [.v 17, .c (.int .u8 48)] 1 <|
(.lt (some (.v 18, false)) .id [.v 0] 1 <|
(.lt (some (.v 18, false)) .id [.v 14] 1 <|
(.lt (some (.v 18, false)) .sidx [.v 19, .v 20] 1 <|
(.lt (some (.v 18, false)) (.bin .gtr) [.v 21, .c (.int .u8 57)] 1 <|
(.lt none .pick [.v 18, .c (.bool true), .v 22] 1 <|
(.ite (.v 23)
(.leaf .ret [.c (.int .i64 (-1))] ())
(.lt none (.bin .mul) [.c (.int .i64 10), .v 13] 1 <|
(.lt none .sidx [.v 0, .v 14] 1 <|
(.lt none (.bin .sub) [.v 25, .c (.int .u8 48)] 1 <|
(.lt none (.conv .i64) [.v 26] 1 <|
(.lt none (.bin .add) [.v 24, .v 27] 1 <|
(.lt none (.bin .add) [.v 14, .c (.int .i64 1)] 1 <|
(.leaf .cont [.v 28, .v 29] ())))))))))))))))
(.leaf (.yield 1) [.v 13] ()))))) <|
(.leaf .ret [.v 13] ())))))))))))))))
def tm97 : Tm Unit :=
(.call none 95 [.v 0, .c (.int .u8 32)] 1 [] <|
(.bind 0
(.lt none .inb [.v 1, .c (.int .i64 0)] 0 <|
(.lt none (.row 1 0 [true]) [.v 1, .c (.int .i64 0)] 1 <|
(.lt none (.bin .eql) [.v 2, .c (.str [109, 111, 118, 101])] 1 <|
(.ite (.v 3)
(.leaf (.yield 0) [.c (.int .i64 5), .c (.int .i64 1)] ())
(.lt none (.bin .eql) [.v 2, .c (.str [114, 101, 97, 100])] 1 <|
(.ite (.v 4)
(.leaf (.yield 0) [.c (.int .i64 3), .c (.int .i64 2)] ())
(.lt none (.bin .eql) [.v 2, .c (.str [45])] 1 <|
(.ite (.v 5)
(.leaf (.yield 0) [.c (.int .i64 1), .c (.int .i64 0)] ())
(.leaf .ret [.c (.int .i64 0), .c (.int .i64 0), .c (.int .i64 0), .c (.int .i64 0), .c (.int .i64 0), .c (.int .i64 1), .c (.bool false)] ()))))))))) <|
(.lt none .len [.v 1] 1 <|
(.lt none (.bin .neq) [.v 4, .v 2] 1 <|
(.ite (.v 5)
(.leaf .ret [.c (.int .i64 0), .c (.int .i64 0), .c (.int .i64 0), .c (.int .i64 0), .c (.int .i64 0), .c (.int .i64 2), .c (.bool false)] ())
(.lt none (.make 8 [(.int .i64 0)]) [.c (.int .i64 4)] 1 <|
(.lt none .len [.v 1] 1 <|
(.lt none (.sub 1 true) [.v 1, .c (.int .i64 1), .v 7] 1 <|
(.lt none .len [.v 8] 1 <|
(.bind 2
(.loop [.v 6, .c (.int .i64 0)]
(.lt none (.bin .lss) [.v 11, .v 9] 1 <|
(.ite (.v 12)
(.lt none .inb [.v 8, .v 11] 0 <|
(.lt none (.row 1 0 [true]) [.v 8, .v 11] 1 <|
(.call none 96 [.v 13] 1 [] <|
(.lt none .inb [.v 10, .v 11] 0 <|
(.lt none (.set 1 0 1) [.v 10, .v 11, .v 14] 1 <|
(.lt none .slen [.v 13] 1 <|
(.lt none (.bin .gtr) [.v 16, .c (.int .i64 4)] 1 <|
(.lt (some (.v 17, false)) .id [.v 11] 1 <|
(.lt (some (.v 17, false)) .inb [.v 15, .v 18] 0 <|
(.lt (some (.v 17, false)) (.row 1 0 [true]) [.v 15, .v 18] 1 <|
(.lt (some (.v 17, false)) (.bin .lss) [.v 19, .c (.int .i64 0)] 1 <|
(.lt none .pick [.v 17, .c (.bool true), .v 20] 1 <|
(.ite (.v 21)
(.leaf .ret [.c (.int .i64 0), .c (.int .i64 0), .c (.int .i64 0), .c (.int .i64 0), .c (.int .i64 0), .c (.int .i64 3), .c (.bool false)] ())
(.lt none (.bin .add) [.v 11, .c (.int .i64 1)] 1 <|
(.leaf .cont [.v 15, .v 22] ())))))))))))))))
(.leaf (.yield 2) [.v 10] ())))) <|
(.lt none .inb [.v 10, .c (.int .i64 0)] 0 <|
(.lt none (.row 1 0 [true]) [.v 10, .c (.int .i64 0)] 1 <|
(.lt none .inb [.v 10, .c (.int .i64 1)] 0 <|
(.lt none (.row 1 0 [true]) [.v 10, .c (.int .i64 1)] 1 <|
(.lt none .inb [.v 10, .c (.int .i64 2)] 0 <|
(.lt none (.row 1 0 [true]) [.v 10, .c (.int .i64 2)] 1 <|
(.lt none .inb [.v 10, .c (.int .i64 3)] 0 <|
(.lt none (.row 1 0 [true]) [.v 10, .c (.int .i64 3)] 1 <|
(.lt none (.bin .eql) [.v 3, .c (.int .i64 0)] 1 <|
(.ite (.v 15)
(.leaf .ret [.v 3, .v 11, .v 12, .v 13, .v 14, .c (.int .i64 0), .c (.bool true)] ())
(.call none 59 [.v 3, .v 11, .v 12, .v 13, .v 14] 1 [] <|
(.lt none (.bin .gtr) [.v 16, .c (.int .i64 0)] 1 <|
(.ite (.v 17)
(.leaf .ret [.c (.int .i64 0), .c (.int .i64 0), .c (.int .i64 0), .c (.int .i64 0), .c (.int .i64 0), .v 16, .c (.bool false)] ())
(.leaf .ret [.v 3, .v 11, .v 12, .v 13, .v 14, .c (.int .i64 0), .c (.bool true)] ()))))))))))))))))))))))))
def tm98 : Tm Unit :=
(.call none 95 [.v 1, .c (.int .u8 58)] 1 [] <|
(.lt none .slen [.v 1] 1 <|
(.lt none (.bin .gtr) [.v 3, .c (.int .i64 40)] 1 <|
(.lt (some (.v 4, false)) .len [.v 2] 1 <|
(.lt (some (.v 4, false)) (.bin .neq) [.v 5, .c (.int .i64 2)] 1 <|
(.lt none .pick [.v 4, .c (.bool true), .v 6] 1 <|
(.ite (.v 7)
(.leaf .ret [.c (.int .i64 0), .c (.rows 1 []), .c (.bool false)] ())
(.lt none .inb [.v 2, .c (.int .i64 0)] 0 <|
(.lt none (.row 1 0 [true]) [.v 2, .c (.int .i64 0)] 1 <|
(.call none 96 [.v 8] 1 [] <|
(.lt none .inb [.v 2, .c (.int .i64 1)] 0 <|
(.lt none (.row 1 0 [true]) [.v 2, .c (.int .i64 1)] 1 <|
(.call none 95 [.v 10, .c (.int .u8 44)] 1 [] <|
(.lt none .len [.v 11] 1 <|
(.bind 1
(.loop [.c (.int .i64 0), .c (.rows 1 [])]
(.lt none (.bin .lss) [.v 13, .v 12] 1 <|
(.ite (.v 15)
(.lt none .inb [.v 11, .v 13] 0 <|
(.lt none (.row 1 0 [true]) [.v 11, .v 13] 1 <|
(.call none 96 [.v 16] 1 [] <|
(.lt none (.mk 1 1) [.v 17] 1 <|
(.lt none (.app 1 8 true) [.v 14, .v 18] 1 <|
(.lt none (.bin .add) [.v 13, .c (.int .i64 1)] 1 <|
(.leaf .cont [.v 20, .v 19] ())))))))
(.leaf (.yield 1) [.v 14] ())))) <|
(.call none 99 [.v 0, .v 9, .v 13] 1 [] <|
(.lt none .not [.v 14] 1 <|
(.ite (.v 15)
(.leaf .ret [.c (.int .i64 0), .c (.rows 1 []), .c (.bool false)] ())
(.leaf .ret [.v 9, .v 13, .c (.bool true)] ())))))))))))))))))))
def tm99 : Tm Unit :=
(.call none 52 [.v 0] 1 [] <|
(.lt (some (.v 3, true)) .id [.v 0] 1 <|
(.call (some (.v 3, true)) 61 [.v 4, .v 1, .v 2] 1 [] <|
(.lt none .pick [.v 3, .v 5, .c (.bool false)] 1 <|
(.leaf .ret [.v 6] ())))))
def tm100 : Tm Unit :=
(.call none 3 [.v 0] 16 [] <|
(.call none 101 [.v 15, .v 16] 2 [] <|
(.lt none (.dep 99) [.v 18] 0 <|
(.bind 0
(.call none 6 [.c (.int .i64 4), .v 0, .c (.int .i64 0), .c (.int .u64 0)] 4 [] <|
(.lt none (.bin .eql) [.v 19, .c (.int .i64 0)] 1 <|
(.ite (.v 23)
(.lt none (.bin .add) [.v 6, .c (.int .i64 1)] 1 <|
(.leaf (.yield 0) [.v 20, .v 21, .v 22, .v 24, .v 18] ()))
(.lt none (.bin .eql) [.v 19, .c (.int .i64 1)] 1 <|
(.ite (.v 24)
(.lt none .len [.v 18] 1 <|
(.lt none (.bin .gtr) [.v 25, .c (.int .i64 0)] 1 <|
(.ite (.v 26)
(.lt none .inb [.v 18, .c (.int .i64 0)] 0 <|
(.lt none (.row 1 0 [true]) [.v 18, .c (.int .i64 0)] 1 <|
(.lt none (.bin .add) [.v 27, .c (.int .i64 1)] 1 <|
(.lt none .inb [.v 18, .c (.int .i64 0)] 0 <|
(.lt none (.set 1 0 1) [.v 18, .c (.int .i64 0), .v 28] 1 <|
(.leaf (.yield 0) [.v 20, .v 21, .v 22, .v 6, .v 29] ()))))))
(.leaf (.yield 0) [.v 20, .v 21, .v 22, .v 6, .v 18] ()))))
(.leaf (.yield 0) [.v 20, .v 21, .v 22, .v 6, .v 18] ())))))) <|
(.leaf .ret [.v 2, .v 3, .v 4, .v 5, .v 6, .v 7, .v 8, .v 9, .v 10, .v 11, .v 12, .v 13, .v 14, .v 15, .v 16, .v 2, .v 3, .v 4, .v 5, .v 22, .v 7, .v 8, .v 9, .v 10, .v 11, .v 12, .v 13, .v 14, .v 17, .v 23] ())))))
def tm101 : Tm Unit :=
(.call none 102 [.v 1] 1 [] <|
(.leaf .ret [.v 0, .v 2] ()))
def tm102 : Tm Unit :=
(.lt none (.mk 1 0) [] 1 <|
(.lt none (.app 1 8 true) [.v 1, .v 0] 1 <|
(.leaf .ret [.v 2] ())))
def tm103 : Tm Unit :=
(.lt none (.bin .eql) [.v 0, .v 15] 1 <|
(.lt (some (.v 30, true)) .id [.v 1] 1 <|
(.lt (some (.v 30, true)) .id [.v 16] 1 <|
(.lt (some (.v 30, true)) (.bin .eql) [.v 31, .v 32] 1 <|
(.lt none .pick [.v 30, .v 33, .c (.bool false)] 1 <|
(.lt (some (.v 34, true)) .id [.v 2] 1 <|
(.lt (some (.v 34, true)) .id [.v 17] 1 <|
(.lt (some (.v 34, true)) (.bin .eql) [.v 35, .v 36] 1 <|
(.lt none .pick [.v 34, .v 37, .c (.bool false)] 1 <|
(.lt (some (.v 38, true)) .id [.v 3] 1 <|
(.lt (some (.v 38, true)) .id [.v 18] 1 <|
(.lt (some (.v 38, true)) (.bin .eql) [.v 39, .v 40] 1 <|
(.lt none .pick [.v 38, .v 41, .c (.bool false)] 1 <|
(.lt (some (.v 42, true)) .id [.v 4] 1 <|
(.lt (some (.v 42, true)) .id [.v 19] 1 <|
(.lt (some (.v 42, true)) (.bin .eql) [.v 43, .v 44] 1 <|
(.lt none .pick [.v 42, .v 45, .c (.bool false)] 1 <|
(.lt (some (.v 46, true)) .id [.v 5] 1 <|
(.lt (some (.v 46, true)) .id [.v 20] 1 <|
(.lt (some (.v 46, true)) (.bin .eql) [.v 47, .v 48] 1 <|
(.lt none .pick [.v 46, .v 49, .c (.bool false)] 1 <|
(.lt (some (.v 50, true)) .id [.v 6] 1 <|
(.lt (some (.v 50, true)) .id [.v 21] 1 <|
(.lt (some (.v 50, true)) (.bin .eql) [.v 51, .v 52] 1 <|
(.lt none .pick [.v 50, .v 53, .c (.bool false)] 1 <|
(.lt (some (.v 54, true)) .id [.v 7] 1 <|
(.lt (some (.v 54, true)) .id [.v 22] 1 <|
(.lt (some (.v 54, true)) (.bin .eql) [.v 55, .v 56] 1 <|
(.lt none .pick [.v 54, .v 57, .c (.bool false)] 1 <|
(.lt (some (.v 58, true)) (.eqs [0, 0, 0, 0, 0]) [.v 8, .v 9, .v 10, .v 11, .v 12, .v 23, .v 24, .v 25, .v 26, .v 27] 1 <|
(.lt none .pick [.v 58, .v 59, .c (.bool false)] 1 <|
(.call (some (.v 60, true)) 56 [.v 13, .v 14, .v 28, .v 29] 1 [] <|
(.lt none .pick [.v 60, .v 61, .c (.bool false)] 1 <|
(.leaf .ret [.v 62] ()))))))))))))))))))))))))))))))))))
theorem cl23 : ∀ n, Contract Tryz.prog (entTab [(23, .tm tm23)]) n 23 sg23 := fun n => contracts tiL_ok (by kernel_rfl) (fnOk_all (List.forall_mem_cons.2 ⟨fnOk_tm (E := ⟨tiTab tiL, [(23, sg23)], 0, 0, false, false, [], []⟩) Tryz.func144 (by kernel_rfl) (tm := tm23) (by kernel_rfl) (by kernel_rfl), List.forall_mem_nil _⟩)) n 23 sg23 (by simp)
def ren23 : Go.Shelf.Ren := ⟨fun | 41 => 144 | n => n, fun | 4 => 4 | 22 => 26 | 23 => 3 | n => n, fun n => n⟩
theorem lays23 : Go.Proofs.SlLaysE0.n41 Tryz.prog ren23 := { mixed := by kernel_rfl, f41 := ⟨Tryz.f144.name, by kernel_rfl, Tryz.func144.trans (congrArg some (by kernel_rfl))⟩, t4 := Tryz.underlying4, a4 := Tryz.isAgg4, z4 := Tryz.sizeOf4, v4 := Tryz.zeroValue4, t22 := Tryz.underlying26, a22 := Tryz.isAgg26, z22 := Tryz.sizeOf26, v22 := Tryz.zeroValue26 }
noncomputable def ex23 : List D → Option (List D) := cloneE 1 (entTab [(23, .tm tm23)]) 23

noncomputable def T : Nat → Ent := entTab [(0, .tm tm0), (1, .tm tm1), (2, .tm tm2), (3, .tm tm3), (4, .tm tm4), (5, .tm tm5), (6, .tm tm6), (7, .tm tm7), (8, .tm tm8), (9, .tm tm9), (10, .tm tm10), (11, .tm tm11), (12, .tm tm12), (13, .tm tm13), (14, .tm tm14), (15, .tm tm15), (16, .tm tm16), (17, .tm tm17), (18, .tm tm18), (19, .tm tm19), (20, .tm tm20), (21, .tm tm21), (22, .tm tm22), (23, .ext ex23), (24, .tm tm24), (25, .tm tm25), (26, .tm tm26), (27, .tm tm27), (28, .tm tm28), (29, .tm tm29), (30, .tm tm30), (31, .tm tm31), (32, .tm tm32), (33, .tm tm33), (34, .tm tm34), (35, .tm tm35), (36, .tm tm36), (37, .tm tm37), (38, .tm tm38), (39, .tm tm39), (40, .ext fmtE), (43, .ext joinE), (48, .tm tm48), (49, .tm tm49), (50, .tm tm50), (51, .tm tm51), (52, .tm tm52), (53, .tm tm53), (54, .tm tm54), (55, .tm tm55), (56, .tm tm56), (57, .tm tm57), (58, .tm tm58), (59, .tm tm59), (60, .tm tm60), (61, .tm tm61), (62, .tm tm62), (63, .tm tm63), (64, .tm tm64), (65, .tm tm65), (66, .tm tm66), (67, .tm tm67), (68, .tm tm68), (69, .tm tm69), (70, .tm tm70), (71, .tm tm71), (72, .tm tm72), (73, .tm tm73), (74, .tm tm74), (75, .tm tm75), (76, .ext cntE), (77, .tm tm77), (78, .tm tm78), (79, .tm tm79), (80, .ext ixE), (81, .tm tm81), (82, .tm tm82), (83, .tm tm83), (84, .tm tm84), (85, .tm tm85), (86, .tm tm86), (87, .tm tm87), (88, .tm tm88), (89, .tm tm89), (90, .tm tm90), (91, .tm tm91), (92, .tm tm92), (93, .tm tm93), (94, .tm tm94), (95, .tm tm95), (96, .tm tm96), (97, .tm tm97), (98, .tm tm98), (99, .tm tm99), (100, .tm tm100), (101, .tm tm101), (102, .tm tm102), (103, .tm tm103)]
abbrev K := FnOk Tryz.prog T (tiTab tiL) sigs
theorem o23 : FnOk Tryz.prog T (tiTab tiL) sigs 23 sg23 := clone_ent (m := 98) lays23 rfl (by kernel_rfl) Tryz.sizeOf3 cl23 rfl
theorem o76 : K 76 sg76 := cnt_ent (fun s c w => by rw [run_callFunc_extern Tryz.func160 (by kernel_rfl) (by kernel_rfl) (by kernel_rfl) (e := Extern.BytealgCount.count) (by kernel_rfl), Lib.run_countString]; rfl) rfl
theorem o80 : K 80 sg80 := ix_ent (fun s c w => by rw [run_callFunc_extern Tryz.func180 (by kernel_rfl) (by kernel_rfl) (by kernel_rfl) (e := Extern.BytealgIndexByte.indexByte) (by kernel_rfl), Lib.run_indexByteString]; rfl) rfl
def Tryz.lays156_ren : Go.Shelf.Ren := ⟨fun | 156 => 156 | 165 => 164 | 166 => 165 | 169 => 166 | 240 => 174 | 241 => 175 | 276 => 182 | 277 => 183 | n => n, fun | 31 => 53 | 9 => 9 | 3 => 3 | 4 => 4 | 0 => 0 | 20 => 20 | 72 => 166 | 76 => 170 | 70 => 164 | 37 => 22 | 75 => 169 | 127 => 175 | 164 => 188 | 5 => 5 | 80 => 172 | n => n, fun | n => n⟩
theorem Tryz.lays156 : Go.Proofs.Lays.n156 Tryz.prog Tryz.lays156_ren := {
  mixed := by kernel_rfl
  f156 := Tryz.func156.trans (congrArg some (by kernel_rfl))
  f165 := Tryz.func164.trans (congrArg some (by kernel_rfl))
  f166 := Tryz.func165.trans (congrArg some (by kernel_rfl))
  f169 := Tryz.func166.trans (congrArg some (by kernel_rfl))
  f240 := Tryz.func174.trans (congrArg some (by kernel_rfl))
  f241 := Tryz.func175.trans (congrArg some (by kernel_rfl))
  f276 := Tryz.func182.trans (congrArg some (by kernel_rfl))
  f277 := Tryz.func183.trans (congrArg some (by kernel_rfl))
  t0 := Tryz.underlying0
  a0 := Tryz.isAgg0
  z0 := Tryz.sizeOf0
  v0 := Tryz.zeroValue0
  t3 := Tryz.underlying3
  a3 := Tryz.isAgg3
  z3 := Tryz.sizeOf3
  v3 := Tryz.zeroValue3
  t4 := Tryz.underlying4
  a4 := Tryz.isAgg4
  z4 := Tryz.sizeOf4
  v4 := Tryz.zeroValue4
  t9 := Tryz.underlying9
  a9 := Tryz.isAgg9
  z9 := Tryz.sizeOf9
  v9 := Tryz.zeroValue9
  t20 := Tryz.underlying20
  a20 := Tryz.isAgg20
  z20 := Tryz.sizeOf20
  v20 := Tryz.zeroValue20
  t31 := Tryz.underlying53
  a31 := Tryz.isAgg53
  z31 := Tryz.sizeOf53
  v31 := Tryz.zeroValue53
  t37 := Tryz.underlying22
  a37 := Tryz.isAgg22
  z37 := Tryz.sizeOf22
  v37 := Tryz.zeroValue22
  t70 := Tryz.underlying164
  a70 := Tryz.isAgg164
  z70 := Tryz.sizeOf164
  v70 := Tryz.zeroValue164
  t72 := Tryz.underlying166
  a72 := Tryz.isAgg166
  z72 := Tryz.sizeOf166
  v72 := Tryz.zeroValue166
  t75 := Tryz.underlying169
  a75 := Tryz.isAgg169
  z75 := Tryz.sizeOf169
  v75 := Tryz.zeroValue169
  t76 := Tryz.underlying170
  a76 := Tryz.isAgg170
  z76 := Tryz.sizeOf170
  v76 := Tryz.zeroValue170
  t127 := Tryz.underlying175
  a127 := Tryz.isAgg175
  z127 := Tryz.sizeOf175
  v127 := Tryz.zeroValue175
  t164 := Tryz.underlying188
  a164 := Tryz.isAgg188
  z164 := Tryz.sizeOf188
  v164 := Tryz.zeroValue188 }
theorem extra : Go.Proofs.Builder.Extra Tryz.prog Tryz.lays156_ren := { sizeBuilder := by kernel_rfl, liesBuilder := by kernel_rfl, t5 := Tryz.underlying5, a5 := Tryz.isAgg5, z5 := Tryz.sizeOf5, v5 := Tryz.zeroValue5, infoByte := by kernel_rfl, cellsByte := by kernel_rfl, sizeByte := by kernel_rfl, neB5 := by decide }
theorem o43 : K 43 sg43 := .inr ⟨joinE, rfl, join_ok Tryz.lays156 extra⟩
def Tryz.laysM246_ren : Go.Shelf.Ren := ⟨fun | 246 => 167 | 283 => 176 | 284 => 177 | 285 => 178 | 286 => 179 | 129 => 185 | 317 => 184 | 318 => 186 | 319 => 187 | 320 => 188 | 337 => 189 | 338 => 190 | n => n, fun | 2 => 2 | 3 => 3 | 9 => 9 | 4 => 4 | 171 => 176 | 0 => 0 | 53 => 97 | 37 => 22 | 5 => 5 | 173 => 179 | 212 => 192 | 51 => 185 | 20 => 20 | 213 => 193 | 46 => 152 | 232 => 196 | 233 => 197 | n => n, fun | 17 => 3 | 18 => 4 | 19 => 5 | n => n⟩
theorem Tryz.laysM246 : Go.Proofs.LaysM.n246 Tryz.prog Tryz.laysM246_ren := {
  mixed := by kernel_rfl
  f129 := Tryz.func185.trans (congrArg some (by kernel_rfl))
  f246 := Tryz.func167.trans (congrArg some (by kernel_rfl))
  f283 := Tryz.func176.trans (congrArg some (by kernel_rfl))
  f284 := Tryz.func177.trans (congrArg some (by kernel_rfl))
  f285 := Tryz.func178.trans (congrArg some (by kernel_rfl))
  f286 := Tryz.func179.trans (congrArg some (by kernel_rfl))
  f317 := Tryz.func184.trans (congrArg some (by kernel_rfl))
  f318 := Tryz.func186.trans (congrArg some (by kernel_rfl))
  f319 := Tryz.func187.trans (congrArg some (by kernel_rfl))
  f320 := Tryz.func188.trans (congrArg some (by kernel_rfl))
  f337 := Tryz.func189.trans (congrArg some (by kernel_rfl))
  f338 := Tryz.func190.trans (congrArg some (by kernel_rfl))
  t0 := Tryz.underlying0
  a0 := Tryz.isAgg0
  z0 := Tryz.sizeOf0
  v0 := Tryz.zeroValue0
  t2 := Tryz.underlying2
  a2 := Tryz.isAgg2
  z2 := Tryz.sizeOf2
  v2 := Tryz.zeroValue2
  t3 := Tryz.underlying3
  a3 := Tryz.isAgg3
  z3 := Tryz.sizeOf3
  v3 := Tryz.zeroValue3
  t4 := Tryz.underlying4
  a4 := Tryz.isAgg4
  z4 := Tryz.sizeOf4
  v4 := Tryz.zeroValue4
  t5 := Tryz.underlying5
  a5 := Tryz.isAgg5
  z5 := Tryz.sizeOf5
  v5 := Tryz.zeroValue5
  t9 := Tryz.underlying9
  a9 := Tryz.isAgg9
  z9 := Tryz.sizeOf9
  v9 := Tryz.zeroValue9
  t20 := Tryz.underlying20
  a20 := Tryz.isAgg20
  z20 := Tryz.sizeOf20
  v20 := Tryz.zeroValue20
  t37 := Tryz.underlying22
  a37 := Tryz.isAgg22
  z37 := Tryz.sizeOf22
  v37 := Tryz.zeroValue22
  t46 := Tryz.underlying152
  a46 := Tryz.isAgg152
  z46 := Tryz.sizeOf152
  v46 := Tryz.zeroValue152
  t51 := Tryz.underlying185
  a51 := Tryz.isAgg185
  z51 := Tryz.sizeOf185
  v51 := Tryz.zeroValue185
  t53 := Tryz.underlying97
  a53 := Tryz.isAgg97
  z53 := Tryz.sizeOf97
  v53 := Tryz.zeroValue97
  t171 := Tryz.underlying176
  a171 := Tryz.isAgg176
  z171 := Tryz.sizeOf176
  v171 := Tryz.zeroValue176
  t173 := Tryz.underlying179
  a173 := Tryz.isAgg179
  z173 := Tryz.sizeOf179
  v173 := Tryz.zeroValue179
  t212 := Tryz.underlying192
  a212 := Tryz.isAgg192
  z212 := Tryz.sizeOf192
  v212 := Tryz.zeroValue192
  t213 := Tryz.underlying193
  a213 := Tryz.isAgg193
  z213 := Tryz.sizeOf193
  t232 := Tryz.underlying196
  a232 := Tryz.isAgg196
  z232 := Tryz.sizeOf196
  v232 := Tryz.zeroValue196
  t233 := Tryz.underlying197
  a233 := Tryz.isAgg197
  z233 := Tryz.sizeOf197
  v233 := Tryz.zeroValue197
  g17 := by kernel_rfl
  g18 := by kernel_rfl
  g19 := by kernel_rfl
  i0 := by kernel_rfl
  i2 := by kernel_rfl
  i3 := by kernel_rfl
  i4 := by kernel_rfl
  i5 := by kernel_rfl
  i9 := by kernel_rfl
  i20 := by kernel_rfl
  i37 := by kernel_rfl
  i46 := by kernel_rfl
  i51 := by kernel_rfl
  i53 := by kernel_rfl
  i171 := by kernel_rfl
  i173 := by kernel_rfl
  i212 := by kernel_rfl
  i232 := by kernel_rfl
  i233 := by kernel_rfl
  m17 := by kernel_rfl
  m18 := by kernel_rfl
  m19 := by kernel_rfl }
theorem o40 : FnOkX Tryz.prog (pow10X Tryz.prog) T (tiTab tiL) sigs 40 sg40 := .inr ⟨fmtE, rfl, fmt_ok Tryz.laysM246⟩
theorem pow_of {W : World} {l : List (String × DataW Unit)} (h : laidMet Tryz.prog l W) (hm : (tabName, Lib.tabData .u64 Lib.pow10Tab) ∈ l) : pow10X Tryz.prog (fun _ => .frz) W := pow10_of (g := 3) (t := 192) (by kernel_rfl) (by kernel_rfl) Tryz.underlying192 Tryz.underlying97 (by kernel_rfl) (by kernel_rfl) h hm
theorem o0 : K 0 sg0 := fnK (E := E0) (tm := tm0) Tryz.func3 (by kernel_rfl)
theorem o1 : K 1 sg1 := fnK (E := E0) (tm := tm1) Tryz.func6 (by kernel_rfl)
theorem o2 : K 2 sg2 := fnK (E := E0) (tm := tm2) Tryz.func7 (by kernel_rfl)
theorem o3 : K 3 sg3 := fnK (E := E0) (tm := tm3) Tryz.func48 (by kernel_rfl)
theorem o4 : K 4 sg4 := fnK (E := E0) (tm := tm4) Tryz.func107 (by kernel_rfl)
theorem o5 : K 5 sg5 := fnK (E := E0) (tm := tm5) Tryz.func105 (by kernel_rfl)
theorem o6 : K 6 sg6 := fnK (E := E0) (tm := tm6) Tryz.func85 (by kernel_rfl)
theorem o7 : K 7 sg7 := fnK (E := E0) (tm := tm7) Tryz.func127 (by kernel_rfl)
theorem o8 : K 8 sg8 := fnK (E := E0) (tm := tm8) Tryz.func108 (by kernel_rfl)
theorem o9 : K 9 sg9 := fnK (E := E0) (tm := tm9) Tryz.func139 (by kernel_rfl)
theorem o10 : K 10 sg10 := fnK (E := E0) (tm := tm10) Tryz.func69 (by kernel_rfl)
theorem o11 : K 11 sg11 := fnK (E := E0) (tm := tm11) Tryz.func129 (by kernel_rfl)
theorem o12 : K 12 sg12 := fnK (E := E0) (tm := tm12) Tryz.func78 (by kernel_rfl)
theorem o13 : K 13 sg13 := fnK (E := E0) (tm := tm13) Tryz.func140 (by kernel_rfl)
theorem o14 : K 14 sg14 := fnK (E := E0) (tm := tm14) Tryz.func103 (by kernel_rfl)
theorem o15 : K 15 sg15 := fnK (E := E0) (tm := tm15) Tryz.func141 (by kernel_rfl)
theorem o16 : K 16 sg16 := fnK (E := E0) (tm := tm16) Tryz.func8 (by kernel_rfl)
theorem o17 : K 17 sg17 := fnK (E := E0) (tm := tm17) Tryz.func10 (by kernel_rfl)
theorem o18 : K 18 sg18 := fnK (E := E0) (tm := tm18) Tryz.func54 (by kernel_rfl)
theorem o19 : K 19 sg19 := fnK (E := E0) (tm := tm19) Tryz.func55 (by kernel_rfl)
theorem o20 : K 20 sg20 := fnK (E := E0) (tm := tm20) Tryz.func71 (by kernel_rfl)
theorem o21 : K 21 sg21 := fnK (E := E0) (tm := tm21) Tryz.func57 (by kernel_rfl)
theorem o22 : K 22 sg22 := fnK (E := E0) (tm := tm22) Tryz.func113 (by kernel_rfl)
theorem o24 : K 24 sg24 := fnK (E := E0) (tm := tm24) Tryz.func56 (by kernel_rfl)
theorem o25 : K 25 sg25 := fnK (E := E0) (tm := tm25) Tryz.func58 (by kernel_rfl)
theorem o26 : K 26 sg26 := fnK (E := E0) (tm := tm26) Tryz.func114 (by kernel_rfl)
theorem o27 : K 27 sg27 := fnK (E := E0) (tm := tm27) Tryz.func59 (by kernel_rfl)
theorem o28 : K 28 sg28 := fnK (E := E0) (tm := tm28) Tryz.func115 (by kernel_rfl)
theorem o29 : K 29 sg29 := fnK (E := E0) (tm := tm29) Tryz.func145 (by kernel_rfl)
theorem o30 : K 30 sg30 := fnK (E := E0) (tm := tm30) Tryz.func116 (by kernel_rfl)
theorem o31 : K 31 sg31 := fnK (E := E0) (tm := tm31) Tryz.func61 (by kernel_rfl)
theorem o32 : K 32 sg32 := fnK (E := E0) (tm := tm32) Tryz.func60 (by kernel_rfl)
theorem o33 : K 33 sg33 := fnK (E := E0) (tm := tm33) Tryz.func117 (by kernel_rfl)
theorem o34 : K 34 sg34 := fnK (E := E0) (tm := tm34) Tryz.func49 (by kernel_rfl)
theorem o35 : K 35 sg35 := fnK (E := E0) (tm := tm35) Tryz.func73 (by kernel_rfl)
theorem o36 : K 36 sg36 := fnK (E := E0) (tm := tm36) Tryz.func109 (by kernel_rfl)
theorem o37 : K 37 sg37 := fnK (E := E0) (tm := tm37) Tryz.func142 (by kernel_rfl)
theorem o38 : K 38 sg38 := fnK (E := E0) (tm := tm38) Tryz.func143 (by kernel_rfl)
theorem o39 : K 39 sg39 := fnK (E := E0) (tm := tm39) Tryz.func157 (by kernel_rfl)
theorem o48 : K 48 sg48 := fnK (E := E0) (tm := tm48) Tryz.func110 (by kernel_rfl)
theorem o49 : K 49 sg49 := fnK (E := E0) (tm := tm49) Tryz.func111 (by kernel_rfl)
theorem o50 : K 50 sg50 := fnK (E := E0) (tm := tm50) Tryz.func9 (by kernel_rfl)
theorem o51 : K 51 sg51 := fnK (E := E0) (tm := tm51) Tryz.func11 (by kernel_rfl)
theorem o52 : K 52 sg52 := fnK (E := E0) (tm := tm52) Tryz.func62 (by kernel_rfl)
theorem o53 : K 53 sg53 := fnK (E := E0) (tm := tm53) Tryz.func63 (by kernel_rfl)
theorem o54 : K 54 sg54 := fnK (E := E0) (tm := tm54) Tryz.func64 (by kernel_rfl)
theorem o55 : K 55 sg55 := fnK (E := E0) (tm := tm55) Tryz.func65 (by kernel_rfl)
theorem o56 : K 56 sg56 := fnK (E := E0) (tm := tm56) Tryz.func68 (by kernel_rfl)
theorem o57 : K 57 sg57 := fnK (E := E0) (tm := tm57) Tryz.func120 (by kernel_rfl)
theorem o58 : K 58 sg58 := fnK (E := E0) (tm := tm58) Tryz.func67 (by kernel_rfl)
theorem o59 : K 59 sg59 := fnK (E := E0) (tm := tm59) Tryz.func119 (by kernel_rfl)
theorem o60 : K 60 sg60 := fnK (E := E0) (tm := tm60) Tryz.func146 (by kernel_rfl)
theorem o61 : K 61 sg61 := fnK (E := E0) (tm := tm61) Tryz.func66 (by kernel_rfl)
theorem o62 : K 62 sg62 := fnK (E := E0) (tm := tm62) Tryz.func118 (by kernel_rfl)
theorem o63 : K 63 sg63 := fnK (E := E0) (tm := tm63) Tryz.func50 (by kernel_rfl)
theorem o64 : K 64 sg64 := fnK (E := E0) (tm := tm64) Tryz.func51 (by kernel_rfl)
theorem o65 : K 65 sg65 := fnK (E := E0) (tm := tm65) Tryz.func52 (by kernel_rfl)
theorem o66 : K 66 sg66 := fnK (E := E0) (tm := tm66) Tryz.func53 (by kernel_rfl)
theorem o67 : K 67 sg67 := fnK (E := E0) (tm := tm67) Tryz.func112 (by kernel_rfl)
theorem o68 : K 68 sg68 := fnK (E := E0) (tm := tm68) Tryz.func12 (by kernel_rfl)
theorem o69 : K 69 sg69 := fnK (E := E0) (tm := tm69) Tryz.func70 (by kernel_rfl)
theorem o70 : K 70 sg70 := fnK (E := E0) (tm := tm70) Tryz.func121 (by kernel_rfl)
theorem o71 : K 71 sg71 := fnK (E := E0) (tm := tm71) Tryz.func147 (by kernel_rfl)
theorem o72 : K 72 sg72 := fnK (E := E0) (tm := tm72) Tryz.func158 (by kernel_rfl)
theorem o73 : K 73 sg73 := fnK (E := E0) (tm := tm73) Tryz.func159 (by kernel_rfl)
theorem o74 : K 74 sg74 := fnK (E := E0) (tm := tm74) Tryz.func168 (by kernel_rfl)
theorem o75 : K 75 sg75 := fnK (E := E0) (tm := tm75) Tryz.func148 (by kernel_rfl)
theorem o77 : K 77 sg77 := fnK (E := E0) (tm := tm77) Tryz.func149 (by kernel_rfl)
theorem o78 : K 78 sg78 := fnK (E := E0) (tm := tm78) Tryz.func161 (by kernel_rfl)
theorem o79 : K 79 sg79 := fnK (E := E0) (tm := tm79) Tryz.func169 (by kernel_rfl)
theorem o81 : K 81 sg81 := fnK (E := E0) (tm := tm81) Tryz.func72 (by kernel_rfl)
theorem o82 : K 82 sg82 := fnK (E := E0) (tm := tm82) Tryz.func74 (by kernel_rfl)
theorem o83 : K 83 sg83 := fnK (E := E0) (tm := tm83) Tryz.func122 (by kernel_rfl)
theorem o84 : K 84 sg84 := fnK (E := E0) (tm := tm84) Tryz.func75 (by kernel_rfl)
theorem o85 : K 85 sg85 := fnK (E := E0) (tm := tm85) Tryz.func76 (by kernel_rfl)
theorem o86 : K 86 sg86 := fnK (E := E0) (tm := tm86) Tryz.func123 (by kernel_rfl)
theorem o87 : K 87 sg87 := fnK (E := E0) (tm := tm87) Tryz.func150 (by kernel_rfl)
theorem o88 : K 88 sg88 := fnK (E := E0) (tm := tm88) Tryz.func13 (by kernel_rfl)
theorem o89 : K 89 sg89 := fnK (E := E0) (tm := tm89) Tryz.func77 (by kernel_rfl)
theorem o90 : K 90 sg90 := fnK (E := E0) (tm := tm90) Tryz.func124 (by kernel_rfl)
theorem o91 : K 91 sg91 := fnK (E := E0) (tm := tm91) Tryz.func14 (by kernel_rfl)
theorem o92 : K 92 sg92 := fnK (E := E0) (tm := tm92) Tryz.func15 (by kernel_rfl)
theorem o93 : K 93 sg93 := fnK (E := E0) (tm := tm93) Tryz.func79 (by kernel_rfl)
theorem o94 : K 94 sg94 := fnK (E := ⟨tiTab tiL, sigs, 0, 0, false, false, [], [(7, [(27, 0, 0, 0), (111, 0, 0, 0)], [0, 12, 21, 24, 27, 105, 108, 111, 1], 616, [193, 817, 961]), (16, [(36, 0, 2, 99), (192, 0, 0, 0)], [0, 12, 21, 27, 36, 186, 189, 192, 1], 384, [1, 4, 7, 10, 13, 16, 19, 22, 25, 28, 31, 34, 37, 40, 43, 46, 49, 52, 55, 58, 61, 64, 67, 70, 73, 76, 79, 82, 85, 88, 91, 94, 97, 100, 103, 106, 109, 112, 115, 118, 121, 124, 127, 130, 133, 136, 139, 142, 145, 148, 151, 154, 157, 160, 163, 166, 169, 172, 175, 178, 181, 184, 187, 190, 193, 196, 199, 202, 205, 208, 211, 214, 217, 220, 223, 226, 229, 232, 235, 238, 241, 244, 247, 250, 253, 256, 259, 262, 265, 268, 271, 274, 277, 280, 283, 286, 289, 292, 295, 298, 301, 304, 307, 310, 313, 316, 319, 322, 325, 328, 331, 334, 337, 340, 343, 346, 349, 352, 355, 358, 361, 364, 367, 370, 373, 376, 379, 382, 385, 388, 391, 394, 397, 400, 403, 406, 409, 412, 415, 418, 421, 424, 427, 430, 433, 436, 439, 442, 445, 448, 451, 454, 457, 460, 463, 466, 469, 472, 475, 478, 481, 484, 487, 490, 493, 496, 499, 502, 505, 508, 511, 514, 517, 520, 523, 526, 529, 532, 535, 538, 541, 544, 547, 550, 553, 556, 559, 562, 565, 568, 571, 574, 577, 580, 583, 586, 589, 592, 595, 598, 601, 604, 607, 610, 613, 616, 619, 622, 625, 628, 631, 634, 637, 640, 643, 646, 649, 652, 655, 658, 661, 664, 667, 670, 673, 676, 679, 682, 685, 688, 691, 694, 697, 700, 703, 706, 709, 712, 715, 718, 721, 724, 727, 730, 733, 736, 739, 742, 745, 748, 751, 754, 757, 760, 763, 766, 769, 772, 775, 778, 781, 784, 787, 790, 793, 796, 799, 802, 805, 808, 811, 814, 817, 820, 823, 826, 829, 832, 835, 838, 841, 844, 847, 850, 853, 856, 859, 862, 865, 868, 871, 874, 877, 880, 883, 886, 889, 892, 895, 898, 901, 904, 907, 910, 913, 916, 919, 922, 925, 928, 931, 934, 937, 940, 943, 946, 949, 952, 955, 958, 961, 964, 967, 970, 973, 976, 979, 982, 985, 988, 991, 994, 997, 1000, 1003, 1006, 1009, 1012, 1015, 1018, 1021, 1024, 1027, 1030, 1033, 1036, 1039, 1042, 1045, 1048, 1051, 1054, 1057, 1060, 1063, 1066, 1069, 1072, 1075, 1078, 1081, 1084, 1087, 1090, 1093, 1096, 1099, 1102])]⟩) (tm := tm94) Tryz.func16 (by kernel_rfl)
theorem o95 : K 95 sg95 := fnK (E := E0) (tm := tm95) Tryz.func80 (by kernel_rfl)
theorem o96 : K 96 sg96 := fnK (E := E0) (tm := tm96) Tryz.func81 (by kernel_rfl)
theorem o97 : K 97 sg97 := fnK (E := E0) (tm := tm97) Tryz.func82 (by kernel_rfl)
theorem o98 : K 98 sg98 := fnK (E := E0) (tm := tm98) Tryz.func83 (by kernel_rfl)
theorem o99 : K 99 sg99 := fnK (E := E0) (tm := tm99) Tryz.func125 (by kernel_rfl)
theorem o100 : K 100 sg100 := fnK (E := E0) (tm := tm100) Tryz.func17 (by kernel_rfl)
theorem o101 : K 101 sg101 := fnK (E := E0) (tm := tm101) Tryz.func84 (by kernel_rfl)
theorem o102 : K 102 sg102 := fnK (E := E0) (tm := tm102) Tryz.func126 (by kernel_rfl)
theorem o103 : K 103 sg103 := fnK (E := E0) (tm := tm103) Tryz.func18 (by kernel_rfl)
theorem fns_ok : ∀ key s, (key, s) ∈ sigs → FnOkX Tryz.prog (pow10X Tryz.prog) T (tiTab tiL) sigs key s := fnOkX_all (fcX o0 <| fcX o1 <| fcX o2 <| fcX o3 <| fcX o4 <| fcX o5 <| fcX o6 <| fcX o7 <| fcX o8 <| fcX o9 <| fcX o10 <| fcX o11 <| fcX o12 <| fcX o13 <| fcX o14 <| fcX o15 <| fcX o16 <| fcX o17 <| fcX o18 <| fcX o19 <| fcX o20 <| fcX o21 <| fcX o22 <| fcX o23 <| fcX o24 <| fcX o25 <| fcX o26 <| fcX o27 <| fcX o28 <| fcX o29 <| fcX o30 <| fcX o31 <| fcX o32 <| fcX o33 <| fcX o34 <| fcX o35 <| fcX o36 <| fcX o37 <| fcX o38 <| fcX o39 <| fc o40 <| fcX o43 <| fcX o48 <| fcX o49 <| fcX o50 <| fcX o51 <| fcX o52 <| fcX o53 <| fcX o54 <| fcX o55 <| fcX o56 <| fcX o57 <| fcX o58 <| fcX o59 <| fcX o60 <| fcX o61 <| fcX o62 <| fcX o63 <| fcX o64 <| fcX o65 <| fcX o66 <| fcX o67 <| fcX o68 <| fcX o69 <| fcX o70 <| fcX o71 <| fcX o72 <| fcX o73 <| fcX o74 <| fcX o75 <| fcX o76 <| fcX o77 <| fcX o78 <| fcX o79 <| fcX o80 <| fcX o81 <| fcX o82 <| fcX o83 <| fcX o84 <| fcX o85 <| fcX o86 <| fcX o87 <| fcX o88 <| fcX o89 <| fcX o90 <| fcX o91 <| fcX o92 <| fcX o93 <| fcX o94 <| fcX o95 <| fcX o96 <| fcX o97 <| fcX o98 <| fcX o99 <| fcX o100 <| fcX o101 <| fcX o102 <| fcX o103 <| fc0)
theorem contract : ∀ n, ContractX Tryz.prog (pow10X Tryz.prog) T n 0 sg0 := fun n => contractsX pow10X_stable tiL_ok (by kernel_rfl) fns_ok n 0 sg0 (by simp [sigs])
end FnMsgs
end Go.Proofs.YtdpfilpckndhcaaGreatDoor
