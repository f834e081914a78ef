/- The terms of the functions that FnExactReadyIn reaches (printed by the author's own program). -/
import Derived.Test.YtpgnlmfmlffjcaaGreatChecked
import Derived.Test.YtpgnlmfmlffjcaaGreatRf9
import Derived.KernelRfl
namespace Go.Proofs.YtpgnlmfmlffjcaaGreat
namespace FnExactReadyIn
open Go Go.Proofs.YtpgnlmfmlffjcaaGreat.Rf
set_option maxRecDepth 100000

def t3 : TI := ⟨false, 1, 8, [.sc (.int .i64 0)], [], none, (some .i64), false, false, false, false⟩
theorem ti3 : tiOf Tryz.prog 3 = some t3 := by kernel_rfl
def t4 : TI := ⟨false, 1, 1, [.sc (.bool false)], [], none, none, true, false, false, false⟩
theorem ti4 : tiOf Tryz.prog 4 = some t4 := by kernel_rfl
def t22 : TI := ⟨false, 1, 24, [.sl 1], [], (some 119), none, false, false, false, false⟩
theorem ti22 : tiOf Tryz.prog 22 = some t22 := by kernel_rfl
def t24 : TI := ⟨true, 2, 32, [.sc (.int .i64 0), .sl 1], [(0, 3), (1, 22)], none, none, false, false, false, false⟩
theorem ti24 : tiOf Tryz.prog 24 = some t24 := by kernel_rfl
def t26 : TI := ⟨false, 1, 24, [.sl 1], [], (some 45), none, false, false, false, false⟩
theorem ti26 : tiOf Tryz.prog 26 = some t26 := by kernel_rfl
def t29 : TI := ⟨false, 1, 24, [.sl 1], [], (some 120), none, false, false, false, false⟩
theorem ti29 : tiOf Tryz.prog 29 = some t29 := by kernel_rfl
def t31 : TI := ⟨true, 2, 32, [.sc (.int .i64 0), .sl 1], [(0, 3), (1, 29)], none, none, false, false, false, false⟩
theorem ti31 : tiOf Tryz.prog 31 = some t31 := by kernel_rfl
def t45 : TI := ⟨false, 1, 24, [.sl 1], [], (some 3), none, false, false, false, false⟩
theorem ti45 : tiOf Tryz.prog 45 = some t45 := by kernel_rfl
def t48 : TI := ⟨true, 5, 40, [.sc (.int .i64 0), .sc (.int .i64 0), .sc (.int .i64 0), .sc (.int .i64 0), .sc (.int .i64 0)], [(0, 3), (1, 3), (2, 3), (3, 3), (4, 3)], none, none, false, false, false, true⟩
theorem ti48 : tiOf Tryz.prog 48 = some t48 := by kernel_rfl
def t50 : TI := ⟨true, 2, 32, [.sc (.int .i64 0), .sl 1], [(0, 3), (1, 45)], none, none, false, false, false, false⟩
theorem ti50 : tiOf Tryz.prog 50 = some t50 := by kernel_rfl
def t52 : TI := ⟨true, 10, 96, [.sc (.int .i64 0), .sc (.int .i64 0), .sc (.int .i64 0), .sc (.int .i64 0), .sc (.int .i64 0), .sc (.int .i64 0), .sc (.int .i64 0), .sc (.int .i64 0), .sc (.int .i64 0), .sl 1], [(0, 3), (1, 3), (2, 3), (3, 48), (8, 50)], none, none, false, false, false, false⟩
theorem ti52 : tiOf Tryz.prog 52 = some t52 := by kernel_rfl
def t119 : TI := ⟨false, 1, 24, [.sl 10], [], (some 166), none, false, false, false, false⟩
theorem ti119 : tiOf Tryz.prog 119 = some t119 := by kernel_rfl
def t120 : TI := ⟨false, 1, 24, [.sl 10], [], (some 52), none, false, false, false, false⟩
theorem ti120 : tiOf Tryz.prog 120 = some t120 := by kernel_rfl
def t163 : TI := ⟨true, 5, 40, [.sc (.int .i64 0), .sc (.int .i64 0), .sc (.int .i64 0), .sc (.int .i64 0), .sc (.int .i64 0)], [(0, 3), (1, 3), (2, 3), (3, 3), (4, 3)], none, none, false, false, false, true⟩
theorem ti163 : tiOf Tryz.prog 163 = some t163 := by kernel_rfl
def t164 : TI := ⟨true, 2, 32, [.sc (.int .i64 0), .sl 1], [(0, 3), (1, 45)], none, none, false, false, false, false⟩
theorem ti164 : tiOf Tryz.prog 164 = some t164 := by kernel_rfl
def t166 : TI := ⟨true, 10, 96, [.sc (.int .i64 0), .sc (.int .i64 0), .sc (.int .i64 0), .sc (.int .i64 0), .sc (.int .i64 0), .sc (.int .i64 0), .sc (.int .i64 0), .sc (.int .i64 0), .sc (.int .i64 0), .sl 1], [(0, 3), (1, 3), (2, 3), (3, 163), (8, 164)], none, none, false, false, false, false⟩
theorem ti166 : tiOf Tryz.prog 166 = some t166 := by kernel_rfl
def tiL : List (Nat × TI) := [(3, t3), (4, t4), (22, t22), (24, t24), (26, t26), (29, t29), (31, t31), (45, t45), (48, t48), (50, t50), (52, t52), (119, t119), (120, t120), (163, t163), (164, t164), (166, t166)]
theorem tiL_ok : TiOk Tryz.prog (tiTab tiL) := tiTab_ok (l := tiL) (fc ti3 <| fc ti4 <| fc ti22 <| fc ti24 <| fc ti26 <| fc ti29 <| fc ti31 <| fc ti45 <| fc ti48 <| fc ti50 <| fc ti52 <| fc ti119 <| fc ti120 <| fc ti163 <| fc ti164 <| fc ti166 <| fc0)

def sg0 : Sig := ⟨4, [(true, [.sc, .fz false])], [], [(false, [.sc])]⟩
def sg1 : Sig := ⟨10, [(true, [.sc, .fz false]), (false, [.sc])], [], [(false, [.sc])]⟩
def sg2 : Sig := ⟨53, [(false, [.fz false]), (false, [.sc])], [], [(false, [.sc])]⟩
def sg3 : Sig := ⟨94, [(false, [.fz false]), (false, [.sc])], [], [(false, [.sc])]⟩
def sg4 : Sig := ⟨151, [(true, [.sc, .sc, .sc, .sc, .sc, .sc, .sc, .sc, .sc, .fz false]), (false, [.sc])], [], [(false, [.sc])]⟩
def sg5 : Sig := ⟨184, [(true, [.sc, .fz false]), (false, [.sc])], [], [(false, [.sc])]⟩
def sg6 : Sig := ⟨212, [(false, [.fz false]), (false, [.sc])], [], [(false, [.sc])]⟩
def sg7 : Sig := ⟨12, [(true, [.sc, .fz false])], [], [(true, [.sc, .ow 99])]⟩
def sg8 : Sig := ⟨57, [(false, [.fz false])], [], [(false, [.ow 99])]⟩
def sg9 : Sig := ⟨100, [(false, [.fz false])], [], [(false, [.ow 99])]⟩
def sg10 : Sig := ⟨154, [(true, [.sc, .sc, .sc, .sc, .sc, .sc, .sc, .sc, .sc, .fz false])], [], [(true, [.sc, .sc, .sc, .sc, .sc, .sc, .sc, .sc, .sc, .ow 99])]⟩
def sg11 : Sig := ⟨186, [(true, [.sc, .sc, .sc, .sc, .sc])], [], [(true, [.sc, .sc, .sc, .sc, .sc])]⟩
def sg12 : Sig := ⟨187, [(true, [.sc, .fz false])], [], [(true, [.sc, .ow 99])]⟩
def sg13 : Sig := ⟨213, [(false, [.fz false])], [], [(false, [.ow 99])]⟩
def sg14 : Sig := ⟨19, [(true, [.sc, .fz false])], [], [(false, [.fz]), (false, [.sc])]⟩
def sg15 : Sig := ⟨64, [(true, [.sc, .fz false])], [], [(false, [.sc])]⟩
def sg16 : Sig := ⟨115, [(false, [.sc])], [], [(false, [.sc])]⟩
def sg17 : Sig := ⟨116, [(false, [.sc]), (true, [.sc, .sc, .sc, .sc, .sc, .sc, .sc, .sc, .sc, .fz false])], [], [(false, [.sc])]⟩
def sg18 : Sig := ⟨152, [(false, [.sc]), (false, [.sc]), (false, [.sc])], [], [(false, [.sc])]⟩
def sg19 : Sig := ⟨96, [(false, [.sc])], [], [(true, [.sc, .ow 99])]⟩
def sg20 : Sig := ⟨164, [(true, [.sc, .fz false]), (true, [.sc, .fz false])], [], [(false, [.sc])]⟩
def sg21 : Sig := ⟨142, [(false, [.fz false]), (false, [.fz false])], [], [(false, [.sc])]⟩
def sg22 : Sig := ⟨165, [(true, [.sc, .sc, .sc, .sc, .sc])], [], [(false, [.sc])]⟩
def sg23 : Sig := ⟨201, [(true, [.sc, .sc, .sc, .sc, .sc])], [], [(false, [.sc])]⟩
def sg24 : Sig := ⟨219, [(false, [.sc])], [], [(false, [.sc])]⟩
def sg25 : Sig := ⟨166, [(false, [.sc]), (true, [.sc, .fz false])], [], [(false, [.sc])]⟩
def sg26 : Sig := ⟨202, [(false, [.fz false]), (false, [.sc]), (false, [.sc])], [], [(false, [.sc])]⟩
def sg27 : Sig := ⟨65, [(true, [.sc, .fz false])], [], [(false, [.fz])]⟩
def sg28 : Sig := ⟨117, [(true, [.sc, .fz false])], [], [(false, [.ow 99])]⟩
def sg29 : Sig := ⟨56, [(true, [.sc, .fz false]), (false, [.sc]), (false, [.sc])], [], [(false, [.fz])]⟩
def sg30 : Sig := ⟨98, [(true, [.sc, .fz false]), (false, [.sc]), (false, [.sc])], [], [(false, [.ow 99])]⟩
def sg31 : Sig := ⟨55, [(true, [.sc, .fz false]), (false, [.sc]), (false, [.sc])], [], [(true, [.sc, .sc, .sc, .sc, .sc, .sc, .sc, .sc, .sc, .ow 99])]⟩
def sg32 : Sig := ⟨97, [(true, [.sc, .sc, .sc, .sc, .sc, .sc, .sc, .sc, .sc, .fz false])], [], [(true, [.sc, .sc, .sc, .sc, .sc, .sc, .sc, .sc, .sc, .ow 99])]⟩
def sg33 : Sig := ⟨153, [(true, [.sc, .fz false])], [], [(true, [.sc, .ow 99])]⟩
def sg34 : Sig := ⟨185, [(false, [.fz false])], [], [(false, [.ow 99])]⟩
def sg35 : Sig := ⟨88, [(false, [.fz false]), (false, [.fz false])], [], [(false, [.sc])]⟩
def sg36 : Sig := ⟨99, [(false, [.fz false]), (false, [.fz false])], [], [(false, [.fz])]⟩
def sg37 : Sig := ⟨20, [(true, [.sc, .fz false])], [], [(false, [.ow 99]), (false, [.sc])]⟩
def sg38 : Sig := ⟨58, [(true, [.sc, .fz false])], [], [(false, [.sc])]⟩
def sg39 : Sig := ⟨78, [(false, [.sc])], [], [(false, [.sc])]⟩
def sg40 : Sig := ⟨101, [(false, [.fz false]), (false, [.clo 102 [.px 0]])], [(true, [(.sc, .sc), (.fz false, .fz)])], [(false, [.sc])]⟩
def sg41 : Sig := ⟨155, [(false, [.fz false]), (false, [.clo 102 [.px 0]])], [(true, [(.sc, .sc), (.fz false, .fz)])], [(false, [.sc])]⟩
def sg42 : Sig := ⟨102, [(false, [.fz false]), (false, [.px 0])], [(true, [(.sc, .sc), (.fz false, .fz)])], [(false, [.sc])]⟩
def sg43 : Sig := ⟨103, [(false, [.fz false]), (false, [.clo 104 [.px 0]])], [(true, [(.sc, .sc), (.fz false, .fz)])], [(false, [.sc])]⟩
def sg44 : Sig := ⟨156, [(false, [.fz false]), (false, [.clo 104 [.px 0]])], [(true, [(.sc, .sc), (.fz false, .fz)])], [(false, [.sc])]⟩
def sg45 : Sig := ⟨104, [(true, [.sc, .sc, .sc, .sc, .sc, .sc, .sc, .sc, .sc, .fz false]), (false, [.px 0])], [(true, [(.sc, .sc), (.fz false, .fz)])], [(false, [.sc])]⟩
def sg46 : Sig := ⟨80, [(false, [.sc]), (true, [.sc, .sc, .sc, .sc, .sc, .sc, .sc, .sc, .sc, .fz false])], [], [(false, [.sc])]⟩
def sg47 : Sig := ⟨105, [(false, [.sc]), (false, [.sc]), (false, [.sc])], [], [(false, [.sc])]⟩
def sg48 : Sig := ⟨134, [(true, [.sc, .sc, .sc, .sc, .sc])], [], [(false, [.sc])]⟩
def sg49 : Sig := ⟨178, [(false, [.sc])], [], [(false, [.sc])]⟩
def sg50 : Sig := ⟨135, [(false, [.sc]), (true, [.sc, .fz false])], [], [(false, [.sc])]⟩
def sg51 : Sig := ⟨174, [(false, [.fz false]), (false, [.clo 179 []])], [], [(false, [.sc])]⟩
def sg52 : Sig := ⟨209, [(false, [.fz false]), (false, [.clo 179 []])], [], [(false, [.sc])]⟩
def sg53 : Sig := ⟨179, [(false, [.sc])], [], [(false, [.sc])]⟩
def sg54 : Sig := ⟨107, [(false, [.sc])], [], [(true, [.sc, .ow 99])]⟩
def sg55 : Sig := ⟨136, [(true, [.sc, .fz false]), (true, [.sc, .fz false])], [], [(false, [.sc])]⟩
def sg56 : Sig := ⟨123, [(false, [.fz false]), (false, [.fz false])], [], [(false, [.sc])]⟩
def sg57 : Sig := ⟨66, [(true, [.sc, .fz false])], [], [(false, [.ow 99])]⟩
def sg58 : Sig := ⟨73, [(true, [.sc, .fz false])], [], [(false, [.ow 99])]⟩
def sg59 : Sig := ⟨125, [(true, [.sc, .fz false]), (false, [.clo 126 [.px 0]])], [(false, [(.ow 99, .ow 99)])], []⟩
def sg60 : Sig := ⟨126, [(false, [.sc]), (false, [.sc]), (true, [.sc, .sc, .sc, .sc, .sc, .sc, .sc, .sc, .sc, .fz false]), (false, [.px 0])], [(false, [(.ow 99, .ow 99)])], []⟩
def sg61 : Sig := ⟨118, [(false, [.ow 99]), (false, [.clo 119 [.px 0]])], [(true, [(.sc, .sc), (.fz false, .fz)])], [(false, [.ow 99])]⟩
def sg62 : Sig := ⟨139, [(false, [.fz false]), (false, [.clo 119 [.px 0]])], [(true, [(.sc, .sc), (.fz false, .fz)])], [(false, [.sc])]⟩
def sg63 : Sig := ⟨119, [(false, [.fz false]), (false, [.px 0])], [(true, [(.sc, .sc), (.fz false, .fz)])], [(false, [.sc])]⟩
def sg64 : Sig := ⟨61, [(true, [.sc, .fz false]), (false, [.fz false])], [], [(false, [.fz])]⟩
def sg65 : Sig := ⟨60, [(true, [.sc, .fz false]), (false, [.sc]), (false, [.sc])], [], [(true, [.sc, .sc, .sc, .sc, .sc, .sc, .sc, .sc, .sc, .ow 99])]⟩
def sg66 : Sig := ⟨106, [(true, [.sc, .sc, .sc, .sc, .sc, .sc, .sc, .sc, .sc, .fz false])], [], [(true, [.sc, .sc, .sc, .sc, .sc, .sc, .sc, .sc, .sc, .ow 99])]⟩
def sg67 : Sig := ⟨157, [(true, [.sc, .fz false])], [], [(true, [.sc, .ow 99])]⟩
def sg68 : Sig := ⟨188, [(false, [.fz false])], [], [(false, [.ow 99])]⟩
def sg69 : Sig := ⟨108, [(true, [.sc, .fz false])], [], [(false, [.ow 99])]⟩
def sg70 : Sig := ⟨109, [(false, [.fz false]), (false, [.fz false])], [], [(false, [.sc])]⟩
def sg71 : Sig := ⟨158, [(false, [.fz false]), (false, [.clo 159 [.px 0]])], [(true, [(.fz false, .fz)])], [(false, [.sc])]⟩
def sg72 : Sig := ⟨139, [(false, [.fz false]), (false, [.clo 159 [.px 0]])], [(true, [(.fz false, .fz)])], [(false, [.sc])]⟩
def sg73 : Sig := ⟨159, [(false, [.fz false]), (false, [.px 0])], [(true, [(.fz false, .fz)])], [(false, [.sc])]⟩
def sg74 : Sig := ⟨110, [(false, [.mu 1]), (false, [.clo 111 []])], [], []⟩
def sg75 : Sig := ⟨14, [(false, [.fz false]), (false, [.fz false])], [], [(false, [.sc])]⟩
def sg76 : Sig := ⟨47, [(false, [.fz false]), (false, [.fz false])], [], [(false, [.sc])]⟩
def sg77 : Sig := ⟨15, [(true, [.sc, .fz false]), (true, [.sc, .fz false])], [], [(false, [.sc])]⟩
def sg78 : Sig := ⟨62, [(false, [.fz false]), (false, [.fz false])], [], [(false, [.sc])]⟩
def sg79 : Sig := ⟨113, [(false, [.fz false]), (false, [.fz false])], [], [(false, [.sc])]⟩
def sg80 : Sig := ⟨163, [(true, [.sc, .sc, .sc, .sc, .sc, .sc, .sc, .sc, .sc, .fz false]), (true, [.sc, .sc, .sc, .sc, .sc, .sc, .sc, .sc, .sc, .fz false])], [], [(false, [.sc])]⟩
def sg81 : Sig := ⟨150, [(true, [.sc, .sc, .sc, .sc, .sc]), (true, [.sc, .sc, .sc, .sc, .sc])], [], [(false, [.sc])]⟩
def sg82 : Sig := ⟨200, [(true, [.sc, .fz false]), (true, [.sc, .fz false])], [], [(false, [.sc])]⟩
def sg83 : Sig := ⟨16, [(true, [.sc, .mu 3]), (false, [.sc])], [], [(false, [.sc])]⟩
def sg84 : Sig := ⟨63, [(false, [.mu 3]), (false, [.sc])], [], [(false, [.sc])]⟩
def sg85 : Sig := ⟨114, [(false, [.mu 2]), (false, [.sc])], [], [(false, [.sc])]⟩
def sg86 : Sig := ⟨49, [(false, [.mu 1]), (false, [.sc])], [], [(false, [.sc])]⟩
def sg87 : Sig := ⟨17, [(false, [.mu 2]), (false, [.sc])], [], [(false, [.sc])]⟩
def sg88 : Sig := ⟨18, [(false, [.fz false]), (false, [.sc])], [], [(false, [.sc])]⟩
def sg89 : Sig := ⟨51, [(false, [.fz false]), (false, [.sc])], [], [(false, [.sc])]⟩
def sigs : List (Nat × Sig) := [(0, sg0), (1, sg1), (2, sg2), (3, sg3), (4, sg4), (5, sg5), (6, sg6), (7, sg7), (8, sg8), (9, sg9), (10, sg10), (11, sg11), (12, sg12), (13, sg13), (14, sg14), (15, sg15), (16, sg16), (17, sg17), (18, sg18), (19, sg19), (20, sg20), (21, sg21), (22, sg22), (23, sg23), (24, sg24), (25, sg25), (26, sg26), (27, sg27), (28, sg28), (29, sg29), (30, sg30), (31, sg31), (32, sg32), (33, sg33), (34, sg34), (35, sg35), (36, sg36), (37, sg37), (38, sg38), (39, sg39), (40, sg40), (41, sg41), (42, sg42), (43, sg43), (44, sg44), (45, sg45), (46, sg46), (47, sg47), (48, sg48), (49, sg49), (50, sg50), (51, sg51), (52, sg52), (53, sg53), (54, sg54), (55, sg55), (56, sg56), (57, sg57), (58, sg58), (59, sg59), (60, sg60), (61, sg61), (62, sg62), (63, sg63), (64, sg64), (65, sg65), (66, sg66), (67, sg67), (68, sg68), (69, sg69), (70, sg70), (71, sg71), (72, sg72), (73, sg73), (74, sg74), (75, sg75), (76, sg76), (77, sg77), (78, sg78), (79, sg79), (80, sg80), (81, sg81), (82, sg82), (83, sg83), (84, sg84), (85, sg85), (86, sg86), (87, sg87), (88, sg88), (89, sg89)]
abbrev E0 : Env := ⟨tiTab tiL, sigs, 0, 0, false, false, [], []⟩

def tm0 : Tm Unit :=
(.call none 1 [.v 0, .v 1, .c (.int .i64 1048576)] 1 [] <|
(.lt none (.bin .lss) [.v 2, .c (.int .i64 0)] 1 <|
(.ite (.v 3)
(.leaf .ret [.c (.bool true)] ())
(.call none 7 [.v 0, .v 1] 2 [] <|
(.call none 14 [.v 4, .v 5] 2 [] <|
(.call none 7 [.v 0, .v 1] 2 [] <|
(.call none 37 [.v 8, .v 9] 2 [] <|
(.lt none (.dep 99) [.v 10] 0 <|
(.call none 75 [.v 10, .v 6] 1 [] <|
(.lt none .not [.v 12] 1 <|
(.lt (some (.v 13, false)) .id [.v 11] 1 <|
(.lt (some (.v 13, false)) .id [.v 7] 1 <|
(.lt (some (.v 13, false)) (.eqb true) [.v 14, .v 15] 1 <|
(.lt none .pick [.v 13, .c (.bool true), .v 16] 1 <|
(.ite (.v 17)
(.leaf .ret [.c (.bool false)] ())
(.call none 7 [.v 0, .v 1] 2 [] <|
(.call none 77 [.v 8, .v 9, .v 18, .v 19] 1 [] <|
(.lt none .not [.v 20] 1 <|
(.ite (.v 21)
(.leaf .ret [.c (.bool false)] ())
(.call none 83 [.v 8, .v 9, .c (.int .i64 1)] 2 [] <|
(.lt none (.dep 3) [.v 23] 0 <|
(.lt none (.bin .lss) [.v 22, .c (.int .i64 0)] 1 <|
(.call (some (.v 24, false)) 75 [.v 10, .v 6] 1 [] <|
(.lt (some (.v 24, false)) .not [.v 25] 1 <|
(.lt none .pick [.v 24, .c (.bool true), .v 26] 1 <|
(.lt (some (.v 27, false)) .id [.v 11] 1 <|
(.lt (some (.v 27, false)) .id [.v 7] 1 <|
(.lt (some (.v 27, false)) (.eqb true) [.v 28, .v 29] 1 <|
(.lt none .pick [.v 27, .c (.bool true), .v 30] 1 <|
(.ite (.v 31)
(.leaf .ret [.c (.bool false)] ())
(.call none 87 [.v 10, .c (.int .i64 1)] 2 [] <|
(.lt none (.dep 2) [.v 33] 0 <|
(.call none 88 [.v 33, .c (.int .i64 1)] 1 [] <|
(.lt none (.bin .lss) [.v 34, .c (.int .i64 0)] 1 <|
(.ite (.v 35)
(.leaf .ret [.c (.bool false)] ())
(.lt none (.bin .neq) [.v 34, .v 32] 1 <|
(.ite (.v 36)
(.leaf .ret [.c (.bool false)] ())
(.call none 7 [.v 0, .v 1] 2 [] <|
(.call none 37 [.v 37, .v 38] 2 [] <|
(.lt none (.dep 99) [.v 39] 0 <|
(.call none 75 [.v 39, .v 6] 1 [] <|
(.lt none .not [.v 41] 1 <|
(.lt (some (.v 42, false)) .id [.v 40] 1 <|
(.lt (some (.v 42, false)) .id [.v 7] 1 <|
(.lt (some (.v 42, false)) (.eqb true) [.v 43, .v 44] 1 <|
(.lt none .pick [.v 42, .c (.bool true), .v 45] 1 <|
(.ite (.v 46)
(.leaf .ret [.c (.bool false)] ())
(.call none 88 [.v 33, .c (.int .i64 1)] 1 [] <|
(.lt none (.bin .lss) [.v 47, .c (.int .i64 0)] 1 <|
(.ite (.v 48)
(.leaf .ret [.c (.bool false)] ())
(.lt none (.bin .neq) [.v 47, .v 32] 1 <|
(.ite (.v 49)
(.leaf .ret [.c (.bool false)] ())
(.leaf .ret [.c (.bool true)] ())))))))))))))))))))))))))))))))))))))))))))))))))))))
def tm1 : Tm Unit :=
(.call none 2 [.v 1, .v 2] 1 [] <|
(.lt none (.bin .lss) [.v 3, .c (.int .i64 0)] 1 <|
(.ite (.v 4)
(.leaf .ret [.c (.int .i64 (-1))] ())
(.leaf .ret [.v 3] ()))))
def tm2 : Tm Unit :=
(.lt none .len [.v 0] 1 <|
(.lt none (.bin .sub) [.v 1, .v 2] 1 <|
(.lt none (.bin .lss) [.v 3, .c (.int .i64 0)] 1 <|
(.ite (.v 4)
(.leaf .ret [.c (.int .i64 (-1))] ())
(.bind 1
(.loop [.v 3, .c (.int .i64 0)]
(.lt none .len [.v 0] 1 <|
(.lt none (.bin .lss) [.v 6, .v 7] 1 <|
(.ite (.v 8)
(.lt none .inb [.v 0, .v 6] 0 <|
(.lt none (.row 1 0 [false]) [.v 0, .v 6] 1 <|
(.call none 3 [.v 9, .v 5] 1 [] <|
(.lt none (.bin .lss) [.v 10, .c (.int .i64 0)] 1 <|
(.ite (.v 11)
(.leaf .ret [.c (.int .i64 (-1))] ())
(.lt none (.bin .add) [.v 6, .c (.int .i64 1)] 1 <|
(.leaf .cont [.v 10, .v 12] ())))))))
(.leaf (.yield 1) [.v 5] ()))))) <|
(.leaf .ret [.v 5] ()))))))
def tm3 : Tm Unit :=
(.lt none .len [.v 0] 1 <|
(.lt none (.bin .sub) [.v 1, .v 2] 1 <|
(.lt none (.bin .lss) [.v 3, .c (.int .i64 0)] 1 <|
(.ite (.v 4)
(.leaf .ret [.c (.int .i64 (-1))] ())
(.bind 1
(.loop [.v 3, .c (.int .i64 0)]
(.lt none .len [.v 0] 1 <|
(.lt none (.bin .lss) [.v 6, .v 7] 1 <|
(.ite (.v 8)
(.lt none .inb [.v 0, .v 6] 0 <|
(.lt none (.row 10 0 [true, true, true, true, true, true, true, true, true, false]) [.v 0, .v 6] 10 <|
(.call none 4 [.v 9, .v 10, .v 11, .v 12, .v 13, .v 14, .v 15, .v 16, .v 17, .v 18, .v 5] 1 [] <|
(.lt none (.bin .lss) [.v 19, .c (.int .i64 0)] 1 <|
(.ite (.v 20)
(.leaf .ret [.c (.int .i64 (-1))] ())
(.lt none (.bin .add) [.v 6, .c (.int .i64 1)] 1 <|
(.leaf .cont [.v 19, .v 21] ())))))))
(.leaf (.yield 1) [.v 5] ()))))) <|
(.leaf .ret [.v 5] ()))))))
def tm4 : Tm Unit :=
(.call none 5 [.v 8, .v 9, .v 10] 1 [] <|
(.lt none (.bin .lss) [.v 11, .c (.int .i64 0)] 1 <|
(.ite (.v 12)
(.leaf .ret [.c (.int .i64 (-1))] ())
(.leaf .ret [.v 11] ()))))
def tm5 : Tm Unit :=
(.call none 6 [.v 1, .v 2] 1 [] <|
(.lt none (.bin .lss) [.v 3, .c (.int .i64 0)] 1 <|
(.ite (.v 4)
(.leaf .ret [.c (.int .i64 (-1))] ())
(.leaf .ret [.v 3] ()))))
def tm6 : Tm Unit :=
(.lt none .len [.v 0] 1 <|
(.lt none (.bin .sub) [.v 1, .v 2] 1 <|
(.lt none (.bin .lss) [.v 3, .c (.int .i64 0)] 1 <|
(.ite (.v 4)
(.leaf .ret [.c (.int .i64 (-1))] ())
(.leaf .ret [.v 3] ())))))
def tm7 : Tm Unit :=
(.call none 8 [.v 1] 1 [] <|
(.leaf .ret [.v 0, .v 2] ()))
def tm8 : Tm Unit :=
(.lt none .len [.v 0] 1 <|
(.lt none (.make 24 [(.rows 10 [])]) [.v 1] 1 <|
(.bind 1
(.loop [.v 2, .c (.int .i64 0)]
(.lt none .len [.v 0] 1 <|
(.lt none (.bin .lss) [.v 4, .v 5] 1 <|
(.ite (.v 6)
(.lt none .inb [.v 0, .v 4] 0 <|
(.lt none (.row 1 0 [false]) [.v 0, .v 4] 1 <|
(.call none 9 [.v 7] 1 [] <|
(.lt none .inb [.v 3, .v 4] 0 <|
(.lt none (.set 1 0 1) [.v 3, .v 4, .v 8] 1 <|
(.lt none (.bin .add) [.v 4, .c (.int .i64 1)] 1 <|
(.leaf .cont [.v 9, .v 10] ())))))))
(.leaf (.yield 1) [.v 3] ()))))) <|
(.leaf .ret [.v 3] ()))))
def tm9 : Tm Unit :=
(.lt none .len [.v 0] 1 <|
(.lt none (.make 96 [(.int .i64 0), (.int .i64 0), (.int .i64 0), (.int .i64 0), (.int .i64 0), (.int .i64 0), (.int .i64 0), (.int .i64 0), (.int .i64 0), (.rows 1 [])]) [.v 1] 1 <|
(.bind 1
(.loop [.v 2, .c (.int .i64 0)]
(.lt none .len [.v 0] 1 <|
(.lt none (.bin .lss) [.v 4, .v 5] 1 <|
(.ite (.v 6)
(.lt none .inb [.v 0, .v 4] 0 <|
(.lt none (.row 10 0 [true, true, true, true, true, true, true, true, true, false]) [.v 0, .v 4] 10 <|
(.call none 10 [.v 7, .v 8, .v 9, .v 10, .v 11, .v 12, .v 13, .v 14, .v 15, .v 16] 10 [] <|
(.lt none .inb [.v 3, .v 4] 0 <|
(.lt none (.set 10 0 10) [.v 3, .v 4, .v 17, .v 18, .v 19, .v 20, .v 21, .v 22, .v 23, .v 24, .v 25, .v 26] 1 <|
(.lt none (.bin .add) [.v 4, .c (.int .i64 1)] 1 <|
(.leaf .cont [.v 27, .v 28] ())))))))
(.leaf (.yield 1) [.v 3] ()))))) <|
(.leaf .ret [.v 3] ()))))
def tm10 : Tm Unit :=
(.call none 11 [.v 3, .v 4, .v 5, .v 6, .v 7] 5 [] <|
(.call none 12 [.v 8, .v 9] 2 [] <|
(.leaf .ret [.v 0, .v 1, .v 2, .v 10, .v 11, .v 12, .v 13, .v 14, .v 15, .v 16] ())))
def tm11 : Tm Unit :=
(.leaf .ret [.v 0, .v 1, .v 2, .v 3, .v 4] ())
def tm12 : Tm Unit :=
(.call none 13 [.v 1] 1 [] <|
(.leaf .ret [.v 0, .v 2] ()))
def tm13 : Tm Unit :=
(.lt none .len [.v 0] 1 <|
(.lt none (.make 8 [(.int .i64 0)]) [.v 1] 1 <|
(.bind 1
(.loop [.v 2, .c (.int .i64 0)]
(.lt none .len [.v 0] 1 <|
(.lt none (.bin .lss) [.v 4, .v 5] 1 <|
(.ite (.v 6)
(.lt none .inb [.v 0, .v 4] 0 <|
(.lt none (.row 1 0 [true]) [.v 0, .v 4] 1 <|
(.lt none .inb [.v 3, .v 4] 0 <|
(.lt none (.set 1 0 1) [.v 3, .v 4, .v 7] 1 <|
(.lt none (.bin .add) [.v 4, .c (.int .i64 1)] 1 <|
(.leaf .cont [.v 8, .v 9] ()))))))
(.leaf (.yield 1) [.v 3] ()))))) <|
(.leaf .ret [.v 3] ()))))
def tm14 : Tm Unit :=
(.call none 15 [.v 0, .v 1] 1 [] <|
(.lt none .not [.v 2] 1 <|
(.ite (.v 3)
(.leaf .ret [.c (.rows 1 []), .c (.bool false)] ())
(.call none 27 [.v 0, .v 1] 1 [] <|
(.leaf .ret [.v 4, .c (.bool true)] ())))))
def tm15 : Tm Unit :=
(.call none 16 [.v 0] 1 [] <|
(.lt none .not [.v 2] 1 <|
(.lt (some (.v 3, false)) .len [.v 1] 1 <|
(.lt (some (.v 3, false)) .id [.v 0] 1 <|
(.lt (some (.v 3, false)) (.bin .neq) [.v 4, .v 5] 1 <|
(.lt none .pick [.v 3, .c (.bool true), .v 6] 1 <|
(.ite (.v 7)
(.leaf .ret [.c (.bool false)] ())
(.lt none .len [.v 1] 1 <|
(.bind 1
(.loop [.c (.int .i64 0)]
(.lt none (.bin .lss) [.v 9, .v 8] 1 <|
(.ite (.v 10)
(.lt none .inb [.v 1, .v 9] 0 <|
(.lt none (.row 1 0 [false]) [.v 1, .v 9] 1 <|
(.lt none .len [.v 11] 1 <|
(.bind 3
(.loop [.c (.int .i64 0)]
(.lt none (.bin .lss) [.v 13, .v 12] 1 <|
(.ite (.v 14)
(.lt none .inb [.v 11, .v 13] 0 <|
(.lt none (.row 10 0 [true, true, true, true, true, true, true, true, true, false]) [.v 11, .v 13] 10 <|
(.call none 17 [.v 0, .v 15, .v 16, .v 17, .v 18, .v 19, .v 20, .v 21, .v 22, .v 23, .v 24] 1 [] <|
(.lt none .not [.v 25] 1 <|
(.ite (.v 26)
(.leaf .ret [.c (.bool false)] ())
(.lt none (.bin .add) [.v 13, .c (.int .i64 1)] 1 <|
(.leaf .cont [.v 27] ())))))))
(.leaf (.yield 3) [] ())))) <|
(.lt none .len [.v 11] 1 <|
(.lt none (.bin .gtr) [.v 13, .c (.int .i64 6)] 1 <|
(.ite (.v 14)
(.leaf .ret [.c (.bool false)] ())
(.lt none (.bin .add) [.v 9, .c (.int .i64 1)] 1 <|
(.leaf .cont [.v 15] ())))))))))
(.leaf (.yield 1) [] ())))) <|
(.leaf .ret [.c (.bool true)] ()))))))))))
def tm16 : Tm Unit :=
(.lt none (.bin .eql) [.v 0, .c (.int .i64 3)] 1 <|
(.lt (some (.v 1, false)) .id [.v 0] 1 <|
(.lt (some (.v 1, false)) (.bin .eql) [.v 2, .c (.int .i64 5)] 1 <|
(.lt none .pick [.v 1, .c (.bool true), .v 3] 1 <|
(.leaf .ret [.v 4] ())))))
def tm17 : Tm Unit :=
(.call none 18 [.v 1, .c (.int .i64 0), .c (.int .i64 9999)] 1 [] <|
(.lt none .not [.v 11] 1 <|
(.lt (some (.v 12, false)) .id [.v 2] 1 <|
(.lt (some (.v 12, false)) .id [.v 1] 1 <|
(.call (some (.v 12, false)) 18 [.v 13, .c (.int .i64 0), .v 14] 1 [] <|
(.lt (some (.v 12, false)) .not [.v 15] 1 <|
(.lt none .pick [.v 12, .c (.bool true), .v 16] 1 <|
(.lt (some (.v 17, false)) .id [.v 3] 1 <|
(.call (some (.v 17, false)) 18 [.v 18, .c (.int .i64 0), .c (.int .i64 3)] 1 [] <|
(.lt (some (.v 17, false)) .not [.v 19] 1 <|
(.lt none .pick [.v 17, .c (.bool true), .v 20] 1 <|
(.ite (.v 21)
(.leaf .ret [.c (.bool false)] ())
(.lt none (.bin .eql) [.v 3, .c (.int .i64 0)] 1 <|
(.ite (.v 22)
(.lt none (.bin .eql) [.v 2, .c (.int .i64 0)] 1 <|
(.lt (some (.v 23, true)) (.eqs [0, 0, 0, 0, 0]) [.v 4, .v 5, .v 6, .v 7, .v 8, .c (.int .i64 0), .c (.int .i64 0), .c (.int .i64 0), .c (.int .i64 0), .c (.int .i64 0)] 1 <|
(.lt none .pick [.v 23, .v 24, .c (.bool false)] 1 <|
(.lt (some (.v 25, true)) .id [.v 0] 1 <|
(.call (some (.v 25, true)) 19 [.v 26] 2 [] <|
(.call (some (.v 25, true)) 20 [.v 9, .v 10, .v 27, .v 28] 1 [] <|
(.lt none .pick [.v 25, .v 29, .c (.bool false)] 1 <|
(.leaf .ret [.v 30] ()))))))))
(.call none 22 [.v 4, .v 5, .v 6, .v 7, .v 8] 1 [] <|
(.lt (some (.v 23, true)) .id [.v 0] 1 <|
(.call (some (.v 23, true)) 25 [.v 24, .v 9, .v 10] 1 [] <|
(.lt none .pick [.v 23, .v 25, .c (.bool false)] 1 <|
(.leaf .ret [.v 26] ())))))))))))))))))))
def tm18 : Tm Unit :=
(.lt none (.bin .geq) [.v 0, .v 1] 1 <|
(.lt (some (.v 3, true)) .id [.v 0] 1 <|
(.lt (some (.v 3, true)) .id [.v 2] 1 <|
(.lt (some (.v 3, true)) (.bin .leq) [.v 4, .v 5] 1 <|
(.lt none .pick [.v 3, .v 6, .c (.bool false)] 1 <|
(.leaf .ret [.v 7] ()))))))
def tm19 : Tm Unit :=
(.lt none (.make 8 [(.int .i64 0)]) [.v 0] 1 <|
(.leaf .ret [.c (.int .i64 0), .v 1] ()))
def tm20 : Tm Unit :=
(.lt none (.bin .eql) [.v 0, .v 2] 1 <|
(.call (some (.v 4, true)) 21 [.v 1, .v 3] 1 [] <|
(.lt none .pick [.v 4, .v 5, .c (.bool false)] 1 <|
(.leaf .ret [.v 6] ()))))
def tm21 : Tm Unit :=
(.lt none .len [.v 0] 1 <|
(.lt none .len [.v 1] 1 <|
(.lt none (.bin .neq) [.v 2, .v 3] 1 <|
(.ite (.v 4)
(.leaf .ret [.c (.bool false)] ())
(.lt none .len [.v 0] 1 <|
(.bind 1
(.loop [.c (.int .i64 0)]
(.lt none (.bin .lss) [.v 6, .v 5] 1 <|
(.ite (.v 7)
(.lt none .inb [.v 0, .v 6] 0 <|
(.lt none (.row 1 0 [true]) [.v 0, .v 6] 1 <|
(.lt none .inb [.v 1, .v 6] 0 <|
(.lt none (.row 1 0 [true]) [.v 1, .v 6] 1 <|
(.lt none (.bin .neq) [.v 8, .v 9] 1 <|
(.ite (.v 10)
(.leaf .ret [.c (.bool false)] ())
(.lt none (.bin .add) [.v 6, .c (.int .i64 1)] 1 <|
(.leaf .cont [.v 11] ()))))))))
(.leaf (.yield 1) [] ())))) <|
(.leaf .ret [.c (.bool true)] ())))))))
def tm22 : Tm Unit :=
(.lt none (.bin .eql) [.v 0, .c (.int .i64 0)] 1 <|
(.ite (.v 5)
(.lt none (.eqs [0, 0, 0, 0, 0]) [.v 0, .v 1, .v 2, .v 3, .v 4, .c (.int .i64 0), .c (.int .i64 0), .c (.int .i64 0), .c (.int .i64 0), .c (.int .i64 0)] 1 <|
(.leaf .ret [.v 6] ()))
(.lt none (.bin .eql) [.v 0, .c (.int .i64 1)] 1 <|
(.ite (.v 6)
(.call none 23 [.v 0, .v 1, .v 2, .v 3, .v 4] 1 [] <|
(.lt none (.bin .eql) [.v 7, .c (.int .i64 0)] 1 <|
(.leaf .ret [.v 8] ())))
(.lt none (.bin .eql) [.v 0, .c (.int .i64 2)] 1 <|
(.ite (.v 7)
(.call none 23 [.v 0, .v 1, .v 2, .v 3, .v 4] 1 [] <|
(.lt none (.bin .eql) [.v 8, .c (.int .i64 0)] 1 <|
(.lt (some (.v 9, true)) .id [.v 3] 1 <|
(.lt (some (.v 9, true)) (.bin .eql) [.v 10, .c (.int .i64 0)] 1 <|
(.lt none .pick [.v 9, .v 11, .c (.bool false)] 1 <|
(.lt (some (.v 12, true)) .id [.v 4] 1 <|
(.lt (some (.v 12, true)) (.bin .eql) [.v 13, .c (.int .i64 0)] 1 <|
(.lt none .pick [.v 12, .v 14, .c (.bool false)] 1 <|
(.leaf .ret [.v 15] ())))))))))
(.leaf .ret [.c (.bool false)] ())))))))
def tm23 : Tm Unit :=
(.lt none (.bin .eql) [.v 0, .c (.int .i64 1)] 1 <|
(.call none 24 [.v 2] 1 [] <|
(.lt none .not [.v 6] 1 <|
(.lt (some (.v 7, false)) .id [.v 5] 1 <|
(.lt (some (.v 7, false)) .id [.v 8] 1 <|
(.lt (some (.v 9, true)) .id [.v 3] 1 <|
(.call (some (.v 9, true)) 24 [.v 10] 1 [] <|
(.lt (some (.v 9, true)) .not [.v 11] 1 <|
(.lt (some (.v 7, false)) .pick [.v 9, .v 12, .c (.bool false)] 1 <|
(.lt none .pick [.v 7, .c (.bool true), .v 13] 1 <|
(.ite (.v 14)
(.leaf .ret [.c (.int .i64 4)] ())
(.lt (some (.v 5, true)) .id [.v 2] 1 <|
(.lt (some (.v 5, true)) .id [.v 3] 1 <|
(.lt (some (.v 5, true)) (.bin .eql) [.v 15, .v 16] 1 <|
(.lt none .pick [.v 5, .v 17, .c (.bool false)] 1 <|
(.ite (.v 18)
(.leaf .ret [.c (.int .i64 5)] ())
(.call none 18 [.v 1, .c (.int .i64 1), .c (.int .i64 999)] 1 [] <|
(.lt none .not [.v 19] 1 <|
(.lt (some (.v 20, false)) .id [.v 5] 1 <|
(.lt (some (.v 20, false)) .id [.v 21] 1 <|
(.lt (some (.v 22, true)) .id [.v 4] 1 <|
(.call (some (.v 22, true)) 18 [.v 23, .c (.int .i64 1), .c (.int .i64 1000)] 1 [] <|
(.lt (some (.v 22, true)) .not [.v 24] 1 <|
(.lt (some (.v 20, false)) .pick [.v 22, .v 25, .c (.bool false)] 1 <|
(.lt none .pick [.v 20, .c (.bool true), .v 26] 1 <|
(.ite (.v 27)
(.leaf .ret [.c (.int .i64 6)] ())
(.leaf .ret [.c (.int .i64 0)] ())))))))))))))))))))))))))))
def tm24 : Tm Unit :=
(.call none 18 [.v 0, .c (.int .i64 0), .c (.int .i64 3)] 1 [] <|
(.leaf .ret [.v 1] ()))
def tm25 : Tm Unit :=
(.call none 18 [.v 1, .c (.int .i64 0), .c (.int .i64 999)] 1 [] <|
(.lt (some (.v 3, true)) .len [.v 2] 1 <|
(.lt (some (.v 3, true)) .id [.v 0] 1 <|
(.lt (some (.v 3, true)) (.bin .eql) [.v 4, .v 5] 1 <|
(.lt none .pick [.v 3, .v 6, .c (.bool false)] 1 <|
(.call (some (.v 7, true)) 26 [.v 2, .c (.int .i64 0), .c (.int .i64 6)] 1 [] <|
(.lt none .pick [.v 7, .v 8, .c (.bool false)] 1 <|
(.leaf .ret [.v 9] ()))))))))
def tm26 : Tm Unit :=
(.lt none .len [.v 0] 1 <|
(.bind 1
(.loop [.c (.int .i64 0)]
(.lt none (.bin .lss) [.v 4, .v 3] 1 <|
(.ite (.v 5)
(.lt none .inb [.v 0, .v 4] 0 <|
(.lt none (.row 1 0 [true]) [.v 0, .v 4] 1 <|
(.call none 18 [.v 6, .v 1, .v 2] 1 [] <|
(.lt none .not [.v 7] 1 <|
(.ite (.v 8)
(.leaf .ret [.c (.bool false)] ())
(.lt none (.bin .add) [.v 4, .c (.int .i64 1)] 1 <|
(.leaf .cont [.v 9] ())))))))
(.leaf (.yield 1) [] ())))) <|
(.leaf .ret [.c (.bool true)] ())))
def tm27 : Tm Unit :=
(.call none 28 [.v 0, .v 1] 1 [] <|
(.lt none .len [.v 2] 1 <|
(.bind 1
(.loop [.c (.rows 1 []), .v 2, .c (.int .i64 0)]
(.lt none (.bin .lss) [.v 6, .v 3] 1 <|
(.ite (.v 7)
(.bind 0
(.lt none .inb [.v 5, .v 6] 0 <|
(.lt none (.row 1 0 [false]) [.v 5, .v 6] 1 <|
(.lt none .inb [.v 8, .c (.int .i64 0)] 0 <|
(.lt none (.row 1 0 [true]) [.v 8, .c (.int .i64 0)] 1 <|
(.lt none .inb [.v 8, .c (.int .i64 1)] 0 <|
(.lt none (.row 1 0 [true]) [.v 8, .c (.int .i64 1)] 1 <|
(.call none 29 [.v 0, .v 1, .v 9, .v 10] 1 [] <|
(.lt none .len [.v 11] 1 <|
(.lt none (.bin .eql) [.v 12, .c (.int .i64 0)] 1 <|
(.ite (.v 13)
(.lt none (.mk 1 1) [.v 8] 1 <|
(.lt none (.app 1 24 false) [.v 4, .v 14] 1 <|
(.leaf (.yield 0) [.v 15] ())))
(.leaf (.yield 0) [.v 4] ()))))))))))) <|
(.lt none (.bin .add) [.v 6, .c (.int .i64 1)] 1 <|
(.leaf .cont [.v 8, .v 5, .v 9] ())))
(.leaf (.yield 1) [.v 4] ())))) <|
(.leaf .ret [.v 4] ()))))
def tm28 : Tm Unit :=
(.lt none .len [.v 1] 1 <|
(.bind 1
(.loop [.c (.rows 1 []), .c (.int .i64 0)]
(.lt none (.bin .lss) [.v 4, .v 2] 1 <|
(.ite (.v 5)
(.lt none .inb [.v 1, .v 4] 0 <|
(.lt none (.row 1 0 [false]) [.v 1, .v 4] 1 <|
(.lt none .len [.v 6] 1 <|
(.bind 3
(.loop [.v 3, .c (.int .i64 0)]
(.lt none (.bin .lss) [.v 9, .v 7] 1 <|
(.ite (.v 10)
(.bind 0
(.lt none .inb [.v 6, .v 9] 0 <|
(.lt none (.row 10 0 [true, true, true, true, true, true, true, true, true, false]) [.v 6, .v 9] 10 <|
(.lt none (.bin .eql) [.v 13, .c (.int .i64 3)] 1 <|
(.ite (.v 21)
(.lt none (.bin .add) [.v 9, .c (.int .i64 1)] 1 <|
(.lt none (.mk 1 2) [.v 4, .v 22] 1 <|
(.lt none (.mk 1 1) [.v 23] 1 <|
(.lt none (.app 1 24 false) [.v 8, .v 24] 1 <|
(.leaf (.yield 0) [.v 25] ())))))
(.leaf (.yield 0) [.v 8] ()))))) <|
(.lt none (.bin .add) [.v 9, .c (.int .i64 1)] 1 <|
(.leaf .cont [.v 11, .v 12] ())))
(.leaf (.yield 3) [.v 8] ())))) <|
(.lt none (.bin .add) [.v 4, .c (.int .i64 1)] 1 <|
(.leaf .cont [.v 8, .v 9] ()))))))
(.leaf (.yield 1) [.v 3] ())))) <|
(.leaf .ret [.v 3] ())))
def tm29 : Tm Unit :=
(.lt none (.mk 1 2) [.v 2, .v 3] 1 <|
(.lt none (.mk 1 1) [.v 4] 1 <|
(.bind 1
(.loop [.v 5, .c (.rows 1 []), .c (.int .i64 0)]
(.lt none .len [.v 6] 1 <|
(.lt none (.bin .lss) [.v 8, .v 9] 1 <|
(.ite (.v 10)
(.lt none .inb [.v 6, .v 8] 0 <|
(.lt none (.row 1 0 [false]) [.v 6, .v 8] 1 <|
(.lt none .inb [.v 11, .c (.int .i64 0)] 0 <|
(.lt none (.row 1 0 [true]) [.v 11, .c (.int .i64 0)] 1 <|
(.lt none .inb [.v 6, .v 8] 0 <|
(.lt none (.row 1 0 [false]) [.v 6, .v 8] 1 <|
(.lt none .inb [.v 13, .c (.int .i64 1)] 0 <|
(.lt none (.row 1 0 [true]) [.v 13, .c (.int .i64 1)] 1 <|
(.call none 30 [.v 0, .v 1, .v 12, .v 14] 1 [] <|
(.lt none .len [.v 15] 1 <|
(.bind 3
(.loop [.v 6, .v 7, .v 15, .c (.int .i64 0)]
(.lt none (.bin .lss) [.v 20, .v 16] 1 <|
(.ite (.v 21)
(.bind 4
(.lt none .inb [.v 19, .v 20] 0 <|
(.lt none (.row 1 0 [false]) [.v 19, .v 20] 1 <|
(.call none 35 [.v 17, .v 22] 1 [] <|
(.lt none (.bin .geq) [.v 23, .c (.int .i64 0)] 1 <|
(.call (some (.v 24, false)) 35 [.v 18, .v 22] 1 [] <|
(.lt (some (.v 24, false)) (.bin .geq) [.v 25, .c (.int .i64 0)] 1 <|
(.lt none .pick [.v 24, .c (.bool true), .v 26] 1 <|
(.ite (.v 27)
(.leaf (.yield 4) [.v 17, .v 18, .c .undef, .c .undef] ())
(.lt none .inb [.v 22, .c (.int .i64 0)] 0 <|
(.lt none (.row 1 0 [true]) [.v 22, .c (.int .i64 0)] 1 <|
(.lt none .inb [.v 22, .c (.int .i64 1)] 0 <|
(.lt none (.row 1 0 [true]) [.v 22, .c (.int .i64 1)] 1 <|
(.call none 31 [.v 0, .v 1, .v 28, .v 29] 10 [] <|
(.lt none (.bin .eql) [.v 32, .c (.int .i64 3)] 1 <|
(.ite (.v 40)
(.lt none (.mk 1 1) [.v 22] 1 <|
(.lt none (.app 1 24 false) [.v 17, .v 41] 1 <|
(.leaf (.yield 4) [.v 42, .v 18, .c .undef, .c .undef] ())))
(.call none 36 [.v 18, .v 22] 1 [] <|
(.leaf (.yield 4) [.v 17, .v 41, .c .undef, .c .undef] ()))))))))))))))))) <|
(.lt none (.bin .add) [.v 20, .c (.int .i64 1)] 1 <|
(.leaf .cont [.v 22, .v 23, .v 19, .v 26] ())))
(.leaf (.yield 3) [.v 17, .v 18] ())))) <|
(.lt none (.bin .add) [.v 8, .c (.int .i64 1)] 1 <|
(.leaf .cont [.v 17, .v 18, .v 19] ())))))))))))))
(.leaf (.yield 1) [.v 7] ()))))) <|
(.leaf .ret [.v 6] ()))))
def tm30 : Tm Unit :=
(.call none 31 [.v 0, .v 1, .v 2, .v 3] 10 [] <|
(.lt none .len [.v 13] 1 <|
(.bind 1
(.loop [.c (.rows 1 []), .c (.int .i64 0)]
(.lt none (.bin .lss) [.v 16, .v 14] 1 <|
(.ite (.v 17)
(.lt none .inb [.v 13, .v 16] 0 <|
(.lt none (.row 1 0 [true]) [.v 13, .v 16] 1 <|
(.bind 3
(.loop [.v 15, .c (.int .i64 1)]
(.lt none (.bin .leq) [.v 20, .v 18] 1 <|
(.ite (.v 21)
(.bind 0
(.lt none (.bin .neq) [.v 16, .v 2] 1 <|
(.lt (some (.v 22, false)) .id [.v 20] 1 <|
(.lt (some (.v 22, false)) .id [.v 3] 1 <|
(.lt (some (.v 22, false)) (.bin .neq) [.v 23, .v 24] 1 <|
(.lt none .pick [.v 22, .c (.bool true), .v 25] 1 <|
(.ite (.v 26)
(.lt none (.mk 1 2) [.v 16, .v 20] 1 <|
(.lt none (.mk 1 1) [.v 27] 1 <|
(.lt none (.app 1 24 false) [.v 19, .v 28] 1 <|
(.leaf (.yield 0) [.v 29, .c .undef, .c .undef, .c .undef] ()))))
(.leaf (.yield 0) [.v 19, .c .undef, .c .undef, .c .undef] ()))))))) <|
(.lt none (.bin .add) [.v 20, .c (.int .i64 1)] 1 <|
(.leaf .cont [.v 22, .v 26] ())))
(.leaf (.yield 3) [.v 19] ())))) <|
(.lt none (.bin .add) [.v 16, .c (.int .i64 1)] 1 <|
(.leaf .cont [.v 19, .v 20] ())))))
(.leaf (.yield 1) [.v 15] ())))) <|
(.leaf .ret [.v 15] ()))))
def tm31 : Tm Unit :=
(.lt none .inb [.v 1, .v 2] 0 <|
(.lt none (.row 1 0 [false]) [.v 1, .v 2] 1 <|
(.lt none .len [.v 4] 1 <|
(.lt none (.bin .gtr) [.v 3, .v 5] 1 <|
(.ite (.v 6)
(.call none 19 [.v 0] 2 [] <|
(.leaf .ret [.c (.int .i64 0), .c (.int .i64 0), .c (.int .i64 0), .c (.int .i64 0), .c (.int .i64 0), .c (.int .i64 0), .c (.int .i64 0), .c (.int .i64 0), .v 7, .v 8] ()))
(.lt none .inb [.v 1, .v 2] 0 <|
(.lt none (.row 1 0 [false]) [.v 1, .v 2] 1 <|
(.lt none (.bin .sub) [.v 3, .c (.int .i64 1)] 1 <|
(.lt none .inb [.v 7, .v 8] 0 <|
(.lt none (.row 10 0 [true, true, true, true, true, true, true, true, true, false]) [.v 7, .v 8] 10 <|
(.call none 32 [.v 9, .v 10, .v 11, .v 12, .v 13, .v 14, .v 15, .v 16, .v 17, .v 18] 10 [] <|
(.leaf .ret [.v 19, .v 20, .v 21, .v 22, .v 23, .v 24, .v 25, .v 26, .v 27, .v 28] ()))))))))))))
def tm32 : Tm Unit :=
(.call none 33 [.v 8, .v 9] 2 [] <|
(.leaf .ret [.v 0, .v 1, .v 2, .v 3, .v 4, .v 5, .v 6, .v 7, .v 10, .v 11] ()))
def tm33 : Tm Unit :=
(.call none 34 [.v 1] 1 [] <|
(.leaf .ret [.v 0, .v 2] ()))
def tm34 : Tm Unit :=
(.lt none (.mk 1 0) [] 1 <|
(.lt none (.app 1 8 true) [.v 1, .v 0] 1 <|
(.leaf .ret [.v 2] ())))
def tm35 : Tm Unit :=
(.lt none .len [.v 0] 1 <|
(.bind 1
(.loop [.c (.int .i64 0)]
(.lt none (.bin .lss) [.v 3, .v 2] 1 <|
(.ite (.v 4)
(.lt none .inb [.v 0, .v 3] 0 <|
(.lt none (.row 1 0 [false]) [.v 0, .v 3] 1 <|
(.call none 21 [.v 1, .v 5] 1 [] <|
(.ite (.v 6)
(.leaf .ret [.v 3] ())
(.lt none (.bin .add) [.v 3, .c (.int .i64 1)] 1 <|
(.leaf .cont [.v 7] ()))))))
(.leaf (.yield 1) [] ())))) <|
(.leaf .ret [.c (.int .i64 (-1))] ())))
def tm36 : Tm Unit :=
(.lt none .len [.v 0] 1 <|
(.bind 1
(.loop [.v 2]
(.lt none (.bin .gtr) [.v 3, .c (.int .i64 0)] 1 <|
(.lt (some (.v 4, true)) .id [.v 3] 1 <|
(.lt (some (.v 4, true)) (.bin .sub) [.v 5, .c (.int .i64 1)] 1 <|
(.lt (some (.v 4, true)) .inb [.v 0, .v 6] 0 <|
(.lt (some (.v 4, true)) (.row 1 0 [false]) [.v 0, .v 6] 1 <|
(.lt (some (.v 4, true)) .inb [.v 7, .c (.int .i64 0)] 0 <|
(.lt (some (.v 4, true)) (.row 1 0 [true]) [.v 7, .c (.int .i64 0)] 1 <|
(.lt (some (.v 4, true)) .inb [.v 1, .c (.int .i64 0)] 0 <|
(.lt (some (.v 4, true)) (.row 1 0 [true]) [.v 1, .c (.int .i64 0)] 1 <|
(.lt (some (.v 4, true)) (.bin .gtr) [.v 8, .v 9] 1 <|
(.lt (some (.v 4, true)) .id [.v 10] 1 <|
(.lt (some (.v 11, false)) .id [.v 3] 1 <|
(.lt (some (.v 11, false)) (.bin .sub) [.v 12, .c (.int .i64 1)] 1 <|
(.lt (some (.v 11, false)) .inb [.v 0, .v 13] 0 <|
(.lt (some (.v 11, false)) (.row 1 0 [false]) [.v 0, .v 13] 1 <|
(.lt (some (.v 11, false)) .inb [.v 14, .c (.int .i64 0)] 0 <|
(.lt (some (.v 11, false)) (.row 1 0 [true]) [.v 14, .c (.int .i64 0)] 1 <|
(.lt (some (.v 11, false)) .inb [.v 1, .c (.int .i64 0)] 0 <|
(.lt (some (.v 11, false)) (.row 1 0 [true]) [.v 1, .c (.int .i64 0)] 1 <|
(.lt (some (.v 11, false)) (.bin .eql) [.v 15, .v 16] 1 <|
(.lt (some (.v 11, false)) .id [.v 17] 1 <|
(.lt (some (.v 18, true)) .id [.v 3] 1 <|
(.lt (some (.v 18, true)) (.bin .sub) [.v 19, .c (.int .i64 1)] 1 <|
(.lt (some (.v 18, true)) .inb [.v 0, .v 20] 0 <|
(.lt (some (.v 18, true)) (.row 1 0 [false]) [.v 0, .v 20] 1 <|
(.lt (some (.v 18, true)) .inb [.v 21, .c (.int .i64 1)] 0 <|
(.lt (some (.v 18, true)) (.row 1 0 [true]) [.v 21, .c (.int .i64 1)] 1 <|
(.lt (some (.v 18, true)) .inb [.v 1, .c (.int .i64 1)] 0 <|
(.lt (some (.v 18, true)) (.row 1 0 [true]) [.v 1, .c (.int .i64 1)] 1 <|
(.lt (some (.v 18, true)) (.bin .gtr) [.v 22, .v 23] 1 <|
(.lt (some (.v 11, false)) .pick [.v 18, .v 24, .c (.bool false)] 1 <|
(.lt (some (.v 4, true)) .pick [.v 11, .c (.bool true), .v 25] 1 <|
(.lt none .pick [.v 4, .v 26, .c (.bool false)] 1 <|
(.ite (.v 27)
(.lt none (.bin .sub) [.v 3, .c (.int .i64 1)] 1 <|
(.leaf .cont [.v 28] ()))
(.leaf (.yield 1) [.v 3] ())))))))))))))))))))))))))))))))))))) <|
(.lt none (.mk 1 0) [] 1 <|
(.lt none .len [.v 0] 1 <|
(.lt none (.sub 1 false) [.v 0, .v 3, .v 5] 1 <|
(.lt none (.app 1 24 false) [.v 4, .v 6] 1 <|
(.lt none (.mk 1 0) [] 1 <|
(.lt none (.sub 1 false) [.v 0, .c (.int .i64 0), .v 3] 1 <|
(.lt none (.app 1 24 false) [.v 8, .v 9] 1 <|
(.lt none (.mk 1 1) [.v 1] 1 <|
(.lt none (.app 1 24 false) [.v 10, .v 11] 1 <|
(.lt none (.app 1 24 false) [.v 12, .v 7] 1 <|
(.leaf .ret [.v 13] ())))))))))))))
def tm37 : Tm Unit :=
(.call none 38 [.v 0, .v 1] 1 [] <|
(.lt none .not [.v 2] 1 <|
(.ite (.v 3)
(.leaf .ret [.c (.rows 1 []), .c (.bool false)] ())
(.call none 57 [.v 0, .v 1] 1 [] <|
(.leaf .ret [.v 4, .c (.bool true)] ())))))
def tm38 : Tm Unit :=
(.call none 39 [.v 0] 1 [] <|
(.lt (some (.v 2, true)) .len [.v 1] 1 <|
(.lt (some (.v 2, true)) .id [.v 0] 1 <|
(.lt (some (.v 2, true)) (.bin .eql) [.v 3, .v 4] 1 <|
(.lt none .pick [.v 2, .v 5, .c (.bool false)] 1 <|
(.call (some (.v 6, true)) 40 [.v 1, .v 0, .v 1] 1 [] <|
(.lt (some (.v 6, true)) .not [.v 7] 1 <|
(.lt none .pick [.v 6, .v 8, .c (.bool false)] 1 <|
(.leaf .ret [.v 9] ())))))))))
def tm39 : Tm Unit :=
(.lt none (.bin .eql) [.v 0, .c (.int .i64 3)] 1 <|
(.lt (some (.v 1, false)) .id [.v 0] 1 <|
(.lt (some (.v 1, false)) (.bin .eql) [.v 2, .c (.int .i64 5)] 1 <|
(.lt none .pick [.v 1, .c (.bool true), .v 3] 1 <|
(.leaf .ret [.v 4] ())))))
def tm40 : Tm Unit :=
(.call none 41 [.v 0, .v 1, .v 2] 1 [] <|
(.lt none (.bin .geq) [.v 3, .c (.int .i64 0)] 1 <|
(.leaf .ret [.v 4] ())))
def tm41 : Tm Unit :=
(.lt none .len [.v 0] 1 <|
(.bind 1
(.loop [.c (.int .i64 0)]
(.lt none (.bin .lss) [.v 4, .v 3] 1 <|
(.ite (.v 5)
(.lt none .inb [.v 0, .v 4] 0 <|
(.lt none (.row 1 0 [false]) [.v 0, .v 4] 1 <|
(.call none 42 [.v 6, .v 1, .v 2] 1 [] <|
(.ite (.v 7)
(.leaf .ret [.v 4] ())
(.lt none (.bin .add) [.v 4, .c (.int .i64 1)] 1 <|
(.leaf .cont [.v 8] ()))))))
(.leaf (.yield 1) [] ())))) <|
(.leaf .ret [.c (.int .i64 (-1))] ())))
def tm42 : Tm Unit :=
(.lt none .len [.v 0] 1 <|
(.lt none (.bin .gtr) [.v 3, .c (.int .i64 6)] 1 <|
(.call (some (.v 4, false)) 43 [.v 0, .v 1, .v 2] 1 [] <|
(.lt none .pick [.v 4, .c (.bool true), .v 5] 1 <|
(.leaf .ret [.v 6] ())))))
def tm43 : Tm Unit :=
(.call none 44 [.v 0, .v 1, .v 2] 1 [] <|
(.lt none (.bin .geq) [.v 3, .c (.int .i64 0)] 1 <|
(.leaf .ret [.v 4] ())))
def tm44 : Tm Unit :=
(.lt none .len [.v 0] 1 <|
(.bind 1
(.loop [.c (.int .i64 0)]
(.lt none (.bin .lss) [.v 4, .v 3] 1 <|
(.ite (.v 5)
(.lt none .inb [.v 0, .v 4] 0 <|
(.lt none (.row 10 0 [true, true, true, true, true, true, true, true, true, false]) [.v 0, .v 4] 10 <|
(.call none 45 [.v 6, .v 7, .v 8, .v 9, .v 10, .v 11, .v 12, .v 13, .v 14, .v 15, .v 1, .v 2] 1 [] <|
(.ite (.v 16)
(.leaf .ret [.v 4] ())
(.lt none (.bin .add) [.v 4, .c (.int .i64 1)] 1 <|
(.leaf .cont [.v 17] ()))))))
(.leaf (.yield 1) [] ())))) <|
(.leaf .ret [.c (.int .i64 (-1))] ())))
def tm45 : Tm Unit :=
(.call none 46 [.v 10, .v 0, .v 1, .v 2, .v 3, .v 4, .v 5, .v 6, .v 7, .v 8, .v 9] 1 [] <|
(.lt none .not [.v 12] 1 <|
(.leaf .ret [.v 13] ())))
def tm46 : Tm Unit :=
(.call none 47 [.v 1, .c (.int .i64 0), .c (.int .i64 9999)] 1 [] <|
(.lt none .not [.v 11] 1 <|
(.lt (some (.v 12, false)) .id [.v 2] 1 <|
(.lt (some (.v 12, false)) .id [.v 1] 1 <|
(.call (some (.v 12, false)) 47 [.v 13, .c (.int .i64 0), .v 14] 1 [] <|
(.lt (some (.v 12, false)) .not [.v 15] 1 <|
(.lt none .pick [.v 12, .c (.bool true), .v 16] 1 <|
(.lt (some (.v 17, false)) .id [.v 3] 1 <|
(.call (some (.v 17, false)) 47 [.v 18, .c (.int .i64 0), .c (.int .i64 3)] 1 [] <|
(.lt (some (.v 17, false)) .not [.v 19] 1 <|
(.lt none .pick [.v 17, .c (.bool true), .v 20] 1 <|
(.call (some (.v 21, false)) 48 [.v 4, .v 5, .v 6, .v 7, .v 8] 1 [] <|
(.lt (some (.v 21, false)) .not [.v 22] 1 <|
(.lt none .pick [.v 21, .c (.bool true), .v 23] 1 <|
(.lt (some (.v 24, false)) .id [.v 0] 1 <|
(.call (some (.v 24, false)) 50 [.v 25, .v 9, .v 10] 1 [] <|
(.lt (some (.v 24, false)) .not [.v 26] 1 <|
(.lt none .pick [.v 24, .c (.bool true), .v 27] 1 <|
(.ite (.v 28)
(.leaf .ret [.c (.bool false)] ())
(.lt none (.bin .neq) [.v 3, .c (.int .i64 0)] 1 <|
(.lt (some (.v 29, false)) .id [.v 2] 1 <|
(.lt (some (.v 29, false)) (.bin .eql) [.v 30, .c (.int .i64 0)] 1 <|
(.lt (some (.v 29, false)) .id [.v 31] 1 <|
(.lt (some (.v 32, true)) (.eqs [0, 0, 0, 0, 0]) [.v 4, .v 5, .v 6, .v 7, .v 8, .c (.int .i64 0), .c (.int .i64 0), .c (.int .i64 0), .c (.int .i64 0), .c (.int .i64 0)] 1 <|
(.lt (some (.v 29, false)) .pick [.v 32, .v 33, .c (.bool false)] 1 <|
(.lt (some (.v 29, false)) .id [.v 34] 1 <|
(.lt (some (.v 35, true)) .id [.v 0] 1 <|
(.call (some (.v 35, true)) 54 [.v 36] 2 [] <|
(.call (some (.v 35, true)) 55 [.v 9, .v 10, .v 37, .v 38] 1 [] <|
(.lt (some (.v 29, false)) .pick [.v 35, .v 39, .c (.bool false)] 1 <|
(.lt none .pick [.v 29, .c (.bool true), .v 40] 1 <|
(.leaf .ret [.v 41] ()))))))))))))))))))))))))))))))))
def tm47 : Tm Unit :=
(.lt none (.bin .leq) [.v 1, .v 0] 1 <|
(.lt (some (.v 3, true)) .id [.v 0] 1 <|
(.lt (some (.v 3, true)) .id [.v 2] 1 <|
(.lt (some (.v 3, true)) (.bin .leq) [.v 4, .v 5] 1 <|
(.lt none .pick [.v 3, .v 6, .c (.bool false)] 1 <|
(.leaf .ret [.v 7] ()))))))
def tm48 : Tm Unit :=
(.lt none (.bin .eql) [.v 0, .c (.int .i64 0)] 1 <|
(.ite (.v 5)
(.lt none (.eqs [0, 0, 0, 0, 0]) [.v 0, .v 1, .v 2, .v 3, .v 4, .c (.int .i64 0), .c (.int .i64 0), .c (.int .i64 0), .c (.int .i64 0), .c (.int .i64 0)] 1 <|
(.leaf .ret [.v 6] ()))
(.lt none (.bin .eql) [.v 0, .c (.int .i64 1)] 1 <|
(.ite (.v 6)
(.call none 47 [.v 1, .c (.int .i64 1), .c (.int .i64 999)] 1 [] <|
(.lt (some (.v 7, true)) .id [.v 2] 1 <|
(.call (some (.v 7, true)) 49 [.v 8] 1 [] <|
(.lt none .pick [.v 7, .v 9, .c (.bool false)] 1 <|
(.lt (some (.v 10, true)) .id [.v 3] 1 <|
(.call (some (.v 10, true)) 49 [.v 11] 1 [] <|
(.lt none .pick [.v 10, .v 12, .c (.bool false)] 1 <|
(.lt (some (.v 13, true)) .id [.v 2] 1 <|
(.lt (some (.v 13, true)) .id [.v 3] 1 <|
(.lt (some (.v 13, true)) (.bin .neq) [.v 14, .v 15] 1 <|
(.lt none .pick [.v 13, .v 16, .c (.bool false)] 1 <|
(.lt (some (.v 17, true)) .id [.v 4] 1 <|
(.call (some (.v 17, true)) 47 [.v 18, .c (.int .i64 1), .c (.int .i64 1000)] 1 [] <|
(.lt none .pick [.v 17, .v 19, .c (.bool false)] 1 <|
(.leaf .ret [.v 20] ())))))))))))))))
(.lt none (.bin .eql) [.v 0, .c (.int .i64 2)] 1 <|
(.lt (some (.v 7, true)) .id [.v 1] 1 <|
(.call (some (.v 7, true)) 47 [.v 8, .c (.int .i64 1), .c (.int .i64 999)] 1 [] <|
(.lt none .pick [.v 7, .v 9, .c (.bool false)] 1 <|
(.lt (some (.v 10, true)) .id [.v 2] 1 <|
(.call (some (.v 10, true)) 49 [.v 11] 1 [] <|
(.lt none .pick [.v 10, .v 12, .c (.bool false)] 1 <|
(.lt (some (.v 13, true)) .id [.v 3] 1 <|
(.lt (some (.v 13, true)) (.bin .eql) [.v 14, .c (.int .i64 0)] 1 <|
(.lt none .pick [.v 13, .v 15, .c (.bool false)] 1 <|
(.lt (some (.v 16, true)) .id [.v 4] 1 <|
(.lt (some (.v 16, true)) (.bin .eql) [.v 17, .c (.int .i64 0)] 1 <|
(.lt none .pick [.v 16, .v 18, .c (.bool false)] 1 <|
(.leaf .ret [.v 19] ()))))))))))))))))))
def tm49 : Tm Unit :=
(.call none 47 [.v 0, .c (.int .i64 0), .c (.int .i64 3)] 1 [] <|
(.leaf .ret [.v 1] ()))
def tm50 : Tm Unit :=
(.call none 39 [.v 0] 1 [] <|
(.lt (some (.v 3, true)) .id [.v 1] 1 <|
(.call (some (.v 3, true)) 47 [.v 4, .c (.int .i64 0), .c (.int .i64 999)] 1 [] <|
(.lt none .pick [.v 3, .v 5, .c (.bool false)] 1 <|
(.lt (some (.v 6, true)) .len [.v 2] 1 <|
(.lt (some (.v 6, true)) .id [.v 0] 1 <|
(.lt (some (.v 6, true)) (.bin .eql) [.v 7, .v 8] 1 <|
(.lt none .pick [.v 6, .v 9, .c (.bool false)] 1 <|
(.call (some (.v 10, true)) 51 [.v 2] 1 [] <|
(.lt (some (.v 10, true)) .not [.v 11] 1 <|
(.lt none .pick [.v 10, .v 12, .c (.bool false)] 1 <|
(.leaf .ret [.v 13] ()))))))))))))
def tm51 : Tm Unit :=
(.call none 52 [.v 0] 1 [] <|
(.lt none (.bin .geq) [.v 1, .c (.int .i64 0)] 1 <|
(.leaf .ret [.v 2] ())))
def tm52 : Tm Unit :=
(.lt none .len [.v 0] 1 <|
(.bind 1
(.loop [.c (.int .i64 0)]
(.lt none (.bin .lss) [.v 2, .v 1] 1 <|
(.ite (.v 3)
(.lt none .inb [.v 0, .v 2] 0 <|
(.lt none (.row 1 0 [true]) [.v 0, .v 2] 1 <|
(.call none 53 [.v 4] 1 [] <|
(.ite (.v 5)
(.leaf .ret [.v 2] ())
(.lt none (.bin .add) [.v 2, .c (.int .i64 1)] 1 <|
(.leaf .cont [.v 6] ()))))))
(.leaf (.yield 1) [] ())))) <|
(.leaf .ret [.c (.int .i64 (-1))] ())))
def tm53 : Tm Unit :=
(.call none 47 [.v 0, .c (.int .i64 0), .c (.int .i64 6)] 1 [] <|
(.lt none .not [.v 1] 1 <|
(.leaf .ret [.v 2] ())))
def tm54 : Tm Unit :=
(.lt none (.make 8 [(.int .i64 0)]) [.v 0] 1 <|
(.leaf .ret [.c (.int .i64 0), .v 1] ()))
def tm55 : Tm Unit :=
(.lt none (.bin .eql) [.v 0, .v 2] 1 <|
(.call (some (.v 4, true)) 56 [.v 1, .v 3] 1 [] <|
(.lt none .pick [.v 4, .v 5, .c (.bool false)] 1 <|
(.leaf .ret [.v 6] ()))))
def tm56 : Tm Unit :=
(.lt none .len [.v 0] 1 <|
(.lt none .len [.v 1] 1 <|
(.lt none (.bin .neq) [.v 2, .v 3] 1 <|
(.ite (.v 4)
(.leaf .ret [.c (.bool false)] ())
(.lt none .len [.v 0] 1 <|
(.bind 1
(.loop [.c (.int .i64 0)]
(.lt none (.bin .lss) [.v 6, .v 5] 1 <|
(.ite (.v 7)
(.lt none .inb [.v 0, .v 6] 0 <|
(.lt none (.row 1 0 [true]) [.v 0, .v 6] 1 <|
(.lt none .inb [.v 1, .v 6] 0 <|
(.lt none (.row 1 0 [true]) [.v 1, .v 6] 1 <|
(.lt none (.bin .neq) [.v 8, .v 9] 1 <|
(.ite (.v 10)
(.leaf .ret [.c (.bool false)] ())
(.lt none (.bin .add) [.v 6, .c (.int .i64 1)] 1 <|
(.leaf .cont [.v 11] ()))))))))
(.leaf (.yield 1) [] ())))) <|
(.leaf .ret [.c (.bool true)] ())))))))
def tm57 : Tm Unit :=
(.call none 58 [.v 0, .v 1] 1 [] <|
(.call none 61 [.v 2, .v 0, .v 1] 1 [] <|
(.leaf .ret [.v 3] ())))
def tm58 : Tm Unit :=
(.lt none (.mk 1 0) [] 1 <|
(.call none 59 [.v 0, .v 1, .v 2] 1 [] <|
(.leaf .ret [.v 3] ())))
def tm59 : Tm Unit :=
(.lt none .len [.v 1] 1 <|
(.bind 1
(.loop [.c (.int .i64 0), .v 2]
(.lt none (.bin .lss) [.v 4, .v 3] 1 <|
(.ite (.v 6)
(.lt none .inb [.v 1, .v 4] 0 <|
(.lt none (.row 1 0 [false]) [.v 1, .v 4] 1 <|
(.lt none .len [.v 7] 1 <|
(.bind 3
(.loop [.c (.int .i64 0), .v 5]
(.lt none (.bin .lss) [.v 9, .v 8] 1 <|
(.ite (.v 11)
(.lt none .inb [.v 7, .v 9] 0 <|
(.lt none (.row 10 0 [true, true, true, true, true, true, true, true, true, false]) [.v 7, .v 9] 10 <|
(.lt none (.bin .add) [.v 9, .c (.int .i64 1)] 1 <|
(.call none 60 [.v 4, .v 22, .v 12, .v 13, .v 14, .v 15, .v 16, .v 17, .v 18, .v 19, .v 20, .v 21, .v 10] 1 [] <|
(.lt none (.bin .add) [.v 9, .c (.int .i64 1)] 1 <|
(.leaf .cont [.v 24, .v 23] ()))))))
(.leaf (.yield 3) [.v 10] ())))) <|
(.lt none (.bin .add) [.v 4, .c (.int .i64 1)] 1 <|
(.leaf .cont [.v 10, .v 9] ()))))))
(.leaf (.yield 1) [.v 5] ())))) <|
(.leaf .ret [.v 4] ())))
def tm60 : Tm Unit :=
(.lt none (.bin .eql) [.v 4, .c (.int .i64 3)] 1 <|
(.ite (.v 13)
(.lt none (.mk 1 2) [.v 0, .v 1] 1 <|
(.lt none (.mk 1 1) [.v 14] 1 <|
(.lt none (.app 1 24 false) [.v 12, .v 15] 1 <|
(.leaf .ret [.v 16] ()))))
(.leaf .ret [.v 12] ())))
def tm61 : Tm Unit :=
(.call none 62 [.v 0, .v 1, .v 2] 1 [] <|
(.lt none (.bin .eql) [.v 3, .c (.int .i64 (-1))] 1 <|
(.ite (.v 4)
(.leaf .ret [.v 0] ())
(.lt none (.bin .add) [.v 3, .c (.int .i64 1)] 1 <|
(.bind 1
(.loop [.v 0, .v 3, .v 5]
(.lt none .len [.v 6] 1 <|
(.lt none (.bin .lss) [.v 8, .v 9] 1 <|
(.ite (.v 10)
(.bind 0
(.lt none .inb [.v 6, .v 8] 0 <|
(.lt none (.row 1 0 [false]) [.v 6, .v 8] 1 <|
(.call none 63 [.v 11, .v 1, .v 2] 1 [] <|
(.lt none .not [.v 12] 1 <|
(.ite (.v 13)
(.lt none .inb [.v 6, .v 7] 0 <|
(.lt none (.set 1 0 1) [.v 6, .v 8, .c .hole] 1 <|
(.lt none (.set 1 0 1) [.v 14, .v 7, .v 11] 1 <|
(.lt none (.bin .add) [.v 7, .c (.int .i64 1)] 1 <|
(.leaf (.yield 0) [.v 15, .v 16] ())))))
(.leaf (.yield 0) [.v 6, .v 7] ())))))) <|
(.lt none (.bin .add) [.v 8, .c (.int .i64 1)] 1 <|
(.leaf .cont [.v 11, .v 12, .v 13] ())))
(.leaf (.yield 1) [.v 6, .v 7] ()))))) <|
(.lt none .len [.v 6] 1 <|
(.lt none (.sub 1 false) [.v 6, .v 7, .v 8] 1 <|
(.lt none (.clr 1) [.v 6, .v 7] 1 <|
(.lt none (.sub 1 false) [.v 10, .c (.int .i64 0), .v 7] 1 <|
(.leaf .ret [.v 11] ()))))))))))
def tm62 : Tm Unit :=
(.lt none .len [.v 0] 1 <|
(.bind 1
(.loop [.c (.int .i64 0)]
(.lt none (.bin .lss) [.v 4, .v 3] 1 <|
(.ite (.v 5)
(.lt none .inb [.v 0, .v 4] 0 <|
(.lt none (.row 1 0 [false]) [.v 0, .v 4] 1 <|
(.call none 63 [.v 6, .v 1, .v 2] 1 [] <|
(.ite (.v 7)
(.leaf .ret [.v 4] ())
(.lt none (.bin .add) [.v 4, .c (.int .i64 1)] 1 <|
(.leaf .cont [.v 8] ()))))))
(.leaf (.yield 1) [] ())))) <|
(.leaf .ret [.c (.int .i64 (-1))] ())))
def tm63 : Tm Unit :=
(.call none 64 [.v 1, .v 2, .v 0] 1 [] <|
(.lt none .len [.v 3] 1 <|
(.lt none (.bin .gtr) [.v 4, .c (.int .i64 0)] 1 <|
(.leaf .ret [.v 5] ()))))
def tm64 : Tm Unit :=
(.lt none (.mk 1 1) [.v 2] 1 <|
(.lt none (.mk 1 0) [] 1 <|
(.lt none (.mk 1 1) [.v 2] 1 <|
(.bind 1
(.loop [.v 3, .v 4, .v 5]
(.lt none .len [.v 8] 1 <|
(.lt none (.bin .gtr) [.v 9, .c (.int .i64 0)] 1 <|
(.ite (.v 10)
(.lt none .inb [.v 8, .c (.int .i64 0)] 0 <|
(.lt none (.row 1 0 [false]) [.v 8, .c (.int .i64 0)] 1 <|
(.lt none .inb [.v 11, .c (.int .i64 0)] 0 <|
(.lt none (.row 1 0 [true]) [.v 11, .c (.int .i64 0)] 1 <|
(.lt none .inb [.v 8, .c (.int .i64 0)] 0 <|
(.lt none (.row 1 0 [false]) [.v 8, .c (.int .i64 0)] 1 <|
(.lt none .inb [.v 13, .c (.int .i64 1)] 0 <|
(.lt none (.row 1 0 [true]) [.v 13, .c (.int .i64 1)] 1 <|
(.call none 65 [.v 0, .v 1, .v 12, .v 14] 10 [] <|
(.call none 69 [.v 23, .v 24] 1 [] <|
(.lt none (.dep 99) [.v 25] 0 <|
(.lt none .len [.v 25] 1 <|
(.bind 3
(.loop [.v 6, .v 7, .v 8, .v 25, .c (.int .i64 0)]
(.lt none (.bin .lss) [.v 31, .v 26] 1 <|
(.ite (.v 32)
(.bind 4
(.lt none .inb [.v 30, .v 31] 0 <|
(.lt none (.row 1 0 [false]) [.v 30, .v 31] 1 <|
(.call none 70 [.v 27, .v 33] 1 [] <|
(.ite (.v 34)
(.leaf (.yield 4) [.v 27, .v 28, .v 29] ())
(.lt none (.mk 1 1) [.v 33] 1 <|
(.lt none (.app 1 24 false) [.v 27, .v 35] 1 <|
(.lt none .inb [.v 33, .c (.int .i64 0)] 0 <|
(.lt none (.row 1 0 [true]) [.v 33, .c (.int .i64 0)] 1 <|
(.lt none .inb [.v 33, .c (.int .i64 1)] 0 <|
(.lt none (.row 1 0 [true]) [.v 33, .c (.int .i64 1)] 1 <|
(.call none 65 [.v 0, .v 1, .v 37, .v 38] 10 [] <|
(.lt none (.bin .eql) [.v 41, .c (.int .i64 3)] 1 <|
(.ite (.v 49)
(.lt none (.mk 1 1) [.v 33] 1 <|
(.lt none (.app 1 24 false) [.v 29, .v 50] 1 <|
(.leaf (.yield 4) [.v 36, .v 28, .v 51] ())))
(.lt none (.mk 1 1) [.v 33] 1 <|
(.lt none (.app 1 24 false) [.v 28, .v 50] 1 <|
(.leaf (.yield 4) [.v 36, .v 51, .v 29] ())))))))))))))))) <|
(.lt none (.bin .add) [.v 31, .c (.int .i64 1)] 1 <|
(.leaf .cont [.v 33, .v 34, .v 35, .v 30, .v 36] ())))
(.leaf (.yield 3) [.v 27, .v 28, .v 29] ())))) <|
(.lt none .len [.v 29] 1 <|
(.lt none (.sub 1 false) [.v 29, .c (.int .i64 1), .v 30] 1 <|
(.leaf .cont [.v 27, .v 28, .v 31] ()))))))))))))))))
(.leaf (.yield 1) [.v 7] ()))))) <|
(.call none 74 [.v 6] 1 [] <|
(.leaf .ret [.v 7] ()))))))
def tm65 : Tm Unit :=
(.lt none .inb [.v 1, .v 2] 0 <|
(.lt none (.row 1 0 [false]) [.v 1, .v 2] 1 <|
(.lt none .len [.v 4] 1 <|
(.lt none (.bin .leq) [.v 3, .v 5] 1 <|
(.ite (.v 6)
(.lt none .inb [.v 1, .v 2] 0 <|
(.lt none (.row 1 0 [false]) [.v 1, .v 2] 1 <|
(.lt none (.bin .sub) [.v 3, .c (.int .i64 1)] 1 <|
(.lt none .inb [.v 7, .v 8] 0 <|
(.lt none (.row 10 0 [true, true, true, true, true, true, true, true, true, false]) [.v 7, .v 8] 10 <|
(.call none 66 [.v 9, .v 10, .v 11, .v 12, .v 13, .v 14, .v 15, .v 16, .v 17, .v 18] 10 [] <|
(.leaf .ret [.v 19, .v 20, .v 21, .v 22, .v 23, .v 24, .v 25, .v 26, .v 27, .v 28] ())))))))
(.call none 54 [.v 0] 2 [] <|
(.leaf .ret [.c (.int .i64 0), .c (.int .i64 0), .c (.int .i64 0), .c (.int .i64 0), .c (.int .i64 0), .c (.int .i64 0), .c (.int .i64 0), .c (.int .i64 0), .v 7, .v 8] ())))))))
def tm66 : Tm Unit :=
(.call none 67 [.v 8, .v 9] 2 [] <|
(.leaf .ret [.v 0, .v 1, .v 2, .v 3, .v 4, .v 5, .v 6, .v 7, .v 10, .v 11] ()))
def tm67 : Tm Unit :=
(.call none 68 [.v 1] 1 [] <|
(.leaf .ret [.v 0, .v 2] ()))
def tm68 : Tm Unit :=
(.lt none .ne [.v 0] 0 <|
(.lt none .emp [.v 0] 1 <|
(.ite (.v 1)
(.leaf .ret [.c (.rows 1 [])] ())
(.lt none (.mk 1 0) [] 1 <|
(.lt none (.app 1 8 true) [.v 2, .v 0] 1 <|
(.leaf .ret [.v 3] ()))))))
def tm69 : Tm Unit :=
(.lt none (.mk 1 0) [] 1 <|
(.lt none .len [.v 1] 1 <|
(.bind 1
(.loop [.v 2, .c (.int .i64 0)]
(.lt none (.bin .lss) [.v 5, .v 3] 1 <|
(.ite (.v 6)
(.lt none .inb [.v 1, .v 5] 0 <|
(.lt none (.row 1 0 [true]) [.v 1, .v 5] 1 <|
(.bind 3
(.loop [.v 4, .c (.int .i64 1)]
(.lt none (.bin .leq) [.v 9, .v 7] 1 <|
(.ite (.v 10)
(.lt none (.mk 1 2) [.v 5, .v 9] 1 <|
(.lt none (.mk 1 1) [.v 11] 1 <|
(.lt none (.app 1 24 false) [.v 8, .v 12] 1 <|
(.lt none (.bin .add) [.v 9, .c (.int .i64 1)] 1 <|
(.leaf .cont [.v 13, .v 14] ())))))
(.leaf (.yield 3) [.v 8] ())))) <|
(.lt none (.bin .add) [.v 5, .c (.int .i64 1)] 1 <|
(.leaf .cont [.v 8, .v 9] ())))))
(.leaf (.yield 1) [.v 4] ())))) <|
(.leaf .ret [.v 4] ()))))
def tm70 : Tm Unit :=
(.call none 71 [.v 0, .v 1] 1 [] <|
(.leaf .ret [.v 2] ()))
def tm71 : Tm Unit :=
(.call none 72 [.v 0, .v 1] 1 [] <|
(.lt none (.bin .geq) [.v 2, .c (.int .i64 0)] 1 <|
(.leaf .ret [.v 3] ())))
def tm72 : Tm Unit :=
(.lt none .len [.v 0] 1 <|
(.bind 1
(.loop [.c (.int .i64 0)]
(.lt none (.bin .lss) [.v 3, .v 2] 1 <|
(.ite (.v 4)
(.lt none .inb [.v 0, .v 3] 0 <|
(.lt none (.row 1 0 [false]) [.v 0, .v 3] 1 <|
(.call none 73 [.v 5, .v 1] 1 [] <|
(.ite (.v 6)
(.leaf .ret [.v 3] ())
(.lt none (.bin .add) [.v 3, .c (.int .i64 1)] 1 <|
(.leaf .cont [.v 7] ()))))))
(.leaf (.yield 1) [] ())))) <|
(.leaf .ret [.c (.int .i64 (-1))] ())))
def tm73 : Tm Unit :=
(.call none 56 [.v 1, .v 0] 1 [] <|
(.leaf .ret [.v 2] ()))
def tm74 : Tm Unit := .stuck
def tm75 : Tm Unit :=
(.lt none .len [.v 0] 1 <|
(.lt none .len [.v 1] 1 <|
(.lt none (.bin .neq) [.v 2, .v 3] 1 <|
(.ite (.v 4)
(.leaf .ret [.c (.bool false)] ())
(.bind 1
(.loop [.c (.int .i64 0)]
(.lt none .len [.v 0] 1 <|
(.lt none (.bin .lss) [.v 5, .v 6] 1 <|
(.ite (.v 7)
(.lt none .inb [.v 0, .v 5] 0 <|
(.lt none (.row 1 0 [false]) [.v 0, .v 5] 1 <|
(.lt none .inb [.v 1, .v 5] 0 <|
(.lt none (.row 1 0 [false]) [.v 1, .v 5] 1 <|
(.call none 76 [.v 8, .v 9] 1 [] <|
(.lt none .not [.v 10] 1 <|
(.ite (.v 11)
(.leaf .ret [.c (.bool false)] ())
(.lt none (.bin .add) [.v 5, .c (.int .i64 1)] 1 <|
(.leaf .cont [.v 12] ())))))))))
(.leaf (.yield 1) [] ()))))) <|
(.leaf .ret [.c (.bool true)] ()))))))
def tm76 : Tm Unit :=
(.lt none .len [.v 0] 1 <|
(.lt none .len [.v 1] 1 <|
(.lt none (.bin .neq) [.v 2, .v 3] 1 <|
(.ite (.v 4)
(.leaf .ret [.c (.bool false)] ())
(.bind 1
(.loop [.c (.int .i64 0)]
(.lt none .len [.v 0] 1 <|
(.lt none (.bin .lss) [.v 5, .v 6] 1 <|
(.ite (.v 7)
(.lt none .inb [.v 0, .v 5] 0 <|
(.lt none (.row 1 0 [true]) [.v 0, .v 5] 1 <|
(.lt none .inb [.v 1, .v 5] 0 <|
(.lt none (.row 1 0 [true]) [.v 1, .v 5] 1 <|
(.lt none (.bin .neq) [.v 8, .v 9] 1 <|
(.ite (.v 10)
(.leaf .ret [.c (.bool false)] ())
(.lt none (.bin .add) [.v 5, .c (.int .i64 1)] 1 <|
(.leaf .cont [.v 11] ()))))))))
(.leaf (.yield 1) [] ()))))) <|
(.leaf .ret [.c (.bool true)] ()))))))
def tm77 : Tm Unit :=
(.lt none (.bin .neq) [.v 0, .v 2] 1 <|
(.ite (.v 4)
(.leaf .ret [.c (.bool false)] ())
(.call none 78 [.v 1, .v 3] 1 [] <|
(.lt none .not [.v 5] 1 <|
(.ite (.v 6)
(.leaf .ret [.c (.bool false)] ())
(.leaf .ret [.c (.bool true)] ()))))))
def tm78 : Tm Unit :=
(.lt none .len [.v 0] 1 <|
(.lt none .len [.v 1] 1 <|
(.lt none (.bin .neq) [.v 2, .v 3] 1 <|
(.ite (.v 4)
(.leaf .ret [.c (.bool false)] ())
(.bind 1
(.loop [.c (.int .i64 0)]
(.lt none .len [.v 0] 1 <|
(.lt none (.bin .lss) [.v 5, .v 6] 1 <|
(.ite (.v 7)
(.lt none .inb [.v 0, .v 5] 0 <|
(.lt none (.row 1 0 [false]) [.v 0, .v 5] 1 <|
(.lt none .inb [.v 1, .v 5] 0 <|
(.lt none (.row 1 0 [false]) [.v 1, .v 5] 1 <|
(.call none 79 [.v 8, .v 9] 1 [] <|
(.lt none .not [.v 10] 1 <|
(.ite (.v 11)
(.leaf .ret [.c (.bool false)] ())
(.lt none (.bin .add) [.v 5, .c (.int .i64 1)] 1 <|
(.leaf .cont [.v 12] ())))))))))
(.leaf (.yield 1) [] ()))))) <|
(.leaf .ret [.c (.bool true)] ()))))))
def tm79 : Tm Unit :=
(.lt none .len [.v 0] 1 <|
(.lt none .len [.v 1] 1 <|
(.lt none (.bin .neq) [.v 2, .v 3] 1 <|
(.ite (.v 4)
(.leaf .ret [.c (.bool false)] ())
(.bind 1
(.loop [.c (.int .i64 0)]
(.lt none .len [.v 0] 1 <|
(.lt none (.bin .lss) [.v 5, .v 6] 1 <|
(.ite (.v 7)
(.lt none .inb [.v 0, .v 5] 0 <|
(.lt none (.row 10 0 [true, true, true, true, true, true, true, true, true, false]) [.v 0, .v 5] 10 <|
(.lt none .inb [.v 1, .v 5] 0 <|
(.lt none (.row 10 0 [true, true, true, true, true, true, true, true, true, false]) [.v 1, .v 5] 10 <|
(.call none 80 [.v 8, .v 9, .v 10, .v 11, .v 12, .v 13, .v 14, .v 15, .v 16, .v 17, .v 18, .v 19, .v 20, .v 21, .v 22, .v 23, .v 24, .v 25, .v 26, .v 27] 1 [] <|
(.lt none .not [.v 28] 1 <|
(.ite (.v 29)
(.leaf .ret [.c (.bool false)] ())
(.lt none (.bin .add) [.v 5, .c (.int .i64 1)] 1 <|
(.leaf .cont [.v 30] ())))))))))
(.leaf (.yield 1) [] ()))))) <|
(.leaf .ret [.c (.bool true)] ()))))))
def tm80 : Tm Unit :=
(.lt none (.bin .neq) [.v 0, .v 10] 1 <|
(.ite (.v 20)
(.leaf .ret [.c (.bool false)] ())
(.lt none (.bin .neq) [.v 1, .v 11] 1 <|
(.ite (.v 21)
(.leaf .ret [.c (.bool false)] ())
(.lt none (.bin .neq) [.v 2, .v 12] 1 <|
(.ite (.v 22)
(.leaf .ret [.c (.bool false)] ())
(.call none 81 [.v 3, .v 4, .v 5, .v 6, .v 7, .v 13, .v 14, .v 15, .v 16, .v 17] 1 [] <|
(.lt none .not [.v 23] 1 <|
(.ite (.v 24)
(.leaf .ret [.c (.bool false)] ())
(.call none 82 [.v 8, .v 9, .v 18, .v 19] 1 [] <|
(.lt none .not [.v 25] 1 <|
(.ite (.v 26)
(.leaf .ret [.c (.bool false)] ())
(.leaf .ret [.c (.bool true)] ())))))))))))))
def tm81 : Tm Unit :=
(.lt none (.bin .neq) [.v 0, .v 5] 1 <|
(.ite (.v 10)
(.leaf .ret [.c (.bool false)] ())
(.lt none (.bin .neq) [.v 1, .v 6] 1 <|
(.ite (.v 11)
(.leaf .ret [.c (.bool false)] ())
(.lt none (.bin .neq) [.v 2, .v 7] 1 <|
(.ite (.v 12)
(.leaf .ret [.c (.bool false)] ())
(.lt none (.bin .neq) [.v 3, .v 8] 1 <|
(.ite (.v 13)
(.leaf .ret [.c (.bool false)] ())
(.lt none (.bin .neq) [.v 4, .v 9] 1 <|
(.ite (.v 14)
(.leaf .ret [.c (.bool false)] ())
(.leaf .ret [.c (.bool true)] ())))))))))))
def tm82 : Tm Unit :=
(.lt none (.bin .neq) [.v 0, .v 2] 1 <|
(.ite (.v 4)
(.leaf .ret [.c (.bool false)] ())
(.call none 76 [.v 1, .v 3] 1 [] <|
(.lt none .not [.v 5] 1 <|
(.ite (.v 6)
(.leaf .ret [.c (.bool false)] ())
(.leaf .ret [.c (.bool true)] ()))))))
def tm83 : Tm Unit :=
(.call none 84 [.v 1, .v 2] 2 [] <|
(.leaf .ret [.v 3, .v 4] ()))
def tm84 : Tm Unit :=
(.bind 1
(.loop [.v 0, .c .undef, .v 1, .c (.int .i64 0)]
(.lt none .len [.v 2] 1 <|
(.lt none (.bin .lss) [.v 5, .v 6] 1 <|
(.ite (.v 7)
(.lt none .inb [.v 2, .v 5] 0 <|
(.lt none (.row 1 0 [false]) [.v 2, .v 5] 1 <|
(.call none 85 [.v 8, .v 4] 2 [] <|
(.lt none (.set 1 0 1) [.v 2, .v 5, .v 10] 1 <|
(.lt none (.bin .add) [.v 5, .c (.int .i64 1)] 1 <|
(.leaf .cont [.v 11, .c .undef, .v 9, .v 12] ()))))))
(.leaf (.yield 1) [.v 2, .v 4] ()))))) <|
(.leaf .ret [.v 3, .v 2] ()))
def tm85 : Tm Unit :=
(.bind 1
(.loop [.v 0, .c .undef, .v 1, .c (.int .i64 0)]
(.lt none .len [.v 2] 1 <|
(.lt none (.bin .lss) [.v 5, .v 6] 1 <|
(.ite (.v 7)
(.lt none .inb [.v 2, .v 5] 0 <|
(.lt none (.set 10 0 1) [.v 2, .v 5, .v 4] 1 <|
(.lt none (.bin .add) [.v 4, .c (.int .i64 1)] 1 <|
(.lt none .inb [.v 8, .v 5] 0 <|
(.lt none (.set 10 1 1) [.v 8, .v 5, .v 9] 1 <|
(.lt none (.bin .add) [.v 9, .c (.int .i64 1)] 1 <|
(.lt none .inb [.v 10, .v 5] 0 <|
(.lt none (.set 10 2 1) [.v 10, .v 5, .v 11] 1 <|
(.lt none (.bin .add) [.v 11, .c (.int .i64 1)] 1 <|
(.lt none .inb [.v 12, .v 5] 0 <|
(.lt none (.set 10 3 1) [.v 12, .v 5, .v 13] 1 <|
(.lt none (.bin .add) [.v 13, .c (.int .i64 1)] 1 <|
(.lt none .inb [.v 14, .v 5] 0 <|
(.lt none (.set 10 4 1) [.v 14, .v 5, .v 15] 1 <|
(.lt none (.bin .add) [.v 15, .c (.int .i64 1)] 1 <|
(.lt none .inb [.v 16, .v 5] 0 <|
(.lt none (.set 10 5 1) [.v 16, .v 5, .v 17] 1 <|
(.lt none (.bin .add) [.v 17, .c (.int .i64 1)] 1 <|
(.lt none .inb [.v 18, .v 5] 0 <|
(.lt none (.set 10 6 1) [.v 18, .v 5, .v 19] 1 <|
(.lt none (.bin .add) [.v 19, .c (.int .i64 1)] 1 <|
(.lt none .inb [.v 20, .v 5] 0 <|
(.lt none (.set 10 7 1) [.v 20, .v 5, .v 21] 1 <|
(.lt none (.bin .add) [.v 21, .c (.int .i64 1)] 1 <|
(.lt none .inb [.v 22, .v 5] 0 <|
(.lt none (.set 10 8 1) [.v 22, .v 5, .v 23] 1 <|
(.lt none (.bin .add) [.v 23, .c (.int .i64 1)] 1 <|
(.lt none .inb [.v 24, .v 5] 0 <|
(.lt none (.row 10 9 [false]) [.v 24, .v 5] 1 <|
(.call none 86 [.v 26, .v 25] 2 [] <|
(.lt none (.set 10 9 1) [.v 24, .v 5, .v 28] 1 <|
(.lt none (.bin .add) [.v 5, .c (.int .i64 1)] 1 <|
(.leaf .cont [.v 29, .c .undef, .v 27, .v 30] ())))))))))))))))))))))))))))))))))
(.leaf (.yield 1) [.v 2, .v 4] ()))))) <|
(.leaf .ret [.v 3, .v 2] ()))
def tm86 : Tm Unit :=
(.bind 1
(.loop [.v 0, .c .undef, .v 1, .c (.int .i64 0)]
(.lt none .len [.v 2] 1 <|
(.lt none (.bin .lss) [.v 5, .v 6] 1 <|
(.ite (.v 7)
(.lt none .inb [.v 2, .v 5] 0 <|
(.lt none (.set 1 0 1) [.v 2, .v 5, .v 4] 1 <|
(.lt none (.bin .add) [.v 4, .c (.int .i64 1)] 1 <|
(.lt none (.bin .add) [.v 5, .c (.int .i64 1)] 1 <|
(.leaf .cont [.v 8, .c .undef, .v 9, .v 10] ())))))
(.leaf (.yield 1) [.v 2, .v 4] ()))))) <|
(.leaf .ret [.v 3, .v 2] ()))
def tm87 : Tm Unit :=
(.bind 1
(.loop [.v 0, .c .undef, .v 1, .c (.int .i64 0)]
(.lt none .len [.v 2] 1 <|
(.lt none (.bin .lss) [.v 5, .v 6] 1 <|
(.ite (.v 7)
(.lt none .inb [.v 2, .v 5] 0 <|
(.lt none (.row 1 0 [false]) [.v 2, .v 5] 1 <|
(.call none 86 [.v 8, .v 4] 2 [] <|
(.lt none (.set 1 0 1) [.v 2, .v 5, .v 10] 1 <|
(.lt none (.bin .add) [.v 5, .c (.int .i64 1)] 1 <|
(.leaf .cont [.v 11, .c .undef, .v 9, .v 12] ()))))))
(.leaf (.yield 1) [.v 2, .v 4] ()))))) <|
(.leaf .ret [.v 3, .v 2] ()))
def tm88 : Tm Unit :=
(.bind 1
(.loop [.v 1, .c (.int .i64 0)]
(.lt none .len [.v 0] 1 <|
(.lt none (.bin .lss) [.v 3, .v 4] 1 <|
(.ite (.v 5)
(.lt none .inb [.v 0, .v 3] 0 <|
(.lt none (.row 1 0 [false]) [.v 0, .v 3] 1 <|
(.call none 89 [.v 6, .v 2] 1 [] <|
(.lt none (.bin .lss) [.v 7, .c (.int .i64 0)] 1 <|
(.ite (.v 8)
(.leaf .ret [.c (.int .i64 (-1))] ())
(.lt none (.bin .add) [.v 3, .c (.int .i64 1)] 1 <|
(.leaf .cont [.v 7, .v 9] ())))))))
(.leaf (.yield 1) [.v 2] ()))))) <|
(.leaf .ret [.v 2] ()))
def tm89 : Tm Unit :=
(.bind 1
(.loop [.v 1, .c (.int .i64 0)]
(.lt none .len [.v 0] 1 <|
(.lt none (.bin .lss) [.v 3, .v 4] 1 <|
(.ite (.v 5)
(.lt none .inb [.v 0, .v 3] 0 <|
(.lt none (.row 1 0 [true]) [.v 0, .v 3] 1 <|
(.lt none (.bin .neq) [.v 6, .v 2] 1 <|
(.ite (.v 7)
(.leaf .ret [.c (.int .i64 (-1))] ())
(.lt none (.bin .add) [.v 2, .c (.int .i64 1)] 1 <|
(.lt none (.bin .add) [.v 3, .c (.int .i64 1)] 1 <|
(.leaf .cont [.v 8, .v 9] ())))))))
(.leaf (.yield 1) [.v 2] ()))))) <|
(.leaf .ret [.v 2] ()))
theorem cl68 : ∀ n, Contract Tryz.prog (entTab [(68, .tm tm68)]) n 68 sg68 := fun n => contracts tiL_ok (by kernel_rfl) (fnOk_all (List.forall_mem_cons.2 ⟨fnOk_tm (E := ⟨tiTab tiL, [(68, sg68)], 0, 0, false, false, [], []⟩) Tryz.func188 (by kernel_rfl) (tm := tm68) (by kernel_rfl) (by kernel_rfl), List.forall_mem_nil _⟩)) n 68 sg68 (by simp)
def ren68 : Go.Shelf.Ren := ⟨fun | 41 => 188 | n => n, fun | 4 => 4 | 22 => 45 | 23 => 3 | n => n, fun n => n⟩
theorem lays68 : Go.Proofs.SlLaysE0.n41 Tryz.prog ren68 := { mixed := by kernel_rfl, f41 := ⟨Tryz.f188.name, by kernel_rfl, Tryz.func188.trans (congrArg some (by kernel_rfl))⟩, t4 := Tryz.underlying4, a4 := Tryz.isAgg4, z4 := Tryz.sizeOf4, v4 := Tryz.zeroValue4, t22 := Tryz.underlying45, a22 := Tryz.isAgg45, z22 := Tryz.sizeOf45, v22 := Tryz.zeroValue45 }
noncomputable def ex68 : List D → Option (List D) := cloneE 1 (entTab [(68, .tm tm68)]) 68

noncomputable def T : Nat → Ent := entTab [(0, .tm tm0), (1, .tm tm1), (2, .tm tm2), (3, .tm tm3), (4, .tm tm4), (5, .tm tm5), (6, .tm tm6), (7, .tm tm7), (8, .tm tm8), (9, .tm tm9), (10, .tm tm10), (11, .tm tm11), (12, .tm tm12), (13, .tm tm13), (14, .tm tm14), (15, .tm tm15), (16, .tm tm16), (17, .tm tm17), (18, .tm tm18), (19, .tm tm19), (20, .tm tm20), (21, .tm tm21), (22, .tm tm22), (23, .tm tm23), (24, .tm tm24), (25, .tm tm25), (26, .tm tm26), (27, .tm tm27), (28, .tm tm28), (29, .tm tm29), (30, .tm tm30), (31, .tm tm31), (32, .tm tm32), (33, .tm tm33), (34, .tm tm34), (35, .tm tm35), (36, .tm tm36), (37, .tm tm37), (38, .tm tm38), (39, .tm tm39), (40, .tm tm40), (41, .tm tm41), (42, .tm tm42), (43, .tm tm43), (44, .tm tm44), (45, .tm tm45), (46, .tm tm46), (47, .tm tm47), (48, .tm tm48), (49, .tm tm49), (50, .tm tm50), (51, .tm tm51), (52, .tm tm52), (53, .tm tm53), (54, .tm tm54), (55, .tm tm55), (56, .tm tm56), (57, .tm tm57), (58, .tm tm58), (59, .tm tm59), (60, .tm tm60), (61, .tm tm61), (62, .tm tm62), (63, .tm tm63), (64, .tm tm64), (65, .tm tm65), (66, .tm tm66), (67, .tm tm67), (68, .ext ex68), (69, .tm tm69), (70, .tm tm70), (71, .tm tm71), (72, .tm tm72), (73, .tm tm73), (74, .ext sortPE), (75, .tm tm75), (76, .tm tm76), (77, .tm tm77), (78, .tm tm78), (79, .tm tm79), (80, .tm tm80), (81, .tm tm81), (82, .tm tm82), (83, .tm tm83), (84, .tm tm84), (85, .tm tm85), (86, .tm tm86), (87, .tm tm87), (88, .tm tm88), (89, .tm tm89)]
abbrev K := FnOk Tryz.prog T (tiTab tiL) sigs
theorem o68 : FnOk Tryz.prog T (tiTab tiL) sigs 68 sg68 := clone_ent (m := 98) lays68 rfl (by kernel_rfl) Tryz.sizeOf3 cl68 rfl
def Tryz.laysF110_ren : Go.Shelf.Ren := ⟨fun | 6 => 110 | 15 => 161 | 14 => 160 | 28 => 197 | 29 => 198 | 20 => 189 | 21 => 190 | 22 => 191 | 23 => 192 | 24 => 193 | 25 => 194 | 26 => 195 | 27 => 196 | 46 => 214 | 47 => 215 | 48 => 216 | 49 => 217 | 50 => 218 | 57 => 231 | n => n, fun | 22 => 26 | 24 => 45 | 25 => 132 | 3 => 3 | 39 => 175 | 0 => 0 | 53 => 199 | 55 => 95 | 4 => 4 | 46 => 192 | 45 => 191 | 50 => 196 | 5 => 5 | 9 => 9 | 66 => 210 | 70 => 214 | 76 => 225 | 77 => 99 | n => n, fun | n => n⟩
theorem Tryz.laysF110 : Go.Proofs.SlLaysF.n6 Tryz.prog Tryz.laysF110_ren := {
  mixed := by kernel_rfl
  f6 := ⟨Tryz.f110.name, by decide, Tryz.func110.trans (congrArg some (by kernel_rfl))⟩
  f14 := ⟨Tryz.f160.name, by decide, Tryz.func160.trans (congrArg some (by kernel_rfl))⟩
  f15 := Tryz.func161.trans (congrArg some (by kernel_rfl))
  f20 := ⟨Tryz.f189.name, by decide, Tryz.func189.trans (congrArg some (by kernel_rfl))⟩
  f21 := ⟨Tryz.f190.name, by decide, Tryz.func190.trans (congrArg some (by kernel_rfl))⟩
  f22 := ⟨Tryz.f191.name, by decide, Tryz.func191.trans (congrArg some (by kernel_rfl))⟩
  f23 := ⟨Tryz.f192.name, by decide, Tryz.func192.trans (congrArg some (by kernel_rfl))⟩
  f24 := ⟨Tryz.f193.name, by decide, Tryz.func193.trans (congrArg some (by kernel_rfl))⟩
  f25 := ⟨Tryz.f194.name, by decide, Tryz.func194.trans (congrArg some (by kernel_rfl))⟩
  f26 := ⟨Tryz.f195.name, by decide, Tryz.func195.trans (congrArg some (by kernel_rfl))⟩
  f27 := ⟨Tryz.f196.name, by decide, Tryz.func196.trans (congrArg some (by kernel_rfl))⟩
  f28 := Tryz.func197.trans (congrArg some (by kernel_rfl))
  f29 := Tryz.func198.trans (congrArg some (by kernel_rfl))
  f46 := ⟨Tryz.f214.name, by decide, Tryz.func214.trans (congrArg some (by kernel_rfl))⟩
  f47 := Tryz.func215.trans (congrArg some (by kernel_rfl))
  f48 := Tryz.func216.trans (congrArg some (by kernel_rfl))
  f49 := ⟨Tryz.f217.name, by decide, Tryz.func217.trans (congrArg some (by kernel_rfl))⟩
  f50 := ⟨Tryz.f218.name, by decide, Tryz.func218.trans (congrArg some (by kernel_rfl))⟩
  f57 := ⟨Tryz.f231.name, by decide, Tryz.func231.trans (congrArg some (by kernel_rfl))⟩
  t0 := Tryz.underlying0
  a0 := Tryz.isAgg0
  z0 := Tryz.sizeOf0
  v0 := Tryz.zeroValue0
  t3 := Tryz.underlying3
  a3 := Tryz.isAgg3
  z3 := Tryz.sizeOf3
  v3 := Tryz.zeroValue3
  t4 := Tryz.underlying4
  a4 := Tryz.isAgg4
  z4 := Tryz.sizeOf4
  v4 := Tryz.zeroValue4
  t5 := Tryz.underlying5
  a5 := Tryz.isAgg5
  z5 := Tryz.sizeOf5
  v5 := Tryz.zeroValue5
  t9 := Tryz.underlying9
  a9 := Tryz.isAgg9
  z9 := Tryz.sizeOf9
  v9 := Tryz.zeroValue9
  t22 := Tryz.underlying26
  a22 := Tryz.isAgg26
  z22 := Tryz.sizeOf26
  v22 := Tryz.zeroValue26
  a24 := Tryz.isAgg45
  z24 := Tryz.sizeOf45
  t25 := Tryz.underlying132
  a25 := Tryz.isAgg132
  z25 := Tryz.sizeOf132
  v25 := Tryz.zeroValue132
  t39 := Tryz.underlying175
  a39 := Tryz.isAgg175
  z39 := Tryz.sizeOf175
  v39 := Tryz.zeroValue175
  t45 := Tryz.underlying191
  a45 := Tryz.isAgg191
  z45 := Tryz.sizeOf191
  v45 := Tryz.zeroValue191
  t46 := Tryz.underlying192
  a46 := Tryz.isAgg192
  z46 := Tryz.sizeOf192
  v46 := Tryz.zeroValue192
  t50 := Tryz.underlying196
  a50 := Tryz.isAgg196
  z50 := Tryz.sizeOf196
  v50 := Tryz.zeroValue196
  t53 := Tryz.underlying199
  a53 := Tryz.isAgg199
  z53 := Tryz.sizeOf199
  v53 := Tryz.zeroValue199
  t55 := Tryz.underlying95
  a55 := Tryz.isAgg95
  z55 := Tryz.sizeOf95
  v55 := Tryz.zeroValue95
  t66 := Tryz.underlying210
  a66 := Tryz.isAgg210
  z66 := Tryz.sizeOf210
  v66 := Tryz.zeroValue210
  t70 := Tryz.underlying214
  a70 := Tryz.isAgg214
  z70 := Tryz.sizeOf214
  v70 := Tryz.zeroValue214
  t76 := Tryz.underlying225
  a76 := Tryz.isAgg225
  z76 := Tryz.sizeOf225
  v76 := Tryz.zeroValue225
  t77 := Tryz.underlying99
  a77 := Tryz.isAgg99
  z77 := Tryz.sizeOf99
  v77 := Tryz.zeroValue99 }
open Go.RowKit in
set_option maxHeartbeats 2000000 in
theorem nanW (x : Int) (w : World) : Calls Tryz.prog 199 #[.int .i64 x] w fun e w' => e = .returned (.bool false) ∧ w' = w := by
  go_enter Tryz.func199, Tryz.ntmps199
  go_wp2
  go_ret
  exact ⟨by simp, rfl⟩
open Go.RowKit in
set_option maxHeartbeats 2000000 in
theorem cmpW (x y : Int) (w : World) : Calls Tryz.prog 162 #[.int .i64 x, .int .i64 y] w fun e w' => e = .returned (.int .i64 (if x < y then -1 else if y < x then 1 else 0)) ∧ w' = w := by
  rcases Int.lt_trichotomy x y with h | h | h
  · go_enter Tryz.func162, Tryz.ntmps162
    go_wp2_with (go_at_call 199; refine (nanW _ _).mono ?_; rintro e w' ⟨rfl, hw⟩; rw [hw])
    go_ret
    exact ⟨by simp [h], rfl⟩
  · subst h
    go_enter Tryz.func162, Tryz.ntmps162
    go_wp2_with (go_at_call 199; refine (nanW _ _).mono ?_; rintro e w' ⟨rfl, hw⟩; rw [hw])
    go_ret
    exact ⟨by simp, rfl⟩
  · have h2 : ¬ x < y := by omega
    go_enter Tryz.func162, Tryz.ntmps162
    go_wp2_with (go_at_call 199; refine (nanW _ _).mono ?_; rintro e w' ⟨rfl, hw⟩; rw [hw])
    go_ret
    exact ⟨by simp [h, h2], rfl⟩
open Go.RowKit in
set_option maxHeartbeats 2000000 in
theorem pairW0 (a b : Addr) (ca cb : Nat) (x y : Int × Int) (w : World) (h1 : w.cell? a = some (.int .i64 x.1)) (h2 : w.cell? (a.add 1) = some (.int .i64 x.2)) (h3 : w.cell? b = some (.int .i64 y.1)) (h4 : w.cell? (b.add 1) = some (.int .i64 y.2)) :
    Calls Tryz.prog 112 #[.slice (some a) 2 ca, .slice (some b) 2 cb] w fun e w' => e = .returned (.int .i64 (cmpQ x y)) ∧ w' = w := by
  obtain ⟨x1, x2⟩ := x
  obtain ⟨y1, y2⟩ := y
  replace h2 : w.cell? ⟨a.block, a.off + 1, none⟩ = some (.int .i64 x2) := h2
  replace h4 : w.cell? ⟨b.block, b.off + 1, none⟩ = some (.int .i64 y2) := h4
  dsimp only at h1 h3
  rcases Int.lt_trichotomy x1 y1 with h | h | h
  · have e0 : cmpQ (x1, x2) (y1, y2) = -1 := by simp [cmpQ, ltQ, h]
    have hc := cmpW x1 y1
    rw [if_pos h] at hc
    go_enter Tryz.func112, Tryz.ntmps112
    go_wp2
    refine wp_loop_rounds 1 ?_
    rw [rounds_succ]
    go_wp2_with (go_at_call 162; refine (hc _).mono ?_; rintro e w' ⟨rfl, hw⟩; rw [hw])
    go_ret
    exact ⟨by rw [e0]; rfl, rfl⟩
  · subst h
    have hc := cmpW x1 x1
    rw [if_neg (by omega), if_neg (by omega)] at hc
    rcases Int.lt_trichotomy x2 y2 with h | h | h
    · have e0 : cmpQ (x1, x2) (x1, y2) = -1 := by simp [cmpQ, ltQ, h]
      have hd := cmpW x2 y2
      rw [if_pos h] at hd
      go_enter Tryz.func112, Tryz.ntmps112
      go_wp2
      refine wp_loop_rounds 2 ?_
      rw [rounds_succ]
      go_wp2_with (go_at_call 162; refine (hc _).mono ?_; rintro e w' ⟨rfl, hw⟩; rw [hw])
      rw [rounds_succ]
      go_wp2_with (go_at_call 162; refine (hd _).mono ?_; rintro e w' ⟨rfl, hw⟩; rw [hw])
      go_ret
      exact ⟨by rw [e0]; rfl, rfl⟩
    · subst h
      have e0 : cmpQ (x1, x2) (x1, x2) = 0 := by simp [cmpQ, ltQ]
      have hd := cmpW x2 x2
      rw [if_neg (by omega), if_neg (by omega)] at hd
      go_enter Tryz.func112, Tryz.ntmps112
      go_wp2
      refine wp_loop_rounds 3 ?_
      rw [rounds_succ]
      go_wp2_with (go_at_call 162; refine (hc _).mono ?_; rintro e w' ⟨rfl, hw⟩; rw [hw])
      rw [rounds_succ]
      go_wp2_with (go_at_call 162; refine (hd _).mono ?_; rintro e w' ⟨rfl, hw⟩; rw [hw])
      rw [rounds_succ]
      go_wp2
      go_ret
      exact ⟨by rw [e0]; rfl, rfl⟩
    · have e0 : cmpQ (x1, x2) (x1, y2) = 1 := by simp [cmpQ, ltQ, h]; omega
      have hd := cmpW x2 y2
      rw [if_neg (by omega), if_pos h] at hd
      go_enter Tryz.func112, Tryz.ntmps112
      go_wp2
      refine wp_loop_rounds 2 ?_
      rw [rounds_succ]
      go_wp2_with (go_at_call 162; refine (hc _).mono ?_; rintro e w' ⟨rfl, hw⟩; rw [hw])
      rw [rounds_succ]
      go_wp2_with (go_at_call 162; refine (hd _).mono ?_; rintro e w' ⟨rfl, hw⟩; rw [hw])
      go_ret
      exact ⟨by rw [e0]; rfl, rfl⟩
  · have e0 : cmpQ (x1, x2) (y1, y2) = 1 := by simp [cmpQ, ltQ, h]; omega
    have hc := cmpW x1 y1
    rw [if_neg (by omega), if_pos h] at hc
    go_enter Tryz.func112, Tryz.ntmps112
    go_wp2
    refine wp_loop_rounds 1 ?_
    rw [rounds_succ]
    go_wp2_with (go_at_call 162; refine (hc _).mono ?_; rintro e w' ⟨rfl, hw⟩; rw [hw])
    go_ret
    exact ⟨by rw [e0]; rfl, rfl⟩
open Go.RowKit in
set_option maxHeartbeats 2000000 in
theorem pairW111 : PairWalk Tryz.prog 111 := by
  intro a b ca cb x y w h1 h2 h3 h4
  have hc := fun W => pairW0 a b ca cb x y W
  go_enter Tryz.func111, Tryz.ntmps111
  go_wp2_with (go_at_call 112; refine (hc _ h1 h2 h3 h4).mono ?_; rintro e w' ⟨rfl, hw⟩; rw [hw])
  go_ret
  exact ⟨rfl, 0, #[], by rw [Go.Sort.grow_empty]; rfl⟩
theorem o74 : K 74 sg74 := sortP_ent Tryz.laysF110 rfl Tryz.func111 (by kernel_rfl) rfl pairW111 rfl
theorem o0 : K 0 sg0 := fnK (E := E0) (tm := tm0) Tryz.func4 (by kernel_rfl)
theorem o1 : K 1 sg1 := fnK (E := E0) (tm := tm1) Tryz.func10 (by kernel_rfl)
theorem o2 : K 2 sg2 := fnK (E := E0) (tm := tm2) Tryz.func53 (by kernel_rfl)
theorem o3 : K 3 sg3 := fnK (E := E0) (tm := tm3) Tryz.func94 (by kernel_rfl)
theorem o4 : K 4 sg4 := fnK (E := E0) (tm := tm4) Tryz.func151 (by kernel_rfl)
theorem o5 : K 5 sg5 := fnK (E := E0) (tm := tm5) Tryz.func184 (by kernel_rfl)
theorem o6 : K 6 sg6 := fnK (E := E0) (tm := tm6) Tryz.func212 (by kernel_rfl)
theorem o7 : K 7 sg7 := fnK (E := E0) (tm := tm7) Tryz.func12 (by kernel_rfl)
theorem o8 : K 8 sg8 := fnK (E := E0) (tm := tm8) Tryz.func57 (by kernel_rfl)
theorem o9 : K 9 sg9 := fnK (E := E0) (tm := tm9) Tryz.func100 (by kernel_rfl)
theorem o10 : K 10 sg10 := fnK (E := E0) (tm := tm10) Tryz.func154 (by kernel_rfl)
theorem o11 : K 11 sg11 := fnK (E := E0) (tm := tm11) Tryz.func186 (by kernel_rfl)
theorem o12 : K 12 sg12 := fnK (E := E0) (tm := tm12) Tryz.func187 (by kernel_rfl)
theorem o13 : K 13 sg13 := fnK (E := E0) (tm := tm13) Tryz.func213 (by kernel_rfl)
theorem o14 : K 14 sg14 := fnK (E := E0) (tm := tm14) Tryz.func19 (by kernel_rfl)
theorem o15 : K 15 sg15 := fnK (E := ⟨tiTab tiL, sigs, 0, 0, false, false, [], [(7, [(84, 0, 0, 0)], [3, 12, 60, 63, 66, 78, 81, 84, 1], 192, [1, 4, 7, 10, 13, 16, 19, 22, 25, 28, 31, 34, 37, 40, 43, 46, 49, 52, 55, 58, 61, 64, 67, 70, 73, 76, 79, 82, 85, 88, 91, 94, 97, 100, 103, 106, 109, 112, 115, 118, 121, 124, 127, 130, 133, 136, 139, 142, 145, 148, 151, 154, 157, 160, 163, 166, 169, 172, 175, 178, 181, 184, 187, 190, 193, 196, 199, 202, 205, 208, 211, 214, 217, 220, 223, 226, 229, 232, 235, 238, 241, 244, 247, 250, 253, 256, 259, 262, 265, 268, 271, 274, 277, 280, 283, 286, 289, 292, 295, 298, 301, 304, 307, 310, 313, 316, 319, 322, 325, 328, 331, 334, 337, 340, 343, 346, 349, 352, 355, 358, 361, 364, 367, 370, 373, 376, 379, 382, 385, 388, 391, 394, 397, 400, 403, 406, 409, 412, 415, 418, 421, 424, 427, 430, 433, 436, 439, 442, 445, 448, 451, 454, 457, 460, 463, 466, 469, 472, 475, 478, 481, 484, 487, 490, 493, 496, 499, 502, 505, 508, 511, 514, 517, 520, 523, 526, 529, 532, 535, 538, 541, 544, 547, 550, 553, 556, 559, 562, 565, 568, 571, 574, 577, 580, 583, 586, 589, 592, 595, 598, 601, 604, 607, 610, 613, 616, 619, 622, 625, 628, 631, 634, 637, 640, 643, 646, 649, 652, 655, 658, 661, 664, 667, 670, 673, 676, 679, 682, 685, 688, 691, 694, 697, 700, 703, 706, 709, 712, 715, 718, 721, 724, 727, 730, 733, 736, 739, 742, 745, 748, 751, 754, 757, 760, 763, 766, 769, 772, 775, 778, 781, 784, 787, 790, 793, 796, 799, 802, 805, 808, 811, 814, 817, 820, 823, 826, 829, 832, 835, 838, 841, 844, 847, 850, 853, 856, 859, 862]), (4, [(66, 0, 0, 0)], [3, 60, 63, 66, 1], 401, [])]⟩) (tm := tm15) Tryz.func64 (by kernel_rfl)
theorem o16 : K 16 sg16 := fnK (E := E0) (tm := tm16) Tryz.func115 (by kernel_rfl)
theorem o17 : K 17 sg17 := fnK (E := E0) (tm := tm17) Tryz.func116 (by kernel_rfl)
theorem o18 : K 18 sg18 := fnK (E := E0) (tm := tm18) Tryz.func152 (by kernel_rfl)
theorem o19 : K 19 sg19 := fnK (E := E0) (tm := tm19) Tryz.func96 (by kernel_rfl)
theorem o20 : K 20 sg20 := fnK (E := E0) (tm := tm20) Tryz.func164 (by kernel_rfl)
theorem o21 : K 21 sg21 := fnK (E := E0) (tm := tm21) Tryz.func142 (by kernel_rfl)
theorem o22 : K 22 sg22 := fnK (E := E0) (tm := tm22) Tryz.func165 (by kernel_rfl)
theorem o23 : K 23 sg23 := fnK (E := E0) (tm := tm23) Tryz.func201 (by kernel_rfl)
theorem o24 : K 24 sg24 := fnK (E := E0) (tm := tm24) Tryz.func219 (by kernel_rfl)
theorem o25 : K 25 sg25 := fnK (E := E0) (tm := tm25) Tryz.func166 (by kernel_rfl)
theorem o26 : K 26 sg26 := fnK (E := E0) (tm := tm26) Tryz.func202 (by kernel_rfl)
theorem o27 : K 27 sg27 := fnK (E := E0) (tm := tm27) Tryz.func65 (by kernel_rfl)
theorem o28 : K 28 sg28 := fnK (E := ⟨tiTab tiL, sigs, 0, 0, false, false, [], [(6, [(9, 0, 2, 99), (54, 0, 0, 0)], [9, 12, 27, 30, 33, 48, 51, 54, 1], 321, [1, 4, 7, 10, 13, 16, 19, 22, 25, 28, 31, 34, 37, 40, 43, 46, 49, 52, 55, 58, 61, 64, 67, 70, 73, 76, 79, 82, 85, 88, 91, 94, 97, 100, 103, 106, 109, 112, 115, 118, 121, 124, 127, 130, 133, 136, 139, 142, 145, 148, 151, 154, 157, 160, 163, 166, 169, 172, 175, 178, 181, 184, 187, 190, 193, 196, 199, 202, 205, 208, 211, 214, 217, 220, 223, 226, 229, 232, 235, 238, 241, 244, 247, 250, 253, 256, 259, 262, 265, 268, 271, 274, 277, 280, 283, 286, 289, 292, 295, 298, 301, 304, 307, 310, 313, 316, 319, 322, 325, 328, 331, 334, 1884]), (3, [(9, 0, 2, 99), (33, 0, 0, 0)], [9, 27, 30, 33, 1], 516, [])]⟩) (tm := tm28) Tryz.func117 (by kernel_rfl)
theorem o29 : K 29 sg29 := fnK (E := ⟨tiTab tiL, sigs, 0, 0, false, false, [], [(7, [(21, 0, 2, 1), (24, 0, 3, 0), (105, 0, 3, 0), (111, 0, 0, 0)], [9, 21, 24, 27, 105, 108, 111, 1], 501, [1, 4, 7, 10, 13, 16, 19, 22, 25, 28, 31, 34, 37, 40, 43, 46, 49, 52, 55, 58, 61, 64, 67, 70, 73, 76, 79, 82, 85, 88, 91, 94, 97, 100, 103, 106, 109, 112, 115, 118, 121, 124, 127, 130, 133, 136, 139, 142, 145, 148, 151, 154, 157, 160, 163, 166, 169, 172, 175, 178, 181, 184, 187, 190, 193, 196, 199, 202, 205, 208, 211, 214, 217, 220, 223, 226, 229, 232, 235, 238, 241, 244, 247, 250, 253, 256, 259, 262, 265, 268, 271, 274, 277, 280, 283, 286, 289, 292, 295, 298, 301, 304, 307, 310, 313, 316, 319, 322, 325, 328, 331, 334, 337, 340, 343, 346, 349, 352, 355, 358, 361, 364, 367, 370, 373, 376, 379, 382, 385, 388, 391, 394, 397, 400, 403, 406, 409, 412, 415, 418, 421, 424, 427, 430, 3105, 3932]), (4, [(21, 0, 2, 1), (24, 0, 3, 0), (27, 0, 0, 0)], [9, 21, 24, 27, 1], 891, [193, 240])]⟩) (tm := tm29) Tryz.func56 (by kernel_rfl)
theorem o30 : K 30 sg30 := fnK (E := ⟨tiTab tiL, sigs, 0, 0, false, false, [], [(7, [(24, 0, 2, 99), (33, 0, 0, 0)], [3, 6, 24, 27, 30, 33, 54, 57, 60, 1, 22], 340, [1, 4, 7, 10, 13, 16, 19, 22, 25, 28, 31, 34, 37, 40, 43, 46, 49, 52, 55, 58, 61, 64, 67, 70, 73, 76, 79, 82, 85, 88, 91, 94, 97, 100, 103, 106, 109, 112, 115, 118, 121, 124, 127, 130, 133, 136, 139, 142, 145, 148, 151, 154, 157, 160, 163, 166, 169, 172, 175, 178, 181, 184, 187, 190, 193, 196, 199, 202, 205, 208, 211, 214, 217, 220, 223, 226, 229, 232, 235, 238, 241, 244, 247, 250, 253, 256, 259, 262, 265, 268, 271, 274, 277, 280, 283, 286, 289, 292, 295, 298, 301, 304, 307, 310, 313, 316, 319, 322, 325, 328, 331, 334, 337, 340, 343, 346, 349, 352, 355, 358, 361, 364, 367, 370, 373, 376, 379, 382, 385, 388, 391, 394, 397, 400, 403, 406, 409, 412, 415, 418, 421, 424, 427, 430, 433, 436, 439, 442, 445, 448, 451, 454, 457, 460, 463, 466, 469, 472, 475, 478, 481, 484, 487, 490, 493, 496, 499, 502, 505, 508, 511, 514, 517, 520, 523, 526, 529, 532, 535, 538, 541, 544, 547, 550, 553, 556, 559, 562, 565, 568, 571, 574, 577, 580, 583, 586, 589, 592, 595, 598, 601, 604, 607, 610, 613, 616, 619, 622, 625, 628, 631, 634, 637, 640, 643, 646, 649, 652, 655, 658, 661, 664, 667, 670, 2277]), (4, [(24, 0, 2, 99), (60, 0, 0, 0)], [3, 6, 24, 54, 57, 60, 1, 22], 535, [241])]⟩) (tm := tm30) Tryz.func98 (by kernel_rfl)
theorem o31 : K 31 sg31 := fnK (E := E0) (tm := tm31) Tryz.func55 (by kernel_rfl)
theorem o32 : K 32 sg32 := fnK (E := E0) (tm := tm32) Tryz.func97 (by kernel_rfl)
theorem o33 : K 33 sg33 := fnK (E := E0) (tm := tm33) Tryz.func153 (by kernel_rfl)
theorem o34 : K 34 sg34 := fnK (E := E0) (tm := tm34) Tryz.func185 (by kernel_rfl)
theorem o35 : K 35 sg35 := fnK (E := E0) (tm := tm35) Tryz.func88 (by kernel_rfl)
theorem o36 : K 36 sg36 := fnK (E := E0) (tm := tm36) Tryz.func99 (by kernel_rfl)
theorem o37 : K 37 sg37 := fnK (E := E0) (tm := tm37) Tryz.func20 (by kernel_rfl)
theorem o38 : K 38 sg38 := fnK (E := E0) (tm := tm38) Tryz.func58 (by kernel_rfl)
theorem o39 : K 39 sg39 := fnK (E := E0) (tm := tm39) Tryz.func78 (by kernel_rfl)
theorem o40 : K 40 sg40 := fnK (E := E0) (tm := tm40) Tryz.func101 (by kernel_rfl)
theorem o41 : K 41 sg41 := fnK (E := E0) (tm := tm41) Tryz.func155 (by kernel_rfl)
theorem o42 : K 42 sg42 := fnK (E := E0) (tm := tm42) Tryz.func102 (by kernel_rfl)
theorem o43 : K 43 sg43 := fnK (E := E0) (tm := tm43) Tryz.func103 (by kernel_rfl)
theorem o44 : K 44 sg44 := fnK (E := E0) (tm := tm44) Tryz.func156 (by kernel_rfl)
theorem o45 : K 45 sg45 := fnK (E := E0) (tm := tm45) Tryz.func104 (by kernel_rfl)
theorem o46 : K 46 sg46 := fnK (E := E0) (tm := tm46) Tryz.func80 (by kernel_rfl)
theorem o47 : K 47 sg47 := fnK (E := E0) (tm := tm47) Tryz.func105 (by kernel_rfl)
theorem o48 : K 48 sg48 := fnK (E := E0) (tm := tm48) Tryz.func134 (by kernel_rfl)
theorem o49 : K 49 sg49 := fnK (E := E0) (tm := tm49) Tryz.func178 (by kernel_rfl)
theorem o50 : K 50 sg50 := fnK (E := E0) (tm := tm50) Tryz.func135 (by kernel_rfl)
theorem o51 : K 51 sg51 := fnK (E := E0) (tm := tm51) Tryz.func174 (by kernel_rfl)
theorem o52 : K 52 sg52 := fnK (E := E0) (tm := tm52) Tryz.func209 (by kernel_rfl)
theorem o53 : K 53 sg53 := fnK (E := E0) (tm := tm53) Tryz.func179 (by kernel_rfl)
theorem o54 : K 54 sg54 := fnK (E := E0) (tm := tm54) Tryz.func107 (by kernel_rfl)
theorem o55 : K 55 sg55 := fnK (E := E0) (tm := tm55) Tryz.func136 (by kernel_rfl)
theorem o56 : K 56 sg56 := fnK (E := E0) (tm := tm56) Tryz.func123 (by kernel_rfl)
theorem o57 : K 57 sg57 := fnK (E := E0) (tm := tm57) Tryz.func66 (by kernel_rfl)
theorem o58 : K 58 sg58 := fnK (E := E0) (tm := tm58) Tryz.func73 (by kernel_rfl)
theorem o59 : K 59 sg59 := fnK (E := ⟨tiTab tiL, sigs, 0, 0, false, false, [], [(5, [(54, 0, 0, 0), (1, 0, 2, 99)], [93, 3, 12, 27, 30, 33, 48, 51, 54, 1, 4], 240, [1, 4, 7, 10, 13, 16, 19, 22, 25, 28, 31, 34, 37, 40, 43, 46, 49, 52, 55, 58, 61, 64, 67, 70, 73, 76, 79, 82, 85, 88, 91, 94, 97, 100, 103, 106, 109, 112, 115, 118, 121, 124, 127, 130, 133, 136, 139, 142, 145, 148, 151, 154, 157, 160, 163, 166, 169, 172, 175, 178, 181, 184, 187, 190, 193, 196, 199, 202, 205, 208, 211, 214, 217, 220, 223, 226, 229, 232, 235, 238, 241, 1551]), (2, [(33, 0, 0, 0), (1, 0, 2, 99)], [93, 3, 27, 30, 33, 1, 4], 435, [0])]⟩) (tm := tm59) Tryz.func125 (by kernel_rfl)
theorem o60 : K 60 sg60 := fnK (E := E0) (tm := tm60) Tryz.func126 (by kernel_rfl)
theorem o61 : K 61 sg61 := fnK (E := ⟨tiTab tiL, sigs, 0, 0, false, true, [], []⟩) (tm := tm61) Tryz.func118 (by kernel_rfl)
theorem o62 : K 62 sg62 := fnK (E := E0) (tm := tm62) Tryz.func139 (by kernel_rfl)
theorem o63 : K 63 sg63 := fnK (E := E0) (tm := tm63) Tryz.func119 (by kernel_rfl)
theorem o64 : K 64 sg64 := fnK (E := ⟨tiTab tiL, sigs, 0, 0, false, false, [], [(6, [(15, 0, 2, 1), (18, 0, 2, 1), (21, 0, 2, 1), (99, 0, 3, 0), (105, 0, 0, 0)], [6, 15, 18, 21, 99, 102, 105, 1], 468, [1, 4, 7, 10, 13, 16, 19, 22, 25, 28, 31, 34, 37, 40, 43, 46, 49, 52, 55, 58, 61, 64, 67, 70, 73, 76, 79, 82, 85, 88, 91, 94, 97, 100, 103, 106, 109, 112, 115, 118, 121, 124, 127, 130, 133, 136, 139, 142, 145, 148, 151, 154, 157, 160, 163, 166, 169, 172, 175, 178, 181, 184, 187, 190, 193, 196, 199, 202, 205, 208, 211, 214, 217, 220, 223, 226, 229, 232, 235, 238, 241, 244, 247, 250, 253, 256, 259, 262, 265, 268, 271, 274, 277, 280, 283, 286, 289, 292, 295, 298, 301, 304, 307, 310, 313, 316, 319, 322, 325, 328, 331, 334, 337, 340, 343, 346, 349, 352, 355, 358, 361, 364, 367, 370, 373, 376, 379, 382, 385, 388, 391, 394, 397, 400, 403, 406, 409, 412, 415, 418, 421, 424, 427, 430, 433, 436, 439, 442, 445, 448, 451, 454, 457, 460, 463, 466, 469, 472, 475, 478, 3012, 3015, 3018, 3694, 3791]), (3, [(15, 0, 2, 1), (18, 0, 2, 1), (21, 0, 2, 1)], [6, 15, 18, 21, 1], 844, [144, 192, 384])]⟩) (tm := tm64) Tryz.func61 (by kernel_rfl)
theorem o65 : K 65 sg65 := fnK (E := E0) (tm := tm65) Tryz.func60 (by kernel_rfl)
theorem o66 : K 66 sg66 := fnK (E := E0) (tm := tm66) Tryz.func106 (by kernel_rfl)
theorem o67 : K 67 sg67 := fnK (E := E0) (tm := tm67) Tryz.func157 (by kernel_rfl)
theorem o69 : K 69 sg69 := fnK (E := ⟨tiTab tiL, sigs, 0, 0, false, false, [], [(6, [(9, 0, 2, 99), (18, 0, 0, 0)], [9, 12, 15, 18, 27, 30, 33, 1], 208, [1, 4, 7, 10, 13, 16, 19, 22, 25, 28, 31, 34, 37, 40, 43, 46, 49, 52, 55, 58, 61, 64, 67, 70, 73, 76, 79, 82, 85, 88, 91, 94, 97, 100, 103, 106, 109, 112, 115, 118, 121, 124, 127, 130, 133, 136, 139, 142, 145, 148, 151, 154, 157, 160, 163, 166, 169, 172, 175, 178, 181, 184, 187, 190, 193, 196, 199, 202, 205, 208, 211, 214, 217, 220, 223, 226, 229, 232, 235, 238, 241, 244, 247, 250, 253, 256, 259, 262, 265, 268, 271, 274, 277, 280, 283, 286, 289, 292, 295, 298, 301, 304, 307, 310, 313, 316, 319, 322, 325, 328, 331, 334, 337, 340, 343, 346, 349, 352, 355, 358, 361, 364, 367, 370, 373, 376, 379, 382, 1593]), (3, [(9, 0, 2, 99), (33, 0, 0, 0)], [9, 27, 30, 33, 1], 403, [96])]⟩) (tm := tm69) Tryz.func108 (by kernel_rfl)
theorem o70 : K 70 sg70 := fnK (E := E0) (tm := tm70) Tryz.func109 (by kernel_rfl)
theorem o71 : K 71 sg71 := fnK (E := E0) (tm := tm71) Tryz.func158 (by kernel_rfl)
theorem o72 : K 72 sg72 := fnK (E := E0) (tm := tm72) Tryz.func139 (by kernel_rfl)
theorem o73 : K 73 sg73 := fnK (E := E0) (tm := tm73) Tryz.func159 (by kernel_rfl)
theorem o75 : K 75 sg75 := fnK (E := E0) (tm := tm75) Tryz.func14 (by kernel_rfl)
theorem o76 : K 76 sg76 := fnK (E := E0) (tm := tm76) Tryz.func47 (by kernel_rfl)
theorem o77 : K 77 sg77 := fnK (E := E0) (tm := tm77) Tryz.func15 (by kernel_rfl)
theorem o78 : K 78 sg78 := fnK (E := E0) (tm := tm78) Tryz.func62 (by kernel_rfl)
theorem o79 : K 79 sg79 := fnK (E := E0) (tm := tm79) Tryz.func113 (by kernel_rfl)
theorem o80 : K 80 sg80 := fnK (E := E0) (tm := tm80) Tryz.func163 (by kernel_rfl)
theorem o81 : K 81 sg81 := fnK (E := E0) (tm := tm81) Tryz.func150 (by kernel_rfl)
theorem o82 : K 82 sg82 := fnK (E := E0) (tm := tm82) Tryz.func200 (by kernel_rfl)
theorem o83 : K 83 sg83 := fnK (E := E0) (tm := tm83) Tryz.func16 (by kernel_rfl)
theorem o84 : K 84 sg84 := fnK (E := E0) (tm := tm84) Tryz.func63 (by kernel_rfl)
theorem o85 : K 85 sg85 := fnK (E := E0) (tm := tm85) Tryz.func114 (by kernel_rfl)
theorem o86 : K 86 sg86 := fnK (E := E0) (tm := tm86) Tryz.func49 (by kernel_rfl)
theorem o87 : K 87 sg87 := fnK (E := E0) (tm := tm87) Tryz.func17 (by kernel_rfl)
theorem o88 : K 88 sg88 := fnK (E := E0) (tm := tm88) Tryz.func18 (by kernel_rfl)
theorem o89 : K 89 sg89 := fnK (E := E0) (tm := tm89) Tryz.func51 (by kernel_rfl)
theorem fns_ok : ∀ key s, (key, s) ∈ sigs → FnOk Tryz.prog T (tiTab tiL) sigs key s := fnOk_all (fc o0 <| fc o1 <| fc o2 <| fc o3 <| fc o4 <| fc o5 <| fc o6 <| fc o7 <| fc o8 <| fc o9 <| fc o10 <| fc o11 <| fc o12 <| fc o13 <| fc o14 <| fc o15 <| fc o16 <| fc o17 <| fc o18 <| fc o19 <| fc o20 <| fc o21 <| fc o22 <| fc o23 <| fc o24 <| fc o25 <| fc o26 <| fc o27 <| fc o28 <| fc o29 <| fc o30 <| fc o31 <| fc o32 <| fc o33 <| fc o34 <| fc o35 <| fc o36 <| fc o37 <| fc o38 <| fc o39 <| fc o40 <| fc o41 <| fc o42 <| fc o43 <| fc o44 <| fc o45 <| fc o46 <| fc o47 <| fc o48 <| fc o49 <| fc o50 <| fc o51 <| fc o52 <| fc o53 <| fc o54 <| fc o55 <| fc o56 <| fc o57 <| fc o58 <| fc o59 <| fc o60 <| fc o61 <| fc o62 <| fc o63 <| fc o64 <| fc o65 <| fc o66 <| fc o67 <| fc o68 <| fc o69 <| fc o70 <| fc o71 <| fc o72 <| fc o73 <| fc o74 <| fc o75 <| fc o76 <| fc o77 <| fc o78 <| fc o79 <| fc o80 <| fc o81 <| fc o82 <| fc o83 <| fc o84 <| fc o85 <| fc o86 <| fc o87 <| fc o88 <| fc o89 <| fc0)
theorem contract : ∀ n, Contract Tryz.prog T n 0 sg0 := fun n => contracts tiL_ok (by kernel_rfl) fns_ok n 0 sg0 (by simp [sigs])
end FnExactReadyIn
end Go.Proofs.YtpgnlmfmlffjcaaGreat
