/- The terms of the functions that FnExactLogOf reaches (printed by the author's own program). -/
import Derived.Test.YtnlhnfifkninpaaDoorChecked
import Derived.Test.YtnlhnfifkninpaaDoorRf8
import Derived.KernelRfl
namespace Go.Proofs.YtnlhnfifkninpaaDoor
namespace FnExactLogOf
open Go Go.Proofs.YtnlhnfifkninpaaDoor.Rf
set_option maxRecDepth 100000

def t3 : TI := ⟨false, 1, 8, [.sc (.int .i64 0)], [], none, (some .i64), false, false, false, false⟩
theorem ti3 : tiOf Tryd.prog 3 = some t3 := by kernel_rfl
def t4 : TI := ⟨false, 1, 1, [.sc (.bool false)], [], none, none, true, false, false, false⟩
theorem ti4 : tiOf Tryd.prog 4 = some t4 := by kernel_rfl
def t5 : TI := ⟨false, 1, 1, [.sc (.int .u8 0)], [], none, (some .u8), false, false, false, false⟩
theorem ti5 : tiOf Tryd.prog 5 = some t5 := by kernel_rfl
def t9 : TI := ⟨false, 1, 16, [.sc (.str [])], [], none, none, false, true, false, false⟩
theorem ti9 : tiOf Tryd.prog 9 = some t9 := by kernel_rfl
def t23 : TI := ⟨true, 5, 40, [.sc (.int .i64 0), .sc (.int .i64 0), .sc (.int .i64 0), .sc (.int .i64 0), .sc (.int .i64 0)], [(0, 3), (1, 3), (2, 3), (3, 3), (4, 3)], none, none, false, false, false, true⟩
theorem ti23 : tiOf Tryd.prog 23 = some t23 := by kernel_rfl
def t24 : TI := ⟨false, 1, 24, [.sl 1], [], (some 3), none, false, false, false, false⟩
theorem ti24 : tiOf Tryd.prog 24 = some t24 := by kernel_rfl
def t26 : TI := ⟨true, 2, 32, [.sc (.int .i64 0), .sl 1], [(0, 3), (1, 24)], none, none, false, false, false, false⟩
theorem ti26 : tiOf Tryd.prog 26 = some t26 := by kernel_rfl
def t28 : TI := ⟨true, 10, 96, [.sc (.int .i64 0), .sc (.int .i64 0), .sc (.int .i64 0), .sc (.int .i64 0), .sc (.int .i64 0), .sc (.int .i64 0), .sc (.int .i64 0), .sc (.int .i64 0), .sc (.int .i64 0), .sl 1], [(0, 3), (1, 3), (2, 3), (3, 23), (8, 26)], none, none, false, false, false, false⟩
theorem ti28 : tiOf Tryd.prog 28 = some t28 := by kernel_rfl
def t32 : TI := ⟨true, 5, 40, [.sc (.int .i64 0), .sc (.int .i64 0), .sc (.int .i64 0), .sc (.int .i64 0), .sc (.int .i64 0)], [(0, 3), (1, 3), (2, 3), (3, 3), (4, 3)], none, none, false, false, false, true⟩
theorem ti32 : tiOf Tryd.prog 32 = some t32 := by kernel_rfl
def t33 : TI := ⟨true, 2, 32, [.sc (.int .i64 0), .sl 1], [(0, 3), (1, 24)], none, none, false, false, false, false⟩
theorem ti33 : tiOf Tryd.prog 33 = some t33 := by kernel_rfl
def t35 : TI := ⟨true, 10, 96, [.sc (.int .i64 0), .sc (.int .i64 0), .sc (.int .i64 0), .sc (.int .i64 0), .sc (.int .i64 0), .sc (.int .i64 0), .sc (.int .i64 0), .sc (.int .i64 0), .sc (.int .i64 0), .sl 1], [(0, 3), (1, 3), (2, 3), (3, 32), (8, 33)], none, none, false, false, false, false⟩
theorem ti35 : tiOf Tryd.prog 35 = some t35 := by kernel_rfl
def t48 : TI := ⟨false, 1, 24, [.sl 1], [], (some 120), none, false, false, false, false⟩
theorem ti48 : tiOf Tryd.prog 48 = some t48 := by kernel_rfl
def t50 : TI := ⟨true, 2, 32, [.sc (.int .i64 0), .sl 1], [(0, 3), (1, 48)], none, none, false, false, false, false⟩
theorem ti50 : tiOf Tryd.prog 50 = some t50 := by kernel_rfl
def t53 : TI := ⟨false, 1, 24, [.sl 1], [], (some 87), none, false, false, false, false⟩
theorem ti53 : tiOf Tryd.prog 53 = some t53 := by kernel_rfl
def t55 : TI := ⟨true, 2, 32, [.sc (.int .i64 0), .sl 1], [(0, 3), (1, 53)], none, none, false, false, false, false⟩
theorem ti55 : tiOf Tryd.prog 55 = some t55 := by kernel_rfl
def t79 : TI := ⟨false, 1, 24, [.sl 1], [], (some 9), none, false, false, false, false⟩
theorem ti79 : tiOf Tryd.prog 79 = some t79 := by kernel_rfl
def t87 : TI := ⟨false, 1, 24, [.sl 10], [], (some 35), none, false, false, false, false⟩
theorem ti87 : tiOf Tryd.prog 87 = some t87 := by kernel_rfl
def t116 : TI := ⟨false, 1, 24, [.sl 1], [], (some 5), none, false, false, false, false⟩
theorem ti116 : tiOf Tryd.prog 116 = some t116 := by kernel_rfl
def t120 : TI := ⟨false, 1, 24, [.sl 10], [], (some 28), none, false, false, false, false⟩
theorem ti120 : tiOf Tryd.prog 120 = some t120 := by kernel_rfl
def tiL : List (Nat × TI) := [(3, t3), (4, t4), (5, t5), (9, t9), (23, t23), (24, t24), (26, t26), (28, t28), (32, t32), (33, t33), (35, t35), (48, t48), (50, t50), (53, t53), (55, t55), (79, t79), (87, t87), (116, t116), (120, t120)]
theorem tiL_ok : TiOk Tryd.prog (tiTab tiL) := tiTab_ok (l := tiL) (fc ti3 <| fc ti4 <| fc ti5 <| fc ti9 <| fc ti23 <| fc ti24 <| fc ti26 <| fc ti28 <| fc ti32 <| fc ti33 <| fc ti35 <| fc ti48 <| fc ti50 <| fc ti53 <| fc ti55 <| fc ti79 <| fc ti87 <| fc ti116 <| fc ti120 <| fc0)

def sg0 : Sig := ⟨5, [(true, [.sc, .fz false])], [], [(false, [.sc])]⟩
def sg1 : Sig := ⟨19, [(true, [.sc, .fz false]), (false, [.sc])], [], [(false, [.sc])]⟩
def sg2 : Sig := ⟨55, [(false, [.fz false]), (false, [.sc])], [], [(false, [.sc])]⟩
def sg3 : Sig := ⟨101, [(false, [.fz false]), (false, [.sc])], [], [(false, [.sc])]⟩
def sg4 : Sig := ⟨9, [(true, [.sc, .sc, .sc, .sc, .sc, .sc, .sc, .sc, .sc, .fz false]), (false, [.sc])], [], [(false, [.sc])]⟩
def sg5 : Sig := ⟨36, [(true, [.sc, .fz false]), (false, [.sc])], [], [(false, [.sc])]⟩
def sg6 : Sig := ⟨83, [(false, [.fz false]), (false, [.sc])], [], [(false, [.sc])]⟩
def sg7 : Sig := ⟨21, [(true, [.sc, .fz false])], [], [(true, [.sc, .ow 99])]⟩
def sg8 : Sig := ⟨58, [(false, [.fz false])], [], [(false, [.ow 99])]⟩
def sg9 : Sig := ⟨102, [(false, [.fz false])], [], [(false, [.ow 99])]⟩
def sg10 : Sig := ⟨11, [(true, [.sc, .sc, .sc, .sc, .sc, .sc, .sc, .sc, .sc, .fz false])], [], [(true, [.sc, .sc, .sc, .sc, .sc, .sc, .sc, .sc, .sc, .ow 99])]⟩
def sg11 : Sig := ⟨41, [(true, [.sc, .sc, .sc, .sc, .sc])], [], [(true, [.sc, .sc, .sc, .sc, .sc])]⟩
def sg12 : Sig := ⟨42, [(true, [.sc, .fz false])], [], [(true, [.sc, .ow 99])]⟩
def sg13 : Sig := ⟨89, [(false, [.fz false])], [], [(false, [.ow 99])]⟩
def sg14 : Sig := ⟨20, [(true, [.sc, .fz false])], [], [(false, [.sc]), (false, [.sc])]⟩
def sg15 : Sig := ⟨56, [(true, [.sc, .fz false])], [], [(false, [.sc])]⟩
def sg16 : Sig := ⟨37, [(false, [.sc])], [], [(false, [.sc])]⟩
def sg17 : Sig := ⟨39, [(false, [.sc]), (true, [.sc, .sc, .sc, .sc, .sc, .sc, .sc, .sc, .sc, .fz false])], [], [(false, [.sc])]⟩
def sg18 : Sig := ⟨84, [(false, [.sc]), (false, [.sc]), (false, [.sc])], [], [(false, [.sc])]⟩
def sg19 : Sig := ⟨86, [(false, [.sc])], [], [(true, [.sc, .ow 99])]⟩
def sg20 : Sig := ⟨85, [(true, [.sc, .fz false]), (true, [.sc, .fz false])], [], [(false, [.sc])]⟩
def sg21 : Sig := ⟨124, [(false, [.fz false]), (false, [.fz false])], [], [(false, [.sc])]⟩
def sg22 : Sig := ⟨87, [(true, [.sc, .sc, .sc, .sc, .sc])], [], [(false, [.sc])]⟩
def sg23 : Sig := ⟨110, [(true, [.sc, .sc, .sc, .sc, .sc])], [], [(false, [.sc])]⟩
def sg24 : Sig := ⟨134, [(false, [.sc])], [], [(false, [.sc])]⟩
def sg25 : Sig := ⟨88, [(false, [.sc]), (true, [.sc, .fz false])], [], [(false, [.sc])]⟩
def sg26 : Sig := ⟨125, [(false, [.fz false]), (false, [.sc]), (false, [.sc])], [], [(false, [.sc])]⟩
def sg27 : Sig := ⟨40, [(false, [.sc]), (false, [.sc]), (true, [.sc, .sc, .sc, .sc, .sc, .sc, .sc, .sc, .sc, .fz false])], [], [(false, [.sc])]⟩
def sg28 : Sig := ⟨50, [(false, [.sc])], [], [(false, [.sc])]⟩
def sg29 : Sig := ⟨51, [(true, [.sc, .sc, .sc, .sc, .sc])], [], [(false, [.sc])]⟩
def sg30 : Sig := ⟨52, [(true, [.sc, .fz false])], [], [(false, [.sc])]⟩
def sg31 : Sig := ⟨99, [(false, [.fz false])], [], [(false, [.sc])]⟩
def sg32 : Sig := ⟨57, [(false, [.sc])], [], [(false, [.sc])]⟩
def sg33 : Sig := ⟨22, [(true, [.sc, .fz false])], [], [(false, [.sc]), (false, [.sc])]⟩
def sg34 : Sig := ⟨59, [(true, [.sc, .fz false])], [], [(false, [.sc])]⟩
def sg35 : Sig := ⟨74, [(false, [.sc])], [], [(false, [.sc])]⟩
def sg36 : Sig := ⟨103, [(false, [.fz false]), (false, [.clo 104 [.px 0]])], [(true, [(.sc, .sc), (.fz false, .fz)])], [(false, [.sc])]⟩
def sg37 : Sig := ⟨132, [(false, [.fz false]), (false, [.clo 104 [.px 0]])], [(true, [(.sc, .sc), (.fz false, .fz)])], [(false, [.sc])]⟩
def sg38 : Sig := ⟨104, [(false, [.fz false]), (false, [.px 0])], [(true, [(.sc, .sc), (.fz false, .fz)])], [(false, [.sc])]⟩
def sg39 : Sig := ⟨105, [(false, [.fz false]), (false, [.clo 106 [.px 0]])], [(true, [(.sc, .sc), (.fz false, .fz)])], [(false, [.sc])]⟩
def sg40 : Sig := ⟨133, [(false, [.fz false]), (false, [.clo 106 [.px 0]])], [(true, [(.sc, .sc), (.fz false, .fz)])], [(false, [.sc])]⟩
def sg41 : Sig := ⟨106, [(true, [.sc, .sc, .sc, .sc, .sc, .sc, .sc, .sc, .sc, .fz false]), (false, [.px 0])], [(true, [(.sc, .sc), (.fz false, .fz)])], [(false, [.sc])]⟩
def sg42 : Sig := ⟨44, [(false, [.sc]), (true, [.sc, .sc, .sc, .sc, .sc, .sc, .sc, .sc, .sc, .fz false])], [], [(false, [.sc])]⟩
def sg43 : Sig := ⟨90, [(false, [.sc]), (false, [.sc]), (false, [.sc])], [], [(false, [.sc])]⟩
def sg44 : Sig := ⟨91, [(true, [.sc, .sc, .sc, .sc, .sc])], [], [(false, [.sc])]⟩
def sg45 : Sig := ⟨114, [(false, [.sc])], [], [(false, [.sc])]⟩
def sg46 : Sig := ⟨92, [(false, [.sc]), (true, [.sc, .fz false])], [], [(false, [.sc])]⟩
def sg47 : Sig := ⟨126, [(false, [.fz false]), (false, [.clo 127 []])], [], [(false, [.sc])]⟩
def sg48 : Sig := ⟨141, [(false, [.fz false]), (false, [.clo 127 []])], [], [(false, [.sc])]⟩
def sg49 : Sig := ⟨127, [(false, [.sc])], [], [(false, [.sc])]⟩
def sg50 : Sig := ⟨94, [(false, [.sc])], [], [(true, [.sc, .ow 99])]⟩
def sg51 : Sig := ⟨93, [(true, [.sc, .fz false]), (true, [.sc, .fz false])], [], [(false, [.sc])]⟩
def sg52 : Sig := ⟨128, [(false, [.fz false]), (false, [.fz false])], [], [(false, [.sc])]⟩
def sg53 : Sig := ⟨60, [(true, [.sc, .fz false]), (false, [.clo 61 [.px 0, .px 1]])], [(false, [(.sc, .sc)]), (false, [(.sc, .sc)])], []⟩
def sg54 : Sig := ⟨61, [(false, [.sc]), (false, [.sc]), (true, [.sc, .sc, .sc, .sc, .sc, .sc, .sc, .sc, .sc, .fz false]), (false, [.px 0]), (false, [.px 1])], [(false, [(.sc, .sc)]), (false, [(.sc, .sc)])], []⟩
def sg55 : Sig := ⟨45, [(false, [.sc]), (false, [.sc]), (true, [.sc, .sc, .sc, .sc, .sc, .sc, .sc, .sc, .sc, .fz false])], [], [(false, [.sc])]⟩
def sg56 : Sig := ⟨95, [(false, [.fz false])], [], [(false, [.sc])]⟩
def sg57 : Sig := ⟨129, [(false, [.sc]), (false, [.fz false])], [], [(false, [.sc])]⟩
def sg58 : Sig := ⟨130, [(false, [.sc])], [], [(false, [.sc])]⟩
def sg59 : Sig := ⟨143, [(false, [.sc])], [], [(false, [.sc])]⟩
def sg60 : Sig := ⟨153, [(false, [.sc]), (false, [.sc])], [], [(false, [.sc])]⟩
def sg63 : Sig := ⟨142, [(false, [.fz false]), (false, [.sc])], [], [(false, [.sc])]⟩
def sg68 : Sig := ⟨96, [(true, [.sc, .sc, .sc, .sc, .sc])], [], [(false, [.sc])]⟩
def sg69 : Sig := ⟨97, [(true, [.sc, .fz false])], [], [(false, [.sc])]⟩
def sg70 : Sig := ⟨62, [(false, [.sc])], [], [(false, [.sc])]⟩
def sg71 : Sig := ⟨108, [(false, [.sc]), (false, [.sc]), (false, [.sc])], [], [(false, [.sc])]⟩
def sg72 : Sig := ⟨107, [(false, [.sc])], [], [(false, [.sc])]⟩
def sg73 : Sig := ⟨23, [(true, [.sc, .fz false]), (true, [.sc, .fz false])], [], [(false, [.sc])]⟩
def sg74 : Sig := ⟨63, [(false, [.fz false]), (false, [.fz false])], [], [(false, [.sc])]⟩
def sg75 : Sig := ⟨109, [(false, [.fz false]), (false, [.fz false])], [], [(false, [.sc])]⟩
def sg76 : Sig := ⟨13, [(true, [.sc, .sc, .sc, .sc, .sc, .sc, .sc, .sc, .sc, .fz false]), (true, [.sc, .sc, .sc, .sc, .sc, .sc, .sc, .sc, .sc, .fz false])], [], [(false, [.sc])]⟩
def sg77 : Sig := ⟨46, [(true, [.sc, .sc, .sc, .sc, .sc]), (true, [.sc, .sc, .sc, .sc, .sc])], [], [(false, [.sc])]⟩
def sg78 : Sig := ⟨47, [(true, [.sc, .fz false]), (true, [.sc, .fz false])], [], [(false, [.sc])]⟩
def sg79 : Sig := ⟨98, [(false, [.fz false]), (false, [.fz false])], [], [(false, [.sc])]⟩
def sigs : List (Nat × Sig) := [(0, sg0), (1, sg1), (2, sg2), (3, sg3), (4, sg4), (5, sg5), (6, sg6), (7, sg7), (8, sg8), (9, sg9), (10, sg10), (11, sg11), (12, sg12), (13, sg13), (14, sg14), (15, sg15), (16, sg16), (17, sg17), (18, sg18), (19, sg19), (20, sg20), (21, sg21), (22, sg22), (23, sg23), (24, sg24), (25, sg25), (26, sg26), (27, sg27), (28, sg28), (29, sg29), (30, sg30), (31, sg31), (32, sg32), (33, sg33), (34, sg34), (35, sg35), (36, sg36), (37, sg37), (38, sg38), (39, sg39), (40, sg40), (41, sg41), (42, sg42), (43, sg43), (44, sg44), (45, sg45), (46, sg46), (47, sg47), (48, sg48), (49, sg49), (50, sg50), (51, sg51), (52, sg52), (53, sg53), (54, sg54), (55, sg55), (56, sg56), (57, sg57), (58, sg58), (59, sg59), (60, sg60), (63, sg63), (68, sg68), (69, sg69), (70, sg70), (71, sg71), (72, sg72), (73, sg73), (74, sg74), (75, sg75), (76, sg76), (77, sg77), (78, sg78), (79, sg79)]
abbrev E0 : Env := ⟨tiTab tiL, sigs, 0, 0, false, false, [], []⟩

def tm0 : Tm Unit :=
(.call none 1 [.v 0, .v 1, .c (.int .i64 1048576)] 1 [] <|
(.lt none (.bin .lss) [.v 2, .c (.int .i64 0)] 1 <|
(.ite (.v 3)
(.leaf .ret [.c (.bool true)] ())
(.call none 7 [.v 0, .v 1] 2 [] <|
(.call none 14 [.v 4, .v 5] 2 [] <|
(.call none 7 [.v 0, .v 1] 2 [] <|
(.call none 33 [.v 8, .v 9] 2 [] <|
(.lt none (.bin .neq) [.v 10, .v 6] 1 <|
(.lt (some (.v 12, false)) .id [.v 11] 1 <|
(.lt (some (.v 12, false)) .id [.v 7] 1 <|
(.lt (some (.v 12, false)) (.eqb true) [.v 13, .v 14] 1 <|
(.lt none .pick [.v 12, .c (.bool true), .v 15] 1 <|
(.ite (.v 16)
(.leaf .ret [.c (.bool false)] ())
(.call none 7 [.v 0, .v 1] 2 [] <|
(.call none 73 [.v 8, .v 9, .v 17, .v 18] 1 [] <|
(.lt none .not [.v 19] 1 <|
(.ite (.v 20)
(.leaf .ret [.c (.bool false)] ())
(.leaf .ret [.c (.bool true)] ()))))))))))))))))))
def tm1 : Tm Unit :=
(.call none 2 [.v 1, .v 2] 1 [] <|
(.lt none (.bin .lss) [.v 3, .c (.int .i64 0)] 1 <|
(.ite (.v 4)
(.leaf .ret [.c (.int .i64 (-1))] ())
(.leaf .ret [.v 3] ()))))
def tm2 : Tm Unit :=
(.lt none .len [.v 0] 1 <|
(.lt none (.bin .sub) [.v 1, .v 2] 1 <|
(.lt none (.bin .lss) [.v 3, .c (.int .i64 0)] 1 <|
(.ite (.v 4)
(.leaf .ret [.c (.int .i64 (-1))] ())
(.bind 1
(.loop [.v 3, .c (.int .i64 0)]
(.lt none .len [.v 0] 1 <|
(.lt none (.bin .lss) [.v 6, .v 7] 1 <|
(.ite (.v 8)
(.lt none .inb [.v 0, .v 6] 0 <|
(.lt none (.row 1 0 [false]) [.v 0, .v 6] 1 <|
(.call none 3 [.v 9, .v 5] 1 [] <|
(.lt none (.bin .lss) [.v 10, .c (.int .i64 0)] 1 <|
(.ite (.v 11)
(.leaf .ret [.c (.int .i64 (-1))] ())
(.lt none (.bin .add) [.v 6, .c (.int .i64 1)] 1 <|
(.leaf .cont [.v 10, .v 12] ())))))))
(.leaf (.yield 1) [.v 5] ()))))) <|
(.leaf .ret [.v 5] ()))))))
def tm3 : Tm Unit :=
(.lt none .len [.v 0] 1 <|
(.lt none (.bin .sub) [.v 1, .v 2] 1 <|
(.lt none (.bin .lss) [.v 3, .c (.int .i64 0)] 1 <|
(.ite (.v 4)
(.leaf .ret [.c (.int .i64 (-1))] ())
(.bind 1
(.loop [.v 3, .c (.int .i64 0)]
(.lt none .len [.v 0] 1 <|
(.lt none (.bin .lss) [.v 6, .v 7] 1 <|
(.ite (.v 8)
(.lt none .inb [.v 0, .v 6] 0 <|
(.lt none (.row 10 0 [true, true, true, true, true, true, true, true, true, false]) [.v 0, .v 6] 10 <|
(.call none 4 [.v 9, .v 10, .v 11, .v 12, .v 13, .v 14, .v 15, .v 16, .v 17, .v 18, .v 5] 1 [] <|
(.lt none (.bin .lss) [.v 19, .c (.int .i64 0)] 1 <|
(.ite (.v 20)
(.leaf .ret [.c (.int .i64 (-1))] ())
(.lt none (.bin .add) [.v 6, .c (.int .i64 1)] 1 <|
(.leaf .cont [.v 19, .v 21] ())))))))
(.leaf (.yield 1) [.v 5] ()))))) <|
(.leaf .ret [.v 5] ()))))))
def tm4 : Tm Unit :=
(.call none 5 [.v 8, .v 9, .v 10] 1 [] <|
(.lt none (.bin .lss) [.v 11, .c (.int .i64 0)] 1 <|
(.ite (.v 12)
(.leaf .ret [.c (.int .i64 (-1))] ())
(.leaf .ret [.v 11] ()))))
def tm5 : Tm Unit :=
(.call none 6 [.v 1, .v 2] 1 [] <|
(.lt none (.bin .lss) [.v 3, .c (.int .i64 0)] 1 <|
(.ite (.v 4)
(.leaf .ret [.c (.int .i64 (-1))] ())
(.leaf .ret [.v 3] ()))))
def tm6 : Tm Unit :=
(.lt none .len [.v 0] 1 <|
(.lt none (.bin .sub) [.v 1, .v 2] 1 <|
(.lt none (.bin .lss) [.v 3, .c (.int .i64 0)] 1 <|
(.ite (.v 4)
(.leaf .ret [.c (.int .i64 (-1))] ())
(.leaf .ret [.v 3] ())))))
def tm7 : Tm Unit :=
(.call none 8 [.v 1] 1 [] <|
(.leaf .ret [.v 0, .v 2] ()))
def tm8 : Tm Unit :=
(.lt none .len [.v 0] 1 <|
(.lt none (.make 24 [(.rows 10 [])]) [.v 1] 1 <|
(.bind 1
(.loop [.v 2, .c (.int .i64 0)]
(.lt none .len [.v 0] 1 <|
(.lt none (.bin .lss) [.v 4, .v 5] 1 <|
(.ite (.v 6)
(.lt none .inb [.v 0, .v 4] 0 <|
(.lt none (.row 1 0 [false]) [.v 0, .v 4] 1 <|
(.call none 9 [.v 7] 1 [] <|
(.lt none .inb [.v 3, .v 4] 0 <|
(.lt none (.set 1 0 1) [.v 3, .v 4, .v 8] 1 <|
(.lt none (.bin .add) [.v 4, .c (.int .i64 1)] 1 <|
(.leaf .cont [.v 9, .v 10] ())))))))
(.leaf (.yield 1) [.v 3] ()))))) <|
(.leaf .ret [.v 3] ()))))
def tm9 : Tm Unit :=
(.lt none .len [.v 0] 1 <|
(.lt none (.make 96 [(.int .i64 0), (.int .i64 0), (.int .i64 0), (.int .i64 0), (.int .i64 0), (.int .i64 0), (.int .i64 0), (.int .i64 0), (.int .i64 0), (.rows 1 [])]) [.v 1] 1 <|
(.bind 1
(.loop [.v 2, .c (.int .i64 0)]
(.lt none .len [.v 0] 1 <|
(.lt none (.bin .lss) [.v 4, .v 5] 1 <|
(.ite (.v 6)
(.lt none .inb [.v 0, .v 4] 0 <|
(.lt none (.row 10 0 [true, true, true, true, true, true, true, true, true, false]) [.v 0, .v 4] 10 <|
(.call none 10 [.v 7, .v 8, .v 9, .v 10, .v 11, .v 12, .v 13, .v 14, .v 15, .v 16] 10 [] <|
(.lt none .inb [.v 3, .v 4] 0 <|
(.lt none (.set 10 0 10) [.v 3, .v 4, .v 17, .v 18, .v 19, .v 20, .v 21, .v 22, .v 23, .v 24, .v 25, .v 26] 1 <|
(.lt none (.bin .add) [.v 4, .c (.int .i64 1)] 1 <|
(.leaf .cont [.v 27, .v 28] ())))))))
(.leaf (.yield 1) [.v 3] ()))))) <|
(.leaf .ret [.v 3] ()))))
def tm10 : Tm Unit :=
(.call none 11 [.v 3, .v 4, .v 5, .v 6, .v 7] 5 [] <|
(.call none 12 [.v 8, .v 9] 2 [] <|
(.leaf .ret [.v 0, .v 1, .v 2, .v 10, .v 11, .v 12, .v 13, .v 14, .v 15, .v 16] ())))
def tm11 : Tm Unit :=
(.leaf .ret [.v 0, .v 1, .v 2, .v 3, .v 4] ())
def tm12 : Tm Unit :=
(.call none 13 [.v 1] 1 [] <|
(.leaf .ret [.v 0, .v 2] ()))
def tm13 : Tm Unit :=
(.lt none .len [.v 0] 1 <|
(.lt none (.make 8 [(.int .i64 0)]) [.v 1] 1 <|
(.bind 1
(.loop [.v 2, .c (.int .i64 0)]
(.lt none .len [.v 0] 1 <|
(.lt none (.bin .lss) [.v 4, .v 5] 1 <|
(.ite (.v 6)
(.lt none .inb [.v 0, .v 4] 0 <|
(.lt none (.row 1 0 [true]) [.v 0, .v 4] 1 <|
(.lt none .inb [.v 3, .v 4] 0 <|
(.lt none (.set 1 0 1) [.v 3, .v 4, .v 7] 1 <|
(.lt none (.bin .add) [.v 4, .c (.int .i64 1)] 1 <|
(.leaf .cont [.v 8, .v 9] ()))))))
(.leaf (.yield 1) [.v 3] ()))))) <|
(.leaf .ret [.v 3] ()))))
def tm14 : Tm Unit :=
(.call none 15 [.v 0, .v 1] 1 [] <|
(.lt none .not [.v 2] 1 <|
(.ite (.v 3)
(.leaf .ret [.c (.str []), .c (.bool false)] ())
(.lt none .len [.v 1] 1 <|
(.bind 1
(.loop [.c (.str []), .c (.int .i64 0)]
(.lt none (.bin .lss) [.v 6, .v 4] 1 <|
(.ite (.v 7)
(.lt none .inb [.v 1, .v 6] 0 <|
(.lt none (.row 1 0 [false]) [.v 1, .v 6] 1 <|
(.lt none .len [.v 8] 1 <|
(.bind 3
(.loop [.v 5, .c (.int .i64 0)]
(.lt none (.bin .lss) [.v 11, .v 9] 1 <|
(.ite (.v 12)
(.lt none .inb [.v 8, .v 11] 0 <|
(.lt none (.row 10 0 [true, true, true, true, true, true, true, true, true, false]) [.v 8, .v 11] 10 <|
(.lt none (.bin .add) [.v 11, .c (.int .i64 1)] 1 <|
(.call none 27 [.v 6, .v 23, .v 13, .v 14, .v 15, .v 16, .v 17, .v 18, .v 19, .v 20, .v 21, .v 22] 1 [] <|
(.call none 32 [.v 24] 1 [] <|
(.lt none (.bin .add) [.v 10, .v 25] 1 <|
(.lt none (.bin .add) [.v 11, .c (.int .i64 1)] 1 <|
(.leaf .cont [.v 26, .v 27] ()))))))))
(.leaf (.yield 3) [.v 10] ())))) <|
(.lt none (.bin .add) [.v 6, .c (.int .i64 1)] 1 <|
(.leaf .cont [.v 10, .v 11] ()))))))
(.leaf (.yield 1) [.v 5] ())))) <|
(.lt none .slen [.v 5] 1 <|
(.lt none (.bin .gtr) [.v 6, .c (.int .i64 20000)] 1 <|
(.ite (.v 7)
(.leaf .ret [.c (.str []), .c (.bool false)] ())
(.leaf .ret [.v 5, .c (.bool true)] ())))))))))
def tm15 : Tm Unit :=
(.call none 16 [.v 0] 1 [] <|
(.lt none .not [.v 2] 1 <|
(.lt (some (.v 3, false)) .len [.v 1] 1 <|
(.lt (some (.v 3, false)) .id [.v 0] 1 <|
(.lt (some (.v 3, false)) (.bin .neq) [.v 4, .v 5] 1 <|
(.lt none .pick [.v 3, .c (.bool true), .v 6] 1 <|
(.ite (.v 7)
(.leaf .ret [.c (.bool false)] ())
(.lt none .len [.v 1] 1 <|
(.bind 1
(.loop [.c (.int .i64 0)]
(.lt none (.bin .lss) [.v 9, .v 8] 1 <|
(.ite (.v 10)
(.lt none .inb [.v 1, .v 9] 0 <|
(.lt none (.row 1 0 [false]) [.v 1, .v 9] 1 <|
(.lt none .len [.v 11] 1 <|
(.bind 3
(.loop [.c (.int .i64 0)]
(.lt none (.bin .lss) [.v 13, .v 12] 1 <|
(.ite (.v 14)
(.lt none .inb [.v 11, .v 13] 0 <|
(.lt none (.row 10 0 [true, true, true, true, true, true, true, true, true, false]) [.v 11, .v 13] 10 <|
(.call none 17 [.v 0, .v 15, .v 16, .v 17, .v 18, .v 19, .v 20, .v 21, .v 22, .v 23, .v 24] 1 [] <|
(.lt none .not [.v 25] 1 <|
(.ite (.v 26)
(.leaf .ret [.c (.bool false)] ())
(.lt none (.bin .add) [.v 13, .c (.int .i64 1)] 1 <|
(.leaf .cont [.v 27] ())))))))
(.leaf (.yield 3) [] ())))) <|
(.lt none .len [.v 11] 1 <|
(.lt none (.bin .gtr) [.v 13, .c (.int .i64 6)] 1 <|
(.ite (.v 14)
(.leaf .ret [.c (.bool false)] ())
(.lt none (.bin .add) [.v 9, .c (.int .i64 1)] 1 <|
(.leaf .cont [.v 15] ())))))))))
(.leaf (.yield 1) [] ())))) <|
(.leaf .ret [.c (.bool true)] ()))))))))))
def tm16 : Tm Unit :=
(.lt none (.bin .eql) [.v 0, .c (.int .i64 3)] 1 <|
(.lt (some (.v 1, false)) .id [.v 0] 1 <|
(.lt (some (.v 1, false)) (.bin .eql) [.v 2, .c (.int .i64 5)] 1 <|
(.lt none .pick [.v 1, .c (.bool true), .v 3] 1 <|
(.leaf .ret [.v 4] ())))))
def tm17 : Tm Unit :=
(.call none 18 [.v 1, .c (.int .i64 0), .c (.int .i64 9999)] 1 [] <|
(.lt none .not [.v 11] 1 <|
(.lt (some (.v 12, false)) .id [.v 2] 1 <|
(.lt (some (.v 12, false)) .id [.v 1] 1 <|
(.call (some (.v 12, false)) 18 [.v 13, .c (.int .i64 0), .v 14] 1 [] <|
(.lt (some (.v 12, false)) .not [.v 15] 1 <|
(.lt none .pick [.v 12, .c (.bool true), .v 16] 1 <|
(.lt (some (.v 17, false)) .id [.v 3] 1 <|
(.call (some (.v 17, false)) 18 [.v 18, .c (.int .i64 0), .c (.int .i64 3)] 1 [] <|
(.lt (some (.v 17, false)) .not [.v 19] 1 <|
(.lt none .pick [.v 17, .c (.bool true), .v 20] 1 <|
(.ite (.v 21)
(.leaf .ret [.c (.bool false)] ())
(.lt none (.bin .eql) [.v 3, .c (.int .i64 0)] 1 <|
(.ite (.v 22)
(.lt none (.bin .eql) [.v 2, .c (.int .i64 0)] 1 <|
(.lt (some (.v 23, true)) (.eqs [0, 0, 0, 0, 0]) [.v 4, .v 5, .v 6, .v 7, .v 8, .c (.int .i64 0), .c (.int .i64 0), .c (.int .i64 0), .c (.int .i64 0), .c (.int .i64 0)] 1 <|
(.lt none .pick [.v 23, .v 24, .c (.bool false)] 1 <|
(.lt (some (.v 25, true)) .id [.v 0] 1 <|
(.call (some (.v 25, true)) 19 [.v 26] 2 [] <|
(.call (some (.v 25, true)) 20 [.v 9, .v 10, .v 27, .v 28] 1 [] <|
(.lt none .pick [.v 25, .v 29, .c (.bool false)] 1 <|
(.leaf .ret [.v 30] ()))))))))
(.call none 22 [.v 4, .v 5, .v 6, .v 7, .v 8] 1 [] <|
(.lt (some (.v 23, true)) .id [.v 0] 1 <|
(.call (some (.v 23, true)) 25 [.v 24, .v 9, .v 10] 1 [] <|
(.lt none .pick [.v 23, .v 25, .c (.bool false)] 1 <|
(.leaf .ret [.v 26] ())))))))))))))))))))
def tm18 : Tm Unit :=
(.lt none (.bin .geq) [.v 0, .v 1] 1 <|
(.lt (some (.v 3, true)) .id [.v 0] 1 <|
(.lt (some (.v 3, true)) .id [.v 2] 1 <|
(.lt (some (.v 3, true)) (.bin .leq) [.v 4, .v 5] 1 <|
(.lt none .pick [.v 3, .v 6, .c (.bool false)] 1 <|
(.leaf .ret [.v 7] ()))))))
def tm19 : Tm Unit :=
(.lt none (.make 8 [(.int .i64 0)]) [.v 0] 1 <|
(.leaf .ret [.c (.int .i64 0), .v 1] ()))
def tm20 : Tm Unit :=
(.lt none (.bin .eql) [.v 0, .v 2] 1 <|
(.call (some (.v 4, true)) 21 [.v 1, .v 3] 1 [] <|
(.lt none .pick [.v 4, .v 5, .c (.bool false)] 1 <|
(.leaf .ret [.v 6] ()))))
def tm21 : Tm Unit :=
(.lt none .len [.v 0] 1 <|
(.lt none .len [.v 1] 1 <|
(.lt none (.bin .neq) [.v 2, .v 3] 1 <|
(.ite (.v 4)
(.leaf .ret [.c (.bool false)] ())
(.lt none .len [.v 0] 1 <|
(.bind 1
(.loop [.c (.int .i64 0)]
(.lt none (.bin .lss) [.v 6, .v 5] 1 <|
(.ite (.v 7)
(.lt none .inb [.v 0, .v 6] 0 <|
(.lt none (.row 1 0 [true]) [.v 0, .v 6] 1 <|
(.lt none .inb [.v 1, .v 6] 0 <|
(.lt none (.row 1 0 [true]) [.v 1, .v 6] 1 <|
(.lt none (.bin .neq) [.v 8, .v 9] 1 <|
(.ite (.v 10)
(.leaf .ret [.c (.bool false)] ())
(.lt none (.bin .add) [.v 6, .c (.int .i64 1)] 1 <|
(.leaf .cont [.v 11] ()))))))))
(.leaf (.yield 1) [] ())))) <|
(.leaf .ret [.c (.bool true)] ())))))))
def tm22 : Tm Unit :=
(.lt none (.bin .eql) [.v 0, .c (.int .i64 0)] 1 <|
(.ite (.v 5)
(.lt none (.eqs [0, 0, 0, 0, 0]) [.v 0, .v 1, .v 2, .v 3, .v 4, .c (.int .i64 0), .c (.int .i64 0), .c (.int .i64 0), .c (.int .i64 0), .c (.int .i64 0)] 1 <|
(.leaf .ret [.v 6] ()))
(.lt none (.bin .eql) [.v 0, .c (.int .i64 1)] 1 <|
(.ite (.v 6)
(.call none 23 [.v 0, .v 1, .v 2, .v 3, .v 4] 1 [] <|
(.lt none (.bin .eql) [.v 7, .c (.int .i64 0)] 1 <|
(.leaf .ret [.v 8] ())))
(.lt none (.bin .eql) [.v 0, .c (.int .i64 2)] 1 <|
(.ite (.v 7)
(.call none 23 [.v 0, .v 1, .v 2, .v 3, .v 4] 1 [] <|
(.lt none (.bin .eql) [.v 8, .c (.int .i64 0)] 1 <|
(.lt (some (.v 9, true)) .id [.v 3] 1 <|
(.lt (some (.v 9, true)) (.bin .eql) [.v 10, .c (.int .i64 0)] 1 <|
(.lt none .pick [.v 9, .v 11, .c (.bool false)] 1 <|
(.lt (some (.v 12, true)) .id [.v 4] 1 <|
(.lt (some (.v 12, true)) (.bin .eql) [.v 13, .c (.int .i64 0)] 1 <|
(.lt none .pick [.v 12, .v 14, .c (.bool false)] 1 <|
(.leaf .ret [.v 15] ())))))))))
(.leaf .ret [.c (.bool false)] ())))))))
def tm23 : Tm Unit :=
(.lt none (.bin .eql) [.v 0, .c (.int .i64 1)] 1 <|
(.call none 24 [.v 2] 1 [] <|
(.lt none .not [.v 6] 1 <|
(.lt (some (.v 7, false)) .id [.v 5] 1 <|
(.lt (some (.v 7, false)) .id [.v 8] 1 <|
(.lt (some (.v 9, true)) .id [.v 3] 1 <|
(.call (some (.v 9, true)) 24 [.v 10] 1 [] <|
(.lt (some (.v 9, true)) .not [.v 11] 1 <|
(.lt (some (.v 7, false)) .pick [.v 9, .v 12, .c (.bool false)] 1 <|
(.lt none .pick [.v 7, .c (.bool true), .v 13] 1 <|
(.ite (.v 14)
(.leaf .ret [.c (.int .i64 4)] ())
(.lt (some (.v 5, true)) .id [.v 2] 1 <|
(.lt (some (.v 5, true)) .id [.v 3] 1 <|
(.lt (some (.v 5, true)) (.bin .eql) [.v 15, .v 16] 1 <|
(.lt none .pick [.v 5, .v 17, .c (.bool false)] 1 <|
(.ite (.v 18)
(.leaf .ret [.c (.int .i64 5)] ())
(.call none 18 [.v 1, .c (.int .i64 1), .c (.int .i64 999)] 1 [] <|
(.lt none .not [.v 19] 1 <|
(.lt (some (.v 20, false)) .id [.v 5] 1 <|
(.lt (some (.v 20, false)) .id [.v 21] 1 <|
(.lt (some (.v 22, true)) .id [.v 4] 1 <|
(.call (some (.v 22, true)) 18 [.v 23, .c (.int .i64 1), .c (.int .i64 1000)] 1 [] <|
(.lt (some (.v 22, true)) .not [.v 24] 1 <|
(.lt (some (.v 20, false)) .pick [.v 22, .v 25, .c (.bool false)] 1 <|
(.lt none .pick [.v 20, .c (.bool true), .v 26] 1 <|
(.ite (.v 27)
(.leaf .ret [.c (.int .i64 6)] ())
(.leaf .ret [.c (.int .i64 0)] ())))))))))))))))))))))))))))
def tm24 : Tm Unit :=
(.call none 18 [.v 0, .c (.int .i64 0), .c (.int .i64 3)] 1 [] <|
(.leaf .ret [.v 1] ()))
def tm25 : Tm Unit :=
(.call none 18 [.v 1, .c (.int .i64 0), .c (.int .i64 999)] 1 [] <|
(.lt (some (.v 3, true)) .len [.v 2] 1 <|
(.lt (some (.v 3, true)) .id [.v 0] 1 <|
(.lt (some (.v 3, true)) (.bin .eql) [.v 4, .v 5] 1 <|
(.lt none .pick [.v 3, .v 6, .c (.bool false)] 1 <|
(.call (some (.v 7, true)) 26 [.v 2, .c (.int .i64 0), .c (.int .i64 6)] 1 [] <|
(.lt none .pick [.v 7, .v 8, .c (.bool false)] 1 <|
(.leaf .ret [.v 9] ()))))))))
def tm26 : Tm Unit :=
(.lt none .len [.v 0] 1 <|
(.bind 1
(.loop [.c (.int .i64 0)]
(.lt none (.bin .lss) [.v 4, .v 3] 1 <|
(.ite (.v 5)
(.lt none .inb [.v 0, .v 4] 0 <|
(.lt none (.row 1 0 [true]) [.v 0, .v 4] 1 <|
(.call none 18 [.v 6, .v 1, .v 2] 1 [] <|
(.lt none .not [.v 7] 1 <|
(.ite (.v 8)
(.leaf .ret [.c (.bool false)] ())
(.lt none (.bin .add) [.v 4, .c (.int .i64 1)] 1 <|
(.leaf .cont [.v 9] ())))))))
(.leaf (.yield 1) [] ())))) <|
(.leaf .ret [.c (.bool true)] ())))
def tm27 : Tm Unit :=
(.call none 28 [.v 0] 1 [] <|
(.lt none (.mk 1 4) [.v 1, .v 2, .v 3, .v 4] 1 <|
(.lt none .len [.v 13] 1 <|
(.bind 1
(.loop [.v 12, .c (.int .i64 0)]
(.lt none (.bin .lss) [.v 16, .v 14] 1 <|
(.ite (.v 17)
(.lt none .inb [.v 13, .v 16] 0 <|
(.lt none (.row 1 0 [true]) [.v 13, .v 16] 1 <|
(.call none 28 [.v 18] 1 [] <|
(.lt none (.bin .add) [.c (.str [32]), .v 19] 1 <|
(.lt none (.bin .add) [.v 15, .v 20] 1 <|
(.lt none (.bin .add) [.v 16, .c (.int .i64 1)] 1 <|
(.leaf .cont [.v 21, .v 22] ())))))))
(.leaf (.yield 1) [.v 15] ())))) <|
(.lt none (.bin .add) [.v 15, .c (.str [124])] 1 <|
(.call none 29 [.v 5, .v 6, .v 7, .v 8, .v 9] 1 [] <|
(.lt none (.bin .add) [.v 16, .v 17] 1 <|
(.lt none (.bin .add) [.v 18, .c (.str [124])] 1 <|
(.call none 30 [.v 10, .v 11] 1 [] <|
(.lt none (.bin .add) [.v 19, .v 20] 1 <|
(.leaf .ret [.v 21] ())))))))))))
def tm28 : Tm Unit :=
(.lt none (.bin .lss) [.v 0, .c (.int .i64 10)] 1 <|
(.ite (.v 1)
(.lt none (.bin .add) [.c (.int .i64 48), .v 0] 1 <|
(.lt none (.conv .u8) [.v 2] 1 <|
(.lt none (.mk 1 1) [.v 3] 1 <|
(.lt none .bstr [.v 4] 1 <|
(.leaf .ret [.v 5] ())))))
(.lt none (.bin .quo) [.v 0, .c (.int .i64 10)] 1 <|
(.call none 28 [.v 2] 1 [] <|
(.lt none (.bin .rem) [.v 0, .c (.int .i64 10)] 1 <|
(.lt none (.bin .add) [.c (.int .i64 48), .v 4] 1 <|
(.lt none (.conv .u8) [.v 5] 1 <|
(.lt none (.mk 1 1) [.v 6] 1 <|
(.lt none .bstr [.v 7] 1 <|
(.lt none (.bin .add) [.v 3, .v 8] 1 <|
(.leaf .ret [.v 9] ())))))))))))
def tm29 : Tm Unit :=
(.lt none (.bin .eql) [.v 0, .c (.int .i64 1)] 1 <|
(.ite (.v 5)
(.call none 28 [.v 1] 1 [] <|
(.lt none (.bin .add) [.c (.str [109, 111, 118, 101, 32]), .v 6] 1 <|
(.lt none (.bin .add) [.v 7, .c (.str [32])] 1 <|
(.call none 28 [.v 2] 1 [] <|
(.lt none (.bin .add) [.v 8, .v 9] 1 <|
(.lt none (.bin .add) [.v 10, .c (.str [32])] 1 <|
(.call none 28 [.v 3] 1 [] <|
(.lt none (.bin .add) [.v 11, .v 12] 1 <|
(.lt none (.bin .add) [.v 13, .c (.str [32])] 1 <|
(.call none 28 [.v 4] 1 [] <|
(.lt none (.bin .add) [.v 14, .v 15] 1 <|
(.leaf .ret [.v 16] ()))))))))))))
(.lt none (.bin .eql) [.v 0, .c (.int .i64 2)] 1 <|
(.ite (.v 6)
(.call none 28 [.v 1] 1 [] <|
(.lt none (.bin .add) [.c (.str [114, 101, 97, 100, 32]), .v 7] 1 <|
(.lt none (.bin .add) [.v 8, .c (.str [32])] 1 <|
(.call none 28 [.v 2] 1 [] <|
(.lt none (.bin .add) [.v 9, .v 10] 1 <|
(.leaf .ret [.v 11] ()))))))
(.leaf .ret [.c (.str [45])] ())))))
def tm30 : Tm Unit :=
(.call none 28 [.v 0] 1 [] <|
(.lt none (.bin .add) [.v 2, .c (.str [58])] 1 <|
(.call none 31 [.v 1] 1 [] <|
(.lt none (.bin .add) [.v 3, .v 4] 1 <|
(.leaf .ret [.v 5] ())))))
def tm31 : Tm Unit :=
(.lt none .len [.v 0] 1 <|
(.bind 1
(.loop [.c (.str []), .c (.int .i64 0)]
(.lt none (.bin .lss) [.v 3, .v 1] 1 <|
(.ite (.v 4)
(.lt none .inb [.v 0, .v 3] 0 <|
(.lt none (.row 1 0 [true]) [.v 0, .v 3] 1 <|
(.bind 0
(.lt none (.bin .gtr) [.v 3, .c (.int .i64 0)] 1 <|
(.ite (.v 6)
(.lt none (.bin .add) [.v 2, .c (.str [44])] 1 <|
(.leaf (.yield 0) [.v 7] ()))
(.leaf (.yield 0) [.v 2] ()))) <|
(.call none 28 [.v 5] 1 [] <|
(.lt none (.bin .add) [.v 6, .v 7] 1 <|
(.lt none (.bin .add) [.v 3, .c (.int .i64 1)] 1 <|
(.leaf .cont [.v 8, .v 9] ())))))))
(.leaf (.yield 1) [.v 2] ())))) <|
(.leaf .ret [.v 2] ())))
def tm32 : Tm Unit :=
(.lt none .slen [.v 0] 1 <|
(.lt none (.conv .u8) [.v 1] 1 <|
(.lt none (.mk 1 1) [.v 2] 1 <|
(.lt none .bstr [.v 3] 1 <|
(.lt none (.bin .add) [.v 4, .v 0] 1 <|
(.bind 1
(.loop [.c (.int .i64 7), .c (.int .i64 0)]
(.lt none .slen [.v 5] 1 <|
(.lt none (.bin .lss) [.v 7, .v 8] 1 <|
(.ite (.v 9)
(.lt none (.bin .mul) [.c (.int .i64 33), .v 6] 1 <|
(.lt none .sidx [.v 5, .v 7] 1 <|
(.lt none (.conv .i64) [.v 11] 1 <|
(.lt none (.bin .add) [.v 10, .v 12] 1 <|
(.lt none (.bin .rem) [.v 13, .c (.int .i64 65521)] 1 <|
(.lt none (.bin .add) [.v 7, .c (.int .i64 1)] 1 <|
(.leaf .cont [.v 14, .v 15] ())))))))
(.leaf (.yield 1) [.v 6] ()))))) <|
(.lt none (.bin .quo) [.v 6, .c (.int .i64 256)] 1 <|
(.lt none (.conv .u8) [.v 7] 1 <|
(.lt none (.bin .rem) [.v 6, .c (.int .i64 256)] 1 <|
(.lt none (.conv .u8) [.v 9] 1 <|
(.lt none (.mk 1 3) [.v 8, .v 10, .c (.int .u8 1)] 1 <|
(.lt none .bstr [.v 11] 1 <|
(.lt none (.bin .add) [.v 5, .v 12] 1 <|
(.leaf .ret [.v 13] ()))))))))))))))
def tm33 : Tm Unit :=
(.call none 34 [.v 0, .v 1] 1 [] <|
(.lt none .not [.v 2] 1 <|
(.ite (.v 3)
(.leaf .ret [.c (.str []), .c (.bool false)] ())
(.call none 53 [.v 0, .v 1, .c (.bool false), .c (.str [])] 2 [] <|
(.lt (some (.v 4, false)) .id [.v 5] 1 <|
(.lt (some (.v 4, false)) .slen [.v 6] 1 <|
(.lt (some (.v 4, false)) (.bin .gtr) [.v 7, .c (.int .i64 20000)] 1 <|
(.lt none .pick [.v 4, .c (.bool true), .v 8] 1 <|
(.ite (.v 9)
(.leaf .ret [.c (.str []), .c (.bool false)] ())
(.leaf .ret [.v 5, .c (.bool true)] ()))))))))))
def tm34 : Tm Unit :=
(.call none 35 [.v 0] 1 [] <|
(.lt (some (.v 2, true)) .len [.v 1] 1 <|
(.lt (some (.v 2, true)) .id [.v 0] 1 <|
(.lt (some (.v 2, true)) (.bin .eql) [.v 3, .v 4] 1 <|
(.lt none .pick [.v 2, .v 5, .c (.bool false)] 1 <|
(.call (some (.v 6, true)) 36 [.v 1, .v 0, .v 1] 1 [] <|
(.lt (some (.v 6, true)) .not [.v 7] 1 <|
(.lt none .pick [.v 6, .v 8, .c (.bool false)] 1 <|
(.leaf .ret [.v 9] ())))))))))
def tm35 : Tm Unit :=
(.lt none (.bin .eql) [.v 0, .c (.int .i64 3)] 1 <|
(.lt (some (.v 1, false)) .id [.v 0] 1 <|
(.lt (some (.v 1, false)) (.bin .eql) [.v 2, .c (.int .i64 5)] 1 <|
(.lt none .pick [.v 1, .c (.bool true), .v 3] 1 <|
(.leaf .ret [.v 4] ())))))
def tm36 : Tm Unit :=
(.call none 37 [.v 0, .v 1, .v 2] 1 [] <|
(.lt none (.bin .geq) [.v 3, .c (.int .i64 0)] 1 <|
(.leaf .ret [.v 4] ())))
def tm37 : Tm Unit :=
(.lt none .len [.v 0] 1 <|
(.bind 1
(.loop [.c (.int .i64 0)]
(.lt none (.bin .lss) [.v 4, .v 3] 1 <|
(.ite (.v 5)
(.lt none .inb [.v 0, .v 4] 0 <|
(.lt none (.row 1 0 [false]) [.v 0, .v 4] 1 <|
(.call none 38 [.v 6, .v 1, .v 2] 1 [] <|
(.ite (.v 7)
(.leaf .ret [.v 4] ())
(.lt none (.bin .add) [.v 4, .c (.int .i64 1)] 1 <|
(.leaf .cont [.v 8] ()))))))
(.leaf (.yield 1) [] ())))) <|
(.leaf .ret [.c (.int .i64 (-1))] ())))
def tm38 : Tm Unit :=
(.lt none .len [.v 0] 1 <|
(.lt none (.bin .gtr) [.v 3, .c (.int .i64 6)] 1 <|
(.call (some (.v 4, false)) 39 [.v 0, .v 1, .v 2] 1 [] <|
(.lt none .pick [.v 4, .c (.bool true), .v 5] 1 <|
(.leaf .ret [.v 6] ())))))
def tm39 : Tm Unit :=
(.call none 40 [.v 0, .v 1, .v 2] 1 [] <|
(.lt none (.bin .geq) [.v 3, .c (.int .i64 0)] 1 <|
(.leaf .ret [.v 4] ())))
def tm40 : Tm Unit :=
(.lt none .len [.v 0] 1 <|
(.bind 1
(.loop [.c (.int .i64 0)]
(.lt none (.bin .lss) [.v 4, .v 3] 1 <|
(.ite (.v 5)
(.lt none .inb [.v 0, .v 4] 0 <|
(.lt none (.row 10 0 [true, true, true, true, true, true, true, true, true, false]) [.v 0, .v 4] 10 <|
(.call none 41 [.v 6, .v 7, .v 8, .v 9, .v 10, .v 11, .v 12, .v 13, .v 14, .v 15, .v 1, .v 2] 1 [] <|
(.ite (.v 16)
(.leaf .ret [.v 4] ())
(.lt none (.bin .add) [.v 4, .c (.int .i64 1)] 1 <|
(.leaf .cont [.v 17] ()))))))
(.leaf (.yield 1) [] ())))) <|
(.leaf .ret [.c (.int .i64 (-1))] ())))
def tm41 : Tm Unit :=
(.call none 42 [.v 10, .v 0, .v 1, .v 2, .v 3, .v 4, .v 5, .v 6, .v 7, .v 8, .v 9] 1 [] <|
(.lt none .not [.v 12] 1 <|
(.leaf .ret [.v 13] ())))
def tm42 : Tm Unit :=
(.call none 43 [.v 1, .c (.int .i64 0), .c (.int .i64 9999)] 1 [] <|
(.lt none .not [.v 11] 1 <|
(.lt (some (.v 12, false)) .id [.v 2] 1 <|
(.lt (some (.v 12, false)) .id [.v 1] 1 <|
(.call (some (.v 12, false)) 43 [.v 13, .c (.int .i64 0), .v 14] 1 [] <|
(.lt (some (.v 12, false)) .not [.v 15] 1 <|
(.lt none .pick [.v 12, .c (.bool true), .v 16] 1 <|
(.lt (some (.v 17, false)) .id [.v 3] 1 <|
(.call (some (.v 17, false)) 43 [.v 18, .c (.int .i64 0), .c (.int .i64 3)] 1 [] <|
(.lt (some (.v 17, false)) .not [.v 19] 1 <|
(.lt none .pick [.v 17, .c (.bool true), .v 20] 1 <|
(.call (some (.v 21, false)) 44 [.v 4, .v 5, .v 6, .v 7, .v 8] 1 [] <|
(.lt (some (.v 21, false)) .not [.v 22] 1 <|
(.lt none .pick [.v 21, .c (.bool true), .v 23] 1 <|
(.lt (some (.v 24, false)) .id [.v 0] 1 <|
(.call (some (.v 24, false)) 46 [.v 25, .v 9, .v 10] 1 [] <|
(.lt (some (.v 24, false)) .not [.v 26] 1 <|
(.lt none .pick [.v 24, .c (.bool true), .v 27] 1 <|
(.ite (.v 28)
(.leaf .ret [.c (.bool false)] ())
(.lt none (.bin .neq) [.v 3, .c (.int .i64 0)] 1 <|
(.lt (some (.v 29, false)) .id [.v 2] 1 <|
(.lt (some (.v 29, false)) (.bin .eql) [.v 30, .c (.int .i64 0)] 1 <|
(.lt (some (.v 29, false)) .id [.v 31] 1 <|
(.lt (some (.v 32, true)) (.eqs [0, 0, 0, 0, 0]) [.v 4, .v 5, .v 6, .v 7, .v 8, .c (.int .i64 0), .c (.int .i64 0), .c (.int .i64 0), .c (.int .i64 0), .c (.int .i64 0)] 1 <|
(.lt (some (.v 29, false)) .pick [.v 32, .v 33, .c (.bool false)] 1 <|
(.lt (some (.v 29, false)) .id [.v 34] 1 <|
(.lt (some (.v 35, true)) .id [.v 0] 1 <|
(.call (some (.v 35, true)) 50 [.v 36] 2 [] <|
(.call (some (.v 35, true)) 51 [.v 9, .v 10, .v 37, .v 38] 1 [] <|
(.lt (some (.v 29, false)) .pick [.v 35, .v 39, .c (.bool false)] 1 <|
(.lt none .pick [.v 29, .c (.bool true), .v 40] 1 <|
(.leaf .ret [.v 41] ()))))))))))))))))))))))))))))))))
def tm43 : Tm Unit :=
(.lt none (.bin .leq) [.v 1, .v 0] 1 <|
(.lt (some (.v 3, true)) .id [.v 0] 1 <|
(.lt (some (.v 3, true)) .id [.v 2] 1 <|
(.lt (some (.v 3, true)) (.bin .leq) [.v 4, .v 5] 1 <|
(.lt none .pick [.v 3, .v 6, .c (.bool false)] 1 <|
(.leaf .ret [.v 7] ()))))))
def tm44 : Tm Unit :=
(.lt none (.bin .eql) [.v 0, .c (.int .i64 0)] 1 <|
(.ite (.v 5)
(.lt none (.eqs [0, 0, 0, 0, 0]) [.v 0, .v 1, .v 2, .v 3, .v 4, .c (.int .i64 0), .c (.int .i64 0), .c (.int .i64 0), .c (.int .i64 0), .c (.int .i64 0)] 1 <|
(.leaf .ret [.v 6] ()))
(.lt none (.bin .eql) [.v 0, .c (.int .i64 1)] 1 <|
(.ite (.v 6)
(.call none 43 [.v 1, .c (.int .i64 1), .c (.int .i64 999)] 1 [] <|
(.lt (some (.v 7, true)) .id [.v 2] 1 <|
(.call (some (.v 7, true)) 45 [.v 8] 1 [] <|
(.lt none .pick [.v 7, .v 9, .c (.bool false)] 1 <|
(.lt (some (.v 10, true)) .id [.v 3] 1 <|
(.call (some (.v 10, true)) 45 [.v 11] 1 [] <|
(.lt none .pick [.v 10, .v 12, .c (.bool false)] 1 <|
(.lt (some (.v 13, true)) .id [.v 2] 1 <|
(.lt (some (.v 13, true)) .id [.v 3] 1 <|
(.lt (some (.v 13, true)) (.bin .neq) [.v 14, .v 15] 1 <|
(.lt none .pick [.v 13, .v 16, .c (.bool false)] 1 <|
(.lt (some (.v 17, true)) .id [.v 4] 1 <|
(.call (some (.v 17, true)) 43 [.v 18, .c (.int .i64 1), .c (.int .i64 1000)] 1 [] <|
(.lt none .pick [.v 17, .v 19, .c (.bool false)] 1 <|
(.leaf .ret [.v 20] ())))))))))))))))
(.lt none (.bin .eql) [.v 0, .c (.int .i64 2)] 1 <|
(.lt (some (.v 7, true)) .id [.v 1] 1 <|
(.call (some (.v 7, true)) 43 [.v 8, .c (.int .i64 1), .c (.int .i64 999)] 1 [] <|
(.lt none .pick [.v 7, .v 9, .c (.bool false)] 1 <|
(.lt (some (.v 10, true)) .id [.v 2] 1 <|
(.call (some (.v 10, true)) 45 [.v 11] 1 [] <|
(.lt none .pick [.v 10, .v 12, .c (.bool false)] 1 <|
(.lt (some (.v 13, true)) .id [.v 3] 1 <|
(.lt (some (.v 13, true)) (.bin .eql) [.v 14, .c (.int .i64 0)] 1 <|
(.lt none .pick [.v 13, .v 15, .c (.bool false)] 1 <|
(.lt (some (.v 16, true)) .id [.v 4] 1 <|
(.lt (some (.v 16, true)) (.bin .eql) [.v 17, .c (.int .i64 0)] 1 <|
(.lt none .pick [.v 16, .v 18, .c (.bool false)] 1 <|
(.leaf .ret [.v 19] ()))))))))))))))))))
def tm45 : Tm Unit :=
(.call none 43 [.v 0, .c (.int .i64 0), .c (.int .i64 3)] 1 [] <|
(.leaf .ret [.v 1] ()))
def tm46 : Tm Unit :=
(.call none 35 [.v 0] 1 [] <|
(.lt (some (.v 3, true)) .id [.v 1] 1 <|
(.call (some (.v 3, true)) 43 [.v 4, .c (.int .i64 0), .c (.int .i64 999)] 1 [] <|
(.lt none .pick [.v 3, .v 5, .c (.bool false)] 1 <|
(.lt (some (.v 6, true)) .len [.v 2] 1 <|
(.lt (some (.v 6, true)) .id [.v 0] 1 <|
(.lt (some (.v 6, true)) (.bin .eql) [.v 7, .v 8] 1 <|
(.lt none .pick [.v 6, .v 9, .c (.bool false)] 1 <|
(.call (some (.v 10, true)) 47 [.v 2] 1 [] <|
(.lt (some (.v 10, true)) .not [.v 11] 1 <|
(.lt none .pick [.v 10, .v 12, .c (.bool false)] 1 <|
(.leaf .ret [.v 13] ()))))))))))))
def tm47 : Tm Unit :=
(.call none 48 [.v 0] 1 [] <|
(.lt none (.bin .geq) [.v 1, .c (.int .i64 0)] 1 <|
(.leaf .ret [.v 2] ())))
def tm48 : Tm Unit :=
(.lt none .len [.v 0] 1 <|
(.bind 1
(.loop [.c (.int .i64 0)]
(.lt none (.bin .lss) [.v 2, .v 1] 1 <|
(.ite (.v 3)
(.lt none .inb [.v 0, .v 2] 0 <|
(.lt none (.row 1 0 [true]) [.v 0, .v 2] 1 <|
(.call none 49 [.v 4] 1 [] <|
(.ite (.v 5)
(.leaf .ret [.v 2] ())
(.lt none (.bin .add) [.v 2, .c (.int .i64 1)] 1 <|
(.leaf .cont [.v 6] ()))))))
(.leaf (.yield 1) [] ())))) <|
(.leaf .ret [.c (.int .i64 (-1))] ())))
def tm49 : Tm Unit :=
(.call none 43 [.v 0, .c (.int .i64 0), .c (.int .i64 6)] 1 [] <|
(.lt none .not [.v 1] 1 <|
(.leaf .ret [.v 2] ())))
def tm50 : Tm Unit :=
(.lt none (.make 8 [(.int .i64 0)]) [.v 0] 1 <|
(.leaf .ret [.c (.int .i64 0), .v 1] ()))
def tm51 : Tm Unit :=
(.lt none (.bin .eql) [.v 0, .v 2] 1 <|
(.call (some (.v 4, true)) 52 [.v 1, .v 3] 1 [] <|
(.lt none .pick [.v 4, .v 5, .c (.bool false)] 1 <|
(.leaf .ret [.v 6] ()))))
def tm52 : Tm Unit :=
(.lt none .len [.v 0] 1 <|
(.lt none .len [.v 1] 1 <|
(.lt none (.bin .neq) [.v 2, .v 3] 1 <|
(.ite (.v 4)
(.leaf .ret [.c (.bool false)] ())
(.lt none .len [.v 0] 1 <|
(.bind 1
(.loop [.c (.int .i64 0)]
(.lt none (.bin .lss) [.v 6, .v 5] 1 <|
(.ite (.v 7)
(.lt none .inb [.v 0, .v 6] 0 <|
(.lt none (.row 1 0 [true]) [.v 0, .v 6] 1 <|
(.lt none .inb [.v 1, .v 6] 0 <|
(.lt none (.row 1 0 [true]) [.v 1, .v 6] 1 <|
(.lt none (.bin .neq) [.v 8, .v 9] 1 <|
(.ite (.v 10)
(.leaf .ret [.c (.bool false)] ())
(.lt none (.bin .add) [.v 6, .c (.int .i64 1)] 1 <|
(.leaf .cont [.v 11] ()))))))))
(.leaf (.yield 1) [] ())))) <|
(.leaf .ret [.c (.bool true)] ())))))))
def tm53 : Tm Unit :=
(.lt none .len [.v 1] 1 <|
(.bind 1
(.loop [.c (.int .i64 0), .v 2, .v 3]
(.lt none (.bin .lss) [.v 5, .v 4] 1 <|
(.ite (.v 8)
(.lt none .inb [.v 1, .v 5] 0 <|
(.lt none (.row 1 0 [false]) [.v 1, .v 5] 1 <|
(.lt none .len [.v 9] 1 <|
(.bind 3
(.loop [.c (.int .i64 0), .v 6, .v 7]
(.lt none (.bin .lss) [.v 11, .v 10] 1 <|
(.ite (.v 14)
(.lt none .inb [.v 9, .v 11] 0 <|
(.lt none (.row 10 0 [true, true, true, true, true, true, true, true, true, false]) [.v 9, .v 11] 10 <|
(.lt none (.bin .add) [.v 11, .c (.int .i64 1)] 1 <|
(.call none 54 [.v 5, .v 25, .v 15, .v 16, .v 17, .v 18, .v 19, .v 20, .v 21, .v 22, .v 23, .v 24, .v 12, .v 13] 2 [] <|
(.lt none (.bin .add) [.v 11, .c (.int .i64 1)] 1 <|
(.leaf .cont [.v 28, .v 26, .v 27] ()))))))
(.leaf (.yield 3) [.v 12, .v 13] ())))) <|
(.lt none (.bin .add) [.v 5, .c (.int .i64 1)] 1 <|
(.leaf .cont [.v 13, .v 11, .v 12] ()))))))
(.leaf (.yield 1) [.v 6, .v 7] ())))) <|
(.leaf .ret [.v 5, .v 6] ())))
def tm54 : Tm Unit :=
(.call none 55 [.v 0, .v 1, .v 2, .v 3, .v 4, .v 5, .v 6, .v 7, .v 8, .v 9, .v 10, .v 11] 1 [] <|
(.lt (some (.v 12, false)) .id [.v 14] 1 <|
(.lt (some (.v 12, false)) .slen [.v 15] 1 <|
(.lt (some (.v 12, false)) (.bin .gtr) [.v 16, .c (.int .i64 200)] 1 <|
(.lt none .pick [.v 12, .c (.bool true), .v 17] 1 <|
(.call none 70 [.v 14] 1 [] <|
(.lt none (.bin .add) [.v 13, .v 19] 1 <|
(.leaf .ret [.v 18, .v 20] ()))))))))
def tm55 : Tm Unit :=
(.lt none (.mk 1 5) [.v 0, .v 1, .v 2, .v 3, .v 4] 1 <|
(.call none 56 [.v 12] 1 [] <|
(.lt none (.bin .add) [.v 13, .c (.str [124])] 1 <|
(.call none 68 [.v 5, .v 6, .v 7, .v 8, .v 9] 1 [] <|
(.lt none (.bin .add) [.v 14, .v 15] 1 <|
(.lt none (.bin .add) [.v 16, .c (.str [124])] 1 <|
(.call none 69 [.v 10, .v 11] 1 [] <|
(.lt none (.bin .add) [.v 17, .v 18] 1 <|
(.leaf .ret [.v 19] ())))))))))
def tm56 : Tm Unit :=
(.call none 57 [.c (.str [32]), .v 0] 1 [] <|
(.leaf .ret [.v 1] ()))
def tm57 : Tm Unit :=
(.lt none (.mk 1 0) [] 1 <|
(.lt none .len [.v 1] 1 <|
(.bind 1
(.loop [.v 2, .c (.int .i64 0)]
(.lt none (.bin .lss) [.v 5, .v 3] 1 <|
(.ite (.v 6)
(.lt none .inb [.v 1, .v 5] 0 <|
(.lt none (.row 1 0 [true]) [.v 1, .v 5] 1 <|
(.call none 58 [.v 7] 1 [] <|
(.lt none (.mk 1 1) [.v 8] 1 <|
(.lt none (.app 1 16 true) [.v 4, .v 9] 1 <|
(.lt none (.bin .add) [.v 5, .c (.int .i64 1)] 1 <|
(.leaf .cont [.v 10, .v 11] ())))))))
(.leaf (.yield 1) [.v 4] ())))) <|
(.call none 63 [.v 4, .v 0] 1 [] <|
(.leaf .ret [.v 5] ())))))
def tm58 : Tm Unit :=
(.call none 59 [.v 0] 1 [] <|
(.leaf .ret [.v 1] ()))
def tm59 : Tm Unit :=
(.call none 60 [.v 0, .c (.int .i64 10)] 1 [] <|
(.leaf .ret [.v 1] ()))
def tm60 : Tm Unit := .stuck
def tm63 : Tm Unit := .stuck
def tm68 : Tm Unit :=
(.lt none (.bin .eql) [.v 0, .c (.int .i64 1)] 1 <|
(.ite (.v 5)
(.lt none (.mk 1 4) [.v 1, .v 2, .v 3, .v 4] 1 <|
(.call none 56 [.v 6] 1 [] <|
(.lt none (.bin .add) [.c (.str [109, 111, 118, 101, 32]), .v 7] 1 <|
(.leaf .ret [.v 8] ()))))
(.lt none (.bin .eql) [.v 0, .c (.int .i64 2)] 1 <|
(.ite (.v 6)
(.lt none (.mk 1 2) [.v 1, .v 2] 1 <|
(.call none 56 [.v 7] 1 [] <|
(.lt none (.bin .add) [.c (.str [114, 101, 97, 100, 32]), .v 8] 1 <|
(.leaf .ret [.v 9] ()))))
(.leaf .ret [.c (.str [45])] ())))))
def tm69 : Tm Unit :=
(.call none 58 [.v 0] 1 [] <|
(.lt none (.bin .add) [.v 2, .c (.str [58])] 1 <|
(.call none 57 [.c (.str [44]), .v 1] 1 [] <|
(.lt none (.bin .add) [.v 3, .v 4] 1 <|
(.leaf .ret [.v 5] ())))))
def tm70 : Tm Unit :=
(.lt none .slen [.v 0] 1 <|
(.lt none (.conv .u8) [.v 1] 1 <|
(.lt none (.mk 1 1) [.v 2] 1 <|
(.lt none .bstr [.v 3] 1 <|
(.lt none (.bin .add) [.v 4, .v 0] 1 <|
(.call none 71 [.v 5, .c (.int .i64 7), .c (.int .i64 33)] 1 [] <|
(.call none 72 [.v 6] 1 [] <|
(.lt none (.bin .add) [.v 5, .v 7] 1 <|
(.lt none (.bin .add) [.v 8, .c (.str [1])] 1 <|
(.leaf .ret [.v 9] ()))))))))))
def tm71 : Tm Unit :=
(.lt none .slen [.v 0] 1 <|
(.bind 1
(.loop [.v 1, .c (.int .i64 0)]
(.lt none (.bin .lss) [.v 5, .v 3] 1 <|
(.ite (.v 6)
(.lt none (.bin .mul) [.v 4, .v 2] 1 <|
(.lt none .sidx [.v 0, .v 5] 1 <|
(.lt none (.conv .i64) [.v 8] 1 <|
(.lt none (.bin .add) [.v 7, .v 9] 1 <|
(.lt none (.bin .rem) [.v 10, .c (.int .i64 65521)] 1 <|
(.lt none (.bin .add) [.v 5, .c (.int .i64 1)] 1 <|
(.leaf .cont [.v 11, .v 12] ())))))))
(.leaf (.yield 1) [.v 4] ())))) <|
(.leaf .ret [.v 4] ())))
def tm72 : Tm Unit :=
(.lt none (.bin .quo) [.v 0, .c (.int .i64 256)] 1 <|
(.lt none (.conv .u8) [.v 1] 1 <|
(.lt none (.bin .rem) [.v 0, .c (.int .i64 256)] 1 <|
(.lt none (.conv .u8) [.v 3] 1 <|
(.lt none (.mk 1 2) [.v 2, .v 4] 1 <|
(.lt none .bstr [.v 5] 1 <|
(.leaf .ret [.v 6] ())))))))
def tm73 : Tm Unit :=
(.lt none (.bin .neq) [.v 0, .v 2] 1 <|
(.ite (.v 4)
(.leaf .ret [.c (.bool false)] ())
(.call none 74 [.v 1, .v 3] 1 [] <|
(.lt none .not [.v 5] 1 <|
(.ite (.v 6)
(.leaf .ret [.c (.bool false)] ())
(.leaf .ret [.c (.bool true)] ()))))))
def tm74 : Tm Unit :=
(.lt none .len [.v 0] 1 <|
(.lt none .len [.v 1] 1 <|
(.lt none (.bin .neq) [.v 2, .v 3] 1 <|
(.ite (.v 4)
(.leaf .ret [.c (.bool false)] ())
(.bind 1
(.loop [.c (.int .i64 0)]
(.lt none .len [.v 0] 1 <|
(.lt none (.bin .lss) [.v 5, .v 6] 1 <|
(.ite (.v 7)
(.lt none .inb [.v 0, .v 5] 0 <|
(.lt none (.row 1 0 [false]) [.v 0, .v 5] 1 <|
(.lt none .inb [.v 1, .v 5] 0 <|
(.lt none (.row 1 0 [false]) [.v 1, .v 5] 1 <|
(.call none 75 [.v 8, .v 9] 1 [] <|
(.lt none .not [.v 10] 1 <|
(.ite (.v 11)
(.leaf .ret [.c (.bool false)] ())
(.lt none (.bin .add) [.v 5, .c (.int .i64 1)] 1 <|
(.leaf .cont [.v 12] ())))))))))
(.leaf (.yield 1) [] ()))))) <|
(.leaf .ret [.c (.bool true)] ()))))))
def tm75 : Tm Unit :=
(.lt none .len [.v 0] 1 <|
(.lt none .len [.v 1] 1 <|
(.lt none (.bin .neq) [.v 2, .v 3] 1 <|
(.ite (.v 4)
(.leaf .ret [.c (.bool false)] ())
(.bind 1
(.loop [.c (.int .i64 0)]
(.lt none .len [.v 0] 1 <|
(.lt none (.bin .lss) [.v 5, .v 6] 1 <|
(.ite (.v 7)
(.lt none .inb [.v 0, .v 5] 0 <|
(.lt none (.row 10 0 [true, true, true, true, true, true, true, true, true, false]) [.v 0, .v 5] 10 <|
(.lt none .inb [.v 1, .v 5] 0 <|
(.lt none (.row 10 0 [true, true, true, true, true, true, true, true, true, false]) [.v 1, .v 5] 10 <|
(.call none 76 [.v 8, .v 9, .v 10, .v 11, .v 12, .v 13, .v 14, .v 15, .v 16, .v 17, .v 18, .v 19, .v 20, .v 21, .v 22, .v 23, .v 24, .v 25, .v 26, .v 27] 1 [] <|
(.lt none .not [.v 28] 1 <|
(.ite (.v 29)
(.leaf .ret [.c (.bool false)] ())
(.lt none (.bin .add) [.v 5, .c (.int .i64 1)] 1 <|
(.leaf .cont [.v 30] ())))))))))
(.leaf (.yield 1) [] ()))))) <|
(.leaf .ret [.c (.bool true)] ()))))))
def tm76 : Tm Unit :=
(.lt none (.bin .neq) [.v 0, .v 10] 1 <|
(.ite (.v 20)
(.leaf .ret [.c (.bool false)] ())
(.lt none (.bin .neq) [.v 1, .v 11] 1 <|
(.ite (.v 21)
(.leaf .ret [.c (.bool false)] ())
(.lt none (.bin .neq) [.v 2, .v 12] 1 <|
(.ite (.v 22)
(.leaf .ret [.c (.bool false)] ())
(.call none 77 [.v 3, .v 4, .v 5, .v 6, .v 7, .v 13, .v 14, .v 15, .v 16, .v 17] 1 [] <|
(.lt none .not [.v 23] 1 <|
(.ite (.v 24)
(.leaf .ret [.c (.bool false)] ())
(.call none 78 [.v 8, .v 9, .v 18, .v 19] 1 [] <|
(.lt none .not [.v 25] 1 <|
(.ite (.v 26)
(.leaf .ret [.c (.bool false)] ())
(.leaf .ret [.c (.bool true)] ())))))))))))))
def tm77 : Tm Unit :=
(.lt none (.bin .neq) [.v 0, .v 5] 1 <|
(.ite (.v 10)
(.leaf .ret [.c (.bool false)] ())
(.lt none (.bin .neq) [.v 1, .v 6] 1 <|
(.ite (.v 11)
(.leaf .ret [.c (.bool false)] ())
(.lt none (.bin .neq) [.v 2, .v 7] 1 <|
(.ite (.v 12)
(.leaf .ret [.c (.bool false)] ())
(.lt none (.bin .neq) [.v 3, .v 8] 1 <|
(.ite (.v 13)
(.leaf .ret [.c (.bool false)] ())
(.lt none (.bin .neq) [.v 4, .v 9] 1 <|
(.ite (.v 14)
(.leaf .ret [.c (.bool false)] ())
(.leaf .ret [.c (.bool true)] ())))))))))))
def tm78 : Tm Unit :=
(.lt none (.bin .neq) [.v 0, .v 2] 1 <|
(.ite (.v 4)
(.leaf .ret [.c (.bool false)] ())
(.call none 79 [.v 1, .v 3] 1 [] <|
(.lt none .not [.v 5] 1 <|
(.ite (.v 6)
(.leaf .ret [.c (.bool false)] ())
(.leaf .ret [.c (.bool true)] ()))))))
def tm79 : Tm Unit :=
(.lt none .len [.v 0] 1 <|
(.lt none .len [.v 1] 1 <|
(.lt none (.bin .neq) [.v 2, .v 3] 1 <|
(.ite (.v 4)
(.leaf .ret [.c (.bool false)] ())
(.bind 1
(.loop [.c (.int .i64 0)]
(.lt none .len [.v 0] 1 <|
(.lt none (.bin .lss) [.v 5, .v 6] 1 <|
(.ite (.v 7)
(.lt none .inb [.v 0, .v 5] 0 <|
(.lt none (.row 1 0 [true]) [.v 0, .v 5] 1 <|
(.lt none .inb [.v 1, .v 5] 0 <|
(.lt none (.row 1 0 [true]) [.v 1, .v 5] 1 <|
(.lt none (.bin .neq) [.v 8, .v 9] 1 <|
(.ite (.v 10)
(.leaf .ret [.c (.bool false)] ())
(.lt none (.bin .add) [.v 5, .c (.int .i64 1)] 1 <|
(.leaf .cont [.v 11] ()))))))))
(.leaf (.yield 1) [] ()))))) <|
(.leaf .ret [.c (.bool true)] ()))))))

def T : Nat → Ent := entTab [(0, .tm tm0), (1, .tm tm1), (2, .tm tm2), (3, .tm tm3), (4, .tm tm4), (5, .tm tm5), (6, .tm tm6), (7, .tm tm7), (8, .tm tm8), (9, .tm tm9), (10, .tm tm10), (11, .tm tm11), (12, .tm tm12), (13, .tm tm13), (14, .tm tm14), (15, .tm tm15), (16, .tm tm16), (17, .tm tm17), (18, .tm tm18), (19, .tm tm19), (20, .tm tm20), (21, .tm tm21), (22, .tm tm22), (23, .tm tm23), (24, .tm tm24), (25, .tm tm25), (26, .tm tm26), (27, .tm tm27), (28, .tm tm28), (29, .tm tm29), (30, .tm tm30), (31, .tm tm31), (32, .tm tm32), (33, .tm tm33), (34, .tm tm34), (35, .tm tm35), (36, .tm tm36), (37, .tm tm37), (38, .tm tm38), (39, .tm tm39), (40, .tm tm40), (41, .tm tm41), (42, .tm tm42), (43, .tm tm43), (44, .tm tm44), (45, .tm tm45), (46, .tm tm46), (47, .tm tm47), (48, .tm tm48), (49, .tm tm49), (50, .tm tm50), (51, .tm tm51), (52, .tm tm52), (53, .tm tm53), (54, .tm tm54), (55, .tm tm55), (56, .tm tm56), (57, .tm tm57), (58, .tm tm58), (59, .tm tm59), (60, .ext fmtE), (63, .ext joinE), (68, .tm tm68), (69, .tm tm69), (70, .tm tm70), (71, .tm tm71), (72, .tm tm72), (73, .tm tm73), (74, .tm tm74), (75, .tm tm75), (76, .tm tm76), (77, .tm tm77), (78, .tm tm78), (79, .tm tm79)]
abbrev K := FnOk Tryd.prog T (tiTab tiL) sigs
def Tryd.lays156_ren : Go.Shelf.Ren := ⟨fun | 156 => 142 | 165 => 150 | 166 => 151 | 169 => 152 | 240 => 160 | 241 => 161 | 276 => 168 | 277 => 169 | n => n, fun | 31 => 79 | 9 => 9 | 3 => 3 | 4 => 4 | 0 => 0 | 20 => 20 | 72 => 156 | 76 => 160 | 70 => 154 | 37 => 116 | 75 => 159 | 127 => 166 | 164 => 180 | 5 => 5 | 80 => 162 | n => n, fun | n => n⟩
theorem Tryd.lays156 : Go.Proofs.Lays.n156 Tryd.prog Tryd.lays156_ren := {
  mixed := by kernel_rfl
  f156 := Tryd.func142.trans (congrArg some (by kernel_rfl))
  f165 := Tryd.func150.trans (congrArg some (by kernel_rfl))
  f166 := Tryd.func151.trans (congrArg some (by kernel_rfl))
  f169 := Tryd.func152.trans (congrArg some (by kernel_rfl))
  f240 := Tryd.func160.trans (congrArg some (by kernel_rfl))
  f241 := Tryd.func161.trans (congrArg some (by kernel_rfl))
  f276 := Tryd.func168.trans (congrArg some (by kernel_rfl))
  f277 := Tryd.func169.trans (congrArg some (by kernel_rfl))
  t0 := Tryd.underlying0
  a0 := Tryd.isAgg0
  z0 := Tryd.sizeOf0
  v0 := Tryd.zeroValue0
  t3 := Tryd.underlying3
  a3 := Tryd.isAgg3
  z3 := Tryd.sizeOf3
  v3 := Tryd.zeroValue3
  t4 := Tryd.underlying4
  a4 := Tryd.isAgg4
  z4 := Tryd.sizeOf4
  v4 := Tryd.zeroValue4
  t9 := Tryd.underlying9
  a9 := Tryd.isAgg9
  z9 := Tryd.sizeOf9
  v9 := Tryd.zeroValue9
  t20 := Tryd.underlying20
  a20 := Tryd.isAgg20
  z20 := Tryd.sizeOf20
  v20 := Tryd.zeroValue20
  t31 := Tryd.underlying79
  a31 := Tryd.isAgg79
  z31 := Tryd.sizeOf79
  v31 := Tryd.zeroValue79
  t37 := Tryd.underlying116
  a37 := Tryd.isAgg116
  z37 := Tryd.sizeOf116
  v37 := Tryd.zeroValue116
  t70 := Tryd.underlying154
  a70 := Tryd.isAgg154
  z70 := Tryd.sizeOf154
  v70 := Tryd.zeroValue154
  t72 := Tryd.underlying156
  a72 := Tryd.isAgg156
  z72 := Tryd.sizeOf156
  v72 := Tryd.zeroValue156
  t75 := Tryd.underlying159
  a75 := Tryd.isAgg159
  z75 := Tryd.sizeOf159
  v75 := Tryd.zeroValue159
  t76 := Tryd.underlying160
  a76 := Tryd.isAgg160
  z76 := Tryd.sizeOf160
  v76 := Tryd.zeroValue160
  t127 := Tryd.underlying166
  a127 := Tryd.isAgg166
  z127 := Tryd.sizeOf166
  v127 := Tryd.zeroValue166
  t164 := Tryd.underlying180
  a164 := Tryd.isAgg180
  z164 := Tryd.sizeOf180
  v164 := Tryd.zeroValue180 }
theorem extra : Go.Proofs.Builder.Extra Tryd.prog Tryd.lays156_ren := { sizeBuilder := by kernel_rfl, liesBuilder := by kernel_rfl, t5 := Tryd.underlying5, a5 := Tryd.isAgg5, z5 := Tryd.sizeOf5, v5 := Tryd.zeroValue5, infoByte := by kernel_rfl, cellsByte := by kernel_rfl, sizeByte := by kernel_rfl, neB5 := by decide }
theorem o63 : K 63 sg63 := .inr ⟨joinE, rfl, join_ok Tryd.lays156 extra⟩
def Tryd.laysM246_ren : Go.Shelf.Ren := ⟨fun | 246 => 153 | 283 => 162 | 284 => 163 | 285 => 164 | 286 => 165 | 129 => 171 | 317 => 170 | 318 => 172 | 319 => 173 | 320 => 174 | 337 => 175 | 338 => 176 | n => n, fun | 2 => 2 | 3 => 3 | 9 => 9 | 4 => 4 | 171 => 167 | 0 => 0 | 53 => 168 | 37 => 116 | 5 => 5 | 173 => 171 | 212 => 184 | 51 => 177 | 20 => 20 | 213 => 185 | 46 => 165 | 232 => 188 | 233 => 189 | n => n, fun | 17 => 3 | 18 => 4 | 19 => 5 | n => n⟩
theorem Tryd.laysM246 : Go.Proofs.LaysM.n246 Tryd.prog Tryd.laysM246_ren := {
  mixed := by kernel_rfl
  f129 := Tryd.func171.trans (congrArg some (by kernel_rfl))
  f246 := Tryd.func153.trans (congrArg some (by kernel_rfl))
  f283 := Tryd.func162.trans (congrArg some (by kernel_rfl))
  f284 := Tryd.func163.trans (congrArg some (by kernel_rfl))
  f285 := Tryd.func164.trans (congrArg some (by kernel_rfl))
  f286 := Tryd.func165.trans (congrArg some (by kernel_rfl))
  f317 := Tryd.func170.trans (congrArg some (by kernel_rfl))
  f318 := Tryd.func172.trans (congrArg some (by kernel_rfl))
  f319 := Tryd.func173.trans (congrArg some (by kernel_rfl))
  f320 := Tryd.func174.trans (congrArg some (by kernel_rfl))
  f337 := Tryd.func175.trans (congrArg some (by kernel_rfl))
  f338 := Tryd.func176.trans (congrArg some (by kernel_rfl))
  t0 := Tryd.underlying0
  a0 := Tryd.isAgg0
  z0 := Tryd.sizeOf0
  v0 := Tryd.zeroValue0
  t2 := Tryd.underlying2
  a2 := Tryd.isAgg2
  z2 := Tryd.sizeOf2
  v2 := Tryd.zeroValue2
  t3 := Tryd.underlying3
  a3 := Tryd.isAgg3
  z3 := Tryd.sizeOf3
  v3 := Tryd.zeroValue3
  t4 := Tryd.underlying4
  a4 := Tryd.isAgg4
  z4 := Tryd.sizeOf4
  v4 := Tryd.zeroValue4
  t5 := Tryd.underlying5
  a5 := Tryd.isAgg5
  z5 := Tryd.sizeOf5
  v5 := Tryd.zeroValue5
  t9 := Tryd.underlying9
  a9 := Tryd.isAgg9
  z9 := Tryd.sizeOf9
  v9 := Tryd.zeroValue9
  t20 := Tryd.underlying20
  a20 := Tryd.isAgg20
  z20 := Tryd.sizeOf20
  v20 := Tryd.zeroValue20
  t37 := Tryd.underlying116
  a37 := Tryd.isAgg116
  z37 := Tryd.sizeOf116
  v37 := Tryd.zeroValue116
  t46 := Tryd.underlying165
  a46 := Tryd.isAgg165
  z46 := Tryd.sizeOf165
  v46 := Tryd.zeroValue165
  t51 := Tryd.underlying177
  a51 := Tryd.isAgg177
  z51 := Tryd.sizeOf177
  v51 := Tryd.zeroValue177
  t53 := Tryd.underlying168
  a53 := Tryd.isAgg168
  z53 := Tryd.sizeOf168
  v53 := Tryd.zeroValue168
  t171 := Tryd.underlying167
  a171 := Tryd.isAgg167
  z171 := Tryd.sizeOf167
  v171 := Tryd.zeroValue167
  t173 := Tryd.underlying171
  a173 := Tryd.isAgg171
  z173 := Tryd.sizeOf171
  v173 := Tryd.zeroValue171
  t212 := Tryd.underlying184
  a212 := Tryd.isAgg184
  z212 := Tryd.sizeOf184
  v212 := Tryd.zeroValue184
  t213 := Tryd.underlying185
  a213 := Tryd.isAgg185
  z213 := Tryd.sizeOf185
  t232 := Tryd.underlying188
  a232 := Tryd.isAgg188
  z232 := Tryd.sizeOf188
  v232 := Tryd.zeroValue188
  t233 := Tryd.underlying189
  a233 := Tryd.isAgg189
  z233 := Tryd.sizeOf189
  v233 := Tryd.zeroValue189
  g17 := by kernel_rfl
  g18 := by kernel_rfl
  g19 := by kernel_rfl
  i0 := by kernel_rfl
  i2 := by kernel_rfl
  i3 := by kernel_rfl
  i4 := by kernel_rfl
  i5 := by kernel_rfl
  i9 := by kernel_rfl
  i20 := by kernel_rfl
  i37 := by kernel_rfl
  i46 := by kernel_rfl
  i51 := by kernel_rfl
  i53 := by kernel_rfl
  i171 := by kernel_rfl
  i173 := by kernel_rfl
  i212 := by kernel_rfl
  i232 := by kernel_rfl
  i233 := by kernel_rfl
  m17 := by kernel_rfl
  m18 := by kernel_rfl
  m19 := by kernel_rfl }
theorem o60 : FnOkX Tryd.prog (pow10X Tryd.prog) T (tiTab tiL) sigs 60 sg60 := .inr ⟨fmtE, rfl, fmt_ok Tryd.laysM246⟩
theorem pow_of {W : World} {l : List (String × DataW Unit)} (h : laidMet Tryd.prog l W) (hm : (tabName, Lib.tabData .u64 Lib.pow10Tab) ∈ l) : pow10X Tryd.prog (fun _ => .frz) W := pow10_of (g := 3) (t := 184) (by kernel_rfl) (by kernel_rfl) Tryd.underlying184 Tryd.underlying168 (by kernel_rfl) (by kernel_rfl) h hm
theorem o0 : K 0 sg0 := fnK (E := E0) (tm := tm0) Tryd.func5 (by kernel_rfl)
theorem o1 : K 1 sg1 := fnK (E := E0) (tm := tm1) Tryd.func19 (by kernel_rfl)
theorem o2 : K 2 sg2 := fnK (E := E0) (tm := tm2) Tryd.func55 (by kernel_rfl)
theorem o3 : K 3 sg3 := fnK (E := E0) (tm := tm3) Tryd.func101 (by kernel_rfl)
theorem o4 : K 4 sg4 := fnK (E := E0) (tm := tm4) Tryd.func9 (by kernel_rfl)
theorem o5 : K 5 sg5 := fnK (E := E0) (tm := tm5) Tryd.func36 (by kernel_rfl)
theorem o6 : K 6 sg6 := fnK (E := E0) (tm := tm6) Tryd.func83 (by kernel_rfl)
theorem o7 : K 7 sg7 := fnK (E := E0) (tm := tm7) Tryd.func21 (by kernel_rfl)
theorem o8 : K 8 sg8 := fnK (E := E0) (tm := tm8) Tryd.func58 (by kernel_rfl)
theorem o9 : K 9 sg9 := fnK (E := E0) (tm := tm9) Tryd.func102 (by kernel_rfl)
theorem o10 : K 10 sg10 := fnK (E := E0) (tm := tm10) Tryd.func11 (by kernel_rfl)
theorem o11 : K 11 sg11 := fnK (E := E0) (tm := tm11) Tryd.func41 (by kernel_rfl)
theorem o12 : K 12 sg12 := fnK (E := E0) (tm := tm12) Tryd.func42 (by kernel_rfl)
theorem o13 : K 13 sg13 := fnK (E := E0) (tm := tm13) Tryd.func89 (by kernel_rfl)
theorem o14 : K 14 sg14 := fnK (E := ⟨tiTab tiL, sigs, 0, 0, false, false, [], [(8, [(12, 0, 0, 0), (66, 0, 0, 0)], [12, 15, 39, 42, 45, 60, 63, 66, 1], 288, [1, 4, 7, 10, 13, 16, 19, 22, 25, 28, 31, 34, 37, 40, 43, 46, 49, 52, 55, 58, 61, 64, 67, 70, 73, 76, 79, 82, 85, 88, 91, 94, 97, 100, 103, 106, 109, 112, 115, 118, 121, 124, 127, 130, 133, 136, 139, 142, 145, 148, 151, 154, 157, 160, 163, 166, 169, 172, 175, 178, 181, 184, 187, 190, 193, 196, 199, 202, 205, 208, 211, 214, 217, 220, 223, 226, 229, 232, 235, 238, 241, 244, 247, 250, 253, 256, 259, 262, 265, 268, 271, 274, 277, 280, 283, 286, 289, 292, 295, 298, 301, 304, 307, 310, 313, 316, 319, 322, 325, 328, 331, 334, 337, 340, 343, 346, 349, 352, 355, 358, 361, 364, 367, 370, 373, 376, 379, 382, 385, 388, 391, 394, 397, 400, 403, 406, 409, 412, 415, 418, 421, 424, 427, 430, 433, 436, 439, 442, 445, 448, 451, 454, 457, 460, 463, 466, 469, 472, 475, 478, 481, 484, 487, 490, 493, 496, 499, 502, 505, 508, 511, 514, 517, 520, 523, 526]), (5, [(12, 0, 0, 0), (45, 0, 0, 0)], [12, 39, 42, 45, 1], 483, [])]⟩) (tm := tm14) Tryd.func20 (by kernel_rfl)
theorem o15 : K 15 sg15 := fnK (E := ⟨tiTab tiL, sigs, 0, 0, false, false, [], [(7, [(84, 0, 0, 0)], [3, 12, 60, 63, 66, 78, 81, 84, 1], 192, [1, 4, 7, 10, 13, 16, 19, 22, 25, 28, 31, 34, 37, 40, 43, 46, 49, 52, 55, 58, 61, 64, 67, 70, 73, 76, 79, 82, 85, 88, 91, 94, 97, 100, 103, 106, 109, 112, 115, 118, 121, 124, 127, 130, 133, 136, 139, 142, 145, 148, 151, 154, 157, 160, 163, 166, 169, 172, 175, 178, 181, 184, 187, 190, 193, 196, 199, 202, 205, 208, 211, 214, 217, 220, 223, 226, 229, 232, 235, 238, 241, 244, 247, 250, 253, 256, 259, 262, 265, 268, 271, 274, 277, 280, 283, 286, 289, 292, 295, 298, 301, 304, 307, 310, 313, 316, 319, 322, 325, 328, 331, 334, 337, 340, 343, 346, 349, 352, 355, 358, 361, 364, 367, 370, 373, 376, 379, 382, 385, 388, 391, 394, 397, 400, 403, 406, 409, 412, 415, 418, 421, 424, 427, 430, 433, 436, 439, 442, 445, 448, 451, 454, 457, 460, 463, 466, 469, 472, 475, 478, 481, 484, 487, 490, 493, 496, 499, 502, 505, 508, 511, 514, 517, 520, 523, 526, 529, 532, 535, 538, 541, 544, 547, 550, 553, 556, 559, 562, 565, 568, 571, 574, 577, 580, 583, 586, 589, 592, 595, 598, 601, 604, 607, 610, 613, 616, 619, 622, 625, 628, 631, 634, 637, 640, 643, 646, 649, 652, 655, 658, 661, 664, 667, 670, 673, 676, 679, 682, 685, 688, 691, 694, 697, 700, 703, 706, 709, 712, 715, 718, 721, 724, 727, 730, 733, 736, 739, 742, 745, 748, 751, 754, 757, 760, 763, 766, 769, 772, 775, 778, 781, 784, 787, 790, 793, 796, 799, 802, 805, 808, 811, 814, 817, 820, 823, 826, 829, 832, 835, 838, 841, 844, 847, 850, 853, 856, 859, 862]), (4, [(66, 0, 0, 0)], [3, 60, 63, 66, 1], 401, [])]⟩) (tm := tm15) Tryd.func56 (by kernel_rfl)
theorem o16 : K 16 sg16 := fnK (E := E0) (tm := tm16) Tryd.func37 (by kernel_rfl)
theorem o17 : K 17 sg17 := fnK (E := E0) (tm := tm17) Tryd.func39 (by kernel_rfl)
theorem o18 : K 18 sg18 := fnK (E := E0) (tm := tm18) Tryd.func84 (by kernel_rfl)
theorem o19 : K 19 sg19 := fnK (E := E0) (tm := tm19) Tryd.func86 (by kernel_rfl)
theorem o20 : K 20 sg20 := fnK (E := E0) (tm := tm20) Tryd.func85 (by kernel_rfl)
theorem o21 : K 21 sg21 := fnK (E := E0) (tm := tm21) Tryd.func124 (by kernel_rfl)
theorem o22 : K 22 sg22 := fnK (E := E0) (tm := tm22) Tryd.func87 (by kernel_rfl)
theorem o23 : K 23 sg23 := fnK (E := E0) (tm := tm23) Tryd.func110 (by kernel_rfl)
theorem o24 : K 24 sg24 := fnK (E := E0) (tm := tm24) Tryd.func134 (by kernel_rfl)
theorem o25 : K 25 sg25 := fnK (E := E0) (tm := tm25) Tryd.func88 (by kernel_rfl)
theorem o26 : K 26 sg26 := fnK (E := E0) (tm := tm26) Tryd.func125 (by kernel_rfl)
theorem o27 : K 27 sg27 := fnK (E := E0) (tm := tm27) Tryd.func40 (by kernel_rfl)
theorem o28 : K 28 sg28 := fnK (E := E0) (tm := tm28) Tryd.func50 (by kernel_rfl)
theorem o29 : K 29 sg29 := fnK (E := E0) (tm := tm29) Tryd.func51 (by kernel_rfl)
theorem o30 : K 30 sg30 := fnK (E := E0) (tm := tm30) Tryd.func52 (by kernel_rfl)
theorem o31 : K 31 sg31 := fnK (E := E0) (tm := tm31) Tryd.func99 (by kernel_rfl)
theorem o32 : K 32 sg32 := fnK (E := E0) (tm := tm32) Tryd.func57 (by kernel_rfl)
theorem o33 : K 33 sg33 := fnK (E := E0) (tm := tm33) Tryd.func22 (by kernel_rfl)
theorem o34 : K 34 sg34 := fnK (E := E0) (tm := tm34) Tryd.func59 (by kernel_rfl)
theorem o35 : K 35 sg35 := fnK (E := E0) (tm := tm35) Tryd.func74 (by kernel_rfl)
theorem o36 : K 36 sg36 := fnK (E := E0) (tm := tm36) Tryd.func103 (by kernel_rfl)
theorem o37 : K 37 sg37 := fnK (E := E0) (tm := tm37) Tryd.func132 (by kernel_rfl)
theorem o38 : K 38 sg38 := fnK (E := E0) (tm := tm38) Tryd.func104 (by kernel_rfl)
theorem o39 : K 39 sg39 := fnK (E := E0) (tm := tm39) Tryd.func105 (by kernel_rfl)
theorem o40 : K 40 sg40 := fnK (E := E0) (tm := tm40) Tryd.func133 (by kernel_rfl)
theorem o41 : K 41 sg41 := fnK (E := E0) (tm := tm41) Tryd.func106 (by kernel_rfl)
theorem o42 : K 42 sg42 := fnK (E := E0) (tm := tm42) Tryd.func44 (by kernel_rfl)
theorem o43 : K 43 sg43 := fnK (E := E0) (tm := tm43) Tryd.func90 (by kernel_rfl)
theorem o44 : K 44 sg44 := fnK (E := E0) (tm := tm44) Tryd.func91 (by kernel_rfl)
theorem o45 : K 45 sg45 := fnK (E := E0) (tm := tm45) Tryd.func114 (by kernel_rfl)
theorem o46 : K 46 sg46 := fnK (E := E0) (tm := tm46) Tryd.func92 (by kernel_rfl)
theorem o47 : K 47 sg47 := fnK (E := E0) (tm := tm47) Tryd.func126 (by kernel_rfl)
theorem o48 : K 48 sg48 := fnK (E := E0) (tm := tm48) Tryd.func141 (by kernel_rfl)
theorem o49 : K 49 sg49 := fnK (E := E0) (tm := tm49) Tryd.func127 (by kernel_rfl)
theorem o50 : K 50 sg50 := fnK (E := E0) (tm := tm50) Tryd.func94 (by kernel_rfl)
theorem o51 : K 51 sg51 := fnK (E := E0) (tm := tm51) Tryd.func93 (by kernel_rfl)
theorem o52 : K 52 sg52 := fnK (E := E0) (tm := tm52) Tryd.func128 (by kernel_rfl)
theorem o53 : K 53 sg53 := fnK (E := ⟨tiTab tiL, sigs, 0, 0, false, false, [], [(5, [(54, 0, 0, 0), (1, 0, 0, 0), (4, 0, 0, 0)], [93, 96, 3, 12, 27, 30, 33, 48, 51, 54, 1, 4, 7], 240, [1, 4, 7, 10, 13, 16, 19, 22, 25, 28, 31, 34, 37, 40, 43, 46, 49, 52, 55, 58, 61, 64, 67, 70, 73, 76, 79, 82, 85, 88, 91, 94, 97, 100, 103, 106, 109, 112, 115, 118, 121, 124, 127, 130, 133, 136, 139, 142, 145, 148, 151, 154, 157, 160, 163, 166, 169, 172, 175, 178, 181, 184, 187, 190, 193, 196, 199, 202, 205, 208, 211, 214, 217, 220, 223, 226, 229, 232, 235, 238]), (2, [(33, 0, 0, 0), (1, 0, 0, 0), (4, 0, 0, 0)], [93, 96, 3, 27, 30, 33, 1, 4, 7], 437, [])]⟩) (tm := tm53) Tryd.func60 (by kernel_rfl)
theorem o54 : K 54 sg54 := fnK (E := E0) (tm := tm54) Tryd.func61 (by kernel_rfl)
theorem o55 : K 55 sg55 := fnK (E := E0) (tm := tm55) Tryd.func45 (by kernel_rfl)
theorem o56 : K 56 sg56 := fnK (E := E0) (tm := tm56) Tryd.func95 (by kernel_rfl)
theorem o57 : K 57 sg57 := fnK (E := E0) (tm := tm57) Tryd.func129 (by kernel_rfl)
theorem o58 : K 58 sg58 := fnK (E := E0) (tm := tm58) Tryd.func130 (by kernel_rfl)
theorem o59 : K 59 sg59 := fnK (E := E0) (tm := tm59) Tryd.func143 (by kernel_rfl)
theorem o68 : K 68 sg68 := fnK (E := E0) (tm := tm68) Tryd.func96 (by kernel_rfl)
theorem o69 : K 69 sg69 := fnK (E := E0) (tm := tm69) Tryd.func97 (by kernel_rfl)
theorem o70 : K 70 sg70 := fnK (E := E0) (tm := tm70) Tryd.func62 (by kernel_rfl)
theorem o71 : K 71 sg71 := fnK (E := E0) (tm := tm71) Tryd.func108 (by kernel_rfl)
theorem o72 : K 72 sg72 := fnK (E := E0) (tm := tm72) Tryd.func107 (by kernel_rfl)
theorem o73 : K 73 sg73 := fnK (E := E0) (tm := tm73) Tryd.func23 (by kernel_rfl)
theorem o74 : K 74 sg74 := fnK (E := E0) (tm := tm74) Tryd.func63 (by kernel_rfl)
theorem o75 : K 75 sg75 := fnK (E := E0) (tm := tm75) Tryd.func109 (by kernel_rfl)
theorem o76 : K 76 sg76 := fnK (E := E0) (tm := tm76) Tryd.func13 (by kernel_rfl)
theorem o77 : K 77 sg77 := fnK (E := E0) (tm := tm77) Tryd.func46 (by kernel_rfl)
theorem o78 : K 78 sg78 := fnK (E := E0) (tm := tm78) Tryd.func47 (by kernel_rfl)
theorem o79 : K 79 sg79 := fnK (E := E0) (tm := tm79) Tryd.func98 (by kernel_rfl)
theorem fns_ok : ∀ key s, (key, s) ∈ sigs → FnOkX Tryd.prog (pow10X Tryd.prog) T (tiTab tiL) sigs key s := fnOkX_all (fcX o0 <| fcX o1 <| fcX o2 <| fcX o3 <| fcX o4 <| fcX o5 <| fcX o6 <| fcX o7 <| fcX o8 <| fcX o9 <| fcX o10 <| fcX o11 <| fcX o12 <| fcX o13 <| fcX o14 <| fcX o15 <| fcX o16 <| fcX o17 <| fcX o18 <| fcX o19 <| fcX o20 <| fcX o21 <| fcX o22 <| fcX o23 <| fcX o24 <| fcX o25 <| fcX o26 <| fcX o27 <| fcX o28 <| fcX o29 <| fcX o30 <| fcX o31 <| fcX o32 <| fcX o33 <| fcX o34 <| fcX o35 <| fcX o36 <| fcX o37 <| fcX o38 <| fcX o39 <| fcX o40 <| fcX o41 <| fcX o42 <| fcX o43 <| fcX o44 <| fcX o45 <| fcX o46 <| fcX o47 <| fcX o48 <| fcX o49 <| fcX o50 <| fcX o51 <| fcX o52 <| fcX o53 <| fcX o54 <| fcX o55 <| fcX o56 <| fcX o57 <| fcX o58 <| fcX o59 <| fc o60 <| fcX o63 <| fcX o68 <| fcX o69 <| fcX o70 <| fcX o71 <| fcX o72 <| fcX o73 <| fcX o74 <| fcX o75 <| fcX o76 <| fcX o77 <| fcX o78 <| fcX o79 <| fc0)
theorem contract : ∀ n, ContractX Tryd.prog (pow10X Tryd.prog) T n 0 sg0 := fun n => contractsX pow10X_stable tiL_ok (by kernel_rfl) fns_ok n 0 sg0 (by simp [sigs])
end FnExactLogOf
end Go.Proofs.YtnlhnfifkninpaaDoor
