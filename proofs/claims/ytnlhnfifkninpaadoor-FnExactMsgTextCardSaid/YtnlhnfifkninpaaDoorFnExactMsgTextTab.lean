/- The terms of the functions that FnExactMsgText reaches (printed by the author's own program). -/
import Derived.Test.YtnlhnfifkninpaaDoorChecked
import Derived.Test.YtnlhnfifkninpaaDoorRf8
import Derived.KernelRfl
namespace Go.Proofs.YtnlhnfifkninpaaDoor
namespace FnExactMsgText
open Go Go.Proofs.YtnlhnfifkninpaaDoor.Rf
set_option maxRecDepth 100000

def t3 : TI := ⟨false, 1, 8, [.sc (.int .i64 0)], [], none, (some .i64), false, false, false, false⟩
theorem ti3 : tiOf Tryd.prog 3 = some t3 := by kernel_rfl
def t4 : TI := ⟨false, 1, 1, [.sc (.bool false)], [], none, none, true, false, false, false⟩
theorem ti4 : tiOf Tryd.prog 4 = some t4 := by kernel_rfl
def t5 : TI := ⟨false, 1, 1, [.sc (.int .u8 0)], [], none, (some .u8), false, false, false, false⟩
theorem ti5 : tiOf Tryd.prog 5 = some t5 := by kernel_rfl
def t9 : TI := ⟨false, 1, 16, [.sc (.str [])], [], none, none, false, true, false, false⟩
theorem ti9 : tiOf Tryd.prog 9 = some t9 := by kernel_rfl
def t23 : TI := ⟨true, 5, 40, [.sc (.int .i64 0), .sc (.int .i64 0), .sc (.int .i64 0), .sc (.int .i64 0), .sc (.int .i64 0)], [(0, 3), (1, 3), (2, 3), (3, 3), (4, 3)], none, none, false, false, false, true⟩
theorem ti23 : tiOf Tryd.prog 23 = some t23 := by kernel_rfl
def t24 : TI := ⟨false, 1, 24, [.sl 1], [], (some 3), none, false, false, false, false⟩
theorem ti24 : tiOf Tryd.prog 24 = some t24 := by kernel_rfl
def t26 : TI := ⟨true, 2, 32, [.sc (.int .i64 0), .sl 1], [(0, 3), (1, 24)], none, none, false, false, false, false⟩
theorem ti26 : tiOf Tryd.prog 26 = some t26 := by kernel_rfl
def t32 : TI := ⟨true, 5, 40, [.sc (.int .i64 0), .sc (.int .i64 0), .sc (.int .i64 0), .sc (.int .i64 0), .sc (.int .i64 0)], [(0, 3), (1, 3), (2, 3), (3, 3), (4, 3)], none, none, false, false, false, true⟩
theorem ti32 : tiOf Tryd.prog 32 = some t32 := by kernel_rfl
def t33 : TI := ⟨true, 2, 32, [.sc (.int .i64 0), .sl 1], [(0, 3), (1, 24)], none, none, false, false, false, false⟩
theorem ti33 : tiOf Tryd.prog 33 = some t33 := by kernel_rfl
def t35 : TI := ⟨true, 10, 96, [.sc (.int .i64 0), .sc (.int .i64 0), .sc (.int .i64 0), .sc (.int .i64 0), .sc (.int .i64 0), .sc (.int .i64 0), .sc (.int .i64 0), .sc (.int .i64 0), .sc (.int .i64 0), .sl 1], [(0, 3), (1, 3), (2, 3), (3, 32), (8, 33)], none, none, false, false, false, false⟩
theorem ti35 : tiOf Tryd.prog 35 = some t35 := by kernel_rfl
def t40 : TI := ⟨true, 15, 136, [.sc (.int .i64 0), .sc (.int .i64 0), .sc (.int .i64 0), .sc (.int .i64 0), .sc (.int .i64 0), .sc (.int .i64 0), .sc (.int .i64 0), .sc (.int .i64 0), .sc (.int .i64 0), .sc (.int .i64 0), .sc (.int .i64 0), .sc (.int .i64 0), .sc (.int .i64 0), .sc (.int .i64 0), .sl 1], [(0, 3), (1, 3), (2, 3), (3, 3), (4, 3), (5, 3), (6, 3), (7, 3), (8, 23), (13, 26)], none, none, false, false, false, false⟩
theorem ti40 : tiOf Tryd.prog 40 = some t40 := by kernel_rfl
def t44 : TI := ⟨true, 15, 136, [.sc (.int .i64 0), .sc (.int .i64 0), .sc (.int .i64 0), .sc (.int .i64 0), .sc (.int .i64 0), .sc (.int .i64 0), .sc (.int .i64 0), .sc (.int .i64 0), .sc (.int .i64 0), .sc (.int .i64 0), .sc (.int .i64 0), .sc (.int .i64 0), .sc (.int .i64 0), .sc (.int .i64 0), .sl 1], [(0, 3), (1, 3), (2, 3), (3, 3), (4, 3), (5, 3), (6, 3), (7, 3), (8, 32), (13, 33)], none, none, false, false, false, false⟩
theorem ti44 : tiOf Tryd.prog 44 = some t44 := by kernel_rfl
def t79 : TI := ⟨false, 1, 24, [.sl 1], [], (some 9), none, false, false, false, false⟩
theorem ti79 : tiOf Tryd.prog 79 = some t79 := by kernel_rfl
def t116 : TI := ⟨false, 1, 24, [.sl 1], [], (some 5), none, false, false, false, false⟩
theorem ti116 : tiOf Tryd.prog 116 = some t116 := by kernel_rfl
def tiL : List (Nat × TI) := [(3, t3), (4, t4), (5, t5), (9, t9), (23, t23), (24, t24), (26, t26), (32, t32), (33, t33), (35, t35), (40, t40), (44, t44), (79, t79), (116, t116)]
theorem tiL_ok : TiOk Tryd.prog (tiTab tiL) := tiTab_ok (l := tiL) (fc ti3 <| fc ti4 <| fc ti5 <| fc ti9 <| fc ti23 <| fc ti24 <| fc ti26 <| fc ti32 <| fc ti33 <| fc ti35 <| fc ti40 <| fc ti44 <| fc ti79 <| fc ti116 <| fc0)

def sg0 : Sig := ⟨4, [(false, [.sc]), (true, [.sc, .sc, .sc, .sc, .sc, .sc, .sc, .sc, .sc, .sc, .sc, .sc, .sc, .sc, .fz false])], [], [(false, [.sc])]⟩
def sg1 : Sig := ⟨14, [(true, [.sc, .sc, .sc, .sc, .sc, .sc, .sc, .sc, .sc, .sc, .sc, .sc, .sc, .sc, .fz false]), (false, [.sc])], [], [(false, [.sc])]⟩
def sg2 : Sig := ⟨36, [(true, [.sc, .fz false]), (false, [.sc])], [], [(false, [.sc])]⟩
def sg3 : Sig := ⟨83, [(false, [.fz false]), (false, [.sc])], [], [(false, [.sc])]⟩
def sg4 : Sig := ⟨16, [(true, [.sc, .sc, .sc, .sc, .sc, .sc, .sc, .sc, .sc, .sc, .sc, .sc, .sc, .sc, .fz false])], [], [(true, [.sc, .sc, .sc, .sc, .sc, .sc, .sc, .sc, .sc, .sc, .sc, .sc, .sc, .sc, .ow 99])]⟩
def sg5 : Sig := ⟨41, [(true, [.sc, .sc, .sc, .sc, .sc])], [], [(true, [.sc, .sc, .sc, .sc, .sc])]⟩
def sg6 : Sig := ⟨42, [(true, [.sc, .fz false])], [], [(true, [.sc, .ow 99])]⟩
def sg7 : Sig := ⟨89, [(false, [.fz false])], [], [(false, [.ow 99])]⟩
def sg8 : Sig := ⟨15, [(false, [.sc]), (true, [.sc, .sc, .sc, .sc, .sc, .sc, .sc, .sc, .sc, .sc, .sc, .sc, .sc, .sc, .fz false])], [], [(false, [.sc]), (false, [.sc])]⟩
def sg9 : Sig := ⟨48, [(false, [.sc]), (true, [.sc, .sc, .sc, .sc, .sc, .sc, .sc, .sc, .sc, .sc, .sc, .sc, .sc, .sc, .fz false])], [], [(false, [.sc])]⟩
def sg10 : Sig := ⟨37, [(false, [.sc])], [], [(false, [.sc])]⟩
def sg11 : Sig := ⟨84, [(false, [.sc]), (false, [.sc]), (false, [.sc])], [], [(false, [.sc])]⟩
def sg12 : Sig := ⟨38, [(false, [.sc]), (false, [.sc]), (false, [.sc])], [], [(false, [.sc])]⟩
def sg13 : Sig := ⟨39, [(false, [.sc]), (true, [.sc, .sc, .sc, .sc, .sc, .sc, .sc, .sc, .sc, .fz false])], [], [(false, [.sc])]⟩
def sg14 : Sig := ⟨86, [(false, [.sc])], [], [(true, [.sc, .ow 99])]⟩
def sg15 : Sig := ⟨85, [(true, [.sc, .fz false]), (true, [.sc, .fz false])], [], [(false, [.sc])]⟩
def sg16 : Sig := ⟨124, [(false, [.fz false]), (false, [.fz false])], [], [(false, [.sc])]⟩
def sg17 : Sig := ⟨87, [(true, [.sc, .sc, .sc, .sc, .sc])], [], [(false, [.sc])]⟩
def sg18 : Sig := ⟨110, [(true, [.sc, .sc, .sc, .sc, .sc])], [], [(false, [.sc])]⟩
def sg19 : Sig := ⟨134, [(false, [.sc])], [], [(false, [.sc])]⟩
def sg20 : Sig := ⟨88, [(false, [.sc]), (true, [.sc, .fz false])], [], [(false, [.sc])]⟩
def sg21 : Sig := ⟨125, [(false, [.fz false]), (false, [.sc]), (false, [.sc])], [], [(false, [.sc])]⟩
def sg22 : Sig := ⟨49, [], [], [(false, [.ow 99])]⟩
def sg23 : Sig := ⟨50, [(false, [.sc])], [], [(false, [.sc])]⟩
def sg24 : Sig := ⟨51, [(true, [.sc, .sc, .sc, .sc, .sc])], [], [(false, [.sc])]⟩
def sg25 : Sig := ⟨52, [(true, [.sc, .fz false])], [], [(false, [.sc])]⟩
def sg26 : Sig := ⟨99, [(false, [.fz false])], [], [(false, [.sc])]⟩
def sg27 : Sig := ⟨17, [(false, [.sc]), (true, [.sc, .sc, .sc, .sc, .sc, .sc, .sc, .sc, .sc, .sc, .sc, .sc, .sc, .sc, .fz false])], [], [(false, [.sc]), (false, [.sc])]⟩
def sg28 : Sig := ⟨53, [(false, [.sc]), (true, [.sc, .sc, .sc, .sc, .sc, .sc, .sc, .sc, .sc, .sc, .sc, .sc, .sc, .sc, .fz false])], [], [(false, [.sc])]⟩
def sg29 : Sig := ⟨90, [(false, [.sc]), (false, [.sc]), (false, [.sc])], [], [(false, [.sc])]⟩
def sg30 : Sig := ⟨43, [(false, [.sc]), (false, [.sc]), (false, [.sc])], [], [(false, [.sc])]⟩
def sg31 : Sig := ⟨74, [(false, [.sc])], [], [(false, [.sc])]⟩
def sg32 : Sig := ⟨100, [(true, [.sc, .sc, .sc, .sc, .sc, .sc, .sc, .sc, .sc, .sc, .sc, .sc, .sc, .sc, .fz false])], [], [(true, [.sc, .sc, .sc, .sc, .sc, .sc, .sc, .sc, .sc, .ow 99])]⟩
def sg33 : Sig := ⟨131, [(true, [.sc, .fz false])], [], [(true, [.sc, .ow 99])]⟩
def sg34 : Sig := ⟨144, [(false, [.fz false])], [], [(false, [.ow 99])]⟩
def sg35 : Sig := ⟨44, [(false, [.sc]), (true, [.sc, .sc, .sc, .sc, .sc, .sc, .sc, .sc, .sc, .fz false])], [], [(false, [.sc])]⟩
def sg36 : Sig := ⟨91, [(true, [.sc, .sc, .sc, .sc, .sc])], [], [(false, [.sc])]⟩
def sg37 : Sig := ⟨114, [(false, [.sc])], [], [(false, [.sc])]⟩
def sg38 : Sig := ⟨92, [(false, [.sc]), (true, [.sc, .fz false])], [], [(false, [.sc])]⟩
def sg39 : Sig := ⟨126, [(false, [.fz false]), (false, [.clo 127 []])], [], [(false, [.sc])]⟩
def sg40 : Sig := ⟨141, [(false, [.fz false]), (false, [.clo 127 []])], [], [(false, [.sc])]⟩
def sg41 : Sig := ⟨127, [(false, [.sc])], [], [(false, [.sc])]⟩
def sg42 : Sig := ⟨94, [(false, [.sc])], [], [(true, [.sc, .ow 99])]⟩
def sg43 : Sig := ⟨93, [(true, [.sc, .fz false]), (true, [.sc, .fz false])], [], [(false, [.sc])]⟩
def sg44 : Sig := ⟨128, [(false, [.fz false]), (false, [.fz false])], [], [(false, [.sc])]⟩
def sg45 : Sig := ⟨54, [(true, [.sc, .sc, .sc, .sc, .sc, .sc, .sc, .sc, .sc, .sc, .sc, .sc, .sc, .sc, .fz false])], [], [(false, [.sc])]⟩
def sg46 : Sig := ⟨76, [], [], [(false, [.ow 99])]⟩
def sg47 : Sig := ⟨95, [(false, [.fz false])], [], [(false, [.sc])]⟩
def sg48 : Sig := ⟨129, [(false, [.sc]), (false, [.fz false])], [], [(false, [.sc])]⟩
def sg49 : Sig := ⟨130, [(false, [.sc])], [], [(false, [.sc])]⟩
def sg50 : Sig := ⟨143, [(false, [.sc])], [], [(false, [.sc])]⟩
def sg51 : Sig := ⟨153, [(false, [.sc]), (false, [.sc])], [], [(false, [.sc])]⟩
def sg54 : Sig := ⟨142, [(false, [.fz false]), (false, [.sc])], [], [(false, [.sc])]⟩
def sg59 : Sig := ⟨96, [(true, [.sc, .sc, .sc, .sc, .sc])], [], [(false, [.sc])]⟩
def sg60 : Sig := ⟨97, [(true, [.sc, .fz false])], [], [(false, [.sc])]⟩
def sg61 : Sig := ⟨18, [(true, [.sc, .sc, .sc, .sc, .sc, .sc, .sc, .sc, .sc, .sc, .sc, .sc, .sc, .sc, .fz false]), (true, [.sc, .sc, .sc, .sc, .sc, .sc, .sc, .sc, .sc, .sc, .sc, .sc, .sc, .sc, .fz false])], [], [(false, [.sc])]⟩
def sg62 : Sig := ⟨46, [(true, [.sc, .sc, .sc, .sc, .sc]), (true, [.sc, .sc, .sc, .sc, .sc])], [], [(false, [.sc])]⟩
def sg63 : Sig := ⟨47, [(true, [.sc, .fz false]), (true, [.sc, .fz false])], [], [(false, [.sc])]⟩
def sg64 : Sig := ⟨98, [(false, [.fz false]), (false, [.fz false])], [], [(false, [.sc])]⟩
def sigs : List (Nat × Sig) := [(0, sg0), (1, sg1), (2, sg2), (3, sg3), (4, sg4), (5, sg5), (6, sg6), (7, sg7), (8, sg8), (9, sg9), (10, sg10), (11, sg11), (12, sg12), (13, sg13), (14, sg14), (15, sg15), (16, sg16), (17, sg17), (18, sg18), (19, sg19), (20, sg20), (21, sg21), (22, sg22), (23, sg23), (24, sg24), (25, sg25), (26, sg26), (27, sg27), (28, sg28), (29, sg29), (30, sg30), (31, sg31), (32, sg32), (33, sg33), (34, sg34), (35, sg35), (36, sg36), (37, sg37), (38, sg38), (39, sg39), (40, sg40), (41, sg41), (42, sg42), (43, sg43), (44, sg44), (45, sg45), (46, sg46), (47, sg47), (48, sg48), (49, sg49), (50, sg50), (51, sg51), (54, sg54), (59, sg59), (60, sg60), (61, sg61), (62, sg62), (63, sg63), (64, sg64)]
abbrev E0 : Env := ⟨tiTab tiL, sigs, 0, 0, false, false, [], []⟩

def tm0 : Tm Unit :=
(.call none 1 [.v 1, .v 2, .v 3, .v 4, .v 5, .v 6, .v 7, .v 8, .v 9, .v 10, .v 11, .v 12, .v 13, .v 14, .v 15, .c (.int .i64 1048576)] 1 [] <|
(.lt none (.bin .lss) [.v 16, .c (.int .i64 0)] 1 <|
(.ite (.v 17)
(.leaf .ret [.c (.bool true)] ())
(.call none 4 [.v 1, .v 2, .v 3, .v 4, .v 5, .v 6, .v 7, .v 8, .v 9, .v 10, .v 11, .v 12, .v 13, .v 14, .v 15] 15 [] <|
(.call none 8 [.v 0, .v 18, .v 19, .v 20, .v 21, .v 22, .v 23, .v 24, .v 25, .v 26, .v 27, .v 28, .v 29, .v 30, .v 31, .v 32] 2 [] <|
(.call none 4 [.v 1, .v 2, .v 3, .v 4, .v 5, .v 6, .v 7, .v 8, .v 9, .v 10, .v 11, .v 12, .v 13, .v 14, .v 15] 15 [] <|
(.call none 27 [.v 0, .v 35, .v 36, .v 37, .v 38, .v 39, .v 40, .v 41, .v 42, .v 43, .v 44, .v 45, .v 46, .v 47, .v 48, .v 49] 2 [] <|
(.lt none (.bin .neq) [.v 50, .v 33] 1 <|
(.lt (some (.v 52, false)) .id [.v 51] 1 <|
(.lt (some (.v 52, false)) .id [.v 34] 1 <|
(.lt (some (.v 52, false)) (.eqb true) [.v 53, .v 54] 1 <|
(.lt none .pick [.v 52, .c (.bool true), .v 55] 1 <|
(.ite (.v 56)
(.leaf .ret [.c (.bool false)] ())
(.call none 4 [.v 1, .v 2, .v 3, .v 4, .v 5, .v 6, .v 7, .v 8, .v 9, .v 10, .v 11, .v 12, .v 13, .v 14, .v 15] 15 [] <|
(.call none 61 [.v 35, .v 36, .v 37, .v 38, .v 39, .v 40, .v 41, .v 42, .v 43, .v 44, .v 45, .v 46, .v 47, .v 48, .v 49, .v 57, .v 58, .v 59, .v 60, .v 61, .v 62, .v 63, .v 64, .v 65, .v 66, .v 67, .v 68, .v 69, .v 70, .v 71] 1 [] <|
(.lt none .not [.v 72] 1 <|
(.ite (.v 73)
(.leaf .ret [.c (.bool false)] ())
(.leaf .ret [.c (.bool true)] ()))))))))))))))))))
def tm1 : Tm Unit :=
(.call none 2 [.v 13, .v 14, .v 15] 1 [] <|
(.lt none (.bin .lss) [.v 16, .c (.int .i64 0)] 1 <|
(.ite (.v 17)
(.leaf .ret [.c (.int .i64 (-1))] ())
(.leaf .ret [.v 16] ()))))
def tm2 : Tm Unit :=
(.call none 3 [.v 1, .v 2] 1 [] <|
(.lt none (.bin .lss) [.v 3, .c (.int .i64 0)] 1 <|
(.ite (.v 4)
(.leaf .ret [.c (.int .i64 (-1))] ())
(.leaf .ret [.v 3] ()))))
def tm3 : Tm Unit :=
(.lt none .len [.v 0] 1 <|
(.lt none (.bin .sub) [.v 1, .v 2] 1 <|
(.lt none (.bin .lss) [.v 3, .c (.int .i64 0)] 1 <|
(.ite (.v 4)
(.leaf .ret [.c (.int .i64 (-1))] ())
(.leaf .ret [.v 3] ())))))
def tm4 : Tm Unit :=
(.call none 5 [.v 8, .v 9, .v 10, .v 11, .v 12] 5 [] <|
(.call none 6 [.v 13, .v 14] 2 [] <|
(.leaf .ret [.v 0, .v 1, .v 2, .v 3, .v 4, .v 5, .v 6, .v 7, .v 15, .v 16, .v 17, .v 18, .v 19, .v 20, .v 21] ())))
def tm5 : Tm Unit :=
(.leaf .ret [.v 0, .v 1, .v 2, .v 3, .v 4] ())
def tm6 : Tm Unit :=
(.call none 7 [.v 1] 1 [] <|
(.leaf .ret [.v 0, .v 2] ()))
def tm7 : Tm Unit :=
(.lt none .len [.v 0] 1 <|
(.lt none (.make 8 [(.int .i64 0)]) [.v 1] 1 <|
(.bind 1
(.loop [.v 2, .c (.int .i64 0)]
(.lt none .len [.v 0] 1 <|
(.lt none (.bin .lss) [.v 4, .v 5] 1 <|
(.ite (.v 6)
(.lt none .inb [.v 0, .v 4] 0 <|
(.lt none (.row 1 0 [true]) [.v 0, .v 4] 1 <|
(.lt none .inb [.v 3, .v 4] 0 <|
(.lt none (.set 1 0 1) [.v 3, .v 4, .v 7] 1 <|
(.lt none (.bin .add) [.v 4, .c (.int .i64 1)] 1 <|
(.leaf .cont [.v 8, .v 9] ()))))))
(.leaf (.yield 1) [.v 3] ()))))) <|
(.leaf .ret [.v 3] ()))))
def tm8 : Tm Unit :=
(.call none 9 [.v 0, .v 1, .v 2, .v 3, .v 4, .v 5, .v 6, .v 7, .v 8, .v 9, .v 10, .v 11, .v 12, .v 13, .v 14, .v 15] 1 [] <|
(.lt none .not [.v 16] 1 <|
(.ite (.v 17)
(.leaf .ret [.c (.str []), .c (.bool false)] ())
(.call none 22 [] 1 [] <|
(.lt none .inb [.v 18, .v 1] 0 <|
(.lt none (.row 1 0 [true]) [.v 18, .v 1] 1 <|
(.lt none (.mk 1 7) [.v 2, .v 3, .v 4, .v 5, .v 6, .v 7, .v 8] 1 <|
(.lt none .len [.v 20] 1 <|
(.bind 1
(.loop [.v 19, .c (.int .i64 0)]
(.lt none (.bin .lss) [.v 23, .v 21] 1 <|
(.ite (.v 24)
(.lt none .inb [.v 20, .v 23] 0 <|
(.lt none (.row 1 0 [true]) [.v 20, .v 23] 1 <|
(.call none 23 [.v 25] 1 [] <|
(.lt none (.bin .add) [.c (.str [32]), .v 26] 1 <|
(.lt none (.bin .add) [.v 22, .v 27] 1 <|
(.lt none (.bin .add) [.v 23, .c (.int .i64 1)] 1 <|
(.leaf .cont [.v 28, .v 29] ())))))))
(.leaf (.yield 1) [.v 22] ())))) <|
(.lt none (.bin .add) [.v 22, .c (.str [124])] 1 <|
(.call none 24 [.v 9, .v 10, .v 11, .v 12, .v 13] 1 [] <|
(.lt none (.bin .add) [.v 23, .v 24] 1 <|
(.lt none (.bin .add) [.v 25, .c (.str [124])] 1 <|
(.call none 25 [.v 14, .v 15] 1 [] <|
(.lt none (.bin .add) [.v 26, .v 27] 1 <|
(.leaf .ret [.v 28, .c (.bool true)] ()))))))))))))))))
def tm9 : Tm Unit :=
(.call none 10 [.v 0] 1 [] <|
(.lt none .not [.v 16] 1 <|
(.lt (some (.v 17, false)) .id [.v 1] 1 <|
(.call (some (.v 17, false)) 11 [.v 18, .c (.int .i64 1), .c (.int .i64 7)] 1 [] <|
(.lt (some (.v 17, false)) .not [.v 19] 1 <|
(.lt none .pick [.v 17, .c (.bool true), .v 20] 1 <|
(.lt (some (.v 21, false)) .id [.v 2] 1 <|
(.lt (some (.v 21, false)) .id [.v 0] 1 <|
(.lt (some (.v 21, false)) (.bin .sub) [.v 23, .c (.int .i64 1)] 1 <|
(.call (some (.v 21, false)) 11 [.v 22, .c (.int .i64 0), .v 24] 1 [] <|
(.lt (some (.v 21, false)) .not [.v 25] 1 <|
(.lt none .pick [.v 21, .c (.bool true), .v 26] 1 <|
(.lt (some (.v 27, false)) .id [.v 3] 1 <|
(.lt (some (.v 27, false)) .id [.v 0] 1 <|
(.lt (some (.v 27, false)) (.bin .sub) [.v 29, .c (.int .i64 1)] 1 <|
(.call (some (.v 27, false)) 11 [.v 28, .c (.int .i64 0), .v 30] 1 [] <|
(.lt (some (.v 27, false)) .not [.v 31] 1 <|
(.lt none .pick [.v 27, .c (.bool true), .v 32] 1 <|
(.lt (some (.v 33, false)) .id [.v 2] 1 <|
(.lt (some (.v 33, false)) .id [.v 3] 1 <|
(.lt (some (.v 33, false)) (.bin .eql) [.v 34, .v 35] 1 <|
(.lt none .pick [.v 33, .c (.bool true), .v 36] 1 <|
(.lt (some (.v 37, false)) .id [.v 0] 1 <|
(.lt (some (.v 37, false)) .id [.v 4] 1 <|
(.lt (some (.v 37, false)) .id [.v 5] 1 <|
(.call (some (.v 37, false)) 12 [.v 38, .v 39, .v 40] 1 [] <|
(.lt (some (.v 37, false)) .not [.v 41] 1 <|
(.lt none .pick [.v 37, .c (.bool true), .v 42] 1 <|
(.lt (some (.v 43, false)) .id [.v 6] 1 <|
(.call (some (.v 43, false)) 11 [.v 44, .c (.int .i64 0), .c (.int .i64 9999)] 1 [] <|
(.lt (some (.v 43, false)) .not [.v 45] 1 <|
(.lt none .pick [.v 43, .c (.bool true), .v 46] 1 <|
(.ite (.v 47)
(.leaf .ret [.c (.bool false)] ())
(.lt none (.bin .eql) [.v 1, .c (.int .i64 7)] 1 <|
(.ite (.v 48)
(.lt none (.bin .neq) [.v 8, .c (.int .i64 3)] 1 <|
(.lt (some (.v 49, true)) .id [.v 0] 1 <|
(.lt (some (.v 49, true)) .id [.v 6] 1 <|
(.lt (some (.v 49, true)) .id [.v 7] 1 <|
(.lt (some (.v 49, true)) .id [.v 8] 1 <|
(.call (some (.v 49, true)) 13 [.v 50, .v 51, .v 52, .v 53, .v 9, .v 10, .v 11, .v 12, .v 13, .v 14, .v 15] 1 [] <|
(.lt none .pick [.v 49, .v 54, .c (.bool false)] 1 <|
(.leaf .ret [.v 55] ()))))))))
(.lt none (.bin .neq) [.v 7, .c (.int .i64 0)] 1 <|
(.lt (some (.v 49, false)) .id [.v 8] 1 <|
(.lt (some (.v 49, false)) (.bin .neq) [.v 50, .c (.int .i64 0)] 1 <|
(.lt none .pick [.v 49, .c (.bool true), .v 51] 1 <|
(.lt (some (.v 52, false)) .id [.v 0] 1 <|
(.call (some (.v 52, false)) 20 [.v 53, .v 14, .v 15] 1 [] <|
(.lt (some (.v 52, false)) .not [.v 54] 1 <|
(.lt none .pick [.v 52, .c (.bool true), .v 55] 1 <|
(.call (some (.v 56, false)) 17 [.v 9, .v 10, .v 11, .v 12, .v 13] 1 [] <|
(.lt (some (.v 56, false)) .not [.v 57] 1 <|
(.lt none .pick [.v 56, .c (.bool true), .v 58] 1 <|
(.lt (some (.v 59, false)) .id [.v 1] 1 <|
(.lt (some (.v 59, false)) (.bin .eql) [.v 60, .c (.int .i64 5)] 1 <|
(.lt (some (.v 59, false)) .id [.v 61] 1 <|
(.lt (some (.v 62, true)) .id [.v 6] 1 <|
(.lt (some (.v 62, true)) (.bin .neq) [.v 63, .c (.int .i64 0)] 1 <|
(.lt (some (.v 59, false)) .pick [.v 62, .v 64, .c (.bool false)] 1 <|
(.lt none .pick [.v 59, .c (.bool true), .v 65] 1 <|
(.ite (.v 66)
(.leaf .ret [.c (.bool false)] ())
(.lt none (.bin .eql) [.v 1, .c (.int .i64 2)] 1 <|
(.ite (.v 67)
(.lt none (.eqs [0, 0, 0, 0, 0]) [.v 9, .v 10, .v 11, .v 12, .v 13, .c (.int .i64 0), .c (.int .i64 0), .c (.int .i64 0), .c (.int .i64 0), .c (.int .i64 0)] 1 <|
(.leaf .ret [.v 68] ()))
(.bind 0
(.lt none (.bin .eql) [.v 1, .c (.int .i64 4)] 1 <|
(.ite (.v 68)
(.leaf (.yield 0) [.v 68] ())
(.lt none (.bin .eql) [.v 1, .c (.int .i64 6)] 1 <|
(.leaf (.yield 0) [.v 69] ())))) <|
(.ite (.v 68)
(.lt none (.eqs [0, 0, 0, 0, 0]) [.v 9, .v 10, .v 11, .v 12, .v 13, .c (.int .i64 0), .c (.int .i64 0), .c (.int .i64 0), .c (.int .i64 0), .c (.int .i64 0)] 1 <|
(.lt (some (.v 69, true)) .id [.v 0] 1 <|
(.call (some (.v 69, true)) 14 [.v 70] 2 [] <|
(.call (some (.v 69, true)) 15 [.v 14, .v 15, .v 71, .v 72] 1 [] <|
(.lt none .pick [.v 69, .v 73, .c (.bool false)] 1 <|
(.leaf .ret [.v 74] ()))))))
(.leaf .ret [.c (.bool true)] ())))))))))))))))))))))))))))))))))))))))))))))))))))))))))))
def tm10 : Tm Unit :=
(.lt none (.bin .eql) [.v 0, .c (.int .i64 3)] 1 <|
(.lt (some (.v 1, false)) .id [.v 0] 1 <|
(.lt (some (.v 1, false)) (.bin .eql) [.v 2, .c (.int .i64 5)] 1 <|
(.lt none .pick [.v 1, .c (.bool true), .v 3] 1 <|
(.leaf .ret [.v 4] ())))))
def tm11 : Tm Unit :=
(.lt none (.bin .geq) [.v 0, .v 1] 1 <|
(.lt (some (.v 3, true)) .id [.v 0] 1 <|
(.lt (some (.v 3, true)) .id [.v 2] 1 <|
(.lt (some (.v 3, true)) (.bin .leq) [.v 4, .v 5] 1 <|
(.lt none .pick [.v 3, .v 6, .c (.bool false)] 1 <|
(.leaf .ret [.v 7] ()))))))
def tm12 : Tm Unit :=
(.lt none (.bin .sub) [.v 0, .c (.int .i64 1)] 1 <|
(.call none 11 [.v 1, .c (.int .i64 0), .v 3] 1 [] <|
(.lt (some (.v 4, true)) .id [.v 2] 1 <|
(.call (some (.v 4, true)) 11 [.v 5, .c (.int .i64 1), .c (.int .i64 6)] 1 [] <|
(.lt none .pick [.v 4, .v 6, .c (.bool false)] 1 <|
(.leaf .ret [.v 7] ()))))))
def tm13 : Tm Unit :=
(.call none 11 [.v 1, .c (.int .i64 0), .c (.int .i64 9999)] 1 [] <|
(.lt none .not [.v 11] 1 <|
(.lt (some (.v 12, false)) .id [.v 2] 1 <|
(.lt (some (.v 12, false)) .id [.v 1] 1 <|
(.call (some (.v 12, false)) 11 [.v 13, .c (.int .i64 0), .v 14] 1 [] <|
(.lt (some (.v 12, false)) .not [.v 15] 1 <|
(.lt none .pick [.v 12, .c (.bool true), .v 16] 1 <|
(.lt (some (.v 17, false)) .id [.v 3] 1 <|
(.call (some (.v 17, false)) 11 [.v 18, .c (.int .i64 0), .c (.int .i64 3)] 1 [] <|
(.lt (some (.v 17, false)) .not [.v 19] 1 <|
(.lt none .pick [.v 17, .c (.bool true), .v 20] 1 <|
(.ite (.v 21)
(.leaf .ret [.c (.bool false)] ())
(.lt none (.bin .eql) [.v 3, .c (.int .i64 0)] 1 <|
(.ite (.v 22)
(.lt none (.bin .eql) [.v 2, .c (.int .i64 0)] 1 <|
(.lt (some (.v 23, true)) (.eqs [0, 0, 0, 0, 0]) [.v 4, .v 5, .v 6, .v 7, .v 8, .c (.int .i64 0), .c (.int .i64 0), .c (.int .i64 0), .c (.int .i64 0), .c (.int .i64 0)] 1 <|
(.lt none .pick [.v 23, .v 24, .c (.bool false)] 1 <|
(.lt (some (.v 25, true)) .id [.v 0] 1 <|
(.call (some (.v 25, true)) 14 [.v 26] 2 [] <|
(.call (some (.v 25, true)) 15 [.v 9, .v 10, .v 27, .v 28] 1 [] <|
(.lt none .pick [.v 25, .v 29, .c (.bool false)] 1 <|
(.leaf .ret [.v 30] ()))))))))
(.call none 17 [.v 4, .v 5, .v 6, .v 7, .v 8] 1 [] <|
(.lt (some (.v 23, true)) .id [.v 0] 1 <|
(.call (some (.v 23, true)) 20 [.v 24, .v 9, .v 10] 1 [] <|
(.lt none .pick [.v 23, .v 25, .c (.bool false)] 1 <|
(.leaf .ret [.v 26] ())))))))))))))))))))
def tm14 : Tm Unit :=
(.lt none (.make 8 [(.int .i64 0)]) [.v 0] 1 <|
(.leaf .ret [.c (.int .i64 0), .v 1] ()))
def tm15 : Tm Unit :=
(.lt none (.bin .eql) [.v 0, .v 2] 1 <|
(.call (some (.v 4, true)) 16 [.v 1, .v 3] 1 [] <|
(.lt none .pick [.v 4, .v 5, .c (.bool false)] 1 <|
(.leaf .ret [.v 6] ()))))
def tm16 : Tm Unit :=
(.lt none .len [.v 0] 1 <|
(.lt none .len [.v 1] 1 <|
(.lt none (.bin .neq) [.v 2, .v 3] 1 <|
(.ite (.v 4)
(.leaf .ret [.c (.bool false)] ())
(.lt none .len [.v 0] 1 <|
(.bind 1
(.loop [.c (.int .i64 0)]
(.lt none (.bin .lss) [.v 6, .v 5] 1 <|
(.ite (.v 7)
(.lt none .inb [.v 0, .v 6] 0 <|
(.lt none (.row 1 0 [true]) [.v 0, .v 6] 1 <|
(.lt none .inb [.v 1, .v 6] 0 <|
(.lt none (.row 1 0 [true]) [.v 1, .v 6] 1 <|
(.lt none (.bin .neq) [.v 8, .v 9] 1 <|
(.ite (.v 10)
(.leaf .ret [.c (.bool false)] ())
(.lt none (.bin .add) [.v 6, .c (.int .i64 1)] 1 <|
(.leaf .cont [.v 11] ()))))))))
(.leaf (.yield 1) [] ())))) <|
(.leaf .ret [.c (.bool true)] ())))))))
def tm17 : Tm Unit :=
(.lt none (.bin .eql) [.v 0, .c (.int .i64 0)] 1 <|
(.ite (.v 5)
(.lt none (.eqs [0, 0, 0, 0, 0]) [.v 0, .v 1, .v 2, .v 3, .v 4, .c (.int .i64 0), .c (.int .i64 0), .c (.int .i64 0), .c (.int .i64 0), .c (.int .i64 0)] 1 <|
(.leaf .ret [.v 6] ()))
(.lt none (.bin .eql) [.v 0, .c (.int .i64 1)] 1 <|
(.ite (.v 6)
(.call none 18 [.v 0, .v 1, .v 2, .v 3, .v 4] 1 [] <|
(.lt none (.bin .eql) [.v 7, .c (.int .i64 0)] 1 <|
(.leaf .ret [.v 8] ())))
(.lt none (.bin .eql) [.v 0, .c (.int .i64 2)] 1 <|
(.ite (.v 7)
(.call none 18 [.v 0, .v 1, .v 2, .v 3, .v 4] 1 [] <|
(.lt none (.bin .eql) [.v 8, .c (.int .i64 0)] 1 <|
(.lt (some (.v 9, true)) .id [.v 3] 1 <|
(.lt (some (.v 9, true)) (.bin .eql) [.v 10, .c (.int .i64 0)] 1 <|
(.lt none .pick [.v 9, .v 11, .c (.bool false)] 1 <|
(.lt (some (.v 12, true)) .id [.v 4] 1 <|
(.lt (some (.v 12, true)) (.bin .eql) [.v 13, .c (.int .i64 0)] 1 <|
(.lt none .pick [.v 12, .v 14, .c (.bool false)] 1 <|
(.leaf .ret [.v 15] ())))))))))
(.leaf .ret [.c (.bool false)] ())))))))
def tm18 : Tm Unit :=
(.lt none (.bin .eql) [.v 0, .c (.int .i64 1)] 1 <|
(.call none 19 [.v 2] 1 [] <|
(.lt none .not [.v 6] 1 <|
(.lt (some (.v 7, false)) .id [.v 5] 1 <|
(.lt (some (.v 7, false)) .id [.v 8] 1 <|
(.lt (some (.v 9, true)) .id [.v 3] 1 <|
(.call (some (.v 9, true)) 19 [.v 10] 1 [] <|
(.lt (some (.v 9, true)) .not [.v 11] 1 <|
(.lt (some (.v 7, false)) .pick [.v 9, .v 12, .c (.bool false)] 1 <|
(.lt none .pick [.v 7, .c (.bool true), .v 13] 1 <|
(.ite (.v 14)
(.leaf .ret [.c (.int .i64 4)] ())
(.lt (some (.v 5, true)) .id [.v 2] 1 <|
(.lt (some (.v 5, true)) .id [.v 3] 1 <|
(.lt (some (.v 5, true)) (.bin .eql) [.v 15, .v 16] 1 <|
(.lt none .pick [.v 5, .v 17, .c (.bool false)] 1 <|
(.ite (.v 18)
(.leaf .ret [.c (.int .i64 5)] ())
(.call none 11 [.v 1, .c (.int .i64 1), .c (.int .i64 999)] 1 [] <|
(.lt none .not [.v 19] 1 <|
(.lt (some (.v 20, false)) .id [.v 5] 1 <|
(.lt (some (.v 20, false)) .id [.v 21] 1 <|
(.lt (some (.v 22, true)) .id [.v 4] 1 <|
(.call (some (.v 22, true)) 11 [.v 23, .c (.int .i64 1), .c (.int .i64 1000)] 1 [] <|
(.lt (some (.v 22, true)) .not [.v 24] 1 <|
(.lt (some (.v 20, false)) .pick [.v 22, .v 25, .c (.bool false)] 1 <|
(.lt none .pick [.v 20, .c (.bool true), .v 26] 1 <|
(.ite (.v 27)
(.leaf .ret [.c (.int .i64 6)] ())
(.leaf .ret [.c (.int .i64 0)] ())))))))))))))))))))))))))))
def tm19 : Tm Unit :=
(.call none 11 [.v 0, .c (.int .i64 0), .c (.int .i64 3)] 1 [] <|
(.leaf .ret [.v 1] ()))
def tm20 : Tm Unit :=
(.call none 11 [.v 1, .c (.int .i64 0), .c (.int .i64 999)] 1 [] <|
(.lt (some (.v 3, true)) .len [.v 2] 1 <|
(.lt (some (.v 3, true)) .id [.v 0] 1 <|
(.lt (some (.v 3, true)) (.bin .eql) [.v 4, .v 5] 1 <|
(.lt none .pick [.v 3, .v 6, .c (.bool false)] 1 <|
(.call (some (.v 7, true)) 21 [.v 2, .c (.int .i64 0), .c (.int .i64 6)] 1 [] <|
(.lt none .pick [.v 7, .v 8, .c (.bool false)] 1 <|
(.leaf .ret [.v 9] ()))))))))
def tm21 : Tm Unit :=
(.lt none .len [.v 0] 1 <|
(.bind 1
(.loop [.c (.int .i64 0)]
(.lt none (.bin .lss) [.v 4, .v 3] 1 <|
(.ite (.v 5)
(.lt none .inb [.v 0, .v 4] 0 <|
(.lt none (.row 1 0 [true]) [.v 0, .v 4] 1 <|
(.call none 11 [.v 6, .v 1, .v 2] 1 [] <|
(.lt none .not [.v 7] 1 <|
(.ite (.v 8)
(.leaf .ret [.c (.bool false)] ())
(.lt none (.bin .add) [.v 4, .c (.int .i64 1)] 1 <|
(.leaf .cont [.v 9] ())))))))
(.leaf (.yield 1) [] ())))) <|
(.leaf .ret [.c (.bool true)] ())))
def tm22 : Tm Unit :=
(.lt none (.mk 1 8) [.c (.str []), .c (.str [112, 114, 101]), .c (.str [112, 114, 101, 111, 107]), .c (.str [97, 99, 99]), .c (.str [97, 99, 99, 111, 107]), .c (.str [99, 111, 109]), .c (.str [112, 114, 101, 112]), .c (.str [112, 114, 101, 112, 111, 107])] 1 <|
(.leaf .ret [.v 0] ()))
def tm23 : Tm Unit :=
(.lt none (.bin .lss) [.v 0, .c (.int .i64 10)] 1 <|
(.ite (.v 1)
(.lt none (.bin .add) [.c (.int .i64 48), .v 0] 1 <|
(.lt none (.conv .u8) [.v 2] 1 <|
(.lt none (.mk 1 1) [.v 3] 1 <|
(.lt none .bstr [.v 4] 1 <|
(.leaf .ret [.v 5] ())))))
(.lt none (.bin .quo) [.v 0, .c (.int .i64 10)] 1 <|
(.call none 23 [.v 2] 1 [] <|
(.lt none (.bin .rem) [.v 0, .c (.int .i64 10)] 1 <|
(.lt none (.bin .add) [.c (.int .i64 48), .v 4] 1 <|
(.lt none (.conv .u8) [.v 5] 1 <|
(.lt none (.mk 1 1) [.v 6] 1 <|
(.lt none .bstr [.v 7] 1 <|
(.lt none (.bin .add) [.v 3, .v 8] 1 <|
(.leaf .ret [.v 9] ())))))))))))
def tm24 : Tm Unit :=
(.lt none (.bin .eql) [.v 0, .c (.int .i64 1)] 1 <|
(.ite (.v 5)
(.call none 23 [.v 1] 1 [] <|
(.lt none (.bin .add) [.c (.str [109, 111, 118, 101, 32]), .v 6] 1 <|
(.lt none (.bin .add) [.v 7, .c (.str [32])] 1 <|
(.call none 23 [.v 2] 1 [] <|
(.lt none (.bin .add) [.v 8, .v 9] 1 <|
(.lt none (.bin .add) [.v 10, .c (.str [32])] 1 <|
(.call none 23 [.v 3] 1 [] <|
(.lt none (.bin .add) [.v 11, .v 12] 1 <|
(.lt none (.bin .add) [.v 13, .c (.str [32])] 1 <|
(.call none 23 [.v 4] 1 [] <|
(.lt none (.bin .add) [.v 14, .v 15] 1 <|
(.leaf .ret [.v 16] ()))))))))))))
(.lt none (.bin .eql) [.v 0, .c (.int .i64 2)] 1 <|
(.ite (.v 6)
(.call none 23 [.v 1] 1 [] <|
(.lt none (.bin .add) [.c (.str [114, 101, 97, 100, 32]), .v 7] 1 <|
(.lt none (.bin .add) [.v 8, .c (.str [32])] 1 <|
(.call none 23 [.v 2] 1 [] <|
(.lt none (.bin .add) [.v 9, .v 10] 1 <|
(.leaf .ret [.v 11] ()))))))
(.leaf .ret [.c (.str [45])] ())))))
def tm25 : Tm Unit :=
(.call none 23 [.v 0] 1 [] <|
(.lt none (.bin .add) [.v 2, .c (.str [58])] 1 <|
(.call none 26 [.v 1] 1 [] <|
(.lt none (.bin .add) [.v 3, .v 4] 1 <|
(.leaf .ret [.v 5] ())))))
def tm26 : Tm Unit :=
(.lt none .len [.v 0] 1 <|
(.bind 1
(.loop [.c (.str []), .c (.int .i64 0)]
(.lt none (.bin .lss) [.v 3, .v 1] 1 <|
(.ite (.v 4)
(.lt none .inb [.v 0, .v 3] 0 <|
(.lt none (.row 1 0 [true]) [.v 0, .v 3] 1 <|
(.bind 0
(.lt none (.bin .gtr) [.v 3, .c (.int .i64 0)] 1 <|
(.ite (.v 6)
(.lt none (.bin .add) [.v 2, .c (.str [44])] 1 <|
(.leaf (.yield 0) [.v 7] ()))
(.leaf (.yield 0) [.v 2] ()))) <|
(.call none 23 [.v 5] 1 [] <|
(.lt none (.bin .add) [.v 6, .v 7] 1 <|
(.lt none (.bin .add) [.v 3, .c (.int .i64 1)] 1 <|
(.leaf .cont [.v 8, .v 9] ())))))))
(.leaf (.yield 1) [.v 2] ())))) <|
(.leaf .ret [.v 2] ())))
def tm27 : Tm Unit :=
(.call none 28 [.v 0, .v 1, .v 2, .v 3, .v 4, .v 5, .v 6, .v 7, .v 8, .v 9, .v 10, .v 11, .v 12, .v 13, .v 14, .v 15] 1 [] <|
(.lt none .not [.v 16] 1 <|
(.ite (.v 17)
(.leaf .ret [.c (.str []), .c (.bool false)] ())
(.call none 45 [.v 1, .v 2, .v 3, .v 4, .v 5, .v 6, .v 7, .v 8, .v 9, .v 10, .v 11, .v 12, .v 13, .v 14, .v 15] 1 [] <|
(.leaf .ret [.v 18, .c (.bool true)] ())))))
def tm28 : Tm Unit :=
(.call none 29 [.v 1, .c (.int .i64 1), .c (.int .i64 7)] 1 [] <|
(.lt none .not [.v 16] 1 <|
(.lt (some (.v 17, false)) .id [.v 0] 1 <|
(.lt (some (.v 17, false)) .id [.v 4] 1 <|
(.lt (some (.v 17, false)) .id [.v 5] 1 <|
(.call (some (.v 17, false)) 30 [.v 18, .v 19, .v 20] 1 [] <|
(.lt (some (.v 17, false)) .not [.v 21] 1 <|
(.lt none .pick [.v 17, .c (.bool true), .v 22] 1 <|
(.lt (some (.v 23, false)) .id [.v 2] 1 <|
(.lt (some (.v 23, false)) .id [.v 0] 1 <|
(.lt (some (.v 23, false)) (.bin .sub) [.v 25, .c (.int .i64 1)] 1 <|
(.call (some (.v 23, false)) 29 [.v 24, .c (.int .i64 0), .v 26] 1 [] <|
(.lt (some (.v 23, false)) .not [.v 27] 1 <|
(.lt none .pick [.v 23, .c (.bool true), .v 28] 1 <|
(.lt (some (.v 29, false)) .id [.v 3] 1 <|
(.lt (some (.v 29, false)) .id [.v 0] 1 <|
(.lt (some (.v 29, false)) (.bin .sub) [.v 31, .c (.int .i64 1)] 1 <|
(.call (some (.v 29, false)) 29 [.v 30, .c (.int .i64 0), .v 32] 1 [] <|
(.lt (some (.v 29, false)) .not [.v 33] 1 <|
(.lt none .pick [.v 29, .c (.bool true), .v 34] 1 <|
(.lt (some (.v 35, false)) .id [.v 2] 1 <|
(.lt (some (.v 35, false)) .id [.v 3] 1 <|
(.lt (some (.v 35, false)) (.bin .eql) [.v 36, .v 37] 1 <|
(.lt none .pick [.v 35, .c (.bool true), .v 38] 1 <|
(.lt (some (.v 39, false)) .id [.v 6] 1 <|
(.call (some (.v 39, false)) 29 [.v 40, .c (.int .i64 0), .c (.int .i64 9999)] 1 [] <|
(.lt (some (.v 39, false)) .not [.v 41] 1 <|
(.lt none .pick [.v 39, .c (.bool true), .v 42] 1 <|
(.lt (some (.v 43, false)) .id [.v 1] 1 <|
(.lt (some (.v 43, false)) (.bin .eql) [.v 44, .c (.int .i64 5)] 1 <|
(.lt (some (.v 43, false)) .id [.v 45] 1 <|
(.lt (some (.v 46, true)) .id [.v 6] 1 <|
(.lt (some (.v 46, true)) (.bin .neq) [.v 47, .c (.int .i64 0)] 1 <|
(.lt (some (.v 43, false)) .pick [.v 46, .v 48, .c (.bool false)] 1 <|
(.lt none .pick [.v 43, .c (.bool true), .v 49] 1 <|
(.ite (.v 50)
(.leaf .ret [.c (.bool false)] ())
(.lt none (.bin .eql) [.v 1, .c (.int .i64 7)] 1 <|
(.ite (.v 51)
(.lt none (.bin .neq) [.v 8, .c (.int .i64 3)] 1 <|
(.lt (some (.v 52, true)) .id [.v 0] 1 <|
(.call (some (.v 52, true)) 32 [.v 1, .v 2, .v 3, .v 4, .v 5, .v 6, .v 7, .v 8, .v 9, .v 10, .v 11, .v 12, .v 13, .v 14, .v 15] 10 [] <|
(.call (some (.v 52, true)) 35 [.v 53, .v 54, .v 55, .v 56, .v 57, .v 58, .v 59, .v 60, .v 61, .v 62, .v 63] 1 [] <|
(.lt none .pick [.v 52, .v 64, .c (.bool false)] 1 <|
(.leaf .ret [.v 65] ()))))))
(.lt none (.bin .eql) [.v 1, .c (.int .i64 1)] 1 <|
(.lt (some (.v 52, false)) .id [.v 1] 1 <|
(.lt (some (.v 52, false)) (.bin .eql) [.v 53, .c (.int .i64 3)] 1 <|
(.lt none .pick [.v 52, .c (.bool true), .v 54] 1 <|
(.lt (some (.v 55, false)) .id [.v 1] 1 <|
(.lt (some (.v 55, false)) (.bin .eql) [.v 56, .c (.int .i64 5)] 1 <|
(.lt none .pick [.v 55, .c (.bool true), .v 57] 1 <|
(.bind 0
(.lt none (.bin .neq) [.v 7, .c (.int .i64 0)] 1 <|
(.lt (some (.v 59, false)) .id [.v 8] 1 <|
(.lt (some (.v 59, false)) (.bin .neq) [.v 60, .c (.int .i64 0)] 1 <|
(.lt none .pick [.v 59, .c (.bool true), .v 61] 1 <|
(.call (some (.v 62, false)) 36 [.v 9, .v 10, .v 11, .v 12, .v 13] 1 [] <|
(.lt (some (.v 62, false)) .not [.v 63] 1 <|
(.lt none .pick [.v 62, .c (.bool true), .v 64] 1 <|
(.lt (some (.v 65, false)) .id [.v 0] 1 <|
(.call (some (.v 65, false)) 38 [.v 66, .v 14, .v 15] 1 [] <|
(.lt (some (.v 65, false)) .not [.v 67] 1 <|
(.lt none .pick [.v 65, .c (.bool true), .v 68] 1 <|
(.ite (.v 69)
(.leaf (.yield 0) [.v 69] ())
(.lt none .not [.v 58] 1 <|
(.lt (some (.v 70, true)) (.eqs [0, 0, 0, 0, 0]) [.v 9, .v 10, .v 11, .v 12, .v 13, .c (.int .i64 0), .c (.int .i64 0), .c (.int .i64 0), .c (.int .i64 0), .c (.int .i64 0)] 1 <|
(.lt (some (.v 70, true)) .not [.v 71] 1 <|
(.lt none .pick [.v 70, .v 72, .c (.bool false)] 1 <|
(.leaf (.yield 0) [.v 73] ()))))))))))))))))) <|
(.ite (.v 59)
(.leaf .ret [.c (.bool false)] ())
(.lt (some (.v 58, false)) .id [.v 1] 1 <|
(.lt (some (.v 58, false)) (.bin .eql) [.v 60, .c (.int .i64 2)] 1 <|
(.lt none .pick [.v 58, .c (.bool true), .v 61] 1 <|
(.lt (some (.v 62, false)) .id [.v 0] 1 <|
(.call (some (.v 62, false)) 42 [.v 63] 2 [] <|
(.call (some (.v 62, false)) 43 [.v 14, .v 15, .v 64, .v 65] 1 [] <|
(.lt none .pick [.v 62, .c (.bool true), .v 66] 1 <|
(.leaf .ret [.v 67] ())))))))))))))))))))))))))))))))))))))))))))))))))))))))
def tm29 : Tm Unit :=
(.lt none (.bin .leq) [.v 1, .v 0] 1 <|
(.lt (some (.v 3, true)) .id [.v 0] 1 <|
(.lt (some (.v 3, true)) .id [.v 2] 1 <|
(.lt (some (.v 3, true)) (.bin .leq) [.v 4, .v 5] 1 <|
(.lt none .pick [.v 3, .v 6, .c (.bool false)] 1 <|
(.leaf .ret [.v 7] ()))))))
def tm30 : Tm Unit :=
(.call none 31 [.v 0] 1 [] <|
(.lt (some (.v 3, true)) .id [.v 1] 1 <|
(.lt (some (.v 3, true)) .id [.v 0] 1 <|
(.lt (some (.v 3, true)) (.bin .sub) [.v 5, .c (.int .i64 1)] 1 <|
(.call (some (.v 3, true)) 29 [.v 4, .c (.int .i64 0), .v 6] 1 [] <|
(.lt none .pick [.v 3, .v 7, .c (.bool false)] 1 <|
(.lt (some (.v 8, true)) .id [.v 2] 1 <|
(.call (some (.v 8, true)) 29 [.v 9, .c (.int .i64 1), .c (.int .i64 6)] 1 [] <|
(.lt none .pick [.v 8, .v 10, .c (.bool false)] 1 <|
(.leaf .ret [.v 11] ()))))))))))
def tm31 : Tm Unit :=
(.lt none (.bin .eql) [.v 0, .c (.int .i64 3)] 1 <|
(.lt (some (.v 1, false)) .id [.v 0] 1 <|
(.lt (some (.v 1, false)) (.bin .eql) [.v 2, .c (.int .i64 5)] 1 <|
(.lt none .pick [.v 1, .c (.bool true), .v 3] 1 <|
(.leaf .ret [.v 4] ())))))
def tm32 : Tm Unit :=
(.call none 33 [.v 13, .v 14] 2 [] <|
(.leaf .ret [.v 5, .v 6, .v 7, .v 8, .v 9, .v 10, .v 11, .v 12, .v 15, .v 16] ()))
def tm33 : Tm Unit :=
(.call none 34 [.v 1] 1 [] <|
(.leaf .ret [.v 0, .v 2] ()))
def tm34 : Tm Unit :=
(.lt none .ne [.v 0] 0 <|
(.lt none .emp [.v 0] 1 <|
(.ite (.v 1)
(.leaf .ret [.c (.rows 1 [])] ())
(.lt none (.mk 1 0) [] 1 <|
(.lt none (.app 1 8 true) [.v 2, .v 0] 1 <|
(.leaf .ret [.v 3] ()))))))
def tm35 : Tm Unit :=
(.call none 29 [.v 1, .c (.int .i64 0), .c (.int .i64 9999)] 1 [] <|
(.lt none .not [.v 11] 1 <|
(.lt (some (.v 12, false)) .id [.v 2] 1 <|
(.lt (some (.v 12, false)) .id [.v 1] 1 <|
(.call (some (.v 12, false)) 29 [.v 13, .c (.int .i64 0), .v 14] 1 [] <|
(.lt (some (.v 12, false)) .not [.v 15] 1 <|
(.lt none .pick [.v 12, .c (.bool true), .v 16] 1 <|
(.lt (some (.v 17, false)) .id [.v 3] 1 <|
(.call (some (.v 17, false)) 29 [.v 18, .c (.int .i64 0), .c (.int .i64 3)] 1 [] <|
(.lt (some (.v 17, false)) .not [.v 19] 1 <|
(.lt none .pick [.v 17, .c (.bool true), .v 20] 1 <|
(.call (some (.v 21, false)) 36 [.v 4, .v 5, .v 6, .v 7, .v 8] 1 [] <|
(.lt (some (.v 21, false)) .not [.v 22] 1 <|
(.lt none .pick [.v 21, .c (.bool true), .v 23] 1 <|
(.lt (some (.v 24, false)) .id [.v 0] 1 <|
(.call (some (.v 24, false)) 38 [.v 25, .v 9, .v 10] 1 [] <|
(.lt (some (.v 24, false)) .not [.v 26] 1 <|
(.lt none .pick [.v 24, .c (.bool true), .v 27] 1 <|
(.ite (.v 28)
(.leaf .ret [.c (.bool false)] ())
(.lt none (.bin .neq) [.v 3, .c (.int .i64 0)] 1 <|
(.lt (some (.v 29, false)) .id [.v 2] 1 <|
(.lt (some (.v 29, false)) (.bin .eql) [.v 30, .c (.int .i64 0)] 1 <|
(.lt (some (.v 29, false)) .id [.v 31] 1 <|
(.lt (some (.v 32, true)) (.eqs [0, 0, 0, 0, 0]) [.v 4, .v 5, .v 6, .v 7, .v 8, .c (.int .i64 0), .c (.int .i64 0), .c (.int .i64 0), .c (.int .i64 0), .c (.int .i64 0)] 1 <|
(.lt (some (.v 29, false)) .pick [.v 32, .v 33, .c (.bool false)] 1 <|
(.lt (some (.v 29, false)) .id [.v 34] 1 <|
(.lt (some (.v 35, true)) .id [.v 0] 1 <|
(.call (some (.v 35, true)) 42 [.v 36] 2 [] <|
(.call (some (.v 35, true)) 43 [.v 9, .v 10, .v 37, .v 38] 1 [] <|
(.lt (some (.v 29, false)) .pick [.v 35, .v 39, .c (.bool false)] 1 <|
(.lt none .pick [.v 29, .c (.bool true), .v 40] 1 <|
(.leaf .ret [.v 41] ()))))))))))))))))))))))))))))))))
def tm36 : Tm Unit :=
(.lt none (.bin .eql) [.v 0, .c (.int .i64 0)] 1 <|
(.ite (.v 5)
(.lt none (.eqs [0, 0, 0, 0, 0]) [.v 0, .v 1, .v 2, .v 3, .v 4, .c (.int .i64 0), .c (.int .i64 0), .c (.int .i64 0), .c (.int .i64 0), .c (.int .i64 0)] 1 <|
(.leaf .ret [.v 6] ()))
(.lt none (.bin .eql) [.v 0, .c (.int .i64 1)] 1 <|
(.ite (.v 6)
(.call none 29 [.v 1, .c (.int .i64 1), .c (.int .i64 999)] 1 [] <|
(.lt (some (.v 7, true)) .id [.v 2] 1 <|
(.call (some (.v 7, true)) 37 [.v 8] 1 [] <|
(.lt none .pick [.v 7, .v 9, .c (.bool false)] 1 <|
(.lt (some (.v 10, true)) .id [.v 3] 1 <|
(.call (some (.v 10, true)) 37 [.v 11] 1 [] <|
(.lt none .pick [.v 10, .v 12, .c (.bool false)] 1 <|
(.lt (some (.v 13, true)) .id [.v 2] 1 <|
(.lt (some (.v 13, true)) .id [.v 3] 1 <|
(.lt (some (.v 13, true)) (.bin .neq) [.v 14, .v 15] 1 <|
(.lt none .pick [.v 13, .v 16, .c (.bool false)] 1 <|
(.lt (some (.v 17, true)) .id [.v 4] 1 <|
(.call (some (.v 17, true)) 29 [.v 18, .c (.int .i64 1), .c (.int .i64 1000)] 1 [] <|
(.lt none .pick [.v 17, .v 19, .c (.bool false)] 1 <|
(.leaf .ret [.v 20] ())))))))))))))))
(.lt none (.bin .eql) [.v 0, .c (.int .i64 2)] 1 <|
(.lt (some (.v 7, true)) .id [.v 1] 1 <|
(.call (some (.v 7, true)) 29 [.v 8, .c (.int .i64 1), .c (.int .i64 999)] 1 [] <|
(.lt none .pick [.v 7, .v 9, .c (.bool false)] 1 <|
(.lt (some (.v 10, true)) .id [.v 2] 1 <|
(.call (some (.v 10, true)) 37 [.v 11] 1 [] <|
(.lt none .pick [.v 10, .v 12, .c (.bool false)] 1 <|
(.lt (some (.v 13, true)) .id [.v 3] 1 <|
(.lt (some (.v 13, true)) (.bin .eql) [.v 14, .c (.int .i64 0)] 1 <|
(.lt none .pick [.v 13, .v 15, .c (.bool false)] 1 <|
(.lt (some (.v 16, true)) .id [.v 4] 1 <|
(.lt (some (.v 16, true)) (.bin .eql) [.v 17, .c (.int .i64 0)] 1 <|
(.lt none .pick [.v 16, .v 18, .c (.bool false)] 1 <|
(.leaf .ret [.v 19] ()))))))))))))))))))
def tm37 : Tm Unit :=
(.call none 29 [.v 0, .c (.int .i64 0), .c (.int .i64 3)] 1 [] <|
(.leaf .ret [.v 1] ()))
def tm38 : Tm Unit :=
(.call none 31 [.v 0] 1 [] <|
(.lt (some (.v 3, true)) .id [.v 1] 1 <|
(.call (some (.v 3, true)) 29 [.v 4, .c (.int .i64 0), .c (.int .i64 999)] 1 [] <|
(.lt none .pick [.v 3, .v 5, .c (.bool false)] 1 <|
(.lt (some (.v 6, true)) .len [.v 2] 1 <|
(.lt (some (.v 6, true)) .id [.v 0] 1 <|
(.lt (some (.v 6, true)) (.bin .eql) [.v 7, .v 8] 1 <|
(.lt none .pick [.v 6, .v 9, .c (.bool false)] 1 <|
(.call (some (.v 10, true)) 39 [.v 2] 1 [] <|
(.lt (some (.v 10, true)) .not [.v 11] 1 <|
(.lt none .pick [.v 10, .v 12, .c (.bool false)] 1 <|
(.leaf .ret [.v 13] ()))))))))))))
def tm39 : Tm Unit :=
(.call none 40 [.v 0] 1 [] <|
(.lt none (.bin .geq) [.v 1, .c (.int .i64 0)] 1 <|
(.leaf .ret [.v 2] ())))
def tm40 : Tm Unit :=
(.lt none .len [.v 0] 1 <|
(.bind 1
(.loop [.c (.int .i64 0)]
(.lt none (.bin .lss) [.v 2, .v 1] 1 <|
(.ite (.v 3)
(.lt none .inb [.v 0, .v 2] 0 <|
(.lt none (.row 1 0 [true]) [.v 0, .v 2] 1 <|
(.call none 41 [.v 4] 1 [] <|
(.ite (.v 5)
(.leaf .ret [.v 2] ())
(.lt none (.bin .add) [.v 2, .c (.int .i64 1)] 1 <|
(.leaf .cont [.v 6] ()))))))
(.leaf (.yield 1) [] ())))) <|
(.leaf .ret [.c (.int .i64 (-1))] ())))
def tm41 : Tm Unit :=
(.call none 29 [.v 0, .c (.int .i64 0), .c (.int .i64 6)] 1 [] <|
(.lt none .not [.v 1] 1 <|
(.leaf .ret [.v 2] ())))
def tm42 : Tm Unit :=
(.lt none (.make 8 [(.int .i64 0)]) [.v 0] 1 <|
(.leaf .ret [.c (.int .i64 0), .v 1] ()))
def tm43 : Tm Unit :=
(.lt none (.bin .eql) [.v 0, .v 2] 1 <|
(.call (some (.v 4, true)) 44 [.v 1, .v 3] 1 [] <|
(.lt none .pick [.v 4, .v 5, .c (.bool false)] 1 <|
(.leaf .ret [.v 6] ()))))
def tm44 : Tm Unit :=
(.lt none .len [.v 0] 1 <|
(.lt none .len [.v 1] 1 <|
(.lt none (.bin .neq) [.v 2, .v 3] 1 <|
(.ite (.v 4)
(.leaf .ret [.c (.bool false)] ())
(.lt none .len [.v 0] 1 <|
(.bind 1
(.loop [.c (.int .i64 0)]
(.lt none (.bin .lss) [.v 6, .v 5] 1 <|
(.ite (.v 7)
(.lt none .inb [.v 0, .v 6] 0 <|
(.lt none (.row 1 0 [true]) [.v 0, .v 6] 1 <|
(.lt none .inb [.v 1, .v 6] 0 <|
(.lt none (.row 1 0 [true]) [.v 1, .v 6] 1 <|
(.lt none (.bin .neq) [.v 8, .v 9] 1 <|
(.ite (.v 10)
(.leaf .ret [.c (.bool false)] ())
(.lt none (.bin .add) [.v 6, .c (.int .i64 1)] 1 <|
(.leaf .cont [.v 11] ()))))))))
(.leaf (.yield 1) [] ())))) <|
(.leaf .ret [.c (.bool true)] ())))))))
def tm45 : Tm Unit :=
(.call none 46 [] 1 [] <|
(.lt none .inb [.v 15, .v 0] 0 <|
(.lt none (.row 1 0 [true]) [.v 15, .v 0] 1 <|
(.lt none (.bin .add) [.v 16, .c (.str [32])] 1 <|
(.lt none (.mk 1 7) [.v 1, .v 2, .v 3, .v 4, .v 5, .v 6, .v 7] 1 <|
(.call none 47 [.v 18] 1 [] <|
(.lt none (.bin .add) [.v 17, .v 19] 1 <|
(.lt none (.bin .add) [.v 20, .c (.str [124])] 1 <|
(.call none 59 [.v 8, .v 9, .v 10, .v 11, .v 12] 1 [] <|
(.lt none (.bin .add) [.v 21, .v 22] 1 <|
(.lt none (.bin .add) [.v 23, .c (.str [124])] 1 <|
(.call none 60 [.v 13, .v 14] 1 [] <|
(.lt none (.bin .add) [.v 24, .v 25] 1 <|
(.leaf .ret [.v 26] ()))))))))))))))
def tm46 : Tm Unit :=
(.lt none (.mk 1 8) [.c (.str []), .c (.str [112, 114, 101]), .c (.str [112, 114, 101, 111, 107]), .c (.str [97, 99, 99]), .c (.str [97, 99, 99, 111, 107]), .c (.str [99, 111, 109]), .c (.str [112, 114, 101, 112]), .c (.str [112, 114, 101, 112, 111, 107])] 1 <|
(.leaf .ret [.v 0] ()))
def tm47 : Tm Unit :=
(.call none 48 [.c (.str [32]), .v 0] 1 [] <|
(.leaf .ret [.v 1] ()))
def tm48 : Tm Unit :=
(.lt none (.mk 1 0) [] 1 <|
(.lt none .len [.v 1] 1 <|
(.bind 1
(.loop [.v 2, .c (.int .i64 0)]
(.lt none (.bin .lss) [.v 5, .v 3] 1 <|
(.ite (.v 6)
(.lt none .inb [.v 1, .v 5] 0 <|
(.lt none (.row 1 0 [true]) [.v 1, .v 5] 1 <|
(.call none 49 [.v 7] 1 [] <|
(.lt none (.mk 1 1) [.v 8] 1 <|
(.lt none (.app 1 16 true) [.v 4, .v 9] 1 <|
(.lt none (.bin .add) [.v 5, .c (.int .i64 1)] 1 <|
(.leaf .cont [.v 10, .v 11] ())))))))
(.leaf (.yield 1) [.v 4] ())))) <|
(.call none 54 [.v 4, .v 0] 1 [] <|
(.leaf .ret [.v 5] ())))))
def tm49 : Tm Unit :=
(.call none 50 [.v 0] 1 [] <|
(.leaf .ret [.v 1] ()))
def tm50 : Tm Unit :=
(.call none 51 [.v 0, .c (.int .i64 10)] 1 [] <|
(.leaf .ret [.v 1] ()))
def tm51 : Tm Unit := .stuck
def tm54 : Tm Unit := .stuck
def tm59 : Tm Unit :=
(.lt none (.bin .eql) [.v 0, .c (.int .i64 1)] 1 <|
(.ite (.v 5)
(.lt none (.mk 1 4) [.v 1, .v 2, .v 3, .v 4] 1 <|
(.call none 47 [.v 6] 1 [] <|
(.lt none (.bin .add) [.c (.str [109, 111, 118, 101, 32]), .v 7] 1 <|
(.leaf .ret [.v 8] ()))))
(.lt none (.bin .eql) [.v 0, .c (.int .i64 2)] 1 <|
(.ite (.v 6)
(.lt none (.mk 1 2) [.v 1, .v 2] 1 <|
(.call none 47 [.v 7] 1 [] <|
(.lt none (.bin .add) [.c (.str [114, 101, 97, 100, 32]), .v 8] 1 <|
(.leaf .ret [.v 9] ()))))
(.leaf .ret [.c (.str [45])] ())))))
def tm60 : Tm Unit :=
(.call none 49 [.v 0] 1 [] <|
(.lt none (.bin .add) [.v 2, .c (.str [58])] 1 <|
(.call none 48 [.c (.str [44]), .v 1] 1 [] <|
(.lt none (.bin .add) [.v 3, .v 4] 1 <|
(.leaf .ret [.v 5] ())))))
def tm61 : Tm Unit :=
(.lt none (.bin .neq) [.v 0, .v 15] 1 <|
(.ite (.v 30)
(.leaf .ret [.c (.bool false)] ())
(.lt none (.bin .neq) [.v 1, .v 16] 1 <|
(.ite (.v 31)
(.leaf .ret [.c (.bool false)] ())
(.lt none (.bin .neq) [.v 2, .v 17] 1 <|
(.ite (.v 32)
(.leaf .ret [.c (.bool false)] ())
(.lt none (.bin .neq) [.v 3, .v 18] 1 <|
(.ite (.v 33)
(.leaf .ret [.c (.bool false)] ())
(.lt none (.bin .neq) [.v 4, .v 19] 1 <|
(.ite (.v 34)
(.leaf .ret [.c (.bool false)] ())
(.lt none (.bin .neq) [.v 5, .v 20] 1 <|
(.ite (.v 35)
(.leaf .ret [.c (.bool false)] ())
(.lt none (.bin .neq) [.v 6, .v 21] 1 <|
(.ite (.v 36)
(.leaf .ret [.c (.bool false)] ())
(.lt none (.bin .neq) [.v 7, .v 22] 1 <|
(.ite (.v 37)
(.leaf .ret [.c (.bool false)] ())
(.call none 62 [.v 8, .v 9, .v 10, .v 11, .v 12, .v 23, .v 24, .v 25, .v 26, .v 27] 1 [] <|
(.lt none .not [.v 38] 1 <|
(.ite (.v 39)
(.leaf .ret [.c (.bool false)] ())
(.call none 63 [.v 13, .v 14, .v 28, .v 29] 1 [] <|
(.lt none .not [.v 40] 1 <|
(.ite (.v 41)
(.leaf .ret [.c (.bool false)] ())
(.leaf .ret [.c (.bool true)] ())))))))))))))))))))))))
def tm62 : Tm Unit :=
(.lt none (.bin .neq) [.v 0, .v 5] 1 <|
(.ite (.v 10)
(.leaf .ret [.c (.bool false)] ())
(.lt none (.bin .neq) [.v 1, .v 6] 1 <|
(.ite (.v 11)
(.leaf .ret [.c (.bool false)] ())
(.lt none (.bin .neq) [.v 2, .v 7] 1 <|
(.ite (.v 12)
(.leaf .ret [.c (.bool false)] ())
(.lt none (.bin .neq) [.v 3, .v 8] 1 <|
(.ite (.v 13)
(.leaf .ret [.c (.bool false)] ())
(.lt none (.bin .neq) [.v 4, .v 9] 1 <|
(.ite (.v 14)
(.leaf .ret [.c (.bool false)] ())
(.leaf .ret [.c (.bool true)] ())))))))))))
def tm63 : Tm Unit :=
(.lt none (.bin .neq) [.v 0, .v 2] 1 <|
(.ite (.v 4)
(.leaf .ret [.c (.bool false)] ())
(.call none 64 [.v 1, .v 3] 1 [] <|
(.lt none .not [.v 5] 1 <|
(.ite (.v 6)
(.leaf .ret [.c (.bool false)] ())
(.leaf .ret [.c (.bool true)] ()))))))
def tm64 : Tm Unit :=
(.lt none .len [.v 0] 1 <|
(.lt none .len [.v 1] 1 <|
(.lt none (.bin .neq) [.v 2, .v 3] 1 <|
(.ite (.v 4)
(.leaf .ret [.c (.bool false)] ())
(.bind 1
(.loop [.c (.int .i64 0)]
(.lt none .len [.v 0] 1 <|
(.lt none (.bin .lss) [.v 5, .v 6] 1 <|
(.ite (.v 7)
(.lt none .inb [.v 0, .v 5] 0 <|
(.lt none (.row 1 0 [true]) [.v 0, .v 5] 1 <|
(.lt none .inb [.v 1, .v 5] 0 <|
(.lt none (.row 1 0 [true]) [.v 1, .v 5] 1 <|
(.lt none (.bin .neq) [.v 8, .v 9] 1 <|
(.ite (.v 10)
(.leaf .ret [.c (.bool false)] ())
(.lt none (.bin .add) [.v 5, .c (.int .i64 1)] 1 <|
(.leaf .cont [.v 11] ()))))))))
(.leaf (.yield 1) [] ()))))) <|
(.leaf .ret [.c (.bool true)] ()))))))
theorem cl34 : ∀ n, Contract Tryd.prog (entTab [(34, .tm tm34)]) n 34 sg34 := fun n => contracts tiL_ok (by kernel_rfl) (fnOk_all (List.forall_mem_cons.2 ⟨fnOk_tm (E := ⟨tiTab tiL, [(34, sg34)], 0, 0, false, false, [], []⟩) Tryd.func144 (by kernel_rfl) (tm := tm34) (by kernel_rfl) (by kernel_rfl), List.forall_mem_nil _⟩)) n 34 sg34 (by simp)
def ren34 : Go.Shelf.Ren := ⟨fun | 41 => 144 | n => n, fun | 4 => 4 | 22 => 24 | 23 => 3 | n => n, fun n => n⟩
theorem lays34 : Go.Proofs.SlLaysE0.n41 Tryd.prog ren34 := { mixed := by kernel_rfl, f41 := ⟨Tryd.f144.name, by kernel_rfl, Tryd.func144.trans (congrArg some (by kernel_rfl))⟩, t4 := Tryd.underlying4, a4 := Tryd.isAgg4, z4 := Tryd.sizeOf4, v4 := Tryd.zeroValue4, t22 := Tryd.underlying24, a22 := Tryd.isAgg24, z22 := Tryd.sizeOf24, v22 := Tryd.zeroValue24 }
noncomputable def ex34 : List D → Option (List D) := cloneE 1 (entTab [(34, .tm tm34)]) 34

noncomputable def T : Nat → Ent := entTab [(0, .tm tm0), (1, .tm tm1), (2, .tm tm2), (3, .tm tm3), (4, .tm tm4), (5, .tm tm5), (6, .tm tm6), (7, .tm tm7), (8, .tm tm8), (9, .tm tm9), (10, .tm tm10), (11, .tm tm11), (12, .tm tm12), (13, .tm tm13), (14, .tm tm14), (15, .tm tm15), (16, .tm tm16), (17, .tm tm17), (18, .tm tm18), (19, .tm tm19), (20, .tm tm20), (21, .tm tm21), (22, .tm tm22), (23, .tm tm23), (24, .tm tm24), (25, .tm tm25), (26, .tm tm26), (27, .tm tm27), (28, .tm tm28), (29, .tm tm29), (30, .tm tm30), (31, .tm tm31), (32, .tm tm32), (33, .tm tm33), (34, .ext ex34), (35, .tm tm35), (36, .tm tm36), (37, .tm tm37), (38, .tm tm38), (39, .tm tm39), (40, .tm tm40), (41, .tm tm41), (42, .tm tm42), (43, .tm tm43), (44, .tm tm44), (45, .tm tm45), (46, .tm tm46), (47, .tm tm47), (48, .tm tm48), (49, .tm tm49), (50, .tm tm50), (51, .ext fmtE), (54, .ext joinE), (59, .tm tm59), (60, .tm tm60), (61, .tm tm61), (62, .tm tm62), (63, .tm tm63), (64, .tm tm64)]
abbrev K := FnOk Tryd.prog T (tiTab tiL) sigs
theorem o34 : FnOk Tryd.prog T (tiTab tiL) sigs 34 sg34 := clone_ent (m := 98) lays34 rfl (by kernel_rfl) Tryd.sizeOf3 cl34 rfl
def Tryd.lays156_ren : Go.Shelf.Ren := ⟨fun | 156 => 142 | 165 => 150 | 166 => 151 | 169 => 152 | 240 => 160 | 241 => 161 | 276 => 168 | 277 => 169 | n => n, fun | 31 => 79 | 9 => 9 | 3 => 3 | 4 => 4 | 0 => 0 | 20 => 20 | 72 => 156 | 76 => 160 | 70 => 154 | 37 => 116 | 75 => 159 | 127 => 166 | 164 => 180 | 5 => 5 | 80 => 162 | n => n, fun | n => n⟩
theorem Tryd.lays156 : Go.Proofs.Lays.n156 Tryd.prog Tryd.lays156_ren := {
  mixed := by kernel_rfl
  f156 := Tryd.func142.trans (congrArg some (by kernel_rfl))
  f165 := Tryd.func150.trans (congrArg some (by kernel_rfl))
  f166 := Tryd.func151.trans (congrArg some (by kernel_rfl))
  f169 := Tryd.func152.trans (congrArg some (by kernel_rfl))
  f240 := Tryd.func160.trans (congrArg some (by kernel_rfl))
  f241 := Tryd.func161.trans (congrArg some (by kernel_rfl))
  f276 := Tryd.func168.trans (congrArg some (by kernel_rfl))
  f277 := Tryd.func169.trans (congrArg some (by kernel_rfl))
  t0 := Tryd.underlying0
  a0 := Tryd.isAgg0
  z0 := Tryd.sizeOf0
  v0 := Tryd.zeroValue0
  t3 := Tryd.underlying3
  a3 := Tryd.isAgg3
  z3 := Tryd.sizeOf3
  v3 := Tryd.zeroValue3
  t4 := Tryd.underlying4
  a4 := Tryd.isAgg4
  z4 := Tryd.sizeOf4
  v4 := Tryd.zeroValue4
  t9 := Tryd.underlying9
  a9 := Tryd.isAgg9
  z9 := Tryd.sizeOf9
  v9 := Tryd.zeroValue9
  t20 := Tryd.underlying20
  a20 := Tryd.isAgg20
  z20 := Tryd.sizeOf20
  v20 := Tryd.zeroValue20
  t31 := Tryd.underlying79
  a31 := Tryd.isAgg79
  z31 := Tryd.sizeOf79
  v31 := Tryd.zeroValue79
  t37 := Tryd.underlying116
  a37 := Tryd.isAgg116
  z37 := Tryd.sizeOf116
  v37 := Tryd.zeroValue116
  t70 := Tryd.underlying154
  a70 := Tryd.isAgg154
  z70 := Tryd.sizeOf154
  v70 := Tryd.zeroValue154
  t72 := Tryd.underlying156
  a72 := Tryd.isAgg156
  z72 := Tryd.sizeOf156
  v72 := Tryd.zeroValue156
  t75 := Tryd.underlying159
  a75 := Tryd.isAgg159
  z75 := Tryd.sizeOf159
  v75 := Tryd.zeroValue159
  t76 := Tryd.underlying160
  a76 := Tryd.isAgg160
  z76 := Tryd.sizeOf160
  v76 := Tryd.zeroValue160
  t127 := Tryd.underlying166
  a127 := Tryd.isAgg166
  z127 := Tryd.sizeOf166
  v127 := Tryd.zeroValue166
  t164 := Tryd.underlying180
  a164 := Tryd.isAgg180
  z164 := Tryd.sizeOf180
  v164 := Tryd.zeroValue180 }
theorem extra : Go.Proofs.Builder.Extra Tryd.prog Tryd.lays156_ren := { sizeBuilder := by kernel_rfl, liesBuilder := by kernel_rfl, t5 := Tryd.underlying5, a5 := Tryd.isAgg5, z5 := Tryd.sizeOf5, v5 := Tryd.zeroValue5, infoByte := by kernel_rfl, cellsByte := by kernel_rfl, sizeByte := by kernel_rfl, neB5 := by decide }
theorem o54 : K 54 sg54 := .inr ⟨joinE, rfl, join_ok Tryd.lays156 extra⟩
def Tryd.laysM246_ren : Go.Shelf.Ren := ⟨fun | 246 => 153 | 283 => 162 | 284 => 163 | 285 => 164 | 286 => 165 | 129 => 171 | 317 => 170 | 318 => 172 | 319 => 173 | 320 => 174 | 337 => 175 | 338 => 176 | n => n, fun | 2 => 2 | 3 => 3 | 9 => 9 | 4 => 4 | 171 => 167 | 0 => 0 | 53 => 168 | 37 => 116 | 5 => 5 | 173 => 171 | 212 => 184 | 51 => 177 | 20 => 20 | 213 => 185 | 46 => 165 | 232 => 188 | 233 => 189 | n => n, fun | 17 => 3 | 18 => 4 | 19 => 5 | n => n⟩
theorem Tryd.laysM246 : Go.Proofs.LaysM.n246 Tryd.prog Tryd.laysM246_ren := {
  mixed := by kernel_rfl
  f129 := Tryd.func171.trans (congrArg some (by kernel_rfl))
  f246 := Tryd.func153.trans (congrArg some (by kernel_rfl))
  f283 := Tryd.func162.trans (congrArg some (by kernel_rfl))
  f284 := Tryd.func163.trans (congrArg some (by kernel_rfl))
  f285 := Tryd.func164.trans (congrArg some (by kernel_rfl))
  f286 := Tryd.func165.trans (congrArg some (by kernel_rfl))
  f317 := Tryd.func170.trans (congrArg some (by kernel_rfl))
  f318 := Tryd.func172.trans (congrArg some (by kernel_rfl))
  f319 := Tryd.func173.trans (congrArg some (by kernel_rfl))
  f320 := Tryd.func174.trans (congrArg some (by kernel_rfl))
  f337 := Tryd.func175.trans (congrArg some (by kernel_rfl))
  f338 := Tryd.func176.trans (congrArg some (by kernel_rfl))
  t0 := Tryd.underlying0
  a0 := Tryd.isAgg0
  z0 := Tryd.sizeOf0
  v0 := Tryd.zeroValue0
  t2 := Tryd.underlying2
  a2 := Tryd.isAgg2
  z2 := Tryd.sizeOf2
  v2 := Tryd.zeroValue2
  t3 := Tryd.underlying3
  a3 := Tryd.isAgg3
  z3 := Tryd.sizeOf3
  v3 := Tryd.zeroValue3
  t4 := Tryd.underlying4
  a4 := Tryd.isAgg4
  z4 := Tryd.sizeOf4
  v4 := Tryd.zeroValue4
  t5 := Tryd.underlying5
  a5 := Tryd.isAgg5
  z5 := Tryd.sizeOf5
  v5 := Tryd.zeroValue5
  t9 := Tryd.underlying9
  a9 := Tryd.isAgg9
  z9 := Tryd.sizeOf9
  v9 := Tryd.zeroValue9
  t20 := Tryd.underlying20
  a20 := Tryd.isAgg20
  z20 := Tryd.sizeOf20
  v20 := Tryd.zeroValue20
  t37 := Tryd.underlying116
  a37 := Tryd.isAgg116
  z37 := Tryd.sizeOf116
  v37 := Tryd.zeroValue116
  t46 := Tryd.underlying165
  a46 := Tryd.isAgg165
  z46 := Tryd.sizeOf165
  v46 := Tryd.zeroValue165
  t51 := Tryd.underlying177
  a51 := Tryd.isAgg177
  z51 := Tryd.sizeOf177
  v51 := Tryd.zeroValue177
  t53 := Tryd.underlying168
  a53 := Tryd.isAgg168
  z53 := Tryd.sizeOf168
  v53 := Tryd.zeroValue168
  t171 := Tryd.underlying167
  a171 := Tryd.isAgg167
  z171 := Tryd.sizeOf167
  v171 := Tryd.zeroValue167
  t173 := Tryd.underlying171
  a173 := Tryd.isAgg171
  z173 := Tryd.sizeOf171
  v173 := Tryd.zeroValue171
  t212 := Tryd.underlying184
  a212 := Tryd.isAgg184
  z212 := Tryd.sizeOf184
  v212 := Tryd.zeroValue184
  t213 := Tryd.underlying185
  a213 := Tryd.isAgg185
  z213 := Tryd.sizeOf185
  t232 := Tryd.underlying188
  a232 := Tryd.isAgg188
  z232 := Tryd.sizeOf188
  v232 := Tryd.zeroValue188
  t233 := Tryd.underlying189
  a233 := Tryd.isAgg189
  z233 := Tryd.sizeOf189
  v233 := Tryd.zeroValue189
  g17 := by kernel_rfl
  g18 := by kernel_rfl
  g19 := by kernel_rfl
  i0 := by kernel_rfl
  i2 := by kernel_rfl
  i3 := by kernel_rfl
  i4 := by kernel_rfl
  i5 := by kernel_rfl
  i9 := by kernel_rfl
  i20 := by kernel_rfl
  i37 := by kernel_rfl
  i46 := by kernel_rfl
  i51 := by kernel_rfl
  i53 := by kernel_rfl
  i171 := by kernel_rfl
  i173 := by kernel_rfl
  i212 := by kernel_rfl
  i232 := by kernel_rfl
  i233 := by kernel_rfl
  m17 := by kernel_rfl
  m18 := by kernel_rfl
  m19 := by kernel_rfl }
theorem o51 : FnOkX Tryd.prog (pow10X Tryd.prog) T (tiTab tiL) sigs 51 sg51 := .inr ⟨fmtE, rfl, fmt_ok Tryd.laysM246⟩
theorem pow_of {W : World} {l : List (String × DataW Unit)} (h : laidMet Tryd.prog l W) (hm : (tabName, Lib.tabData .u64 Lib.pow10Tab) ∈ l) : pow10X Tryd.prog (fun _ => .frz) W := pow10_of (g := 3) (t := 184) (by kernel_rfl) (by kernel_rfl) Tryd.underlying184 Tryd.underlying168 (by kernel_rfl) (by kernel_rfl) h hm
theorem o0 : K 0 sg0 := fnK (E := E0) (tm := tm0) Tryd.func4 (by kernel_rfl)
theorem o1 : K 1 sg1 := fnK (E := E0) (tm := tm1) Tryd.func14 (by kernel_rfl)
theorem o2 : K 2 sg2 := fnK (E := E0) (tm := tm2) Tryd.func36 (by kernel_rfl)
theorem o3 : K 3 sg3 := fnK (E := E0) (tm := tm3) Tryd.func83 (by kernel_rfl)
theorem o4 : K 4 sg4 := fnK (E := E0) (tm := tm4) Tryd.func16 (by kernel_rfl)
theorem o5 : K 5 sg5 := fnK (E := E0) (tm := tm5) Tryd.func41 (by kernel_rfl)
theorem o6 : K 6 sg6 := fnK (E := E0) (tm := tm6) Tryd.func42 (by kernel_rfl)
theorem o7 : K 7 sg7 := fnK (E := E0) (tm := tm7) Tryd.func89 (by kernel_rfl)
theorem o8 : K 8 sg8 := fnK (E := E0) (tm := tm8) Tryd.func15 (by kernel_rfl)
theorem o9 : K 9 sg9 := fnK (E := E0) (tm := tm9) Tryd.func48 (by kernel_rfl)
theorem o10 : K 10 sg10 := fnK (E := E0) (tm := tm10) Tryd.func37 (by kernel_rfl)
theorem o11 : K 11 sg11 := fnK (E := E0) (tm := tm11) Tryd.func84 (by kernel_rfl)
theorem o12 : K 12 sg12 := fnK (E := E0) (tm := tm12) Tryd.func38 (by kernel_rfl)
theorem o13 : K 13 sg13 := fnK (E := E0) (tm := tm13) Tryd.func39 (by kernel_rfl)
theorem o14 : K 14 sg14 := fnK (E := E0) (tm := tm14) Tryd.func86 (by kernel_rfl)
theorem o15 : K 15 sg15 := fnK (E := E0) (tm := tm15) Tryd.func85 (by kernel_rfl)
theorem o16 : K 16 sg16 := fnK (E := E0) (tm := tm16) Tryd.func124 (by kernel_rfl)
theorem o17 : K 17 sg17 := fnK (E := E0) (tm := tm17) Tryd.func87 (by kernel_rfl)
theorem o18 : K 18 sg18 := fnK (E := E0) (tm := tm18) Tryd.func110 (by kernel_rfl)
theorem o19 : K 19 sg19 := fnK (E := E0) (tm := tm19) Tryd.func134 (by kernel_rfl)
theorem o20 : K 20 sg20 := fnK (E := E0) (tm := tm20) Tryd.func88 (by kernel_rfl)
theorem o21 : K 21 sg21 := fnK (E := E0) (tm := tm21) Tryd.func125 (by kernel_rfl)
theorem o22 : K 22 sg22 := fnK (E := E0) (tm := tm22) Tryd.func49 (by kernel_rfl)
theorem o23 : K 23 sg23 := fnK (E := E0) (tm := tm23) Tryd.func50 (by kernel_rfl)
theorem o24 : K 24 sg24 := fnK (E := E0) (tm := tm24) Tryd.func51 (by kernel_rfl)
theorem o25 : K 25 sg25 := fnK (E := E0) (tm := tm25) Tryd.func52 (by kernel_rfl)
theorem o26 : K 26 sg26 := fnK (E := E0) (tm := tm26) Tryd.func99 (by kernel_rfl)
theorem o27 : K 27 sg27 := fnK (E := E0) (tm := tm27) Tryd.func17 (by kernel_rfl)
theorem o28 : K 28 sg28 := fnK (E := E0) (tm := tm28) Tryd.func53 (by kernel_rfl)
theorem o29 : K 29 sg29 := fnK (E := E0) (tm := tm29) Tryd.func90 (by kernel_rfl)
theorem o30 : K 30 sg30 := fnK (E := E0) (tm := tm30) Tryd.func43 (by kernel_rfl)
theorem o31 : K 31 sg31 := fnK (E := E0) (tm := tm31) Tryd.func74 (by kernel_rfl)
theorem o32 : K 32 sg32 := fnK (E := E0) (tm := tm32) Tryd.func100 (by kernel_rfl)
theorem o33 : K 33 sg33 := fnK (E := E0) (tm := tm33) Tryd.func131 (by kernel_rfl)
theorem o35 : K 35 sg35 := fnK (E := E0) (tm := tm35) Tryd.func44 (by kernel_rfl)
theorem o36 : K 36 sg36 := fnK (E := E0) (tm := tm36) Tryd.func91 (by kernel_rfl)
theorem o37 : K 37 sg37 := fnK (E := E0) (tm := tm37) Tryd.func114 (by kernel_rfl)
theorem o38 : K 38 sg38 := fnK (E := E0) (tm := tm38) Tryd.func92 (by kernel_rfl)
theorem o39 : K 39 sg39 := fnK (E := E0) (tm := tm39) Tryd.func126 (by kernel_rfl)
theorem o40 : K 40 sg40 := fnK (E := E0) (tm := tm40) Tryd.func141 (by kernel_rfl)
theorem o41 : K 41 sg41 := fnK (E := E0) (tm := tm41) Tryd.func127 (by kernel_rfl)
theorem o42 : K 42 sg42 := fnK (E := E0) (tm := tm42) Tryd.func94 (by kernel_rfl)
theorem o43 : K 43 sg43 := fnK (E := E0) (tm := tm43) Tryd.func93 (by kernel_rfl)
theorem o44 : K 44 sg44 := fnK (E := E0) (tm := tm44) Tryd.func128 (by kernel_rfl)
theorem o45 : K 45 sg45 := fnK (E := E0) (tm := tm45) Tryd.func54 (by kernel_rfl)
theorem o46 : K 46 sg46 := fnK (E := E0) (tm := tm46) Tryd.func76 (by kernel_rfl)
theorem o47 : K 47 sg47 := fnK (E := E0) (tm := tm47) Tryd.func95 (by kernel_rfl)
theorem o48 : K 48 sg48 := fnK (E := E0) (tm := tm48) Tryd.func129 (by kernel_rfl)
theorem o49 : K 49 sg49 := fnK (E := E0) (tm := tm49) Tryd.func130 (by kernel_rfl)
theorem o50 : K 50 sg50 := fnK (E := E0) (tm := tm50) Tryd.func143 (by kernel_rfl)
theorem o59 : K 59 sg59 := fnK (E := E0) (tm := tm59) Tryd.func96 (by kernel_rfl)
theorem o60 : K 60 sg60 := fnK (E := E0) (tm := tm60) Tryd.func97 (by kernel_rfl)
theorem o61 : K 61 sg61 := fnK (E := E0) (tm := tm61) Tryd.func18 (by kernel_rfl)
theorem o62 : K 62 sg62 := fnK (E := E0) (tm := tm62) Tryd.func46 (by kernel_rfl)
theorem o63 : K 63 sg63 := fnK (E := E0) (tm := tm63) Tryd.func47 (by kernel_rfl)
theorem o64 : K 64 sg64 := fnK (E := E0) (tm := tm64) Tryd.func98 (by kernel_rfl)
theorem fns_ok : ∀ key s, (key, s) ∈ sigs → FnOkX Tryd.prog (pow10X Tryd.prog) T (tiTab tiL) sigs key s := fnOkX_all (fcX o0 <| fcX o1 <| fcX o2 <| fcX o3 <| fcX o4 <| fcX o5 <| fcX o6 <| fcX o7 <| fcX o8 <| fcX o9 <| fcX o10 <| fcX o11 <| fcX o12 <| fcX o13 <| fcX o14 <| fcX o15 <| fcX o16 <| fcX o17 <| fcX o18 <| fcX o19 <| fcX o20 <| fcX o21 <| fcX o22 <| fcX o23 <| fcX o24 <| fcX o25 <| fcX o26 <| fcX o27 <| fcX o28 <| fcX o29 <| fcX o30 <| fcX o31 <| fcX o32 <| fcX o33 <| fcX o34 <| fcX o35 <| fcX o36 <| fcX o37 <| fcX o38 <| fcX o39 <| fcX o40 <| fcX o41 <| fcX o42 <| fcX o43 <| fcX o44 <| fcX o45 <| fcX o46 <| fcX o47 <| fcX o48 <| fcX o49 <| fcX o50 <| fc o51 <| fcX o54 <| fcX o59 <| fcX o60 <| fcX o61 <| fcX o62 <| fcX o63 <| fcX o64 <| fc0)
theorem contract : ∀ n, ContractX Tryd.prog (pow10X Tryd.prog) T n 0 sg0 := fun n => contractsX pow10X_stable tiL_ok (by kernel_rfl) fns_ok n 0 sg0 (by simp [sigs])
end FnExactMsgText
end Go.Proofs.YtnlhnfifkninpaaDoor
