/- The terms of the functions that FnExactGraphOf reaches (printed by the author's own program). -/
import Derived.Test.YtmpakpgonfnadaaChecked
import Derived.Test.YtmpakpgonfnadaaRf8
import Derived.KernelRfl
namespace Go.Proofs.Ytmpakpgonfnadaa
namespace FnExactGraphOf
open Go Go.Proofs.Ytmpakpgonfnadaa.Rf
set_option maxRecDepth 100000

def t3 : TI := ⟨false, 1, 8, [.sc (.int .i64 0)], [], none, (some .i64), false, false, false, false⟩
theorem ti3 : tiOf Try.prog 3 = some t3 := by kernel_rfl
def t4 : TI := ⟨false, 1, 1, [.sc (.bool false)], [], none, none, true, false, false, false⟩
theorem ti4 : tiOf Try.prog 4 = some t4 := by kernel_rfl
def t22 : TI := ⟨false, 1, 24, [.sl 1], [], (some 50), none, false, false, false, false⟩
theorem ti22 : tiOf Try.prog 22 = some t22 := by kernel_rfl
def t24 : TI := ⟨true, 2, 32, [.sc (.int .i64 0), .sl 1], [(0, 3), (1, 22)], none, none, false, false, false, false⟩
theorem ti24 : tiOf Try.prog 24 = some t24 := by kernel_rfl
def t26 : TI := ⟨false, 1, 24, [.sl 1], [], (some 45), none, false, false, false, false⟩
theorem ti26 : tiOf Try.prog 26 = some t26 := by kernel_rfl
def t29 : TI := ⟨false, 1, 24, [.sl 1], [], (some 52), none, false, false, false, false⟩
theorem ti29 : tiOf Try.prog 29 = some t29 := by kernel_rfl
def t31 : TI := ⟨true, 2, 32, [.sc (.int .i64 0), .sl 1], [(0, 3), (1, 29)], none, none, false, false, false, false⟩
theorem ti31 : tiOf Try.prog 31 = some t31 := by kernel_rfl
def t45 : TI := ⟨false, 1, 24, [.sl 1], [], (some 3), none, false, false, false, false⟩
theorem ti45 : tiOf Try.prog 45 = some t45 := by kernel_rfl
def t50 : TI := ⟨false, 1, 24, [.sl 10], [], (some 77), none, false, false, false, false⟩
theorem ti50 : tiOf Try.prog 50 = some t50 := by kernel_rfl
def t52 : TI := ⟨false, 1, 24, [.sl 10], [], (some 58), none, false, false, false, false⟩
theorem ti52 : tiOf Try.prog 52 = some t52 := by kernel_rfl
def t54 : TI := ⟨true, 5, 40, [.sc (.int .i64 0), .sc (.int .i64 0), .sc (.int .i64 0), .sc (.int .i64 0), .sc (.int .i64 0)], [(0, 3), (1, 3), (2, 3), (3, 3), (4, 3)], none, none, false, false, false, true⟩
theorem ti54 : tiOf Try.prog 54 = some t54 := by kernel_rfl
def t56 : TI := ⟨true, 2, 32, [.sc (.int .i64 0), .sl 1], [(0, 3), (1, 45)], none, none, false, false, false, false⟩
theorem ti56 : tiOf Try.prog 56 = some t56 := by kernel_rfl
def t58 : TI := ⟨true, 10, 96, [.sc (.int .i64 0), .sc (.int .i64 0), .sc (.int .i64 0), .sc (.int .i64 0), .sc (.int .i64 0), .sc (.int .i64 0), .sc (.int .i64 0), .sc (.int .i64 0), .sc (.int .i64 0), .sl 1], [(0, 3), (1, 3), (2, 3), (3, 54), (8, 56)], none, none, false, false, false, false⟩
theorem ti58 : tiOf Try.prog 58 = some t58 := by kernel_rfl
def t74 : TI := ⟨true, 5, 40, [.sc (.int .i64 0), .sc (.int .i64 0), .sc (.int .i64 0), .sc (.int .i64 0), .sc (.int .i64 0)], [(0, 3), (1, 3), (2, 3), (3, 3), (4, 3)], none, none, false, false, false, true⟩
theorem ti74 : tiOf Try.prog 74 = some t74 := by kernel_rfl
def t75 : TI := ⟨true, 2, 32, [.sc (.int .i64 0), .sl 1], [(0, 3), (1, 45)], none, none, false, false, false, false⟩
theorem ti75 : tiOf Try.prog 75 = some t75 := by kernel_rfl
def t77 : TI := ⟨true, 10, 96, [.sc (.int .i64 0), .sc (.int .i64 0), .sc (.int .i64 0), .sc (.int .i64 0), .sc (.int .i64 0), .sc (.int .i64 0), .sc (.int .i64 0), .sc (.int .i64 0), .sc (.int .i64 0), .sl 1], [(0, 3), (1, 3), (2, 3), (3, 74), (8, 75)], none, none, false, false, false, false⟩
theorem ti77 : tiOf Try.prog 77 = some t77 := by kernel_rfl
def tiL : List (Nat × TI) := [(3, t3), (4, t4), (22, t22), (24, t24), (26, t26), (29, t29), (31, t31), (45, t45), (50, t50), (52, t52), (54, t54), (56, t56), (58, t58), (74, t74), (75, t75), (77, t77)]
theorem tiL_ok : TiOk Try.prog (tiTab tiL) := tiTab_ok (l := tiL) (fc ti3 <| fc ti4 <| fc ti22 <| fc ti24 <| fc ti26 <| fc ti29 <| fc ti31 <| fc ti45 <| fc ti50 <| fc ti52 <| fc ti54 <| fc ti56 <| fc ti58 <| fc ti74 <| fc ti75 <| fc ti77 <| fc0)

def sg0 : Sig := ⟨3, [(true, [.sc, .fz false])], [], [(false, [.sc])]⟩
def sg1 : Sig := ⟨4, [(true, [.sc, .fz false]), (false, [.sc])], [], [(false, [.sc])]⟩
def sg2 : Sig := ⟨13, [(false, [.fz false]), (false, [.sc])], [], [(false, [.sc])]⟩
def sg3 : Sig := ⟨24, [(false, [.fz false]), (false, [.sc])], [], [(false, [.sc])]⟩
def sg4 : Sig := ⟨43, [(true, [.sc, .sc, .sc, .sc, .sc, .sc, .sc, .sc, .sc, .fz false]), (false, [.sc])], [], [(false, [.sc])]⟩
def sg5 : Sig := ⟨63, [(true, [.sc, .fz false]), (false, [.sc])], [], [(false, [.sc])]⟩
def sg6 : Sig := ⟨75, [(false, [.fz false]), (false, [.sc])], [], [(false, [.sc])]⟩
def sg7 : Sig := ⟨6, [(true, [.sc, .fz false])], [], [(true, [.sc, .ow 99])]⟩
def sg8 : Sig := ⟨16, [(false, [.fz false])], [], [(false, [.ow 99])]⟩
def sg9 : Sig := ⟨31, [(false, [.fz false])], [], [(false, [.ow 99])]⟩
def sg10 : Sig := ⟨51, [(true, [.sc, .sc, .sc, .sc, .sc, .sc, .sc, .sc, .sc, .fz false])], [], [(true, [.sc, .sc, .sc, .sc, .sc, .sc, .sc, .sc, .sc, .ow 99])]⟩
def sg11 : Sig := ⟨67, [(true, [.sc, .sc, .sc, .sc, .sc])], [], [(true, [.sc, .sc, .sc, .sc, .sc])]⟩
def sg12 : Sig := ⟨68, [(true, [.sc, .fz false])], [], [(true, [.sc, .ow 99])]⟩
def sg13 : Sig := ⟨78, [(false, [.fz false])], [], [(false, [.ow 99])]⟩
def sg14 : Sig := ⟨5, [(true, [.sc, .fz false])], [], [(false, [.ow 99]), (false, [.fz]), (false, [.sc])]⟩
def sg15 : Sig := ⟨14, [(true, [.sc, .fz false])], [], [(false, [.sc])]⟩
def sg16 : Sig := ⟨25, [(false, [.sc])], [], [(false, [.sc])]⟩
def sg17 : Sig := ⟨26, [(false, [.sc]), (true, [.sc, .sc, .sc, .sc, .sc, .sc, .sc, .sc, .sc, .fz false])], [], [(false, [.sc])]⟩
def sg18 : Sig := ⟨44, [(false, [.sc]), (false, [.sc]), (false, [.sc])], [], [(false, [.sc])]⟩
def sg19 : Sig := ⟨46, [(false, [.sc])], [], [(true, [.sc, .ow 99])]⟩
def sg20 : Sig := ⟨45, [(true, [.sc, .fz false]), (true, [.sc, .fz false])], [], [(false, [.sc])]⟩
def sg21 : Sig := ⟨50, [(false, [.fz false]), (false, [.fz false])], [], [(false, [.sc])]⟩
def sg22 : Sig := ⟨47, [(true, [.sc, .sc, .sc, .sc, .sc])], [], [(false, [.sc])]⟩
def sg23 : Sig := ⟨64, [(true, [.sc, .sc, .sc, .sc, .sc])], [], [(false, [.sc])]⟩
def sg24 : Sig := ⟨76, [(false, [.sc])], [], [(false, [.sc])]⟩
def sg25 : Sig := ⟨48, [(false, [.sc]), (true, [.sc, .fz false])], [], [(false, [.sc])]⟩
def sg26 : Sig := ⟨65, [(false, [.fz false]), (false, [.sc]), (false, [.sc])], [], [(false, [.sc])]⟩
def sg27 : Sig := ⟨15, [(true, [.sc, .fz false])], [], [(false, [.ow 99]), (false, [.fz])]⟩
def sg28 : Sig := ⟨27, [(true, [.sc, .fz false])], [], [(false, [.ow 99])]⟩
def sg29 : Sig := ⟨28, [(true, [.sc, .fz false]), (false, [.sc]), (false, [.sc])], [], [(false, [.ow 99])]⟩
def sg30 : Sig := ⟨49, [(true, [.sc, .fz false]), (false, [.sc]), (false, [.sc])], [], [(true, [.sc, .sc, .sc, .sc, .sc, .sc, .sc, .sc, .sc, .ow 99])]⟩
def sg31 : Sig := ⟨66, [(true, [.sc, .sc, .sc, .sc, .sc, .sc, .sc, .sc, .sc, .fz false])], [], [(true, [.sc, .sc, .sc, .sc, .sc, .sc, .sc, .sc, .sc, .ow 99])]⟩
def sg32 : Sig := ⟨77, [(true, [.sc, .fz false])], [], [(true, [.sc, .ow 99])]⟩
def sg33 : Sig := ⟨81, [(false, [.fz false])], [], [(false, [.ow 99])]⟩
def sg34 : Sig := ⟨29, [(false, [.fz false]), (false, [.fz false])], [], [(false, [.sc])]⟩
def sg35 : Sig := ⟨30, [(false, [.fz false]), (false, [.sc])], [], [(false, [.fz])]⟩
def sg36 : Sig := ⟨7, [(true, [.sc, .fz false])], [], [(false, [.ow 99]), (false, [.ow 99]), (false, [.sc])]⟩
def sg37 : Sig := ⟨17, [(true, [.sc, .fz false])], [], [(false, [.sc])]⟩
def sg38 : Sig := ⟨32, [(false, [.sc])], [], [(false, [.sc])]⟩
def sg39 : Sig := ⟨33, [(false, [.fz false]), (false, [.clo 34 [.px 0]])], [(true, [(.sc, .sc), (.fz false, .fz)])], [(false, [.sc])]⟩
def sg40 : Sig := ⟨52, [(false, [.fz false]), (false, [.clo 34 [.px 0]])], [(true, [(.sc, .sc), (.fz false, .fz)])], [(false, [.sc])]⟩
def sg41 : Sig := ⟨34, [(false, [.fz false]), (false, [.px 0])], [(true, [(.sc, .sc), (.fz false, .fz)])], [(false, [.sc])]⟩
def sg42 : Sig := ⟨35, [(false, [.fz false]), (false, [.clo 36 [.px 0]])], [(true, [(.sc, .sc), (.fz false, .fz)])], [(false, [.sc])]⟩
def sg43 : Sig := ⟨53, [(false, [.fz false]), (false, [.clo 36 [.px 0]])], [(true, [(.sc, .sc), (.fz false, .fz)])], [(false, [.sc])]⟩
def sg44 : Sig := ⟨36, [(true, [.sc, .sc, .sc, .sc, .sc, .sc, .sc, .sc, .sc, .fz false]), (false, [.px 0])], [(true, [(.sc, .sc), (.fz false, .fz)])], [(false, [.sc])]⟩
def sg45 : Sig := ⟨37, [(false, [.sc]), (true, [.sc, .sc, .sc, .sc, .sc, .sc, .sc, .sc, .sc, .fz false])], [], [(false, [.sc])]⟩
def sg46 : Sig := ⟨54, [(false, [.sc]), (false, [.sc]), (false, [.sc])], [], [(false, [.sc])]⟩
def sg47 : Sig := ⟨55, [(true, [.sc, .sc, .sc, .sc, .sc])], [], [(false, [.sc])]⟩
def sg48 : Sig := ⟨69, [(false, [.sc])], [], [(false, [.sc])]⟩
def sg49 : Sig := ⟨56, [(false, [.sc]), (true, [.sc, .fz false])], [], [(false, [.sc])]⟩
def sg50 : Sig := ⟨70, [(false, [.fz false]), (false, [.clo 71 []])], [], [(false, [.sc])]⟩
def sg51 : Sig := ⟨79, [(false, [.fz false]), (false, [.clo 71 []])], [], [(false, [.sc])]⟩
def sg52 : Sig := ⟨71, [(false, [.sc])], [], [(false, [.sc])]⟩
def sg53 : Sig := ⟨58, [(false, [.sc])], [], [(true, [.sc, .ow 99])]⟩
def sg54 : Sig := ⟨57, [(true, [.sc, .fz false]), (true, [.sc, .fz false])], [], [(false, [.sc])]⟩
def sg55 : Sig := ⟨40, [(false, [.fz false]), (false, [.fz false])], [], [(false, [.sc])]⟩
def sg56 : Sig := ⟨18, [(true, [.sc, .fz false])], [], [(false, [.ow 99]), (false, [.ow 99])]⟩
def sg57 : Sig := ⟨38, [(true, [.sc, .fz false])], [], [(false, [.ow 99])]⟩
def sg58 : Sig := ⟨59, [(true, [.sc, .fz false]), (false, [.clo 60 [.px 0]])], [(false, [(.ow 99, .ow 99)])], []⟩
def sg59 : Sig := ⟨60, [(false, [.sc]), (false, [.sc]), (true, [.sc, .sc, .sc, .sc, .sc, .sc, .sc, .sc, .sc, .fz false]), (false, [.px 0])], [(false, [(.ow 99, .ow 99)])], []⟩
def sg60 : Sig := ⟨39, [(true, [.sc, .fz false]), (false, [.sc]), (false, [.sc])], [], [(true, [.sc, .sc, .sc, .sc, .sc, .sc, .sc, .sc, .sc, .ow 99])]⟩
def sg61 : Sig := ⟨61, [(true, [.sc, .sc, .sc, .sc, .sc, .sc, .sc, .sc, .sc, .fz false])], [], [(true, [.sc, .sc, .sc, .sc, .sc, .sc, .sc, .sc, .sc, .ow 99])]⟩
def sg62 : Sig := ⟨72, [(true, [.sc, .fz false])], [], [(true, [.sc, .ow 99])]⟩
def sg63 : Sig := ⟨80, [(false, [.fz false])], [], [(false, [.ow 99])]⟩
def sg64 : Sig := ⟨8, [(false, [.fz false]), (false, [.fz false])], [], [(false, [.sc])]⟩
def sg65 : Sig := ⟨19, [(false, [.fz false]), (false, [.fz false])], [], [(false, [.sc])]⟩
def sg66 : Sig := ⟨9, [(true, [.sc, .fz false]), (true, [.sc, .fz false])], [], [(false, [.sc])]⟩
def sg67 : Sig := ⟨20, [(false, [.fz false]), (false, [.fz false])], [], [(false, [.sc])]⟩
def sg68 : Sig := ⟨41, [(false, [.fz false]), (false, [.fz false])], [], [(false, [.sc])]⟩
def sg69 : Sig := ⟨62, [(true, [.sc, .sc, .sc, .sc, .sc, .sc, .sc, .sc, .sc, .fz false]), (true, [.sc, .sc, .sc, .sc, .sc, .sc, .sc, .sc, .sc, .fz false])], [], [(false, [.sc])]⟩
def sg70 : Sig := ⟨73, [(true, [.sc, .sc, .sc, .sc, .sc]), (true, [.sc, .sc, .sc, .sc, .sc])], [], [(false, [.sc])]⟩
def sg71 : Sig := ⟨74, [(true, [.sc, .fz false]), (true, [.sc, .fz false])], [], [(false, [.sc])]⟩
def sg72 : Sig := ⟨10, [(true, [.sc, .mu 3]), (false, [.sc])], [], [(false, [.sc])]⟩
def sg73 : Sig := ⟨21, [(false, [.mu 3]), (false, [.sc])], [], [(false, [.sc])]⟩
def sg74 : Sig := ⟨42, [(false, [.mu 2]), (false, [.sc])], [], [(false, [.sc])]⟩
def sg75 : Sig := ⟨22, [(false, [.mu 1]), (false, [.sc])], [], [(false, [.sc])]⟩
def sg76 : Sig := ⟨11, [(false, [.mu 2]), (false, [.sc])], [], [(false, [.sc])]⟩
def sg77 : Sig := ⟨12, [(false, [.fz false]), (false, [.sc])], [], [(false, [.sc])]⟩
def sg78 : Sig := ⟨23, [(false, [.fz false]), (false, [.sc])], [], [(false, [.sc])]⟩
def sigs : List (Nat × Sig) := [(0, sg0), (1, sg1), (2, sg2), (3, sg3), (4, sg4), (5, sg5), (6, sg6), (7, sg7), (8, sg8), (9, sg9), (10, sg10), (11, sg11), (12, sg12), (13, sg13), (14, sg14), (15, sg15), (16, sg16), (17, sg17), (18, sg18), (19, sg19), (20, sg20), (21, sg21), (22, sg22), (23, sg23), (24, sg24), (25, sg25), (26, sg26), (27, sg27), (28, sg28), (29, sg29), (30, sg30), (31, sg31), (32, sg32), (33, sg33), (34, sg34), (35, sg35), (36, sg36), (37, sg37), (38, sg38), (39, sg39), (40, sg40), (41, sg41), (42, sg42), (43, sg43), (44, sg44), (45, sg45), (46, sg46), (47, sg47), (48, sg48), (49, sg49), (50, sg50), (51, sg51), (52, sg52), (53, sg53), (54, sg54), (55, sg55), (56, sg56), (57, sg57), (58, sg58), (59, sg59), (60, sg60), (61, sg61), (62, sg62), (63, sg63), (64, sg64), (65, sg65), (66, sg66), (67, sg67), (68, sg68), (69, sg69), (70, sg70), (71, sg71), (72, sg72), (73, sg73), (74, sg74), (75, sg75), (76, sg76), (77, sg77), (78, sg78)]
abbrev E0 : Env := ⟨tiTab tiL, sigs, 0, 0, false, false, [], []⟩

/-- laws.FnExactGraphOf -/
def tm0 : Tm Unit :=
  (.call none 1 [.v 0, .v 1, .c (.int .i64 1048576)] 1 [] <|
  (.lt none (.bin .lss) [.v 2, .c (.int .i64 0)] 1 <|
  (.ite (.v 3)
   (.leaf .ret [.c (.bool true)] ())
   (.call none 7 [.v 0, .v 1] 2 [] <|
   (.call none 14 [.v 4, .v 5] 3 [] <|
   (.lt none (.dep 99) [.v 6] 0 <|
   (.call none 7 [.v 0, .v 1] 2 [] <|
   (.call none 36 [.v 9, .v 10] 3 [] <|
   (.lt none (.dep 99) [.v 11] 0 <|
   (.lt none (.dep 99) [.v 12] 0 <|
   (.call none 64 [.v 11, .v 6] 1 [] <|
   (.lt none .not [.v 14] 1 <|
   (.call (some (.v 15, false)) 64 [.v 12, .v 7] 1 [] <|
   (.lt (some (.v 15, false)) .not [.v 16] 1 <|
   (.lt none .pick [.v 15, .c (.bool true), .v 17] 1 <|
   (.lt (some (.v 18, false)) .id [.v 13] 1 <|
   (.lt (some (.v 18, false)) .id [.v 8] 1 <|
   (.lt (some (.v 18, false)) (.eqb true) [.v 19, .v 20] 1 <|
   (.lt none .pick [.v 18, .c (.bool true), .v 21] 1 <|
   (.ite (.v 22)
    (.leaf .ret [.c (.bool false)] ())
    (.call none 7 [.v 0, .v 1] 2 [] <|
    (.call none 66 [.v 9, .v 10, .v 23, .v 24] 1 [] <|
    (.lt none .not [.v 25] 1 <|
    (.ite (.v 26)
     (.leaf .ret [.c (.bool false)] ())
     (.call none 72 [.v 9, .v 10, .c (.int .i64 1)] 2 [] <|
     (.lt none (.dep 3) [.v 28] 0 <|
     (.lt none (.bin .lss) [.v 27, .c (.int .i64 0)] 1 <|
     (.call (some (.v 29, false)) 64 [.v 11, .v 6] 1 [] <|
     (.lt (some (.v 29, false)) .not [.v 30] 1 <|
     (.lt none .pick [.v 29, .c (.bool true), .v 31] 1 <|
     (.call (some (.v 32, false)) 64 [.v 12, .v 7] 1 [] <|
     (.lt (some (.v 32, false)) .not [.v 33] 1 <|
     (.lt none .pick [.v 32, .c (.bool true), .v 34] 1 <|
     (.lt (some (.v 35, false)) .id [.v 13] 1 <|
     (.lt (some (.v 35, false)) .id [.v 8] 1 <|
     (.lt (some (.v 35, false)) (.eqb true) [.v 36, .v 37] 1 <|
     (.lt none .pick [.v 35, .c (.bool true), .v 38] 1 <|
     (.ite (.v 39)
      (.leaf .ret [.c (.bool false)] ())
      (.call none 76 [.v 11, .c (.int .i64 1)] 2 [] <|
      (.lt none (.dep 2) [.v 41] 0 <|
      (.call none 76 [.v 12, .v 40] 2 [] <|
      (.lt none (.dep 2) [.v 43] 0 <|
      (.call none 77 [.v 41, .c (.int .i64 1)] 1 [] <|
      (.lt none (.bin .lss) [.v 44, .c (.int .i64 0)] 1 <|
      (.ite (.v 45)
       (.leaf .ret [.c (.bool false)] ())
       (.call none 77 [.v 43, .v 44] 1 [] <|
       (.lt none (.bin .lss) [.v 46, .c (.int .i64 0)] 1 <|
       (.ite (.v 47)
        (.leaf .ret [.c (.bool false)] ())
        (.lt none (.bin .neq) [.v 46, .v 42] 1 <|
        (.ite (.v 48)
         (.leaf .ret [.c (.bool false)] ())
         (.call none 7 [.v 0, .v 1] 2 [] <|
         (.call none 36 [.v 49, .v 50] 3 [] <|
         (.lt none (.dep 99) [.v 51] 0 <|
         (.lt none (.dep 99) [.v 52] 0 <|
         (.call none 64 [.v 51, .v 6] 1 [] <|
         (.lt none .not [.v 54] 1 <|
         (.call (some (.v 55, false)) 64 [.v 52, .v 7] 1 [] <|
         (.lt (some (.v 55, false)) .not [.v 56] 1 <|
         (.lt none .pick [.v 55, .c (.bool true), .v 57] 1 <|
         (.lt (some (.v 58, false)) .id [.v 53] 1 <|
         (.lt (some (.v 58, false)) .id [.v 8] 1 <|
         (.lt (some (.v 58, false)) (.eqb true) [.v 59, .v 60] 1 <|
         (.lt none .pick [.v 58, .c (.bool true), .v 61] 1 <|
         (.ite (.v 62)
          (.leaf .ret [.c (.bool false)] ())
          (.call none 77 [.v 41, .c (.int .i64 1)] 1 [] <|
          (.lt none (.bin .lss) [.v 63, .c (.int .i64 0)] 1 <|
          (.ite (.v 64)
           (.leaf .ret [.c (.bool false)] ())
           (.call none 77 [.v 43, .v 63] 1 [] <|
           (.lt none (.bin .lss) [.v 65, .c (.int .i64 0)] 1 <|
           (.ite (.v 66)
            (.leaf .ret [.c (.bool false)] ())
            (.lt none (.bin .neq) [.v 65, .v 42] 1 <|
            (.ite (.v 67)
             (.leaf .ret [.c (.bool false)] ())
             (.leaf .ret [.c (.bool true)] ())))))))))))))))))))))))))))))))))))))))))))))))))))))))))))))))))))))))))
/-- laws.szTable -/
def tm1 : Tm Unit :=
  (.call none 2 [.v 1, .v 2] 1 [] <|
  (.lt none (.bin .lss) [.v 3, .c (.int .i64 0)] 1 <|
  (.ite (.v 4)
   (.leaf .ret [.c (.int .i64 (-1))] ())
   (.leaf .ret [.v 3] ()))))
/-- laws.szRowSS -/
def tm2 : Tm Unit :=
  (.lt none .len [.v 0] 1 <|
  (.lt none (.bin .sub) [.v 1, .v 2] 1 <|
  (.lt none (.bin .lss) [.v 3, .c (.int .i64 0)] 1 <|
  (.ite (.v 4)
   (.leaf .ret [.c (.int .i64 (-1))] ())
   (.bind 1
    (.loop [.v 3, .c (.int .i64 0)]
     (.lt none .len [.v 0] 1 <|
     (.lt none (.bin .lss) [.v 6, .v 7] 1 <|
     (.ite (.v 8)
      (.lt none .inb [.v 0, .v 6] 0 <|
      (.lt none (.row 1 0 [false]) [.v 0, .v 6] 1 <|
      (.call none 3 [.v 9, .v 5] 1 [] <|
      (.lt none (.bin .lss) [.v 10, .c (.int .i64 0)] 1 <|
      (.ite (.v 11)
       (.leaf .ret [.c (.int .i64 (-1))] ())
       (.lt none (.bin .add) [.v 6, .c (.int .i64 1)] 1 <|
       (.leaf .cont [.v 10, .v 12] ())))))))
      (.leaf (.yield 1) [.v 5] ()))))) <|
   (.leaf .ret [.v 5] ()))))))
/-- laws.szRowS -/
def tm3 : Tm Unit :=
  (.lt none .len [.v 0] 1 <|
  (.lt none (.bin .sub) [.v 1, .v 2] 1 <|
  (.lt none (.bin .lss) [.v 3, .c (.int .i64 0)] 1 <|
  (.ite (.v 4)
   (.leaf .ret [.c (.int .i64 (-1))] ())
   (.bind 1
    (.loop [.v 3, .c (.int .i64 0)]
     (.lt none .len [.v 0] 1 <|
     (.lt none (.bin .lss) [.v 6, .v 7] 1 <|
     (.ite (.v 8)
      (.lt none .inb [.v 0, .v 6] 0 <|
      (.lt none (.row 10 0 [true, true, true, true, true, true, true, true, true, false]) [.v 0, .v 6] 10 <|
      (.call none 4 [.v 9, .v 10, .v 11, .v 12, .v 13, .v 14, .v 15, .v 16, .v 17, .v 18, .v 5] 1 [] <|
      (.lt none (.bin .lss) [.v 19, .c (.int .i64 0)] 1 <|
      (.ite (.v 20)
       (.leaf .ret [.c (.int .i64 (-1))] ())
       (.lt none (.bin .add) [.v 6, .c (.int .i64 1)] 1 <|
       (.leaf .cont [.v 19, .v 21] ())))))))
      (.leaf (.yield 1) [.v 5] ()))))) <|
   (.leaf .ret [.v 5] ()))))))
/-- laws.szRow -/
def tm4 : Tm Unit :=
  (.call none 5 [.v 8, .v 9, .v 10] 1 [] <|
  (.lt none (.bin .lss) [.v 11, .c (.int .i64 0)] 1 <|
  (.ite (.v 12)
   (.leaf .ret [.c (.int .i64 (-1))] ())
   (.leaf .ret [.v 11] ()))))
/-- laws.szAttr -/
def tm5 : Tm Unit :=
  (.call none 6 [.v 1, .v 2] 1 [] <|
  (.lt none (.bin .lss) [.v 3, .c (.int .i64 0)] 1 <|
  (.ite (.v 4)
   (.leaf .ret [.c (.int .i64 (-1))] ())
   (.leaf .ret [.v 3] ()))))
/-- laws.szIntS -/
def tm6 : Tm Unit :=
  (.lt none .len [.v 0] 1 <|
  (.lt none (.bin .sub) [.v 1, .v 2] 1 <|
  (.lt none (.bin .lss) [.v 3, .c (.int .i64 0)] 1 <|
  (.ite (.v 4)
   (.leaf .ret [.c (.int .i64 (-1))] ())
   (.leaf .ret [.v 3] ())))))
/-- laws.toTable -/
def tm7 : Tm Unit :=
  (.call none 8 [.v 1] 1 [] <|
  (.leaf .ret [.v 0, .v 2] ()))
/-- laws.toRowSS -/
def tm8 : Tm Unit :=
  (.lt none .len [.v 0] 1 <|
  (.lt none (.make 24 [(.rows 10 [])]) [.v 1] 1 <|
  (.bind 1
   (.loop [.v 2, .c (.int .i64 0)]
    (.lt none .len [.v 0] 1 <|
    (.lt none (.bin .lss) [.v 4, .v 5] 1 <|
    (.ite (.v 6)
     (.lt none .inb [.v 0, .v 4] 0 <|
     (.lt none (.row 1 0 [false]) [.v 0, .v 4] 1 <|
     (.call none 9 [.v 7] 1 [] <|
     (.lt none .inb [.v 3, .v 4] 0 <|
     (.lt none (.set 1 0 1) [.v 3, .v 4, .v 8] 1 <|
     (.lt none (.bin .add) [.v 4, .c (.int .i64 1)] 1 <|
     (.leaf .cont [.v 9, .v 10] ())))))))
     (.leaf (.yield 1) [.v 3] ()))))) <|
  (.leaf .ret [.v 3] ()))))
/-- laws.toRowS -/
def tm9 : Tm Unit :=
  (.lt none .len [.v 0] 1 <|
  (.lt none (.make 96 [(.int .i64 0), (.int .i64 0), (.int .i64 0), (.int .i64 0), (.int .i64 0), (.int .i64 0), (.int .i64 0), (.int .i64 0), (.int .i64 0), (.rows 1 [])]) [.v 1] 1 <|
  (.bind 1
   (.loop [.v 2, .c (.int .i64 0)]
    (.lt none .len [.v 0] 1 <|
    (.lt none (.bin .lss) [.v 4, .v 5] 1 <|
    (.ite (.v 6)
     (.lt none .inb [.v 0, .v 4] 0 <|
     (.lt none (.row 10 0 [true, true, true, true, true, true, true, true, true, false]) [.v 0, .v 4] 10 <|
     (.call none 10 [.v 7, .v 8, .v 9, .v 10, .v 11, .v 12, .v 13, .v 14, .v 15, .v 16] 10 [] <|
     (.lt none .inb [.v 3, .v 4] 0 <|
     (.lt none (.set 10 0 10) [.v 3, .v 4, .v 17, .v 18, .v 19, .v 20, .v 21, .v 22, .v 23, .v 24, .v 25, .v 26] 1 <|
     (.lt none (.bin .add) [.v 4, .c (.int .i64 1)] 1 <|
     (.leaf .cont [.v 27, .v 28] ())))))))
     (.leaf (.yield 1) [.v 3] ()))))) <|
  (.leaf .ret [.v 3] ()))))
/-- laws.toRow -/
def tm10 : Tm Unit :=
  (.call none 11 [.v 3, .v 4, .v 5, .v 6, .v 7] 5 [] <|
  (.call none 12 [.v 8, .v 9] 2 [] <|
  (.leaf .ret [.v 0, .v 1, .v 2, .v 10, .v 11, .v 12, .v 13, .v 14, .v 15, .v 16] ())))
/-- laws.toCmd -/
def tm11 : Tm Unit :=
  (.leaf .ret [.v 0, .v 1, .v 2, .v 3, .v 4] ())
/-- laws.toAttr -/
def tm12 : Tm Unit :=
  (.call none 13 [.v 1] 1 [] <|
  (.leaf .ret [.v 0, .v 2] ()))
/-- laws.toIntS -/
def tm13 : Tm Unit :=
  (.lt none .len [.v 0] 1 <|
  (.lt none (.make 8 [(.int .i64 0)]) [.v 1] 1 <|
  (.bind 1
   (.loop [.v 2, .c (.int .i64 0)]
    (.lt none .len [.v 0] 1 <|
    (.lt none (.bin .lss) [.v 4, .v 5] 1 <|
    (.ite (.v 6)
     (.lt none .inb [.v 0, .v 4] 0 <|
     (.lt none (.row 1 0 [true]) [.v 0, .v 4] 1 <|
     (.lt none .inb [.v 3, .v 4] 0 <|
     (.lt none (.set 1 0 1) [.v 3, .v 4, .v 7] 1 <|
     (.lt none (.bin .add) [.v 4, .c (.int .i64 1)] 1 <|
     (.leaf .cont [.v 8, .v 9] ()))))))
     (.leaf (.yield 1) [.v 3] ()))))) <|
  (.leaf .ret [.v 3] ()))))
/-- spec.GraphOf -/
def tm14 : Tm Unit :=
  (.call none 15 [.v 0, .v 1] 1 [] <|
  (.lt none .not [.v 2] 1 <|
  (.ite (.v 3)
   (.leaf .ret [.c (.rows 1 []), .c (.rows 1 []), .c (.bool false)] ())
   (.call none 27 [.v 0, .v 1] 2 [] <|
   (.lt none .len [.v 4] 1 <|
   (.lt none (.bin .gtr) [.v 6, .c (.int .i64 40)] 1 <|
   (.ite (.v 7)
    (.leaf .ret [.c (.rows 1 []), .c (.rows 1 []), .c (.bool false)] ())
    (.leaf .ret [.v 4, .v 5, .c (.bool true)] ()))))))))
/-- spec.GoodTable -/
def tm15 : Tm Unit :=
  (.call none 16 [.v 0] 1 [] <|
  (.lt none .not [.v 2] 1 <|
  (.lt (some (.v 3, false)) .len [.v 1] 1 <|
  (.lt (some (.v 3, false)) .id [.v 0] 1 <|
  (.lt (some (.v 3, false)) (.bin .neq) [.v 4, .v 5] 1 <|
  (.lt none .pick [.v 3, .c (.bool true), .v 6] 1 <|
  (.ite (.v 7)
   (.leaf .ret [.c (.bool false)] ())
   (.lt none .len [.v 1] 1 <|
   (.bind 1
    (.loop [.c (.int .i64 0)]
     (.lt none (.bin .lss) [.v 9, .v 8] 1 <|
     (.ite (.v 10)
      (.lt none .inb [.v 1, .v 9] 0 <|
      (.lt none (.row 1 0 [false]) [.v 1, .v 9] 1 <|
      (.lt none .len [.v 11] 1 <|
      (.bind 3
       (.loop [.c (.int .i64 0)]
        (.lt none (.bin .lss) [.v 13, .v 12] 1 <|
        (.ite (.v 14)
         (.lt none .inb [.v 11, .v 13] 0 <|
         (.lt none (.row 10 0 [true, true, true, true, true, true, true, true, true, false]) [.v 11, .v 13] 10 <|
         (.call none 17 [.v 0, .v 15, .v 16, .v 17, .v 18, .v 19, .v 20, .v 21, .v 22, .v 23, .v 24] 1 [] <|
         (.lt none .not [.v 25] 1 <|
         (.ite (.v 26)
          (.leaf .ret [.c (.bool false)] ())
          (.lt none (.bin .add) [.v 13, .c (.int .i64 1)] 1 <|
          (.leaf .cont [.v 27] ())))))))
         (.leaf (.yield 3) [] ())))) <|
      (.lt none .len [.v 11] 1 <|
      (.lt none (.bin .gtr) [.v 13, .c (.int .i64 6)] 1 <|
      (.ite (.v 14)
       (.leaf .ret [.c (.bool false)] ())
       (.lt none (.bin .add) [.v 9, .c (.int .i64 1)] 1 <|
       (.leaf .cont [.v 15] ())))))))))
      (.leaf (.yield 1) [] ())))) <|
   (.leaf .ret [.c (.bool true)] ()))))))))))
/-- spec.IsGroup -/
def tm16 : Tm Unit :=
  (.lt none (.bin .eql) [.v 0, .c (.int .i64 3)] 1 <|
  (.lt (some (.v 1, false)) .id [.v 0] 1 <|
  (.lt (some (.v 1, false)) (.bin .eql) [.v 2, .c (.int .i64 5)] 1 <|
  (.lt none .pick [.v 1, .c (.bool true), .v 3] 1 <|
  (.leaf .ret [.v 4] ())))))
/-- spec.l4Row -/
def tm17 : Tm Unit :=
  (.call none 18 [.v 1, .c (.int .i64 0), .c (.int .i64 9999)] 1 [] <|
  (.lt none .not [.v 11] 1 <|
  (.lt (some (.v 12, false)) .id [.v 2] 1 <|
  (.lt (some (.v 12, false)) .id [.v 1] 1 <|
  (.call (some (.v 12, false)) 18 [.v 13, .c (.int .i64 0), .v 14] 1 [] <|
  (.lt (some (.v 12, false)) .not [.v 15] 1 <|
  (.lt none .pick [.v 12, .c (.bool true), .v 16] 1 <|
  (.lt (some (.v 17, false)) .id [.v 3] 1 <|
  (.call (some (.v 17, false)) 18 [.v 18, .c (.int .i64 0), .c (.int .i64 3)] 1 [] <|
  (.lt (some (.v 17, false)) .not [.v 19] 1 <|
  (.lt none .pick [.v 17, .c (.bool true), .v 20] 1 <|
  (.ite (.v 21)
   (.leaf .ret [.c (.bool false)] ())
   (.lt none (.bin .eql) [.v 3, .c (.int .i64 0)] 1 <|
   (.ite (.v 22)
    (.lt none (.bin .eql) [.v 2, .c (.int .i64 0)] 1 <|
    (.lt (some (.v 23, true)) (.eqs [0, 0, 0, 0, 0]) [.v 4, .v 5, .v 6, .v 7, .v 8, .c (.int .i64 0), .c (.int .i64 0), .c (.int .i64 0), .c (.int .i64 0), .c (.int .i64 0)] 1 <|
    (.lt none .pick [.v 23, .v 24, .c (.bool false)] 1 <|
    (.lt (some (.v 25, true)) .id [.v 0] 1 <|
    (.call (some (.v 25, true)) 19 [.v 26] 2 [] <|
    (.call (some (.v 25, true)) 20 [.v 9, .v 10, .v 27, .v 28] 1 [] <|
    (.lt none .pick [.v 25, .v 29, .c (.bool false)] 1 <|
    (.leaf .ret [.v 30] ()))))))))
    (.call none 22 [.v 4, .v 5, .v 6, .v 7, .v 8] 1 [] <|
    (.lt (some (.v 23, true)) .id [.v 0] 1 <|
    (.call (some (.v 23, true)) 25 [.v 24, .v 9, .v 10] 1 [] <|
    (.lt none .pick [.v 23, .v 25, .c (.bool false)] 1 <|
    (.leaf .ret [.v 26] ())))))))))))))))))))
/-- spec.l1In -/
def tm18 : Tm Unit :=
  (.lt none (.bin .geq) [.v 0, .v 1] 1 <|
  (.lt (some (.v 3, true)) .id [.v 0] 1 <|
  (.lt (some (.v 3, true)) .id [.v 2] 1 <|
  (.lt (some (.v 3, true)) (.bin .leq) [.v 4, .v 5] 1 <|
  (.lt none .pick [.v 3, .v 6, .c (.bool false)] 1 <|
  (.leaf .ret [.v 7] ()))))))
/-- spec.l3None -/
def tm19 : Tm Unit :=
  (.lt none (.make 8 [(.int .i64 0)]) [.v 0] 1 <|
  (.leaf .ret [.c (.int .i64 0), .v 1] ()))
/-- spec.SameAttr -/
def tm20 : Tm Unit :=
  (.lt none (.bin .eql) [.v 0, .v 2] 1 <|
  (.call (some (.v 4, true)) 21 [.v 1, .v 3] 1 [] <|
  (.lt none .pick [.v 4, .v 5, .c (.bool false)] 1 <|
  (.leaf .ret [.v 6] ()))))
/-- spec.l1Same -/
def tm21 : Tm Unit :=
  (.lt none .len [.v 0] 1 <|
  (.lt none .len [.v 1] 1 <|
  (.lt none (.bin .neq) [.v 2, .v 3] 1 <|
  (.ite (.v 4)
   (.leaf .ret [.c (.bool false)] ())
   (.lt none .len [.v 0] 1 <|
   (.bind 1
    (.loop [.c (.int .i64 0)]
     (.lt none (.bin .lss) [.v 6, .v 5] 1 <|
     (.ite (.v 7)
      (.lt none .inb [.v 0, .v 6] 0 <|
      (.lt none (.row 1 0 [true]) [.v 0, .v 6] 1 <|
      (.lt none .inb [.v 1, .v 6] 0 <|
      (.lt none (.row 1 0 [true]) [.v 1, .v 6] 1 <|
      (.lt none (.bin .neq) [.v 8, .v 9] 1 <|
      (.ite (.v 10)
       (.leaf .ret [.c (.bool false)] ())
       (.lt none (.bin .add) [.v 6, .c (.int .i64 1)] 1 <|
       (.leaf .cont [.v 11] ()))))))))
      (.leaf (.yield 1) [] ())))) <|
   (.leaf .ret [.c (.bool true)] ())))))))
/-- spec.GoodCmd -/
def tm22 : Tm Unit :=
  (.lt none (.bin .eql) [.v 0, .c (.int .i64 0)] 1 <|
  (.ite (.v 5)
   (.lt none (.eqs [0, 0, 0, 0, 0]) [.v 0, .v 1, .v 2, .v 3, .v 4, .c (.int .i64 0), .c (.int .i64 0), .c (.int .i64 0), .c (.int .i64 0), .c (.int .i64 0)] 1 <|
   (.leaf .ret [.v 6] ()))
   (.lt none (.bin .eql) [.v 0, .c (.int .i64 1)] 1 <|
   (.ite (.v 6)
    (.call none 23 [.v 0, .v 1, .v 2, .v 3, .v 4] 1 [] <|
    (.lt none (.bin .eql) [.v 7, .c (.int .i64 0)] 1 <|
    (.leaf .ret [.v 8] ())))
    (.lt none (.bin .eql) [.v 0, .c (.int .i64 2)] 1 <|
    (.ite (.v 7)
     (.call none 23 [.v 0, .v 1, .v 2, .v 3, .v 4] 1 [] <|
     (.lt none (.bin .eql) [.v 8, .c (.int .i64 0)] 1 <|
     (.lt (some (.v 9, true)) .id [.v 3] 1 <|
     (.lt (some (.v 9, true)) (.bin .eql) [.v 10, .c (.int .i64 0)] 1 <|
     (.lt none .pick [.v 9, .v 11, .c (.bool false)] 1 <|
     (.lt (some (.v 12, true)) .id [.v 4] 1 <|
     (.lt (some (.v 12, true)) (.bin .eql) [.v 13, .c (.int .i64 0)] 1 <|
     (.lt none .pick [.v 12, .v 14, .c (.bool false)] 1 <|
     (.leaf .ret [.v 15] ())))))))))
     (.leaf .ret [.c (.bool false)] ())))))))
/-- spec.l2Code -/
def tm23 : Tm Unit :=
  (.lt none (.bin .eql) [.v 0, .c (.int .i64 1)] 1 <|
  (.call none 24 [.v 2] 1 [] <|
  (.lt none .not [.v 6] 1 <|
  (.lt (some (.v 7, false)) .id [.v 5] 1 <|
  (.lt (some (.v 7, false)) .id [.v 8] 1 <|
  (.lt (some (.v 9, true)) .id [.v 3] 1 <|
  (.call (some (.v 9, true)) 24 [.v 10] 1 [] <|
  (.lt (some (.v 9, true)) .not [.v 11] 1 <|
  (.lt (some (.v 7, false)) .pick [.v 9, .v 12, .c (.bool false)] 1 <|
  (.lt none .pick [.v 7, .c (.bool true), .v 13] 1 <|
  (.ite (.v 14)
   (.leaf .ret [.c (.int .i64 4)] ())
   (.lt (some (.v 5, true)) .id [.v 2] 1 <|
   (.lt (some (.v 5, true)) .id [.v 3] 1 <|
   (.lt (some (.v 5, true)) (.bin .eql) [.v 15, .v 16] 1 <|
   (.lt none .pick [.v 5, .v 17, .c (.bool false)] 1 <|
   (.ite (.v 18)
    (.leaf .ret [.c (.int .i64 5)] ())
    (.call none 18 [.v 1, .c (.int .i64 1), .c (.int .i64 999)] 1 [] <|
    (.lt none .not [.v 19] 1 <|
    (.lt (some (.v 20, false)) .id [.v 5] 1 <|
    (.lt (some (.v 20, false)) .id [.v 21] 1 <|
    (.lt (some (.v 22, true)) .id [.v 4] 1 <|
    (.call (some (.v 22, true)) 18 [.v 23, .c (.int .i64 1), .c (.int .i64 1000)] 1 [] <|
    (.lt (some (.v 22, true)) .not [.v 24] 1 <|
    (.lt (some (.v 20, false)) .pick [.v 22, .v 25, .c (.bool false)] 1 <|
    (.lt none .pick [.v 20, .c (.bool true), .v 26] 1 <|
    (.ite (.v 27)
     (.leaf .ret [.c (.int .i64 6)] ())
     (.leaf .ret [.c (.int .i64 0)] ())))))))))))))))))))))))))))
/-- spec.l2Account -/
def tm24 : Tm Unit :=
  (.call none 18 [.v 0, .c (.int .i64 0), .c (.int .i64 3)] 1 [] <|
  (.leaf .ret [.v 1] ()))
/-- spec.l3Attr -/
def tm25 : Tm Unit :=
  (.call none 18 [.v 1, .c (.int .i64 0), .c (.int .i64 999)] 1 [] <|
  (.lt (some (.v 3, true)) .len [.v 2] 1 <|
  (.lt (some (.v 3, true)) .id [.v 0] 1 <|
  (.lt (some (.v 3, true)) (.bin .eql) [.v 4, .v 5] 1 <|
  (.lt none .pick [.v 3, .v 6, .c (.bool false)] 1 <|
  (.call (some (.v 7, true)) 26 [.v 2, .c (.int .i64 0), .c (.int .i64 6)] 1 [] <|
  (.lt none .pick [.v 7, .v 8, .c (.bool false)] 1 <|
  (.leaf .ret [.v 9] ()))))))))
/-- spec.l1All -/
def tm26 : Tm Unit :=
  (.lt none .len [.v 0] 1 <|
  (.bind 1
   (.loop [.c (.int .i64 0)]
    (.lt none (.bin .lss) [.v 4, .v 3] 1 <|
    (.ite (.v 5)
     (.lt none .inb [.v 0, .v 4] 0 <|
     (.lt none (.row 1 0 [true]) [.v 0, .v 4] 1 <|
     (.call none 18 [.v 6, .v 1, .v 2] 1 [] <|
     (.lt none .not [.v 7] 1 <|
     (.ite (.v 8)
      (.leaf .ret [.c (.bool false)] ())
      (.lt none (.bin .add) [.v 4, .c (.int .i64 1)] 1 <|
      (.leaf .cont [.v 9] ())))))))
     (.leaf (.yield 1) [] ())))) <|
  (.leaf .ret [.c (.bool true)] ())))
/-- spec.l6Graph -/
def tm27 : Tm Unit :=
  (.call none 28 [.v 0, .v 1] 1 [] <|
  (.lt none .len [.v 2] 1 <|
  (.bind 1
   (.loop [.c (.rows 1 []), .c (.int .i64 0)]
    (.lt none (.bin .lss) [.v 5, .v 3] 1 <|
    (.ite (.v 6)
     (.lt none .inb [.v 2, .v 5] 0 <|
     (.lt none (.row 1 0 [false]) [.v 2, .v 5] 1 <|
     (.lt none .inb [.v 7, .c (.int .i64 0)] 0 <|
     (.lt none (.row 1 0 [true]) [.v 7, .c (.int .i64 0)] 1 <|
     (.lt none .inb [.v 7, .c (.int .i64 1)] 0 <|
     (.lt none (.row 1 0 [true]) [.v 7, .c (.int .i64 1)] 1 <|
     (.call none 29 [.v 0, .v 1, .v 8, .v 9] 1 [] <|
     (.lt none .len [.v 10] 1 <|
     (.bind 3
      (.loop [.c (.rows 1 []), .c (.int .i64 0)]
       (.lt none (.bin .lss) [.v 13, .v 11] 1 <|
       (.ite (.v 14)
        (.bind 0
         (.lt none .inb [.v 10, .v 13] 0 <|
         (.lt none (.row 1 0 [false]) [.v 10, .v 13] 1 <|
         (.call none 34 [.v 2, .v 15] 1 [] <|
         (.lt none (.bin .geq) [.v 16, .c (.int .i64 0)] 1 <|
         (.ite (.v 17)
          (.call none 35 [.v 12, .v 16] 1 [] <|
          (.leaf (.yield 0) [.v 18] ()))
          (.leaf (.yield 0) [.v 12] ())))))) <|
        (.lt none (.bin .add) [.v 13, .c (.int .i64 1)] 1 <|
        (.leaf .cont [.v 15, .v 16] ())))
        (.leaf (.yield 3) [.v 12] ())))) <|
     (.lt none (.mk 1 1) [.v 12] 1 <|
     (.lt none (.app 1 24 false) [.v 4, .v 13] 1 <|
     (.lt none (.bin .add) [.v 5, .c (.int .i64 1)] 1 <|
     (.leaf .cont [.v 14, .v 15] ())))))))))))))
     (.leaf (.yield 1) [.v 4] ())))) <|
  (.leaf .ret [.v 2, .v 4] ()))))
/-- spec.l4Committed -/
def tm28 : Tm Unit :=
  (.lt none .len [.v 1] 1 <|
  (.bind 1
   (.loop [.c (.rows 1 []), .c (.int .i64 0)]
    (.lt none (.bin .lss) [.v 4, .v 2] 1 <|
    (.ite (.v 5)
     (.lt none .inb [.v 1, .v 4] 0 <|
     (.lt none (.row 1 0 [false]) [.v 1, .v 4] 1 <|
     (.lt none .len [.v 6] 1 <|
     (.bind 3
      (.loop [.v 3, .c (.int .i64 0)]
       (.lt none (.bin .lss) [.v 9, .v 7] 1 <|
       (.ite (.v 10)
        (.bind 0
         (.lt none .inb [.v 6, .v 9] 0 <|
         (.lt none (.row 10 0 [true, true, true, true, true, true, true, true, true, false]) [.v 6, .v 9] 10 <|
         (.lt none (.bin .eql) [.v 13, .c (.int .i64 3)] 1 <|
         (.ite (.v 21)
          (.lt none (.bin .add) [.v 9, .c (.int .i64 1)] 1 <|
          (.lt none (.mk 1 2) [.v 4, .v 22] 1 <|
          (.lt none (.mk 1 1) [.v 23] 1 <|
          (.lt none (.app 1 24 false) [.v 8, .v 24] 1 <|
          (.leaf (.yield 0) [.v 25] ())))))
          (.leaf (.yield 0) [.v 8] ()))))) <|
        (.lt none (.bin .add) [.v 9, .c (.int .i64 1)] 1 <|
        (.leaf .cont [.v 11, .v 12] ())))
        (.leaf (.yield 3) [.v 8] ())))) <|
     (.lt none (.bin .add) [.v 4, .c (.int .i64 1)] 1 <|
     (.leaf .cont [.v 8, .v 9] ()))))))
     (.leaf (.yield 1) [.v 3] ())))) <|
  (.leaf .ret [.v 3] ())))
/-- spec.l6Deps -/
def tm29 : Tm Unit :=
  (.call none 30 [.v 0, .v 1, .v 2, .v 3] 10 [] <|
  (.lt none .len [.v 13] 1 <|
  (.bind 1
   (.loop [.c (.rows 1 []), .c (.int .i64 0)]
    (.lt none (.bin .lss) [.v 16, .v 14] 1 <|
    (.ite (.v 17)
     (.lt none .inb [.v 13, .v 16] 0 <|
     (.lt none (.row 1 0 [true]) [.v 13, .v 16] 1 <|
     (.bind 3
      (.loop [.v 15, .c (.int .i64 1)]
       (.lt none (.bin .leq) [.v 20, .v 18] 1 <|
       (.ite (.v 21)
        (.bind 0
         (.lt none (.bin .neq) [.v 16, .v 2] 1 <|
         (.lt (some (.v 22, false)) .id [.v 20] 1 <|
         (.lt (some (.v 22, false)) .id [.v 3] 1 <|
         (.lt (some (.v 22, false)) (.bin .neq) [.v 23, .v 24] 1 <|
         (.lt none .pick [.v 22, .c (.bool true), .v 25] 1 <|
         (.ite (.v 26)
          (.lt none (.mk 1 2) [.v 16, .v 20] 1 <|
          (.lt none (.mk 1 1) [.v 27] 1 <|
          (.lt none (.app 1 24 false) [.v 19, .v 28] 1 <|
          (.leaf (.yield 0) [.v 29, .c .undef, .c .undef, .c .undef] ()))))
          (.leaf (.yield 0) [.v 19, .c .undef, .c .undef, .c .undef] ()))))))) <|
        (.lt none (.bin .add) [.v 20, .c (.int .i64 1)] 1 <|
        (.leaf .cont [.v 22, .v 26] ())))
        (.leaf (.yield 3) [.v 19] ())))) <|
     (.lt none (.bin .add) [.v 16, .c (.int .i64 1)] 1 <|
     (.leaf .cont [.v 19, .v 20] ())))))
     (.leaf (.yield 1) [.v 15] ())))) <|
  (.leaf .ret [.v 15] ()))))
/-- spec.l4At -/
def tm30 : Tm Unit :=
  (.lt none .inb [.v 1, .v 2] 0 <|
  (.lt none (.row 1 0 [false]) [.v 1, .v 2] 1 <|
  (.lt none .len [.v 4] 1 <|
  (.lt none (.bin .gtr) [.v 3, .v 5] 1 <|
  (.ite (.v 6)
   (.call none 19 [.v 0] 2 [] <|
   (.leaf .ret [.c (.int .i64 0), .c (.int .i64 0), .c (.int .i64 0), .c (.int .i64 0), .c (.int .i64 0), .c (.int .i64 0), .c (.int .i64 0), .c (.int .i64 0), .v 7, .v 8] ()))
   (.lt none .inb [.v 1, .v 2] 0 <|
   (.lt none (.row 1 0 [false]) [.v 1, .v 2] 1 <|
   (.lt none (.bin .sub) [.v 3, .c (.int .i64 1)] 1 <|
   (.lt none .inb [.v 7, .v 8] 0 <|
   (.lt none (.row 10 0 [true, true, true, true, true, true, true, true, true, false]) [.v 7, .v 8] 10 <|
   (.call none 31 [.v 9, .v 10, .v 11, .v 12, .v 13, .v 14, .v 15, .v 16, .v 17, .v 18] 10 [] <|
   (.leaf .ret [.v 19, .v 20, .v 21, .v 22, .v 23, .v 24, .v 25, .v 26, .v 27, .v 28] ()))))))))))))
/-- spec.l4OwnRow -/
def tm31 : Tm Unit :=
  (.call none 32 [.v 8, .v 9] 2 [] <|
  (.leaf .ret [.v 0, .v 1, .v 2, .v 3, .v 4, .v 5, .v 6, .v 7, .v 10, .v 11] ()))
/-- spec.l4OwnAttr -/
def tm32 : Tm Unit :=
  (.call none 33 [.v 1] 1 [] <|
  (.leaf .ret [.v 0, .v 2] ()))
/-- spec.l1Own -/
def tm33 : Tm Unit :=
  (.lt none (.mk 1 0) [] 1 <|
  (.lt none (.app 1 8 true) [.v 1, .v 0] 1 <|
  (.leaf .ret [.v 2] ())))
/-- spec.l6Find -/
def tm34 : Tm Unit :=
  (.lt none .len [.v 0] 1 <|
  (.bind 1
   (.loop [.c (.int .i64 0)]
    (.lt none (.bin .lss) [.v 3, .v 2] 1 <|
    (.ite (.v 4)
     (.lt none .inb [.v 0, .v 3] 0 <|
     (.lt none (.row 1 0 [false]) [.v 0, .v 3] 1 <|
     (.call none 21 [.v 1, .v 5] 1 [] <|
     (.ite (.v 6)
      (.leaf .ret [.v 3] ())
      (.lt none (.bin .add) [.v 3, .c (.int .i64 1)] 1 <|
      (.leaf .cont [.v 7] ()))))))
     (.leaf (.yield 1) [] ())))) <|
  (.leaf .ret [.c (.int .i64 (-1))] ())))
/-- spec.l1Put -/
def tm35 : Tm Unit :=
  (.bind 1
   (.loop [.c (.int .i64 0)]
    (.lt none .len [.v 0] 1 <|
    (.lt none (.bin .lss) [.v 2, .v 3] 1 <|
    (.lt (some (.v 4, true)) .id [.v 2] 1 <|
    (.lt (some (.v 4, true)) .inb [.v 0, .v 5] 0 <|
    (.lt (some (.v 4, true)) (.row 1 0 [true]) [.v 0, .v 5] 1 <|
    (.lt (some (.v 4, true)) .id [.v 1] 1 <|
    (.lt (some (.v 4, true)) (.bin .lss) [.v 6, .v 7] 1 <|
    (.lt none .pick [.v 4, .v 8, .c (.bool false)] 1 <|
    (.ite (.v 9)
     (.lt none (.bin .add) [.v 2, .c (.int .i64 1)] 1 <|
     (.leaf .cont [.v 10] ()))
     (.leaf (.yield 1) [.v 2] ()))))))))))) <|
  (.lt none .len [.v 0] 1 <|
  (.lt none (.bin .lss) [.v 2, .v 3] 1 <|
  (.lt (some (.v 4, true)) .id [.v 2] 1 <|
  (.lt (some (.v 4, true)) .inb [.v 0, .v 5] 0 <|
  (.lt (some (.v 4, true)) (.row 1 0 [true]) [.v 0, .v 5] 1 <|
  (.lt (some (.v 4, true)) .id [.v 1] 1 <|
  (.lt (some (.v 4, true)) (.bin .eql) [.v 6, .v 7] 1 <|
  (.lt none .pick [.v 4, .v 8, .c (.bool false)] 1 <|
  (.ite (.v 9)
   (.leaf .ret [.v 0] ())
   (.lt none (.mk 1 0) [] 1 <|
   (.lt none (.sub 1 false) [.v 0, .c (.int .i64 0), .v 2] 1 <|
   (.lt none (.app 1 8 true) [.v 10, .v 11] 1 <|
   (.lt none (.mk 1 1) [.v 1] 1 <|
   (.lt none (.app 1 8 true) [.v 12, .v 13] 1 <|
   (.lt none .len [.v 0] 1 <|
   (.lt none (.sub 1 false) [.v 0, .v 2, .v 15] 1 <|
   (.lt none (.app 1 8 true) [.v 14, .v 16] 1 <|
   (.leaf .ret [.v 17] ())))))))))))))))))))
/-- impl.GraphOf -/
def tm36 : Tm Unit :=
  (.call none 37 [.v 0, .v 1] 1 [] <|
  (.lt none .not [.v 2] 1 <|
  (.ite (.v 3)
   (.leaf .ret [.c (.rows 1 []), .c (.rows 1 []), .c (.bool false)] ())
   (.call none 56 [.v 0, .v 1] 2 [] <|
   (.lt none .len [.v 4] 1 <|
   (.lt none (.bin .gtr) [.v 6, .c (.int .i64 40)] 1 <|
   (.ite (.v 7)
    (.leaf .ret [.c (.rows 1 []), .c (.rows 1 []), .c (.bool false)] ())
    (.leaf .ret [.v 4, .v 5, .c (.bool true)] ()))))))))
/-- impl.GoodTable -/
def tm37 : Tm Unit :=
  (.call none 38 [.v 0] 1 [] <|
  (.lt (some (.v 2, true)) .len [.v 1] 1 <|
  (.lt (some (.v 2, true)) .id [.v 0] 1 <|
  (.lt (some (.v 2, true)) (.bin .eql) [.v 3, .v 4] 1 <|
  (.lt none .pick [.v 2, .v 5, .c (.bool false)] 1 <|
  (.call (some (.v 6, true)) 39 [.v 1, .v 0, .v 1] 1 [] <|
  (.lt (some (.v 6, true)) .not [.v 7] 1 <|
  (.lt none .pick [.v 6, .v 8, .c (.bool false)] 1 <|
  (.leaf .ret [.v 9] ())))))))))
/-- impl.IsGroup -/
def tm38 : Tm Unit :=
  (.lt none (.bin .eql) [.v 0, .c (.int .i64 3)] 1 <|
  (.lt (some (.v 1, false)) .id [.v 0] 1 <|
  (.lt (some (.v 1, false)) (.bin .eql) [.v 2, .c (.int .i64 5)] 1 <|
  (.lt none .pick [.v 1, .c (.bool true), .v 3] 1 <|
  (.leaf .ret [.v 4] ())))))
/-- slices.ContainsFunc[[][]impl.Row,[]impl.Row]@impl.GoodTable$1 -/
def tm39 : Tm Unit :=
  (.call none 40 [.v 0, .v 1, .v 2] 1 [] <|
  (.lt none (.bin .geq) [.v 3, .c (.int .i64 0)] 1 <|
  (.leaf .ret [.v 4] ())))
/-- slices.IndexFunc[[][]impl.Row,[]impl.Row]@impl.GoodTable$1 -/
def tm40 : Tm Unit :=
  (.lt none .len [.v 0] 1 <|
  (.bind 1
   (.loop [.c (.int .i64 0)]
    (.lt none (.bin .lss) [.v 4, .v 3] 1 <|
    (.ite (.v 5)
     (.lt none .inb [.v 0, .v 4] 0 <|
     (.lt none (.row 1 0 [false]) [.v 0, .v 4] 1 <|
     (.call none 41 [.v 6, .v 1, .v 2] 1 [] <|
     (.ite (.v 7)
      (.leaf .ret [.v 4] ())
      (.lt none (.bin .add) [.v 4, .c (.int .i64 1)] 1 <|
      (.leaf .cont [.v 8] ()))))))
     (.leaf (.yield 1) [] ())))) <|
  (.leaf .ret [.c (.int .i64 (-1))] ())))
/-- impl.GoodTable$1 -/
def tm41 : Tm Unit :=
  (.lt none .len [.v 0] 1 <|
  (.lt none (.bin .gtr) [.v 3, .c (.int .i64 6)] 1 <|
  (.call (some (.v 4, false)) 42 [.v 0, .v 1, .v 2] 1 [] <|
  (.lt none .pick [.v 4, .c (.bool true), .v 5] 1 <|
  (.leaf .ret [.v 6] ())))))
/-- slices.ContainsFunc[[]impl.Row,impl.Row]@impl.GoodTable$1$1 -/
def tm42 : Tm Unit :=
  (.call none 43 [.v 0, .v 1, .v 2] 1 [] <|
  (.lt none (.bin .geq) [.v 3, .c (.int .i64 0)] 1 <|
  (.leaf .ret [.v 4] ())))
/-- slices.IndexFunc[[]impl.Row,impl.Row]@impl.GoodTable$1$1 -/
def tm43 : Tm Unit :=
  (.lt none .len [.v 0] 1 <|
  (.bind 1
   (.loop [.c (.int .i64 0)]
    (.lt none (.bin .lss) [.v 4, .v 3] 1 <|
    (.ite (.v 5)
     (.lt none .inb [.v 0, .v 4] 0 <|
     (.lt none (.row 10 0 [true, true, true, true, true, true, true, true, true, false]) [.v 0, .v 4] 10 <|
     (.call none 44 [.v 6, .v 7, .v 8, .v 9, .v 10, .v 11, .v 12, .v 13, .v 14, .v 15, .v 1, .v 2] 1 [] <|
     (.ite (.v 16)
      (.leaf .ret [.v 4] ())
      (.lt none (.bin .add) [.v 4, .c (.int .i64 1)] 1 <|
      (.leaf .cont [.v 17] ()))))))
     (.leaf (.yield 1) [] ())))) <|
  (.leaf .ret [.c (.int .i64 (-1))] ())))
/-- impl.GoodTable$1$1 -/
def tm44 : Tm Unit :=
  (.call none 45 [.v 10, .v 0, .v 1, .v 2, .v 3, .v 4, .v 5, .v 6, .v 7, .v 8, .v 9] 1 [] <|
  (.lt none .not [.v 12] 1 <|
  (.leaf .ret [.v 13] ())))
/-- impl.goodRow -/
def tm45 : Tm Unit :=
  (.call none 46 [.v 1, .c (.int .i64 0), .c (.int .i64 9999)] 1 [] <|
  (.lt none .not [.v 11] 1 <|
  (.lt (some (.v 12, false)) .id [.v 2] 1 <|
  (.lt (some (.v 12, false)) .id [.v 1] 1 <|
  (.call (some (.v 12, false)) 46 [.v 13, .c (.int .i64 0), .v 14] 1 [] <|
  (.lt (some (.v 12, false)) .not [.v 15] 1 <|
  (.lt none .pick [.v 12, .c (.bool true), .v 16] 1 <|
  (.lt (some (.v 17, false)) .id [.v 3] 1 <|
  (.call (some (.v 17, false)) 46 [.v 18, .c (.int .i64 0), .c (.int .i64 3)] 1 [] <|
  (.lt (some (.v 17, false)) .not [.v 19] 1 <|
  (.lt none .pick [.v 17, .c (.bool true), .v 20] 1 <|
  (.call (some (.v 21, false)) 47 [.v 4, .v 5, .v 6, .v 7, .v 8] 1 [] <|
  (.lt (some (.v 21, false)) .not [.v 22] 1 <|
  (.lt none .pick [.v 21, .c (.bool true), .v 23] 1 <|
  (.lt (some (.v 24, false)) .id [.v 0] 1 <|
  (.call (some (.v 24, false)) 49 [.v 25, .v 9, .v 10] 1 [] <|
  (.lt (some (.v 24, false)) .not [.v 26] 1 <|
  (.lt none .pick [.v 24, .c (.bool true), .v 27] 1 <|
  (.ite (.v 28)
   (.leaf .ret [.c (.bool false)] ())
   (.lt none (.bin .neq) [.v 3, .c (.int .i64 0)] 1 <|
   (.lt (some (.v 29, false)) .id [.v 2] 1 <|
   (.lt (some (.v 29, false)) (.bin .eql) [.v 30, .c (.int .i64 0)] 1 <|
   (.lt (some (.v 29, false)) .id [.v 31] 1 <|
   (.lt (some (.v 32, true)) (.eqs [0, 0, 0, 0, 0]) [.v 4, .v 5, .v 6, .v 7, .v 8, .c (.int .i64 0), .c (.int .i64 0), .c (.int .i64 0), .c (.int .i64 0), .c (.int .i64 0)] 1 <|
   (.lt (some (.v 29, false)) .pick [.v 32, .v 33, .c (.bool false)] 1 <|
   (.lt (some (.v 29, false)) .id [.v 34] 1 <|
   (.lt (some (.v 35, true)) .id [.v 0] 1 <|
   (.call (some (.v 35, true)) 53 [.v 36] 2 [] <|
   (.call (some (.v 35, true)) 54 [.v 9, .v 10, .v 37, .v 38] 1 [] <|
   (.lt (some (.v 29, false)) .pick [.v 35, .v 39, .c (.bool false)] 1 <|
   (.lt none .pick [.v 29, .c (.bool true), .v 40] 1 <|
   (.leaf .ret [.v 41] ()))))))))))))))))))))))))))))))))
/-- impl.within -/
def tm46 : Tm Unit :=
  (.lt none (.bin .leq) [.v 1, .v 0] 1 <|
  (.lt (some (.v 3, true)) .id [.v 0] 1 <|
  (.lt (some (.v 3, true)) .id [.v 2] 1 <|
  (.lt (some (.v 3, true)) (.bin .leq) [.v 4, .v 5] 1 <|
  (.lt none .pick [.v 3, .v 6, .c (.bool false)] 1 <|
  (.leaf .ret [.v 7] ()))))))
/-- impl.GoodCmd -/
def tm47 : Tm Unit :=
  (.lt none (.bin .eql) [.v 0, .c (.int .i64 0)] 1 <|
  (.ite (.v 5)
   (.lt none (.eqs [0, 0, 0, 0, 0]) [.v 0, .v 1, .v 2, .v 3, .v 4, .c (.int .i64 0), .c (.int .i64 0), .c (.int .i64 0), .c (.int .i64 0), .c (.int .i64 0)] 1 <|
   (.leaf .ret [.v 6] ()))
   (.lt none (.bin .eql) [.v 0, .c (.int .i64 1)] 1 <|
   (.ite (.v 6)
    (.call none 46 [.v 1, .c (.int .i64 1), .c (.int .i64 999)] 1 [] <|
    (.lt (some (.v 7, true)) .id [.v 2] 1 <|
    (.call (some (.v 7, true)) 48 [.v 8] 1 [] <|
    (.lt none .pick [.v 7, .v 9, .c (.bool false)] 1 <|
    (.lt (some (.v 10, true)) .id [.v 3] 1 <|
    (.call (some (.v 10, true)) 48 [.v 11] 1 [] <|
    (.lt none .pick [.v 10, .v 12, .c (.bool false)] 1 <|
    (.lt (some (.v 13, true)) .id [.v 2] 1 <|
    (.lt (some (.v 13, true)) .id [.v 3] 1 <|
    (.lt (some (.v 13, true)) (.bin .neq) [.v 14, .v 15] 1 <|
    (.lt none .pick [.v 13, .v 16, .c (.bool false)] 1 <|
    (.lt (some (.v 17, true)) .id [.v 4] 1 <|
    (.call (some (.v 17, true)) 46 [.v 18, .c (.int .i64 1), .c (.int .i64 1000)] 1 [] <|
    (.lt none .pick [.v 17, .v 19, .c (.bool false)] 1 <|
    (.leaf .ret [.v 20] ())))))))))))))))
    (.lt none (.bin .eql) [.v 0, .c (.int .i64 2)] 1 <|
    (.lt (some (.v 7, true)) .id [.v 1] 1 <|
    (.call (some (.v 7, true)) 46 [.v 8, .c (.int .i64 1), .c (.int .i64 999)] 1 [] <|
    (.lt none .pick [.v 7, .v 9, .c (.bool false)] 1 <|
    (.lt (some (.v 10, true)) .id [.v 2] 1 <|
    (.call (some (.v 10, true)) 48 [.v 11] 1 [] <|
    (.lt none .pick [.v 10, .v 12, .c (.bool false)] 1 <|
    (.lt (some (.v 13, true)) .id [.v 3] 1 <|
    (.lt (some (.v 13, true)) (.bin .eql) [.v 14, .c (.int .i64 0)] 1 <|
    (.lt none .pick [.v 13, .v 15, .c (.bool false)] 1 <|
    (.lt (some (.v 16, true)) .id [.v 4] 1 <|
    (.lt (some (.v 16, true)) (.bin .eql) [.v 17, .c (.int .i64 0)] 1 <|
    (.lt none .pick [.v 16, .v 18, .c (.bool false)] 1 <|
    (.leaf .ret [.v 19] ()))))))))))))))))))
/-- impl.isAccount -/
def tm48 : Tm Unit :=
  (.call none 46 [.v 0, .c (.int .i64 0), .c (.int .i64 3)] 1 [] <|
  (.leaf .ret [.v 1] ()))
/-- impl.GoodAttr -/
def tm49 : Tm Unit :=
  (.call none 38 [.v 0] 1 [] <|
  (.lt (some (.v 3, true)) .id [.v 1] 1 <|
  (.call (some (.v 3, true)) 46 [.v 4, .c (.int .i64 0), .c (.int .i64 999)] 1 [] <|
  (.lt none .pick [.v 3, .v 5, .c (.bool false)] 1 <|
  (.lt (some (.v 6, true)) .len [.v 2] 1 <|
  (.lt (some (.v 6, true)) .id [.v 0] 1 <|
  (.lt (some (.v 6, true)) (.bin .eql) [.v 7, .v 8] 1 <|
  (.lt none .pick [.v 6, .v 9, .c (.bool false)] 1 <|
  (.call (some (.v 10, true)) 50 [.v 2] 1 [] <|
  (.lt (some (.v 10, true)) .not [.v 11] 1 <|
  (.lt none .pick [.v 10, .v 12, .c (.bool false)] 1 <|
  (.leaf .ret [.v 13] ()))))))))))))
/-- slices.ContainsFunc[[]int,int]@impl.GoodAttr$1 -/
def tm50 : Tm Unit :=
  (.call none 51 [.v 0] 1 [] <|
  (.lt none (.bin .geq) [.v 1, .c (.int .i64 0)] 1 <|
  (.leaf .ret [.v 2] ())))
/-- slices.IndexFunc[[]int,int]@impl.GoodAttr$1 -/
def tm51 : Tm Unit :=
  (.lt none .len [.v 0] 1 <|
  (.bind 1
   (.loop [.c (.int .i64 0)]
    (.lt none (.bin .lss) [.v 2, .v 1] 1 <|
    (.ite (.v 3)
     (.lt none .inb [.v 0, .v 2] 0 <|
     (.lt none (.row 1 0 [true]) [.v 0, .v 2] 1 <|
     (.call none 52 [.v 4] 1 [] <|
     (.ite (.v 5)
      (.leaf .ret [.v 2] ())
      (.lt none (.bin .add) [.v 2, .c (.int .i64 1)] 1 <|
      (.leaf .cont [.v 6] ()))))))
     (.leaf (.yield 1) [] ())))) <|
  (.leaf .ret [.c (.int .i64 (-1))] ())))
/-- impl.GoodAttr$1 -/
def tm52 : Tm Unit :=
  (.call none 46 [.v 0, .c (.int .i64 0), .c (.int .i64 6)] 1 [] <|
  (.lt none .not [.v 1] 1 <|
  (.leaf .ret [.v 2] ())))
/-- impl.noneAttr -/
def tm53 : Tm Unit :=
  (.lt none (.make 8 [(.int .i64 0)]) [.v 0] 1 <|
  (.leaf .ret [.c (.int .i64 0), .v 1] ()))
/-- impl.SameAttr -/
def tm54 : Tm Unit :=
  (.lt none (.bin .eql) [.v 0, .v 2] 1 <|
  (.call (some (.v 4, true)) 55 [.v 1, .v 3] 1 [] <|
  (.lt none .pick [.v 4, .v 5, .c (.bool false)] 1 <|
  (.leaf .ret [.v 6] ()))))
/-- slices.Equal[[]int,int] -/
def tm55 : Tm Unit :=
  (.lt none .len [.v 0] 1 <|
  (.lt none .len [.v 1] 1 <|
  (.lt none (.bin .neq) [.v 2, .v 3] 1 <|
  (.ite (.v 4)
   (.leaf .ret [.c (.bool false)] ())
   (.lt none .len [.v 0] 1 <|
   (.bind 1
    (.loop [.c (.int .i64 0)]
     (.lt none (.bin .lss) [.v 6, .v 5] 1 <|
     (.ite (.v 7)
      (.lt none .inb [.v 0, .v 6] 0 <|
      (.lt none (.row 1 0 [true]) [.v 0, .v 6] 1 <|
      (.lt none .inb [.v 1, .v 6] 0 <|
      (.lt none (.row 1 0 [true]) [.v 1, .v 6] 1 <|
      (.lt none (.bin .neq) [.v 8, .v 9] 1 <|
      (.ite (.v 10)
       (.leaf .ret [.c (.bool false)] ())
       (.lt none (.bin .add) [.v 6, .c (.int .i64 1)] 1 <|
       (.leaf .cont [.v 11] ()))))))))
      (.leaf (.yield 1) [] ())))) <|
   (.leaf .ret [.c (.bool true)] ())))))))
/-- (impl.Table).graph -/
def tm56 : Tm Unit :=
  (.call none 57 [.v 0, .v 1] 1 [] <|
  (.lt none (.mk 1 0) [] 1 <|
  (.lt none .len [.v 2] 1 <|
  (.bind 1
   (.loop [.v 3, .c (.int .i64 0)]
    (.lt none (.bin .lss) [.v 6, .v 4] 1 <|
    (.ite (.v 7)
     (.lt none .inb [.v 2, .v 6] 0 <|
     (.lt none (.row 1 0 [false]) [.v 2, .v 6] 1 <|
     (.lt none .inb [.v 8, .c (.int .i64 0)] 0 <|
     (.lt none (.row 1 0 [true]) [.v 8, .c (.int .i64 0)] 1 <|
     (.lt none .inb [.v 8, .c (.int .i64 1)] 0 <|
     (.lt none (.row 1 0 [true]) [.v 8, .c (.int .i64 1)] 1 <|
     (.call none 60 [.v 0, .v 1, .v 9, .v 10] 10 [] <|
     (.lt none (.mk 1 0) [] 1 <|
     (.lt none .len [.v 2] 1 <|
     (.bind 3
      (.loop [.v 21, .c (.int .i64 0)]
       (.lt none (.bin .lss) [.v 24, .v 22] 1 <|
       (.ite (.v 25)
        (.bind 0
         (.lt none .inb [.v 2, .v 24] 0 <|
         (.lt none (.row 1 0 [false]) [.v 2, .v 24] 1 <|
         (.call none 55 [.v 8, .v 26] 1 [] <|
         (.lt none .not [.v 27] 1 <|
         (.lt (some (.v 28, true)) .inb [.v 26, .c (.int .i64 1)] 0 <|
         (.lt (some (.v 28, true)) (.row 1 0 [true]) [.v 26, .c (.int .i64 1)] 1 <|
         (.lt (some (.v 28, true)) .inb [.v 26, .c (.int .i64 0)] 0 <|
         (.lt (some (.v 28, true)) (.row 1 0 [true]) [.v 26, .c (.int .i64 0)] 1 <|
         (.lt (some (.v 28, true)) .inb [.v 20, .v 30] 0 <|
         (.lt (some (.v 28, true)) (.row 1 0 [true]) [.v 20, .v 30] 1 <|
         (.lt (some (.v 28, true)) (.bin .leq) [.v 29, .v 31] 1 <|
         (.lt none .pick [.v 28, .v 32, .c (.bool false)] 1 <|
         (.ite (.v 33)
          (.lt none (.mk 1 1) [.v 24] 1 <|
          (.lt none (.app 1 8 true) [.v 23, .v 34] 1 <|
          (.leaf (.yield 0) [.v 35, .c .undef, .c .undef, .c .undef, .c .undef] ())))
          (.leaf (.yield 0) [.v 23, .c .undef, .c .undef, .c .undef, .c .undef] ())))))))))))))) <|
        (.lt none (.bin .add) [.v 24, .c (.int .i64 1)] 1 <|
        (.leaf .cont [.v 26, .v 31] ())))
        (.leaf (.yield 3) [.v 23] ())))) <|
     (.lt none (.mk 1 1) [.v 23] 1 <|
     (.lt none (.app 1 24 false) [.v 5, .v 24] 1 <|
     (.lt none (.bin .add) [.v 6, .c (.int .i64 1)] 1 <|
     (.leaf .cont [.v 25, .v 26] ()))))))))))))))
     (.leaf (.yield 1) [.v 5] ())))) <|
  (.leaf .ret [.v 2, .v 5] ())))))
/-- (impl.Table).committed -/
def tm57 : Tm Unit :=
  (.lt none (.mk 1 0) [] 1 <|
  (.call none 58 [.v 0, .v 1, .v 2] 1 [] <|
  (.leaf .ret [.v 3] ())))
/-- (impl.Table).each@(impl.Table).committed$1 -/
def tm58 : Tm Unit :=
  (.lt none .len [.v 1] 1 <|
  (.bind 1
   (.loop [.c (.int .i64 0), .v 2]
    (.lt none (.bin .lss) [.v 4, .v 3] 1 <|
    (.ite (.v 6)
     (.lt none .inb [.v 1, .v 4] 0 <|
     (.lt none (.row 1 0 [false]) [.v 1, .v 4] 1 <|
     (.lt none .len [.v 7] 1 <|
     (.bind 3
      (.loop [.c (.int .i64 0), .v 5]
       (.lt none (.bin .lss) [.v 9, .v 8] 1 <|
       (.ite (.v 11)
        (.lt none .inb [.v 7, .v 9] 0 <|
        (.lt none (.row 10 0 [true, true, true, true, true, true, true, true, true, false]) [.v 7, .v 9] 10 <|
        (.lt none (.bin .add) [.v 9, .c (.int .i64 1)] 1 <|
        (.call none 59 [.v 4, .v 22, .v 12, .v 13, .v 14, .v 15, .v 16, .v 17, .v 18, .v 19, .v 20, .v 21, .v 10] 1 [] <|
        (.lt none (.bin .add) [.v 9, .c (.int .i64 1)] 1 <|
        (.leaf .cont [.v 24, .v 23] ()))))))
        (.leaf (.yield 3) [.v 10] ())))) <|
     (.lt none (.bin .add) [.v 4, .c (.int .i64 1)] 1 <|
     (.leaf .cont [.v 10, .v 9] ()))))))
     (.leaf (.yield 1) [.v 5] ())))) <|
  (.leaf .ret [.v 4] ())))
/-- (impl.Table).committed$1 -/
def tm59 : Tm Unit :=
  (.lt none (.bin .eql) [.v 4, .c (.int .i64 3)] 1 <|
  (.ite (.v 13)
   (.lt none (.mk 1 2) [.v 0, .v 1] 1 <|
   (.lt none (.mk 1 1) [.v 14] 1 <|
   (.lt none (.app 1 24 false) [.v 12, .v 15] 1 <|
   (.leaf .ret [.v 16] ()))))
   (.leaf .ret [.v 12] ())))
/-- (impl.Table).row -/
def tm60 : Tm Unit :=
  (.lt none .inb [.v 1, .v 2] 0 <|
  (.lt none (.row 1 0 [false]) [.v 1, .v 2] 1 <|
  (.lt none .len [.v 4] 1 <|
  (.lt none (.bin .leq) [.v 3, .v 5] 1 <|
  (.ite (.v 6)
   (.lt none .inb [.v 1, .v 2] 0 <|
   (.lt none (.row 1 0 [false]) [.v 1, .v 2] 1 <|
   (.lt none (.bin .sub) [.v 3, .c (.int .i64 1)] 1 <|
   (.lt none .inb [.v 7, .v 8] 0 <|
   (.lt none (.row 10 0 [true, true, true, true, true, true, true, true, true, false]) [.v 7, .v 8] 10 <|
   (.call none 61 [.v 9, .v 10, .v 11, .v 12, .v 13, .v 14, .v 15, .v 16, .v 17, .v 18] 10 [] <|
   (.leaf .ret [.v 19, .v 20, .v 21, .v 22, .v 23, .v 24, .v 25, .v 26, .v 27, .v 28] ())))))))
   (.call none 53 [.v 0] 2 [] <|
   (.leaf .ret [.c (.int .i64 0), .c (.int .i64 0), .c (.int .i64 0), .c (.int .i64 0), .c (.int .i64 0), .c (.int .i64 0), .c (.int .i64 0), .c (.int .i64 0), .v 7, .v 8] ())))))))
/-- (impl.Row).copied -/
def tm61 : Tm Unit :=
  (.call none 62 [.v 8, .v 9] 2 [] <|
  (.leaf .ret [.v 0, .v 1, .v 2, .v 3, .v 4, .v 5, .v 6, .v 7, .v 10, .v 11] ()))
/-- (impl.Attr).copied -/
def tm62 : Tm Unit :=
  (.call none 63 [.v 1] 1 [] <|
  (.leaf .ret [.v 0, .v 2] ()))
/-- slices.Clone[[]int,int] -/
def tm63 : Tm Unit :=
  (.lt none .ne [.v 0] 0 <|
  (.lt none .emp [.v 0] 1 <|
  (.ite (.v 1)
   (.leaf .ret [.c (.rows 1 [])] ())
   (.lt none (.mk 1 0) [] 1 <|
   (.lt none (.app 1 8 true) [.v 2, .v 0] 1 <|
   (.leaf .ret [.v 3] ()))))))
/-- laws.eqIntSS -/
def tm64 : Tm Unit :=
  (.lt none .len [.v 0] 1 <|
  (.lt none .len [.v 1] 1 <|
  (.lt none (.bin .neq) [.v 2, .v 3] 1 <|
  (.ite (.v 4)
   (.leaf .ret [.c (.bool false)] ())
   (.bind 1
    (.loop [.c (.int .i64 0)]
     (.lt none .len [.v 0] 1 <|
     (.lt none (.bin .lss) [.v 5, .v 6] 1 <|
     (.ite (.v 7)
      (.lt none .inb [.v 0, .v 5] 0 <|
      (.lt none (.row 1 0 [false]) [.v 0, .v 5] 1 <|
      (.lt none .inb [.v 1, .v 5] 0 <|
      (.lt none (.row 1 0 [false]) [.v 1, .v 5] 1 <|
      (.call none 65 [.v 8, .v 9] 1 [] <|
      (.lt none .not [.v 10] 1 <|
      (.ite (.v 11)
       (.leaf .ret [.c (.bool false)] ())
       (.lt none (.bin .add) [.v 5, .c (.int .i64 1)] 1 <|
       (.leaf .cont [.v 12] ())))))))))
      (.leaf (.yield 1) [] ()))))) <|
   (.leaf .ret [.c (.bool true)] ()))))))
/-- laws.eqIntS -/
def tm65 : Tm Unit :=
  (.lt none .len [.v 0] 1 <|
  (.lt none .len [.v 1] 1 <|
  (.lt none (.bin .neq) [.v 2, .v 3] 1 <|
  (.ite (.v 4)
   (.leaf .ret [.c (.bool false)] ())
   (.bind 1
    (.loop [.c (.int .i64 0)]
     (.lt none .len [.v 0] 1 <|
     (.lt none (.bin .lss) [.v 5, .v 6] 1 <|
     (.ite (.v 7)
      (.lt none .inb [.v 0, .v 5] 0 <|
      (.lt none (.row 1 0 [true]) [.v 0, .v 5] 1 <|
      (.lt none .inb [.v 1, .v 5] 0 <|
      (.lt none (.row 1 0 [true]) [.v 1, .v 5] 1 <|
      (.lt none (.bin .neq) [.v 8, .v 9] 1 <|
      (.ite (.v 10)
       (.leaf .ret [.c (.bool false)] ())
       (.lt none (.bin .add) [.v 5, .c (.int .i64 1)] 1 <|
       (.leaf .cont [.v 11] ()))))))))
      (.leaf (.yield 1) [] ()))))) <|
   (.leaf .ret [.c (.bool true)] ()))))))
/-- laws.eqTable -/
def tm66 : Tm Unit :=
  (.lt none (.bin .neq) [.v 0, .v 2] 1 <|
  (.ite (.v 4)
   (.leaf .ret [.c (.bool false)] ())
   (.call none 67 [.v 1, .v 3] 1 [] <|
   (.lt none .not [.v 5] 1 <|
   (.ite (.v 6)
    (.leaf .ret [.c (.bool false)] ())
    (.leaf .ret [.c (.bool true)] ()))))))
/-- laws.eqRowSS -/
def tm67 : Tm Unit :=
  (.lt none .len [.v 0] 1 <|
  (.lt none .len [.v 1] 1 <|
  (.lt none (.bin .neq) [.v 2, .v 3] 1 <|
  (.ite (.v 4)
   (.leaf .ret [.c (.bool false)] ())
   (.bind 1
    (.loop [.c (.int .i64 0)]
     (.lt none .len [.v 0] 1 <|
     (.lt none (.bin .lss) [.v 5, .v 6] 1 <|
     (.ite (.v 7)
      (.lt none .inb [.v 0, .v 5] 0 <|
      (.lt none (.row 1 0 [false]) [.v 0, .v 5] 1 <|
      (.lt none .inb [.v 1, .v 5] 0 <|
      (.lt none (.row 1 0 [false]) [.v 1, .v 5] 1 <|
      (.call none 68 [.v 8, .v 9] 1 [] <|
      (.lt none .not [.v 10] 1 <|
      (.ite (.v 11)
       (.leaf .ret [.c (.bool false)] ())
       (.lt none (.bin .add) [.v 5, .c (.int .i64 1)] 1 <|
       (.leaf .cont [.v 12] ())))))))))
      (.leaf (.yield 1) [] ()))))) <|
   (.leaf .ret [.c (.bool true)] ()))))))
/-- laws.eqRowS -/
def tm68 : Tm Unit :=
  (.lt none .len [.v 0] 1 <|
  (.lt none .len [.v 1] 1 <|
  (.lt none (.bin .neq) [.v 2, .v 3] 1 <|
  (.ite (.v 4)
   (.leaf .ret [.c (.bool false)] ())
   (.bind 1
    (.loop [.c (.int .i64 0)]
     (.lt none .len [.v 0] 1 <|
     (.lt none (.bin .lss) [.v 5, .v 6] 1 <|
     (.ite (.v 7)
      (.lt none .inb [.v 0, .v 5] 0 <|
      (.lt none (.row 10 0 [true, true, true, true, true, true, true, true, true, false]) [.v 0, .v 5] 10 <|
      (.lt none .inb [.v 1, .v 5] 0 <|
      (.lt none (.row 10 0 [true, true, true, true, true, true, true, true, true, false]) [.v 1, .v 5] 10 <|
      (.call none 69 [.v 8, .v 9, .v 10, .v 11, .v 12, .v 13, .v 14, .v 15, .v 16, .v 17, .v 18, .v 19, .v 20, .v 21, .v 22, .v 23, .v 24, .v 25, .v 26, .v 27] 1 [] <|
      (.lt none .not [.v 28] 1 <|
      (.ite (.v 29)
       (.leaf .ret [.c (.bool false)] ())
       (.lt none (.bin .add) [.v 5, .c (.int .i64 1)] 1 <|
       (.leaf .cont [.v 30] ())))))))))
      (.leaf (.yield 1) [] ()))))) <|
   (.leaf .ret [.c (.bool true)] ()))))))
/-- laws.eqRow -/
def tm69 : Tm Unit :=
  (.lt none (.bin .neq) [.v 0, .v 10] 1 <|
  (.ite (.v 20)
   (.leaf .ret [.c (.bool false)] ())
   (.lt none (.bin .neq) [.v 1, .v 11] 1 <|
   (.ite (.v 21)
    (.leaf .ret [.c (.bool false)] ())
    (.lt none (.bin .neq) [.v 2, .v 12] 1 <|
    (.ite (.v 22)
     (.leaf .ret [.c (.bool false)] ())
     (.call none 70 [.v 3, .v 4, .v 5, .v 6, .v 7, .v 13, .v 14, .v 15, .v 16, .v 17] 1 [] <|
     (.lt none .not [.v 23] 1 <|
     (.ite (.v 24)
      (.leaf .ret [.c (.bool false)] ())
      (.call none 71 [.v 8, .v 9, .v 18, .v 19] 1 [] <|
      (.lt none .not [.v 25] 1 <|
      (.ite (.v 26)
       (.leaf .ret [.c (.bool false)] ())
       (.leaf .ret [.c (.bool true)] ())))))))))))))
/-- laws.eqCmd -/
def tm70 : Tm Unit :=
  (.lt none (.bin .neq) [.v 0, .v 5] 1 <|
  (.ite (.v 10)
   (.leaf .ret [.c (.bool false)] ())
   (.lt none (.bin .neq) [.v 1, .v 6] 1 <|
   (.ite (.v 11)
    (.leaf .ret [.c (.bool false)] ())
    (.lt none (.bin .neq) [.v 2, .v 7] 1 <|
    (.ite (.v 12)
     (.leaf .ret [.c (.bool false)] ())
     (.lt none (.bin .neq) [.v 3, .v 8] 1 <|
     (.ite (.v 13)
      (.leaf .ret [.c (.bool false)] ())
      (.lt none (.bin .neq) [.v 4, .v 9] 1 <|
      (.ite (.v 14)
       (.leaf .ret [.c (.bool false)] ())
       (.leaf .ret [.c (.bool true)] ())))))))))))
/-- laws.eqAttr -/
def tm71 : Tm Unit :=
  (.lt none (.bin .neq) [.v 0, .v 2] 1 <|
  (.ite (.v 4)
   (.leaf .ret [.c (.bool false)] ())
   (.call none 65 [.v 1, .v 3] 1 [] <|
   (.lt none .not [.v 5] 1 <|
   (.ite (.v 6)
    (.leaf .ret [.c (.bool false)] ())
    (.leaf .ret [.c (.bool true)] ()))))))
/-- laws.markTable -/
def tm72 : Tm Unit :=
  (.call none 73 [.v 1, .v 2] 2 [] <|
  (.leaf .ret [.v 3, .v 4] ()))
/-- laws.markRowSS -/
def tm73 : Tm Unit :=
  (.bind 1
   (.loop [.v 0, .c .undef, .v 1, .c (.int .i64 0)]
    (.lt none .len [.v 2] 1 <|
    (.lt none (.bin .lss) [.v 5, .v 6] 1 <|
    (.ite (.v 7)
     (.lt none .inb [.v 2, .v 5] 0 <|
     (.lt none (.row 1 0 [false]) [.v 2, .v 5] 1 <|
     (.call none 74 [.v 8, .v 4] 2 [] <|
     (.lt none (.set 1 0 1) [.v 2, .v 5, .v 10] 1 <|
     (.lt none (.bin .add) [.v 5, .c (.int .i64 1)] 1 <|
     (.leaf .cont [.v 11, .c .undef, .v 9, .v 12] ()))))))
     (.leaf (.yield 1) [.v 2, .v 4] ()))))) <|
  (.leaf .ret [.v 3, .v 2] ()))
/-- laws.markRowS -/
def tm74 : Tm Unit :=
  (.bind 1
   (.loop [.v 0, .c .undef, .v 1, .c (.int .i64 0)]
    (.lt none .len [.v 2] 1 <|
    (.lt none (.bin .lss) [.v 5, .v 6] 1 <|
    (.ite (.v 7)
     (.lt none .inb [.v 2, .v 5] 0 <|
     (.lt none (.set 10 0 1) [.v 2, .v 5, .v 4] 1 <|
     (.lt none (.bin .add) [.v 4, .c (.int .i64 1)] 1 <|
     (.lt none .inb [.v 8, .v 5] 0 <|
     (.lt none (.set 10 1 1) [.v 8, .v 5, .v 9] 1 <|
     (.lt none (.bin .add) [.v 9, .c (.int .i64 1)] 1 <|
     (.lt none .inb [.v 10, .v 5] 0 <|
     (.lt none (.set 10 2 1) [.v 10, .v 5, .v 11] 1 <|
     (.lt none (.bin .add) [.v 11, .c (.int .i64 1)] 1 <|
     (.lt none .inb [.v 12, .v 5] 0 <|
     (.lt none (.set 10 3 1) [.v 12, .v 5, .v 13] 1 <|
     (.lt none (.bin .add) [.v 13, .c (.int .i64 1)] 1 <|
     (.lt none .inb [.v 14, .v 5] 0 <|
     (.lt none (.set 10 4 1) [.v 14, .v 5, .v 15] 1 <|
     (.lt none (.bin .add) [.v 15, .c (.int .i64 1)] 1 <|
     (.lt none .inb [.v 16, .v 5] 0 <|
     (.lt none (.set 10 5 1) [.v 16, .v 5, .v 17] 1 <|
     (.lt none (.bin .add) [.v 17, .c (.int .i64 1)] 1 <|
     (.lt none .inb [.v 18, .v 5] 0 <|
     (.lt none (.set 10 6 1) [.v 18, .v 5, .v 19] 1 <|
     (.lt none (.bin .add) [.v 19, .c (.int .i64 1)] 1 <|
     (.lt none .inb [.v 20, .v 5] 0 <|
     (.lt none (.set 10 7 1) [.v 20, .v 5, .v 21] 1 <|
     (.lt none (.bin .add) [.v 21, .c (.int .i64 1)] 1 <|
     (.lt none .inb [.v 22, .v 5] 0 <|
     (.lt none (.set 10 8 1) [.v 22, .v 5, .v 23] 1 <|
     (.lt none (.bin .add) [.v 23, .c (.int .i64 1)] 1 <|
     (.lt none .inb [.v 24, .v 5] 0 <|
     (.lt none (.row 10 9 [false]) [.v 24, .v 5] 1 <|
     (.call none 75 [.v 26, .v 25] 2 [] <|
     (.lt none (.set 10 9 1) [.v 24, .v 5, .v 28] 1 <|
     (.lt none (.bin .add) [.v 5, .c (.int .i64 1)] 1 <|
     (.leaf .cont [.v 29, .c .undef, .v 27, .v 30] ())))))))))))))))))))))))))))))))))
     (.leaf (.yield 1) [.v 2, .v 4] ()))))) <|
  (.leaf .ret [.v 3, .v 2] ()))
/-- laws.markIntS -/
def tm75 : Tm Unit :=
  (.bind 1
   (.loop [.v 0, .c .undef, .v 1, .c (.int .i64 0)]
    (.lt none .len [.v 2] 1 <|
    (.lt none (.bin .lss) [.v 5, .v 6] 1 <|
    (.ite (.v 7)
     (.lt none .inb [.v 2, .v 5] 0 <|
     (.lt none (.set 1 0 1) [.v 2, .v 5, .v 4] 1 <|
     (.lt none (.bin .add) [.v 4, .c (.int .i64 1)] 1 <|
     (.lt none (.bin .add) [.v 5, .c (.int .i64 1)] 1 <|
     (.leaf .cont [.v 8, .c .undef, .v 9, .v 10] ())))))
     (.leaf (.yield 1) [.v 2, .v 4] ()))))) <|
  (.leaf .ret [.v 3, .v 2] ()))
/-- laws.markIntSS -/
def tm76 : Tm Unit :=
  (.bind 1
   (.loop [.v 0, .c .undef, .v 1, .c (.int .i64 0)]
    (.lt none .len [.v 2] 1 <|
    (.lt none (.bin .lss) [.v 5, .v 6] 1 <|
    (.ite (.v 7)
     (.lt none .inb [.v 2, .v 5] 0 <|
     (.lt none (.row 1 0 [false]) [.v 2, .v 5] 1 <|
     (.call none 75 [.v 8, .v 4] 2 [] <|
     (.lt none (.set 1 0 1) [.v 2, .v 5, .v 10] 1 <|
     (.lt none (.bin .add) [.v 5, .c (.int .i64 1)] 1 <|
     (.leaf .cont [.v 11, .c .undef, .v 9, .v 12] ()))))))
     (.leaf (.yield 1) [.v 2, .v 4] ()))))) <|
  (.leaf .ret [.v 3, .v 2] ()))
/-- laws.heldIntSS -/
def tm77 : Tm Unit :=
  (.bind 1
   (.loop [.v 1, .c (.int .i64 0)]
    (.lt none .len [.v 0] 1 <|
    (.lt none (.bin .lss) [.v 3, .v 4] 1 <|
    (.ite (.v 5)
     (.lt none .inb [.v 0, .v 3] 0 <|
     (.lt none (.row 1 0 [false]) [.v 0, .v 3] 1 <|
     (.call none 78 [.v 6, .v 2] 1 [] <|
     (.lt none (.bin .lss) [.v 7, .c (.int .i64 0)] 1 <|
     (.ite (.v 8)
      (.leaf .ret [.c (.int .i64 (-1))] ())
      (.lt none (.bin .add) [.v 3, .c (.int .i64 1)] 1 <|
      (.leaf .cont [.v 7, .v 9] ())))))))
     (.leaf (.yield 1) [.v 2] ()))))) <|
  (.leaf .ret [.v 2] ()))
/-- laws.heldIntS -/
def tm78 : Tm Unit :=
  (.bind 1
   (.loop [.v 1, .c (.int .i64 0)]
    (.lt none .len [.v 0] 1 <|
    (.lt none (.bin .lss) [.v 3, .v 4] 1 <|
    (.ite (.v 5)
     (.lt none .inb [.v 0, .v 3] 0 <|
     (.lt none (.row 1 0 [true]) [.v 0, .v 3] 1 <|
     (.lt none (.bin .neq) [.v 6, .v 2] 1 <|
     (.ite (.v 7)
      (.leaf .ret [.c (.int .i64 (-1))] ())
      (.lt none (.bin .add) [.v 2, .c (.int .i64 1)] 1 <|
      (.lt none (.bin .add) [.v 3, .c (.int .i64 1)] 1 <|
      (.leaf .cont [.v 8, .v 9] ())))))))
     (.leaf (.yield 1) [.v 2] ()))))) <|
  (.leaf .ret [.v 2] ()))
theorem cl63 : ∀ n, Contract Try.prog (entTab [(63, .tm tm63)]) n 63 sg63 := fun n => contracts tiL_ok (by kernel_rfl) (fnOk_all (List.forall_mem_cons.2 ⟨fnOk_tm (E := ⟨tiTab tiL, [(63, sg63)], 0, 0, false, false, [], []⟩) Try.func80 (by kernel_rfl) (tm := tm63) (by kernel_rfl) (by kernel_rfl), List.forall_mem_nil _⟩)) n 63 sg63 (by simp)
def ren63 : Go.Shelf.Ren := ⟨fun | 41 => 80 | n => n, fun | 4 => 4 | 22 => 45 | 23 => 3 | n => n, fun n => n⟩
theorem lays63 : Go.Proofs.SlLaysE0.n41 Try.prog ren63 := { mixed := by kernel_rfl, f41 := ⟨Try.f80.name, by kernel_rfl, Try.func80.trans (congrArg some (by kernel_rfl))⟩, t4 := Try.underlying4, a4 := Try.isAgg4, z4 := Try.sizeOf4, v4 := Try.zeroValue4, t22 := Try.underlying45, a22 := Try.isAgg45, z22 := Try.sizeOf45, v22 := Try.zeroValue45 }
noncomputable def ex63 : List D → Option (List D) := cloneE 1 (entTab [(63, .tm tm63)]) 63

noncomputable def T : Nat → Ent := entTab [(0, .tm tm0), (1, .tm tm1), (2, .tm tm2), (3, .tm tm3), (4, .tm tm4), (5, .tm tm5), (6, .tm tm6), (7, .tm tm7), (8, .tm tm8), (9, .tm tm9), (10, .tm tm10), (11, .tm tm11), (12, .tm tm12), (13, .tm tm13), (14, .tm tm14), (15, .tm tm15), (16, .tm tm16), (17, .tm tm17), (18, .tm tm18), (19, .tm tm19), (20, .tm tm20), (21, .tm tm21), (22, .tm tm22), (23, .tm tm23), (24, .tm tm24), (25, .tm tm25), (26, .tm tm26), (27, .tm tm27), (28, .tm tm28), (29, .tm tm29), (30, .tm tm30), (31, .tm tm31), (32, .tm tm32), (33, .tm tm33), (34, .tm tm34), (35, .tm tm35), (36, .tm tm36), (37, .tm tm37), (38, .tm tm38), (39, .tm tm39), (40, .tm tm40), (41, .tm tm41), (42, .tm tm42), (43, .tm tm43), (44, .tm tm44), (45, .tm tm45), (46, .tm tm46), (47, .tm tm47), (48, .tm tm48), (49, .tm tm49), (50, .tm tm50), (51, .tm tm51), (52, .tm tm52), (53, .tm tm53), (54, .tm tm54), (55, .tm tm55), (56, .tm tm56), (57, .tm tm57), (58, .tm tm58), (59, .tm tm59), (60, .tm tm60), (61, .tm tm61), (62, .tm tm62), (63, .ext ex63), (64, .tm tm64), (65, .tm tm65), (66, .tm tm66), (67, .tm tm67), (68, .tm tm68), (69, .tm tm69), (70, .tm tm70), (71, .tm tm71), (72, .tm tm72), (73, .tm tm73), (74, .tm tm74), (75, .tm tm75), (76, .tm tm76), (77, .tm tm77), (78, .tm tm78)]
abbrev K := FnOk Try.prog T (tiTab tiL) sigs
theorem ok63 : FnOk Try.prog T (tiTab tiL) sigs 63 sg63 := clone_ent (m := 98) lays63 rfl (by kernel_rfl) Try.sizeOf3 cl63 rfl
theorem ok0 : K 0 sg0 := fnK (E := E0) (tm := tm0) Try.func3 (by kernel_rfl)
theorem ok1 : K 1 sg1 := fnK (E := E0) (tm := tm1) Try.func4 (by kernel_rfl)
theorem ok2 : K 2 sg2 := fnK (E := E0) (tm := tm2) Try.func13 (by kernel_rfl)
theorem ok3 : K 3 sg3 := fnK (E := E0) (tm := tm3) Try.func24 (by kernel_rfl)
theorem ok4 : K 4 sg4 := fnK (E := E0) (tm := tm4) Try.func43 (by kernel_rfl)
theorem ok5 : K 5 sg5 := fnK (E := E0) (tm := tm5) Try.func63 (by kernel_rfl)
theorem ok6 : K 6 sg6 := fnK (E := E0) (tm := tm6) Try.func75 (by kernel_rfl)
theorem ok7 : K 7 sg7 := fnK (E := E0) (tm := tm7) Try.func6 (by kernel_rfl)
theorem ok8 : K 8 sg8 := fnK (E := E0) (tm := tm8) Try.func16 (by kernel_rfl)
theorem ok9 : K 9 sg9 := fnK (E := E0) (tm := tm9) Try.func31 (by kernel_rfl)
theorem ok10 : K 10 sg10 := fnK (E := E0) (tm := tm10) Try.func51 (by kernel_rfl)
theorem ok11 : K 11 sg11 := fnK (E := E0) (tm := tm11) Try.func67 (by kernel_rfl)
theorem ok12 : K 12 sg12 := fnK (E := E0) (tm := tm12) Try.func68 (by kernel_rfl)
theorem ok13 : K 13 sg13 := fnK (E := E0) (tm := tm13) Try.func78 (by kernel_rfl)
theorem ok14 : K 14 sg14 := fnK (E := E0) (tm := tm14) Try.func5 (by kernel_rfl)
theorem ok15 : K 15 sg15 := fnK (E := ⟨tiTab tiL, sigs, 0, 0, false, false, [], [(7, [(84, 0, 0, 0)], [3, 12, 60, 63, 66, 78, 81, 84, 1], 192, [1, 4, 7, 10, 13, 16, 19, 22, 25, 28, 31, 34, 37, 40, 43, 46, 49, 52, 55, 58, 61, 64, 67, 70, 73, 76, 79, 82, 85, 88, 91, 94, 97, 100, 103, 106, 109, 112, 115, 118, 121, 124, 127, 130, 133, 136, 139, 142, 145, 148, 151, 154, 157, 160, 163, 166, 169, 172, 175, 178, 181, 184, 187, 190, 193, 196, 199, 202, 205, 208, 211, 214, 217, 220, 223, 226, 229, 232, 235, 238, 241, 244, 247, 250, 253, 256, 259, 262, 265, 268, 271, 274, 277, 280, 283, 286, 289, 292, 295, 298, 301, 304, 307, 310, 313, 316, 319, 322, 325, 328, 331, 334, 337, 340, 343, 346, 349, 352, 355, 358, 361, 364, 367, 370, 373, 376, 379, 382, 385, 388, 391, 394, 397, 400, 403, 406, 409, 412, 415, 418, 421, 424, 427, 430, 433, 436, 439, 442, 445, 448, 451, 454, 457, 460, 463, 466, 469, 472, 475, 478, 481, 484, 487, 490, 493, 496, 499, 502, 505, 508, 511, 514, 517, 520, 523, 526, 529, 532, 535, 538, 541, 544, 547, 550, 553, 556, 559, 562, 565, 568, 571, 574, 577, 580, 583, 586, 589, 592, 595, 598, 601, 604, 607, 610, 613, 616, 619, 622, 625, 628, 631, 634, 637, 640, 643, 646, 649, 652, 655, 658, 661, 664, 667, 670, 673, 676, 679, 682, 685, 688, 691, 694, 697, 700, 703, 706, 709, 712, 715, 718, 721, 724, 727, 730, 733, 736, 739, 742, 745, 748, 751, 754, 757, 760, 763, 766, 769, 772, 775, 778, 781, 784, 787, 790, 793, 796, 799, 802, 805, 808, 811, 814, 817, 820, 823, 826, 829, 832, 835, 838, 841, 844, 847, 850, 853, 856, 859, 862]), (4, [(66, 0, 0, 0)], [3, 60, 63, 66, 1], 401, [])]⟩) (tm := tm15) Try.func14 (by kernel_rfl)
theorem ok16 : K 16 sg16 := fnK (E := E0) (tm := tm16) Try.func25 (by kernel_rfl)
theorem ok17 : K 17 sg17 := fnK (E := E0) (tm := tm17) Try.func26 (by kernel_rfl)
theorem ok18 : K 18 sg18 := fnK (E := E0) (tm := tm18) Try.func44 (by kernel_rfl)
theorem ok19 : K 19 sg19 := fnK (E := E0) (tm := tm19) Try.func46 (by kernel_rfl)
theorem ok20 : K 20 sg20 := fnK (E := E0) (tm := tm20) Try.func45 (by kernel_rfl)
theorem ok21 : K 21 sg21 := fnK (E := E0) (tm := tm21) Try.func50 (by kernel_rfl)
theorem ok22 : K 22 sg22 := fnK (E := E0) (tm := tm22) Try.func47 (by kernel_rfl)
theorem ok23 : K 23 sg23 := fnK (E := E0) (tm := tm23) Try.func64 (by kernel_rfl)
theorem ok24 : K 24 sg24 := fnK (E := E0) (tm := tm24) Try.func76 (by kernel_rfl)
theorem ok25 : K 25 sg25 := fnK (E := E0) (tm := tm25) Try.func48 (by kernel_rfl)
theorem ok26 : K 26 sg26 := fnK (E := E0) (tm := tm26) Try.func65 (by kernel_rfl)
theorem ok27 : K 27 sg27 := fnK (E := ⟨tiTab tiL, sigs, 0, 0, false, false, [], [(8, [(24, 0, 3, 0), (87, 0, 0, 0)], [3, 12, 15, 24, 42, 45, 48, 81, 84, 87, 1], 257, [1, 4, 7, 10, 13, 16, 19, 22, 25, 28, 31, 34, 37, 40, 43, 46, 49, 52, 55, 58, 61, 64, 67, 70, 73, 76, 79, 82, 85, 88, 91, 94, 97, 100, 103, 106, 109, 112, 115, 118, 121, 124, 127, 130, 133, 136, 139, 142, 145, 148, 151, 154, 157, 160, 163, 166, 169, 172, 175, 178, 181, 184, 187, 190, 193, 196, 199, 202, 205, 208, 211, 214, 217, 220, 223, 226, 229, 232, 235, 238, 241, 244, 247, 250, 253, 256, 259, 262, 265, 268, 271, 274, 277, 280, 283, 286, 289, 292, 295, 298, 301, 304, 307, 310, 313, 316, 319, 322, 325, 328, 331, 334, 337, 340, 343, 346, 349, 352, 355, 358, 361, 364, 367, 370, 373, 376, 379, 382, 385, 388, 391, 394, 397, 400, 403, 406, 409, 412, 415, 418, 421, 424, 427, 430, 433, 436, 439, 442, 445, 448, 451, 454, 457, 460, 463, 466, 469, 472, 475, 478, 2365, 2947]), (4, [(15, 0, 2, 1), (48, 0, 0, 0)], [3, 12, 15, 42, 45, 48, 1], 628, [193])]⟩) (tm := tm27) Try.func15 (by kernel_rfl)
theorem ok28 : K 28 sg28 := fnK (E := ⟨tiTab tiL, sigs, 0, 0, false, false, [], [(6, [(9, 0, 2, 99), (54, 0, 0, 0)], [9, 12, 27, 30, 33, 48, 51, 54, 1], 321, [1, 4, 7, 10, 13, 16, 19, 22, 25, 28, 31, 34, 37, 40, 43, 46, 49, 52, 55, 58, 61, 64, 67, 70, 73, 76, 79, 82, 85, 88, 91, 94, 97, 100, 103, 106, 109, 112, 115, 118, 121, 124, 127, 130, 133, 136, 139, 142, 145, 148, 151, 154, 157, 160, 163, 166, 169, 172, 175, 178, 181, 184, 187, 190, 193, 196, 199, 202, 205, 208, 211, 214, 217, 220, 223, 226, 229, 232, 235, 238, 241, 244, 247, 250, 253, 256, 259, 262, 265, 268, 271, 274, 277, 280, 283, 286, 289, 292, 295, 298, 301, 304, 307, 310, 313, 316, 319, 322, 325, 328, 331, 334, 1884]), (3, [(9, 0, 2, 99), (33, 0, 0, 0)], [9, 27, 30, 33, 1], 516, [])]⟩) (tm := tm28) Try.func27 (by kernel_rfl)
theorem ok29 : K 29 sg29 := fnK (E := ⟨tiTab tiL, sigs, 0, 0, false, false, [], [(7, [(24, 0, 2, 99), (33, 0, 0, 0)], [3, 6, 24, 27, 30, 33, 54, 57, 60, 1, 22], 340, [1, 4, 7, 10, 13, 16, 19, 22, 25, 28, 31, 34, 37, 40, 43, 46, 49, 52, 55, 58, 61, 64, 67, 70, 73, 76, 79, 82, 85, 88, 91, 94, 97, 100, 103, 106, 109, 112, 115, 118, 121, 124, 127, 130, 133, 136, 139, 142, 145, 148, 151, 154, 157, 160, 163, 166, 169, 172, 175, 178, 181, 184, 187, 190, 193, 196, 199, 202, 205, 208, 211, 214, 217, 220, 223, 226, 229, 232, 235, 238, 241, 244, 247, 250, 253, 256, 259, 262, 265, 268, 271, 274, 277, 280, 283, 286, 289, 292, 295, 298, 301, 304, 307, 310, 313, 316, 319, 322, 325, 328, 331, 334, 337, 340, 343, 346, 349, 352, 355, 358, 361, 364, 367, 370, 373, 376, 379, 382, 385, 388, 391, 394, 397, 400, 403, 406, 409, 412, 415, 418, 421, 424, 427, 430, 433, 436, 439, 442, 445, 448, 451, 454, 457, 460, 463, 466, 469, 472, 475, 478, 481, 484, 487, 490, 493, 496, 499, 502, 505, 508, 511, 514, 517, 520, 523, 526, 529, 532, 535, 538, 541, 544, 547, 550, 553, 556, 559, 562, 565, 568, 571, 574, 577, 580, 583, 586, 589, 592, 595, 598, 601, 604, 607, 610, 613, 616, 619, 622, 625, 628, 631, 634, 637, 640, 643, 646, 649, 652, 655, 658, 661, 664, 667, 670, 2277]), (4, [(24, 0, 2, 99), (60, 0, 0, 0)], [3, 6, 24, 54, 57, 60, 1, 22], 535, [241])]⟩) (tm := tm29) Try.func28 (by kernel_rfl)
theorem ok30 : K 30 sg30 := fnK (E := E0) (tm := tm30) Try.func49 (by kernel_rfl)
theorem ok31 : K 31 sg31 := fnK (E := E0) (tm := tm31) Try.func66 (by kernel_rfl)
theorem ok32 : K 32 sg32 := fnK (E := E0) (tm := tm32) Try.func77 (by kernel_rfl)
theorem ok33 : K 33 sg33 := fnK (E := E0) (tm := tm33) Try.func81 (by kernel_rfl)
theorem ok34 : K 34 sg34 := fnK (E := E0) (tm := tm34) Try.func29 (by kernel_rfl)
theorem ok35 : K 35 sg35 := fnK (E := E0) (tm := tm35) Try.func30 (by kernel_rfl)
theorem ok36 : K 36 sg36 := fnK (E := E0) (tm := tm36) Try.func7 (by kernel_rfl)
theorem ok37 : K 37 sg37 := fnK (E := E0) (tm := tm37) Try.func17 (by kernel_rfl)
theorem ok38 : K 38 sg38 := fnK (E := E0) (tm := tm38) Try.func32 (by kernel_rfl)
theorem ok39 : K 39 sg39 := fnK (E := E0) (tm := tm39) Try.func33 (by kernel_rfl)
theorem ok40 : K 40 sg40 := fnK (E := E0) (tm := tm40) Try.func52 (by kernel_rfl)
theorem ok41 : K 41 sg41 := fnK (E := E0) (tm := tm41) Try.func34 (by kernel_rfl)
theorem ok42 : K 42 sg42 := fnK (E := E0) (tm := tm42) Try.func35 (by kernel_rfl)
theorem ok43 : K 43 sg43 := fnK (E := E0) (tm := tm43) Try.func53 (by kernel_rfl)
theorem ok44 : K 44 sg44 := fnK (E := E0) (tm := tm44) Try.func36 (by kernel_rfl)
theorem ok45 : K 45 sg45 := fnK (E := E0) (tm := tm45) Try.func37 (by kernel_rfl)
theorem ok46 : K 46 sg46 := fnK (E := E0) (tm := tm46) Try.func54 (by kernel_rfl)
theorem ok47 : K 47 sg47 := fnK (E := E0) (tm := tm47) Try.func55 (by kernel_rfl)
theorem ok48 : K 48 sg48 := fnK (E := E0) (tm := tm48) Try.func69 (by kernel_rfl)
theorem ok49 : K 49 sg49 := fnK (E := E0) (tm := tm49) Try.func56 (by kernel_rfl)
theorem ok50 : K 50 sg50 := fnK (E := E0) (tm := tm50) Try.func70 (by kernel_rfl)
theorem ok51 : K 51 sg51 := fnK (E := E0) (tm := tm51) Try.func79 (by kernel_rfl)
theorem ok52 : K 52 sg52 := fnK (E := E0) (tm := tm52) Try.func71 (by kernel_rfl)
theorem ok53 : K 53 sg53 := fnK (E := E0) (tm := tm53) Try.func58 (by kernel_rfl)
theorem ok54 : K 54 sg54 := fnK (E := E0) (tm := tm54) Try.func57 (by kernel_rfl)
theorem ok55 : K 55 sg55 := fnK (E := E0) (tm := tm55) Try.func40 (by kernel_rfl)
theorem ok56 : K 56 sg56 := fnK (E := ⟨tiTab tiL, sigs, 0, 0, false, false, [], [(7, [(27, 0, 2, 99), (99, 0, 0, 0)], [3, 12, 15, 21, 24, 27, 45, 48, 51, 93, 96, 99, 1, 76], 485, [1, 4, 7, 10, 13, 16, 19, 22, 25, 28, 31, 34, 37, 40, 43, 46, 49, 52, 55, 58, 61, 64, 67, 70, 73, 76, 79, 82, 85, 88, 91, 94, 97, 100, 103, 106, 109, 112, 115, 118, 121, 124, 127, 130, 133, 136, 139, 142, 145, 148, 151, 154, 157, 160, 163, 166, 169, 172, 175, 178, 181, 184, 187, 190, 193, 196, 199, 202, 205, 208, 211, 214, 217, 220, 223, 226, 229, 232, 235, 238, 241, 244, 247, 250, 253, 256, 259, 262, 265, 268, 271, 274, 277, 280, 283, 286, 289, 292, 295, 298, 301, 304, 307, 310, 313, 316, 319, 322, 325, 328, 331, 334, 337, 340, 343, 346, 349, 352, 355, 358, 361, 364, 367, 370, 373, 376, 379, 382, 385, 388, 391, 394, 397, 400, 403, 406, 409, 412, 415, 418, 421, 424, 427, 430, 433, 436, 439, 442, 445, 448, 451, 454, 457, 460, 463, 466, 469, 472, 475, 478, 481, 484, 487, 490, 493, 496, 499, 502, 505, 508, 511, 514, 517, 520, 523, 526, 3337, 3871, 3966]), (3, [(15, 0, 2, 99), (51, 0, 0, 0)], [3, 12, 15, 45, 48, 51, 1], 936, [193, 240])]⟩) (tm := tm56) Try.func18 (by kernel_rfl)
theorem ok57 : K 57 sg57 := fnK (E := E0) (tm := tm57) Try.func38 (by kernel_rfl)
theorem ok58 : K 58 sg58 := fnK (E := ⟨tiTab tiL, sigs, 0, 0, false, false, [], [(5, [(54, 0, 0, 0), (1, 0, 2, 99)], [93, 3, 12, 27, 30, 33, 48, 51, 54, 1, 4], 240, [1, 4, 7, 10, 13, 16, 19, 22, 25, 28, 31, 34, 37, 40, 43, 46, 49, 52, 55, 58, 61, 64, 67, 70, 73, 76, 79, 82, 85, 88, 91, 94, 97, 100, 103, 106, 109, 112, 115, 118, 121, 124, 127, 130, 133, 136, 139, 142, 145, 148, 151, 154, 157, 160, 163, 166, 169, 172, 175, 178, 181, 184, 187, 190, 193, 196, 199, 202, 205, 208, 211, 214, 217, 220, 223, 226, 229, 232, 235, 238, 241, 1551]), (2, [(33, 0, 0, 0), (1, 0, 2, 99)], [93, 3, 27, 30, 33, 1, 4], 435, [0])]⟩) (tm := tm58) Try.func59 (by kernel_rfl)
theorem ok59 : K 59 sg59 := fnK (E := E0) (tm := tm59) Try.func60 (by kernel_rfl)
theorem ok60 : K 60 sg60 := fnK (E := E0) (tm := tm60) Try.func39 (by kernel_rfl)
theorem ok61 : K 61 sg61 := fnK (E := E0) (tm := tm61) Try.func61 (by kernel_rfl)
theorem ok62 : K 62 sg62 := fnK (E := E0) (tm := tm62) Try.func72 (by kernel_rfl)
theorem ok64 : K 64 sg64 := fnK (E := E0) (tm := tm64) Try.func8 (by kernel_rfl)
theorem ok65 : K 65 sg65 := fnK (E := E0) (tm := tm65) Try.func19 (by kernel_rfl)
theorem ok66 : K 66 sg66 := fnK (E := E0) (tm := tm66) Try.func9 (by kernel_rfl)
theorem ok67 : K 67 sg67 := fnK (E := E0) (tm := tm67) Try.func20 (by kernel_rfl)
theorem ok68 : K 68 sg68 := fnK (E := E0) (tm := tm68) Try.func41 (by kernel_rfl)
theorem ok69 : K 69 sg69 := fnK (E := E0) (tm := tm69) Try.func62 (by kernel_rfl)
theorem ok70 : K 70 sg70 := fnK (E := E0) (tm := tm70) Try.func73 (by kernel_rfl)
theorem ok71 : K 71 sg71 := fnK (E := E0) (tm := tm71) Try.func74 (by kernel_rfl)
theorem ok72 : K 72 sg72 := fnK (E := E0) (tm := tm72) Try.func10 (by kernel_rfl)
theorem ok73 : K 73 sg73 := fnK (E := E0) (tm := tm73) Try.func21 (by kernel_rfl)
theorem ok74 : K 74 sg74 := fnK (E := E0) (tm := tm74) Try.func42 (by kernel_rfl)
theorem ok75 : K 75 sg75 := fnK (E := E0) (tm := tm75) Try.func22 (by kernel_rfl)
theorem ok76 : K 76 sg76 := fnK (E := E0) (tm := tm76) Try.func11 (by kernel_rfl)
theorem ok77 : K 77 sg77 := fnK (E := E0) (tm := tm77) Try.func12 (by kernel_rfl)
theorem ok78 : K 78 sg78 := fnK (E := E0) (tm := tm78) Try.func23 (by kernel_rfl)
theorem fns_ok : ∀ key s, (key, s) ∈ sigs → FnOk Try.prog T (tiTab tiL) sigs key s := fnOk_all (fc ok0 <| fc ok1 <| fc ok2 <| fc ok3 <| fc ok4 <| fc ok5 <| fc ok6 <| fc ok7 <| fc ok8 <| fc ok9 <| fc ok10 <| fc ok11 <| fc ok12 <| fc ok13 <| fc ok14 <| fc ok15 <| fc ok16 <| fc ok17 <| fc ok18 <| fc ok19 <| fc ok20 <| fc ok21 <| fc ok22 <| fc ok23 <| fc ok24 <| fc ok25 <| fc ok26 <| fc ok27 <| fc ok28 <| fc ok29 <| fc ok30 <| fc ok31 <| fc ok32 <| fc ok33 <| fc ok34 <| fc ok35 <| fc ok36 <| fc ok37 <| fc ok38 <| fc ok39 <| fc ok40 <| fc ok41 <| fc ok42 <| fc ok43 <| fc ok44 <| fc ok45 <| fc ok46 <| fc ok47 <| fc ok48 <| fc ok49 <| fc ok50 <| fc ok51 <| fc ok52 <| fc ok53 <| fc ok54 <| fc ok55 <| fc ok56 <| fc ok57 <| fc ok58 <| fc ok59 <| fc ok60 <| fc ok61 <| fc ok62 <| fc ok63 <| fc ok64 <| fc ok65 <| fc ok66 <| fc ok67 <| fc ok68 <| fc ok69 <| fc ok70 <| fc ok71 <| fc ok72 <| fc ok73 <| fc ok74 <| fc ok75 <| fc ok76 <| fc ok77 <| fc ok78 <| fc0)
theorem contract : ∀ n, Contract Try.prog T n 0 sg0 := fun n => contracts tiL_ok (by kernel_rfl) fns_ok n 0 sg0 (by simp [sigs])
end FnExactGraphOf
end Go.Proofs.Ytmpakpgonfnadaa
