/- The terms of the functions that FnChoose reaches (printed by the author's own program). -/
import Derived.Test.YtjoebpmeeampfaaChecked
import Derived.Test.YtjoebpmeeampfaaRf8
import Derived.KernelRfl
namespace Go.Proofs.Ytjoebpmeeampfaa
namespace FnChoose
open Go Go.Proofs.Ytjoebpmeeampfaa.Rf
set_option maxRecDepth 100000

def t3 : TI := ⟨false, 1, 8, [.sc (.int .i64 0)], [], none, (some .i64), false, false, false, false⟩
theorem ti3 : tiOf Try.prog 3 = some t3 := by kernel_rfl
def t4 : TI := ⟨false, 1, 1, [.sc (.bool false)], [], none, none, true, false, false, false⟩
theorem ti4 : tiOf Try.prog 4 = some t4 := by kernel_rfl
def t5 : TI := ⟨false, 1, 1, [.sc (.int .u8 0)], [], none, (some .u8), false, false, false, false⟩
theorem ti5 : tiOf Try.prog 5 = some t5 := by kernel_rfl
def t22 : TI := ⟨false, 1, 24, [.sl 1], [], (some 3), none, false, false, false, false⟩
theorem ti22 : tiOf Try.prog 22 = some t22 := by kernel_rfl
def t45 : TI := ⟨false, 1, 24, [.sl 1], [], (some 5), none, false, false, false, false⟩
theorem ti45 : tiOf Try.prog 45 = some t45 := by kernel_rfl
def t51 : TI := ⟨true, 5, 40, [.sc (.int .i64 0), .sc (.int .i64 0), .sc (.int .i64 0), .sc (.int .i64 0), .sc (.int .i64 0)], [(0, 3), (1, 3), (2, 3), (3, 3), (4, 3)], none, none, false, false, false, true⟩
theorem ti51 : tiOf Try.prog 51 = some t51 := by kernel_rfl
def t64 : TI := ⟨false, 1, 24, [.sl 10], [], (some 73), none, false, false, false, false⟩
theorem ti64 : tiOf Try.prog 64 = some t64 := by kernel_rfl
def t68 : TI := ⟨true, 2, 32, [.sc (.int .i64 0), .sl 1], [(0, 3), (1, 22)], none, none, false, false, false, false⟩
theorem ti68 : tiOf Try.prog 68 = some t68 := by kernel_rfl
def t73 : TI := ⟨true, 10, 96, [.sc (.int .i64 0), .sc (.int .i64 0), .sc (.int .i64 0), .sc (.int .i64 0), .sc (.int .i64 0), .sc (.int .i64 0), .sc (.int .i64 0), .sc (.int .i64 0), .sc (.int .i64 0), .sl 1], [(0, 3), (1, 3), (2, 3), (3, 51), (8, 68)], none, none, false, false, false, false⟩
theorem ti73 : tiOf Try.prog 73 = some t73 := by kernel_rfl
def t116 : TI := ⟨false, 1, 8, [.sc (.int .u64 0)], [], none, (some .u64), false, false, false, false⟩
theorem ti116 : tiOf Try.prog 116 = some t116 := by kernel_rfl
def t118 : TI := ⟨true, 3, 40, [.sl 1, .sc (.int .i64 0), .sc (.int .u64 0)], [(0, 45), (1, 3), (2, 116)], none, none, false, false, false, false⟩
theorem ti118 : tiOf Try.prog 118 = some t118 := by kernel_rfl
def t177 : TI := ⟨false, 1, 8, [.pn], [], none, none, false, false, true, false⟩
theorem ti177 : tiOf Try.prog 177 = some t177 := by kernel_rfl
def tiL : List (Nat × TI) := [(3, t3), (4, t4), (5, t5), (22, t22), (45, t45), (51, t51), (64, t64), (68, t68), (73, t73), (116, t116), (118, t118), (177, t177)]
theorem tiL_ok : TiOk Try.prog (tiTab tiL) := tiTab_ok (l := tiL) (fc ti3 <| fc ti4 <| fc ti5 <| fc ti22 <| fc ti45 <| fc ti51 <| fc ti64 <| fc ti68 <| fc ti73 <| fc ti116 <| fc ti118 <| fc ti177 <| fc0)

def sg0 : Sig := ⟨7, [(false, [.fz false]), (false, [.fz false])], [], [(false, [.sc])]⟩
def sg1 : Sig := ⟨29, [(false, [.fz false]), (false, [.fz false])], [], [(false, [.sc])]⟩
def sg2 : Sig := ⟨43, [(false, [.fz false])], [], [(false, [.sc]), (false, [.ow 99])]⟩
def sg3 : Sig := ⟨99, [(false, [.px 0]), (false, [.fz false])], [(false, [(.fz false, .fz), (.sc, .sc), (.sc, .sc)])], [(false, [.sc])]⟩
def sg4 : Sig := ⟨89, [(false, [.px 0]), (false, [.sc])], [(false, [(.fz false, .fz), (.sc, .sc), (.sc, .sc)])], [(false, [.sc])]⟩
def sg5 : Sig := ⟨150, [(false, [.px 0])], [(false, [(.fz false, .fz), (.sc, .sc), (.sc, .sc)])], [(false, [.sc])]⟩
def sg6 : Sig := ⟨100, [(false, [.px 0]), (false, [.sc])], [(false, [(.fz false, .fz), (.sc, .sc), (.sc, .sc)])], [(true, [.sc, .sc, .sc, .sc, .sc, .sc, .sc, .sc, .sc, .ow 99])]⟩
def sg7 : Sig := ⟨142, [(false, [.px 0])], [(false, [(.fz false, .fz), (.sc, .sc), (.sc, .sc)])], [(true, [.sc, .sc, .sc, .sc, .sc])]⟩
def sg8 : Sig := ⟨91, [(false, [.px 0]), (false, [.sc])], [(false, [(.fz false, .fz), (.sc, .sc), (.sc, .sc)])], [(false, [.sc])]⟩
def sg9 : Sig := ⟨154, [(false, [.sc])], [], [(true, [.sc, .ow 99])]⟩
def sg10 : Sig := ⟨101, [(true, [.sc, .sc, .sc, .sc, .sc, .sc, .sc, .sc, .sc, .fz false])], [], [(true, [.sc, .sc, .sc, .sc, .sc, .sc, .sc, .sc, .sc, .ow 99])]⟩
def sg11 : Sig := ⟨155, [(true, [.sc, .fz false])], [], [(true, [.sc, .ow 99])]⟩
def sg12 : Sig := ⟨153, [(false, [.fz false])], [], [(false, [.ow 99])]⟩
def sg13 : Sig := ⟨44, [(false, [.sc]), (false, [.fz false])], [], [(false, [.sc]), (true, [.sc, .sc, .sc, .sc, .sc]), (true, [.sc, .ow 99]), (false, [.sc])]⟩
def sg14 : Sig := ⟨102, [(false, [.sc])], [], [(false, [.sc])]⟩
def sg15 : Sig := ⟨103, [(false, [.sc]), (false, [.sc])], [], [(false, [.sc])]⟩
def sg16 : Sig := ⟨104, [(false, [.fz false]), (false, [.clo 105 [.px 0]])], [(true, [(.sc, .sc)])], [(false, [.sc])]⟩
def sg17 : Sig := ⟨156, [(false, [.fz false]), (false, [.clo 105 [.px 0]])], [(true, [(.sc, .sc)])], [(false, [.sc])]⟩
def sg18 : Sig := ⟨105, [(true, [.sc, .sc, .sc, .sc, .sc, .sc, .sc, .sc, .sc, .fz false]), (false, [.px 0])], [(true, [(.sc, .sc)])], [(false, [.sc])]⟩
def sg19 : Sig := ⟨106, [(false, [.sc]), (true, [.sc, .sc, .sc, .sc, .sc, .sc, .sc, .sc, .sc, .fz false])], [], [(false, [.sc])]⟩
def sg20 : Sig := ⟨83, [(false, [.sc]), (false, [.sc]), (false, [.sc])], [], [(false, [.sc])]⟩
def sg21 : Sig := ⟨140, [(true, [.sc, .sc, .sc, .sc, .sc])], [], [(false, [.sc])]⟩
def sg22 : Sig := ⟨174, [(false, [.sc])], [], [(false, [.sc])]⟩
def sg23 : Sig := ⟨112, [(false, [.sc]), (true, [.sc, .fz false])], [], [(false, [.sc])]⟩
def sg24 : Sig := ⟨143, [(false, [.fz false]), (false, [.clo 165 []])], [], [(false, [.sc])]⟩
def sg25 : Sig := ⟨175, [(false, [.fz false]), (false, [.clo 165 []])], [], [(false, [.sc])]⟩
def sg26 : Sig := ⟨165, [(false, [.sc])], [], [(false, [.sc])]⟩
def sg27 : Sig := ⟨158, [(false, [.sc])], [], [(true, [.sc, .ow 99])]⟩
def sg28 : Sig := ⟨157, [(true, [.sc, .fz false]), (true, [.sc, .fz false])], [], [(false, [.sc])]⟩
def sg29 : Sig := ⟨80, [(false, [.fz false]), (false, [.fz false])], [], [(false, [.sc])]⟩
def sg30 : Sig := ⟨107, [(false, [.sc]), (false, [.fz false])], [], [(false, [.sc]), (true, [.sc, .sc, .sc, .sc, .sc]), (true, [.sc, .ow 99])]⟩
def sg31 : Sig := ⟨159, [(false, [.sc]), (false, [.px 0])], [(true, [(.fz false, .fz)])], [(false, [.rp 10])]⟩
def sg32 : Sig := ⟨160, [(true, [.sc, .fz false])], [], [(true, [.sc, .ow 99])]⟩
def sg33 : Sig := ⟨148, [(false, [.fz false])], [], [(false, [.ow 99])]⟩
def sg34 : Sig := ⟨104, [(false, [.fz false]), (false, [.clo 161 [.px 0]])], [(true, [(.fz false, .fz)])], [(false, [.sc])]⟩
def sg35 : Sig := ⟨156, [(false, [.fz false]), (false, [.clo 161 [.px 0]])], [(true, [(.fz false, .fz)])], [(false, [.sc])]⟩
def sg36 : Sig := ⟨161, [(true, [.sc, .sc, .sc, .sc, .sc, .sc, .sc, .sc, .sc, .fz false]), (false, [.px 0])], [(true, [(.fz false, .fz)])], [(false, [.sc])]⟩
def sg37 : Sig := ⟨113, [(true, [.sc, .fz false]), (true, [.sc, .fz false])], [], [(true, [.sc, .ow 99])]⟩
def sg38 : Sig := ⟨45, [(false, [.sc]), (false, [.fz false])], [], [(false, [.sc]), (true, [.sc, .sc, .sc, .sc, .sc]), (true, [.sc, .ow 99]), (false, [.sc])]⟩
def sg39 : Sig := ⟨108, [(false, [.sc])], [], [(false, [.sc]), (false, [.sc])]⟩
def sg40 : Sig := ⟨125, [(false, [.sc])], [], [(false, [.sc])]⟩
def sg41 : Sig := ⟨109, [(false, [.sc]), (false, [.sc]), (false, [.sc])], [], [(false, [.sc])]⟩
def sg42 : Sig := ⟨110, [(false, [.sc]), (true, [.sc, .sc, .sc, .sc, .sc, .sc, .sc, .sc, .sc, .fz false])], [], [(false, [.sc])]⟩
def sg43 : Sig := ⟨162, [(true, [.sc, .fz false]), (true, [.sc, .fz false])], [], [(false, [.sc])]⟩
def sg44 : Sig := ⟨95, [(false, [.fz false]), (false, [.fz false])], [], [(false, [.sc])]⟩
def sg45 : Sig := ⟨151, [(true, [.sc, .sc, .sc, .sc, .sc])], [], [(false, [.sc])]⟩
def sg46 : Sig := ⟨177, [(true, [.sc, .sc, .sc, .sc, .sc])], [], [(false, [.sc])]⟩
def sg47 : Sig := ⟨181, [(false, [.sc])], [], [(false, [.sc])]⟩
def sg48 : Sig := ⟨163, [(false, [.sc]), (true, [.sc, .fz false])], [], [(false, [.sc])]⟩
def sg49 : Sig := ⟨97, [(false, [.fz false]), (false, [.sc]), (false, [.sc])], [], [(false, [.sc])]⟩
def sg50 : Sig := ⟨111, [(false, [.sc]), (false, [.fz false])], [], [(false, [.sc]), (true, [.sc, .sc, .sc, .sc, .sc]), (true, [.sc, .ow 99])]⟩
def sg51 : Sig := ⟨164, [(true, [.sc, .fz false]), (true, [.sc, .fz false])], [], [(true, [.sc, .ow 99])]⟩
def sg52 : Sig := ⟨178, [(false, [.sc]), (false, [.sc])], [], [(false, [.sc])]⟩
def sg53 : Sig := ⟨46, [(true, [.sc, .fz false]), (true, [.sc, .fz false])], [], [(false, [.sc])]⟩
def sg54 : Sig := ⟨33, [(false, [.fz false]), (false, [.fz false])], [], [(false, [.sc])]⟩
def sg55 : Sig := ⟨47, [(false, [.sc]), (true, [.sc, .fz false]), (true, [.sc, .fz false])], [], [(true, [.sc, .ow 99]), (false, [.sc])]⟩
def sigs : List (Nat × Sig) := [(0, sg0), (1, sg1), (2, sg2), (3, sg3), (4, sg4), (5, sg5), (6, sg6), (7, sg7), (8, sg8), (9, sg9), (10, sg10), (11, sg11), (12, sg12), (13, sg13), (14, sg14), (15, sg15), (16, sg16), (17, sg17), (18, sg18), (19, sg19), (20, sg20), (21, sg21), (22, sg22), (23, sg23), (24, sg24), (25, sg25), (26, sg26), (27, sg27), (28, sg28), (29, sg29), (30, sg30), (31, sg31), (32, sg32), (33, sg33), (34, sg34), (35, sg35), (36, sg36), (37, sg37), (38, sg38), (39, sg39), (40, sg40), (41, sg41), (42, sg42), (43, sg43), (44, sg44), (45, sg45), (46, sg46), (47, sg47), (48, sg48), (49, sg49), (50, sg50), (51, sg51), (52, sg52), (53, sg53), (54, sg54), (55, sg55)]
abbrev E0 : Env := ⟨tiTab tiL, sigs, 0, 0, false, false, [], []⟩

/-- laws.FnChoose -/
def tm0 : Tm Unit :=
  (.call none 1 [.v 0, .v 1] 1 [] <|
  (.ite (.v 2)
   (.leaf .ret [.c (.bool true)] ())
   (.call none 2 [.v 0] 2 [] <|
   (.call none 13 [.v 3, .v 4] 9 [] <|
   (.lt none (.dep 99) [.v 12] 0 <|
   (.call none 38 [.v 3, .v 4] 9 [] <|
   (.lt none (.dep 99) [.v 21] 0 <|
   (.lt none (.eqb true) [.v 13, .v 22] 1 <|
   (.lt (some (.v 23, false)) .id [.v 5] 1 <|
   (.lt (some (.v 23, false)) .id [.v 14] 1 <|
   (.lt (some (.v 23, false)) (.bin .neq) [.v 24, .v 25] 1 <|
   (.lt none .pick [.v 23, .c (.bool true), .v 26] 1 <|
   (.lt (some (.v 27, false)) (.eqs [0, 0, 0, 0, 0]) [.v 6, .v 7, .v 8, .v 9, .v 10, .v 15, .v 16, .v 17, .v 18, .v 19] 1 <|
   (.lt (some (.v 27, false)) .not [.v 28] 1 <|
   (.lt none .pick [.v 27, .c (.bool true), .v 29] 1 <|
   (.call (some (.v 30, false)) 53 [.v 11, .v 12, .v 20, .v 21] 1 [] <|
   (.lt (some (.v 30, false)) .not [.v 31] 1 <|
   (.lt none .pick [.v 30, .c (.bool true), .v 32] 1 <|
   (.ite (.v 33)
    (.leaf .ret [.c (.bool false)] ())
    (.bind 0
     (.ite (.v 13)
      (.lt none .len [.v 4] 1 <|
      (.bind 1
       (.loop [.c (.bool false), .c (.bool false), .c (.int .i64 0)]
        (.lt none (.bin .lss) [.v 37, .v 34] 1 <|
        (.ite (.v 38)
         (.lt none .inb [.v 4, .v 37] 0 <|
         (.lt none (.row 10 0 [true, true, true, true, true, true, true, true, true, false]) [.v 4, .v 37] 10 <|
         (.lt (some (.v 35, false)) .id [.v 41] 1 <|
         (.lt (some (.v 35, false)) (.bin .eql) [.v 49, .c (.int .i64 2)] 1 <|
         (.lt none .pick [.v 35, .c (.bool true), .v 50] 1 <|
         (.lt (some (.v 36, false)) .id [.v 41] 1 <|
         (.lt (some (.v 36, false)) (.bin .eql) [.v 52, .c (.int .i64 1)] 1 <|
         (.lt none .pick [.v 36, .c (.bool true), .v 53] 1 <|
         (.lt none (.bin .add) [.v 37, .c (.int .i64 1)] 1 <|
         (.leaf .cont [.v 51, .v 54, .v 55] ()))))))))))
         (.leaf (.yield 1) [.v 35, .v 36] ())))) <|
      (.lt (some (.v 35, true)) .id [.v 5] 1 <|
      (.lt (some (.v 35, true)) (.bin .neq) [.v 37, .c (.int .i64 1)] 1 <|
      (.lt none .pick [.v 35, .v 38, .c (.bool false)] 1 <|
      (.lt (some (.v 39, false)) .id [.v 35] 1 <|
      (.lt (some (.v 39, false)) .not [.v 40] 1 <|
      (.lt (some (.v 39, false)) .id [.v 41] 1 <|
      (.lt (some (.v 42, true)) .id [.v 36] 1 <|
      (.lt (some (.v 42, true)) .not [.v 43] 1 <|
      (.lt (some (.v 39, false)) .pick [.v 42, .v 44, .c (.bool false)] 1 <|
      (.lt (some (.v 39, false)) .id [.v 45] 1 <|
      (.lt (some (.v 46, true)) .id [.v 5] 1 <|
      (.lt (some (.v 46, true)) (.bin .neq) [.v 47, .c (.int .i64 3)] 1 <|
      (.lt (some (.v 39, false)) .pick [.v 46, .v 48, .c (.bool false)] 1 <|
      (.lt none .pick [.v 39, .c (.bool true), .v 49] 1 <|
      (.lt (some (.v 50, false)) .id [.v 5] 1 <|
      (.lt (some (.v 50, false)) (.bin .eql) [.v 51, .c (.int .i64 3)] 1 <|
      (.lt (some (.v 50, false)) .id [.v 52] 1 <|
      (.lt (some (.v 53, true)) .id [.v 35] 1 <|
      (.lt (some (.v 53, true)) .id [.v 54] 1 <|
      (.lt (some (.v 55, false)) .id [.v 36] 1 <|
      (.lt (some (.v 53, true)) .pick [.v 55, .c (.bool true), .v 56] 1 <|
      (.lt (some (.v 50, false)) .pick [.v 53, .v 57, .c (.bool false)] 1 <|
      (.lt none .pick [.v 50, .c (.bool true), .v 58] 1 <|
      (.ite (.v 59)
       (.leaf .ret [.c (.bool false)] ())
       (.lt none (.bin .eql) [.v 5, .c (.int .i64 1)] 1 <|
       (.ite (.v 60)
        (.lt none .len [.v 4] 1 <|
        (.bind 3
         (.loop [.c (.bool false), .c (.int .i64 0)]
          (.lt none (.bin .lss) [.v 63, .v 61] 1 <|
          (.ite (.v 64)
           (.lt none .inb [.v 4, .v 63] 0 <|
           (.lt none (.row 10 0 [true, true, true, true, true, true, true, true, true, false]) [.v 4, .v 63] 10 <|
           (.lt (some (.v 62, false)) (.eqs [0, 0, 0, 0, 0]) [.v 68, .v 69, .v 70, .v 71, .v 72, .v 6, .v 7, .v 8, .v 9, .v 10] 1 <|
           (.lt (some (.v 62, false)) .id [.v 75] 1 <|
           (.call (some (.v 76, true)) 53 [.v 73, .v 74, .v 11, .v 12] 1 [] <|
           (.lt (some (.v 62, false)) .pick [.v 76, .v 77, .c (.bool false)] 1 <|
           (.lt none .pick [.v 62, .c (.bool true), .v 78] 1 <|
           (.lt none (.bin .add) [.v 63, .c (.int .i64 1)] 1 <|
           (.leaf .cont [.v 79, .v 80] ())))))))))
           (.leaf (.yield 3) [.v 62] ())))) <|
        (.leaf .ret [.v 62] ())))
        (.lt none (.bin .eql) [.v 5, .c (.int .i64 2)] 1 <|
        (.ite (.v 61)
         (.lt none .len [.v 4] 1 <|
         (.bind 5
          (.loop [.c (.int .i64 0)]
           (.lt none (.bin .lss) [.v 63, .v 62] 1 <|
           (.ite (.v 64)
            (.bind 6
             (.lt none .inb [.v 4, .v 63] 0 <|
             (.lt none (.row 10 0 [true, true, true, true, true, true, true, true, true, false]) [.v 4, .v 63] 10 <|
             (.lt none (.bin .neq) [.v 67, .c (.int .i64 1)] 1 <|
             (.ite (.v 75)
              (.leaf (.yield 6) [] ())
              (.call none 55 [.v 3, .v 11, .v 12, .v 73, .v 74] 3 [] <|
              (.lt none (.dep 99) [.v 77] 0 <|
              (.lt none .not [.v 78] 1 <|
              (.call (some (.v 79, false)) 53 [.v 76, .v 77, .v 11, .v 12] 1 [] <|
              (.lt (some (.v 79, false)) .not [.v 80] 1 <|
              (.lt none .pick [.v 79, .c (.bool true), .v 81] 1 <|
              (.ite (.v 82)
               (.leaf .ret [.c (.bool false)] ())
               (.leaf (.yield 6) [] ())))))))))))) <|
            (.lt none (.bin .add) [.v 63, .c (.int .i64 1)] 1 <|
            (.leaf .cont [.v 65] ())))
            (.leaf (.yield 5) [] ())))) <|
         (.leaf (.yield 0) [] ())))
         (.leaf (.yield 0) [] ())))))))))))))))))))))))))))))))
      (.leaf (.yield 0) [] ())) <|
    (.call none 2 [.v 1] 2 [] <|
    (.call none 13 [.v 34, .v 35] 9 [] <|
    (.lt none (.dep 99) [.v 43] 0 <|
    (.call none 38 [.v 34, .v 35] 9 [] <|
    (.lt none (.dep 99) [.v 52] 0 <|
    (.lt none (.eqb false) [.v 44, .v 53] 1 <|
    (.lt (some (.v 54, true)) .id [.v 36] 1 <|
    (.lt (some (.v 54, true)) .id [.v 45] 1 <|
    (.lt (some (.v 54, true)) (.bin .eql) [.v 55, .v 56] 1 <|
    (.lt none .pick [.v 54, .v 57, .c (.bool false)] 1 <|
    (.lt (some (.v 58, true)) (.eqs [0, 0, 0, 0, 0]) [.v 37, .v 38, .v 39, .v 40, .v 41, .v 46, .v 47, .v 48, .v 49, .v 50] 1 <|
    (.lt none .pick [.v 58, .v 59, .c (.bool false)] 1 <|
    (.call (some (.v 60, true)) 53 [.v 42, .v 43, .v 51, .v 52] 1 [] <|
    (.lt none .pick [.v 60, .v 61, .c (.bool false)] 1 <|
    (.leaf .ret [.v 62] ())))))))))))))))))))))))))))))))))))
/-- laws.big -/
def tm1 : Tm Unit :=
  (.lt none .len [.v 0] 1 <|
  (.lt none (.bin .gtr) [.v 2, .c (.int .i64 1048576)] 1 <|
  (.lt (some (.v 3, false)) .len [.v 1] 1 <|
  (.lt (some (.v 3, false)) .len [.v 0] 1 <|
  (.lt (some (.v 3, false)) (.bin .sub) [.c (.int .i64 1048576), .v 5] 1 <|
  (.lt (some (.v 3, false)) (.bin .gtr) [.v 4, .v 6] 1 <|
  (.lt none .pick [.v 3, .c (.bool true), .v 7] 1 <|
  (.leaf .ret [.v 8] ()))))))))
/-- spec.DrawChooseOf -/
def tm2 : Tm Unit :=
  (.lt none (.mk 1 4) [.c (.int .i64 3), .c (.int .i64 3), .c (.int .i64 5), .c (.int .i64 4)] 1 <|
  (.call none 3 [.v 1, .v 0, .c (.int .i64 0), .c (.int .u64 0)] 4 [] <|
  (.lt none (.bin .quo) [.v 2, .c (.int .i64 2)] 1 <|
  (.lt none (.bin .add) [.v 6, .c (.int .i64 1)] 1 <|
  (.call none 4 [.c (.int .i64 20), .v 3, .v 4, .v 5] 4 [] <|
  (.lt none (.bin .quo) [.v 8, .c (.int .i64 19)] 1 <|
  (.lt none (.bin .sub) [.v 7, .v 12] 1 <|
  (.call none 4 [.c (.int .i64 6), .v 9, .v 10, .v 11] 4 [] <|
  (.lt none (.bin .quo) [.v 14, .c (.int .i64 5)] 1 <|
  (.lt none (.bin .add) [.v 13, .v 18] 1 <|
  (.bind 1
   (.loop [.c (.rows 10 []), .v 19, .v 15, .v 16, .v 17]
    (.lt none (.bin .gtr) [.v 21, .c (.int .i64 0)] 1 <|
    (.ite (.v 25)
     (.call none 6 [.v 2, .v 22, .v 23, .v 24] 13 [] <|
     (.bind 0
      (.lt none (.bin .eql) [.v 28, .c (.int .i64 3)] 1 <|
      (.call (some (.v 39, true)) 8 [.c (.int .i64 12), .v 36, .v 37, .v 38] 4 [.v 36, .v 37, .v 38] <|
      (.lt (some (.v 39, true)) .not [.v 40] 1 <|
      (.lt none .pick [.v 39, .v 44, .c (.bool false)] 1 <|
      (.ite (.v 45)
       (.leaf (.yield 0) [.c .undef, .c .undef, .v 41, .v 42, .v 43, .c (.int .i64 1)] ())
       (.leaf (.yield 0) [.c .undef, .c .undef, .v 41, .v 42, .v 43, .v 28] ())))))) <|
     (.bind 0
      (.lt none .len [.v 20] 1 <|
      (.lt none (.bin .gtr) [.v 45, .c (.int .i64 0)] 1 <|
      (.call (some (.v 46, true)) 8 [.c (.int .i64 3), .v 41, .v 42, .v 43] 4 [.v 41, .v 42, .v 43] <|
      (.lt none .pick [.v 46, .v 47, .c (.bool false)] 1 <|
      (.ite (.v 51)
       (.lt none .inb [.v 20, .c (.int .i64 0)] 0 <|
       (.lt none (.row 10 0 [true, true, true, true, true, true, true, true, true, false]) [.v 20, .c (.int .i64 0)] 10 <|
       (.call none 10 [.v 52, .v 53, .v 54, .v 55, .v 56, .v 57, .v 58, .v 59, .v 60, .v 61] 10 [] <|
       (.lt none (.dep 99) [.v 71] 0 <|
       (.leaf (.yield 0) [.c .undef, .v 48, .v 49, .v 50, .v 62, .v 63, .v 64, .v 65, .v 66, .v 67, .v 68, .v 69, .v 70, .v 71] ())))))
       (.leaf (.yield 0) [.c .undef, .v 48, .v 49, .v 50, .v 26, .v 27, .v 44, .v 29, .v 30, .v 31, .v 32, .v 33, .v 34, .v 35] ())))))) <|
     (.lt none (.mk 10 1) [.v 49, .v 50, .v 51, .v 52, .v 53, .v 54, .v 55, .v 56, .v 57, .v 58] 1 <|
     (.lt none (.app 10 96 false) [.v 20, .v 59] 1 <|
     (.lt none (.bin .sub) [.v 21, .c (.int .i64 1)] 1 <|
     (.leaf .cont [.v 60, .v 61, .v 46, .v 47, .v 48] ())))))))
     (.leaf (.yield 1) [.v 20, .v 22, .v 23, .v 24] ())))) <|
  (.leaf .ret [.v 2, .v 20] ()))))))))))))
/-- (*spec.l1Cur).among -/
def tm3 : Tm Unit :=
  (.lt none .len [.v 0] 1 <|
  (.call none 4 [.v 4, .v 1, .v 2, .v 3] 4 [] <|
  (.lt none .inb [.v 0, .v 5] 0 <|
  (.lt none (.row 1 0 [true]) [.v 0, .v 5] 1 <|
  (.leaf .ret [.v 9, .v 6, .v 7, .v 8] ())))))
/-- (*spec.l1Cur).pick -/
def tm4 : Tm Unit :=
  (.lt none (.bin .leq) [.v 0, .c (.int .i64 1)] 1 <|
  (.ite (.v 4)
   (.leaf .ret [.c (.int .i64 0), .v 1, .v 2, .v 3] ())
   (.call none 5 [.v 1, .v 2, .v 3] 4 [] <|
   (.bind 0
    (.lt none (.bin .gtr) [.v 0, .c (.int .i64 200)] 1 <|
    (.ite (.v 9)
     (.lt none (.bin .mul) [.v 5, .c (.int .i64 256)] 1 <|
     (.call none 5 [.v 6, .v 7, .v 8] 4 [] <|
     (.lt none (.bin .add) [.v 10, .v 11] 1 <|
     (.leaf (.yield 0) [.v 15, .v 12, .v 13, .v 14] ()))))
     (.leaf (.yield 0) [.v 5, .v 6, .v 7, .v 8] ()))) <|
   (.lt none (.bin .rem) [.v 9, .v 0] 1 <|
   (.leaf .ret [.v 13, .v 10, .v 11, .v 12] ()))))))
/-- (*spec.l1Cur).next -/
def tm5 : Tm Unit :=
  (.bind 0
   (.lt none .len [.v 0] 1 <|
   (.lt none (.bin .lss) [.v 1, .v 3] 1 <|
   (.ite (.v 4)
    (.lt none .inb [.v 0, .v 1] 0 <|
    (.lt none (.row 1 0 [true]) [.v 0, .v 1] 1 <|
    (.lt none (.conv .i64) [.v 5] 1 <|
    (.leaf (.yield 0) [.v 6] ()))))
    (.leaf (.yield 0) [.c (.int .i64 0)] ())))) <|
  (.lt none (.bin .add) [.v 1, .c (.int .i64 1)] 1 <|
  (.lt none (.bin .mul) [.v 2, .c (.int .u64 6364136223846793005)] 1 <|
  (.lt none (.conv .u64) [.v 3] 1 <|
  (.lt none (.bin .add) [.v 5, .v 6] 1 <|
  (.lt none (.bin .add) [.v 7, .c (.int .u64 1442695040888963407)] 1 <|
  (.lt none .len [.v 0] 1 <|
  (.lt none (.bin .leq) [.v 4, .v 9] 1 <|
  (.ite (.v 10)
   (.leaf .ret [.v 3, .v 0, .v 4, .v 8] ())
   (.lt none (.bin .shr) [.v 8, .c (.int .u64 40)] 1 <|
   (.lt none (.bin .and) [.v 11, .c (.int .u64 255)] 1 <|
   (.lt none (.conv .i64) [.v 12] 1 <|
   (.leaf .ret [.v 13, .v 0, .v 4, .v 8] ())))))))))))))
/-- (*spec.l1Cur).row -/
def tm6 : Tm Unit :=
  (.lt none (.mk 1 5) [.c (.int .i64 0), .c (.int .i64 0), .c (.int .i64 8), .c (.int .i64 9), .c (.int .i64 17)] 1 <|
  (.call none 3 [.v 4, .v 1, .v 2, .v 3] 4 [] <|
  (.call none 4 [.c (.int .i64 4), .v 6, .v 7, .v 8] 4 [] <|
  (.call none 7 [.v 10, .v 11, .v 12] 8 [] <|
  (.call none 4 [.c (.int .i64 5), .v 18, .v 19, .v 20] 4 [] <|
  (.bind 1
   (.loop [.c (.int .i64 0), .v 22, .v 23, .v 24, .c (.rows 1 [])]
    (.lt none (.bin .lss) [.v 25, .v 0] 1 <|
    (.ite (.v 30)
     (.call none 4 [.c (.int .i64 3), .v 26, .v 27, .v 28] 4 [] <|
     (.lt none (.mk 1 1) [.v 31] 1 <|
     (.lt none (.app 1 8 true) [.v 29, .v 35] 1 <|
     (.lt none (.bin .add) [.v 25, .c (.int .i64 1)] 1 <|
     (.leaf .cont [.v 37, .v 32, .v 33, .v 34, .v 36] ())))))
     (.leaf (.yield 1) [.v 26, .v 27, .v 28, .v 29] ())))) <|
  (.bind 0
   (.call none 8 [.c (.int .i64 2), .v 25, .v 26, .v 27] 4 [] <|
   (.ite (.v 29)
    (.leaf (.yield 0) [.v 30, .v 31, .v 32, .v 5] ())
    (.leaf (.yield 0) [.v 30, .v 31, .v 32, .c (.int .i64 0)] ()))) <|
  (.bind 0
   (.lt none (.bin .eql) [.v 9, .c (.int .i64 0)] 1 <|
   (.ite (.v 33)
    (.call none 9 [.v 0] 2 [] <|
    (.leaf (.yield 0) [.c (.int .i64 0), .c (.int .i64 0), .c (.int .i64 0), .c (.int .i64 0), .c (.int .i64 0), .c (.int .i64 0), .c (.int .i64 0), .v 34, .v 35] ()))
    (.leaf (.yield 0) [.v 32, .v 9, .v 13, .v 14, .v 15, .v 16, .v 17, .v 21, .v 28] ()))) <|
  (.leaf .ret [.v 5, .v 33, .v 34, .v 35, .v 36, .v 37, .v 38, .v 39, .v 40, .v 41, .v 29, .v 30, .v 31] ())))))))))
/-- (*spec.l1Cur).cmd -/
def tm7 : Tm Unit :=
  (.call none 4 [.c (.int .i64 9), .v 0, .v 1, .v 2] 4 [] <|
  (.lt none (.bin .add) [.c (.int .i64 1), .v 3] 1 <|
  (.call none 4 [.c (.int .i64 4), .v 4, .v 5, .v 6] 4 [] <|
  (.call none 4 [.c (.int .i64 30), .v 9, .v 10, .v 11] 4 [] <|
  (.lt none (.bin .add) [.c (.int .i64 1), .v 12] 1 <|
  (.lt none (.bin .add) [.v 8, .c (.int .i64 1)] 1 <|
  (.call none 4 [.c (.int .i64 3), .v 13, .v 14, .v 15] 4 [] <|
  (.lt none (.bin .add) [.v 17, .v 18] 1 <|
  (.lt none (.bin .rem) [.v 22, .c (.int .i64 4)] 1 <|
  (.call none 8 [.c (.int .i64 4), .v 19, .v 20, .v 21] 4 [] <|
  (.ite (.v 24)
   (.leaf .ret [.c (.int .i64 2), .v 7, .v 8, .c (.int .i64 0), .c (.int .i64 0), .v 25, .v 26, .v 27] ())
   (.leaf .ret [.c (.int .i64 1), .v 7, .v 8, .v 23, .v 16, .v 25, .v 26, .v 27] ()))))))))))))
/-- (*spec.l1Cur).one -/
def tm8 : Tm Unit :=
  (.call none 4 [.v 0, .v 1, .v 2, .v 3] 4 [] <|
  (.lt none (.bin .eql) [.v 4, .c (.int .i64 0)] 1 <|
  (.leaf .ret [.v 8, .v 5, .v 6, .v 7] ())))
/-- spec.l3None -/
def tm9 : Tm Unit :=
  (.lt none (.make 8 [(.int .i64 0)]) [.v 0] 1 <|
  (.leaf .ret [.c (.int .i64 0), .v 1] ()))
/-- spec.l4OwnRow -/
def tm10 : Tm Unit :=
  (.call none 11 [.v 8, .v 9] 2 [] <|
  (.leaf .ret [.v 0, .v 1, .v 2, .v 3, .v 4, .v 5, .v 6, .v 7, .v 10, .v 11] ()))
/-- spec.l4OwnAttr -/
def tm11 : Tm Unit :=
  (.call none 12 [.v 1] 1 [] <|
  (.leaf .ret [.v 0, .v 2] ()))
/-- spec.l1Own -/
def tm12 : Tm Unit :=
  (.lt none (.mk 1 0) [] 1 <|
  (.lt none (.app 1 8 true) [.v 1, .v 0] 1 <|
  (.leaf .ret [.v 2] ())))
/-- impl.ChooseOf -/
def tm13 : Tm Unit :=
  (.call none 14 [.v 0] 1 [] <|
  (.lt none .not [.v 2] 1 <|
  (.lt (some (.v 3, false)) .id [.v 0] 1 <|
  (.lt (some (.v 3, false)) .len [.v 1] 1 <|
  (.call (some (.v 3, false)) 15 [.v 4, .v 5] 1 [] <|
  (.lt (some (.v 3, false)) .not [.v 6] 1 <|
  (.lt none .pick [.v 3, .c (.bool true), .v 7] 1 <|
  (.lt (some (.v 8, false)) .len [.v 1] 1 <|
  (.lt (some (.v 8, false)) .id [.v 0] 1 <|
  (.lt (some (.v 8, false)) (.bin .gtr) [.v 9, .v 10] 1 <|
  (.lt none .pick [.v 8, .c (.bool true), .v 11] 1 <|
  (.call (some (.v 12, false)) 16 [.v 1, .v 0] 1 [] <|
  (.lt none .pick [.v 12, .c (.bool true), .v 13] 1 <|
  (.ite (.v 14)
   (.leaf .ret [.c (.int .i64 0), .c (.int .i64 0), .c (.int .i64 0), .c (.int .i64 0), .c (.int .i64 0), .c (.int .i64 0), .c (.int .i64 0), .c (.rows 1 []), .c (.bool false)] ())
   (.call none 30 [.v 0, .v 1] 8 [] <|
   (.leaf .ret [.v 15, .v 16, .v 17, .v 18, .v 19, .v 20, .v 21, .v 22, .c (.bool true)] ()))))))))))))))))
/-- impl.IsGroup -/
def tm14 : Tm Unit :=
  (.lt none (.bin .eql) [.v 0, .c (.int .i64 3)] 1 <|
  (.lt (some (.v 1, false)) .id [.v 0] 1 <|
  (.lt (some (.v 1, false)) (.bin .eql) [.v 2, .c (.int .i64 5)] 1 <|
  (.lt none .pick [.v 1, .c (.bool true), .v 3] 1 <|
  (.leaf .ret [.v 4] ())))))
/-- impl.isMajority -/
def tm15 : Tm Unit :=
  (.lt none (.bin .quo) [.v 0, .c (.int .i64 2)] 1 <|
  (.lt none (.bin .gtr) [.v 1, .v 2] 1 <|
  (.leaf .ret [.v 3] ())))
/-- slices.ContainsFunc[[]impl.Row,impl.Row]@impl.ChooseOf$1 -/
def tm16 : Tm Unit :=
  (.call none 17 [.v 0, .v 1] 1 [] <|
  (.lt none (.bin .geq) [.v 2, .c (.int .i64 0)] 1 <|
  (.leaf .ret [.v 3] ())))
/-- slices.IndexFunc[[]impl.Row,impl.Row]@impl.ChooseOf$1 -/
def tm17 : Tm Unit :=
  (.lt none .len [.v 0] 1 <|
  (.bind 1
   (.loop [.c (.int .i64 0)]
    (.lt none (.bin .lss) [.v 3, .v 2] 1 <|
    (.ite (.v 4)
     (.lt none .inb [.v 0, .v 3] 0 <|
     (.lt none (.row 10 0 [true, true, true, true, true, true, true, true, true, false]) [.v 0, .v 3] 10 <|
     (.call none 18 [.v 5, .v 6, .v 7, .v 8, .v 9, .v 10, .v 11, .v 12, .v 13, .v 14, .v 1] 1 [] <|
     (.ite (.v 15)
      (.leaf .ret [.v 3] ())
      (.lt none (.bin .add) [.v 3, .c (.int .i64 1)] 1 <|
      (.leaf .cont [.v 16] ()))))))
     (.leaf (.yield 1) [] ())))) <|
  (.leaf .ret [.c (.int .i64 (-1))] ())))
/-- impl.ChooseOf$1 -/
def tm18 : Tm Unit :=
  (.call none 19 [.v 10, .v 0, .v 1, .v 2, .v 3, .v 4, .v 5, .v 6, .v 7, .v 8, .v 9] 1 [] <|
  (.lt none .not [.v 11] 1 <|
  (.lt (some (.v 12, false)) .id [.v 2] 1 <|
  (.lt (some (.v 12, false)) (.bin .eql) [.v 13, .c (.int .i64 3)] 1 <|
  (.lt none .pick [.v 12, .c (.bool true), .v 14] 1 <|
  (.leaf .ret [.v 15] ()))))))
/-- impl.goodRow -/
def tm19 : Tm Unit :=
  (.call none 20 [.v 1, .c (.int .i64 0), .c (.int .i64 9999)] 1 [] <|
  (.lt none .not [.v 11] 1 <|
  (.lt (some (.v 12, false)) .id [.v 2] 1 <|
  (.lt (some (.v 12, false)) .id [.v 1] 1 <|
  (.call (some (.v 12, false)) 20 [.v 13, .c (.int .i64 0), .v 14] 1 [] <|
  (.lt (some (.v 12, false)) .not [.v 15] 1 <|
  (.lt none .pick [.v 12, .c (.bool true), .v 16] 1 <|
  (.lt (some (.v 17, false)) .id [.v 3] 1 <|
  (.call (some (.v 17, false)) 20 [.v 18, .c (.int .i64 0), .c (.int .i64 3)] 1 [] <|
  (.lt (some (.v 17, false)) .not [.v 19] 1 <|
  (.lt none .pick [.v 17, .c (.bool true), .v 20] 1 <|
  (.call (some (.v 21, false)) 21 [.v 4, .v 5, .v 6, .v 7, .v 8] 1 [] <|
  (.lt (some (.v 21, false)) .not [.v 22] 1 <|
  (.lt none .pick [.v 21, .c (.bool true), .v 23] 1 <|
  (.lt (some (.v 24, false)) .id [.v 0] 1 <|
  (.call (some (.v 24, false)) 23 [.v 25, .v 9, .v 10] 1 [] <|
  (.lt (some (.v 24, false)) .not [.v 26] 1 <|
  (.lt none .pick [.v 24, .c (.bool true), .v 27] 1 <|
  (.ite (.v 28)
   (.leaf .ret [.c (.bool false)] ())
   (.lt none (.bin .neq) [.v 3, .c (.int .i64 0)] 1 <|
   (.lt (some (.v 29, false)) .id [.v 2] 1 <|
   (.lt (some (.v 29, false)) (.bin .eql) [.v 30, .c (.int .i64 0)] 1 <|
   (.lt (some (.v 29, false)) .id [.v 31] 1 <|
   (.lt (some (.v 32, true)) (.eqs [0, 0, 0, 0, 0]) [.v 4, .v 5, .v 6, .v 7, .v 8, .c (.int .i64 0), .c (.int .i64 0), .c (.int .i64 0), .c (.int .i64 0), .c (.int .i64 0)] 1 <|
   (.lt (some (.v 29, false)) .pick [.v 32, .v 33, .c (.bool false)] 1 <|
   (.lt (some (.v 29, false)) .id [.v 34] 1 <|
   (.lt (some (.v 35, true)) .id [.v 0] 1 <|
   (.call (some (.v 35, true)) 27 [.v 36] 2 [] <|
   (.call (some (.v 35, true)) 28 [.v 9, .v 10, .v 37, .v 38] 1 [] <|
   (.lt (some (.v 29, false)) .pick [.v 35, .v 39, .c (.bool false)] 1 <|
   (.lt none .pick [.v 29, .c (.bool true), .v 40] 1 <|
   (.leaf .ret [.v 41] ()))))))))))))))))))))))))))))))))
/-- impl.within -/
def tm20 : Tm Unit :=
  (.lt none (.bin .leq) [.v 1, .v 0] 1 <|
  (.lt (some (.v 3, true)) .id [.v 0] 1 <|
  (.lt (some (.v 3, true)) .id [.v 2] 1 <|
  (.lt (some (.v 3, true)) (.bin .leq) [.v 4, .v 5] 1 <|
  (.lt none .pick [.v 3, .v 6, .c (.bool false)] 1 <|
  (.leaf .ret [.v 7] ()))))))
/-- impl.GoodCmd -/
def tm21 : Tm Unit :=
  (.lt none (.bin .eql) [.v 0, .c (.int .i64 0)] 1 <|
  (.ite (.v 5)
   (.lt none (.eqs [0, 0, 0, 0, 0]) [.v 0, .v 1, .v 2, .v 3, .v 4, .c (.int .i64 0), .c (.int .i64 0), .c (.int .i64 0), .c (.int .i64 0), .c (.int .i64 0)] 1 <|
   (.leaf .ret [.v 6] ()))
   (.lt none (.bin .eql) [.v 0, .c (.int .i64 1)] 1 <|
   (.ite (.v 6)
    (.call none 20 [.v 1, .c (.int .i64 1), .c (.int .i64 999)] 1 [] <|
    (.lt (some (.v 7, true)) .id [.v 2] 1 <|
    (.call (some (.v 7, true)) 22 [.v 8] 1 [] <|
    (.lt none .pick [.v 7, .v 9, .c (.bool false)] 1 <|
    (.lt (some (.v 10, true)) .id [.v 3] 1 <|
    (.call (some (.v 10, true)) 22 [.v 11] 1 [] <|
    (.lt none .pick [.v 10, .v 12, .c (.bool false)] 1 <|
    (.lt (some (.v 13, true)) .id [.v 2] 1 <|
    (.lt (some (.v 13, true)) .id [.v 3] 1 <|
    (.lt (some (.v 13, true)) (.bin .neq) [.v 14, .v 15] 1 <|
    (.lt none .pick [.v 13, .v 16, .c (.bool false)] 1 <|
    (.lt (some (.v 17, true)) .id [.v 4] 1 <|
    (.call (some (.v 17, true)) 20 [.v 18, .c (.int .i64 1), .c (.int .i64 1000)] 1 [] <|
    (.lt none .pick [.v 17, .v 19, .c (.bool false)] 1 <|
    (.leaf .ret [.v 20] ())))))))))))))))
    (.lt none (.bin .eql) [.v 0, .c (.int .i64 2)] 1 <|
    (.lt (some (.v 7, true)) .id [.v 1] 1 <|
    (.call (some (.v 7, true)) 20 [.v 8, .c (.int .i64 1), .c (.int .i64 999)] 1 [] <|
    (.lt none .pick [.v 7, .v 9, .c (.bool false)] 1 <|
    (.lt (some (.v 10, true)) .id [.v 2] 1 <|
    (.call (some (.v 10, true)) 22 [.v 11] 1 [] <|
    (.lt none .pick [.v 10, .v 12, .c (.bool false)] 1 <|
    (.lt (some (.v 13, true)) .id [.v 3] 1 <|
    (.lt (some (.v 13, true)) (.bin .eql) [.v 14, .c (.int .i64 0)] 1 <|
    (.lt none .pick [.v 13, .v 15, .c (.bool false)] 1 <|
    (.lt (some (.v 16, true)) .id [.v 4] 1 <|
    (.lt (some (.v 16, true)) (.bin .eql) [.v 17, .c (.int .i64 0)] 1 <|
    (.lt none .pick [.v 16, .v 18, .c (.bool false)] 1 <|
    (.leaf .ret [.v 19] ()))))))))))))))))))
/-- impl.isAccount -/
def tm22 : Tm Unit :=
  (.call none 20 [.v 0, .c (.int .i64 0), .c (.int .i64 3)] 1 [] <|
  (.leaf .ret [.v 1] ()))
/-- impl.GoodAttr -/
def tm23 : Tm Unit :=
  (.call none 14 [.v 0] 1 [] <|
  (.lt (some (.v 3, true)) .id [.v 1] 1 <|
  (.call (some (.v 3, true)) 20 [.v 4, .c (.int .i64 0), .c (.int .i64 999)] 1 [] <|
  (.lt none .pick [.v 3, .v 5, .c (.bool false)] 1 <|
  (.lt (some (.v 6, true)) .len [.v 2] 1 <|
  (.lt (some (.v 6, true)) .id [.v 0] 1 <|
  (.lt (some (.v 6, true)) (.bin .eql) [.v 7, .v 8] 1 <|
  (.lt none .pick [.v 6, .v 9, .c (.bool false)] 1 <|
  (.call (some (.v 10, true)) 24 [.v 2] 1 [] <|
  (.lt (some (.v 10, true)) .not [.v 11] 1 <|
  (.lt none .pick [.v 10, .v 12, .c (.bool false)] 1 <|
  (.leaf .ret [.v 13] ()))))))))))))
/-- slices.ContainsFunc[[]int,int]@impl.GoodAttr$1 -/
def tm24 : Tm Unit :=
  (.call none 25 [.v 0] 1 [] <|
  (.lt none (.bin .geq) [.v 1, .c (.int .i64 0)] 1 <|
  (.leaf .ret [.v 2] ())))
/-- slices.IndexFunc[[]int,int]@impl.GoodAttr$1 -/
def tm25 : Tm Unit :=
  (.lt none .len [.v 0] 1 <|
  (.bind 1
   (.loop [.c (.int .i64 0)]
    (.lt none (.bin .lss) [.v 2, .v 1] 1 <|
    (.ite (.v 3)
     (.lt none .inb [.v 0, .v 2] 0 <|
     (.lt none (.row 1 0 [true]) [.v 0, .v 2] 1 <|
     (.call none 26 [.v 4] 1 [] <|
     (.ite (.v 5)
      (.leaf .ret [.v 2] ())
      (.lt none (.bin .add) [.v 2, .c (.int .i64 1)] 1 <|
      (.leaf .cont [.v 6] ()))))))
     (.leaf (.yield 1) [] ())))) <|
  (.leaf .ret [.c (.int .i64 (-1))] ())))
/-- impl.GoodAttr$1 -/
def tm26 : Tm Unit :=
  (.call none 20 [.v 0, .c (.int .i64 0), .c (.int .i64 6)] 1 [] <|
  (.lt none .not [.v 1] 1 <|
  (.leaf .ret [.v 2] ())))
/-- impl.noneAttr -/
def tm27 : Tm Unit :=
  (.lt none (.make 8 [(.int .i64 0)]) [.v 0] 1 <|
  (.leaf .ret [.c (.int .i64 0), .v 1] ()))
/-- impl.SameAttr -/
def tm28 : Tm Unit :=
  (.lt none (.bin .eql) [.v 0, .v 2] 1 <|
  (.call (some (.v 4, true)) 29 [.v 1, .v 3] 1 [] <|
  (.lt none .pick [.v 4, .v 5, .c (.bool false)] 1 <|
  (.leaf .ret [.v 6] ()))))
/-- slices.Equal[[]int,int] -/
def tm29 : Tm Unit :=
  (.lt none .len [.v 0] 1 <|
  (.lt none .len [.v 1] 1 <|
  (.lt none (.bin .neq) [.v 2, .v 3] 1 <|
  (.ite (.v 4)
   (.leaf .ret [.c (.bool false)] ())
   (.lt none .len [.v 0] 1 <|
   (.bind 1
    (.loop [.c (.int .i64 0)]
     (.lt none (.bin .lss) [.v 6, .v 5] 1 <|
     (.ite (.v 7)
      (.lt none .inb [.v 0, .v 6] 0 <|
      (.lt none (.row 1 0 [true]) [.v 0, .v 6] 1 <|
      (.lt none .inb [.v 1, .v 6] 0 <|
      (.lt none (.row 1 0 [true]) [.v 1, .v 6] 1 <|
      (.lt none (.bin .neq) [.v 8, .v 9] 1 <|
      (.ite (.v 10)
       (.leaf .ret [.c (.bool false)] ())
       (.lt none (.bin .add) [.v 6, .c (.int .i64 1)] 1 <|
       (.leaf .cont [.v 11] ()))))))))
      (.leaf (.yield 1) [] ())))) <|
   (.leaf .ret [.c (.bool true)] ())))))))
/-- impl.chooseOf -/
def tm30 : Tm Unit :=
  (.call none 31 [.c (.int .i64 2), .v 1] 1 [] <|
  (.lt none .emp [.v 2] 1 <|
  (.lt none .not [.v 3] 1 <|
  (.ite (.v 4)
   (.lt none .ne [.v 2] 0 <|
   (.lt none (.row 10 3 [true, true, true, true, true]) [.v 2, .c (.int .i64 0)] 5 <|
   (.lt none .ne [.v 2] 0 <|
   (.lt none (.row 10 8 [true, false]) [.v 2, .c (.int .i64 0)] 2 <|
   (.call none 32 [.v 10, .v 11] 2 [] <|
   (.leaf .ret [.c (.int .i64 1), .v 5, .v 6, .v 7, .v 8, .v 9, .v 12, .v 13] ()))))))
   (.call none 34 [.v 1, .v 1] 1 [] <|
   (.lt none .not [.v 5] 1 <|
   (.ite (.v 6)
    (.lt none .inb [.v 1, .c (.int .i64 0)] 0 <|
    (.lt none (.row 10 3 [true, true, true, true, true]) [.v 1, .c (.int .i64 0)] 5 <|
    (.lt none .inb [.v 1, .c (.int .i64 0)] 0 <|
    (.lt none (.row 10 8 [true, false]) [.v 1, .c (.int .i64 0)] 2 <|
    (.call none 32 [.v 12, .v 13] 2 [] <|
    (.leaf .ret [.c (.int .i64 1), .v 7, .v 8, .v 9, .v 10, .v 11, .v 14, .v 15] ()))))))
    (.call none 31 [.c (.int .i64 1), .v 1] 1 [] <|
    (.lt none .emp [.v 7] 1 <|
    (.ite (.v 8)
     (.call none 27 [.v 0] 2 [] <|
     (.leaf .ret [.c (.int .i64 3), .c (.int .i64 0), .c (.int .i64 0), .c (.int .i64 0), .c (.int .i64 0), .c (.int .i64 0), .v 9, .v 10] ()))
     (.call none 27 [.v 0] 2 [] <|
     (.lt none .len [.v 1] 1 <|
     (.bind 1
      (.loop [.c (.int .i64 0), .v 9, .v 10]
       (.lt none (.bin .lss) [.v 12, .v 11] 1 <|
       (.ite (.v 15)
        (.bind 0
         (.lt none .inb [.v 1, .v 12] 0 <|
         (.lt none (.row 10 0 [true, true, true, true, true, true, true, true, true, false]) [.v 1, .v 12] 10 <|
         (.lt none (.bin .eql) [.v 18, .c (.int .i64 1)] 1 <|
         (.ite (.v 26)
          (.call none 37 [.v 13, .v 14, .v 24, .v 25] 2 [] <|
          (.lt none (.dep 99) [.v 28] 0 <|
          (.leaf (.yield 0) [.v 27, .v 28] ())))
          (.leaf (.yield 0) [.v 13, .v 14] ()))))) <|
        (.lt none (.bin .add) [.v 12, .c (.int .i64 1)] 1 <|
        (.leaf .cont [.v 18, .v 16, .v 17] ())))
        (.leaf (.yield 1) [.v 13, .v 14] ())))) <|
     (.lt none .ne [.v 7] 0 <|
     (.lt none (.row 10 3 [true, true, true, true, true]) [.v 7, .c (.int .i64 0)] 5 <|
     (.leaf .ret [.c (.int .i64 2), .v 14, .v 15, .v 16, .v 17, .v 18, .v 12, .v 13] ()))))))))))))))))
/-- impl.chooseOf$1 -/
def tm31 : Tm Unit :=
  (.lt none .len [.v 1] 1 <|
  (.bind 1
   (.loop [.c (.rows 10 []), .c (.int .i64 0)]
    (.lt none (.bin .lss) [.v 4, .v 2] 1 <|
    (.ite (.v 5)
     (.bind 0
      (.lt none .inb [.v 1, .v 4] 0 <|
      (.lt none (.row 10 2 [true]) [.v 1, .v 4] 1 <|
      (.lt none (.bin .eql) [.v 6, .v 0] 1 <|
      (.lt (some (.v 7, true)) .emp [.v 3] 1 <|
      (.lt (some (.v 7, true)) .id [.v 8] 1 <|
      (.lt (some (.v 9, false)) (.row 10 1 [true]) [.v 1, .v 4] 1 <|
      (.lt (some (.v 9, false)) .ne [.v 3] 0 <|
      (.lt (some (.v 9, false)) (.row 10 1 [true]) [.v 3, .c (.int .i64 0)] 1 <|
      (.lt (some (.v 9, false)) (.bin .gtr) [.v 10, .v 11] 1 <|
      (.lt (some (.v 7, true)) .pick [.v 9, .c (.bool true), .v 12] 1 <|
      (.lt none .pick [.v 7, .v 13, .c (.bool false)] 1 <|
      (.ite (.v 14)
       (.lt none (.one 10) [.v 1, .v 4] 1 <|
       (.leaf (.yield 0) [.v 15, .c .undef, .c .undef, .c .undef, .c .undef, .c .undef, .c .undef] ()))
       (.leaf (.yield 0) [.v 3, .c .undef, .c .undef, .c .undef, .c .undef, .c .undef, .c .undef] ()))))))))))))) <|
     (.lt none (.bin .add) [.v 4, .c (.int .i64 1)] 1 <|
     (.leaf .cont [.v 6, .v 13] ())))
     (.leaf (.yield 1) [.v 3] ())))) <|
  (.leaf .ret [.v 3] ())))
/-- (impl.Attr).copied -/
def tm32 : Tm Unit :=
  (.call none 33 [.v 1] 1 [] <|
  (.leaf .ret [.v 0, .v 2] ()))
/-- slices.Clone[[]int,int] -/
def tm33 : Tm Unit :=
  (.lt none .ne [.v 0] 0 <|
  (.lt none .emp [.v 0] 1 <|
  (.ite (.v 1)
   (.leaf .ret [.c (.rows 1 [])] ())
   (.lt none (.mk 1 0) [] 1 <|
   (.lt none (.app 1 8 true) [.v 2, .v 0] 1 <|
   (.leaf .ret [.v 3] ()))))))
/-- slices.ContainsFunc[[]impl.Row,impl.Row]@impl.chooseOf$2 -/
def tm34 : Tm Unit :=
  (.call none 35 [.v 0, .v 1] 1 [] <|
  (.lt none (.bin .geq) [.v 2, .c (.int .i64 0)] 1 <|
  (.leaf .ret [.v 3] ())))
/-- slices.IndexFunc[[]impl.Row,impl.Row]@impl.chooseOf$2 -/
def tm35 : Tm Unit :=
  (.lt none .len [.v 0] 1 <|
  (.bind 1
   (.loop [.c (.int .i64 0)]
    (.lt none (.bin .lss) [.v 3, .v 2] 1 <|
    (.ite (.v 4)
     (.lt none .inb [.v 0, .v 3] 0 <|
     (.lt none (.row 10 0 [true, true, true, true, true, true, true, true, true, false]) [.v 0, .v 3] 10 <|
     (.call none 36 [.v 5, .v 6, .v 7, .v 8, .v 9, .v 10, .v 11, .v 12, .v 13, .v 14, .v 1] 1 [] <|
     (.ite (.v 15)
      (.leaf .ret [.v 3] ())
      (.lt none (.bin .add) [.v 3, .c (.int .i64 1)] 1 <|
      (.leaf .cont [.v 16] ()))))))
     (.leaf (.yield 1) [] ())))) <|
  (.leaf .ret [.c (.int .i64 (-1))] ())))
/-- impl.chooseOf$2 -/
def tm36 : Tm Unit :=
  (.lt none (.bin .neq) [.v 2, .c (.int .i64 1)] 1 <|
  (.lt (some (.v 11, false)) .id [.v 1] 1 <|
  (.lt (some (.v 11, false)) (.bin .neq) [.v 12, .c (.int .i64 0)] 1 <|
  (.lt none .pick [.v 11, .c (.bool true), .v 13] 1 <|
  (.lt (some (.v 14, false)) .inb [.v 10, .c (.int .i64 0)] 0 <|
  (.lt (some (.v 14, false)) (.row 10 3 [true, true, true, true, true]) [.v 10, .c (.int .i64 0)] 5 <|
  (.lt (some (.v 14, false)) (.eqs [0, 0, 0, 0, 0]) [.v 3, .v 4, .v 5, .v 6, .v 7, .v 15, .v 16, .v 17, .v 18, .v 19] 1 <|
  (.lt (some (.v 14, false)) .not [.v 20] 1 <|
  (.lt none .pick [.v 14, .c (.bool true), .v 21] 1 <|
  (.lt (some (.v 22, false)) .inb [.v 10, .c (.int .i64 0)] 0 <|
  (.lt (some (.v 22, false)) (.row 10 8 [true, false]) [.v 10, .c (.int .i64 0)] 2 <|
  (.call (some (.v 22, false)) 28 [.v 8, .v 9, .v 23, .v 24] 1 [] <|
  (.lt (some (.v 22, false)) .not [.v 25] 1 <|
  (.lt none .pick [.v 22, .c (.bool true), .v 26] 1 <|
  (.leaf .ret [.v 27] ())))))))))))))))
/-- (impl.Attr).join -/
def tm37 : Tm Unit :=
  (.lt none .max [.v 0, .v 2] 1 <|
  (.lt none .len [.v 1] 1 <|
  (.bind 1
   (.loop [.c (.int .i64 0), .c (.rows 1 [])]
    (.lt none (.bin .lss) [.v 6, .v 5] 1 <|
    (.ite (.v 8)
     (.lt none .inb [.v 1, .v 6] 0 <|
     (.lt none (.row 1 0 [true]) [.v 1, .v 6] 1 <|
     (.lt none .inb [.v 3, .v 6] 0 <|
     (.lt none (.row 1 0 [true]) [.v 3, .v 6] 1 <|
     (.lt none .max [.v 9, .v 10] 1 <|
     (.lt none (.mk 1 1) [.v 11] 1 <|
     (.lt none (.app 1 8 true) [.v 7, .v 12] 1 <|
     (.lt none (.bin .add) [.v 6, .c (.int .i64 1)] 1 <|
     (.leaf .cont [.v 14, .v 13] ())))))))))
     (.leaf (.yield 1) [.v 7] ())))) <|
  (.leaf .ret [.v 4, .v 6] ()))))
/-- spec.ChooseOf -/
def tm38 : Tm Unit :=
  (.call none 39 [.v 0] 2 [] <|
  (.lt none .not [.v 3] 1 <|
  (.lt (some (.v 4, false)) .len [.v 1] 1 <|
  (.lt (some (.v 4, false)) .id [.v 2] 1 <|
  (.lt (some (.v 4, false)) .id [.v 0] 1 <|
  (.call (some (.v 4, false)) 41 [.v 5, .v 6, .v 7] 1 [] <|
  (.lt (some (.v 4, false)) .not [.v 8] 1 <|
  (.lt none .pick [.v 4, .c (.bool true), .v 9] 1 <|
  (.ite (.v 10)
   (.leaf .ret [.c (.int .i64 0), .c (.int .i64 0), .c (.int .i64 0), .c (.int .i64 0), .c (.int .i64 0), .c (.int .i64 0), .c (.int .i64 0), .c (.rows 1 []), .c (.bool false)] ())
   (.lt none .len [.v 1] 1 <|
   (.bind 1
    (.loop [.c (.int .i64 0)]
     (.lt none (.bin .lss) [.v 12, .v 11] 1 <|
     (.ite (.v 13)
      (.lt none .inb [.v 1, .v 12] 0 <|
      (.lt none (.row 10 0 [true, true, true, true, true, true, true, true, true, false]) [.v 1, .v 12] 10 <|
      (.call none 42 [.v 0, .v 14, .v 15, .v 16, .v 17, .v 18, .v 19, .v 20, .v 21, .v 22, .v 23] 1 [] <|
      (.lt none .not [.v 24] 1 <|
      (.lt (some (.v 25, false)) .id [.v 16] 1 <|
      (.lt (some (.v 25, false)) (.bin .eql) [.v 26, .c (.int .i64 3)] 1 <|
      (.lt none .pick [.v 25, .c (.bool true), .v 27] 1 <|
      (.ite (.v 28)
       (.leaf .ret [.c (.int .i64 0), .c (.int .i64 0), .c (.int .i64 0), .c (.int .i64 0), .c (.int .i64 0), .c (.int .i64 0), .c (.int .i64 0), .c (.rows 1 []), .c (.bool false)] ())
       (.lt none (.bin .add) [.v 12, .c (.int .i64 1)] 1 <|
       (.leaf .cont [.v 29] ()))))))))))
      (.leaf (.yield 1) [] ())))) <|
   (.call none 50 [.v 0, .v 1] 8 [] <|
   (.leaf .ret [.v 12, .v 13, .v 14, .v 15, .v 16, .v 17, .v 18, .v 19, .c (.bool true)] ())))))))))))))
/-- spec.Majority -/
def tm39 : Tm Unit :=
  (.call none 40 [.v 0] 1 [] <|
  (.lt none .not [.v 1] 1 <|
  (.ite (.v 2)
   (.leaf .ret [.c (.int .i64 0), .c (.bool false)] ())
   (.lt none (.bin .quo) [.v 0, .c (.int .i64 2)] 1 <|
   (.lt none (.bin .add) [.v 3, .c (.int .i64 1)] 1 <|
   (.leaf .ret [.v 4, .c (.bool true)] ()))))))
/-- spec.IsGroup -/
def tm40 : Tm Unit :=
  (.lt none (.bin .eql) [.v 0, .c (.int .i64 3)] 1 <|
  (.lt (some (.v 1, false)) .id [.v 0] 1 <|
  (.lt (some (.v 1, false)) (.bin .eql) [.v 2, .c (.int .i64 5)] 1 <|
  (.lt none .pick [.v 1, .c (.bool true), .v 3] 1 <|
  (.leaf .ret [.v 4] ())))))
/-- spec.l1In -/
def tm41 : Tm Unit :=
  (.lt none (.bin .geq) [.v 0, .v 1] 1 <|
  (.lt (some (.v 3, true)) .id [.v 0] 1 <|
  (.lt (some (.v 3, true)) .id [.v 2] 1 <|
  (.lt (some (.v 3, true)) (.bin .leq) [.v 4, .v 5] 1 <|
  (.lt none .pick [.v 3, .v 6, .c (.bool false)] 1 <|
  (.leaf .ret [.v 7] ()))))))
/-- spec.l4Row -/
def tm42 : Tm Unit :=
  (.call none 41 [.v 1, .c (.int .i64 0), .c (.int .i64 9999)] 1 [] <|
  (.lt none .not [.v 11] 1 <|
  (.lt (some (.v 12, false)) .id [.v 2] 1 <|
  (.lt (some (.v 12, false)) .id [.v 1] 1 <|
  (.call (some (.v 12, false)) 41 [.v 13, .c (.int .i64 0), .v 14] 1 [] <|
  (.lt (some (.v 12, false)) .not [.v 15] 1 <|
  (.lt none .pick [.v 12, .c (.bool true), .v 16] 1 <|
  (.lt (some (.v 17, false)) .id [.v 3] 1 <|
  (.call (some (.v 17, false)) 41 [.v 18, .c (.int .i64 0), .c (.int .i64 3)] 1 [] <|
  (.lt (some (.v 17, false)) .not [.v 19] 1 <|
  (.lt none .pick [.v 17, .c (.bool true), .v 20] 1 <|
  (.ite (.v 21)
   (.leaf .ret [.c (.bool false)] ())
   (.lt none (.bin .eql) [.v 3, .c (.int .i64 0)] 1 <|
   (.ite (.v 22)
    (.lt none (.bin .eql) [.v 2, .c (.int .i64 0)] 1 <|
    (.lt (some (.v 23, true)) (.eqs [0, 0, 0, 0, 0]) [.v 4, .v 5, .v 6, .v 7, .v 8, .c (.int .i64 0), .c (.int .i64 0), .c (.int .i64 0), .c (.int .i64 0), .c (.int .i64 0)] 1 <|
    (.lt none .pick [.v 23, .v 24, .c (.bool false)] 1 <|
    (.lt (some (.v 25, true)) .id [.v 0] 1 <|
    (.call (some (.v 25, true)) 9 [.v 26] 2 [] <|
    (.call (some (.v 25, true)) 43 [.v 9, .v 10, .v 27, .v 28] 1 [] <|
    (.lt none .pick [.v 25, .v 29, .c (.bool false)] 1 <|
    (.leaf .ret [.v 30] ()))))))))
    (.call none 45 [.v 4, .v 5, .v 6, .v 7, .v 8] 1 [] <|
    (.lt (some (.v 23, true)) .id [.v 0] 1 <|
    (.call (some (.v 23, true)) 48 [.v 24, .v 9, .v 10] 1 [] <|
    (.lt none .pick [.v 23, .v 25, .c (.bool false)] 1 <|
    (.leaf .ret [.v 26] ())))))))))))))))))))
/-- spec.SameAttr -/
def tm43 : Tm Unit :=
  (.lt none (.bin .eql) [.v 0, .v 2] 1 <|
  (.call (some (.v 4, true)) 44 [.v 1, .v 3] 1 [] <|
  (.lt none .pick [.v 4, .v 5, .c (.bool false)] 1 <|
  (.leaf .ret [.v 6] ()))))
/-- spec.l1Same -/
def tm44 : Tm Unit :=
  (.lt none .len [.v 0] 1 <|
  (.lt none .len [.v 1] 1 <|
  (.lt none (.bin .neq) [.v 2, .v 3] 1 <|
  (.ite (.v 4)
   (.leaf .ret [.c (.bool false)] ())
   (.lt none .len [.v 0] 1 <|
   (.bind 1
    (.loop [.c (.int .i64 0)]
     (.lt none (.bin .lss) [.v 6, .v 5] 1 <|
     (.ite (.v 7)
      (.lt none .inb [.v 0, .v 6] 0 <|
      (.lt none (.row 1 0 [true]) [.v 0, .v 6] 1 <|
      (.lt none .inb [.v 1, .v 6] 0 <|
      (.lt none (.row 1 0 [true]) [.v 1, .v 6] 1 <|
      (.lt none (.bin .neq) [.v 8, .v 9] 1 <|
      (.ite (.v 10)
       (.leaf .ret [.c (.bool false)] ())
       (.lt none (.bin .add) [.v 6, .c (.int .i64 1)] 1 <|
       (.leaf .cont [.v 11] ()))))))))
      (.leaf (.yield 1) [] ())))) <|
   (.leaf .ret [.c (.bool true)] ())))))))
/-- spec.GoodCmd -/
def tm45 : Tm Unit :=
  (.lt none (.bin .eql) [.v 0, .c (.int .i64 0)] 1 <|
  (.ite (.v 5)
   (.lt none (.eqs [0, 0, 0, 0, 0]) [.v 0, .v 1, .v 2, .v 3, .v 4, .c (.int .i64 0), .c (.int .i64 0), .c (.int .i64 0), .c (.int .i64 0), .c (.int .i64 0)] 1 <|
   (.leaf .ret [.v 6] ()))
   (.lt none (.bin .eql) [.v 0, .c (.int .i64 1)] 1 <|
   (.ite (.v 6)
    (.call none 46 [.v 0, .v 1, .v 2, .v 3, .v 4] 1 [] <|
    (.lt none (.bin .eql) [.v 7, .c (.int .i64 0)] 1 <|
    (.leaf .ret [.v 8] ())))
    (.lt none (.bin .eql) [.v 0, .c (.int .i64 2)] 1 <|
    (.ite (.v 7)
     (.call none 46 [.v 0, .v 1, .v 2, .v 3, .v 4] 1 [] <|
     (.lt none (.bin .eql) [.v 8, .c (.int .i64 0)] 1 <|
     (.lt (some (.v 9, true)) .id [.v 3] 1 <|
     (.lt (some (.v 9, true)) (.bin .eql) [.v 10, .c (.int .i64 0)] 1 <|
     (.lt none .pick [.v 9, .v 11, .c (.bool false)] 1 <|
     (.lt (some (.v 12, true)) .id [.v 4] 1 <|
     (.lt (some (.v 12, true)) (.bin .eql) [.v 13, .c (.int .i64 0)] 1 <|
     (.lt none .pick [.v 12, .v 14, .c (.bool false)] 1 <|
     (.leaf .ret [.v 15] ())))))))))
     (.leaf .ret [.c (.bool false)] ())))))))
/-- spec.l2Code -/
def tm46 : Tm Unit :=
  (.lt none (.bin .eql) [.v 0, .c (.int .i64 1)] 1 <|
  (.call none 47 [.v 2] 1 [] <|
  (.lt none .not [.v 6] 1 <|
  (.lt (some (.v 7, false)) .id [.v 5] 1 <|
  (.lt (some (.v 7, false)) .id [.v 8] 1 <|
  (.lt (some (.v 9, true)) .id [.v 3] 1 <|
  (.call (some (.v 9, true)) 47 [.v 10] 1 [] <|
  (.lt (some (.v 9, true)) .not [.v 11] 1 <|
  (.lt (some (.v 7, false)) .pick [.v 9, .v 12, .c (.bool false)] 1 <|
  (.lt none .pick [.v 7, .c (.bool true), .v 13] 1 <|
  (.ite (.v 14)
   (.leaf .ret [.c (.int .i64 4)] ())
   (.lt (some (.v 5, true)) .id [.v 2] 1 <|
   (.lt (some (.v 5, true)) .id [.v 3] 1 <|
   (.lt (some (.v 5, true)) (.bin .eql) [.v 15, .v 16] 1 <|
   (.lt none .pick [.v 5, .v 17, .c (.bool false)] 1 <|
   (.ite (.v 18)
    (.leaf .ret [.c (.int .i64 5)] ())
    (.call none 41 [.v 1, .c (.int .i64 1), .c (.int .i64 999)] 1 [] <|
    (.lt none .not [.v 19] 1 <|
    (.lt (some (.v 20, false)) .id [.v 5] 1 <|
    (.lt (some (.v 20, false)) .id [.v 21] 1 <|
    (.lt (some (.v 22, true)) .id [.v 4] 1 <|
    (.call (some (.v 22, true)) 41 [.v 23, .c (.int .i64 1), .c (.int .i64 1000)] 1 [] <|
    (.lt (some (.v 22, true)) .not [.v 24] 1 <|
    (.lt (some (.v 20, false)) .pick [.v 22, .v 25, .c (.bool false)] 1 <|
    (.lt none .pick [.v 20, .c (.bool true), .v 26] 1 <|
    (.ite (.v 27)
     (.leaf .ret [.c (.int .i64 6)] ())
     (.leaf .ret [.c (.int .i64 0)] ())))))))))))))))))))))))))))
/-- spec.l2Account -/
def tm47 : Tm Unit :=
  (.call none 41 [.v 0, .c (.int .i64 0), .c (.int .i64 3)] 1 [] <|
  (.leaf .ret [.v 1] ()))
/-- spec.l3Attr -/
def tm48 : Tm Unit :=
  (.call none 41 [.v 1, .c (.int .i64 0), .c (.int .i64 999)] 1 [] <|
  (.lt (some (.v 3, true)) .len [.v 2] 1 <|
  (.lt (some (.v 3, true)) .id [.v 0] 1 <|
  (.lt (some (.v 3, true)) (.bin .eql) [.v 4, .v 5] 1 <|
  (.lt none .pick [.v 3, .v 6, .c (.bool false)] 1 <|
  (.call (some (.v 7, true)) 49 [.v 2, .c (.int .i64 0), .c (.int .i64 6)] 1 [] <|
  (.lt none .pick [.v 7, .v 8, .c (.bool false)] 1 <|
  (.leaf .ret [.v 9] ()))))))))
/-- spec.l1All -/
def tm49 : Tm Unit :=
  (.lt none .len [.v 0] 1 <|
  (.bind 1
   (.loop [.c (.int .i64 0)]
    (.lt none (.bin .lss) [.v 4, .v 3] 1 <|
    (.ite (.v 5)
     (.lt none .inb [.v 0, .v 4] 0 <|
     (.lt none (.row 1 0 [true]) [.v 0, .v 4] 1 <|
     (.call none 41 [.v 6, .v 1, .v 2] 1 [] <|
     (.lt none .not [.v 7] 1 <|
     (.ite (.v 8)
      (.leaf .ret [.c (.bool false)] ())
      (.lt none (.bin .add) [.v 4, .c (.int .i64 1)] 1 <|
      (.leaf .cont [.v 9] ())))))))
     (.leaf (.yield 1) [] ())))) <|
  (.leaf .ret [.c (.bool true)] ())))
/-- spec.l8Choose -/
def tm50 : Tm Unit :=
  (.call none 9 [.v 0] 2 [] <|
  (.lt none .len [.v 1] 1 <|
  (.bind 1
   (.loop [.c (.int .i64 (-1)), .c (.int .i64 (-1)), .c (.bool true), .c (.int .i64 0), .v 2, .v 3]
    (.lt none (.bin .lss) [.v 8, .v 4] 1 <|
    (.ite (.v 11)
     (.lt none .inb [.v 1, .v 8] 0 <|
     (.lt none (.row 10 0 [true, true, true, true, true, true, true, true, true, false]) [.v 1, .v 8] 10 <|
     (.bind 0
      (.lt none (.bin .eql) [.v 14, .c (.int .i64 2)] 1 <|
      (.ite (.v 22)
       (.lt none (.bin .lss) [.v 5, .c (.int .i64 0)] 1 <|
       (.lt (some (.v 23, false)) .id [.v 13] 1 <|
       (.lt (some (.v 23, false)) .id [.v 5] 1 <|
       (.lt (some (.v 23, false)) .inb [.v 1, .v 25] 0 <|
       (.lt (some (.v 23, false)) (.row 10 1 [true]) [.v 1, .v 25] 1 <|
       (.lt (some (.v 23, false)) (.bin .gtr) [.v 24, .v 26] 1 <|
       (.lt none .pick [.v 23, .c (.bool true), .v 27] 1 <|
       (.ite (.v 28)
        (.leaf (.yield 0) [.v 8, .v 6, .v 9, .v 10] ())
        (.leaf (.yield 0) [.v 5, .v 6, .v 9, .v 10] ())))))))))
       (.lt none (.bin .eql) [.v 14, .c (.int .i64 1)] 1 <|
       (.ite (.v 23)
        (.bind 0
         (.lt none (.bin .lss) [.v 6, .c (.int .i64 0)] 1 <|
         (.lt (some (.v 24, false)) .id [.v 13] 1 <|
         (.lt (some (.v 24, false)) .id [.v 6] 1 <|
         (.lt (some (.v 24, false)) .inb [.v 1, .v 26] 0 <|
         (.lt (some (.v 24, false)) (.row 10 1 [true]) [.v 1, .v 26] 1 <|
         (.lt (some (.v 24, false)) (.bin .gtr) [.v 25, .v 27] 1 <|
         (.lt none .pick [.v 24, .c (.bool true), .v 28] 1 <|
         (.ite (.v 29)
          (.leaf (.yield 0) [.v 8, .c .undef, .c .undef, .c .undef, .c .undef] ())
          (.leaf (.yield 0) [.v 6, .c .undef, .c .undef, .c .undef, .c .undef] ()))))))))) <|
        (.call none 51 [.v 9, .v 10, .v 20, .v 21] 2 [] <|
        (.lt none (.dep 99) [.v 30] 0 <|
        (.leaf (.yield 0) [.v 5, .v 24, .v 29, .v 30] ()))))
        (.leaf (.yield 0) [.v 5, .v 6, .v 9, .v 10] ()))))) <|
     (.lt (some (.v 7, true)) .id [.v 14] 1 <|
     (.lt (some (.v 7, true)) (.bin .eql) [.v 26, .c (.int .i64 1)] 1 <|
     (.lt none .pick [.v 7, .v 27, .c (.bool false)] 1 <|
     (.lt (some (.v 28, true)) .id [.v 13] 1 <|
     (.lt (some (.v 28, true)) (.bin .eql) [.v 29, .c (.int .i64 0)] 1 <|
     (.lt none .pick [.v 28, .v 30, .c (.bool false)] 1 <|
     (.lt (some (.v 31, true)) .inb [.v 1, .c (.int .i64 0)] 0 <|
     (.lt (some (.v 31, true)) (.row 10 3 [true, true, true, true, true]) [.v 1, .c (.int .i64 0)] 5 <|
     (.lt (some (.v 31, true)) (.eqs [0, 0, 0, 0, 0]) [.v 15, .v 16, .v 17, .v 18, .v 19, .v 32, .v 33, .v 34, .v 35, .v 36] 1 <|
     (.lt none .pick [.v 31, .v 37, .c (.bool false)] 1 <|
     (.lt (some (.v 38, true)) .inb [.v 1, .c (.int .i64 0)] 0 <|
     (.lt (some (.v 38, true)) (.row 10 8 [true, false]) [.v 1, .c (.int .i64 0)] 2 <|
     (.call (some (.v 38, true)) 43 [.v 20, .v 21, .v 39, .v 40] 1 [] <|
     (.lt none .pick [.v 38, .v 41, .c (.bool false)] 1 <|
     (.lt none (.bin .add) [.v 8, .c (.int .i64 1)] 1 <|
     (.leaf .cont [.v 22, .v 23, .v 42, .v 43, .v 24, .v 25] ())))))))))))))))))))
     (.leaf (.yield 1) [.v 5, .v 6, .v 7, .v 9, .v 10] ())))) <|
  (.lt none (.bin .geq) [.v 5, .c (.int .i64 0)] 1 <|
  (.ite (.v 10)
   (.lt none .inb [.v 1, .v 5] 0 <|
   (.lt none (.row 10 3 [true, true, true, true, true]) [.v 1, .v 5] 5 <|
   (.lt none .inb [.v 1, .v 5] 0 <|
   (.lt none (.row 10 8 [true, false]) [.v 1, .v 5] 2 <|
   (.call none 11 [.v 16, .v 17] 2 [] <|
   (.leaf .ret [.c (.int .i64 1), .v 11, .v 12, .v 13, .v 14, .v 15, .v 18, .v 19] ()))))))
   (.ite (.v 7)
    (.lt none .inb [.v 1, .c (.int .i64 0)] 0 <|
    (.lt none (.row 10 3 [true, true, true, true, true]) [.v 1, .c (.int .i64 0)] 5 <|
    (.lt none .inb [.v 1, .c (.int .i64 0)] 0 <|
    (.lt none (.row 10 8 [true, false]) [.v 1, .c (.int .i64 0)] 2 <|
    (.call none 11 [.v 16, .v 17] 2 [] <|
    (.leaf .ret [.c (.int .i64 1), .v 11, .v 12, .v 13, .v 14, .v 15, .v 18, .v 19] ()))))))
    (.lt none (.bin .geq) [.v 6, .c (.int .i64 0)] 1 <|
    (.ite (.v 11)
     (.lt none .inb [.v 1, .v 6] 0 <|
     (.lt none (.row 10 3 [true, true, true, true, true]) [.v 1, .v 6] 5 <|
     (.leaf .ret [.c (.int .i64 2), .v 12, .v 13, .v 14, .v 15, .v 16, .v 8, .v 9] ())))
     (.call none 9 [.v 0] 2 [] <|
     (.leaf .ret [.c (.int .i64 3), .c (.int .i64 0), .c (.int .i64 0), .c (.int .i64 0), .c (.int .i64 0), .c (.int .i64 0), .v 12, .v 13] ()))))))))))
/-- spec.l3Join -/
def tm51 : Tm Unit :=
  (.call none 52 [.v 0, .v 2] 1 [] <|
  (.lt none .len [.v 1] 1 <|
  (.bind 1
   (.loop [.c (.int .i64 0), .c (.rows 1 [])]
    (.lt none (.bin .lss) [.v 6, .v 5] 1 <|
    (.ite (.v 8)
     (.lt none .inb [.v 1, .v 6] 0 <|
     (.lt none (.row 1 0 [true]) [.v 1, .v 6] 1 <|
     (.lt none .inb [.v 3, .v 6] 0 <|
     (.lt none (.row 1 0 [true]) [.v 3, .v 6] 1 <|
     (.call none 52 [.v 9, .v 10] 1 [] <|
     (.lt none (.mk 1 1) [.v 11] 1 <|
     (.lt none (.app 1 8 true) [.v 7, .v 12] 1 <|
     (.lt none (.bin .add) [.v 6, .c (.int .i64 1)] 1 <|
     (.leaf .cont [.v 14, .v 13] ())))))))))
     (.leaf (.yield 1) [.v 7] ())))) <|
  (.leaf .ret [.v 4, .v 6] ()))))
/-- spec.l1Most -/
def tm52 : Tm Unit :=
  (.lt none (.bin .gtr) [.v 0, .v 1] 1 <|
  (.ite (.v 2)
   (.leaf .ret [.v 0] ())
   (.leaf .ret [.v 1] ())))
/-- laws.sameAttr -/
def tm53 : Tm Unit :=
  (.lt none (.bin .eql) [.v 0, .v 2] 1 <|
  (.call (some (.v 4, true)) 54 [.v 1, .v 3] 1 [] <|
  (.lt none .pick [.v 4, .v 5, .c (.bool false)] 1 <|
  (.leaf .ret [.v 6] ()))))
/-- laws.sameInts -/
def tm54 : Tm Unit :=
  (.lt none .len [.v 0] 1 <|
  (.lt none .len [.v 1] 1 <|
  (.lt none (.bin .neq) [.v 2, .v 3] 1 <|
  (.ite (.v 4)
   (.leaf .ret [.c (.bool false)] ())
   (.lt none .len [.v 0] 1 <|
   (.bind 1
    (.loop [.c (.int .i64 0)]
     (.lt none (.bin .lss) [.v 6, .v 5] 1 <|
     (.ite (.v 7)
      (.lt none .inb [.v 0, .v 6] 0 <|
      (.lt none (.row 1 0 [true]) [.v 0, .v 6] 1 <|
      (.lt none .inb [.v 1, .v 6] 0 <|
      (.lt none (.row 1 0 [true]) [.v 1, .v 6] 1 <|
      (.lt none (.bin .neq) [.v 8, .v 9] 1 <|
      (.ite (.v 10)
       (.leaf .ret [.c (.bool false)] ())
       (.lt none (.bin .add) [.v 6, .c (.int .i64 1)] 1 <|
       (.leaf .cont [.v 11] ()))))))))
      (.leaf (.yield 1) [] ())))) <|
   (.leaf .ret [.c (.bool true)] ())))))))
/-- impl.JoinAttr -/
def tm55 : Tm Unit :=
  (.call none 23 [.v 0, .v 1, .v 2] 1 [] <|
  (.lt none .not [.v 5] 1 <|
  (.lt (some (.v 6, false)) .id [.v 0] 1 <|
  (.call (some (.v 6, false)) 23 [.v 7, .v 3, .v 4] 1 [] <|
  (.lt (some (.v 6, false)) .not [.v 8] 1 <|
  (.lt none .pick [.v 6, .c (.bool true), .v 9] 1 <|
  (.ite (.v 10)
   (.leaf .ret [.c (.int .i64 0), .c (.rows 1 []), .c (.bool false)] ())
   (.call none 37 [.v 1, .v 2, .v 3, .v 4] 2 [] <|
   (.leaf .ret [.v 11, .v 12, .c (.bool true)] ())))))))))
theorem cl33 : ∀ n, Contract Try.prog (entTab [(33, .tm tm33)]) n 33 sg33 := fun n => contracts tiL_ok (by kernel_rfl) (fnOk_all (List.forall_mem_cons.2 ⟨fnOk_tm (E := ⟨tiTab tiL, [(33, sg33)], 0, 0, false, false, [], []⟩) Try.func148 (by kernel_rfl) (tm := tm33) (by kernel_rfl) (by kernel_rfl), List.forall_mem_nil _⟩)) n 33 sg33 (by simp)
def ren33 : Go.Shelf.Ren := ⟨fun | 41 => 148 | n => n, fun | 4 => 4 | 22 => 22 | 23 => 3 | n => n, fun n => n⟩
theorem lays33 : Go.Proofs.SlLaysE0.n41 Try.prog ren33 := { mixed := by kernel_rfl, f41 := ⟨Try.f148.name, by kernel_rfl, Try.func148.trans (congrArg some (by kernel_rfl))⟩, t4 := Try.underlying4, a4 := Try.isAgg4, z4 := Try.sizeOf4, v4 := Try.zeroValue4, t22 := Try.underlying22, a22 := Try.isAgg22, z22 := Try.sizeOf22, v22 := Try.zeroValue22 }
noncomputable def ex33 : List D → Option (List D) := cloneE 1 (entTab [(33, .tm tm33)]) 33

noncomputable def T : Nat → Ent := entTab [(0, .tm tm0), (1, .tm tm1), (2, .tm tm2), (3, .tm tm3), (4, .tm tm4), (5, .tm tm5), (6, .tm tm6), (7, .tm tm7), (8, .tm tm8), (9, .tm tm9), (10, .tm tm10), (11, .tm tm11), (12, .tm tm12), (13, .tm tm13), (14, .tm tm14), (15, .tm tm15), (16, .tm tm16), (17, .tm tm17), (18, .tm tm18), (19, .tm tm19), (20, .tm tm20), (21, .tm tm21), (22, .tm tm22), (23, .tm tm23), (24, .tm tm24), (25, .tm tm25), (26, .tm tm26), (27, .tm tm27), (28, .tm tm28), (29, .tm tm29), (30, .tm tm30), (31, .tm tm31), (32, .tm tm32), (33, .ext ex33), (34, .tm tm34), (35, .tm tm35), (36, .tm tm36), (37, .tm tm37), (38, .tm tm38), (39, .tm tm39), (40, .tm tm40), (41, .tm tm41), (42, .tm tm42), (43, .tm tm43), (44, .tm tm44), (45, .tm tm45), (46, .tm tm46), (47, .tm tm47), (48, .tm tm48), (49, .tm tm49), (50, .tm tm50), (51, .tm tm51), (52, .tm tm52), (53, .tm tm53), (54, .tm tm54), (55, .tm tm55)]
abbrev K := FnOk Try.prog T (tiTab tiL) sigs
theorem ok33 : FnOk Try.prog T (tiTab tiL) sigs 33 sg33 := clone_ent (m := 98) lays33 rfl (by kernel_rfl) Try.sizeOf3 cl33 rfl
theorem ok0 : K 0 sg0 := fnK (E := ⟨tiTab tiL, sigs, 0, 0, false, false, [], [(11, [(45, 0, 0, 0), (48, 0, 0, 0), (222, 0, 0, 0)], [3, 15, 18, 21, 24, 27, 36, 39, 45, 48, 216, 219, 222, 58, 61, 100, 103], 336, [241, 625, 1297]), (21, [(57, 0, 0, 0), (366, 0, 0, 0)], [24, 27, 57, 360, 363, 366, 58, 61, 100, 103], 336, [1, 4, 7, 10, 13, 16, 19, 22, 25, 28, 31, 34, 37, 40, 43, 46, 49, 52, 55, 58, 61, 64, 67, 70, 73, 76, 79, 82, 85, 88, 91, 94, 97, 100, 103, 106, 109, 112, 115, 118, 121, 124, 127, 130, 133, 136, 139, 142, 145, 148, 151, 154, 157, 160, 163, 166, 169, 172, 175, 178, 181, 184, 187, 190, 193, 196, 199, 202, 205, 208, 211, 214, 217, 220, 223, 226, 229, 232, 235, 238, 241, 244, 247, 250, 253, 256, 259, 262, 265, 268, 271, 274, 277, 280, 283, 286, 289, 292, 295, 298, 301, 304, 307, 310, 313, 316, 319, 322, 325, 328, 331, 334, 337, 340, 343, 346, 349, 352, 355, 358, 361, 364, 367, 370, 373, 376, 379, 382, 385, 388, 391, 394, 397, 400, 403, 406, 409, 412, 415, 418, 421, 424, 427, 430, 433, 436, 439, 442, 445, 448, 451, 454, 457, 460, 463, 466, 469, 472, 475, 478, 481, 484, 487, 490, 493, 496, 499, 502, 505, 508, 511, 514, 517, 520, 523, 526, 529, 532, 535, 538, 541, 544, 547, 550, 553, 556, 559, 562, 565, 568, 571, 574, 577, 580, 583, 586, 589, 592, 595, 598, 601, 604, 607, 610, 613, 616, 619, 622, 625, 628, 631, 634, 637, 640, 643, 646, 649, 652, 655, 658, 661, 664, 667, 670, 673, 676, 679, 682, 685, 688, 691, 694, 697, 700, 703, 706, 709, 712, 715, 718, 721, 724, 727, 730, 733, 736, 739, 742, 745, 748, 751, 754, 757, 760, 763, 766, 769, 772, 775, 778, 781, 784, 787, 790, 793, 796, 799, 802, 805, 808, 811, 814, 817, 820, 823, 826, 829, 832, 835, 838, 841, 844, 847, 850, 853, 856, 859, 862, 865, 868, 871, 874, 877, 880, 883, 886, 889, 892, 895, 898, 901, 904, 907, 910, 913, 916, 919, 922, 925, 928, 931, 934, 937, 940, 943, 946, 949, 952, 955, 958, 961, 964, 967, 970, 973, 976, 979, 982, 985, 988, 991, 994, 997, 1000, 1003, 1006, 1009, 1012, 1015, 1018, 1021, 1024, 1027, 1030, 1033, 1036, 1039, 1042, 1045, 1048, 1051, 1054, 1057, 1060, 1063, 1066, 1069, 1072, 1075, 1078, 1081, 1084, 1087, 1090, 1093, 1096, 1099, 1102, 1105, 1108, 1111, 1114, 1117, 1120, 1123, 1126, 1129, 1132, 1135, 1138, 1141, 1144, 1147, 1150, 1153, 1156, 1159, 1162, 1165, 1168, 1171, 1174, 1177, 1180, 1183, 1186, 1189, 1192, 1195, 1198, 1201, 1204, 1207, 1210, 1213, 1216, 1219, 1222, 1225, 1228, 1231, 1234, 1237, 1240, 1243, 1246, 1249, 1252, 1255, 1258, 1261, 1264, 1267, 1270, 1273, 1276, 1279, 1282, 1285, 1288, 1291, 1294, 1297, 1300, 1303, 1306, 1309, 1312, 1315, 1318, 1321, 1324, 1327, 1330, 1333, 1336, 1339, 1342, 1345, 1348, 1351, 1354, 1357, 1360, 1363, 1366, 1369, 1372, 1375, 1378, 1381, 1384, 1387, 1390, 1393, 1396, 1399, 1402, 1405, 1408, 1411, 1414, 1417, 1420, 1423, 1426, 1429, 1432, 1435, 1438, 1441, 1444, 1447, 1450, 1453, 1456, 1459, 1462, 1465, 1468, 1471, 1474, 1477, 1480, 1483, 1486, 1489, 1492, 1495, 1498, 1501, 1504, 1507, 1510, 1513, 1516, 1519, 1522, 1525, 1528, 1531, 1534, 1537, 1540, 1543, 1546, 1549, 1552, 1555, 1558, 1561, 1564, 1567, 1570, 1573, 1576, 1579, 1582, 1585, 1588, 1591, 1594, 1597, 1600, 1603, 1606, 1609, 1612, 1615, 1618, 1621, 1624, 1627, 1630, 1633, 1636, 1639, 1642, 1645, 1648, 1651, 1654, 1657, 1660, 1663, 1666, 1669, 1672, 1675, 1678, 1681, 1684, 1687, 1690, 1693, 1696, 1699, 1702, 1705, 1708, 1711, 1714, 1717, 1720, 1723, 1726, 1729, 1732, 1735, 1738, 1741, 1744, 1747, 1750, 1753, 1756, 1759, 1762, 1765, 1768, 1771, 1774, 1777, 1780, 1783, 1786, 1789, 1792, 1795, 1798, 1801, 1804, 1807, 1810, 1813, 1816, 1819, 1822, 1825, 1828, 1831, 1834, 1837, 1840, 1843, 1846, 1849, 1852, 1855, 1858, 1861, 1864, 1867, 1870, 1873, 1876, 1879, 1882, 1885, 1888, 1891, 1894, 1897, 1900, 1903, 1906, 1909, 1912, 1915, 1918, 1921, 1924, 1927, 1930, 1933, 1936, 1939, 1942, 1945, 1948, 1951, 1954, 1957, 1960, 1963, 1966, 1969, 1972, 1975, 1978, 1981, 1984, 1987, 1990, 1993, 1996, 1999, 2002, 2005, 2008, 2011, 2014, 2017, 2020, 2023, 2026, 2029, 2032, 2035, 2038, 2041, 2044, 2047, 2050, 2053, 2056, 2059, 2062, 2065, 2068, 2071, 2074, 2077, 2080, 2083, 2086, 2089, 2092, 2095, 2098, 2101, 2104, 2107, 2110, 2113, 2116, 2119, 2122, 2125, 2128, 2131, 2134, 2137, 2140, 2143, 2146, 2149, 2152, 2155, 2158, 2161, 2164, 2167, 2170, 2173, 2176, 2179, 2182, 2185, 2188, 2191, 2194, 2197, 2200, 2203, 2206, 2209, 2212, 2215, 2218, 2221, 2224, 2227, 2230, 2233, 2236, 2239, 2242, 2245, 2248, 2251, 2254, 2257, 2260, 2263, 2266, 2269, 2272, 2275, 2278, 2281, 2284, 2287, 2290, 2293, 2296, 2299, 2302, 2305, 2308, 2311, 2314, 2317, 2320, 2323, 2326, 2329, 2332, 2335, 2338, 2341, 2344, 2347, 2350, 2353, 2356, 2359, 2362, 2365, 2368, 2371, 2374, 2377, 2380, 2383, 2386, 2389, 2392, 2395, 2398, 2401, 2404, 2407, 2410, 2413, 2416, 2419, 2422, 2425, 2428, 2431, 2434, 2437, 2440, 2443, 2446, 2449, 2452, 2455, 2458, 2461, 2464, 2467, 2470, 2473, 2476, 2479, 2482, 2485, 2488, 2491, 2494, 2497, 2500, 2503, 2506, 2509, 2512, 2515, 2518, 2521, 2524, 2527, 2530, 2533, 2536, 2539, 2542, 2545, 2548, 2551, 2554, 2557, 2560, 2563, 2566, 2569, 2572, 2575, 2578, 2581, 2584, 2587, 2590, 2593, 2596, 2599, 2602, 2605, 2608, 2611, 2614, 2617, 2620, 2623, 2626, 2629, 2632, 2635, 2638, 2641, 2644, 2647, 2650, 2653, 2656, 2659, 2662, 2665, 2668, 2671, 2674, 2677, 2680, 2683, 2686, 2689, 2692, 2695, 2698, 2701, 2704, 2707, 2710, 2713, 2716, 2719, 2722, 2725, 2728, 2731, 2734, 2737, 2740, 2743, 2746, 2749, 2752, 2755, 2758, 2761, 2764, 2767, 2770, 2773, 2776, 2779, 2782, 2785, 2788, 2791, 2794, 2797, 2800, 2803, 2806, 2809, 2812, 2815, 2818, 2821, 2824, 2827, 2830, 2833, 2836, 2839, 2842, 2845, 2848, 2851, 2854, 2857, 2860, 2863, 2866, 2869, 2872, 2875, 2878, 2881, 2884, 2887, 2890, 2893, 2896, 2899, 2902, 2905, 2908, 2911, 2914, 2917, 2920, 2923, 2926, 2929, 2932, 2935, 2938, 2941, 2944, 2947, 2950, 2953, 2956, 2959, 2962, 2965, 2968, 2971, 2974, 2977, 2980, 2983, 2986, 2989, 2992, 2995, 2998, 3001, 3004, 3007, 3010, 3013, 3016, 3019, 3022, 3025, 3028, 3031, 3034, 3037, 3040, 3043, 3046, 3049, 3052, 3055, 3058, 3061, 3064, 3067, 3070]), (28, [(435, 0, 0, 0)], [3, 15, 24, 27, 36, 39, 429, 432, 435, 58, 61, 100, 103], 464, [1, 4, 7, 10, 13, 16, 19, 22, 25, 28, 31, 34, 37, 40, 43, 46, 49, 52, 55, 58, 61, 64, 67, 70, 73, 76, 79, 82, 85, 88, 91, 94, 97, 100, 103, 106, 109, 112, 115, 118, 121, 124, 127, 130, 133, 136, 139, 142, 145, 148, 151, 154, 157, 160, 163, 166, 169, 172, 175, 178, 181, 184, 187, 190, 193, 196, 199, 202, 205, 208, 211, 214, 217, 220, 223, 226, 229, 232, 235, 238, 241, 244, 247, 250, 253, 256, 259, 262, 265, 268, 271, 274, 277, 280, 283, 286, 289, 292, 295, 298, 301, 304, 307, 310, 313, 316, 319, 322, 325, 328, 331, 334, 337, 340, 343, 346, 349, 352, 355, 358, 361, 364, 367, 370, 373, 376, 379, 382, 385, 388, 391, 394, 397, 400, 403, 406, 409, 412, 415, 418, 421, 424, 427, 430, 433, 436, 439, 442, 445, 448, 451, 454, 457, 460, 463, 466, 469, 472, 475, 478, 481, 484, 487, 490, 493, 496, 499, 502, 505, 508, 511, 514, 517, 520, 523, 526, 529, 532, 535, 538, 541, 544, 547, 550, 553, 556, 559, 562, 565, 568, 571, 574, 577, 580, 583, 586, 589, 592, 595, 598, 601, 604, 607, 610, 613, 616, 619, 622, 625, 628, 631, 634, 637, 640, 643, 646, 649, 652, 655, 658, 661, 664, 667, 670, 673, 676, 679, 682, 685, 688, 691, 694, 697, 700, 703, 706, 709, 712, 715, 718, 721, 724, 727, 730, 733, 736, 739, 742, 745, 748, 751, 754, 757, 760, 763, 766, 769, 772, 775, 778, 781, 784, 787, 790, 793, 796, 799, 802, 805, 808, 811, 814, 817, 820, 823, 826, 829, 832, 835, 838, 841, 844, 847, 850, 853, 856, 859, 862, 865, 868, 871, 874, 877, 880, 883, 886, 889, 892, 895, 898, 901, 904, 907, 910, 913, 916, 919, 922, 925, 928, 931, 934, 937, 940, 943, 946, 949, 952, 955, 958, 961, 964, 967, 970, 973, 976, 979, 982, 985, 988, 991, 994, 997, 1000, 1003, 1006, 1009, 1012, 1015, 1018, 1021, 1024, 1027, 1030, 1033, 1036, 1039, 1042, 1045, 1048, 1051, 1054, 1057, 1060, 1063, 1066, 1069, 1072, 1075, 1078, 1081, 1084, 1087, 1090, 1093, 1096, 1099, 1102, 1105, 1108, 1111, 1114, 1117, 1120, 1123, 1126, 1129, 1132, 1135, 1138, 1141, 1144, 1147, 1150, 1153, 1156, 1159, 1162, 1165, 1168, 1171, 1174, 1177, 1180, 1183, 1186, 1189, 1192, 1195, 1198, 1201, 1204, 1207, 1210, 1213, 1216, 1219, 1222, 1225, 1228, 1231, 1234, 1237, 1240, 1243, 1246, 1249, 1252, 1255, 1258, 1261, 1264, 1267, 1270, 1273, 1276, 1279, 1282, 1285, 1288, 1291, 1294, 1297, 1300, 1303, 1306, 1309, 1312, 1315, 1318, 1321, 1324, 1327, 1330, 1333, 1336, 1339, 1342, 1345, 1348, 1351, 1354, 1357, 1360, 1363, 1366, 1369, 1372, 1375, 1378, 1381, 1384, 1387, 1390, 1393, 1396, 1399, 1402, 1405, 1408, 1411, 1414, 1417, 1420, 1423, 1426, 1429, 1432, 1435, 1438, 1441, 1444, 1447, 1450, 1453, 1456, 1459, 1462, 1465, 1468, 1471, 1474, 1477, 1480, 1483, 1486, 1489, 1492, 1495, 1498, 1501, 1504, 1507, 1510, 1513, 1516, 1519, 1522, 1525, 1528, 1531, 1534, 1537, 1540, 1543, 1546, 1549, 1552, 1555, 1558, 1561, 1564, 1567, 1570, 1573, 1576, 1579, 1582, 1585, 1588, 1591, 1594, 1597, 1600, 1603, 1606, 1609, 1612, 1615, 1618, 1621, 1624, 1627, 1630, 1633, 1636, 1639, 1642, 1645, 1648, 1651, 1654, 1657, 1660, 1663, 1666, 1669, 1672, 1675, 1678, 1681, 1684, 1687, 1690, 1693, 1696, 1699, 1702, 1705, 1708, 1711, 1714, 1717, 1720, 1723, 1726, 1729, 1732, 1735, 1738, 1741, 1744, 1747, 1750, 1753, 1756, 1759, 1762, 1765, 1768, 1771, 1774, 1777, 1780, 1783, 1786, 1789, 1792, 1795, 1798, 1801, 1804, 1807, 1810, 1813, 1816, 1819, 1822, 1825, 1828, 1831, 1834, 1837, 1840, 1843, 1846, 1849, 1852, 1855, 1858, 1861, 1864, 1867, 1870, 1873, 1876, 1879, 1882, 1885, 1888, 1891, 1894, 1897, 1900, 1903, 1906, 1909, 1912, 1915, 1918, 1921, 1924, 1927, 1930, 1933, 1936, 1939, 1942, 1945, 1948, 1951, 1954, 1957, 1960, 1963, 1966, 1969, 1972, 1975, 1978, 1981, 1984, 1987, 1990, 1993, 1996, 1999, 2002, 2005, 2008, 2011, 2014, 2017, 2020, 2023, 2026, 2029, 2032, 2035, 2038, 2041, 2044, 2047, 2050, 2053, 2056, 2059, 2062, 2065, 2068, 2071, 2074, 2077, 2080, 2083, 2086, 2089, 2092, 2095, 2098, 2101, 2104, 2107, 2110, 2113, 2116, 2119, 2122, 2125, 2128, 2131, 2134, 2137, 2140, 2143, 2146, 2149, 2152, 2155, 2158, 2161, 2164, 2167, 2170, 2173, 2176, 2179, 2182, 2185, 2188, 2191, 2194, 2197, 2200, 2203, 2206, 2209, 2212, 2215, 2218, 2221, 2224, 2227, 2230, 2233, 2236, 2239, 2242, 2245, 2248, 2251, 2254, 2257, 2260, 2263, 2266, 2269, 2272, 2275, 2278, 2281, 2284, 2287, 2290, 2293, 2296, 2299, 2302, 2305, 2308, 2311, 2314, 2317, 2320, 2323, 2326, 2329, 2332, 2335, 2338, 2341, 2344, 2347, 2350, 2353, 2356, 2359, 2362, 2365, 2368, 2371, 2374, 2377, 2380, 2383, 2386, 2389, 2392, 2395, 2398, 2401, 2404, 2407, 2410, 2413, 2416, 2419, 2422, 2425, 2428, 2431, 2434, 2437, 2440, 2443, 2446, 2449, 2452, 2455, 2458, 2461, 2464, 2467, 2470, 2473, 2476, 2479, 2482, 2485, 2488, 2491, 2494, 2497, 2500, 2503, 2506, 2509, 2512, 2515, 2518, 2521, 2524, 2527, 2530, 2533, 2536, 2539, 2542, 2545, 2548, 2551, 2554, 2557, 2560, 2563, 2566, 2569, 2572, 2575, 2578, 2581, 2584, 2587, 2590, 2593, 2596, 2599, 2602, 2605, 2608, 2611, 2614, 2617, 2620, 2623, 2626, 2629, 2632, 2635, 2638, 2641, 2644, 2647, 2650, 2653, 2656, 2659, 2662, 2665, 2668, 2671, 2674, 2677, 2680, 2683, 2686, 2689, 2692, 2695, 2698, 2701, 2704, 2707, 2710, 2713, 2716, 2719, 2722, 2725, 2728, 2731, 2734, 2737, 2740, 2743, 2746, 2749, 2752, 2755, 2758, 2761, 2764, 2767, 2770, 2773, 2776, 2779, 2782, 2785, 2788, 2791, 2794, 2797, 2800, 2803, 2806, 2809, 2812, 2815, 2818, 2821, 2824, 2827, 2830, 2833, 2836, 2839, 2842, 2845, 2848, 2851, 2854, 2857, 2860, 2863, 2866, 2869, 2872, 2875, 2878, 2881, 2884, 2887, 2890, 2893, 2896, 2899, 2902, 2905, 2908, 2911, 2914, 2917, 2920, 2923, 2926, 2929, 2932, 2935, 2938, 2941, 2944, 2947, 2950, 2953, 2956, 2959, 2962, 2965, 2968, 2971, 2974, 2977, 2980, 2983, 2986, 2989, 2992, 2995, 2998, 3001, 3004, 3007, 3010, 3013, 3016, 3019, 3022, 3025, 3028, 3031, 3034, 3037, 3040, 3043, 3046, 3049, 3052, 3055, 3058, 3061, 3064, 3067, 3070])]⟩) (tm := tm0) Try.func7 (by kernel_rfl)
theorem ok1 : K 1 sg1 := fnK (E := E0) (tm := tm1) Try.func29 (by kernel_rfl)
theorem ok2 : K 2 sg2 := fnK (E := E0) (tm := tm2) Try.func43 (by kernel_rfl)
theorem ok3 : K 3 sg3 := fnK (E := E0) (tm := tm3) Try.func99 (by kernel_rfl)
theorem ok4 : K 4 sg4 := fnK (E := E0) (tm := tm4) Try.func89 (by kernel_rfl)
theorem ok5 : K 5 sg5 := fnK (E := E0) (tm := tm5) Try.func150 (by kernel_rfl)
theorem ok6 : K 6 sg6 := fnK (E := E0) (tm := tm6) Try.func100 (by kernel_rfl)
theorem ok7 : K 7 sg7 := fnK (E := E0) (tm := tm7) Try.func142 (by kernel_rfl)
theorem ok8 : K 8 sg8 := fnK (E := E0) (tm := tm8) Try.func91 (by kernel_rfl)
theorem ok9 : K 9 sg9 := fnK (E := E0) (tm := tm9) Try.func154 (by kernel_rfl)
theorem ok10 : K 10 sg10 := fnK (E := E0) (tm := tm10) Try.func101 (by kernel_rfl)
theorem ok11 : K 11 sg11 := fnK (E := E0) (tm := tm11) Try.func155 (by kernel_rfl)
theorem ok12 : K 12 sg12 := fnK (E := E0) (tm := tm12) Try.func153 (by kernel_rfl)
theorem ok13 : K 13 sg13 := fnK (E := E0) (tm := tm13) Try.func44 (by kernel_rfl)
theorem ok14 : K 14 sg14 := fnK (E := E0) (tm := tm14) Try.func102 (by kernel_rfl)
theorem ok15 : K 15 sg15 := fnK (E := E0) (tm := tm15) Try.func103 (by kernel_rfl)
theorem ok16 : K 16 sg16 := fnK (E := E0) (tm := tm16) Try.func104 (by kernel_rfl)
theorem ok17 : K 17 sg17 := fnK (E := E0) (tm := tm17) Try.func156 (by kernel_rfl)
theorem ok18 : K 18 sg18 := fnK (E := E0) (tm := tm18) Try.func105 (by kernel_rfl)
theorem ok19 : K 19 sg19 := fnK (E := E0) (tm := tm19) Try.func106 (by kernel_rfl)
theorem ok20 : K 20 sg20 := fnK (E := E0) (tm := tm20) Try.func83 (by kernel_rfl)
theorem ok21 : K 21 sg21 := fnK (E := E0) (tm := tm21) Try.func140 (by kernel_rfl)
theorem ok22 : K 22 sg22 := fnK (E := E0) (tm := tm22) Try.func174 (by kernel_rfl)
theorem ok23 : K 23 sg23 := fnK (E := E0) (tm := tm23) Try.func112 (by kernel_rfl)
theorem ok24 : K 24 sg24 := fnK (E := E0) (tm := tm24) Try.func143 (by kernel_rfl)
theorem ok25 : K 25 sg25 := fnK (E := E0) (tm := tm25) Try.func175 (by kernel_rfl)
theorem ok26 : K 26 sg26 := fnK (E := E0) (tm := tm26) Try.func165 (by kernel_rfl)
theorem ok27 : K 27 sg27 := fnK (E := E0) (tm := tm27) Try.func158 (by kernel_rfl)
theorem ok28 : K 28 sg28 := fnK (E := E0) (tm := tm28) Try.func157 (by kernel_rfl)
theorem ok29 : K 29 sg29 := fnK (E := E0) (tm := tm29) Try.func80 (by kernel_rfl)
theorem ok30 : K 30 sg30 := fnK (E := E0) (tm := tm30) Try.func107 (by kernel_rfl)
theorem ok31 : K 31 sg31 := fnK (E := E0) (tm := tm31) Try.func159 (by kernel_rfl)
theorem ok32 : K 32 sg32 := fnK (E := E0) (tm := tm32) Try.func160 (by kernel_rfl)
theorem ok34 : K 34 sg34 := fnK (E := E0) (tm := tm34) Try.func104 (by kernel_rfl)
theorem ok35 : K 35 sg35 := fnK (E := E0) (tm := tm35) Try.func156 (by kernel_rfl)
theorem ok36 : K 36 sg36 := fnK (E := E0) (tm := tm36) Try.func161 (by kernel_rfl)
theorem ok37 : K 37 sg37 := fnK (E := E0) (tm := tm37) Try.func113 (by kernel_rfl)
theorem ok38 : K 38 sg38 := fnK (E := E0) (tm := tm38) Try.func45 (by kernel_rfl)
theorem ok39 : K 39 sg39 := fnK (E := E0) (tm := tm39) Try.func108 (by kernel_rfl)
theorem ok40 : K 40 sg40 := fnK (E := E0) (tm := tm40) Try.func125 (by kernel_rfl)
theorem ok41 : K 41 sg41 := fnK (E := E0) (tm := tm41) Try.func109 (by kernel_rfl)
theorem ok42 : K 42 sg42 := fnK (E := E0) (tm := tm42) Try.func110 (by kernel_rfl)
theorem ok43 : K 43 sg43 := fnK (E := E0) (tm := tm43) Try.func162 (by kernel_rfl)
theorem ok44 : K 44 sg44 := fnK (E := E0) (tm := tm44) Try.func95 (by kernel_rfl)
theorem ok45 : K 45 sg45 := fnK (E := E0) (tm := tm45) Try.func151 (by kernel_rfl)
theorem ok46 : K 46 sg46 := fnK (E := E0) (tm := tm46) Try.func177 (by kernel_rfl)
theorem ok47 : K 47 sg47 := fnK (E := E0) (tm := tm47) Try.func181 (by kernel_rfl)
theorem ok48 : K 48 sg48 := fnK (E := E0) (tm := tm48) Try.func163 (by kernel_rfl)
theorem ok49 : K 49 sg49 := fnK (E := E0) (tm := tm49) Try.func97 (by kernel_rfl)
theorem ok50 : K 50 sg50 := fnK (E := ⟨tiTab tiL, sigs, 0, 0, false, false, [], [(5, [(21, 0, 0, 0), (24, 0, 0, 0), (27, 0, 0, 0), (51, 0, 0, 0), (25, 0, 0, 0), (25, 1, 2, 99)], [0, 3, 15, 18, 21, 24, 27, 30, 45, 48, 51, 4, 7, 25], 1033, [336])]⟩) (tm := tm50) Try.func111 (by kernel_rfl)
theorem ok51 : K 51 sg51 := fnK (E := E0) (tm := tm51) Try.func164 (by kernel_rfl)
theorem ok52 : K 52 sg52 := fnK (E := E0) (tm := tm52) Try.func178 (by kernel_rfl)
theorem ok53 : K 53 sg53 := fnK (E := E0) (tm := tm53) Try.func46 (by kernel_rfl)
theorem ok54 : K 54 sg54 := fnK (E := E0) (tm := tm54) Try.func33 (by kernel_rfl)
theorem ok55 : K 55 sg55 := fnK (E := E0) (tm := tm55) Try.func47 (by kernel_rfl)
theorem fns_ok : ∀ key s, (key, s) ∈ sigs → FnOk Try.prog T (tiTab tiL) sigs key s := fnOk_all (fc ok0 <| fc ok1 <| fc ok2 <| fc ok3 <| fc ok4 <| fc ok5 <| fc ok6 <| fc ok7 <| fc ok8 <| fc ok9 <| fc ok10 <| fc ok11 <| fc ok12 <| fc ok13 <| fc ok14 <| fc ok15 <| fc ok16 <| fc ok17 <| fc ok18 <| fc ok19 <| fc ok20 <| fc ok21 <| fc ok22 <| fc ok23 <| fc ok24 <| fc ok25 <| fc ok26 <| fc ok27 <| fc ok28 <| fc ok29 <| fc ok30 <| fc ok31 <| fc ok32 <| fc ok33 <| fc ok34 <| fc ok35 <| fc ok36 <| fc ok37 <| fc ok38 <| fc ok39 <| fc ok40 <| fc ok41 <| fc ok42 <| fc ok43 <| fc ok44 <| fc ok45 <| fc ok46 <| fc ok47 <| fc ok48 <| fc ok49 <| fc ok50 <| fc ok51 <| fc ok52 <| fc ok53 <| fc ok54 <| fc ok55 <| fc0)
theorem contract : ∀ n, Contract Try.prog T n 0 sg0 := fun n => contracts tiL_ok (by kernel_rfl) fns_ok n 0 sg0 (by simp [sigs])
end FnChoose
end Go.Proofs.Ytjoebpmeeampfaa
