/- The terms of the functions that FnExactPlayAsks reaches (printed by the author's own program). -/
import Derived.Test.YtjoebpmeeampfaaChecked
import Derived.Test.YtjoebpmeeampfaaRf8
import Derived.KernelRfl
namespace Go.Proofs.Ytjoebpmeeampfaa
namespace FnExactPlayAsks
open Go Go.Proofs.Ytjoebpmeeampfaa.Rf
set_option maxRecDepth 100000

def t3 : TI := ⟨false, 1, 8, [.sc (.int .i64 0)], [], none, (some .i64), false, false, false, false⟩
theorem ti3 : tiOf Try.prog 3 = some t3 := by kernel_rfl
def t4 : TI := ⟨false, 1, 1, [.sc (.bool false)], [], none, none, true, false, false, false⟩
theorem ti4 : tiOf Try.prog 4 = some t4 := by kernel_rfl
def t22 : TI := ⟨false, 1, 24, [.sl 1], [], (some 3), none, false, false, false, false⟩
theorem ti22 : tiOf Try.prog 22 = some t22 := by kernel_rfl
def t23 : TI := ⟨false, 1, 24, [.sl 2], [], (some 57), none, false, false, false, false⟩
theorem ti23 : tiOf Try.prog 23 = some t23 := by kernel_rfl
def t25 : TI := ⟨true, 3, 72, [.sl 1, .sl 1, .sl 2], [(0, 22), (1, 22), (2, 23)], none, none, false, false, false, false⟩
theorem ti25 : tiOf Try.prog 25 = some t25 := by kernel_rfl
def t30 : TI := ⟨false, 1, 24, [.sl 7], [], (some 108), none, false, false, false, false⟩
theorem ti30 : tiOf Try.prog 30 = some t30 := by kernel_rfl
def t32 : TI := ⟨false, 1, 24, [.sl 7], [], (some 53), none, false, false, false, false⟩
theorem ti32 : tiOf Try.prog 32 = some t32 := by kernel_rfl
def t51 : TI := ⟨true, 5, 40, [.sc (.int .i64 0), .sc (.int .i64 0), .sc (.int .i64 0), .sc (.int .i64 0), .sc (.int .i64 0)], [(0, 3), (1, 3), (2, 3), (3, 3), (4, 3)], none, none, false, false, false, true⟩
theorem ti51 : tiOf Try.prog 51 = some t51 := by kernel_rfl
def t53 : TI := ⟨true, 7, 56, [.sc (.int .i64 0), .sc (.int .i64 0), .sc (.int .i64 0), .sc (.int .i64 0), .sc (.int .i64 0), .sc (.int .i64 0), .sc (.int .i64 0)], [(0, 3), (1, 3), (2, 51)], none, none, false, false, false, true⟩
theorem ti53 : tiOf Try.prog 53 = some t53 := by kernel_rfl
def t57 : TI := ⟨true, 2, 16, [.sc (.int .i64 0), .sc (.int .i64 0)], [(0, 3), (1, 3)], none, none, false, false, false, true⟩
theorem ti57 : tiOf Try.prog 57 = some t57 := by kernel_rfl
def t106 : TI := ⟨true, 5, 40, [.sc (.int .i64 0), .sc (.int .i64 0), .sc (.int .i64 0), .sc (.int .i64 0), .sc (.int .i64 0)], [(0, 3), (1, 3), (2, 3), (3, 3), (4, 3)], none, none, false, false, false, true⟩
theorem ti106 : tiOf Try.prog 106 = some t106 := by kernel_rfl
def t108 : TI := ⟨true, 7, 56, [.sc (.int .i64 0), .sc (.int .i64 0), .sc (.int .i64 0), .sc (.int .i64 0), .sc (.int .i64 0), .sc (.int .i64 0), .sc (.int .i64 0)], [(0, 3), (1, 3), (2, 106)], none, none, false, false, false, true⟩
theorem ti108 : tiOf Try.prog 108 = some t108 := by kernel_rfl
def tiL : List (Nat × TI) := [(3, t3), (4, t4), (22, t22), (23, t23), (25, t25), (30, t30), (32, t32), (51, t51), (53, t53), (57, t57), (106, t106), (108, t108)]
theorem tiL_ok : TiOk Try.prog (tiTab tiL) := tiTab_ok (l := tiL) (fc ti3 <| fc ti4 <| fc ti22 <| fc ti23 <| fc ti25 <| fc ti30 <| fc ti32 <| fc ti51 <| fc ti53 <| fc ti57 <| fc ti106 <| fc ti108 <| fc0)

def sg0 : Sig := ⟨5, [(false, [.fz false])], [], [(false, [.sc])]⟩
def sg1 : Sig := ⟨14, [(false, [.fz false]), (false, [.sc])], [], [(false, [.sc])]⟩
def sg2 : Sig := ⟨16, [(false, [.fz false])], [], [(false, [.ow 99])]⟩
def sg3 : Sig := ⟨72, [(true, [.sc, .sc, .sc, .sc, .sc, .sc, .sc])], [], [(true, [.sc, .sc, .sc, .sc, .sc, .sc, .sc])]⟩
def sg4 : Sig := ⟨137, [(true, [.sc, .sc, .sc, .sc, .sc])], [], [(true, [.sc, .sc, .sc, .sc, .sc])]⟩
def sg5 : Sig := ⟨21, [(false, [.fz false])], [], [(true, [.ow 99, .ow 99, .ow 99]), (false, [.ow 99]), (false, [.ow 99]), (false, [.sc])]⟩
def sg6 : Sig := ⟨70, [(false, [.fz false])], [], [(false, [.sc])]⟩
def sg7 : Sig := ⟨92, [(true, [.sc, .sc, .sc, .sc, .sc, .sc, .sc])], [], [(false, [.sc])]⟩
def sg8 : Sig := ⟨109, [(false, [.sc]), (false, [.sc]), (false, [.sc])], [], [(false, [.sc])]⟩
def sg9 : Sig := ⟨151, [(true, [.sc, .sc, .sc, .sc, .sc])], [], [(false, [.sc])]⟩
def sg10 : Sig := ⟨177, [(true, [.sc, .sc, .sc, .sc, .sc])], [], [(false, [.sc])]⟩
def sg11 : Sig := ⟨181, [(false, [.sc])], [], [(false, [.sc])]⟩
def sg12 : Sig := ⟨71, [(false, [.fz false])], [], [(true, [.ow 99, .ow 99, .ow 99]), (false, [.ow 99]), (false, [.ow 99])]⟩
def sg13 : Sig := ⟨9, [], [], [(true, [.ow 99, .ow 99, .ow 99])]⟩
def sg14 : Sig := ⟨68, [], [], [(false, [.ow 99])]⟩
def sg15 : Sig := ⟨93, [(true, [.fz false, .fz false, .fz false]), (true, [.sc, .sc, .sc, .sc, .sc, .sc, .sc])], [], [(true, [.ow 99, .ow 99, .ow 99]), (true, [.sc, .sc]), (false, [.sc])]⟩
def sg16 : Sig := ⟨94, [(true, [.fz false, .fz false, .fz false])], [], [(true, [.ow 99, .ow 99, .ow 99])]⟩
def sg17 : Sig := ⟨153, [(false, [.fz false])], [], [(false, [.ow 99])]⟩
def sg18 : Sig := ⟨152, [(false, [.fz false]), (true, [.sc, .sc, .sc, .sc, .sc])], [], [(false, [.ow 99]), (true, [.sc, .sc])]⟩
def sg19 : Sig := ⟨22, [(false, [.fz false])], [], [(true, [.ow 99, .ow 99, .ow 99]), (false, [.ow 99]), (false, [.ow 99]), (false, [.sc])]⟩
def sg20 : Sig := ⟨74, [(false, [.fz false]), (false, [.clo 75 []])], [], [(false, [.sc])]⟩
def sg21 : Sig := ⟨139, [(false, [.fz false]), (false, [.clo 75 []])], [], [(false, [.sc])]⟩
def sg22 : Sig := ⟨75, [(true, [.sc, .sc, .sc, .sc, .sc, .sc, .sc])], [], [(false, [.sc])]⟩
def sg23 : Sig := ⟨76, [(true, [.sc, .sc, .sc, .sc, .sc, .sc, .sc])], [], [(false, [.sc])]⟩
def sg24 : Sig := ⟨83, [(false, [.sc]), (false, [.sc]), (false, [.sc])], [], [(false, [.sc])]⟩
def sg25 : Sig := ⟨140, [(true, [.sc, .sc, .sc, .sc, .sc])], [], [(false, [.sc])]⟩
def sg26 : Sig := ⟨174, [(false, [.sc])], [], [(false, [.sc])]⟩
def sg27 : Sig := ⟨10, [], [], [(true, [.ow 99, .ow 99, .ow 99])]⟩
def sg28 : Sig := ⟨69, [], [], [(false, [.ow 99])]⟩
def sg29 : Sig := ⟨136, [(false, [.fz false]), (false, [.sc])], [], [(false, [.ow 99])]⟩
def sg32 : Sig := ⟨77, [(false, [.px 0]), (true, [.sc, .sc, .sc, .sc, .sc, .sc, .sc])], [(false, [(.ow 99, .ow 99), (.ow 99, .ow 99), (.ow 99, .ow 99)])], [(true, [.sc, .sc]), (false, [.sc])]⟩
def sg33 : Sig := ⟨141, [(false, [.mu 1]), (true, [.sc, .sc, .sc, .sc, .sc])], [], [(true, [.sc, .sc])]⟩
def sg34 : Sig := ⟨11, [(true, [.fz false, .fz false, .fz false]), (true, [.fz false, .fz false, .fz false])], [], [(false, [.sc])]⟩
def sg35 : Sig := ⟨24, [(false, [.fz false]), (false, [.fz false])], [], [(false, [.sc])]⟩
def sg36 : Sig := ⟨23, [(false, [.fz false]), (false, [.fz false])], [], [(false, [.sc])]⟩
def sg37 : Sig := ⟨78, [(true, [.sc, .sc]), (true, [.sc, .sc])], [], [(false, [.sc])]⟩
def sg38 : Sig := ⟨18, [(false, [.fz false]), (false, [.fz false])], [], [(false, [.sc])]⟩
def sg39 : Sig := ⟨73, [(true, [.sc, .sc, .sc, .sc, .sc, .sc, .sc]), (true, [.sc, .sc, .sc, .sc, .sc, .sc, .sc])], [], [(false, [.sc])]⟩
def sg40 : Sig := ⟨138, [(true, [.sc, .sc, .sc, .sc, .sc]), (true, [.sc, .sc, .sc, .sc, .sc])], [], [(false, [.sc])]⟩
def sg41 : Sig := ⟨19, [(false, [.mu 1]), (false, [.sc])], [], [(false, [.sc])]⟩
def sg42 : Sig := ⟨12, [(true, [.mu 1, .mu 1, .mu 1]), (false, [.sc])], [], [(false, [.sc])]⟩
def sg43 : Sig := ⟨26, [(false, [.mu 1]), (false, [.sc])], [], [(false, [.sc])]⟩
def sg44 : Sig := ⟨25, [(false, [.mu 1]), (false, [.sc])], [], [(false, [.sc])]⟩
def sg45 : Sig := ⟨13, [(true, [.fz false, .fz false, .fz false]), (false, [.sc])], [], [(false, [.sc])]⟩
def sg46 : Sig := ⟨28, [(false, [.fz false]), (false, [.sc])], [], [(false, [.sc])]⟩
def sg47 : Sig := ⟨27, [(false, [.fz false]), (false, [.sc])], [], [(false, [.sc])]⟩
def sigs : List (Nat × Sig) := [(0, sg0), (1, sg1), (2, sg2), (3, sg3), (4, sg4), (5, sg5), (6, sg6), (7, sg7), (8, sg8), (9, sg9), (10, sg10), (11, sg11), (12, sg12), (13, sg13), (14, sg14), (15, sg15), (16, sg16), (17, sg17), (18, sg18), (19, sg19), (20, sg20), (21, sg21), (22, sg22), (23, sg23), (24, sg24), (25, sg25), (26, sg26), (27, sg27), (28, sg28), (29, sg29), (32, sg32), (33, sg33), (34, sg34), (35, sg35), (36, sg36), (37, sg37), (38, sg38), (39, sg39), (40, sg40), (41, sg41), (42, sg42), (43, sg43), (44, sg44), (45, sg45), (46, sg46), (47, sg47)]
abbrev E0 : Env := ⟨tiTab tiL, sigs, 0, 0, false, false, [], []⟩

/-- laws.FnExactPlayAsks -/
def tm0 : Tm Unit :=
  (.call none 1 [.v 0, .c (.int .i64 1048576)] 1 [] <|
  (.lt none (.bin .lss) [.v 1, .c (.int .i64 0)] 1 <|
  (.ite (.v 2)
   (.leaf .ret [.c (.bool true)] ())
   (.call none 2 [.v 0] 1 [] <|
   (.call none 5 [.v 3] 6 [] <|
   (.lt none (.dep 99) [.v 4] 0 <|
   (.lt none (.dep 99) [.v 5] 0 <|
   (.lt none (.dep 99) [.v 6] 0 <|
   (.lt none (.dep 99) [.v 7] 0 <|
   (.lt none (.dep 99) [.v 8] 0 <|
   (.call none 2 [.v 0] 1 [] <|
   (.call none 19 [.v 10] 6 [] <|
   (.lt none (.dep 99) [.v 11] 0 <|
   (.lt none (.dep 99) [.v 12] 0 <|
   (.lt none (.dep 99) [.v 13] 0 <|
   (.lt none (.dep 99) [.v 14] 0 <|
   (.lt none (.dep 99) [.v 15] 0 <|
   (.call none 34 [.v 11, .v 12, .v 13, .v 4, .v 5, .v 6] 1 [] <|
   (.lt none .not [.v 17] 1 <|
   (.call (some (.v 18, false)) 36 [.v 14, .v 7] 1 [] <|
   (.lt (some (.v 18, false)) .not [.v 19] 1 <|
   (.lt none .pick [.v 18, .c (.bool true), .v 20] 1 <|
   (.call (some (.v 21, false)) 35 [.v 15, .v 8] 1 [] <|
   (.lt (some (.v 21, false)) .not [.v 22] 1 <|
   (.lt none .pick [.v 21, .c (.bool true), .v 23] 1 <|
   (.lt (some (.v 24, false)) .id [.v 16] 1 <|
   (.lt (some (.v 24, false)) .id [.v 9] 1 <|
   (.lt (some (.v 24, false)) (.eqb true) [.v 25, .v 26] 1 <|
   (.lt none .pick [.v 24, .c (.bool true), .v 27] 1 <|
   (.ite (.v 28)
    (.leaf .ret [.c (.bool false)] ())
    (.call none 2 [.v 0] 1 [] <|
    (.call none 38 [.v 10, .v 29] 1 [] <|
    (.lt none .not [.v 30] 1 <|
    (.ite (.v 31)
     (.leaf .ret [.c (.bool false)] ())
     (.call none 41 [.v 10, .c (.int .i64 1)] 2 [] <|
     (.lt none (.dep 1) [.v 33] 0 <|
     (.lt none (.bin .lss) [.v 32, .c (.int .i64 0)] 1 <|
     (.call (some (.v 34, false)) 34 [.v 11, .v 12, .v 13, .v 4, .v 5, .v 6] 1 [] <|
     (.lt (some (.v 34, false)) .not [.v 35] 1 <|
     (.lt none .pick [.v 34, .c (.bool true), .v 36] 1 <|
     (.call (some (.v 37, false)) 36 [.v 14, .v 7] 1 [] <|
     (.lt (some (.v 37, false)) .not [.v 38] 1 <|
     (.lt none .pick [.v 37, .c (.bool true), .v 39] 1 <|
     (.call (some (.v 40, false)) 35 [.v 15, .v 8] 1 [] <|
     (.lt (some (.v 40, false)) .not [.v 41] 1 <|
     (.lt none .pick [.v 40, .c (.bool true), .v 42] 1 <|
     (.lt (some (.v 43, false)) .id [.v 16] 1 <|
     (.lt (some (.v 43, false)) .id [.v 9] 1 <|
     (.lt (some (.v 43, false)) (.eqb true) [.v 44, .v 45] 1 <|
     (.lt none .pick [.v 43, .c (.bool true), .v 46] 1 <|
     (.ite (.v 47)
      (.leaf .ret [.c (.bool false)] ())
      (.call none 42 [.v 11, .v 12, .v 13, .c (.int .i64 1)] 4 [] <|
      (.lt none (.dep 1) [.v 49] 0 <|
      (.lt none (.dep 1) [.v 50] 0 <|
      (.lt none (.dep 1) [.v 51] 0 <|
      (.call none 44 [.v 14, .v 48] 2 [] <|
      (.lt none (.dep 1) [.v 53] 0 <|
      (.call none 43 [.v 15, .v 52] 2 [] <|
      (.lt none (.dep 1) [.v 55] 0 <|
      (.call none 45 [.v 49, .v 50, .v 51, .c (.int .i64 1)] 1 [] <|
      (.lt none (.bin .lss) [.v 56, .c (.int .i64 0)] 1 <|
      (.ite (.v 57)
       (.leaf .ret [.c (.bool false)] ())
       (.call none 47 [.v 53, .v 56] 1 [] <|
       (.lt none (.bin .lss) [.v 58, .c (.int .i64 0)] 1 <|
       (.ite (.v 59)
        (.leaf .ret [.c (.bool false)] ())
        (.call none 46 [.v 55, .v 58] 1 [] <|
        (.lt none (.bin .lss) [.v 60, .c (.int .i64 0)] 1 <|
        (.ite (.v 61)
         (.leaf .ret [.c (.bool false)] ())
         (.lt none (.bin .neq) [.v 60, .v 54] 1 <|
         (.ite (.v 62)
          (.leaf .ret [.c (.bool false)] ())
          (.call none 2 [.v 0] 1 [] <|
          (.call none 19 [.v 63] 6 [] <|
          (.lt none (.dep 99) [.v 64] 0 <|
          (.lt none (.dep 99) [.v 65] 0 <|
          (.lt none (.dep 99) [.v 66] 0 <|
          (.lt none (.dep 99) [.v 67] 0 <|
          (.lt none (.dep 99) [.v 68] 0 <|
          (.call none 34 [.v 64, .v 65, .v 66, .v 4, .v 5, .v 6] 1 [] <|
          (.lt none .not [.v 70] 1 <|
          (.call (some (.v 71, false)) 36 [.v 67, .v 7] 1 [] <|
          (.lt (some (.v 71, false)) .not [.v 72] 1 <|
          (.lt none .pick [.v 71, .c (.bool true), .v 73] 1 <|
          (.call (some (.v 74, false)) 35 [.v 68, .v 8] 1 [] <|
          (.lt (some (.v 74, false)) .not [.v 75] 1 <|
          (.lt none .pick [.v 74, .c (.bool true), .v 76] 1 <|
          (.lt (some (.v 77, false)) .id [.v 69] 1 <|
          (.lt (some (.v 77, false)) .id [.v 9] 1 <|
          (.lt (some (.v 77, false)) (.eqb true) [.v 78, .v 79] 1 <|
          (.lt none .pick [.v 77, .c (.bool true), .v 80] 1 <|
          (.ite (.v 81)
           (.leaf .ret [.c (.bool false)] ())
           (.call none 45 [.v 49, .v 50, .v 51, .c (.int .i64 1)] 1 [] <|
           (.lt none (.bin .lss) [.v 82, .c (.int .i64 0)] 1 <|
           (.ite (.v 83)
            (.leaf .ret [.c (.bool false)] ())
            (.call none 47 [.v 53, .v 82] 1 [] <|
            (.lt none (.bin .lss) [.v 84, .c (.int .i64 0)] 1 <|
            (.ite (.v 85)
             (.leaf .ret [.c (.bool false)] ())
             (.call none 46 [.v 55, .v 84] 1 [] <|
             (.lt none (.bin .lss) [.v 86, .c (.int .i64 0)] 1 <|
             (.ite (.v 87)
              (.leaf .ret [.c (.bool false)] ())
              (.lt none (.bin .neq) [.v 86, .v 54] 1 <|
              (.ite (.v 88)
               (.leaf .ret [.c (.bool false)] ())
               (.leaf .ret [.c (.bool true)] ()))))))))))))))))))))))))))))))))))))))))))))))))))))))))))))))))))))))))))))))))))))))))))))))))))))))
/-- laws.szAskS -/
def tm1 : Tm Unit :=
  (.lt none .len [.v 0] 1 <|
  (.lt none (.bin .sub) [.v 1, .v 2] 1 <|
  (.lt none (.bin .lss) [.v 3, .c (.int .i64 0)] 1 <|
  (.ite (.v 4)
   (.leaf .ret [.c (.int .i64 (-1))] ())
   (.leaf .ret [.v 3] ())))))
/-- laws.toAskS -/
def tm2 : Tm Unit :=
  (.lt none .len [.v 0] 1 <|
  (.lt none (.make 56 [(.int .i64 0), (.int .i64 0), (.int .i64 0), (.int .i64 0), (.int .i64 0), (.int .i64 0), (.int .i64 0)]) [.v 1] 1 <|
  (.bind 1
   (.loop [.v 2, .c (.int .i64 0)]
    (.lt none .len [.v 0] 1 <|
    (.lt none (.bin .lss) [.v 4, .v 5] 1 <|
    (.ite (.v 6)
     (.lt none .inb [.v 0, .v 4] 0 <|
     (.lt none (.row 7 0 [true, true, true, true, true, true, true]) [.v 0, .v 4] 7 <|
     (.call none 3 [.v 7, .v 8, .v 9, .v 10, .v 11, .v 12, .v 13] 7 [] <|
     (.lt none .inb [.v 3, .v 4] 0 <|
     (.lt none (.set 7 0 7) [.v 3, .v 4, .v 14, .v 15, .v 16, .v 17, .v 18, .v 19, .v 20] 1 <|
     (.lt none (.bin .add) [.v 4, .c (.int .i64 1)] 1 <|
     (.leaf .cont [.v 21, .v 22] ())))))))
     (.leaf (.yield 1) [.v 3] ()))))) <|
  (.leaf .ret [.v 3] ()))))
/-- laws.toAsk -/
def tm3 : Tm Unit :=
  (.call none 4 [.v 2, .v 3, .v 4, .v 5, .v 6] 5 [] <|
  (.leaf .ret [.v 0, .v 1, .v 7, .v 8, .v 9, .v 10, .v 11] ()))
/-- laws.toCmd -/
def tm4 : Tm Unit :=
  (.leaf .ret [.v 0, .v 1, .v 2, .v 3, .v 4] ())
/-- spec.PlayAsks -/
def tm5 : Tm Unit :=
  (.call none 6 [.v 0] 1 [] <|
  (.lt none .not [.v 1] 1 <|
  (.ite (.v 2)
   (.leaf .ret [.c (.rows 1 []), .c (.rows 1 []), .c (.rows 2 []), .c (.rows 2 []), .c (.rows 1 []), .c (.bool false)] ())
   (.call none 12 [.v 0] 5 [] <|
   (.leaf .ret [.v 3, .v 4, .v 5, .v 6, .v 7, .c (.bool true)] ())))))
/-- spec.l15Asks -/
def tm6 : Tm Unit :=
  (.lt none .len [.v 0] 1 <|
  (.bind 1
   (.loop [.c (.int .i64 0)]
    (.lt none (.bin .lss) [.v 2, .v 1] 1 <|
    (.ite (.v 3)
     (.lt none .inb [.v 0, .v 2] 0 <|
     (.lt none (.row 7 0 [true, true, true, true, true, true, true]) [.v 0, .v 2] 7 <|
     (.call none 7 [.v 4, .v 5, .v 6, .v 7, .v 8, .v 9, .v 10] 1 [] <|
     (.lt none .not [.v 11] 1 <|
     (.ite (.v 12)
      (.leaf .ret [.c (.bool false)] ())
      (.lt none (.bin .add) [.v 2, .c (.int .i64 1)] 1 <|
      (.leaf .cont [.v 13] ())))))))
     (.leaf (.yield 1) [] ())))) <|
  (.lt none .len [.v 0] 1 <|
  (.lt none (.bin .leq) [.v 2, .c (.int .i64 60)] 1 <|
  (.leaf .ret [.v 3] ())))))
/-- spec.l15Ask -/
def tm7 : Tm Unit :=
  (.call none 8 [.v 0, .c (.int .i64 0), .c (.int .i64 3)] 1 [] <|
  (.lt (some (.v 7, true)) .id [.v 1] 1 <|
  (.call (some (.v 7, true)) 8 [.v 8, .c (.int .i64 1), .c (.int .i64 999)] 1 [] <|
  (.lt none .pick [.v 7, .v 9, .c (.bool false)] 1 <|
  (.call (some (.v 10, true)) 9 [.v 2, .v 3, .v 4, .v 5, .v 6] 1 [] <|
  (.lt none .pick [.v 10, .v 11, .c (.bool false)] 1 <|
  (.leaf .ret [.v 12] ())))))))
/-- spec.l1In -/
def tm8 : Tm Unit :=
  (.lt none (.bin .geq) [.v 0, .v 1] 1 <|
  (.lt (some (.v 3, true)) .id [.v 0] 1 <|
  (.lt (some (.v 3, true)) .id [.v 2] 1 <|
  (.lt (some (.v 3, true)) (.bin .leq) [.v 4, .v 5] 1 <|
  (.lt none .pick [.v 3, .v 6, .c (.bool false)] 1 <|
  (.leaf .ret [.v 7] ()))))))
/-- spec.GoodCmd -/
def tm9 : Tm Unit :=
  (.lt none (.bin .eql) [.v 0, .c (.int .i64 0)] 1 <|
  (.ite (.v 5)
   (.lt none (.eqs [0, 0, 0, 0, 0]) [.v 0, .v 1, .v 2, .v 3, .v 4, .c (.int .i64 0), .c (.int .i64 0), .c (.int .i64 0), .c (.int .i64 0), .c (.int .i64 0)] 1 <|
   (.leaf .ret [.v 6] ()))
   (.lt none (.bin .eql) [.v 0, .c (.int .i64 1)] 1 <|
   (.ite (.v 6)
    (.call none 10 [.v 0, .v 1, .v 2, .v 3, .v 4] 1 [] <|
    (.lt none (.bin .eql) [.v 7, .c (.int .i64 0)] 1 <|
    (.leaf .ret [.v 8] ())))
    (.lt none (.bin .eql) [.v 0, .c (.int .i64 2)] 1 <|
    (.ite (.v 7)
     (.call none 10 [.v 0, .v 1, .v 2, .v 3, .v 4] 1 [] <|
     (.lt none (.bin .eql) [.v 8, .c (.int .i64 0)] 1 <|
     (.lt (some (.v 9, true)) .id [.v 3] 1 <|
     (.lt (some (.v 9, true)) (.bin .eql) [.v 10, .c (.int .i64 0)] 1 <|
     (.lt none .pick [.v 9, .v 11, .c (.bool false)] 1 <|
     (.lt (some (.v 12, true)) .id [.v 4] 1 <|
     (.lt (some (.v 12, true)) (.bin .eql) [.v 13, .c (.int .i64 0)] 1 <|
     (.lt none .pick [.v 12, .v 14, .c (.bool false)] 1 <|
     (.leaf .ret [.v 15] ())))))))))
     (.leaf .ret [.c (.bool false)] ())))))))
/-- spec.l2Code -/
def tm10 : Tm Unit :=
  (.lt none (.bin .eql) [.v 0, .c (.int .i64 1)] 1 <|
  (.call none 11 [.v 2] 1 [] <|
  (.lt none .not [.v 6] 1 <|
  (.lt (some (.v 7, false)) .id [.v 5] 1 <|
  (.lt (some (.v 7, false)) .id [.v 8] 1 <|
  (.lt (some (.v 9, true)) .id [.v 3] 1 <|
  (.call (some (.v 9, true)) 11 [.v 10] 1 [] <|
  (.lt (some (.v 9, true)) .not [.v 11] 1 <|
  (.lt (some (.v 7, false)) .pick [.v 9, .v 12, .c (.bool false)] 1 <|
  (.lt none .pick [.v 7, .c (.bool true), .v 13] 1 <|
  (.ite (.v 14)
   (.leaf .ret [.c (.int .i64 4)] ())
   (.lt (some (.v 5, true)) .id [.v 2] 1 <|
   (.lt (some (.v 5, true)) .id [.v 3] 1 <|
   (.lt (some (.v 5, true)) (.bin .eql) [.v 15, .v 16] 1 <|
   (.lt none .pick [.v 5, .v 17, .c (.bool false)] 1 <|
   (.ite (.v 18)
    (.leaf .ret [.c (.int .i64 5)] ())
    (.call none 8 [.v 1, .c (.int .i64 1), .c (.int .i64 999)] 1 [] <|
    (.lt none .not [.v 19] 1 <|
    (.lt (some (.v 20, false)) .id [.v 5] 1 <|
    (.lt (some (.v 20, false)) .id [.v 21] 1 <|
    (.lt (some (.v 22, true)) .id [.v 4] 1 <|
    (.call (some (.v 22, true)) 8 [.v 23, .c (.int .i64 1), .c (.int .i64 1000)] 1 [] <|
    (.lt (some (.v 22, true)) .not [.v 24] 1 <|
    (.lt (some (.v 20, false)) .pick [.v 22, .v 25, .c (.bool false)] 1 <|
    (.lt none .pick [.v 20, .c (.bool true), .v 26] 1 <|
    (.ite (.v 27)
     (.leaf .ret [.c (.int .i64 6)] ())
     (.leaf .ret [.c (.int .i64 0)] ())))))))))))))))))))))))))))
/-- spec.l2Account -/
def tm11 : Tm Unit :=
  (.call none 8 [.v 0, .c (.int .i64 0), .c (.int .i64 3)] 1 [] <|
  (.leaf .ret [.v 1] ()))
/-- spec.l15Play -/
def tm12 : Tm Unit :=
  (.call none 13 [] 3 [] <|
  (.lt none .len [.v 0] 1 <|
  (.bind 1
   (.loop [.c (.rows 2 []), .c (.rows 1 []), .c (.int .i64 0), .v 1, .v 2, .v 3]
    (.lt none (.bin .lss) [.v 7, .v 4] 1 <|
    (.ite (.v 11)
     (.lt none .inb [.v 0, .v 7] 0 <|
     (.lt none (.row 7 0 [true, true, true, true, true, true, true]) [.v 0, .v 7] 7 <|
     (.call none 15 [.v 8, .v 9, .v 10, .v 12, .v 13, .v 14, .v 15, .v 16, .v 17, .v 18] 6 [] <|
     (.lt none (.dep 99) [.v 19] 0 <|
     (.lt none (.dep 99) [.v 20] 0 <|
     (.lt none (.dep 99) [.v 21] 0 <|
     (.lt none (.mk 2 1) [.v 22, .v 23] 1 <|
     (.lt none (.app 2 16 true) [.v 5, .v 25] 1 <|
     (.lt none (.mk 1 1) [.v 24] 1 <|
     (.lt none (.app 1 8 true) [.v 6, .v 27] 1 <|
     (.lt none (.bin .add) [.v 7, .c (.int .i64 1)] 1 <|
     (.leaf .cont [.v 26, .v 28, .v 29, .v 19, .v 20, .v 21] ()))))))))))))
     (.leaf (.yield 1) [.v 5, .v 6, .v 8, .v 9, .v 10] ())))) <|
  (.leaf .ret [.v 7, .v 8, .v 9, .v 5, .v 6] ()))))
/-- spec.NewClerk -/
def tm13 : Tm Unit :=
  (.call none 14 [] 1 [] <|
  (.lt none (.make 8 [(.int .i64 0)]) [.c (.int .i64 4)] 1 <|
  (.lt none (.make 16 [(.int .i64 0), (.int .i64 0)]) [.c (.int .i64 4)] 1 <|
  (.leaf .ret [.v 0, .v 1, .v 2] ()))))
/-- spec.NewSums -/
def tm14 : Tm Unit :=
  (.bind 1
   (.loop [.c (.rows 1 []), .c (.int .i64 0)]
    (.lt none (.bin .lss) [.v 1, .c (.int .i64 4)] 1 <|
    (.ite (.v 2)
     (.lt none (.mk 1 1) [.c (.int .i64 100)] 1 <|
     (.lt none (.app 1 8 true) [.v 0, .v 3] 1 <|
     (.lt none (.bin .add) [.v 1, .c (.int .i64 1)] 1 <|
     (.leaf .cont [.v 4, .v 5] ()))))
     (.leaf (.yield 1) [.v 0] ())))) <|
  (.leaf .ret [.v 0] ()))
/-- spec.l15Serve -/
def tm15 : Tm Unit :=
  (.call none 16 [.v 0, .v 1, .v 2] 3 [] <|
  (.lt none .inb [.v 1, .v 3] 0 <|
  (.lt none (.row 1 0 [true]) [.v 1, .v 3] 1 <|
  (.lt none (.bin .eql) [.v 4, .v 13] 1 <|
  (.ite (.v 14)
   (.lt none .inb [.v 2, .v 3] 0 <|
   (.lt none (.row 2 0 [true, true]) [.v 2, .v 3] 2 <|
   (.leaf .ret [.v 10, .v 11, .v 12, .v 15, .v 16, .c (.int .i64 1)] ())))
   (.lt none (.bin .lss) [.v 4, .v 13] 1 <|
   (.ite (.v 15)
    (.leaf .ret [.v 10, .v 11, .v 12, .c (.int .i64 0), .c (.int .i64 0), .c (.int .i64 2)] ())
    (.lt none (.bin .add) [.v 13, .c (.int .i64 1)] 1 <|
    (.lt none (.bin .gtr) [.v 4, .v 16] 1 <|
    (.ite (.v 17)
     (.leaf .ret [.v 10, .v 11, .v 12, .c (.int .i64 0), .c (.int .i64 0), .c (.int .i64 3)] ())
     (.call none 18 [.v 10, .v 5, .v 6, .v 7, .v 8, .v 9] 3 [] <|
     (.lt none (.dep 99) [.v 18] 0 <|
     (.lt none .inb [.v 11, .v 3] 0 <|
     (.lt none (.set 1 0 1) [.v 11, .v 3, .v 4] 1 <|
     (.lt none .inb [.v 12, .v 3] 0 <|
     (.lt none (.set 2 0 2) [.v 12, .v 3, .v 19, .v 20] 1 <|
     (.leaf .ret [.v 18, .v 21, .v 22, .v 19, .v 20, .c (.int .i64 0)] ())))))))))))))))))
/-- spec.l15Own -/
def tm16 : Tm Unit :=
  (.call none 17 [.v 0] 1 [] <|
  (.call none 17 [.v 1] 1 [] <|
  (.lt none (.mk 2 0) [] 1 <|
  (.lt none (.app 2 16 true) [.v 5, .v 2] 1 <|
  (.leaf .ret [.v 3, .v 4, .v 6] ())))))
/-- spec.l1Own -/
def tm17 : Tm Unit :=
  (.lt none (.mk 1 0) [] 1 <|
  (.lt none (.app 1 8 true) [.v 1, .v 0] 1 <|
  (.leaf .ret [.v 2] ())))
/-- spec.l11Apply -/
def tm18 : Tm Unit :=
  (.call none 17 [.v 0] 1 [] <|
  (.lt none (.bin .eql) [.v 1, .c (.int .i64 2)] 1 <|
  (.ite (.v 7)
   (.lt none .inb [.v 0, .v 3] 0 <|
   (.lt none (.row 1 0 [true]) [.v 0, .v 3] 1 <|
   (.leaf .ret [.v 6, .c (.int .i64 3), .v 8] ())))
   (.lt none (.bin .eql) [.v 1, .c (.int .i64 1)] 1 <|
   (.ite (.v 8)
    (.lt none .inb [.v 0, .v 3] 0 <|
    (.lt none (.row 1 0 [true]) [.v 0, .v 3] 1 <|
    (.lt none (.bin .lss) [.v 9, .v 5] 1 <|
    (.ite (.v 10)
     (.leaf .ret [.v 6, .c (.int .i64 2), .c (.int .i64 0)] ())
     (.lt none .inb [.v 6, .v 3] 0 <|
     (.lt none (.row 1 0 [true]) [.v 6, .v 3] 1 <|
     (.lt none (.bin .sub) [.v 11, .v 5] 1 <|
     (.lt none .inb [.v 6, .v 3] 0 <|
     (.lt none (.set 1 0 1) [.v 6, .v 3, .v 12] 1 <|
     (.lt none .inb [.v 13, .v 4] 0 <|
     (.lt none (.row 1 0 [true]) [.v 13, .v 4] 1 <|
     (.lt none (.bin .add) [.v 14, .v 5] 1 <|
     (.lt none .inb [.v 13, .v 4] 0 <|
     (.lt none (.set 1 0 1) [.v 13, .v 4, .v 15] 1 <|
     (.leaf .ret [.v 16, .c (.int .i64 1), .c (.int .i64 0)] ())))))))))))))))
    (.leaf .ret [.v 6, .c (.int .i64 0), .c (.int .i64 0)] ()))))))
/-- impl.PlayAsks -/
def tm19 : Tm Unit :=
  (.lt none .len [.v 0] 1 <|
  (.lt none (.bin .gtr) [.v 1, .c (.int .i64 60)] 1 <|
  (.call (some (.v 2, false)) 20 [.v 0] 1 [] <|
  (.lt none .pick [.v 2, .c (.bool true), .v 3] 1 <|
  (.ite (.v 4)
   (.leaf .ret [.c (.rows 1 []), .c (.rows 1 []), .c (.rows 2 []), .c (.rows 2 []), .c (.rows 1 []), .c (.bool false)] ())
   (.call none 27 [] 3 [] <|
   (.lt none (.mk 2 0) [] 1 <|
   (.lt none (.mk 1 0) [] 1 <|
   (.lt none .len [.v 0] 1 <|
   (.bind 1
    (.loop [.v 8, .v 9, .c (.int .i64 0), .v 5, .v 6, .v 7]
     (.lt none (.bin .lss) [.v 13, .v 10] 1 <|
     (.ite (.v 17)
      (.lt none .inb [.v 0, .v 13] 0 <|
      (.lt none (.row 7 0 [true, true, true, true, true, true, true]) [.v 0, .v 13] 7 <|
      (.call none 32 [.v 18, .v 19, .v 20, .v 21, .v 22, .v 23, .v 24, .v 14, .v 15, .v 16] 6 [] <|
      (.lt none (.mk 2 1) [.v 25, .v 26] 1 <|
      (.lt none (.app 2 16 true) [.v 11, .v 31] 1 <|
      (.lt none (.mk 1 1) [.v 27] 1 <|
      (.lt none (.app 1 8 true) [.v 12, .v 33] 1 <|
      (.lt none (.bin .add) [.v 13, .c (.int .i64 1)] 1 <|
      (.leaf .cont [.v 32, .v 34, .v 35, .v 28, .v 29, .v 30] ())))))))))
      (.leaf (.yield 1) [.v 11, .v 12, .v 14, .v 15, .v 16] ())))) <|
   (.leaf .ret [.v 13, .v 14, .v 15, .v 11, .v 12, .c (.bool true)] ())))))))))))
/-- slices.ContainsFunc[[]impl.Ask,impl.Ask]@impl.PlayAsks$1 -/
def tm20 : Tm Unit :=
  (.call none 21 [.v 0] 1 [] <|
  (.lt none (.bin .geq) [.v 1, .c (.int .i64 0)] 1 <|
  (.leaf .ret [.v 2] ())))
/-- slices.IndexFunc[[]impl.Ask,impl.Ask]@impl.PlayAsks$1 -/
def tm21 : Tm Unit :=
  (.lt none .len [.v 0] 1 <|
  (.bind 1
   (.loop [.c (.int .i64 0)]
    (.lt none (.bin .lss) [.v 2, .v 1] 1 <|
    (.ite (.v 3)
     (.lt none .inb [.v 0, .v 2] 0 <|
     (.lt none (.row 7 0 [true, true, true, true, true, true, true]) [.v 0, .v 2] 7 <|
     (.call none 22 [.v 4, .v 5, .v 6, .v 7, .v 8, .v 9, .v 10] 1 [] <|
     (.ite (.v 11)
      (.leaf .ret [.v 2] ())
      (.lt none (.bin .add) [.v 2, .c (.int .i64 1)] 1 <|
      (.leaf .cont [.v 12] ()))))))
     (.leaf (.yield 1) [] ())))) <|
  (.leaf .ret [.c (.int .i64 (-1))] ())))
/-- impl.PlayAsks$1 -/
def tm22 : Tm Unit :=
  (.call none 23 [.v 0, .v 1, .v 2, .v 3, .v 4, .v 5, .v 6] 1 [] <|
  (.lt none .not [.v 7] 1 <|
  (.leaf .ret [.v 8] ())))
/-- impl.goodAsk -/
def tm23 : Tm Unit :=
  (.call none 24 [.v 0, .c (.int .i64 0), .c (.int .i64 3)] 1 [] <|
  (.lt (some (.v 7, true)) .id [.v 1] 1 <|
  (.call (some (.v 7, true)) 24 [.v 8, .c (.int .i64 1), .c (.int .i64 999)] 1 [] <|
  (.lt none .pick [.v 7, .v 9, .c (.bool false)] 1 <|
  (.call (some (.v 10, true)) 25 [.v 2, .v 3, .v 4, .v 5, .v 6] 1 [] <|
  (.lt none .pick [.v 10, .v 11, .c (.bool false)] 1 <|
  (.leaf .ret [.v 12] ())))))))
/-- impl.within -/
def tm24 : Tm Unit :=
  (.lt none (.bin .leq) [.v 1, .v 0] 1 <|
  (.lt (some (.v 3, true)) .id [.v 0] 1 <|
  (.lt (some (.v 3, true)) .id [.v 2] 1 <|
  (.lt (some (.v 3, true)) (.bin .leq) [.v 4, .v 5] 1 <|
  (.lt none .pick [.v 3, .v 6, .c (.bool false)] 1 <|
  (.leaf .ret [.v 7] ()))))))
/-- impl.GoodCmd -/
def tm25 : Tm Unit :=
  (.lt none (.bin .eql) [.v 0, .c (.int .i64 0)] 1 <|
  (.ite (.v 5)
   (.lt none (.eqs [0, 0, 0, 0, 0]) [.v 0, .v 1, .v 2, .v 3, .v 4, .c (.int .i64 0), .c (.int .i64 0), .c (.int .i64 0), .c (.int .i64 0), .c (.int .i64 0)] 1 <|
   (.leaf .ret [.v 6] ()))
   (.lt none (.bin .eql) [.v 0, .c (.int .i64 1)] 1 <|
   (.ite (.v 6)
    (.call none 24 [.v 1, .c (.int .i64 1), .c (.int .i64 999)] 1 [] <|
    (.lt (some (.v 7, true)) .id [.v 2] 1 <|
    (.call (some (.v 7, true)) 26 [.v 8] 1 [] <|
    (.lt none .pick [.v 7, .v 9, .c (.bool false)] 1 <|
    (.lt (some (.v 10, true)) .id [.v 3] 1 <|
    (.call (some (.v 10, true)) 26 [.v 11] 1 [] <|
    (.lt none .pick [.v 10, .v 12, .c (.bool false)] 1 <|
    (.lt (some (.v 13, true)) .id [.v 2] 1 <|
    (.lt (some (.v 13, true)) .id [.v 3] 1 <|
    (.lt (some (.v 13, true)) (.bin .neq) [.v 14, .v 15] 1 <|
    (.lt none .pick [.v 13, .v 16, .c (.bool false)] 1 <|
    (.lt (some (.v 17, true)) .id [.v 4] 1 <|
    (.call (some (.v 17, true)) 24 [.v 18, .c (.int .i64 1), .c (.int .i64 1000)] 1 [] <|
    (.lt none .pick [.v 17, .v 19, .c (.bool false)] 1 <|
    (.leaf .ret [.v 20] ())))))))))))))))
    (.lt none (.bin .eql) [.v 0, .c (.int .i64 2)] 1 <|
    (.lt (some (.v 7, true)) .id [.v 1] 1 <|
    (.call (some (.v 7, true)) 24 [.v 8, .c (.int .i64 1), .c (.int .i64 999)] 1 [] <|
    (.lt none .pick [.v 7, .v 9, .c (.bool false)] 1 <|
    (.lt (some (.v 10, true)) .id [.v 2] 1 <|
    (.call (some (.v 10, true)) 26 [.v 11] 1 [] <|
    (.lt none .pick [.v 10, .v 12, .c (.bool false)] 1 <|
    (.lt (some (.v 13, true)) .id [.v 3] 1 <|
    (.lt (some (.v 13, true)) (.bin .eql) [.v 14, .c (.int .i64 0)] 1 <|
    (.lt none .pick [.v 13, .v 15, .c (.bool false)] 1 <|
    (.lt (some (.v 16, true)) .id [.v 4] 1 <|
    (.lt (some (.v 16, true)) (.bin .eql) [.v 17, .c (.int .i64 0)] 1 <|
    (.lt none .pick [.v 16, .v 18, .c (.bool false)] 1 <|
    (.leaf .ret [.v 19] ()))))))))))))))))))
/-- impl.isAccount -/
def tm26 : Tm Unit :=
  (.call none 24 [.v 0, .c (.int .i64 0), .c (.int .i64 3)] 1 [] <|
  (.leaf .ret [.v 1] ()))
/-- impl.NewClerk -/
def tm27 : Tm Unit :=
  (.call none 28 [] 1 [] <|
  (.lt none (.make 8 [(.int .i64 0)]) [.c (.int .i64 4)] 1 <|
  (.lt none (.make 16 [(.int .i64 0), (.int .i64 0)]) [.c (.int .i64 4)] 1 <|
  (.leaf .ret [.v 0, .v 1, .v 2] ()))))
/-- impl.NewSums -/
def tm28 : Tm Unit :=
  (.lt none (.mk 1 1) [.c (.int .i64 100)] 1 <|
  (.call none 29 [.v 0, .c (.int .i64 4)] 1 [] <|
  (.lt none (.dep 99) [.v 1] 0 <|
  (.leaf .ret [.v 1] ()))))
/-- slices.Repeat[[]int,int] -/
def tm29 : Tm Unit := .stuck
/-- (*impl.Clerk).serve -/
def tm32 : Tm Unit :=
  (.lt none .inb [.v 8, .v 0] 0 <|
  (.lt none (.row 1 0 [true]) [.v 8, .v 0] 1 <|
  (.lt none (.bin .eql) [.v 1, .v 10] 1 <|
  (.ite (.v 11)
   (.lt none .inb [.v 9, .v 0] 0 <|
   (.lt none (.row 2 0 [true, true]) [.v 9, .v 0] 2 <|
   (.leaf .ret [.v 12, .v 13, .c (.int .i64 1), .v 7, .v 8, .v 9] ())))
   (.lt none (.bin .lss) [.v 1, .v 10] 1 <|
   (.ite (.v 12)
    (.leaf .ret [.c (.int .i64 0), .c (.int .i64 0), .c (.int .i64 2), .v 7, .v 8, .v 9] ())
    (.lt none (.bin .add) [.v 10, .c (.int .i64 1)] 1 <|
    (.lt none (.bin .gtr) [.v 1, .v 13] 1 <|
    (.ite (.v 14)
     (.leaf .ret [.c (.int .i64 0), .c (.int .i64 0), .c (.int .i64 3), .v 7, .v 8, .v 9] ())
     (.call none 33 [.v 7, .v 2, .v 3, .v 4, .v 5, .v 6] 3 [] <|
     (.lt none (.dep 1) [.v 17] 0 <|
     (.lt none .inb [.v 8, .v 0] 0 <|
     (.lt none (.set 1 0 1) [.v 8, .v 0, .v 1] 1 <|
     (.lt none .inb [.v 9, .v 0] 0 <|
     (.lt none (.set 2 0 2) [.v 9, .v 0, .v 15, .v 16] 1 <|
     (.leaf .ret [.v 15, .v 16, .c (.int .i64 0), .v 17, .v 18, .v 19] ()))))))))))))))))
/-- impl.apply -/
def tm33 : Tm Unit :=
  (.lt none (.bin .eql) [.v 1, .c (.int .i64 2)] 1 <|
  (.ite (.v 6)
   (.lt none .inb [.v 0, .v 3] 0 <|
   (.lt none (.row 1 0 [true]) [.v 0, .v 3] 1 <|
   (.leaf .ret [.c (.int .i64 3), .v 7, .v 0] ())))
   (.lt none (.bin .eql) [.v 1, .c (.int .i64 0)] 1 <|
   (.ite (.v 7)
    (.leaf .ret [.c (.int .i64 0), .c (.int .i64 0), .v 0] ())
    (.lt none .inb [.v 0, .v 3] 0 <|
    (.lt none (.row 1 0 [true]) [.v 0, .v 3] 1 <|
    (.lt none (.bin .lss) [.v 8, .v 5] 1 <|
    (.ite (.v 9)
     (.leaf .ret [.c (.int .i64 2), .c (.int .i64 0), .v 0] ())
     (.lt none .inb [.v 0, .v 3] 0 <|
     (.lt none (.row 1 0 [true]) [.v 0, .v 3] 1 <|
     (.lt none (.bin .sub) [.v 10, .v 5] 1 <|
     (.lt none .inb [.v 0, .v 3] 0 <|
     (.lt none (.set 1 0 1) [.v 0, .v 3, .v 11] 1 <|
     (.lt none .inb [.v 12, .v 4] 0 <|
     (.lt none (.row 1 0 [true]) [.v 12, .v 4] 1 <|
     (.lt none (.bin .add) [.v 13, .v 5] 1 <|
     (.lt none .inb [.v 12, .v 4] 0 <|
     (.lt none (.set 1 0 1) [.v 12, .v 4, .v 14] 1 <|
     (.leaf .ret [.c (.int .i64 1), .c (.int .i64 0), .v 15] ())))))))))))))))))))
/-- laws.eqClerk -/
def tm34 : Tm Unit :=
  (.call none 35 [.v 0, .v 3] 1 [] <|
  (.lt none .not [.v 6] 1 <|
  (.ite (.v 7)
   (.leaf .ret [.c (.bool false)] ())
   (.call none 35 [.v 1, .v 4] 1 [] <|
   (.lt none .not [.v 8] 1 <|
   (.ite (.v 9)
    (.leaf .ret [.c (.bool false)] ())
    (.call none 36 [.v 2, .v 5] 1 [] <|
    (.lt none .not [.v 10] 1 <|
    (.ite (.v 11)
     (.leaf .ret [.c (.bool false)] ())
     (.leaf .ret [.c (.bool true)] ()))))))))))
/-- laws.eqIntS -/
def tm35 : Tm Unit :=
  (.lt none .len [.v 0] 1 <|
  (.lt none .len [.v 1] 1 <|
  (.lt none (.bin .neq) [.v 2, .v 3] 1 <|
  (.ite (.v 4)
   (.leaf .ret [.c (.bool false)] ())
   (.bind 1
    (.loop [.c (.int .i64 0)]
     (.lt none .len [.v 0] 1 <|
     (.lt none (.bin .lss) [.v 5, .v 6] 1 <|
     (.ite (.v 7)
      (.lt none .inb [.v 0, .v 5] 0 <|
      (.lt none (.row 1 0 [true]) [.v 0, .v 5] 1 <|
      (.lt none .inb [.v 1, .v 5] 0 <|
      (.lt none (.row 1 0 [true]) [.v 1, .v 5] 1 <|
      (.lt none (.bin .neq) [.v 8, .v 9] 1 <|
      (.ite (.v 10)
       (.leaf .ret [.c (.bool false)] ())
       (.lt none (.bin .add) [.v 5, .c (.int .i64 1)] 1 <|
       (.leaf .cont [.v 11] ()))))))))
      (.leaf (.yield 1) [] ()))))) <|
   (.leaf .ret [.c (.bool true)] ()))))))
/-- laws.eqToldS -/
def tm36 : Tm Unit :=
  (.lt none .len [.v 0] 1 <|
  (.lt none .len [.v 1] 1 <|
  (.lt none (.bin .neq) [.v 2, .v 3] 1 <|
  (.ite (.v 4)
   (.leaf .ret [.c (.bool false)] ())
   (.bind 1
    (.loop [.c (.int .i64 0)]
     (.lt none .len [.v 0] 1 <|
     (.lt none (.bin .lss) [.v 5, .v 6] 1 <|
     (.ite (.v 7)
      (.lt none .inb [.v 0, .v 5] 0 <|
      (.lt none (.row 2 0 [true, true]) [.v 0, .v 5] 2 <|
      (.lt none .inb [.v 1, .v 5] 0 <|
      (.lt none (.row 2 0 [true, true]) [.v 1, .v 5] 2 <|
      (.call none 37 [.v 8, .v 9, .v 10, .v 11] 1 [] <|
      (.lt none .not [.v 12] 1 <|
      (.ite (.v 13)
       (.leaf .ret [.c (.bool false)] ())
       (.lt none (.bin .add) [.v 5, .c (.int .i64 1)] 1 <|
       (.leaf .cont [.v 14] ())))))))))
      (.leaf (.yield 1) [] ()))))) <|
   (.leaf .ret [.c (.bool true)] ()))))))
/-- laws.eqTold -/
def tm37 : Tm Unit :=
  (.lt none (.bin .neq) [.v 0, .v 2] 1 <|
  (.ite (.v 4)
   (.leaf .ret [.c (.bool false)] ())
   (.lt none (.bin .neq) [.v 1, .v 3] 1 <|
   (.ite (.v 5)
    (.leaf .ret [.c (.bool false)] ())
    (.leaf .ret [.c (.bool true)] ())))))
/-- laws.eqAskS -/
def tm38 : Tm Unit :=
  (.lt none .len [.v 0] 1 <|
  (.lt none .len [.v 1] 1 <|
  (.lt none (.bin .neq) [.v 2, .v 3] 1 <|
  (.ite (.v 4)
   (.leaf .ret [.c (.bool false)] ())
   (.bind 1
    (.loop [.c (.int .i64 0)]
     (.lt none .len [.v 0] 1 <|
     (.lt none (.bin .lss) [.v 5, .v 6] 1 <|
     (.ite (.v 7)
      (.lt none .inb [.v 0, .v 5] 0 <|
      (.lt none (.row 7 0 [true, true, true, true, true, true, true]) [.v 0, .v 5] 7 <|
      (.lt none .inb [.v 1, .v 5] 0 <|
      (.lt none (.row 7 0 [true, true, true, true, true, true, true]) [.v 1, .v 5] 7 <|
      (.call none 39 [.v 8, .v 9, .v 10, .v 11, .v 12, .v 13, .v 14, .v 15, .v 16, .v 17, .v 18, .v 19, .v 20, .v 21] 1 [] <|
      (.lt none .not [.v 22] 1 <|
      (.ite (.v 23)
       (.leaf .ret [.c (.bool false)] ())
       (.lt none (.bin .add) [.v 5, .c (.int .i64 1)] 1 <|
       (.leaf .cont [.v 24] ())))))))))
      (.leaf (.yield 1) [] ()))))) <|
   (.leaf .ret [.c (.bool true)] ()))))))
/-- laws.eqAsk -/
def tm39 : Tm Unit :=
  (.lt none (.bin .neq) [.v 0, .v 7] 1 <|
  (.ite (.v 14)
   (.leaf .ret [.c (.bool false)] ())
   (.lt none (.bin .neq) [.v 1, .v 8] 1 <|
   (.ite (.v 15)
    (.leaf .ret [.c (.bool false)] ())
    (.call none 40 [.v 2, .v 3, .v 4, .v 5, .v 6, .v 9, .v 10, .v 11, .v 12, .v 13] 1 [] <|
    (.lt none .not [.v 16] 1 <|
    (.ite (.v 17)
     (.leaf .ret [.c (.bool false)] ())
     (.leaf .ret [.c (.bool true)] ()))))))))
/-- laws.eqCmd -/
def tm40 : Tm Unit :=
  (.lt none (.bin .neq) [.v 0, .v 5] 1 <|
  (.ite (.v 10)
   (.leaf .ret [.c (.bool false)] ())
   (.lt none (.bin .neq) [.v 1, .v 6] 1 <|
   (.ite (.v 11)
    (.leaf .ret [.c (.bool false)] ())
    (.lt none (.bin .neq) [.v 2, .v 7] 1 <|
    (.ite (.v 12)
     (.leaf .ret [.c (.bool false)] ())
     (.lt none (.bin .neq) [.v 3, .v 8] 1 <|
     (.ite (.v 13)
      (.leaf .ret [.c (.bool false)] ())
      (.lt none (.bin .neq) [.v 4, .v 9] 1 <|
      (.ite (.v 14)
       (.leaf .ret [.c (.bool false)] ())
       (.leaf .ret [.c (.bool true)] ())))))))))))
/-- laws.markAskS -/
def tm41 : Tm Unit :=
  (.bind 1
   (.loop [.v 0, .c .undef, .v 1, .c (.int .i64 0)]
    (.lt none .len [.v 2] 1 <|
    (.lt none (.bin .lss) [.v 5, .v 6] 1 <|
    (.ite (.v 7)
     (.lt none .inb [.v 2, .v 5] 0 <|
     (.lt none (.set 7 0 1) [.v 2, .v 5, .v 4] 1 <|
     (.lt none (.bin .add) [.v 4, .c (.int .i64 1)] 1 <|
     (.lt none .inb [.v 8, .v 5] 0 <|
     (.lt none (.set 7 1 1) [.v 8, .v 5, .v 9] 1 <|
     (.lt none (.bin .add) [.v 9, .c (.int .i64 1)] 1 <|
     (.lt none .inb [.v 10, .v 5] 0 <|
     (.lt none (.set 7 2 1) [.v 10, .v 5, .v 11] 1 <|
     (.lt none (.bin .add) [.v 11, .c (.int .i64 1)] 1 <|
     (.lt none .inb [.v 12, .v 5] 0 <|
     (.lt none (.set 7 3 1) [.v 12, .v 5, .v 13] 1 <|
     (.lt none (.bin .add) [.v 13, .c (.int .i64 1)] 1 <|
     (.lt none .inb [.v 14, .v 5] 0 <|
     (.lt none (.set 7 4 1) [.v 14, .v 5, .v 15] 1 <|
     (.lt none (.bin .add) [.v 15, .c (.int .i64 1)] 1 <|
     (.lt none .inb [.v 16, .v 5] 0 <|
     (.lt none (.set 7 5 1) [.v 16, .v 5, .v 17] 1 <|
     (.lt none (.bin .add) [.v 17, .c (.int .i64 1)] 1 <|
     (.lt none .inb [.v 18, .v 5] 0 <|
     (.lt none (.set 7 6 1) [.v 18, .v 5, .v 19] 1 <|
     (.lt none (.bin .add) [.v 19, .c (.int .i64 1)] 1 <|
     (.lt none (.bin .add) [.v 5, .c (.int .i64 1)] 1 <|
     (.leaf .cont [.v 20, .c .undef, .v 21, .v 22] ())))))))))))))))))))))))
     (.leaf (.yield 1) [.v 2, .v 4] ()))))) <|
  (.leaf .ret [.v 3, .v 2] ()))
/-- laws.markClerk -/
def tm42 : Tm Unit :=
  (.call none 43 [.v 0, .v 3] 2 [] <|
  (.call none 43 [.v 1, .v 4] 2 [] <|
  (.call none 44 [.v 2, .v 6] 2 [] <|
  (.leaf .ret [.v 8, .v 5, .v 7, .v 9] ()))))
/-- laws.markIntS -/
def tm43 : Tm Unit :=
  (.bind 1
   (.loop [.v 0, .c .undef, .v 1, .c (.int .i64 0)]
    (.lt none .len [.v 2] 1 <|
    (.lt none (.bin .lss) [.v 5, .v 6] 1 <|
    (.ite (.v 7)
     (.lt none .inb [.v 2, .v 5] 0 <|
     (.lt none (.set 1 0 1) [.v 2, .v 5, .v 4] 1 <|
     (.lt none (.bin .add) [.v 4, .c (.int .i64 1)] 1 <|
     (.lt none (.bin .add) [.v 5, .c (.int .i64 1)] 1 <|
     (.leaf .cont [.v 8, .c .undef, .v 9, .v 10] ())))))
     (.leaf (.yield 1) [.v 2, .v 4] ()))))) <|
  (.leaf .ret [.v 3, .v 2] ()))
/-- laws.markToldS -/
def tm44 : Tm Unit :=
  (.bind 1
   (.loop [.v 0, .c .undef, .v 1, .c (.int .i64 0)]
    (.lt none .len [.v 2] 1 <|
    (.lt none (.bin .lss) [.v 5, .v 6] 1 <|
    (.ite (.v 7)
     (.lt none .inb [.v 2, .v 5] 0 <|
     (.lt none (.set 2 0 1) [.v 2, .v 5, .v 4] 1 <|
     (.lt none (.bin .add) [.v 4, .c (.int .i64 1)] 1 <|
     (.lt none .inb [.v 8, .v 5] 0 <|
     (.lt none (.set 2 1 1) [.v 8, .v 5, .v 9] 1 <|
     (.lt none (.bin .add) [.v 9, .c (.int .i64 1)] 1 <|
     (.lt none (.bin .add) [.v 5, .c (.int .i64 1)] 1 <|
     (.leaf .cont [.v 10, .c .undef, .v 11, .v 12] ()))))))))
     (.leaf (.yield 1) [.v 2, .v 4] ()))))) <|
  (.leaf .ret [.v 3, .v 2] ()))
/-- laws.heldClerk -/
def tm45 : Tm Unit :=
  (.call none 46 [.v 0, .v 3] 1 [] <|
  (.lt none (.bin .lss) [.v 4, .c (.int .i64 0)] 1 <|
  (.ite (.v 5)
   (.leaf .ret [.c (.int .i64 (-1))] ())
   (.call none 46 [.v 1, .v 4] 1 [] <|
   (.lt none (.bin .lss) [.v 6, .c (.int .i64 0)] 1 <|
   (.ite (.v 7)
    (.leaf .ret [.c (.int .i64 (-1))] ())
    (.call none 47 [.v 2, .v 6] 1 [] <|
    (.lt none (.bin .lss) [.v 8, .c (.int .i64 0)] 1 <|
    (.ite (.v 9)
     (.leaf .ret [.c (.int .i64 (-1))] ())
     (.leaf .ret [.v 8] ()))))))))))
/-- laws.heldIntS -/
def tm46 : Tm Unit :=
  (.bind 1
   (.loop [.v 1, .c (.int .i64 0)]
    (.lt none .len [.v 0] 1 <|
    (.lt none (.bin .lss) [.v 3, .v 4] 1 <|
    (.ite (.v 5)
     (.lt none .inb [.v 0, .v 3] 0 <|
     (.lt none (.row 1 0 [true]) [.v 0, .v 3] 1 <|
     (.lt none (.bin .neq) [.v 6, .v 2] 1 <|
     (.ite (.v 7)
      (.leaf .ret [.c (.int .i64 (-1))] ())
      (.lt none (.bin .add) [.v 2, .c (.int .i64 1)] 1 <|
      (.lt none (.bin .add) [.v 3, .c (.int .i64 1)] 1 <|
      (.leaf .cont [.v 8, .v 9] ())))))))
     (.leaf (.yield 1) [.v 2] ()))))) <|
  (.leaf .ret [.v 2] ()))
/-- laws.heldToldS -/
def tm47 : Tm Unit :=
  (.bind 1
   (.loop [.v 1, .c (.int .i64 0)]
    (.lt none .len [.v 0] 1 <|
    (.lt none (.bin .lss) [.v 3, .v 4] 1 <|
    (.ite (.v 5)
     (.lt none .inb [.v 0, .v 3] 0 <|
     (.lt none (.row 2 0 [true]) [.v 0, .v 3] 1 <|
     (.lt none (.bin .neq) [.v 6, .v 2] 1 <|
     (.ite (.v 7)
      (.leaf .ret [.c (.int .i64 (-1))] ())
      (.lt none (.bin .add) [.v 2, .c (.int .i64 1)] 1 <|
      (.lt none .inb [.v 0, .v 3] 0 <|
      (.lt none (.row 2 1 [true]) [.v 0, .v 3] 1 <|
      (.lt none (.bin .neq) [.v 9, .v 8] 1 <|
      (.ite (.v 10)
       (.leaf .ret [.c (.int .i64 (-1))] ())
       (.lt none (.bin .add) [.v 8, .c (.int .i64 1)] 1 <|
       (.lt none (.bin .add) [.v 3, .c (.int .i64 1)] 1 <|
       (.leaf .cont [.v 11, .v 12] ()))))))))))))
     (.leaf (.yield 1) [.v 2] ()))))) <|
  (.leaf .ret [.v 2] ()))

def T : Nat → Ent := entTab [(0, .tm tm0), (1, .tm tm1), (2, .tm tm2), (3, .tm tm3), (4, .tm tm4), (5, .tm tm5), (6, .tm tm6), (7, .tm tm7), (8, .tm tm8), (9, .tm tm9), (10, .tm tm10), (11, .tm tm11), (12, .tm tm12), (13, .tm tm13), (14, .tm tm14), (15, .tm tm15), (16, .tm tm16), (17, .tm tm17), (18, .tm tm18), (19, .tm tm19), (20, .tm tm20), (21, .tm tm21), (22, .tm tm22), (23, .tm tm23), (24, .tm tm24), (25, .tm tm25), (26, .tm tm26), (27, .tm tm27), (28, .tm tm28), (29, .ext repE), (32, .tm tm32), (33, .tm tm33), (34, .tm tm34), (35, .tm tm35), (36, .tm tm36), (37, .tm tm37), (38, .tm tm38), (39, .tm tm39), (40, .tm tm40), (41, .tm tm41), (42, .tm tm42), (43, .tm tm43), (44, .tm tm44), (45, .tm tm45), (46, .tm tm46), (47, .tm tm47)]
abbrev K := FnOk Try.prog T (tiTab tiL) sigs
open Go.RowKit in
set_option maxHeartbeats 2000000 in
theorem repMul (w : World) : Calls Try.prog 173 #[.int .u64 1, .int .u64 4] w fun e w' => e = .returned (.tuple #[.int .u64 0, .int .u64 4]) ∧ w' = w := by
  go_enter Try.func173, Try.ntmps173
  go_wp2
  go_ret2
  exact ⟨rfl, rfl⟩
open Go.RowKit in
set_option maxHeartbeats 2000000 in
theorem repWalk : RepWalk Try.prog 136 := by
  intro a c x w hc
  have hmk : ∀ w, (Instr.makeSlice 22 (.int .i64 4) (.int .i64 4)).run Try.prog w = .ok (.slice (some ⟨w.heap.size, 0, none⟩) 4 4) (w.alloc (.cells #[.int .i64 0, .int .i64 0, .int .i64 0, .int .i64 0] 3)) := fun w => by kernel_rfl
  have hsz : (Try.prog.info? 3).map (·.size) = some 1 := by kernel_rfl
  obtain ⟨W1, e1, b1, hc1⟩ := rep_copy1 (P := Try.prog) 22 3 w a c x Try.underlying22 hsz hc
  obtain ⟨W2, e2, b2, hc2⟩ := rep_copy2 (P := Try.prog) 22 3 w W1 x Try.underlying22 hsz e1 b1
  obtain ⟨W3, e3, b3, hc3⟩ := rep_copy3 (P := Try.prog) 22 3 w W2 x Try.underlying22 hsz e2 b2
  go_enter Try.func136, Try.ntmps136
  go_wp2_with (go_at_call 173; refine (repMul _).mono ?_; rintro e w' ⟨rfl, hw⟩; rw [hw])
  refine wp_loop_rounds 3 ?_
  rw [rounds_succ]
  go_wp2
  go_region
  go_wp2
  rw [rounds_succ]
  go_wp2
  go_region
  go_wp2
  rw [rounds_succ]
  go_wp2
  go_ret
  exact ⟨w.heap.size, 4, 3, rfl, Nat.le_refl _, Nat.le_refl _, Nat.le_refl _, e3, b3⟩
theorem ok29 : FnOk Try.prog T (tiTab tiL) sigs 29 sg29 := rep_ent Try.func136 (by kernel_rfl) rfl repWalk rfl
theorem ok0 : K 0 sg0 := fnK (E := E0) (tm := tm0) Try.func5 (by kernel_rfl)
theorem ok1 : K 1 sg1 := fnK (E := E0) (tm := tm1) Try.func14 (by kernel_rfl)
theorem ok2 : K 2 sg2 := fnK (E := E0) (tm := tm2) Try.func16 (by kernel_rfl)
theorem ok3 : K 3 sg3 := fnK (E := E0) (tm := tm3) Try.func72 (by kernel_rfl)
theorem ok4 : K 4 sg4 := fnK (E := E0) (tm := tm4) Try.func137 (by kernel_rfl)
theorem ok5 : K 5 sg5 := fnK (E := E0) (tm := tm5) Try.func21 (by kernel_rfl)
theorem ok6 : K 6 sg6 := fnK (E := E0) (tm := tm6) Try.func70 (by kernel_rfl)
theorem ok7 : K 7 sg7 := fnK (E := E0) (tm := tm7) Try.func92 (by kernel_rfl)
theorem ok8 : K 8 sg8 := fnK (E := E0) (tm := tm8) Try.func109 (by kernel_rfl)
theorem ok9 : K 9 sg9 := fnK (E := E0) (tm := tm9) Try.func151 (by kernel_rfl)
theorem ok10 : K 10 sg10 := fnK (E := E0) (tm := tm10) Try.func177 (by kernel_rfl)
theorem ok11 : K 11 sg11 := fnK (E := E0) (tm := tm11) Try.func181 (by kernel_rfl)
theorem ok12 : K 12 sg12 := fnK (E := E0) (tm := tm12) Try.func71 (by kernel_rfl)
theorem ok13 : K 13 sg13 := fnK (E := E0) (tm := tm13) Try.func9 (by kernel_rfl)
theorem ok14 : K 14 sg14 := fnK (E := E0) (tm := tm14) Try.func68 (by kernel_rfl)
theorem ok15 : K 15 sg15 := fnK (E := E0) (tm := tm15) Try.func93 (by kernel_rfl)
theorem ok16 : K 16 sg16 := fnK (E := E0) (tm := tm16) Try.func94 (by kernel_rfl)
theorem ok17 : K 17 sg17 := fnK (E := E0) (tm := tm17) Try.func153 (by kernel_rfl)
theorem ok18 : K 18 sg18 := fnK (E := E0) (tm := tm18) Try.func152 (by kernel_rfl)
theorem ok19 : K 19 sg19 := fnK (E := E0) (tm := tm19) Try.func22 (by kernel_rfl)
theorem ok20 : K 20 sg20 := fnK (E := E0) (tm := tm20) Try.func74 (by kernel_rfl)
theorem ok21 : K 21 sg21 := fnK (E := E0) (tm := tm21) Try.func139 (by kernel_rfl)
theorem ok22 : K 22 sg22 := fnK (E := E0) (tm := tm22) Try.func75 (by kernel_rfl)
theorem ok23 : K 23 sg23 := fnK (E := E0) (tm := tm23) Try.func76 (by kernel_rfl)
theorem ok24 : K 24 sg24 := fnK (E := E0) (tm := tm24) Try.func83 (by kernel_rfl)
theorem ok25 : K 25 sg25 := fnK (E := E0) (tm := tm25) Try.func140 (by kernel_rfl)
theorem ok26 : K 26 sg26 := fnK (E := E0) (tm := tm26) Try.func174 (by kernel_rfl)
theorem ok27 : K 27 sg27 := fnK (E := E0) (tm := tm27) Try.func10 (by kernel_rfl)
theorem ok28 : K 28 sg28 := fnK (E := E0) (tm := tm28) Try.func69 (by kernel_rfl)
theorem ok32 : K 32 sg32 := fnK (E := E0) (tm := tm32) Try.func77 (by kernel_rfl)
theorem ok33 : K 33 sg33 := fnK (E := E0) (tm := tm33) Try.func141 (by kernel_rfl)
theorem ok34 : K 34 sg34 := fnK (E := E0) (tm := tm34) Try.func11 (by kernel_rfl)
theorem ok35 : K 35 sg35 := fnK (E := E0) (tm := tm35) Try.func24 (by kernel_rfl)
theorem ok36 : K 36 sg36 := fnK (E := E0) (tm := tm36) Try.func23 (by kernel_rfl)
theorem ok37 : K 37 sg37 := fnK (E := E0) (tm := tm37) Try.func78 (by kernel_rfl)
theorem ok38 : K 38 sg38 := fnK (E := E0) (tm := tm38) Try.func18 (by kernel_rfl)
theorem ok39 : K 39 sg39 := fnK (E := E0) (tm := tm39) Try.func73 (by kernel_rfl)
theorem ok40 : K 40 sg40 := fnK (E := E0) (tm := tm40) Try.func138 (by kernel_rfl)
theorem ok41 : K 41 sg41 := fnK (E := E0) (tm := tm41) Try.func19 (by kernel_rfl)
theorem ok42 : K 42 sg42 := fnK (E := E0) (tm := tm42) Try.func12 (by kernel_rfl)
theorem ok43 : K 43 sg43 := fnK (E := E0) (tm := tm43) Try.func26 (by kernel_rfl)
theorem ok44 : K 44 sg44 := fnK (E := E0) (tm := tm44) Try.func25 (by kernel_rfl)
theorem ok45 : K 45 sg45 := fnK (E := E0) (tm := tm45) Try.func13 (by kernel_rfl)
theorem ok46 : K 46 sg46 := fnK (E := E0) (tm := tm46) Try.func28 (by kernel_rfl)
theorem ok47 : K 47 sg47 := fnK (E := E0) (tm := tm47) Try.func27 (by kernel_rfl)
theorem fns_ok : ∀ key s, (key, s) ∈ sigs → FnOk Try.prog T (tiTab tiL) sigs key s := fnOk_all (fc ok0 <| fc ok1 <| fc ok2 <| fc ok3 <| fc ok4 <| fc ok5 <| fc ok6 <| fc ok7 <| fc ok8 <| fc ok9 <| fc ok10 <| fc ok11 <| fc ok12 <| fc ok13 <| fc ok14 <| fc ok15 <| fc ok16 <| fc ok17 <| fc ok18 <| fc ok19 <| fc ok20 <| fc ok21 <| fc ok22 <| fc ok23 <| fc ok24 <| fc ok25 <| fc ok26 <| fc ok27 <| fc ok28 <| fc ok29 <| fc ok32 <| fc ok33 <| fc ok34 <| fc ok35 <| fc ok36 <| fc ok37 <| fc ok38 <| fc ok39 <| fc ok40 <| fc ok41 <| fc ok42 <| fc ok43 <| fc ok44 <| fc ok45 <| fc ok46 <| fc ok47 <| fc0)
theorem contract : ∀ n, Contract Try.prog T n 0 sg0 := fun n => contracts tiL_ok (by kernel_rfl) fns_ok n 0 sg0 (by simp [sigs])
end FnExactPlayAsks
end Go.Proofs.Ytjoebpmeeampfaa
