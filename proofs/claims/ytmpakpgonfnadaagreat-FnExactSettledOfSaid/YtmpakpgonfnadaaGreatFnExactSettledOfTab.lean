/- The terms of the functions that FnExactSettledOf reaches (printed by the author's own program). -/
import Derived.Test.YtmpakpgonfnadaaGreatChecked
import Derived.Test.YtmpakpgonfnadaaGreatRf8
import Derived.KernelRfl
namespace Go.Proofs.YtmpakpgonfnadaaGreat
namespace FnExactSettledOf
open Go Go.Proofs.YtmpakpgonfnadaaGreat.Rf
set_option maxRecDepth 100000

def t3 : TI := ⟨false, 1, 8, [.sc (.int .i64 0)], [], none, (some .i64), false, false, false, false⟩
theorem ti3 : tiOf Tryz.prog 3 = some t3 := by kernel_rfl
def t4 : TI := ⟨false, 1, 1, [.sc (.bool false)], [], none, none, true, false, false, false⟩
theorem ti4 : tiOf Tryz.prog 4 = some t4 := by kernel_rfl
def t22 : TI := ⟨false, 1, 24, [.sl 4], [], (some 44), none, false, false, false, false⟩
theorem ti22 : tiOf Tryz.prog 22 = some t22 := by kernel_rfl
def t23 : TI := ⟨false, 1, 24, [.sl 15], [], (some 115), none, false, false, false, false⟩
theorem ti23 : tiOf Tryz.prog 23 = some t23 := by kernel_rfl
def t24 : TI := ⟨false, 1, 24, [.sl 7], [], (some 130), none, false, false, false, false⟩
theorem ti24 : tiOf Tryz.prog 24 = some t24 := by kernel_rfl
def t26 : TI := ⟨true, 3, 72, [.sl 4, .sl 15, .sl 7], [(0, 22), (1, 23), (2, 24)], none, none, false, false, false, false⟩
theorem ti26 : tiOf Tryz.prog 26 = some t26 := by kernel_rfl
def t29 : TI := ⟨false, 1, 24, [.sl 4], [], (some 51), none, false, false, false, false⟩
theorem ti29 : tiOf Tryz.prog 29 = some t29 := by kernel_rfl
def t30 : TI := ⟨false, 1, 24, [.sl 15], [], (some 80), none, false, false, false, false⟩
theorem ti30 : tiOf Tryz.prog 30 = some t30 := by kernel_rfl
def t31 : TI := ⟨false, 1, 24, [.sl 7], [], (some 88), none, false, false, false, false⟩
theorem ti31 : tiOf Tryz.prog 31 = some t31 := by kernel_rfl
def t33 : TI := ⟨true, 3, 72, [.sl 4, .sl 15, .sl 7], [(0, 29), (1, 30), (2, 31)], none, none, false, false, false, false⟩
theorem ti33 : tiOf Tryz.prog 33 = some t33 := by kernel_rfl
def t39 : TI := ⟨false, 1, 24, [.sl 1], [], (some 145), none, false, false, false, false⟩
theorem ti39 : tiOf Tryz.prog 39 = some t39 := by kernel_rfl
def t41 : TI := ⟨true, 2, 32, [.sc (.int .i64 0), .sl 1], [(0, 3), (1, 39)], none, none, false, false, false, false⟩
theorem ti41 : tiOf Tryz.prog 41 = some t41 := by kernel_rfl
def t42 : TI := ⟨false, 1, 24, [.sl 16], [], (some 147), none, false, false, false, false⟩
theorem ti42 : tiOf Tryz.prog 42 = some t42 := by kernel_rfl
def t44 : TI := ⟨true, 4, 64, [.sc (.int .i64 0), .sc (.int .i64 0), .sl 1, .sl 16], [(0, 3), (1, 41), (3, 42)], none, none, false, false, false, false⟩
theorem ti44 : tiOf Tryz.prog 44 = some t44 := by kernel_rfl
def t46 : TI := ⟨false, 1, 24, [.sl 1], [], (some 117), none, false, false, false, false⟩
theorem ti46 : tiOf Tryz.prog 46 = some t46 := by kernel_rfl
def t48 : TI := ⟨true, 2, 32, [.sc (.int .i64 0), .sl 1], [(0, 3), (1, 46)], none, none, false, false, false, false⟩
theorem ti48 : tiOf Tryz.prog 48 = some t48 := by kernel_rfl
def t49 : TI := ⟨false, 1, 24, [.sl 16], [], (some 119), none, false, false, false, false⟩
theorem ti49 : tiOf Tryz.prog 49 = some t49 := by kernel_rfl
def t51 : TI := ⟨true, 4, 64, [.sc (.int .i64 0), .sc (.int .i64 0), .sl 1, .sl 16], [(0, 3), (1, 48), (3, 49)], none, none, false, false, false, false⟩
theorem ti51 : tiOf Tryz.prog 51 = some t51 := by kernel_rfl
def t58 : TI := ⟨false, 1, 24, [.sl 1], [], (some 3), none, false, false, false, false⟩
theorem ti58 : tiOf Tryz.prog 58 = some t58 := by kernel_rfl
def t76 : TI := ⟨true, 5, 40, [.sc (.int .i64 0), .sc (.int .i64 0), .sc (.int .i64 0), .sc (.int .i64 0), .sc (.int .i64 0)], [(0, 3), (1, 3), (2, 3), (3, 3), (4, 3)], none, none, false, false, false, true⟩
theorem ti76 : tiOf Tryz.prog 76 = some t76 := by kernel_rfl
def t78 : TI := ⟨true, 2, 32, [.sc (.int .i64 0), .sl 1], [(0, 3), (1, 58)], none, none, false, false, false, false⟩
theorem ti78 : tiOf Tryz.prog 78 = some t78 := by kernel_rfl
def t80 : TI := ⟨true, 15, 136, [.sc (.int .i64 0), .sc (.int .i64 0), .sc (.int .i64 0), .sc (.int .i64 0), .sc (.int .i64 0), .sc (.int .i64 0), .sc (.int .i64 0), .sc (.int .i64 0), .sc (.int .i64 0), .sc (.int .i64 0), .sc (.int .i64 0), .sc (.int .i64 0), .sc (.int .i64 0), .sc (.int .i64 0), .sl 1], [(0, 3), (1, 3), (2, 3), (3, 3), (4, 3), (5, 3), (6, 3), (7, 3), (8, 76), (13, 78)], none, none, false, false, false, false⟩
theorem ti80 : tiOf Tryz.prog 80 = some t80 := by kernel_rfl
def t88 : TI := ⟨true, 7, 56, [.sc (.int .i64 0), .sc (.int .i64 0), .sc (.int .i64 0), .sc (.int .i64 0), .sc (.int .i64 0), .sc (.int .i64 0), .sc (.int .i64 0)], [(0, 3), (1, 3), (2, 76)], none, none, false, false, false, true⟩
theorem ti88 : tiOf Tryz.prog 88 = some t88 := by kernel_rfl
def t112 : TI := ⟨true, 5, 40, [.sc (.int .i64 0), .sc (.int .i64 0), .sc (.int .i64 0), .sc (.int .i64 0), .sc (.int .i64 0)], [(0, 3), (1, 3), (2, 3), (3, 3), (4, 3)], none, none, false, false, false, true⟩
theorem ti112 : tiOf Tryz.prog 112 = some t112 := by kernel_rfl
def t113 : TI := ⟨true, 2, 32, [.sc (.int .i64 0), .sl 1], [(0, 3), (1, 58)], none, none, false, false, false, false⟩
theorem ti113 : tiOf Tryz.prog 113 = some t113 := by kernel_rfl
def t115 : TI := ⟨true, 15, 136, [.sc (.int .i64 0), .sc (.int .i64 0), .sc (.int .i64 0), .sc (.int .i64 0), .sc (.int .i64 0), .sc (.int .i64 0), .sc (.int .i64 0), .sc (.int .i64 0), .sc (.int .i64 0), .sc (.int .i64 0), .sc (.int .i64 0), .sc (.int .i64 0), .sc (.int .i64 0), .sc (.int .i64 0), .sl 1], [(0, 3), (1, 3), (2, 3), (3, 3), (4, 3), (5, 3), (6, 3), (7, 3), (8, 112), (13, 113)], none, none, false, false, false, false⟩
theorem ti115 : tiOf Tryz.prog 115 = some t115 := by kernel_rfl
def t117 : TI := ⟨false, 1, 24, [.sl 10], [], (some 123), none, false, false, false, false⟩
theorem ti117 : tiOf Tryz.prog 117 = some t117 := by kernel_rfl
def t119 : TI := ⟨true, 16, 192, [.sc (.int .i64 0), .sc (.int .i64 0), .sc (.int .i64 0), .sc (.int .i64 0), .sc (.int .i64 0), .sc (.int .i64 0), .sc (.int .i64 0), .sc (.int .i64 0), .sc (.int .i64 0), .sc (.int .i64 0), .sl 1, .sc (.int .i64 0), .sl 1, .sc (.bool false), .sl 1, .sl 10], [(0, 3), (1, 3), (2, 3), (3, 3), (4, 76), (9, 78), (11, 78), (13, 4), (14, 58), (15, 117)], none, none, false, false, false, false⟩
theorem ti119 : tiOf Tryz.prog 119 = some t119 := by kernel_rfl
def t123 : TI := ⟨true, 10, 96, [.sc (.int .i64 0), .sc (.int .i64 0), .sc (.int .i64 0), .sc (.int .i64 0), .sc (.int .i64 0), .sc (.int .i64 0), .sc (.int .i64 0), .sc (.int .i64 0), .sc (.int .i64 0), .sl 1], [(0, 3), (1, 3), (2, 3), (3, 76), (8, 78)], none, none, false, false, false, false⟩
theorem ti123 : tiOf Tryz.prog 123 = some t123 := by kernel_rfl
def t130 : TI := ⟨true, 7, 56, [.sc (.int .i64 0), .sc (.int .i64 0), .sc (.int .i64 0), .sc (.int .i64 0), .sc (.int .i64 0), .sc (.int .i64 0), .sc (.int .i64 0)], [(0, 3), (1, 3), (2, 112)], none, none, false, false, false, true⟩
theorem ti130 : tiOf Tryz.prog 130 = some t130 := by kernel_rfl
def t138 : TI := ⟨false, 1, 24, [.sl 1], [], (some 58), none, false, false, false, false⟩
theorem ti138 : tiOf Tryz.prog 138 = some t138 := by kernel_rfl
def t145 : TI := ⟨false, 1, 24, [.sl 10], [], (some 187), none, false, false, false, false⟩
theorem ti145 : tiOf Tryz.prog 145 = some t145 := by kernel_rfl
def t147 : TI := ⟨true, 16, 192, [.sc (.int .i64 0), .sc (.int .i64 0), .sc (.int .i64 0), .sc (.int .i64 0), .sc (.int .i64 0), .sc (.int .i64 0), .sc (.int .i64 0), .sc (.int .i64 0), .sc (.int .i64 0), .sc (.int .i64 0), .sl 1, .sc (.int .i64 0), .sl 1, .sc (.bool false), .sl 1, .sl 10], [(0, 3), (1, 3), (2, 3), (3, 3), (4, 112), (9, 113), (11, 113), (13, 4), (14, 58), (15, 145)], none, none, false, false, false, false⟩
theorem ti147 : tiOf Tryz.prog 147 = some t147 := by kernel_rfl
def t187 : TI := ⟨true, 10, 96, [.sc (.int .i64 0), .sc (.int .i64 0), .sc (.int .i64 0), .sc (.int .i64 0), .sc (.int .i64 0), .sc (.int .i64 0), .sc (.int .i64 0), .sc (.int .i64 0), .sc (.int .i64 0), .sl 1], [(0, 3), (1, 3), (2, 3), (3, 112), (8, 113)], none, none, false, false, false, false⟩
theorem ti187 : tiOf Tryz.prog 187 = some t187 := by kernel_rfl
def tiL : List (Nat × TI) := [(3, t3), (4, t4), (22, t22), (23, t23), (24, t24), (26, t26), (29, t29), (30, t30), (31, t31), (33, t33), (39, t39), (41, t41), (42, t42), (44, t44), (46, t46), (48, t48), (49, t49), (51, t51), (58, t58), (76, t76), (78, t78), (80, t80), (88, t88), (112, t112), (113, t113), (115, t115), (117, t117), (119, t119), (123, t123), (130, t130), (138, t138), (145, t145), (147, t147), (187, t187)]
theorem tiL_ok : TiOk Tryz.prog (tiTab tiL) := tiTab_ok (l := tiL) (fc ti3 <| fc ti4 <| fc ti22 <| fc ti23 <| fc ti24 <| fc ti26 <| fc ti29 <| fc ti30 <| fc ti31 <| fc ti33 <| fc ti39 <| fc ti41 <| fc ti42 <| fc ti44 <| fc ti46 <| fc ti48 <| fc ti49 <| fc ti51 <| fc ti58 <| fc ti76 <| fc ti78 <| fc ti80 <| fc ti88 <| fc ti112 <| fc ti113 <| fc ti115 <| fc ti117 <| fc ti119 <| fc ti123 <| fc ti130 <| fc ti138 <| fc ti145 <| fc ti147 <| fc ti187 <| fc0)

def sg0 : Sig := ⟨8, [(true, [.fz false, .fz false, .fz false])], [], [(false, [.sc])]⟩
def sg1 : Sig := ⟨9, [(true, [.fz false, .fz false, .fz false]), (false, [.sc])], [], [(false, [.sc])]⟩
def sg2 : Sig := ⟨36, [(false, [.fz false]), (false, [.sc])], [], [(false, [.sc])]⟩
def sg3 : Sig := ⟨18, [(true, [.sc, .sc, .fz false, .fz false]), (false, [.sc])], [], [(false, [.sc])]⟩
def sg4 : Sig := ⟨61, [(true, [.sc, .fz false]), (false, [.sc])], [], [(false, [.sc])]⟩
def sg5 : Sig := ⟨109, [(false, [.fz false]), (false, [.sc])], [], [(false, [.sc])]⟩
def sg6 : Sig := ⟨149, [(false, [.fz false]), (false, [.sc])], [], [(false, [.sc])]⟩
def sg7 : Sig := ⟨165, [(true, [.sc, .sc, .sc, .sc, .sc, .sc, .sc, .sc, .sc, .fz false]), (false, [.sc])], [], [(false, [.sc])]⟩
def sg8 : Sig := ⟨124, [(true, [.sc, .fz false]), (false, [.sc])], [], [(false, [.sc])]⟩
def sg9 : Sig := ⟨150, [(false, [.fz false]), (false, [.sc])], [], [(false, [.sc])]⟩
def sg10 : Sig := ⟨62, [(false, [.fz false]), (false, [.sc])], [], [(false, [.sc])]⟩
def sg11 : Sig := ⟨110, [(true, [.sc, .sc, .sc, .sc, .sc, .sc, .sc, .sc, .sc, .sc, .fz false, .sc, .fz false, .sc, .fz false, .fz false]), (false, [.sc])], [], [(false, [.sc])]⟩
def sg12 : Sig := ⟨37, [(false, [.fz false]), (false, [.sc])], [], [(false, [.sc])]⟩
def sg13 : Sig := ⟨80, [(true, [.sc, .sc, .sc, .sc, .sc, .sc, .sc, .sc, .sc, .sc, .sc, .sc, .sc, .sc, .fz false]), (false, [.sc])], [], [(false, [.sc])]⟩
def sg14 : Sig := ⟨38, [(false, [.fz false]), (false, [.sc])], [], [(false, [.sc])]⟩
def sg15 : Sig := ⟨11, [(true, [.fz false, .fz false, .fz false])], [], [(true, [.ow 99, .ow 99, .ow 99])]⟩
def sg16 : Sig := ⟨43, [(false, [.fz false])], [], [(false, [.ow 99])]⟩
def sg17 : Sig := ⟨20, [(true, [.sc, .sc, .fz false, .fz false])], [], [(true, [.sc, .sc, .ow 99, .ow 99])]⟩
def sg18 : Sig := ⟨64, [(true, [.sc, .fz false])], [], [(true, [.sc, .ow 99])]⟩
def sg19 : Sig := ⟨113, [(false, [.fz false])], [], [(false, [.ow 99])]⟩
def sg20 : Sig := ⟨152, [(false, [.fz false])], [], [(false, [.ow 99])]⟩
def sg21 : Sig := ⟨167, [(true, [.sc, .sc, .sc, .sc, .sc, .sc, .sc, .sc, .sc, .fz false])], [], [(true, [.sc, .sc, .sc, .sc, .sc, .sc, .sc, .sc, .sc, .ow 99])]⟩
def sg22 : Sig := ⟨130, [(true, [.sc, .sc, .sc, .sc, .sc])], [], [(true, [.sc, .sc, .sc, .sc, .sc])]⟩
def sg23 : Sig := ⟨131, [(true, [.sc, .fz false])], [], [(true, [.sc, .ow 99])]⟩
def sg24 : Sig := ⟨153, [(false, [.fz false])], [], [(false, [.ow 99])]⟩
def sg25 : Sig := ⟨65, [(false, [.fz false])], [], [(false, [.ow 99])]⟩
def sg26 : Sig := ⟨114, [(true, [.sc, .sc, .sc, .sc, .sc, .sc, .sc, .sc, .sc, .sc, .fz false, .sc, .fz false, .sc, .fz false, .fz false])], [], [(true, [.sc, .sc, .sc, .sc, .sc, .sc, .sc, .sc, .sc, .sc, .ow 99, .sc, .ow 99, .sc, .ow 99, .ow 99])]⟩
def sg27 : Sig := ⟨44, [(false, [.fz false])], [], [(false, [.ow 99])]⟩
def sg28 : Sig := ⟨89, [(true, [.sc, .sc, .sc, .sc, .sc, .sc, .sc, .sc, .sc, .sc, .sc, .sc, .sc, .sc, .fz false])], [], [(true, [.sc, .sc, .sc, .sc, .sc, .sc, .sc, .sc, .sc, .sc, .sc, .sc, .sc, .sc, .ow 99])]⟩
def sg29 : Sig := ⟨45, [(false, [.fz false])], [], [(false, [.ow 99])]⟩
def sg30 : Sig := ⟨90, [(true, [.sc, .sc, .sc, .sc, .sc, .sc, .sc])], [], [(true, [.sc, .sc, .sc, .sc, .sc, .sc, .sc])]⟩
def sg31 : Sig := ⟨31, [(true, [.fz false, .fz false, .fz false])], [], [(true, [.sc, .ow 99]), (false, [.sc])]⟩
def sg32 : Sig := ⟨10, [(true, [.fz false, .fz false, .fz false])], [], [(false, [.sc])]⟩
def sg33 : Sig := ⟨39, [(false, [.sc])], [], [(false, [.sc])]⟩
def sg34 : Sig := ⟨40, [(false, [.sc]), (false, [.fz false])], [], [(false, [.sc])]⟩
def sg35 : Sig := ⟨81, [(false, [.sc]), (false, [.sc]), (false, [.sc])], [], [(false, [.sc])]⟩
def sg36 : Sig := ⟨70, [(false, [.sc]), (false, [.sc]), (false, [.sc])], [], [(false, [.sc])]⟩
def sg37 : Sig := ⟨82, [(true, [.sc, .sc, .sc, .sc, .sc])], [], [(false, [.sc])]⟩
def sg38 : Sig := ⟨125, [(true, [.sc, .sc, .sc, .sc, .sc])], [], [(false, [.sc])]⟩
def sg39 : Sig := ⟨157, [(false, [.sc])], [], [(false, [.sc])]⟩
def sg40 : Sig := ⟨41, [(true, [.sc, .sc, .fz false, .fz false])], [], [(false, [.sc])]⟩
def sg41 : Sig := ⟨83, [(true, [.sc, .fz false])], [], [(false, [.sc])]⟩
def sg42 : Sig := ⟨85, [(false, [.sc]), (true, [.sc, .sc, .sc, .sc, .sc, .sc, .sc, .sc, .sc, .fz false])], [], [(false, [.sc])]⟩
def sg43 : Sig := ⟨88, [(false, [.sc])], [], [(true, [.sc, .ow 99])]⟩
def sg44 : Sig := ⟨87, [(true, [.sc, .fz false]), (true, [.sc, .fz false])], [], [(false, [.sc])]⟩
def sg45 : Sig := ⟨129, [(false, [.fz false]), (false, [.fz false])], [], [(false, [.sc])]⟩
def sg46 : Sig := ⟨86, [(false, [.sc]), (true, [.sc, .fz false])], [], [(false, [.sc])]⟩
def sg47 : Sig := ⟨128, [(false, [.fz false]), (false, [.sc]), (false, [.sc])], [], [(false, [.sc])]⟩
def sg48 : Sig := ⟨84, [(false, [.sc]), (false, [.sc]), (true, [.sc, .sc, .sc, .sc, .sc, .sc, .sc, .sc, .sc, .sc, .fz false, .sc, .fz false, .sc, .fz false, .fz false])], [], [(false, [.sc])]⟩
def sg49 : Sig := ⟨126, [(false, [.fz false]), (false, [.sc]), (false, [.sc])], [], [(false, [.sc])]⟩
def sg50 : Sig := ⟨127, [(false, [.fz false]), (false, [.sc])], [], [(false, [.sc])]⟩
def sg51 : Sig := ⟨42, [(false, [.sc]), (true, [.sc, .sc, .sc, .sc, .sc, .sc, .sc, .sc, .sc, .sc, .sc, .sc, .sc, .sc, .fz false])], [], [(false, [.sc])]⟩
def sg52 : Sig := ⟨59, [(true, [.fz false, .fz false, .fz false])], [], [(false, [.sc])]⟩
def sg53 : Sig := ⟨105, [(true, [.sc, .fz false])], [], [(false, [.ow 99])]⟩
def sg54 : Sig := ⟨106, [(true, [.sc, .fz false]), (false, [.sc]), (false, [.sc])], [], [(true, [.sc, .sc, .sc, .sc, .sc, .sc, .sc, .sc, .sc, .ow 99])]⟩
def sg55 : Sig := ⟨112, [(true, [.sc, .sc, .sc, .sc, .sc, .sc, .sc, .sc, .sc, .fz false])], [], [(true, [.sc, .sc, .sc, .sc, .sc, .sc, .sc, .sc, .sc, .ow 99])]⟩
def sg56 : Sig := ⟨151, [(true, [.sc, .fz false])], [], [(true, [.sc, .ow 99])]⟩
def sg57 : Sig := ⟨166, [(false, [.fz false])], [], [(false, [.ow 99])]⟩
def sg58 : Sig := ⟨75, [(true, [.fz false, .fz false, .fz false])], [], [(true, [.sc, .ow 99])]⟩
def sg59 : Sig := ⟨111, [(false, [.sc])], [], [(true, [.sc, .ow 99])]⟩
def sg60 : Sig := ⟨120, [(true, [.sc, .fz false]), (false, [.sc]), (false, [.sc]), (true, [.sc, .sc, .sc, .sc, .sc, .sc, .sc, .sc, .sc, .fz false])], [], [(true, [.sc, .ow 99])]⟩
def sg61 : Sig := ⟨63, [(true, [.sc, .fz false])], [], [(true, [.sc, .ow 99])]⟩
def sg62 : Sig := ⟨32, [(true, [.fz false, .fz false, .fz false])], [], [(true, [.sc, .ow 99]), (false, [.sc])]⟩
def sg63 : Sig := ⟨12, [(true, [.fz false, .fz false, .fz false])], [], [(false, [.sc])]⟩
def sg64 : Sig := ⟨46, [(false, [.sc])], [], [(false, [.sc])]⟩
def sg65 : Sig := ⟨47, [(false, [.fz false]), (false, [.clo 48 [.px 0]])], [(true, [(.sc, .sc)])], [(false, [.sc])]⟩
def sg66 : Sig := ⟨91, [(false, [.fz false]), (false, [.clo 48 [.px 0]])], [(true, [(.sc, .sc)])], [(false, [.sc])]⟩
def sg67 : Sig := ⟨48, [(true, [.sc, .sc, .sc, .sc, .sc, .sc, .sc, .sc, .sc, .sc, .sc, .sc, .sc, .sc, .fz false]), (false, [.px 0])], [(true, [(.sc, .sc)])], [(false, [.sc])]⟩
def sg68 : Sig := ⟨49, [(false, [.sc]), (true, [.sc, .sc, .sc, .sc, .sc, .sc, .sc, .sc, .sc, .sc, .sc, .sc, .sc, .sc, .fz false])], [], [(false, [.sc])]⟩
def sg69 : Sig := ⟨71, [(false, [.sc]), (false, [.sc]), (false, [.sc])], [], [(false, [.sc])]⟩
def sg70 : Sig := ⟨51, [(false, [.sc]), (false, [.sc]), (false, [.sc])], [], [(false, [.sc])]⟩
def sg71 : Sig := ⟨93, [(true, [.sc, .sc, .sc, .sc, .sc, .sc, .sc, .sc, .sc, .sc, .sc, .sc, .sc, .sc, .fz false])], [], [(true, [.sc, .sc, .sc, .sc, .sc, .sc, .sc, .sc, .sc, .ow 99])]⟩
def sg72 : Sig := ⟨132, [(true, [.sc, .fz false])], [], [(true, [.sc, .ow 99])]⟩
def sg73 : Sig := ⟨155, [(false, [.fz false])], [], [(false, [.ow 99])]⟩
def sg74 : Sig := ⟨92, [(false, [.sc]), (true, [.sc, .sc, .sc, .sc, .sc, .sc, .sc, .sc, .sc, .fz false])], [], [(false, [.sc])]⟩
def sg75 : Sig := ⟨52, [(true, [.sc, .sc, .sc, .sc, .sc])], [], [(false, [.sc])]⟩
def sg76 : Sig := ⟨100, [(false, [.sc])], [], [(false, [.sc])]⟩
def sg77 : Sig := ⟨94, [(false, [.sc]), (true, [.sc, .fz false])], [], [(false, [.sc])]⟩
def sg78 : Sig := ⟨133, [(false, [.fz false]), (false, [.clo 134 []])], [], [(false, [.sc])]⟩
def sg79 : Sig := ⟨158, [(false, [.fz false]), (false, [.clo 134 []])], [], [(false, [.sc])]⟩
def sg80 : Sig := ⟨134, [(false, [.sc])], [], [(false, [.sc])]⟩
def sg81 : Sig := ⟨96, [(false, [.sc])], [], [(true, [.sc, .ow 99])]⟩
def sg82 : Sig := ⟨95, [(true, [.sc, .fz false]), (true, [.sc, .fz false])], [], [(false, [.sc])]⟩
def sg83 : Sig := ⟨135, [(false, [.fz false]), (false, [.fz false])], [], [(false, [.sc])]⟩
def sg84 : Sig := ⟨50, [(true, [.sc, .sc, .fz false, .fz false])], [], [(false, [.sc])]⟩
def sg85 : Sig := ⟨97, [(true, [.sc, .fz false])], [], [(false, [.sc])]⟩
def sg86 : Sig := ⟨136, [(false, [.fz false]), (false, [.clo 137 [.px 0]])], [(true, [(.sc, .sc), (.fz false, .fz)])], [(false, [.sc])]⟩
def sg87 : Sig := ⟨159, [(false, [.fz false]), (false, [.clo 137 [.px 0]])], [(true, [(.sc, .sc), (.fz false, .fz)])], [(false, [.sc])]⟩
def sg88 : Sig := ⟨137, [(false, [.fz false]), (false, [.px 0])], [(true, [(.sc, .sc), (.fz false, .fz)])], [(false, [.sc])]⟩
def sg89 : Sig := ⟨138, [(false, [.fz false]), (false, [.clo 139 [.px 0]])], [(true, [(.sc, .sc), (.fz false, .fz)])], [(false, [.sc])]⟩
def sg90 : Sig := ⟨160, [(false, [.fz false]), (false, [.clo 139 [.px 0]])], [(true, [(.sc, .sc), (.fz false, .fz)])], [(false, [.sc])]⟩
def sg91 : Sig := ⟨139, [(true, [.sc, .sc, .sc, .sc, .sc, .sc, .sc, .sc, .sc, .fz false]), (false, [.px 0])], [(true, [(.sc, .sc), (.fz false, .fz)])], [(false, [.sc])]⟩
def sg92 : Sig := ⟨98, [(false, [.sc]), (false, [.sc]), (true, [.sc, .sc, .sc, .sc, .sc, .sc, .sc, .sc, .sc, .sc, .fz false, .sc, .fz false, .sc, .fz false, .fz false])], [], [(false, [.sc])]⟩
def sg93 : Sig := ⟨140, [(false, [.sc]), (false, [.fz false])], [], [(false, [.sc])]⟩
def sg94 : Sig := ⟨161, [(false, [.fz false])], [], [(false, [.sc])]⟩
def sg95 : Sig := ⟨133, [(false, [.fz false]), (false, [.clo 162 [.px 0]])], [(true, [(.sc, .sc)])], [(false, [.sc])]⟩
def sg96 : Sig := ⟨158, [(false, [.fz false]), (false, [.clo 162 [.px 0]])], [(true, [(.sc, .sc)])], [(false, [.sc])]⟩
def sg97 : Sig := ⟨162, [(false, [.sc]), (false, [.px 0])], [(true, [(.sc, .sc)])], [(false, [.sc])]⟩
def sg98 : Sig := ⟨141, [(false, [.fz false]), (false, [.sc])], [], [(false, [.sc])]⟩
def sg99 : Sig := ⟨163, [(false, [.fz false]), (false, [.sc])], [], [(false, [.sc])]⟩
def sg100 : Sig := ⟨138, [(false, [.fz false]), (false, [.clo 142 [.px 0]])], [(true, [(.sc, .sc)])], [(false, [.sc])]⟩
def sg101 : Sig := ⟨160, [(false, [.fz false]), (false, [.clo 142 [.px 0]])], [(true, [(.sc, .sc)])], [(false, [.sc])]⟩
def sg102 : Sig := ⟨142, [(true, [.sc, .sc, .sc, .sc, .sc, .sc, .sc, .sc, .sc, .fz false]), (false, [.px 0])], [(true, [(.sc, .sc)])], [(false, [.sc])]⟩
def sg103 : Sig := ⟨99, [(false, [.fz false]), (false, [.fz false])], [], [(false, [.sc])]⟩
def sg104 : Sig := ⟨143, [(false, [.sc]), (false, [.sc])], [], [(false, [.sc])]⟩
def sg105 : Sig := ⟨164, [(false, [.sc])], [], [(false, [.sc])]⟩
def sg106 : Sig := ⟨53, [(true, [.fz false, .fz false, .fz false]), (false, [.sc]), (false, [.sc]), (false, [.sc])], [], [(false, [.sc])]⟩
def sg107 : Sig := ⟨101, [(false, [.fz false]), (false, [.clo 102 [.px 0, .px 1]])], [(true, [(.sc, .sc)]), (true, [(.sc, .sc)])], [(false, [.sc])]⟩
def sg108 : Sig := ⟨102, [(true, [.sc, .sc, .sc, .sc, .sc, .sc, .sc]), (false, [.px 0]), (false, [.px 1])], [(true, [(.sc, .sc)]), (true, [(.sc, .sc)])], [(false, [.sc])]⟩
def sg109 : Sig := ⟨60, [(true, [.fz false, .fz false, .fz false])], [], [(false, [.sc])]⟩
def sg110 : Sig := ⟨107, [(true, [.sc, .fz false])], [], [(false, [.ow 99])]⟩
def sg111 : Sig := ⟨146, [(true, [.sc, .fz false]), (false, [.clo 147 [.px 0]])], [(false, [(.ow 99, .ow 99)])], []⟩
def sg112 : Sig := ⟨147, [(false, [.sc]), (false, [.sc]), (true, [.sc, .sc, .sc, .sc, .sc, .sc, .sc, .sc, .sc, .fz false]), (false, [.px 0])], [(false, [(.ow 99, .ow 99)])], []⟩
def sg113 : Sig := ⟨108, [(true, [.sc, .fz false]), (false, [.sc]), (false, [.sc])], [], [(true, [.sc, .sc, .sc, .sc, .sc, .sc, .sc, .sc, .sc, .ow 99])]⟩
def sg114 : Sig := ⟨148, [(true, [.sc, .sc, .sc, .sc, .sc, .sc, .sc, .sc, .sc, .fz false])], [], [(true, [.sc, .sc, .sc, .sc, .sc, .sc, .sc, .sc, .sc, .ow 99])]⟩
def sg115 : Sig := ⟨76, [(true, [.fz false, .fz false, .fz false])], [], [(true, [.sc, .ow 99])]⟩
def sg116 : Sig := ⟨121, [(false, [.sc])], [], [(true, [.sc, .ow 99])]⟩
def sg117 : Sig := ⟨122, [(false, [.px 0]), (false, [.sc]), (false, [.sc]), (true, [.sc, .sc, .sc, .sc, .sc, .sc, .sc, .sc, .sc, .fz false])], [(false, [(.sc, .sc), (.ow 99, .ow 99)])], []⟩
def sg118 : Sig := ⟨33, [(true, [.sc, .fz false]), (true, [.sc, .fz false])], [], [(false, [.sc])]⟩
def sg119 : Sig := ⟨77, [(false, [.fz false]), (false, [.fz false])], [], [(false, [.sc])]⟩
def sg120 : Sig := ⟨123, [(false, [.fz false]), (false, [.fz false])], [], [(false, [.sc])]⟩
def sg121 : Sig := ⟨156, [(true, [.sc, .sc, .sc, .sc, .sc, .sc, .sc, .sc, .sc, .fz false]), (true, [.sc, .sc, .sc, .sc, .sc, .sc, .sc, .sc, .sc, .fz false])], [], [(false, [.sc])]⟩
def sg122 : Sig := ⟨144, [(true, [.sc, .sc, .sc, .sc, .sc]), (true, [.sc, .sc, .sc, .sc, .sc])], [], [(false, [.sc])]⟩
def sg123 : Sig := ⟨145, [(true, [.sc, .fz false]), (true, [.sc, .fz false])], [], [(false, [.sc])]⟩
def sg124 : Sig := ⟨27, [(false, [.fz false]), (false, [.fz false])], [], [(false, [.sc])]⟩
def sg125 : Sig := ⟨13, [(true, [.fz false, .fz false, .fz false]), (true, [.fz false, .fz false, .fz false])], [], [(false, [.sc])]⟩
def sg126 : Sig := ⟨54, [(false, [.fz false]), (false, [.fz false])], [], [(false, [.sc])]⟩
def sg127 : Sig := ⟨22, [(true, [.sc, .sc, .fz false, .fz false]), (true, [.sc, .sc, .fz false, .fz false])], [], [(false, [.sc])]⟩
def sg128 : Sig := ⟨67, [(false, [.fz false]), (false, [.fz false])], [], [(false, [.sc])]⟩
def sg129 : Sig := ⟨117, [(true, [.sc, .sc, .sc, .sc, .sc, .sc, .sc, .sc, .sc, .sc, .fz false, .sc, .fz false, .sc, .fz false, .fz false]), (true, [.sc, .sc, .sc, .sc, .sc, .sc, .sc, .sc, .sc, .sc, .fz false, .sc, .fz false, .sc, .fz false, .fz false])], [], [(false, [.sc])]⟩
def sg130 : Sig := ⟨55, [(false, [.fz false]), (false, [.fz false])], [], [(false, [.sc])]⟩
def sg131 : Sig := ⟨103, [(true, [.sc, .sc, .sc, .sc, .sc, .sc, .sc, .sc, .sc, .sc, .sc, .sc, .sc, .sc, .fz false]), (true, [.sc, .sc, .sc, .sc, .sc, .sc, .sc, .sc, .sc, .sc, .sc, .sc, .sc, .sc, .fz false])], [], [(false, [.sc])]⟩
def sg132 : Sig := ⟨56, [(false, [.fz false]), (false, [.fz false])], [], [(false, [.sc])]⟩
def sg133 : Sig := ⟨104, [(true, [.sc, .sc, .sc, .sc, .sc, .sc, .sc]), (true, [.sc, .sc, .sc, .sc, .sc, .sc, .sc])], [], [(false, [.sc])]⟩
def sg134 : Sig := ⟨28, [(true, [.mu 4, .mu 2, .mu 1]), (false, [.sc])], [], [(false, [.sc])]⟩
def sg135 : Sig := ⟨72, [(false, [.mu 4]), (false, [.sc])], [], [(false, [.sc])]⟩
def sg136 : Sig := ⟨78, [(false, [.mu 3]), (false, [.sc])], [], [(false, [.sc])]⟩
def sg137 : Sig := ⟨118, [(false, [.mu 2]), (false, [.sc])], [], [(false, [.sc])]⟩
def sg138 : Sig := ⟨29, [(false, [.mu 1]), (false, [.sc])], [], [(false, [.sc])]⟩
def sg139 : Sig := ⟨68, [(false, [.mu 3]), (false, [.sc])], [], [(false, [.sc])]⟩
def sg140 : Sig := ⟨73, [(false, [.mu 2]), (false, [.sc])], [], [(false, [.sc])]⟩
def sg141 : Sig := ⟨74, [(false, [.mu 1]), (false, [.sc])], [], [(false, [.sc])]⟩
def sg142 : Sig := ⟨34, [(true, [.sc, .mu 3]), (false, [.sc])], [], [(false, [.sc])]⟩
def sg143 : Sig := ⟨35, [(true, [.sc, .fz false]), (false, [.sc])], [], [(false, [.sc])]⟩
def sg144 : Sig := ⟨79, [(false, [.fz false]), (false, [.sc])], [], [(false, [.sc])]⟩
def sg145 : Sig := ⟨119, [(false, [.fz false]), (false, [.sc])], [], [(false, [.sc])]⟩
def sg146 : Sig := ⟨30, [(false, [.fz false]), (false, [.sc])], [], [(false, [.sc])]⟩
def sigs : List (Nat × Sig) := [(0, sg0), (1, sg1), (2, sg2), (3, sg3), (4, sg4), (5, sg5), (6, sg6), (7, sg7), (8, sg8), (9, sg9), (10, sg10), (11, sg11), (12, sg12), (13, sg13), (14, sg14), (15, sg15), (16, sg16), (17, sg17), (18, sg18), (19, sg19), (20, sg20), (21, sg21), (22, sg22), (23, sg23), (24, sg24), (25, sg25), (26, sg26), (27, sg27), (28, sg28), (29, sg29), (30, sg30), (31, sg31), (32, sg32), (33, sg33), (34, sg34), (35, sg35), (36, sg36), (37, sg37), (38, sg38), (39, sg39), (40, sg40), (41, sg41), (42, sg42), (43, sg43), (44, sg44), (45, sg45), (46, sg46), (47, sg47), (48, sg48), (49, sg49), (50, sg50), (51, sg51), (52, sg52), (53, sg53), (54, sg54), (55, sg55), (56, sg56), (57, sg57), (58, sg58), (59, sg59), (60, sg60), (61, sg61), (62, sg62), (63, sg63), (64, sg64), (65, sg65), (66, sg66), (67, sg67), (68, sg68), (69, sg69), (70, sg70), (71, sg71), (72, sg72), (73, sg73), (74, sg74), (75, sg75), (76, sg76), (77, sg77), (78, sg78), (79, sg79), (80, sg80), (81, sg81), (82, sg82), (83, sg83), (84, sg84), (85, sg85), (86, sg86), (87, sg87), (88, sg88), (89, sg89), (90, sg90), (91, sg91), (92, sg92), (93, sg93), (94, sg94), (95, sg95), (96, sg96), (97, sg97), (98, sg98), (99, sg99), (100, sg100), (101, sg101), (102, sg102), (103, sg103), (104, sg104), (105, sg105), (106, sg106), (107, sg107), (108, sg108), (109, sg109), (110, sg110), (111, sg111), (112, sg112), (113, sg113), (114, sg114), (115, sg115), (116, sg116), (117, sg117), (118, sg118), (119, sg119), (120, sg120), (121, sg121), (122, sg122), (123, sg123), (124, sg124), (125, sg125), (126, sg126), (127, sg127), (128, sg128), (129, sg129), (130, sg130), (131, sg131), (132, sg132), (133, sg133), (134, sg134), (135, sg135), (136, sg136), (137, sg137), (138, sg138), (139, sg139), (140, sg140), (141, sg141), (142, sg142), (143, sg143), (144, sg144), (145, sg145), (146, sg146)]
abbrev E0 : Env := ⟨tiTab tiL, sigs, 0, 0, false, false, [], []⟩

def tm0 : Tm Unit :=
(.call none 1 [.v 0, .v 1, .v 2, .c (.int .i64 1048576)] 1 [] <|
(.lt none (.bin .lss) [.v 3, .c (.int .i64 0)] 1 <|
(.ite (.v 4)
(.leaf .ret [.c (.bool true)] ())
(.call none 15 [.v 0, .v 1, .v 2] 3 [] <|
(.call none 31 [.v 5, .v 6, .v 7] 3 [] <|
(.lt none (.dep 99) [.v 9] 0 <|
(.call none 15 [.v 0, .v 1, .v 2] 3 [] <|
(.call none 62 [.v 11, .v 12, .v 13] 3 [] <|
(.lt none (.dep 99) [.v 15] 0 <|
(.call none 118 [.v 14, .v 15, .v 8, .v 9] 1 [] <|
(.lt none .not [.v 17] 1 <|
(.lt (some (.v 18, false)) .id [.v 16] 1 <|
(.lt (some (.v 18, false)) .id [.v 10] 1 <|
(.lt (some (.v 18, false)) (.eqb true) [.v 19, .v 20] 1 <|
(.lt none .pick [.v 18, .c (.bool true), .v 21] 1 <|
(.ite (.v 22)
(.leaf .ret [.c (.bool false)] ())
(.call none 15 [.v 0, .v 1, .v 2] 3 [] <|
(.call none 125 [.v 11, .v 12, .v 13, .v 23, .v 24, .v 25] 1 [] <|
(.lt none .not [.v 26] 1 <|
(.ite (.v 27)
(.leaf .ret [.c (.bool false)] ())
(.call none 134 [.v 11, .v 12, .v 13, .c (.int .i64 1)] 4 [] <|
(.lt none (.dep 4) [.v 29] 0 <|
(.lt none (.dep 2) [.v 30] 0 <|
(.lt none (.dep 1) [.v 31] 0 <|
(.lt none (.bin .lss) [.v 28, .c (.int .i64 0)] 1 <|
(.call (some (.v 32, false)) 118 [.v 14, .v 15, .v 8, .v 9] 1 [] <|
(.lt (some (.v 32, false)) .not [.v 33] 1 <|
(.lt none .pick [.v 32, .c (.bool true), .v 34] 1 <|
(.lt (some (.v 35, false)) .id [.v 16] 1 <|
(.lt (some (.v 35, false)) .id [.v 10] 1 <|
(.lt (some (.v 35, false)) (.eqb true) [.v 36, .v 37] 1 <|
(.lt none .pick [.v 35, .c (.bool true), .v 38] 1 <|
(.ite (.v 39)
(.leaf .ret [.c (.bool false)] ())
(.call none 142 [.v 14, .v 15, .c (.int .i64 1)] 2 [] <|
(.lt none (.dep 3) [.v 41] 0 <|
(.call none 143 [.v 14, .v 41, .c (.int .i64 1)] 1 [] <|
(.lt none (.bin .lss) [.v 42, .c (.int .i64 0)] 1 <|
(.ite (.v 43)
(.leaf .ret [.c (.bool false)] ())
(.lt none (.bin .neq) [.v 42, .v 40] 1 <|
(.ite (.v 44)
(.leaf .ret [.c (.bool false)] ())
(.call none 15 [.v 0, .v 1, .v 2] 3 [] <|
(.call none 62 [.v 45, .v 46, .v 47] 3 [] <|
(.lt none (.dep 99) [.v 49] 0 <|
(.call none 118 [.v 48, .v 49, .v 8, .v 9] 1 [] <|
(.lt none .not [.v 51] 1 <|
(.lt (some (.v 52, false)) .id [.v 50] 1 <|
(.lt (some (.v 52, false)) .id [.v 10] 1 <|
(.lt (some (.v 52, false)) (.eqb true) [.v 53, .v 54] 1 <|
(.lt none .pick [.v 52, .c (.bool true), .v 55] 1 <|
(.ite (.v 56)
(.leaf .ret [.c (.bool false)] ())
(.call none 143 [.v 14, .v 41, .c (.int .i64 1)] 1 [] <|
(.lt none (.bin .lss) [.v 57, .c (.int .i64 0)] 1 <|
(.ite (.v 58)
(.leaf .ret [.c (.bool false)] ())
(.lt none (.bin .neq) [.v 57, .v 40] 1 <|
(.ite (.v 59)
(.leaf .ret [.c (.bool false)] ())
(.leaf .ret [.c (.bool true)] ()))))))))))))))))))))))))))))))))))))))))))))))))))))))))
def tm1 : Tm Unit :=
(.call none 2 [.v 0, .v 3] 1 [] <|
(.lt none (.bin .lss) [.v 4, .c (.int .i64 0)] 1 <|
(.ite (.v 5)
(.leaf .ret [.c (.int .i64 (-1))] ())
(.call none 12 [.v 1, .v 4] 1 [] <|
(.lt none (.bin .lss) [.v 6, .c (.int .i64 0)] 1 <|
(.ite (.v 7)
(.leaf .ret [.c (.int .i64 (-1))] ())
(.call none 14 [.v 2, .v 6] 1 [] <|
(.lt none (.bin .lss) [.v 8, .c (.int .i64 0)] 1 <|
(.ite (.v 9)
(.leaf .ret [.c (.int .i64 (-1))] ())
(.leaf .ret [.v 8] ()))))))))))
def tm2 : Tm Unit :=
(.lt none .len [.v 0] 1 <|
(.lt none (.bin .sub) [.v 1, .v 2] 1 <|
(.lt none (.bin .lss) [.v 3, .c (.int .i64 0)] 1 <|
(.ite (.v 4)
(.leaf .ret [.c (.int .i64 (-1))] ())
(.bind 1
(.loop [.v 3, .c (.int .i64 0)]
(.lt none .len [.v 0] 1 <|
(.lt none (.bin .lss) [.v 6, .v 7] 1 <|
(.ite (.v 8)
(.lt none .inb [.v 0, .v 6] 0 <|
(.lt none (.row 4 0 [true, true, false, false]) [.v 0, .v 6] 4 <|
(.call none 3 [.v 9, .v 10, .v 11, .v 12, .v 5] 1 [] <|
(.lt none (.bin .lss) [.v 13, .c (.int .i64 0)] 1 <|
(.ite (.v 14)
(.leaf .ret [.c (.int .i64 (-1))] ())
(.lt none (.bin .add) [.v 6, .c (.int .i64 1)] 1 <|
(.leaf .cont [.v 13, .v 15] ())))))))
(.leaf (.yield 1) [.v 5] ()))))) <|
(.leaf .ret [.v 5] ()))))))
def tm3 : Tm Unit :=
(.call none 4 [.v 1, .v 2, .v 4] 1 [] <|
(.lt none (.bin .lss) [.v 5, .c (.int .i64 0)] 1 <|
(.ite (.v 6)
(.leaf .ret [.c (.int .i64 (-1))] ())
(.call none 10 [.v 3, .v 5] 1 [] <|
(.lt none (.bin .lss) [.v 7, .c (.int .i64 0)] 1 <|
(.ite (.v 8)
(.leaf .ret [.c (.int .i64 (-1))] ())
(.leaf .ret [.v 7] ())))))))
def tm4 : Tm Unit :=
(.call none 5 [.v 1, .v 2] 1 [] <|
(.lt none (.bin .lss) [.v 3, .c (.int .i64 0)] 1 <|
(.ite (.v 4)
(.leaf .ret [.c (.int .i64 (-1))] ())
(.leaf .ret [.v 3] ()))))
def tm5 : Tm Unit :=
(.lt none .len [.v 0] 1 <|
(.lt none (.bin .sub) [.v 1, .v 2] 1 <|
(.lt none (.bin .lss) [.v 3, .c (.int .i64 0)] 1 <|
(.ite (.v 4)
(.leaf .ret [.c (.int .i64 (-1))] ())
(.bind 1
(.loop [.v 3, .c (.int .i64 0)]
(.lt none .len [.v 0] 1 <|
(.lt none (.bin .lss) [.v 6, .v 7] 1 <|
(.ite (.v 8)
(.lt none .inb [.v 0, .v 6] 0 <|
(.lt none (.row 1 0 [false]) [.v 0, .v 6] 1 <|
(.call none 6 [.v 9, .v 5] 1 [] <|
(.lt none (.bin .lss) [.v 10, .c (.int .i64 0)] 1 <|
(.ite (.v 11)
(.leaf .ret [.c (.int .i64 (-1))] ())
(.lt none (.bin .add) [.v 6, .c (.int .i64 1)] 1 <|
(.leaf .cont [.v 10, .v 12] ())))))))
(.leaf (.yield 1) [.v 5] ()))))) <|
(.leaf .ret [.v 5] ()))))))
def tm6 : Tm Unit :=
(.lt none .len [.v 0] 1 <|
(.lt none (.bin .sub) [.v 1, .v 2] 1 <|
(.lt none (.bin .lss) [.v 3, .c (.int .i64 0)] 1 <|
(.ite (.v 4)
(.leaf .ret [.c (.int .i64 (-1))] ())
(.bind 1
(.loop [.v 3, .c (.int .i64 0)]
(.lt none .len [.v 0] 1 <|
(.lt none (.bin .lss) [.v 6, .v 7] 1 <|
(.ite (.v 8)
(.lt none .inb [.v 0, .v 6] 0 <|
(.lt none (.row 10 0 [true, true, true, true, true, true, true, true, true, false]) [.v 0, .v 6] 10 <|
(.call none 7 [.v 9, .v 10, .v 11, .v 12, .v 13, .v 14, .v 15, .v 16, .v 17, .v 18, .v 5] 1 [] <|
(.lt none (.bin .lss) [.v 19, .c (.int .i64 0)] 1 <|
(.ite (.v 20)
(.leaf .ret [.c (.int .i64 (-1))] ())
(.lt none (.bin .add) [.v 6, .c (.int .i64 1)] 1 <|
(.leaf .cont [.v 19, .v 21] ())))))))
(.leaf (.yield 1) [.v 5] ()))))) <|
(.leaf .ret [.v 5] ()))))))
def tm7 : Tm Unit :=
(.call none 8 [.v 8, .v 9, .v 10] 1 [] <|
(.lt none (.bin .lss) [.v 11, .c (.int .i64 0)] 1 <|
(.ite (.v 12)
(.leaf .ret [.c (.int .i64 (-1))] ())
(.leaf .ret [.v 11] ()))))
def tm8 : Tm Unit :=
(.call none 9 [.v 1, .v 2] 1 [] <|
(.lt none (.bin .lss) [.v 3, .c (.int .i64 0)] 1 <|
(.ite (.v 4)
(.leaf .ret [.c (.int .i64 (-1))] ())
(.leaf .ret [.v 3] ()))))
def tm9 : Tm Unit :=
(.lt none .len [.v 0] 1 <|
(.lt none (.bin .sub) [.v 1, .v 2] 1 <|
(.lt none (.bin .lss) [.v 3, .c (.int .i64 0)] 1 <|
(.ite (.v 4)
(.leaf .ret [.c (.int .i64 (-1))] ())
(.leaf .ret [.v 3] ())))))
def tm10 : Tm Unit :=
(.lt none .len [.v 0] 1 <|
(.lt none (.bin .sub) [.v 1, .v 2] 1 <|
(.lt none (.bin .lss) [.v 3, .c (.int .i64 0)] 1 <|
(.ite (.v 4)
(.leaf .ret [.c (.int .i64 (-1))] ())
(.bind 1
(.loop [.v 3, .c (.int .i64 0)]
(.lt none .len [.v 0] 1 <|
(.lt none (.bin .lss) [.v 6, .v 7] 1 <|
(.ite (.v 8)
(.lt none .inb [.v 0, .v 6] 0 <|
(.lt none (.row 16 0 [true, true, true, true, true, true, true, true, true, true, false, true, false, true, false, false]) [.v 0, .v 6] 16 <|
(.call none 11 [.v 9, .v 10, .v 11, .v 12, .v 13, .v 14, .v 15, .v 16, .v 17, .v 18, .v 19, .v 20, .v 21, .v 22, .v 23, .v 24, .v 5] 1 [] <|
(.lt none (.bin .lss) [.v 25, .c (.int .i64 0)] 1 <|
(.ite (.v 26)
(.leaf .ret [.c (.int .i64 (-1))] ())
(.lt none (.bin .add) [.v 6, .c (.int .i64 1)] 1 <|
(.leaf .cont [.v 25, .v 27] ())))))))
(.leaf (.yield 1) [.v 5] ()))))) <|
(.leaf .ret [.v 5] ()))))))
def tm11 : Tm Unit :=
(.call none 8 [.v 9, .v 10, .v 16] 1 [] <|
(.lt none (.bin .lss) [.v 17, .c (.int .i64 0)] 1 <|
(.ite (.v 18)
(.leaf .ret [.c (.int .i64 (-1))] ())
(.call none 8 [.v 11, .v 12, .v 17] 1 [] <|
(.lt none (.bin .lss) [.v 19, .c (.int .i64 0)] 1 <|
(.ite (.v 20)
(.leaf .ret [.c (.int .i64 (-1))] ())
(.call none 9 [.v 14, .v 19] 1 [] <|
(.lt none (.bin .lss) [.v 21, .c (.int .i64 0)] 1 <|
(.ite (.v 22)
(.leaf .ret [.c (.int .i64 (-1))] ())
(.call none 6 [.v 15, .v 21] 1 [] <|
(.lt none (.bin .lss) [.v 23, .c (.int .i64 0)] 1 <|
(.ite (.v 24)
(.leaf .ret [.c (.int .i64 (-1))] ())
(.leaf .ret [.v 23] ())))))))))))))
def tm12 : Tm Unit :=
(.lt none .len [.v 0] 1 <|
(.lt none (.bin .sub) [.v 1, .v 2] 1 <|
(.lt none (.bin .lss) [.v 3, .c (.int .i64 0)] 1 <|
(.ite (.v 4)
(.leaf .ret [.c (.int .i64 (-1))] ())
(.bind 1
(.loop [.v 3, .c (.int .i64 0)]
(.lt none .len [.v 0] 1 <|
(.lt none (.bin .lss) [.v 6, .v 7] 1 <|
(.ite (.v 8)
(.lt none .inb [.v 0, .v 6] 0 <|
(.lt none (.row 15 0 [true, true, true, true, true, true, true, true, true, true, true, true, true, true, false]) [.v 0, .v 6] 15 <|
(.call none 13 [.v 9, .v 10, .v 11, .v 12, .v 13, .v 14, .v 15, .v 16, .v 17, .v 18, .v 19, .v 20, .v 21, .v 22, .v 23, .v 5] 1 [] <|
(.lt none (.bin .lss) [.v 24, .c (.int .i64 0)] 1 <|
(.ite (.v 25)
(.leaf .ret [.c (.int .i64 (-1))] ())
(.lt none (.bin .add) [.v 6, .c (.int .i64 1)] 1 <|
(.leaf .cont [.v 24, .v 26] ())))))))
(.leaf (.yield 1) [.v 5] ()))))) <|
(.leaf .ret [.v 5] ()))))))
def tm13 : Tm Unit :=
(.call none 8 [.v 13, .v 14, .v 15] 1 [] <|
(.lt none (.bin .lss) [.v 16, .c (.int .i64 0)] 1 <|
(.ite (.v 17)
(.leaf .ret [.c (.int .i64 (-1))] ())
(.leaf .ret [.v 16] ()))))
def tm14 : Tm Unit :=
(.lt none .len [.v 0] 1 <|
(.lt none (.bin .sub) [.v 1, .v 2] 1 <|
(.lt none (.bin .lss) [.v 3, .c (.int .i64 0)] 1 <|
(.ite (.v 4)
(.leaf .ret [.c (.int .i64 (-1))] ())
(.leaf .ret [.v 3] ())))))
def tm15 : Tm Unit :=
(.call none 16 [.v 0] 1 [] <|
(.call none 27 [.v 1] 1 [] <|
(.call none 29 [.v 2] 1 [] <|
(.leaf .ret [.v 3, .v 4, .v 5] ()))))
def tm16 : Tm Unit :=
(.lt none .len [.v 0] 1 <|
(.lt none (.make 64 [(.int .i64 0), (.int .i64 0), (.rows 1 []), (.rows 16 [])]) [.v 1] 1 <|
(.bind 1
(.loop [.v 2, .c (.int .i64 0)]
(.lt none .len [.v 0] 1 <|
(.lt none (.bin .lss) [.v 4, .v 5] 1 <|
(.ite (.v 6)
(.lt none .inb [.v 0, .v 4] 0 <|
(.lt none (.row 4 0 [true, true, false, false]) [.v 0, .v 4] 4 <|
(.call none 17 [.v 7, .v 8, .v 9, .v 10] 4 [] <|
(.lt none .inb [.v 3, .v 4] 0 <|
(.lt none (.set 4 0 4) [.v 3, .v 4, .v 11, .v 12, .v 13, .v 14] 1 <|
(.lt none (.bin .add) [.v 4, .c (.int .i64 1)] 1 <|
(.leaf .cont [.v 15, .v 16] ())))))))
(.leaf (.yield 1) [.v 3] ()))))) <|
(.leaf .ret [.v 3] ()))))
def tm17 : Tm Unit :=
(.call none 18 [.v 1, .v 2] 2 [] <|
(.call none 25 [.v 3] 1 [] <|
(.leaf .ret [.v 0, .v 4, .v 5, .v 6] ())))
def tm18 : Tm Unit :=
(.call none 19 [.v 1] 1 [] <|
(.leaf .ret [.v 0, .v 2] ()))
def tm19 : Tm Unit :=
(.lt none .len [.v 0] 1 <|
(.lt none (.make 24 [(.rows 10 [])]) [.v 1] 1 <|
(.bind 1
(.loop [.v 2, .c (.int .i64 0)]
(.lt none .len [.v 0] 1 <|
(.lt none (.bin .lss) [.v 4, .v 5] 1 <|
(.ite (.v 6)
(.lt none .inb [.v 0, .v 4] 0 <|
(.lt none (.row 1 0 [false]) [.v 0, .v 4] 1 <|
(.call none 20 [.v 7] 1 [] <|
(.lt none .inb [.v 3, .v 4] 0 <|
(.lt none (.set 1 0 1) [.v 3, .v 4, .v 8] 1 <|
(.lt none (.bin .add) [.v 4, .c (.int .i64 1)] 1 <|
(.leaf .cont [.v 9, .v 10] ())))))))
(.leaf (.yield 1) [.v 3] ()))))) <|
(.leaf .ret [.v 3] ()))))
def tm20 : Tm Unit :=
(.lt none .len [.v 0] 1 <|
(.lt none (.make 96 [(.int .i64 0), (.int .i64 0), (.int .i64 0), (.int .i64 0), (.int .i64 0), (.int .i64 0), (.int .i64 0), (.int .i64 0), (.int .i64 0), (.rows 1 [])]) [.v 1] 1 <|
(.bind 1
(.loop [.v 2, .c (.int .i64 0)]
(.lt none .len [.v 0] 1 <|
(.lt none (.bin .lss) [.v 4, .v 5] 1 <|
(.ite (.v 6)
(.lt none .inb [.v 0, .v 4] 0 <|
(.lt none (.row 10 0 [true, true, true, true, true, true, true, true, true, false]) [.v 0, .v 4] 10 <|
(.call none 21 [.v 7, .v 8, .v 9, .v 10, .v 11, .v 12, .v 13, .v 14, .v 15, .v 16] 10 [] <|
(.lt none .inb [.v 3, .v 4] 0 <|
(.lt none (.set 10 0 10) [.v 3, .v 4, .v 17, .v 18, .v 19, .v 20, .v 21, .v 22, .v 23, .v 24, .v 25, .v 26] 1 <|
(.lt none (.bin .add) [.v 4, .c (.int .i64 1)] 1 <|
(.leaf .cont [.v 27, .v 28] ())))))))
(.leaf (.yield 1) [.v 3] ()))))) <|
(.leaf .ret [.v 3] ()))))
def tm21 : Tm Unit :=
(.call none 22 [.v 3, .v 4, .v 5, .v 6, .v 7] 5 [] <|
(.call none 23 [.v 8, .v 9] 2 [] <|
(.leaf .ret [.v 0, .v 1, .v 2, .v 10, .v 11, .v 12, .v 13, .v 14, .v 15, .v 16] ())))
def tm22 : Tm Unit :=
(.leaf .ret [.v 0, .v 1, .v 2, .v 3, .v 4] ())
def tm23 : Tm Unit :=
(.call none 24 [.v 1] 1 [] <|
(.leaf .ret [.v 0, .v 2] ()))
def tm24 : Tm Unit :=
(.lt none .len [.v 0] 1 <|
(.lt none (.make 8 [(.int .i64 0)]) [.v 1] 1 <|
(.bind 1
(.loop [.v 2, .c (.int .i64 0)]
(.lt none .len [.v 0] 1 <|
(.lt none (.bin .lss) [.v 4, .v 5] 1 <|
(.ite (.v 6)
(.lt none .inb [.v 0, .v 4] 0 <|
(.lt none (.row 1 0 [true]) [.v 0, .v 4] 1 <|
(.lt none .inb [.v 3, .v 4] 0 <|
(.lt none (.set 1 0 1) [.v 3, .v 4, .v 7] 1 <|
(.lt none (.bin .add) [.v 4, .c (.int .i64 1)] 1 <|
(.leaf .cont [.v 8, .v 9] ()))))))
(.leaf (.yield 1) [.v 3] ()))))) <|
(.leaf .ret [.v 3] ()))))
def tm25 : Tm Unit :=
(.lt none .len [.v 0] 1 <|
(.lt none (.make 192 [(.int .i64 0), (.int .i64 0), (.int .i64 0), (.int .i64 0), (.int .i64 0), (.int .i64 0), (.int .i64 0), (.int .i64 0), (.int .i64 0), (.int .i64 0), (.rows 1 []), (.int .i64 0), (.rows 1 []), (.bool false), (.rows 1 []), (.rows 10 [])]) [.v 1] 1 <|
(.bind 1
(.loop [.v 2, .c (.int .i64 0)]
(.lt none .len [.v 0] 1 <|
(.lt none (.bin .lss) [.v 4, .v 5] 1 <|
(.ite (.v 6)
(.lt none .inb [.v 0, .v 4] 0 <|
(.lt none (.row 16 0 [true, true, true, true, true, true, true, true, true, true, false, true, false, true, false, false]) [.v 0, .v 4] 16 <|
(.call none 26 [.v 7, .v 8, .v 9, .v 10, .v 11, .v 12, .v 13, .v 14, .v 15, .v 16, .v 17, .v 18, .v 19, .v 20, .v 21, .v 22] 16 [] <|
(.lt none .inb [.v 3, .v 4] 0 <|
(.lt none (.set 16 0 16) [.v 3, .v 4, .v 23, .v 24, .v 25, .v 26, .v 27, .v 28, .v 29, .v 30, .v 31, .v 32, .v 33, .v 34, .v 35, .v 36, .v 37, .v 38] 1 <|
(.lt none (.bin .add) [.v 4, .c (.int .i64 1)] 1 <|
(.leaf .cont [.v 39, .v 40] ())))))))
(.leaf (.yield 1) [.v 3] ()))))) <|
(.leaf .ret [.v 3] ()))))
def tm26 : Tm Unit :=
(.call none 22 [.v 4, .v 5, .v 6, .v 7, .v 8] 5 [] <|
(.call none 23 [.v 9, .v 10] 2 [] <|
(.call none 23 [.v 11, .v 12] 2 [] <|
(.call none 24 [.v 14] 1 [] <|
(.call none 20 [.v 15] 1 [] <|
(.leaf .ret [.v 0, .v 1, .v 2, .v 3, .v 16, .v 17, .v 18, .v 19, .v 20, .v 21, .v 22, .v 23, .v 24, .v 13, .v 25, .v 26] ()))))))
def tm27 : Tm Unit :=
(.lt none .len [.v 0] 1 <|
(.lt none (.make 136 [(.int .i64 0), (.int .i64 0), (.int .i64 0), (.int .i64 0), (.int .i64 0), (.int .i64 0), (.int .i64 0), (.int .i64 0), (.int .i64 0), (.int .i64 0), (.int .i64 0), (.int .i64 0), (.int .i64 0), (.int .i64 0), (.rows 1 [])]) [.v 1] 1 <|
(.bind 1
(.loop [.v 2, .c (.int .i64 0)]
(.lt none .len [.v 0] 1 <|
(.lt none (.bin .lss) [.v 4, .v 5] 1 <|
(.ite (.v 6)
(.lt none .inb [.v 0, .v 4] 0 <|
(.lt none (.row 15 0 [true, true, true, true, true, true, true, true, true, true, true, true, true, true, false]) [.v 0, .v 4] 15 <|
(.call none 28 [.v 7, .v 8, .v 9, .v 10, .v 11, .v 12, .v 13, .v 14, .v 15, .v 16, .v 17, .v 18, .v 19, .v 20, .v 21] 15 [] <|
(.lt none .inb [.v 3, .v 4] 0 <|
(.lt none (.set 15 0 15) [.v 3, .v 4, .v 22, .v 23, .v 24, .v 25, .v 26, .v 27, .v 28, .v 29, .v 30, .v 31, .v 32, .v 33, .v 34, .v 35, .v 36] 1 <|
(.lt none (.bin .add) [.v 4, .c (.int .i64 1)] 1 <|
(.leaf .cont [.v 37, .v 38] ())))))))
(.leaf (.yield 1) [.v 3] ()))))) <|
(.leaf .ret [.v 3] ()))))
def tm28 : Tm Unit :=
(.call none 22 [.v 8, .v 9, .v 10, .v 11, .v 12] 5 [] <|
(.call none 23 [.v 13, .v 14] 2 [] <|
(.leaf .ret [.v 0, .v 1, .v 2, .v 3, .v 4, .v 5, .v 6, .v 7, .v 15, .v 16, .v 17, .v 18, .v 19, .v 20, .v 21] ())))
def tm29 : Tm Unit :=
(.lt none .len [.v 0] 1 <|
(.lt none (.make 56 [(.int .i64 0), (.int .i64 0), (.int .i64 0), (.int .i64 0), (.int .i64 0), (.int .i64 0), (.int .i64 0)]) [.v 1] 1 <|
(.bind 1
(.loop [.v 2, .c (.int .i64 0)]
(.lt none .len [.v 0] 1 <|
(.lt none (.bin .lss) [.v 4, .v 5] 1 <|
(.ite (.v 6)
(.lt none .inb [.v 0, .v 4] 0 <|
(.lt none (.row 7 0 [true, true, true, true, true, true, true]) [.v 0, .v 4] 7 <|
(.call none 30 [.v 7, .v 8, .v 9, .v 10, .v 11, .v 12, .v 13] 7 [] <|
(.lt none .inb [.v 3, .v 4] 0 <|
(.lt none (.set 7 0 7) [.v 3, .v 4, .v 14, .v 15, .v 16, .v 17, .v 18, .v 19, .v 20] 1 <|
(.lt none (.bin .add) [.v 4, .c (.int .i64 1)] 1 <|
(.leaf .cont [.v 21, .v 22] ())))))))
(.leaf (.yield 1) [.v 3] ()))))) <|
(.leaf .ret [.v 3] ()))))
def tm30 : Tm Unit :=
(.call none 22 [.v 2, .v 3, .v 4, .v 5, .v 6] 5 [] <|
(.leaf .ret [.v 0, .v 1, .v 7, .v 8, .v 9, .v 10, .v 11] ()))
def tm31 : Tm Unit :=
(.call none 32 [.v 0, .v 1, .v 2] 1 [] <|
(.lt none .not [.v 3] 1 <|
(.call (some (.v 4, false)) 52 [.v 0, .v 1, .v 2] 1 [] <|
(.lt (some (.v 4, false)) .not [.v 5] 1 <|
(.lt none .pick [.v 4, .c (.bool true), .v 6] 1 <|
(.ite (.v 7)
(.leaf .ret [.c (.int .i64 0), .c (.rows 1 []), .c (.bool false)] ())
(.call none 58 [.v 0, .v 1, .v 2] 2 [] <|
(.leaf .ret [.v 8, .v 9, .c (.bool true)] ()))))))))
def tm32 : Tm Unit :=
(.lt none .len [.v 0] 1 <|
(.call none 33 [.v 3] 1 [] <|
(.lt none .not [.v 4] 1 <|
(.lt (some (.v 5, false)) .len [.v 1] 1 <|
(.lt (some (.v 5, false)) (.bin .gtr) [.v 6, .c (.int .i64 80)] 1 <|
(.lt none .pick [.v 5, .c (.bool true), .v 7] 1 <|
(.lt (some (.v 8, false)) .id [.v 3] 1 <|
(.call (some (.v 8, false)) 34 [.v 9, .v 2] 1 [] <|
(.lt (some (.v 8, false)) .not [.v 10] 1 <|
(.lt none .pick [.v 8, .c (.bool true), .v 11] 1 <|
(.ite (.v 12)
(.leaf .ret [.c (.bool false)] ())
(.lt none .len [.v 0] 1 <|
(.bind 1
(.loop [.c (.int .i64 0)]
(.lt none (.bin .lss) [.v 14, .v 13] 1 <|
(.ite (.v 15)
(.lt none .inb [.v 0, .v 14] 0 <|
(.lt none (.row 4 0 [true, true, false, false]) [.v 0, .v 14] 4 <|
(.call none 40 [.v 16, .v 17, .v 18, .v 19] 1 [] <|
(.lt none .not [.v 20] 1 <|
(.lt (some (.v 21, false)) .id [.v 16] 1 <|
(.lt (some (.v 21, false)) .id [.v 14] 1 <|
(.lt (some (.v 21, false)) (.bin .neq) [.v 22, .v 23] 1 <|
(.lt none .pick [.v 21, .c (.bool true), .v 24] 1 <|
(.lt (some (.v 25, false)) .id [.v 17] 1 <|
(.lt (some (.v 25, false)) .id [.v 3] 1 <|
(.lt (some (.v 25, false)) (.bin .neq) [.v 26, .v 27] 1 <|
(.lt none .pick [.v 25, .c (.bool true), .v 28] 1 <|
(.ite (.v 29)
(.leaf .ret [.c (.bool false)] ())
(.lt none (.bin .add) [.v 14, .c (.int .i64 1)] 1 <|
(.leaf .cont [.v 30] ())))))))))))))))
(.leaf (.yield 1) [] ())))) <|
(.lt none .len [.v 1] 1 <|
(.bind 3
(.loop [.c (.int .i64 0)]
(.lt none (.bin .lss) [.v 15, .v 14] 1 <|
(.ite (.v 16)
(.lt none .inb [.v 1, .v 15] 0 <|
(.lt none (.row 15 0 [true, true, true, true, true, true, true, true, true, true, true, true, true, true, false]) [.v 1, .v 15] 15 <|
(.call none 51 [.v 3, .v 17, .v 18, .v 19, .v 20, .v 21, .v 22, .v 23, .v 24, .v 25, .v 26, .v 27, .v 28, .v 29, .v 30, .v 31] 1 [] <|
(.lt none .not [.v 32] 1 <|
(.ite (.v 33)
(.leaf .ret [.c (.bool false)] ())
(.lt none (.bin .add) [.v 15, .c (.int .i64 1)] 1 <|
(.leaf .cont [.v 34] ())))))))
(.leaf (.yield 3) [] ())))) <|
(.leaf .ret [.c (.bool true)] ()))))))))))))))))
def tm33 : Tm Unit :=
(.lt none (.bin .eql) [.v 0, .c (.int .i64 3)] 1 <|
(.lt (some (.v 1, false)) .id [.v 0] 1 <|
(.lt (some (.v 1, false)) (.bin .eql) [.v 2, .c (.int .i64 5)] 1 <|
(.lt none .pick [.v 1, .c (.bool true), .v 3] 1 <|
(.leaf .ret [.v 4] ())))))
def tm34 : Tm Unit :=
(.lt none .len [.v 1] 1 <|
(.bind 1
(.loop [.c (.int .i64 0)]
(.lt none (.bin .lss) [.v 3, .v 2] 1 <|
(.ite (.v 4)
(.lt none .inb [.v 1, .v 3] 0 <|
(.lt none (.row 7 0 [true, true, true, true, true, true, true]) [.v 1, .v 3] 7 <|
(.call none 35 [.v 0, .v 5, .v 6] 1 [] <|
(.lt none .not [.v 12] 1 <|
(.call (some (.v 13, false)) 37 [.v 7, .v 8, .v 9, .v 10, .v 11] 1 [] <|
(.lt (some (.v 13, false)) .not [.v 14] 1 <|
(.lt none .pick [.v 13, .c (.bool true), .v 15] 1 <|
(.lt (some (.v 16, false)) .id [.v 7] 1 <|
(.lt (some (.v 16, false)) (.bin .eql) [.v 17, .c (.int .i64 0)] 1 <|
(.lt none .pick [.v 16, .c (.bool true), .v 18] 1 <|
(.ite (.v 19)
(.leaf .ret [.c (.bool false)] ())
(.lt none (.sub 7 false) [.v 1, .c (.int .i64 0), .v 3] 1 <|
(.lt none .len [.v 20] 1 <|
(.bind 3
(.loop [.c (.int .i64 0)]
(.lt none (.bin .lss) [.v 22, .v 21] 1 <|
(.ite (.v 23)
(.lt none .inb [.v 20, .v 22] 0 <|
(.lt none (.row 7 0 [true, true, true, true, true, true, true]) [.v 20, .v 22] 7 <|
(.lt none (.bin .eql) [.v 5, .v 24] 1 <|
(.lt (some (.v 31, true)) .id [.v 6] 1 <|
(.lt (some (.v 31, true)) .id [.v 25] 1 <|
(.lt (some (.v 31, true)) (.bin .eql) [.v 32, .v 33] 1 <|
(.lt none .pick [.v 31, .v 34, .c (.bool false)] 1 <|
(.ite (.v 35)
(.leaf .ret [.c (.bool false)] ())
(.lt none (.bin .add) [.v 22, .c (.int .i64 1)] 1 <|
(.leaf .cont [.v 36] ()))))))))))
(.leaf (.yield 3) [] ())))) <|
(.lt none (.bin .add) [.v 3, .c (.int .i64 1)] 1 <|
(.leaf .cont [.v 22] ()))))))))))))))))
(.leaf (.yield 1) [] ())))) <|
(.leaf .ret [.c (.bool true)] ())))
def tm35 : Tm Unit :=
(.lt none (.bin .sub) [.v 0, .c (.int .i64 1)] 1 <|
(.call none 36 [.v 1, .c (.int .i64 0), .v 3] 1 [] <|
(.lt (some (.v 4, true)) .id [.v 2] 1 <|
(.call (some (.v 4, true)) 36 [.v 5, .c (.int .i64 1), .c (.int .i64 6)] 1 [] <|
(.lt none .pick [.v 4, .v 6, .c (.bool false)] 1 <|
(.leaf .ret [.v 7] ()))))))
def tm36 : Tm Unit :=
(.lt none (.bin .geq) [.v 0, .v 1] 1 <|
(.lt (some (.v 3, true)) .id [.v 0] 1 <|
(.lt (some (.v 3, true)) .id [.v 2] 1 <|
(.lt (some (.v 3, true)) (.bin .leq) [.v 4, .v 5] 1 <|
(.lt none .pick [.v 3, .v 6, .c (.bool false)] 1 <|
(.leaf .ret [.v 7] ()))))))
def tm37 : Tm Unit :=
(.lt none (.bin .eql) [.v 0, .c (.int .i64 0)] 1 <|
(.ite (.v 5)
(.lt none (.eqs [0, 0, 0, 0, 0]) [.v 0, .v 1, .v 2, .v 3, .v 4, .c (.int .i64 0), .c (.int .i64 0), .c (.int .i64 0), .c (.int .i64 0), .c (.int .i64 0)] 1 <|
(.leaf .ret [.v 6] ()))
(.lt none (.bin .eql) [.v 0, .c (.int .i64 1)] 1 <|
(.ite (.v 6)
(.call none 38 [.v 0, .v 1, .v 2, .v 3, .v 4] 1 [] <|
(.lt none (.bin .eql) [.v 7, .c (.int .i64 0)] 1 <|
(.leaf .ret [.v 8] ())))
(.lt none (.bin .eql) [.v 0, .c (.int .i64 2)] 1 <|
(.ite (.v 7)
(.call none 38 [.v 0, .v 1, .v 2, .v 3, .v 4] 1 [] <|
(.lt none (.bin .eql) [.v 8, .c (.int .i64 0)] 1 <|
(.lt (some (.v 9, true)) .id [.v 3] 1 <|
(.lt (some (.v 9, true)) (.bin .eql) [.v 10, .c (.int .i64 0)] 1 <|
(.lt none .pick [.v 9, .v 11, .c (.bool false)] 1 <|
(.lt (some (.v 12, true)) .id [.v 4] 1 <|
(.lt (some (.v 12, true)) (.bin .eql) [.v 13, .c (.int .i64 0)] 1 <|
(.lt none .pick [.v 12, .v 14, .c (.bool false)] 1 <|
(.leaf .ret [.v 15] ())))))))))
(.leaf .ret [.c (.bool false)] ())))))))
def tm38 : Tm Unit :=
(.lt none (.bin .eql) [.v 0, .c (.int .i64 1)] 1 <|
(.call none 39 [.v 2] 1 [] <|
(.lt none .not [.v 6] 1 <|
(.lt (some (.v 7, false)) .id [.v 5] 1 <|
(.lt (some (.v 7, false)) .id [.v 8] 1 <|
(.lt (some (.v 9, true)) .id [.v 3] 1 <|
(.call (some (.v 9, true)) 39 [.v 10] 1 [] <|
(.lt (some (.v 9, true)) .not [.v 11] 1 <|
(.lt (some (.v 7, false)) .pick [.v 9, .v 12, .c (.bool false)] 1 <|
(.lt none .pick [.v 7, .c (.bool true), .v 13] 1 <|
(.ite (.v 14)
(.leaf .ret [.c (.int .i64 4)] ())
(.lt (some (.v 5, true)) .id [.v 2] 1 <|
(.lt (some (.v 5, true)) .id [.v 3] 1 <|
(.lt (some (.v 5, true)) (.bin .eql) [.v 15, .v 16] 1 <|
(.lt none .pick [.v 5, .v 17, .c (.bool false)] 1 <|
(.ite (.v 18)
(.leaf .ret [.c (.int .i64 5)] ())
(.call none 36 [.v 1, .c (.int .i64 1), .c (.int .i64 999)] 1 [] <|
(.lt none .not [.v 19] 1 <|
(.lt (some (.v 20, false)) .id [.v 5] 1 <|
(.lt (some (.v 20, false)) .id [.v 21] 1 <|
(.lt (some (.v 22, true)) .id [.v 4] 1 <|
(.call (some (.v 22, true)) 36 [.v 23, .c (.int .i64 1), .c (.int .i64 1000)] 1 [] <|
(.lt (some (.v 22, true)) .not [.v 24] 1 <|
(.lt (some (.v 20, false)) .pick [.v 22, .v 25, .c (.bool false)] 1 <|
(.lt none .pick [.v 20, .c (.bool true), .v 26] 1 <|
(.ite (.v 27)
(.leaf .ret [.c (.int .i64 6)] ())
(.leaf .ret [.c (.int .i64 0)] ())))))))))))))))))))))))))))
def tm39 : Tm Unit :=
(.call none 36 [.v 0, .c (.int .i64 0), .c (.int .i64 3)] 1 [] <|
(.leaf .ret [.v 1] ()))
def tm40 : Tm Unit :=
(.call none 41 [.v 1, .v 2] 1 [] <|
(.lt none .not [.v 4] 1 <|
(.lt (some (.v 5, false)) .id [.v 0] 1 <|
(.lt (some (.v 5, false)) .id [.v 1] 1 <|
(.lt (some (.v 5, false)) (.bin .sub) [.v 7, .c (.int .i64 1)] 1 <|
(.call (some (.v 5, false)) 36 [.v 6, .c (.int .i64 0), .v 8] 1 [] <|
(.lt (some (.v 5, false)) .not [.v 9] 1 <|
(.lt none .pick [.v 5, .c (.bool true), .v 10] 1 <|
(.ite (.v 11)
(.leaf .ret [.c (.bool false)] ())
(.lt none .len [.v 3] 1 <|
(.bind 1
(.loop [.c (.int .i64 0)]
(.lt none (.bin .lss) [.v 13, .v 12] 1 <|
(.ite (.v 14)
(.bind 0
(.lt none .inb [.v 3, .v 13] 0 <|
(.lt none (.row 16 0 [true, true, true, true, true, true, true, true, true, true, false, true, false, true, false, false]) [.v 3, .v 13] 16 <|
(.call none 48 [.v 1, .v 0, .v 15, .v 16, .v 17, .v 18, .v 19, .v 20, .v 21, .v 22, .v 23, .v 24, .v 25, .v 26, .v 27, .v 28, .v 29, .v 30] 1 [] <|
(.lt none .not [.v 31] 1 <|
(.ite (.v 32)
(.leaf .ret [.c (.bool false)] ())
(.lt none (.bin .gtr) [.v 13, .c (.int .i64 0)] 1 <|
(.ite (.v 33)
(.lt none (.bin .sub) [.v 13, .c (.int .i64 1)] 1 <|
(.lt none .inb [.v 3, .v 34] 0 <|
(.lt none (.row 16 0 [true, true, true, true, true, true, true, true, true, true, false, true, false, true, false, false]) [.v 3, .v 34] 16 <|
(.lt none (.bin .gtr) [.v 35, .v 15] 1 <|
(.lt (some (.v 51, false)) .id [.v 35] 1 <|
(.lt (some (.v 51, false)) .id [.v 15] 1 <|
(.lt (some (.v 51, false)) (.bin .eql) [.v 52, .v 53] 1 <|
(.lt (some (.v 51, false)) .id [.v 54] 1 <|
(.lt (some (.v 55, true)) .id [.v 36] 1 <|
(.lt (some (.v 55, true)) .id [.v 16] 1 <|
(.lt (some (.v 55, true)) (.bin .geq) [.v 56, .v 57] 1 <|
(.lt (some (.v 51, false)) .pick [.v 55, .v 58, .c (.bool false)] 1 <|
(.lt none .pick [.v 51, .c (.bool true), .v 59] 1 <|
(.ite (.v 60)
(.leaf .ret [.c (.bool false)] ())
(.leaf (.yield 0) [] ())))))))))))))))
(.leaf (.yield 0) [] ())))))))) <|
(.lt none (.bin .add) [.v 13, .c (.int .i64 1)] 1 <|
(.leaf .cont [.v 15] ())))
(.leaf (.yield 1) [] ())))) <|
(.leaf .ret [.c (.bool true)] ()))))))))))))
def tm41 : Tm Unit :=
(.call none 33 [.v 0] 1 [] <|
(.lt none .not [.v 2] 1 <|
(.lt (some (.v 3, false)) .len [.v 1] 1 <|
(.lt (some (.v 3, false)) .id [.v 0] 1 <|
(.lt (some (.v 3, false)) (.bin .neq) [.v 4, .v 5] 1 <|
(.lt none .pick [.v 3, .c (.bool true), .v 6] 1 <|
(.ite (.v 7)
(.leaf .ret [.c (.bool false)] ())
(.lt none .len [.v 1] 1 <|
(.bind 1
(.loop [.c (.int .i64 0)]
(.lt none (.bin .lss) [.v 9, .v 8] 1 <|
(.ite (.v 10)
(.lt none .inb [.v 1, .v 9] 0 <|
(.lt none (.row 1 0 [false]) [.v 1, .v 9] 1 <|
(.lt none .len [.v 11] 1 <|
(.bind 3
(.loop [.c (.int .i64 0)]
(.lt none (.bin .lss) [.v 13, .v 12] 1 <|
(.ite (.v 14)
(.lt none .inb [.v 11, .v 13] 0 <|
(.lt none (.row 10 0 [true, true, true, true, true, true, true, true, true, false]) [.v 11, .v 13] 10 <|
(.call none 42 [.v 0, .v 15, .v 16, .v 17, .v 18, .v 19, .v 20, .v 21, .v 22, .v 23, .v 24] 1 [] <|
(.lt none .not [.v 25] 1 <|
(.ite (.v 26)
(.leaf .ret [.c (.bool false)] ())
(.lt none (.bin .add) [.v 13, .c (.int .i64 1)] 1 <|
(.leaf .cont [.v 27] ())))))))
(.leaf (.yield 3) [] ())))) <|
(.lt none .len [.v 11] 1 <|
(.lt none (.bin .gtr) [.v 13, .c (.int .i64 6)] 1 <|
(.ite (.v 14)
(.leaf .ret [.c (.bool false)] ())
(.lt none (.bin .add) [.v 9, .c (.int .i64 1)] 1 <|
(.leaf .cont [.v 15] ())))))))))
(.leaf (.yield 1) [] ())))) <|
(.leaf .ret [.c (.bool true)] ()))))))))))
def tm42 : Tm Unit :=
(.call none 36 [.v 1, .c (.int .i64 0), .c (.int .i64 9999)] 1 [] <|
(.lt none .not [.v 11] 1 <|
(.lt (some (.v 12, false)) .id [.v 2] 1 <|
(.lt (some (.v 12, false)) .id [.v 1] 1 <|
(.call (some (.v 12, false)) 36 [.v 13, .c (.int .i64 0), .v 14] 1 [] <|
(.lt (some (.v 12, false)) .not [.v 15] 1 <|
(.lt none .pick [.v 12, .c (.bool true), .v 16] 1 <|
(.lt (some (.v 17, false)) .id [.v 3] 1 <|
(.call (some (.v 17, false)) 36 [.v 18, .c (.int .i64 0), .c (.int .i64 3)] 1 [] <|
(.lt (some (.v 17, false)) .not [.v 19] 1 <|
(.lt none .pick [.v 17, .c (.bool true), .v 20] 1 <|
(.ite (.v 21)
(.leaf .ret [.c (.bool false)] ())
(.lt none (.bin .eql) [.v 3, .c (.int .i64 0)] 1 <|
(.ite (.v 22)
(.lt none (.bin .eql) [.v 2, .c (.int .i64 0)] 1 <|
(.lt (some (.v 23, true)) (.eqs [0, 0, 0, 0, 0]) [.v 4, .v 5, .v 6, .v 7, .v 8, .c (.int .i64 0), .c (.int .i64 0), .c (.int .i64 0), .c (.int .i64 0), .c (.int .i64 0)] 1 <|
(.lt none .pick [.v 23, .v 24, .c (.bool false)] 1 <|
(.lt (some (.v 25, true)) .id [.v 0] 1 <|
(.call (some (.v 25, true)) 43 [.v 26] 2 [] <|
(.call (some (.v 25, true)) 44 [.v 9, .v 10, .v 27, .v 28] 1 [] <|
(.lt none .pick [.v 25, .v 29, .c (.bool false)] 1 <|
(.leaf .ret [.v 30] ()))))))))
(.call none 37 [.v 4, .v 5, .v 6, .v 7, .v 8] 1 [] <|
(.lt (some (.v 23, true)) .id [.v 0] 1 <|
(.call (some (.v 23, true)) 46 [.v 24, .v 9, .v 10] 1 [] <|
(.lt none .pick [.v 23, .v 25, .c (.bool false)] 1 <|
(.leaf .ret [.v 26] ())))))))))))))))))))
def tm43 : Tm Unit :=
(.lt none (.make 8 [(.int .i64 0)]) [.v 0] 1 <|
(.leaf .ret [.c (.int .i64 0), .v 1] ()))
def tm44 : Tm Unit :=
(.lt none (.bin .eql) [.v 0, .v 2] 1 <|
(.call (some (.v 4, true)) 45 [.v 1, .v 3] 1 [] <|
(.lt none .pick [.v 4, .v 5, .c (.bool false)] 1 <|
(.leaf .ret [.v 6] ()))))
def tm45 : Tm Unit :=
(.lt none .len [.v 0] 1 <|
(.lt none .len [.v 1] 1 <|
(.lt none (.bin .neq) [.v 2, .v 3] 1 <|
(.ite (.v 4)
(.leaf .ret [.c (.bool false)] ())
(.lt none .len [.v 0] 1 <|
(.bind 1
(.loop [.c (.int .i64 0)]
(.lt none (.bin .lss) [.v 6, .v 5] 1 <|
(.ite (.v 7)
(.lt none .inb [.v 0, .v 6] 0 <|
(.lt none (.row 1 0 [true]) [.v 0, .v 6] 1 <|
(.lt none .inb [.v 1, .v 6] 0 <|
(.lt none (.row 1 0 [true]) [.v 1, .v 6] 1 <|
(.lt none (.bin .neq) [.v 8, .v 9] 1 <|
(.ite (.v 10)
(.leaf .ret [.c (.bool false)] ())
(.lt none (.bin .add) [.v 6, .c (.int .i64 1)] 1 <|
(.leaf .cont [.v 11] ()))))))))
(.leaf (.yield 1) [] ())))) <|
(.leaf .ret [.c (.bool true)] ())))))))
def tm46 : Tm Unit :=
(.call none 36 [.v 1, .c (.int .i64 0), .c (.int .i64 999)] 1 [] <|
(.lt (some (.v 3, true)) .len [.v 2] 1 <|
(.lt (some (.v 3, true)) .id [.v 0] 1 <|
(.lt (some (.v 3, true)) (.bin .eql) [.v 4, .v 5] 1 <|
(.lt none .pick [.v 3, .v 6, .c (.bool false)] 1 <|
(.call (some (.v 7, true)) 47 [.v 2, .c (.int .i64 0), .c (.int .i64 6)] 1 [] <|
(.lt none .pick [.v 7, .v 8, .c (.bool false)] 1 <|
(.leaf .ret [.v 9] ()))))))))
def tm47 : Tm Unit :=
(.lt none .len [.v 0] 1 <|
(.bind 1
(.loop [.c (.int .i64 0)]
(.lt none (.bin .lss) [.v 4, .v 3] 1 <|
(.ite (.v 5)
(.lt none .inb [.v 0, .v 4] 0 <|
(.lt none (.row 1 0 [true]) [.v 0, .v 4] 1 <|
(.call none 36 [.v 6, .v 1, .v 2] 1 [] <|
(.lt none .not [.v 7] 1 <|
(.ite (.v 8)
(.leaf .ret [.c (.bool false)] ())
(.lt none (.bin .add) [.v 4, .c (.int .i64 1)] 1 <|
(.leaf .cont [.v 9] ())))))))
(.leaf (.yield 1) [] ())))) <|
(.leaf .ret [.c (.bool true)] ())))
def tm48 : Tm Unit :=
(.call none 35 [.v 0, .v 2, .v 3] 1 [] <|
(.lt none .not [.v 18] 1 <|
(.lt (some (.v 19, false)) .id [.v 4] 1 <|
(.call (some (.v 19, false)) 36 [.v 20, .c (.int .i64 0), .c (.int .i64 9999)] 1 [] <|
(.lt (some (.v 19, false)) .not [.v 21] 1 <|
(.lt none .pick [.v 19, .c (.bool true), .v 22] 1 <|
(.lt (some (.v 23, false)) .id [.v 0] 1 <|
(.lt (some (.v 23, false)) (.bin .sub) [.v 24, .c (.int .i64 1)] 1 <|
(.call (some (.v 23, false)) 49 [.v 16, .c (.int .i64 0), .v 25] 1 [] <|
(.lt (some (.v 23, false)) .not [.v 26] 1 <|
(.lt none .pick [.v 23, .c (.bool true), .v 27] 1 <|
(.lt (some (.v 28, false)) .id [.v 1] 1 <|
(.call (some (.v 28, false)) 50 [.v 16, .v 29] 1 [] <|
(.lt (some (.v 28, false)) .not [.v 30] 1 <|
(.lt none .pick [.v 28, .c (.bool true), .v 31] 1 <|
(.lt (some (.v 32, false)) .id [.v 0] 1 <|
(.call (some (.v 32, false)) 46 [.v 33, .v 11, .v 12] 1 [] <|
(.lt (some (.v 32, false)) .not [.v 34] 1 <|
(.lt none .pick [.v 32, .c (.bool true), .v 35] 1 <|
(.lt (some (.v 36, false)) .id [.v 0] 1 <|
(.call (some (.v 36, false)) 46 [.v 37, .v 13, .v 14] 1 [] <|
(.lt (some (.v 36, false)) .not [.v 38] 1 <|
(.lt none .pick [.v 36, .c (.bool true), .v 39] 1 <|
(.ite (.v 40)
(.leaf .ret [.c (.bool false)] ())
(.lt none .len [.v 17] 1 <|
(.bind 1
(.loop [.c (.int .i64 0)]
(.lt none (.bin .lss) [.v 42, .v 41] 1 <|
(.ite (.v 43)
(.lt none .inb [.v 17, .v 42] 0 <|
(.lt none (.row 10 0 [true, true, true, true, true, true, true, true, true, false]) [.v 17, .v 42] 10 <|
(.call none 42 [.v 0, .v 44, .v 45, .v 46, .v 47, .v 48, .v 49, .v 50, .v 51, .v 52, .v 53] 1 [] <|
(.lt none .not [.v 54] 1 <|
(.lt (some (.v 55, false)) .id [.v 46] 1 <|
(.lt (some (.v 55, false)) (.bin .eql) [.v 56, .c (.int .i64 3)] 1 <|
(.lt none .pick [.v 55, .c (.bool true), .v 57] 1 <|
(.ite (.v 58)
(.leaf .ret [.c (.bool false)] ())
(.lt none (.bin .add) [.v 42, .c (.int .i64 1)] 1 <|
(.leaf .cont [.v 59] ()))))))))))
(.leaf (.yield 1) [] ())))) <|
(.lt none (.bin .eql) [.v 5, .c (.int .i64 1)] 1 <|
(.ite (.v 42)
(.call none 37 [.v 6, .v 7, .v 8, .v 9, .v 10] 1 [] <|
(.lt (some (.v 43, true)) .len [.v 17] 1 <|
(.lt (some (.v 43, true)) (.bin .eql) [.v 44, .c (.int .i64 0)] 1 <|
(.lt none .pick [.v 43, .v 45, .c (.bool false)] 1 <|
(.leaf .ret [.v 46] ())))))
(.lt none (.bin .eql) [.v 5, .c (.int .i64 2)] 1 <|
(.ite (.v 43)
(.call none 37 [.v 6, .v 7, .v 8, .v 9, .v 10] 1 [] <|
(.lt (some (.v 44, true)) .len [.v 17] 1 <|
(.lt (some (.v 44, true)) (.bin .eql) [.v 45, .c (.int .i64 0)] 1 <|
(.lt none .pick [.v 44, .v 46, .c (.bool false)] 1 <|
(.lt (some (.v 47, true)) .id [.v 15] 1 <|
(.lt (some (.v 47, true)) .not [.v 48] 1 <|
(.lt none .pick [.v 47, .v 49, .c (.bool false)] 1 <|
(.call (some (.v 50, true)) 44 [.v 11, .v 12, .v 13, .v 14] 1 [] <|
(.lt none .pick [.v 50, .v 51, .c (.bool false)] 1 <|
(.leaf .ret [.v 52] ()))))))))))
(.lt none (.bin .eql) [.v 5, .c (.int .i64 3)] 1 <|
(.ite (.v 44)
(.call none 43 [.v 0] 2 [] <|
(.lt none (.eqs [0, 0, 0, 0, 0]) [.v 6, .v 7, .v 8, .v 9, .v 10, .c (.int .i64 0), .c (.int .i64 0), .c (.int .i64 0), .c (.int .i64 0), .c (.int .i64 0)] 1 <|
(.call (some (.v 47, true)) 44 [.v 11, .v 12, .v 45, .v 46] 1 [] <|
(.lt none .pick [.v 47, .v 48, .c (.bool false)] 1 <|
(.call (some (.v 49, true)) 44 [.v 13, .v 14, .v 45, .v 46] 1 [] <|
(.lt none .pick [.v 49, .v 50, .c (.bool false)] 1 <|
(.lt (some (.v 51, true)) .id [.v 15] 1 <|
(.lt (some (.v 51, true)) .not [.v 52] 1 <|
(.lt none .pick [.v 51, .v 53, .c (.bool false)] 1 <|
(.lt (some (.v 54, true)) .len [.v 17] 1 <|
(.lt (some (.v 54, true)) .len [.v 16] 1 <|
(.lt (some (.v 54, true)) (.bin .eql) [.v 55, .v 56] 1 <|
(.lt none .pick [.v 54, .v 57, .c (.bool false)] 1 <|
(.leaf .ret [.v 58] ()))))))))))))))
(.leaf .ret [.c (.bool false)] ())))))))))))))))))))))))))))))))))
def tm49 : Tm Unit :=
(.lt none .len [.v 0] 1 <|
(.bind 1
(.loop [.c (.int .i64 0)]
(.lt none (.bin .lss) [.v 4, .v 3] 1 <|
(.ite (.v 5)
(.lt none .inb [.v 0, .v 4] 0 <|
(.lt none (.row 1 0 [true]) [.v 0, .v 4] 1 <|
(.call none 36 [.v 6, .v 1, .v 2] 1 [] <|
(.lt none .not [.v 7] 1 <|
(.lt (some (.v 8, false)) .id [.v 4] 1 <|
(.lt (some (.v 8, false)) (.bin .gtr) [.v 9, .c (.int .i64 0)] 1 <|
(.lt (some (.v 8, false)) .id [.v 10] 1 <|
(.lt (some (.v 11, true)) .id [.v 4] 1 <|
(.lt (some (.v 11, true)) (.bin .sub) [.v 12, .c (.int .i64 1)] 1 <|
(.lt (some (.v 11, true)) .inb [.v 0, .v 13] 0 <|
(.lt (some (.v 11, true)) (.row 1 0 [true]) [.v 0, .v 13] 1 <|
(.lt (some (.v 11, true)) .id [.v 6] 1 <|
(.lt (some (.v 11, true)) (.bin .geq) [.v 14, .v 15] 1 <|
(.lt (some (.v 8, false)) .pick [.v 11, .v 16, .c (.bool false)] 1 <|
(.lt none .pick [.v 8, .c (.bool true), .v 17] 1 <|
(.ite (.v 18)
(.leaf .ret [.c (.bool false)] ())
(.lt none (.bin .add) [.v 4, .c (.int .i64 1)] 1 <|
(.leaf .cont [.v 19] ()))))))))))))))))))
(.leaf (.yield 1) [] ())))) <|
(.leaf .ret [.c (.bool true)] ())))
def tm50 : Tm Unit :=
(.lt none .len [.v 0] 1 <|
(.bind 1
(.loop [.c (.int .i64 0)]
(.lt none (.bin .lss) [.v 3, .v 2] 1 <|
(.ite (.v 4)
(.lt none .inb [.v 0, .v 3] 0 <|
(.lt none (.row 1 0 [true]) [.v 0, .v 3] 1 <|
(.lt none (.bin .eql) [.v 5, .v 1] 1 <|
(.ite (.v 6)
(.leaf .ret [.c (.bool true)] ())
(.lt none (.bin .add) [.v 3, .c (.int .i64 1)] 1 <|
(.leaf .cont [.v 7] ()))))))
(.leaf (.yield 1) [] ())))) <|
(.leaf .ret [.c (.bool false)] ())))
def tm51 : Tm Unit :=
(.call none 33 [.v 0] 1 [] <|
(.lt none .not [.v 16] 1 <|
(.lt (some (.v 17, false)) .id [.v 1] 1 <|
(.call (some (.v 17, false)) 36 [.v 18, .c (.int .i64 1), .c (.int .i64 7)] 1 [] <|
(.lt (some (.v 17, false)) .not [.v 19] 1 <|
(.lt none .pick [.v 17, .c (.bool true), .v 20] 1 <|
(.lt (some (.v 21, false)) .id [.v 2] 1 <|
(.lt (some (.v 21, false)) .id [.v 0] 1 <|
(.lt (some (.v 21, false)) (.bin .sub) [.v 23, .c (.int .i64 1)] 1 <|
(.call (some (.v 21, false)) 36 [.v 22, .c (.int .i64 0), .v 24] 1 [] <|
(.lt (some (.v 21, false)) .not [.v 25] 1 <|
(.lt none .pick [.v 21, .c (.bool true), .v 26] 1 <|
(.lt (some (.v 27, false)) .id [.v 3] 1 <|
(.lt (some (.v 27, false)) .id [.v 0] 1 <|
(.lt (some (.v 27, false)) (.bin .sub) [.v 29, .c (.int .i64 1)] 1 <|
(.call (some (.v 27, false)) 36 [.v 28, .c (.int .i64 0), .v 30] 1 [] <|
(.lt (some (.v 27, false)) .not [.v 31] 1 <|
(.lt none .pick [.v 27, .c (.bool true), .v 32] 1 <|
(.lt (some (.v 33, false)) .id [.v 2] 1 <|
(.lt (some (.v 33, false)) .id [.v 3] 1 <|
(.lt (some (.v 33, false)) (.bin .eql) [.v 34, .v 35] 1 <|
(.lt none .pick [.v 33, .c (.bool true), .v 36] 1 <|
(.lt (some (.v 37, false)) .id [.v 0] 1 <|
(.lt (some (.v 37, false)) .id [.v 4] 1 <|
(.lt (some (.v 37, false)) .id [.v 5] 1 <|
(.call (some (.v 37, false)) 35 [.v 38, .v 39, .v 40] 1 [] <|
(.lt (some (.v 37, false)) .not [.v 41] 1 <|
(.lt none .pick [.v 37, .c (.bool true), .v 42] 1 <|
(.lt (some (.v 43, false)) .id [.v 6] 1 <|
(.call (some (.v 43, false)) 36 [.v 44, .c (.int .i64 0), .c (.int .i64 9999)] 1 [] <|
(.lt (some (.v 43, false)) .not [.v 45] 1 <|
(.lt none .pick [.v 43, .c (.bool true), .v 46] 1 <|
(.ite (.v 47)
(.leaf .ret [.c (.bool false)] ())
(.lt none (.bin .eql) [.v 1, .c (.int .i64 7)] 1 <|
(.ite (.v 48)
(.lt none (.bin .neq) [.v 8, .c (.int .i64 3)] 1 <|
(.lt (some (.v 49, true)) .id [.v 0] 1 <|
(.lt (some (.v 49, true)) .id [.v 6] 1 <|
(.lt (some (.v 49, true)) .id [.v 7] 1 <|
(.lt (some (.v 49, true)) .id [.v 8] 1 <|
(.call (some (.v 49, true)) 42 [.v 50, .v 51, .v 52, .v 53, .v 9, .v 10, .v 11, .v 12, .v 13, .v 14, .v 15] 1 [] <|
(.lt none .pick [.v 49, .v 54, .c (.bool false)] 1 <|
(.leaf .ret [.v 55] ()))))))))
(.lt none (.bin .neq) [.v 7, .c (.int .i64 0)] 1 <|
(.lt (some (.v 49, false)) .id [.v 8] 1 <|
(.lt (some (.v 49, false)) (.bin .neq) [.v 50, .c (.int .i64 0)] 1 <|
(.lt none .pick [.v 49, .c (.bool true), .v 51] 1 <|
(.lt (some (.v 52, false)) .id [.v 0] 1 <|
(.call (some (.v 52, false)) 46 [.v 53, .v 14, .v 15] 1 [] <|
(.lt (some (.v 52, false)) .not [.v 54] 1 <|
(.lt none .pick [.v 52, .c (.bool true), .v 55] 1 <|
(.call (some (.v 56, false)) 37 [.v 9, .v 10, .v 11, .v 12, .v 13] 1 [] <|
(.lt (some (.v 56, false)) .not [.v 57] 1 <|
(.lt none .pick [.v 56, .c (.bool true), .v 58] 1 <|
(.lt (some (.v 59, false)) .id [.v 1] 1 <|
(.lt (some (.v 59, false)) (.bin .eql) [.v 60, .c (.int .i64 5)] 1 <|
(.lt (some (.v 59, false)) .id [.v 61] 1 <|
(.lt (some (.v 62, true)) .id [.v 6] 1 <|
(.lt (some (.v 62, true)) (.bin .neq) [.v 63, .c (.int .i64 0)] 1 <|
(.lt (some (.v 59, false)) .pick [.v 62, .v 64, .c (.bool false)] 1 <|
(.lt none .pick [.v 59, .c (.bool true), .v 65] 1 <|
(.ite (.v 66)
(.leaf .ret [.c (.bool false)] ())
(.lt none (.bin .eql) [.v 1, .c (.int .i64 2)] 1 <|
(.ite (.v 67)
(.lt none (.eqs [0, 0, 0, 0, 0]) [.v 9, .v 10, .v 11, .v 12, .v 13, .c (.int .i64 0), .c (.int .i64 0), .c (.int .i64 0), .c (.int .i64 0), .c (.int .i64 0)] 1 <|
(.leaf .ret [.v 68] ()))
(.bind 0
(.lt none (.bin .eql) [.v 1, .c (.int .i64 4)] 1 <|
(.ite (.v 68)
(.leaf (.yield 0) [.v 68] ())
(.lt none (.bin .eql) [.v 1, .c (.int .i64 6)] 1 <|
(.leaf (.yield 0) [.v 69] ())))) <|
(.ite (.v 68)
(.lt none (.eqs [0, 0, 0, 0, 0]) [.v 9, .v 10, .v 11, .v 12, .v 13, .c (.int .i64 0), .c (.int .i64 0), .c (.int .i64 0), .c (.int .i64 0), .c (.int .i64 0)] 1 <|
(.lt (some (.v 69, true)) .id [.v 0] 1 <|
(.call (some (.v 69, true)) 43 [.v 70] 2 [] <|
(.call (some (.v 69, true)) 44 [.v 14, .v 15, .v 71, .v 72] 1 [] <|
(.lt none .pick [.v 69, .v 73, .c (.bool false)] 1 <|
(.leaf .ret [.v 74] ()))))))
(.leaf .ret [.c (.bool true)] ())))))))))))))))))))))))))))))))))))))))))))))))))))))))))))
def tm52 : Tm Unit :=
(.lt none .len [.v 0] 1 <|
(.bind 1
(.loop [.c (.int .i64 0)]
(.lt none (.bin .lss) [.v 4, .v 3] 1 <|
(.ite (.v 5)
(.lt none .inb [.v 0, .v 4] 0 <|
(.lt none (.row 4 0 [true, true, false, false]) [.v 0, .v 4] 4 <|
(.lt none (.sub 4 false) [.v 0, .c (.int .i64 0), .v 4] 1 <|
(.lt none .len [.v 10] 1 <|
(.bind 3
(.loop [.c (.int .i64 0)]
(.lt none (.bin .lss) [.v 12, .v 11] 1 <|
(.ite (.v 13)
(.lt none .inb [.v 10, .v 12] 0 <|
(.lt none (.row 4 0 [true, true, false, false]) [.v 10, .v 12] 4 <|
(.call none 53 [.v 7, .v 8] 1 [] <|
(.lt none .len [.v 18] 1 <|
(.bind 5
(.loop [.c (.int .i64 0)]
(.lt none (.bin .lss) [.v 20, .v 19] 1 <|
(.ite (.v 21)
(.lt none .inb [.v 18, .v 20] 0 <|
(.lt none (.row 1 0 [false]) [.v 18, .v 20] 1 <|
(.lt none .inb [.v 22, .c (.int .i64 0)] 0 <|
(.lt none (.row 1 0 [true]) [.v 22, .c (.int .i64 0)] 1 <|
(.lt none .inb [.v 22, .c (.int .i64 1)] 0 <|
(.lt none (.row 1 0 [true]) [.v 22, .c (.int .i64 1)] 1 <|
(.call none 54 [.v 7, .v 8, .v 23, .v 24] 10 [] <|
(.lt none .inb [.v 22, .c (.int .i64 0)] 0 <|
(.lt none (.row 1 0 [true]) [.v 22, .c (.int .i64 0)] 1 <|
(.lt none .inb [.v 22, .c (.int .i64 1)] 0 <|
(.lt none (.row 1 0 [true]) [.v 22, .c (.int .i64 1)] 1 <|
(.call none 54 [.v 15, .v 16, .v 35, .v 36] 10 [] <|
(.lt none (.bin .eql) [.v 39, .c (.int .i64 3)] 1 <|
(.lt (some (.v 47, true)) (.eqs [0, 0, 0, 0, 0]) [.v 28, .v 29, .v 30, .v 31, .v 32, .v 40, .v 41, .v 42, .v 43, .v 44] 1 <|
(.lt (some (.v 47, true)) .not [.v 48] 1 <|
(.lt (some (.v 47, true)) .id [.v 49] 1 <|
(.call (some (.v 50, false)) 44 [.v 33, .v 34, .v 45, .v 46] 1 [] <|
(.lt (some (.v 50, false)) .not [.v 51] 1 <|
(.lt (some (.v 47, true)) .pick [.v 50, .c (.bool true), .v 52] 1 <|
(.lt none .pick [.v 47, .v 53, .c (.bool false)] 1 <|
(.ite (.v 54)
(.leaf .ret [.c (.bool false)] ())
(.lt none (.bin .add) [.v 20, .c (.int .i64 1)] 1 <|
(.leaf .cont [.v 55] ())))))))))))))))))))))))
(.leaf (.yield 5) [] ())))) <|
(.lt none (.bin .add) [.v 12, .c (.int .i64 1)] 1 <|
(.leaf .cont [.v 20] ())))))))
(.leaf (.yield 3) [] ())))) <|
(.lt none (.bin .add) [.v 4, .c (.int .i64 1)] 1 <|
(.leaf .cont [.v 12] ())))))))
(.leaf (.yield 1) [] ())))) <|
(.leaf .ret [.c (.bool true)] ())))
def tm53 : Tm Unit :=
(.lt none .len [.v 1] 1 <|
(.bind 1
(.loop [.c (.rows 1 []), .c (.int .i64 0)]
(.lt none (.bin .lss) [.v 4, .v 2] 1 <|
(.ite (.v 5)
(.lt none .inb [.v 1, .v 4] 0 <|
(.lt none (.row 1 0 [false]) [.v 1, .v 4] 1 <|
(.lt none .len [.v 6] 1 <|
(.bind 3
(.loop [.v 3, .c (.int .i64 0)]
(.lt none (.bin .lss) [.v 9, .v 7] 1 <|
(.ite (.v 10)
(.bind 0
(.lt none .inb [.v 6, .v 9] 0 <|
(.lt none (.row 10 0 [true, true, true, true, true, true, true, true, true, false]) [.v 6, .v 9] 10 <|
(.lt none (.bin .eql) [.v 13, .c (.int .i64 3)] 1 <|
(.ite (.v 21)
(.lt none (.bin .add) [.v 9, .c (.int .i64 1)] 1 <|
(.lt none (.mk 1 2) [.v 4, .v 22] 1 <|
(.lt none (.mk 1 1) [.v 23] 1 <|
(.lt none (.app 1 24 false) [.v 8, .v 24] 1 <|
(.leaf (.yield 0) [.v 25] ())))))
(.leaf (.yield 0) [.v 8] ()))))) <|
(.lt none (.bin .add) [.v 9, .c (.int .i64 1)] 1 <|
(.leaf .cont [.v 11, .v 12] ())))
(.leaf (.yield 3) [.v 8] ())))) <|
(.lt none (.bin .add) [.v 4, .c (.int .i64 1)] 1 <|
(.leaf .cont [.v 8, .v 9] ()))))))
(.leaf (.yield 1) [.v 3] ())))) <|
(.leaf .ret [.v 3] ())))
def tm54 : Tm Unit :=
(.lt none .inb [.v 1, .v 2] 0 <|
(.lt none (.row 1 0 [false]) [.v 1, .v 2] 1 <|
(.lt none .len [.v 4] 1 <|
(.lt none (.bin .gtr) [.v 3, .v 5] 1 <|
(.ite (.v 6)
(.call none 43 [.v 0] 2 [] <|
(.leaf .ret [.c (.int .i64 0), .c (.int .i64 0), .c (.int .i64 0), .c (.int .i64 0), .c (.int .i64 0), .c (.int .i64 0), .c (.int .i64 0), .c (.int .i64 0), .v 7, .v 8] ()))
(.lt none .inb [.v 1, .v 2] 0 <|
(.lt none (.row 1 0 [false]) [.v 1, .v 2] 1 <|
(.lt none (.bin .sub) [.v 3, .c (.int .i64 1)] 1 <|
(.lt none .inb [.v 7, .v 8] 0 <|
(.lt none (.row 10 0 [true, true, true, true, true, true, true, true, true, false]) [.v 7, .v 8] 10 <|
(.call none 55 [.v 9, .v 10, .v 11, .v 12, .v 13, .v 14, .v 15, .v 16, .v 17, .v 18] 10 [] <|
(.leaf .ret [.v 19, .v 20, .v 21, .v 22, .v 23, .v 24, .v 25, .v 26, .v 27, .v 28] ()))))))))))))
def tm55 : Tm Unit :=
(.call none 56 [.v 8, .v 9] 2 [] <|
(.leaf .ret [.v 0, .v 1, .v 2, .v 3, .v 4, .v 5, .v 6, .v 7, .v 10, .v 11] ()))
def tm56 : Tm Unit :=
(.call none 57 [.v 1] 1 [] <|
(.leaf .ret [.v 0, .v 2] ()))
def tm57 : Tm Unit :=
(.lt none (.mk 1 0) [] 1 <|
(.lt none (.app 1 8 true) [.v 1, .v 0] 1 <|
(.leaf .ret [.v 2] ())))
def tm58 : Tm Unit :=
(.lt none .len [.v 0] 1 <|
(.call none 59 [.v 3] 2 [] <|
(.lt none .len [.v 0] 1 <|
(.bind 1
(.loop [.c (.int .i64 0), .v 4, .v 5]
(.lt none (.bin .lss) [.v 7, .v 6] 1 <|
(.ite (.v 10)
(.lt none .inb [.v 0, .v 7] 0 <|
(.lt none (.row 4 0 [true, true, false, false]) [.v 0, .v 7] 4 <|
(.call none 53 [.v 12, .v 13] 1 [] <|
(.lt none .len [.v 15] 1 <|
(.bind 3
(.loop [.c (.int .i64 0), .v 8, .v 9]
(.lt none (.bin .lss) [.v 17, .v 16] 1 <|
(.ite (.v 20)
(.lt none .inb [.v 15, .v 17] 0 <|
(.lt none (.row 1 0 [false]) [.v 15, .v 17] 1 <|
(.lt none .inb [.v 21, .c (.int .i64 0)] 0 <|
(.lt none (.row 1 0 [true]) [.v 21, .c (.int .i64 0)] 1 <|
(.lt none .inb [.v 21, .c (.int .i64 1)] 0 <|
(.lt none (.row 1 0 [true]) [.v 21, .c (.int .i64 1)] 1 <|
(.call none 54 [.v 12, .v 13, .v 22, .v 23] 10 [] <|
(.lt none .inb [.v 21, .c (.int .i64 0)] 0 <|
(.lt none (.row 1 0 [true]) [.v 21, .c (.int .i64 0)] 1 <|
(.lt none .inb [.v 21, .c (.int .i64 1)] 0 <|
(.lt none (.row 1 0 [true]) [.v 21, .c (.int .i64 1)] 1 <|
(.call none 60 [.v 18, .v 19, .v 34, .v 35, .c (.int .i64 0), .c (.int .i64 0), .v 26, .v 27, .v 28, .v 29, .v 30, .v 31, .v 32, .v 33] 2 [] <|
(.lt none (.dep 99) [.v 37] 0 <|
(.lt none (.bin .add) [.v 17, .c (.int .i64 1)] 1 <|
(.leaf .cont [.v 38, .v 36, .v 37] ())))))))))))))))
(.leaf (.yield 3) [.v 18, .v 19] ())))) <|
(.lt none (.bin .add) [.v 7, .c (.int .i64 1)] 1 <|
(.leaf .cont [.v 19, .v 17, .v 18] ())))))))
(.leaf (.yield 1) [.v 8, .v 9] ())))) <|
(.leaf .ret [.v 7, .v 8] ())))))
def tm59 : Tm Unit :=
(.lt none (.make 24 [(.rows 10 [])]) [.v 0] 1 <|
(.leaf .ret [.v 0, .v 1] ()))
def tm60 : Tm Unit :=
(.call none 61 [.v 0, .v 1] 2 [] <|
(.bind 1
(.loop [.v 15]
(.lt none .inb [.v 16, .v 2] 0 <|
(.lt none (.row 1 0 [false]) [.v 16, .v 2] 1 <|
(.lt none .len [.v 17] 1 <|
(.lt none (.bin .lss) [.v 18, .v 3] 1 <|
(.ite (.v 19)
(.lt none .inb [.v 16, .v 2] 0 <|
(.lt none (.row 1 0 [false]) [.v 16, .v 2] 1 <|
(.call none 43 [.v 0] 2 [] <|
(.lt none (.mk 10 1) [.c (.int .i64 0), .c (.int .i64 0), .c (.int .i64 0), .c (.int .i64 0), .c (.int .i64 0), .c (.int .i64 0), .c (.int .i64 0), .c (.int .i64 0), .v 21, .v 22] 1 <|
(.lt none (.set 1 0 1) [.v 16, .v 2, .c .hole] 1 <|
(.lt none (.app 10 96 false) [.v 20, .v 23] 1 <|
(.lt none .inb [.v 24, .v 2] 0 <|
(.lt none (.set 1 0 1) [.v 24, .v 2, .v 25] 1 <|
(.leaf .cont [.v 26] ())))))))))
(.leaf (.yield 1) [.v 16] ()))))))) <|
(.lt none .inb [.v 16, .v 2] 0 <|
(.lt none (.row 1 0 [false]) [.v 16, .v 2] 1 <|
(.lt none (.bin .sub) [.v 3, .c (.int .i64 1)] 1 <|
(.call none 55 [.v 4, .v 5, .v 6, .v 7, .v 8, .v 9, .v 10, .v 11, .v 12, .v 13] 10 [] <|
(.lt none .inb [.v 17, .v 18] 0 <|
(.lt none (.set 10 0 10) [.v 17, .v 18, .v 19, .v 20, .v 21, .v 22, .v 23, .v 24, .v 25, .v 26, .v 27, .v 28] 1 <|
(.lt none (.set 1 0 1) [.v 16, .v 2, .v 29] 1 <|
(.leaf .ret [.v 14, .v 30] ()))))))))))
def tm61 : Tm Unit :=
(.call none 59 [.v 0] 2 [] <|
(.lt none .len [.v 1] 1 <|
(.bind 1
(.loop [.c (.int .i64 0), .v 3]
(.lt none (.bin .lss) [.v 5, .v 4] 1 <|
(.ite (.v 7)
(.lt none .inb [.v 1, .v 5] 0 <|
(.lt none (.row 1 0 [false]) [.v 1, .v 5] 1 <|
(.lt none .len [.v 8] 1 <|
(.bind 3
(.loop [.c (.int .i64 0), .v 6]
(.lt none (.bin .lss) [.v 10, .v 9] 1 <|
(.ite (.v 12)
(.lt none .inb [.v 8, .v 10] 0 <|
(.lt none (.row 10 0 [true, true, true, true, true, true, true, true, true, false]) [.v 8, .v 10] 10 <|
(.lt none .inb [.v 11, .v 5] 0 <|
(.lt none (.row 1 0 [false]) [.v 11, .v 5] 1 <|
(.call none 55 [.v 13, .v 14, .v 15, .v 16, .v 17, .v 18, .v 19, .v 20, .v 21, .v 22] 10 [] <|
(.lt none (.mk 10 1) [.v 24, .v 25, .v 26, .v 27, .v 28, .v 29, .v 30, .v 31, .v 32, .v 33] 1 <|
(.lt none (.set 1 0 1) [.v 11, .v 5, .c .hole] 1 <|
(.lt none (.app 10 96 false) [.v 23, .v 34] 1 <|
(.lt none .inb [.v 35, .v 5] 0 <|
(.lt none (.set 1 0 1) [.v 35, .v 5, .v 36] 1 <|
(.lt none (.bin .add) [.v 10, .c (.int .i64 1)] 1 <|
(.leaf .cont [.v 38, .v 37] ()))))))))))))
(.leaf (.yield 3) [.v 11] ())))) <|
(.lt none (.bin .add) [.v 5, .c (.int .i64 1)] 1 <|
(.leaf .cont [.v 11, .v 10] ()))))))
(.leaf (.yield 1) [.v 6] ())))) <|
(.leaf .ret [.v 2, .v 5] ()))))
def tm62 : Tm Unit :=
(.call none 63 [.v 0, .v 1, .v 2] 1 [] <|
(.lt none .not [.v 3] 1 <|
(.call (some (.v 4, false)) 109 [.v 0, .v 1, .v 2] 1 [] <|
(.lt (some (.v 4, false)) .not [.v 5] 1 <|
(.lt none .pick [.v 4, .c (.bool true), .v 6] 1 <|
(.ite (.v 7)
(.leaf .ret [.c (.int .i64 0), .c (.rows 1 []), .c (.bool false)] ())
(.call none 115 [.v 0, .v 1, .v 2] 2 [] <|
(.leaf .ret [.v 8, .v 9, .c (.bool true)] ()))))))))
def tm63 : Tm Unit :=
(.lt none .len [.v 0] 1 <|
(.call none 64 [.v 3] 1 [] <|
(.lt none .not [.v 4] 1 <|
(.lt (some (.v 5, false)) .len [.v 1] 1 <|
(.lt (some (.v 5, false)) (.bin .gtr) [.v 6, .c (.int .i64 80)] 1 <|
(.lt none .pick [.v 5, .c (.bool true), .v 7] 1 <|
(.call (some (.v 8, false)) 65 [.v 1, .v 3] 1 [] <|
(.lt none .pick [.v 8, .c (.bool true), .v 9] 1 <|
(.ite (.v 10)
(.leaf .ret [.c (.bool false)] ())
(.lt none .len [.v 0] 1 <|
(.bind 1
(.loop [.c (.int .i64 0)]
(.lt none (.bin .lss) [.v 12, .v 11] 1 <|
(.ite (.v 13)
(.lt none .inb [.v 0, .v 12] 0 <|
(.lt none (.row 4 0 [true, true, false, false]) [.v 0, .v 12] 4 <|
(.lt none (.bin .neq) [.v 14, .v 12] 1 <|
(.lt (some (.v 18, false)) .id [.v 15] 1 <|
(.lt (some (.v 18, false)) .id [.v 3] 1 <|
(.lt (some (.v 18, false)) (.bin .neq) [.v 19, .v 20] 1 <|
(.lt none .pick [.v 18, .c (.bool true), .v 21] 1 <|
(.call (some (.v 22, false)) 84 [.v 14, .v 15, .v 16, .v 17] 1 [] <|
(.lt (some (.v 22, false)) .not [.v 23] 1 <|
(.lt none .pick [.v 22, .c (.bool true), .v 24] 1 <|
(.ite (.v 25)
(.leaf .ret [.c (.bool false)] ())
(.lt none (.bin .add) [.v 12, .c (.int .i64 1)] 1 <|
(.leaf .cont [.v 26] ())))))))))))))
(.leaf (.yield 1) [] ())))) <|
(.lt none .len [.v 2] 1 <|
(.bind 3
(.loop [.c (.int .i64 0)]
(.lt none (.bin .lss) [.v 13, .v 12] 1 <|
(.ite (.v 14)
(.lt none .inb [.v 2, .v 13] 0 <|
(.lt none (.row 7 0 [true, true, true, true, true, true, true]) [.v 2, .v 13] 7 <|
(.call none 70 [.v 3, .v 15, .v 16] 1 [] <|
(.lt none .not [.v 22] 1 <|
(.call (some (.v 23, false)) 75 [.v 17, .v 18, .v 19, .v 20, .v 21] 1 [] <|
(.lt (some (.v 23, false)) .not [.v 24] 1 <|
(.lt none .pick [.v 23, .c (.bool true), .v 25] 1 <|
(.lt (some (.v 26, false)) .id [.v 17] 1 <|
(.lt (some (.v 26, false)) (.bin .eql) [.v 27, .c (.int .i64 0)] 1 <|
(.lt none .pick [.v 26, .c (.bool true), .v 28] 1 <|
(.lt (some (.v 29, false)) .id [.v 13] 1 <|
(.lt (some (.v 29, false)) .id [.v 15] 1 <|
(.lt (some (.v 29, false)) .id [.v 16] 1 <|
(.call (some (.v 29, false)) 106 [.v 0, .v 1, .v 2, .v 30, .v 31, .v 32] 1 [] <|
(.lt (some (.v 29, false)) (.bin .geq) [.v 33, .c (.int .i64 0)] 1 <|
(.lt none .pick [.v 29, .c (.bool true), .v 34] 1 <|
(.ite (.v 35)
(.leaf .ret [.c (.bool false)] ())
(.lt none (.bin .add) [.v 13, .c (.int .i64 1)] 1 <|
(.leaf .cont [.v 36] ())))))))))))))))))))
(.leaf (.yield 3) [] ())))) <|
(.leaf .ret [.c (.bool true)] ()))))))))))))))
def tm64 : Tm Unit :=
(.lt none (.bin .eql) [.v 0, .c (.int .i64 3)] 1 <|
(.lt (some (.v 1, false)) .id [.v 0] 1 <|
(.lt (some (.v 1, false)) (.bin .eql) [.v 2, .c (.int .i64 5)] 1 <|
(.lt none .pick [.v 1, .c (.bool true), .v 3] 1 <|
(.leaf .ret [.v 4] ())))))
def tm65 : Tm Unit :=
(.call none 66 [.v 0, .v 1] 1 [] <|
(.lt none (.bin .geq) [.v 2, .c (.int .i64 0)] 1 <|
(.leaf .ret [.v 3] ())))
def tm66 : Tm Unit :=
(.lt none .len [.v 0] 1 <|
(.bind 1
(.loop [.c (.int .i64 0)]
(.lt none (.bin .lss) [.v 3, .v 2] 1 <|
(.ite (.v 4)
(.lt none .inb [.v 0, .v 3] 0 <|
(.lt none (.row 15 0 [true, true, true, true, true, true, true, true, true, true, true, true, true, true, false]) [.v 0, .v 3] 15 <|
(.call none 67 [.v 5, .v 6, .v 7, .v 8, .v 9, .v 10, .v 11, .v 12, .v 13, .v 14, .v 15, .v 16, .v 17, .v 18, .v 19, .v 1] 1 [] <|
(.ite (.v 20)
(.leaf .ret [.v 3] ())
(.lt none (.bin .add) [.v 3, .c (.int .i64 1)] 1 <|
(.leaf .cont [.v 21] ()))))))
(.leaf (.yield 1) [] ())))) <|
(.leaf .ret [.c (.int .i64 (-1))] ())))
def tm67 : Tm Unit :=
(.call none 68 [.v 15, .v 0, .v 1, .v 2, .v 3, .v 4, .v 5, .v 6, .v 7, .v 8, .v 9, .v 10, .v 11, .v 12, .v 13, .v 14] 1 [] <|
(.lt none .not [.v 16] 1 <|
(.leaf .ret [.v 17] ())))
def tm68 : Tm Unit :=
(.call none 69 [.v 1, .c (.int .i64 1), .c (.int .i64 7)] 1 [] <|
(.lt none .not [.v 16] 1 <|
(.lt (some (.v 17, false)) .id [.v 0] 1 <|
(.lt (some (.v 17, false)) .id [.v 4] 1 <|
(.lt (some (.v 17, false)) .id [.v 5] 1 <|
(.call (some (.v 17, false)) 70 [.v 18, .v 19, .v 20] 1 [] <|
(.lt (some (.v 17, false)) .not [.v 21] 1 <|
(.lt none .pick [.v 17, .c (.bool true), .v 22] 1 <|
(.lt (some (.v 23, false)) .id [.v 2] 1 <|
(.lt (some (.v 23, false)) .id [.v 0] 1 <|
(.lt (some (.v 23, false)) (.bin .sub) [.v 25, .c (.int .i64 1)] 1 <|
(.call (some (.v 23, false)) 69 [.v 24, .c (.int .i64 0), .v 26] 1 [] <|
(.lt (some (.v 23, false)) .not [.v 27] 1 <|
(.lt none .pick [.v 23, .c (.bool true), .v 28] 1 <|
(.lt (some (.v 29, false)) .id [.v 3] 1 <|
(.lt (some (.v 29, false)) .id [.v 0] 1 <|
(.lt (some (.v 29, false)) (.bin .sub) [.v 31, .c (.int .i64 1)] 1 <|
(.call (some (.v 29, false)) 69 [.v 30, .c (.int .i64 0), .v 32] 1 [] <|
(.lt (some (.v 29, false)) .not [.v 33] 1 <|
(.lt none .pick [.v 29, .c (.bool true), .v 34] 1 <|
(.lt (some (.v 35, false)) .id [.v 2] 1 <|
(.lt (some (.v 35, false)) .id [.v 3] 1 <|
(.lt (some (.v 35, false)) (.bin .eql) [.v 36, .v 37] 1 <|
(.lt none .pick [.v 35, .c (.bool true), .v 38] 1 <|
(.lt (some (.v 39, false)) .id [.v 6] 1 <|
(.call (some (.v 39, false)) 69 [.v 40, .c (.int .i64 0), .c (.int .i64 9999)] 1 [] <|
(.lt (some (.v 39, false)) .not [.v 41] 1 <|
(.lt none .pick [.v 39, .c (.bool true), .v 42] 1 <|
(.lt (some (.v 43, false)) .id [.v 1] 1 <|
(.lt (some (.v 43, false)) (.bin .eql) [.v 44, .c (.int .i64 5)] 1 <|
(.lt (some (.v 43, false)) .id [.v 45] 1 <|
(.lt (some (.v 46, true)) .id [.v 6] 1 <|
(.lt (some (.v 46, true)) (.bin .neq) [.v 47, .c (.int .i64 0)] 1 <|
(.lt (some (.v 43, false)) .pick [.v 46, .v 48, .c (.bool false)] 1 <|
(.lt none .pick [.v 43, .c (.bool true), .v 49] 1 <|
(.ite (.v 50)
(.leaf .ret [.c (.bool false)] ())
(.lt none (.bin .eql) [.v 1, .c (.int .i64 7)] 1 <|
(.ite (.v 51)
(.lt none (.bin .neq) [.v 8, .c (.int .i64 3)] 1 <|
(.lt (some (.v 52, true)) .id [.v 0] 1 <|
(.call (some (.v 52, true)) 71 [.v 1, .v 2, .v 3, .v 4, .v 5, .v 6, .v 7, .v 8, .v 9, .v 10, .v 11, .v 12, .v 13, .v 14, .v 15] 10 [] <|
(.call (some (.v 52, true)) 74 [.v 53, .v 54, .v 55, .v 56, .v 57, .v 58, .v 59, .v 60, .v 61, .v 62, .v 63] 1 [] <|
(.lt none .pick [.v 52, .v 64, .c (.bool false)] 1 <|
(.leaf .ret [.v 65] ()))))))
(.lt none (.bin .eql) [.v 1, .c (.int .i64 1)] 1 <|
(.lt (some (.v 52, false)) .id [.v 1] 1 <|
(.lt (some (.v 52, false)) (.bin .eql) [.v 53, .c (.int .i64 3)] 1 <|
(.lt none .pick [.v 52, .c (.bool true), .v 54] 1 <|
(.lt (some (.v 55, false)) .id [.v 1] 1 <|
(.lt (some (.v 55, false)) (.bin .eql) [.v 56, .c (.int .i64 5)] 1 <|
(.lt none .pick [.v 55, .c (.bool true), .v 57] 1 <|
(.bind 0
(.lt none (.bin .neq) [.v 7, .c (.int .i64 0)] 1 <|
(.lt (some (.v 59, false)) .id [.v 8] 1 <|
(.lt (some (.v 59, false)) (.bin .neq) [.v 60, .c (.int .i64 0)] 1 <|
(.lt none .pick [.v 59, .c (.bool true), .v 61] 1 <|
(.call (some (.v 62, false)) 75 [.v 9, .v 10, .v 11, .v 12, .v 13] 1 [] <|
(.lt (some (.v 62, false)) .not [.v 63] 1 <|
(.lt none .pick [.v 62, .c (.bool true), .v 64] 1 <|
(.lt (some (.v 65, false)) .id [.v 0] 1 <|
(.call (some (.v 65, false)) 77 [.v 66, .v 14, .v 15] 1 [] <|
(.lt (some (.v 65, false)) .not [.v 67] 1 <|
(.lt none .pick [.v 65, .c (.bool true), .v 68] 1 <|
(.ite (.v 69)
(.leaf (.yield 0) [.v 69] ())
(.lt none .not [.v 58] 1 <|
(.lt (some (.v 70, true)) (.eqs [0, 0, 0, 0, 0]) [.v 9, .v 10, .v 11, .v 12, .v 13, .c (.int .i64 0), .c (.int .i64 0), .c (.int .i64 0), .c (.int .i64 0), .c (.int .i64 0)] 1 <|
(.lt (some (.v 70, true)) .not [.v 71] 1 <|
(.lt none .pick [.v 70, .v 72, .c (.bool false)] 1 <|
(.leaf (.yield 0) [.v 73] ()))))))))))))))))) <|
(.ite (.v 59)
(.leaf .ret [.c (.bool false)] ())
(.lt (some (.v 58, false)) .id [.v 1] 1 <|
(.lt (some (.v 58, false)) (.bin .eql) [.v 60, .c (.int .i64 2)] 1 <|
(.lt none .pick [.v 58, .c (.bool true), .v 61] 1 <|
(.lt (some (.v 62, false)) .id [.v 0] 1 <|
(.call (some (.v 62, false)) 81 [.v 63] 2 [] <|
(.call (some (.v 62, false)) 82 [.v 14, .v 15, .v 64, .v 65] 1 [] <|
(.lt none .pick [.v 62, .c (.bool true), .v 66] 1 <|
(.leaf .ret [.v 67] ())))))))))))))))))))))))))))))))))))))))))))))))))))))))
def tm69 : Tm Unit :=
(.lt none (.bin .leq) [.v 1, .v 0] 1 <|
(.lt (some (.v 3, true)) .id [.v 0] 1 <|
(.lt (some (.v 3, true)) .id [.v 2] 1 <|
(.lt (some (.v 3, true)) (.bin .leq) [.v 4, .v 5] 1 <|
(.lt none .pick [.v 3, .v 6, .c (.bool false)] 1 <|
(.leaf .ret [.v 7] ()))))))
def tm70 : Tm Unit :=
(.call none 64 [.v 0] 1 [] <|
(.lt (some (.v 3, true)) .id [.v 1] 1 <|
(.lt (some (.v 3, true)) .id [.v 0] 1 <|
(.lt (some (.v 3, true)) (.bin .sub) [.v 5, .c (.int .i64 1)] 1 <|
(.call (some (.v 3, true)) 69 [.v 4, .c (.int .i64 0), .v 6] 1 [] <|
(.lt none .pick [.v 3, .v 7, .c (.bool false)] 1 <|
(.lt (some (.v 8, true)) .id [.v 2] 1 <|
(.call (some (.v 8, true)) 69 [.v 9, .c (.int .i64 1), .c (.int .i64 6)] 1 [] <|
(.lt none .pick [.v 8, .v 10, .c (.bool false)] 1 <|
(.leaf .ret [.v 11] ()))))))))))
def tm71 : Tm Unit :=
(.call none 72 [.v 13, .v 14] 2 [] <|
(.leaf .ret [.v 5, .v 6, .v 7, .v 8, .v 9, .v 10, .v 11, .v 12, .v 15, .v 16] ()))
def tm72 : Tm Unit :=
(.call none 73 [.v 1] 1 [] <|
(.leaf .ret [.v 0, .v 2] ()))
def tm73 : Tm Unit :=
(.lt none .ne [.v 0] 0 <|
(.lt none .emp [.v 0] 1 <|
(.ite (.v 1)
(.leaf .ret [.c (.rows 1 [])] ())
(.lt none (.mk 1 0) [] 1 <|
(.lt none (.app 1 8 true) [.v 2, .v 0] 1 <|
(.leaf .ret [.v 3] ()))))))
def tm74 : Tm Unit :=
(.call none 69 [.v 1, .c (.int .i64 0), .c (.int .i64 9999)] 1 [] <|
(.lt none .not [.v 11] 1 <|
(.lt (some (.v 12, false)) .id [.v 2] 1 <|
(.lt (some (.v 12, false)) .id [.v 1] 1 <|
(.call (some (.v 12, false)) 69 [.v 13, .c (.int .i64 0), .v 14] 1 [] <|
(.lt (some (.v 12, false)) .not [.v 15] 1 <|
(.lt none .pick [.v 12, .c (.bool true), .v 16] 1 <|
(.lt (some (.v 17, false)) .id [.v 3] 1 <|
(.call (some (.v 17, false)) 69 [.v 18, .c (.int .i64 0), .c (.int .i64 3)] 1 [] <|
(.lt (some (.v 17, false)) .not [.v 19] 1 <|
(.lt none .pick [.v 17, .c (.bool true), .v 20] 1 <|
(.call (some (.v 21, false)) 75 [.v 4, .v 5, .v 6, .v 7, .v 8] 1 [] <|
(.lt (some (.v 21, false)) .not [.v 22] 1 <|
(.lt none .pick [.v 21, .c (.bool true), .v 23] 1 <|
(.lt (some (.v 24, false)) .id [.v 0] 1 <|
(.call (some (.v 24, false)) 77 [.v 25, .v 9, .v 10] 1 [] <|
(.lt (some (.v 24, false)) .not [.v 26] 1 <|
(.lt none .pick [.v 24, .c (.bool true), .v 27] 1 <|
(.ite (.v 28)
(.leaf .ret [.c (.bool false)] ())
(.lt none (.bin .neq) [.v 3, .c (.int .i64 0)] 1 <|
(.lt (some (.v 29, false)) .id [.v 2] 1 <|
(.lt (some (.v 29, false)) (.bin .eql) [.v 30, .c (.int .i64 0)] 1 <|
(.lt (some (.v 29, false)) .id [.v 31] 1 <|
(.lt (some (.v 32, true)) (.eqs [0, 0, 0, 0, 0]) [.v 4, .v 5, .v 6, .v 7, .v 8, .c (.int .i64 0), .c (.int .i64 0), .c (.int .i64 0), .c (.int .i64 0), .c (.int .i64 0)] 1 <|
(.lt (some (.v 29, false)) .pick [.v 32, .v 33, .c (.bool false)] 1 <|
(.lt (some (.v 29, false)) .id [.v 34] 1 <|
(.lt (some (.v 35, true)) .id [.v 0] 1 <|
(.call (some (.v 35, true)) 81 [.v 36] 2 [] <|
(.call (some (.v 35, true)) 82 [.v 9, .v 10, .v 37, .v 38] 1 [] <|
(.lt (some (.v 29, false)) .pick [.v 35, .v 39, .c (.bool false)] 1 <|
(.lt none .pick [.v 29, .c (.bool true), .v 40] 1 <|
(.leaf .ret [.v 41] ()))))))))))))))))))))))))))))))))
def tm75 : Tm Unit :=
(.lt none (.bin .eql) [.v 0, .c (.int .i64 0)] 1 <|
(.ite (.v 5)
(.lt none (.eqs [0, 0, 0, 0, 0]) [.v 0, .v 1, .v 2, .v 3, .v 4, .c (.int .i64 0), .c (.int .i64 0), .c (.int .i64 0), .c (.int .i64 0), .c (.int .i64 0)] 1 <|
(.leaf .ret [.v 6] ()))
(.lt none (.bin .eql) [.v 0, .c (.int .i64 1)] 1 <|
(.ite (.v 6)
(.call none 69 [.v 1, .c (.int .i64 1), .c (.int .i64 999)] 1 [] <|
(.lt (some (.v 7, true)) .id [.v 2] 1 <|
(.call (some (.v 7, true)) 76 [.v 8] 1 [] <|
(.lt none .pick [.v 7, .v 9, .c (.bool false)] 1 <|
(.lt (some (.v 10, true)) .id [.v 3] 1 <|
(.call (some (.v 10, true)) 76 [.v 11] 1 [] <|
(.lt none .pick [.v 10, .v 12, .c (.bool false)] 1 <|
(.lt (some (.v 13, true)) .id [.v 2] 1 <|
(.lt (some (.v 13, true)) .id [.v 3] 1 <|
(.lt (some (.v 13, true)) (.bin .neq) [.v 14, .v 15] 1 <|
(.lt none .pick [.v 13, .v 16, .c (.bool false)] 1 <|
(.lt (some (.v 17, true)) .id [.v 4] 1 <|
(.call (some (.v 17, true)) 69 [.v 18, .c (.int .i64 1), .c (.int .i64 1000)] 1 [] <|
(.lt none .pick [.v 17, .v 19, .c (.bool false)] 1 <|
(.leaf .ret [.v 20] ())))))))))))))))
(.lt none (.bin .eql) [.v 0, .c (.int .i64 2)] 1 <|
(.lt (some (.v 7, true)) .id [.v 1] 1 <|
(.call (some (.v 7, true)) 69 [.v 8, .c (.int .i64 1), .c (.int .i64 999)] 1 [] <|
(.lt none .pick [.v 7, .v 9, .c (.bool false)] 1 <|
(.lt (some (.v 10, true)) .id [.v 2] 1 <|
(.call (some (.v 10, true)) 76 [.v 11] 1 [] <|
(.lt none .pick [.v 10, .v 12, .c (.bool false)] 1 <|
(.lt (some (.v 13, true)) .id [.v 3] 1 <|
(.lt (some (.v 13, true)) (.bin .eql) [.v 14, .c (.int .i64 0)] 1 <|
(.lt none .pick [.v 13, .v 15, .c (.bool false)] 1 <|
(.lt (some (.v 16, true)) .id [.v 4] 1 <|
(.lt (some (.v 16, true)) (.bin .eql) [.v 17, .c (.int .i64 0)] 1 <|
(.lt none .pick [.v 16, .v 18, .c (.bool false)] 1 <|
(.leaf .ret [.v 19] ()))))))))))))))))))
def tm76 : Tm Unit :=
(.call none 69 [.v 0, .c (.int .i64 0), .c (.int .i64 3)] 1 [] <|
(.leaf .ret [.v 1] ()))
def tm77 : Tm Unit :=
(.call none 64 [.v 0] 1 [] <|
(.lt (some (.v 3, true)) .id [.v 1] 1 <|
(.call (some (.v 3, true)) 69 [.v 4, .c (.int .i64 0), .c (.int .i64 999)] 1 [] <|
(.lt none .pick [.v 3, .v 5, .c (.bool false)] 1 <|
(.lt (some (.v 6, true)) .len [.v 2] 1 <|
(.lt (some (.v 6, true)) .id [.v 0] 1 <|
(.lt (some (.v 6, true)) (.bin .eql) [.v 7, .v 8] 1 <|
(.lt none .pick [.v 6, .v 9, .c (.bool false)] 1 <|
(.call (some (.v 10, true)) 78 [.v 2] 1 [] <|
(.lt (some (.v 10, true)) .not [.v 11] 1 <|
(.lt none .pick [.v 10, .v 12, .c (.bool false)] 1 <|
(.leaf .ret [.v 13] ()))))))))))))
def tm78 : Tm Unit :=
(.call none 79 [.v 0] 1 [] <|
(.lt none (.bin .geq) [.v 1, .c (.int .i64 0)] 1 <|
(.leaf .ret [.v 2] ())))
def tm79 : Tm Unit :=
(.lt none .len [.v 0] 1 <|
(.bind 1
(.loop [.c (.int .i64 0)]
(.lt none (.bin .lss) [.v 2, .v 1] 1 <|
(.ite (.v 3)
(.lt none .inb [.v 0, .v 2] 0 <|
(.lt none (.row 1 0 [true]) [.v 0, .v 2] 1 <|
(.call none 80 [.v 4] 1 [] <|
(.ite (.v 5)
(.leaf .ret [.v 2] ())
(.lt none (.bin .add) [.v 2, .c (.int .i64 1)] 1 <|
(.leaf .cont [.v 6] ()))))))
(.leaf (.yield 1) [] ())))) <|
(.leaf .ret [.c (.int .i64 (-1))] ())))
def tm80 : Tm Unit :=
(.call none 69 [.v 0, .c (.int .i64 0), .c (.int .i64 6)] 1 [] <|
(.lt none .not [.v 1] 1 <|
(.leaf .ret [.v 2] ())))
def tm81 : Tm Unit :=
(.lt none (.make 8 [(.int .i64 0)]) [.v 0] 1 <|
(.leaf .ret [.c (.int .i64 0), .v 1] ()))
def tm82 : Tm Unit :=
(.lt none (.bin .eql) [.v 0, .v 2] 1 <|
(.call (some (.v 4, true)) 83 [.v 1, .v 3] 1 [] <|
(.lt none .pick [.v 4, .v 5, .c (.bool false)] 1 <|
(.leaf .ret [.v 6] ()))))
def tm83 : Tm Unit :=
(.lt none .len [.v 0] 1 <|
(.lt none .len [.v 1] 1 <|
(.lt none (.bin .neq) [.v 2, .v 3] 1 <|
(.ite (.v 4)
(.leaf .ret [.c (.bool false)] ())
(.lt none .len [.v 0] 1 <|
(.bind 1
(.loop [.c (.int .i64 0)]
(.lt none (.bin .lss) [.v 6, .v 5] 1 <|
(.ite (.v 7)
(.lt none .inb [.v 0, .v 6] 0 <|
(.lt none (.row 1 0 [true]) [.v 0, .v 6] 1 <|
(.lt none .inb [.v 1, .v 6] 0 <|
(.lt none (.row 1 0 [true]) [.v 1, .v 6] 1 <|
(.lt none (.bin .neq) [.v 8, .v 9] 1 <|
(.ite (.v 10)
(.leaf .ret [.c (.bool false)] ())
(.lt none (.bin .add) [.v 6, .c (.int .i64 1)] 1 <|
(.leaf .cont [.v 11] ()))))))))
(.leaf (.yield 1) [] ())))) <|
(.leaf .ret [.c (.bool true)] ())))))))
def tm84 : Tm Unit :=
(.call none 85 [.v 1, .v 2] 1 [] <|
(.lt none .not [.v 4] 1 <|
(.lt (some (.v 5, false)) .id [.v 0] 1 <|
(.lt (some (.v 5, false)) .id [.v 1] 1 <|
(.lt (some (.v 5, false)) (.bin .sub) [.v 7, .c (.int .i64 1)] 1 <|
(.call (some (.v 5, false)) 69 [.v 6, .c (.int .i64 0), .v 8] 1 [] <|
(.lt (some (.v 5, false)) .not [.v 9] 1 <|
(.lt none .pick [.v 5, .c (.bool true), .v 10] 1 <|
(.ite (.v 11)
(.leaf .ret [.c (.bool false)] ())
(.lt none .len [.v 3] 1 <|
(.bind 1
(.loop [.c (.int .i64 0)]
(.lt none (.bin .lss) [.v 13, .v 12] 1 <|
(.ite (.v 14)
(.lt none .inb [.v 3, .v 13] 0 <|
(.lt none (.row 16 0 [true, true, true, true, true, true, true, true, true, true, false, true, false, true, false, false]) [.v 3, .v 13] 16 <|
(.call none 92 [.v 1, .v 0, .v 15, .v 16, .v 17, .v 18, .v 19, .v 20, .v 21, .v 22, .v 23, .v 24, .v 25, .v 26, .v 27, .v 28, .v 29, .v 30] 1 [] <|
(.lt none .not [.v 31] 1 <|
(.lt (some (.v 32, false)) .id [.v 13] 1 <|
(.lt (some (.v 32, false)) (.bin .gtr) [.v 33, .c (.int .i64 0)] 1 <|
(.lt (some (.v 32, false)) .id [.v 34] 1 <|
(.lt (some (.v 35, true)) .id [.v 15] 1 <|
(.lt (some (.v 35, true)) .id [.v 16] 1 <|
(.lt (some (.v 35, true)) (.mk 1 2) [.v 36, .v 37] 1 <|
(.lt (some (.v 35, true)) .id [.v 13] 1 <|
(.lt (some (.v 35, true)) (.bin .sub) [.v 39, .c (.int .i64 1)] 1 <|
(.lt (some (.v 35, true)) .inb [.v 3, .v 40] 0 <|
(.lt (some (.v 35, true)) (.row 16 0 [true]) [.v 3, .v 40] 1 <|
(.lt (some (.v 35, true)) .id [.v 13] 1 <|
(.lt (some (.v 35, true)) (.bin .sub) [.v 42, .c (.int .i64 1)] 1 <|
(.lt (some (.v 35, true)) .inb [.v 3, .v 43] 0 <|
(.lt (some (.v 35, true)) (.row 16 1 [true]) [.v 3, .v 43] 1 <|
(.lt (some (.v 35, true)) (.mk 1 2) [.v 41, .v 44] 1 <|
(.call (some (.v 35, true)) 103 [.v 38, .v 45] 1 [] <|
(.lt (some (.v 35, true)) (.bin .leq) [.v 46, .c (.int .i64 0)] 1 <|
(.lt (some (.v 32, false)) .pick [.v 35, .v 47, .c (.bool false)] 1 <|
(.lt none .pick [.v 32, .c (.bool true), .v 48] 1 <|
(.ite (.v 49)
(.leaf .ret [.c (.bool false)] ())
(.lt none (.bin .add) [.v 13, .c (.int .i64 1)] 1 <|
(.leaf .cont [.v 50] ()))))))))))))))))))))))))))
(.leaf (.yield 1) [] ())))) <|
(.leaf .ret [.c (.bool true)] ()))))))))))))
def tm85 : Tm Unit :=
(.call none 64 [.v 0] 1 [] <|
(.lt (some (.v 2, true)) .len [.v 1] 1 <|
(.lt (some (.v 2, true)) .id [.v 0] 1 <|
(.lt (some (.v 2, true)) (.bin .eql) [.v 3, .v 4] 1 <|
(.lt none .pick [.v 2, .v 5, .c (.bool false)] 1 <|
(.call (some (.v 6, true)) 86 [.v 1, .v 0, .v 1] 1 [] <|
(.lt (some (.v 6, true)) .not [.v 7] 1 <|
(.lt none .pick [.v 6, .v 8, .c (.bool false)] 1 <|
(.leaf .ret [.v 9] ())))))))))
def tm86 : Tm Unit :=
(.call none 87 [.v 0, .v 1, .v 2] 1 [] <|
(.lt none (.bin .geq) [.v 3, .c (.int .i64 0)] 1 <|
(.leaf .ret [.v 4] ())))
def tm87 : Tm Unit :=
(.lt none .len [.v 0] 1 <|
(.bind 1
(.loop [.c (.int .i64 0)]
(.lt none (.bin .lss) [.v 4, .v 3] 1 <|
(.ite (.v 5)
(.lt none .inb [.v 0, .v 4] 0 <|
(.lt none (.row 1 0 [false]) [.v 0, .v 4] 1 <|
(.call none 88 [.v 6, .v 1, .v 2] 1 [] <|
(.ite (.v 7)
(.leaf .ret [.v 4] ())
(.lt none (.bin .add) [.v 4, .c (.int .i64 1)] 1 <|
(.leaf .cont [.v 8] ()))))))
(.leaf (.yield 1) [] ())))) <|
(.leaf .ret [.c (.int .i64 (-1))] ())))
def tm88 : Tm Unit :=
(.lt none .len [.v 0] 1 <|
(.lt none (.bin .gtr) [.v 3, .c (.int .i64 6)] 1 <|
(.call (some (.v 4, false)) 89 [.v 0, .v 1, .v 2] 1 [] <|
(.lt none .pick [.v 4, .c (.bool true), .v 5] 1 <|
(.leaf .ret [.v 6] ())))))
def tm89 : Tm Unit :=
(.call none 90 [.v 0, .v 1, .v 2] 1 [] <|
(.lt none (.bin .geq) [.v 3, .c (.int .i64 0)] 1 <|
(.leaf .ret [.v 4] ())))
def tm90 : Tm Unit :=
(.lt none .len [.v 0] 1 <|
(.bind 1
(.loop [.c (.int .i64 0)]
(.lt none (.bin .lss) [.v 4, .v 3] 1 <|
(.ite (.v 5)
(.lt none .inb [.v 0, .v 4] 0 <|
(.lt none (.row 10 0 [true, true, true, true, true, true, true, true, true, false]) [.v 0, .v 4] 10 <|
(.call none 91 [.v 6, .v 7, .v 8, .v 9, .v 10, .v 11, .v 12, .v 13, .v 14, .v 15, .v 1, .v 2] 1 [] <|
(.ite (.v 16)
(.leaf .ret [.v 4] ())
(.lt none (.bin .add) [.v 4, .c (.int .i64 1)] 1 <|
(.leaf .cont [.v 17] ()))))))
(.leaf (.yield 1) [] ())))) <|
(.leaf .ret [.c (.int .i64 (-1))] ())))
def tm91 : Tm Unit :=
(.call none 74 [.v 10, .v 0, .v 1, .v 2, .v 3, .v 4, .v 5, .v 6, .v 7, .v 8, .v 9] 1 [] <|
(.lt none .not [.v 12] 1 <|
(.leaf .ret [.v 13] ())))
def tm92 : Tm Unit :=
(.call none 70 [.v 0, .v 2, .v 3] 1 [] <|
(.lt none .not [.v 18] 1 <|
(.lt (some (.v 19, false)) .id [.v 4] 1 <|
(.call (some (.v 19, false)) 69 [.v 20, .c (.int .i64 0), .c (.int .i64 9999)] 1 [] <|
(.lt (some (.v 19, false)) .not [.v 21] 1 <|
(.lt none .pick [.v 19, .c (.bool true), .v 22] 1 <|
(.lt (some (.v 23, false)) .id [.v 0] 1 <|
(.call (some (.v 23, false)) 93 [.v 24, .v 16] 1 [] <|
(.lt (some (.v 23, false)) .not [.v 25] 1 <|
(.lt none .pick [.v 23, .c (.bool true), .v 26] 1 <|
(.lt (some (.v 27, false)) .id [.v 1] 1 <|
(.call (some (.v 27, false)) 98 [.v 16, .v 28] 1 [] <|
(.lt (some (.v 27, false)) .not [.v 29] 1 <|
(.lt none .pick [.v 27, .c (.bool true), .v 30] 1 <|
(.lt (some (.v 31, false)) .id [.v 0] 1 <|
(.call (some (.v 31, false)) 77 [.v 32, .v 11, .v 12] 1 [] <|
(.lt (some (.v 31, false)) .not [.v 33] 1 <|
(.lt none .pick [.v 31, .c (.bool true), .v 34] 1 <|
(.lt (some (.v 35, false)) .id [.v 0] 1 <|
(.call (some (.v 35, false)) 77 [.v 36, .v 13, .v 14] 1 [] <|
(.lt (some (.v 35, false)) .not [.v 37] 1 <|
(.lt none .pick [.v 35, .c (.bool true), .v 38] 1 <|
(.ite (.v 39)
(.leaf .ret [.c (.bool false)] ())
(.lt none (.bin .eql) [.v 5, .c (.int .i64 1)] 1 <|
(.ite (.v 40)
(.call none 75 [.v 6, .v 7, .v 8, .v 9, .v 10] 1 [] <|
(.lt (some (.v 41, true)) .len [.v 17] 1 <|
(.lt (some (.v 41, true)) (.bin .eql) [.v 42, .c (.int .i64 0)] 1 <|
(.lt none .pick [.v 41, .v 43, .c (.bool false)] 1 <|
(.leaf .ret [.v 44] ())))))
(.lt none (.bin .eql) [.v 5, .c (.int .i64 2)] 1 <|
(.ite (.v 41)
(.call none 75 [.v 6, .v 7, .v 8, .v 9, .v 10] 1 [] <|
(.lt (some (.v 42, true)) .len [.v 17] 1 <|
(.lt (some (.v 42, true)) (.bin .eql) [.v 43, .c (.int .i64 0)] 1 <|
(.lt none .pick [.v 42, .v 44, .c (.bool false)] 1 <|
(.call (some (.v 45, true)) 82 [.v 11, .v 12, .v 13, .v 14] 1 [] <|
(.lt none .pick [.v 45, .v 46, .c (.bool false)] 1 <|
(.lt (some (.v 47, true)) .id [.v 15] 1 <|
(.lt (some (.v 47, true)) .not [.v 48] 1 <|
(.lt none .pick [.v 47, .v 49, .c (.bool false)] 1 <|
(.leaf .ret [.v 50] ()))))))))))
(.lt none (.bin .eql) [.v 5, .c (.int .i64 3)] 1 <|
(.ite (.v 42)
(.call none 81 [.v 0] 2 [] <|
(.lt none (.eqs [0, 0, 0, 0, 0]) [.v 6, .v 7, .v 8, .v 9, .v 10, .c (.int .i64 0), .c (.int .i64 0), .c (.int .i64 0), .c (.int .i64 0), .c (.int .i64 0)] 1 <|
(.call (some (.v 45, true)) 82 [.v 11, .v 12, .v 43, .v 44] 1 [] <|
(.lt none .pick [.v 45, .v 46, .c (.bool false)] 1 <|
(.call (some (.v 47, true)) 82 [.v 13, .v 14, .v 43, .v 44] 1 [] <|
(.lt none .pick [.v 47, .v 48, .c (.bool false)] 1 <|
(.lt (some (.v 49, true)) .id [.v 15] 1 <|
(.lt (some (.v 49, true)) .not [.v 50] 1 <|
(.lt none .pick [.v 49, .v 51, .c (.bool false)] 1 <|
(.lt (some (.v 52, true)) .len [.v 17] 1 <|
(.lt (some (.v 52, true)) .len [.v 16] 1 <|
(.lt (some (.v 52, true)) (.bin .eql) [.v 53, .v 54] 1 <|
(.lt none .pick [.v 52, .v 55, .c (.bool false)] 1 <|
(.call (some (.v 56, true)) 100 [.v 17, .v 0] 1 [] <|
(.lt (some (.v 56, true)) .not [.v 57] 1 <|
(.lt none .pick [.v 56, .v 58, .c (.bool false)] 1 <|
(.leaf .ret [.v 59] ())))))))))))))))))
(.leaf .ret [.c (.bool false)] ()))))))))))))))))))))))))))))))
def tm93 : Tm Unit :=
(.call none 94 [.v 1] 1 [] <|
(.call (some (.v 2, true)) 95 [.v 1, .v 0] 1 [] <|
(.lt (some (.v 2, true)) .not [.v 3] 1 <|
(.lt none .pick [.v 2, .v 4, .c (.bool false)] 1 <|
(.leaf .ret [.v 5] ())))))
def tm94 : Tm Unit :=
(.bind 1
(.loop [.c (.int .i64 1)]
(.lt none .len [.v 0] 1 <|
(.lt none (.bin .lss) [.v 1, .v 2] 1 <|
(.ite (.v 3)
(.lt none .inb [.v 0, .v 1] 0 <|
(.lt none (.row 1 0 [true]) [.v 0, .v 1] 1 <|
(.lt none (.bin .sub) [.v 1, .c (.int .i64 1)] 1 <|
(.lt none .inb [.v 0, .v 5] 0 <|
(.lt none (.row 1 0 [true]) [.v 0, .v 5] 1 <|
(.lt none (.bin .leq) [.v 4, .v 6] 1 <|
(.ite (.v 7)
(.leaf .ret [.c (.bool false)] ())
(.lt none (.bin .add) [.v 1, .c (.int .i64 1)] 1 <|
(.leaf .cont [.v 8] ())))))))))
(.leaf (.yield 1) [] ()))))) <|
(.leaf .ret [.c (.bool true)] ()))
def tm95 : Tm Unit :=
(.call none 96 [.v 0, .v 1] 1 [] <|
(.lt none (.bin .geq) [.v 2, .c (.int .i64 0)] 1 <|
(.leaf .ret [.v 3] ())))
def tm96 : Tm Unit :=
(.lt none .len [.v 0] 1 <|
(.bind 1
(.loop [.c (.int .i64 0)]
(.lt none (.bin .lss) [.v 3, .v 2] 1 <|
(.ite (.v 4)
(.lt none .inb [.v 0, .v 3] 0 <|
(.lt none (.row 1 0 [true]) [.v 0, .v 3] 1 <|
(.call none 97 [.v 5, .v 1] 1 [] <|
(.ite (.v 6)
(.leaf .ret [.v 3] ())
(.lt none (.bin .add) [.v 3, .c (.int .i64 1)] 1 <|
(.leaf .cont [.v 7] ()))))))
(.leaf (.yield 1) [] ())))) <|
(.leaf .ret [.c (.int .i64 (-1))] ())))
def tm97 : Tm Unit :=
(.lt none (.bin .sub) [.v 1, .c (.int .i64 1)] 1 <|
(.call none 69 [.v 0, .c (.int .i64 0), .v 2] 1 [] <|
(.lt none .not [.v 3] 1 <|
(.leaf .ret [.v 4] ()))))
def tm98 : Tm Unit :=
(.call none 99 [.v 0, .v 1] 1 [] <|
(.lt none (.bin .geq) [.v 2, .c (.int .i64 0)] 1 <|
(.leaf .ret [.v 3] ())))
def tm99 : Tm Unit :=
(.lt none .len [.v 0] 1 <|
(.bind 1
(.loop [.c (.int .i64 0)]
(.lt none (.bin .lss) [.v 3, .v 2] 1 <|
(.ite (.v 4)
(.lt none .inb [.v 0, .v 3] 0 <|
(.lt none (.row 1 0 [true]) [.v 0, .v 3] 1 <|
(.lt none (.bin .eql) [.v 1, .v 5] 1 <|
(.ite (.v 6)
(.leaf .ret [.v 3] ())
(.lt none (.bin .add) [.v 3, .c (.int .i64 1)] 1 <|
(.leaf .cont [.v 7] ()))))))
(.leaf (.yield 1) [] ())))) <|
(.leaf .ret [.c (.int .i64 (-1))] ())))
def tm100 : Tm Unit :=
(.call none 101 [.v 0, .v 1] 1 [] <|
(.lt none (.bin .geq) [.v 2, .c (.int .i64 0)] 1 <|
(.leaf .ret [.v 3] ())))
def tm101 : Tm Unit :=
(.lt none .len [.v 0] 1 <|
(.bind 1
(.loop [.c (.int .i64 0)]
(.lt none (.bin .lss) [.v 3, .v 2] 1 <|
(.ite (.v 4)
(.lt none .inb [.v 0, .v 3] 0 <|
(.lt none (.row 10 0 [true, true, true, true, true, true, true, true, true, false]) [.v 0, .v 3] 10 <|
(.call none 102 [.v 5, .v 6, .v 7, .v 8, .v 9, .v 10, .v 11, .v 12, .v 13, .v 14, .v 1] 1 [] <|
(.ite (.v 15)
(.leaf .ret [.v 3] ())
(.lt none (.bin .add) [.v 3, .c (.int .i64 1)] 1 <|
(.leaf .cont [.v 16] ()))))))
(.leaf (.yield 1) [] ())))) <|
(.leaf .ret [.c (.int .i64 (-1))] ())))
def tm102 : Tm Unit :=
(.call none 74 [.v 10, .v 0, .v 1, .v 2, .v 3, .v 4, .v 5, .v 6, .v 7, .v 8, .v 9] 1 [] <|
(.lt none .not [.v 11] 1 <|
(.lt (some (.v 12, false)) .id [.v 2] 1 <|
(.lt (some (.v 12, false)) (.bin .eql) [.v 13, .c (.int .i64 3)] 1 <|
(.lt none .pick [.v 12, .c (.bool true), .v 14] 1 <|
(.leaf .ret [.v 15] ()))))))
def tm103 : Tm Unit :=
(.lt none .len [.v 0] 1 <|
(.bind 1
(.loop [.c (.int .i64 0)]
(.lt none (.bin .lss) [.v 3, .v 2] 1 <|
(.ite (.v 4)
(.lt none .inb [.v 0, .v 3] 0 <|
(.lt none (.row 1 0 [true]) [.v 0, .v 3] 1 <|
(.lt none .len [.v 1] 1 <|
(.lt none (.bin .geq) [.v 3, .v 6] 1 <|
(.ite (.v 7)
(.leaf .ret [.c (.int .i64 1)] ())
(.lt none .inb [.v 1, .v 3] 0 <|
(.lt none (.row 1 0 [true]) [.v 1, .v 3] 1 <|
(.call none 104 [.v 5, .v 8] 1 [] <|
(.lt none (.bin .neq) [.v 9, .c (.int .i64 0)] 1 <|
(.ite (.v 10)
(.leaf .ret [.v 9] ())
(.lt none (.bin .add) [.v 3, .c (.int .i64 1)] 1 <|
(.leaf .cont [.v 11] ()))))))))))))
(.leaf (.yield 1) [] ())))) <|
(.lt none .len [.v 0] 1 <|
(.lt none .len [.v 1] 1 <|
(.lt none (.bin .lss) [.v 3, .v 4] 1 <|
(.ite (.v 5)
(.leaf .ret [.c (.int .i64 (-1))] ())
(.leaf .ret [.c (.int .i64 0)] ())))))))
def tm104 : Tm Unit :=
(.call none 105 [.v 0] 1 [] <|
(.call none 105 [.v 1] 1 [] <|
(.ite (.v 2)
(.ite (.v 3)
(.leaf .ret [.c (.int .i64 0)] ())
(.leaf .ret [.c (.int .i64 (-1))] ()))
(.ite (.v 3)
(.leaf .ret [.c (.int .i64 1)] ())
(.lt none (.bin .lss) [.v 0, .v 1] 1 <|
(.ite (.v 4)
(.leaf .ret [.c (.int .i64 (-1))] ())
(.lt none (.bin .gtr) [.v 0, .v 1] 1 <|
(.ite (.v 5)
(.leaf .ret [.c (.int .i64 1)] ())
(.leaf .ret [.c (.int .i64 0)] ())))))))))
def tm105 : Tm Unit :=
(.lt none (.bin .neq) [.v 0, .v 0] 1 <|
(.leaf .ret [.v 1] ()))
def tm106 : Tm Unit :=
(.lt none (.sub 7 false) [.v 2, .c (.int .i64 0), .v 3] 1 <|
(.call none 107 [.v 6, .v 4, .v 5] 1 [] <|
(.leaf .ret [.v 7] ())))
def tm107 : Tm Unit :=
(.lt none .len [.v 0] 1 <|
(.bind 1
(.loop [.c (.int .i64 0)]
(.lt none (.bin .lss) [.v 4, .v 3] 1 <|
(.ite (.v 5)
(.lt none .inb [.v 0, .v 4] 0 <|
(.lt none (.row 7 0 [true, true, true, true, true, true, true]) [.v 0, .v 4] 7 <|
(.call none 108 [.v 6, .v 7, .v 8, .v 9, .v 10, .v 11, .v 12, .v 1, .v 2] 1 [] <|
(.ite (.v 13)
(.leaf .ret [.v 4] ())
(.lt none (.bin .add) [.v 4, .c (.int .i64 1)] 1 <|
(.leaf .cont [.v 14] ()))))))
(.leaf (.yield 1) [] ())))) <|
(.leaf .ret [.c (.int .i64 (-1))] ())))
def tm108 : Tm Unit :=
(.lt none (.bin .eql) [.v 0, .v 7] 1 <|
(.lt (some (.v 9, true)) .id [.v 1] 1 <|
(.lt (some (.v 9, true)) .id [.v 8] 1 <|
(.lt (some (.v 9, true)) (.bin .eql) [.v 10, .v 11] 1 <|
(.lt none .pick [.v 9, .v 12, .c (.bool false)] 1 <|
(.leaf .ret [.v 13] ()))))))
def tm109 : Tm Unit :=
(.lt none .len [.v 0] 1 <|
(.bind 1
(.loop [.c (.int .i64 0)]
(.lt none (.bin .lss) [.v 4, .v 3] 1 <|
(.ite (.v 5)
(.lt none .inb [.v 0, .v 4] 0 <|
(.lt none (.row 4 0 [true, true, false, false]) [.v 0, .v 4] 4 <|
(.call none 110 [.v 7, .v 8] 1 [] <|
(.lt none .len [.v 10] 1 <|
(.bind 3
(.loop [.c (.int .i64 0)]
(.lt none (.bin .lss) [.v 12, .v 11] 1 <|
(.ite (.v 13)
(.lt none .inb [.v 10, .v 12] 0 <|
(.lt none (.row 1 0 [false]) [.v 10, .v 12] 1 <|
(.lt none .inb [.v 14, .c (.int .i64 0)] 0 <|
(.lt none (.row 1 0 [true]) [.v 14, .c (.int .i64 0)] 1 <|
(.lt none .inb [.v 14, .c (.int .i64 1)] 0 <|
(.lt none (.row 1 0 [true]) [.v 14, .c (.int .i64 1)] 1 <|
(.call none 113 [.v 7, .v 8, .v 15, .v 16] 10 [] <|
(.lt none (.sub 4 false) [.v 0, .c (.int .i64 0), .v 4] 1 <|
(.lt none .len [.v 27] 1 <|
(.bind 5
(.loop [.c (.int .i64 0)]
(.lt none (.bin .lss) [.v 29, .v 28] 1 <|
(.ite (.v 30)
(.lt none .inb [.v 27, .v 29] 0 <|
(.lt none (.row 4 0 [true, true, false, false]) [.v 27, .v 29] 4 <|
(.lt none .inb [.v 14, .c (.int .i64 0)] 0 <|
(.lt none (.row 1 0 [true]) [.v 14, .c (.int .i64 0)] 1 <|
(.lt none .inb [.v 14, .c (.int .i64 1)] 0 <|
(.lt none (.row 1 0 [true]) [.v 14, .c (.int .i64 1)] 1 <|
(.call none 113 [.v 32, .v 33, .v 35, .v 36] 10 [] <|
(.lt none (.bin .eql) [.v 39, .c (.int .i64 3)] 1 <|
(.lt (some (.v 47, true)) (.eqs [0, 0, 0, 0, 0]) [.v 20, .v 21, .v 22, .v 23, .v 24, .v 40, .v 41, .v 42, .v 43, .v 44] 1 <|
(.lt (some (.v 47, true)) .not [.v 48] 1 <|
(.lt (some (.v 47, true)) .id [.v 49] 1 <|
(.call (some (.v 50, false)) 82 [.v 25, .v 26, .v 45, .v 46] 1 [] <|
(.lt (some (.v 50, false)) .not [.v 51] 1 <|
(.lt (some (.v 47, true)) .pick [.v 50, .c (.bool true), .v 52] 1 <|
(.lt none .pick [.v 47, .v 53, .c (.bool false)] 1 <|
(.ite (.v 54)
(.leaf .ret [.c (.bool false)] ())
(.lt none (.bin .add) [.v 29, .c (.int .i64 1)] 1 <|
(.leaf .cont [.v 55] ()))))))))))))))))))
(.leaf (.yield 5) [] ())))) <|
(.lt none (.bin .add) [.v 12, .c (.int .i64 1)] 1 <|
(.leaf .cont [.v 29] ()))))))))))))
(.leaf (.yield 3) [] ())))) <|
(.lt none (.bin .add) [.v 4, .c (.int .i64 1)] 1 <|
(.leaf .cont [.v 12] ())))))))
(.leaf (.yield 1) [] ())))) <|
(.leaf .ret [.c (.bool true)] ())))
def tm110 : Tm Unit :=
(.lt none (.mk 1 0) [] 1 <|
(.call none 111 [.v 0, .v 1, .v 2] 1 [] <|
(.leaf .ret [.v 3] ())))
def tm111 : Tm Unit :=
(.lt none .len [.v 1] 1 <|
(.bind 1
(.loop [.c (.int .i64 0), .v 2]
(.lt none (.bin .lss) [.v 4, .v 3] 1 <|
(.ite (.v 6)
(.lt none .inb [.v 1, .v 4] 0 <|
(.lt none (.row 1 0 [false]) [.v 1, .v 4] 1 <|
(.lt none .len [.v 7] 1 <|
(.bind 3
(.loop [.c (.int .i64 0), .v 5]
(.lt none (.bin .lss) [.v 9, .v 8] 1 <|
(.ite (.v 11)
(.lt none .inb [.v 7, .v 9] 0 <|
(.lt none (.row 10 0 [true, true, true, true, true, true, true, true, true, false]) [.v 7, .v 9] 10 <|
(.lt none (.bin .add) [.v 9, .c (.int .i64 1)] 1 <|
(.call none 112 [.v 4, .v 22, .v 12, .v 13, .v 14, .v 15, .v 16, .v 17, .v 18, .v 19, .v 20, .v 21, .v 10] 1 [] <|
(.lt none (.bin .add) [.v 9, .c (.int .i64 1)] 1 <|
(.leaf .cont [.v 24, .v 23] ()))))))
(.leaf (.yield 3) [.v 10] ())))) <|
(.lt none (.bin .add) [.v 4, .c (.int .i64 1)] 1 <|
(.leaf .cont [.v 10, .v 9] ()))))))
(.leaf (.yield 1) [.v 5] ())))) <|
(.leaf .ret [.v 4] ())))
def tm112 : Tm Unit :=
(.lt none (.bin .eql) [.v 4, .c (.int .i64 3)] 1 <|
(.ite (.v 13)
(.lt none (.mk 1 2) [.v 0, .v 1] 1 <|
(.lt none (.mk 1 1) [.v 14] 1 <|
(.lt none (.app 1 24 false) [.v 12, .v 15] 1 <|
(.leaf .ret [.v 16] ()))))
(.leaf .ret [.v 12] ())))
def tm113 : Tm Unit :=
(.lt none .inb [.v 1, .v 2] 0 <|
(.lt none (.row 1 0 [false]) [.v 1, .v 2] 1 <|
(.lt none .len [.v 4] 1 <|
(.lt none (.bin .leq) [.v 3, .v 5] 1 <|
(.ite (.v 6)
(.lt none .inb [.v 1, .v 2] 0 <|
(.lt none (.row 1 0 [false]) [.v 1, .v 2] 1 <|
(.lt none (.bin .sub) [.v 3, .c (.int .i64 1)] 1 <|
(.lt none .inb [.v 7, .v 8] 0 <|
(.lt none (.row 10 0 [true, true, true, true, true, true, true, true, true, false]) [.v 7, .v 8] 10 <|
(.call none 114 [.v 9, .v 10, .v 11, .v 12, .v 13, .v 14, .v 15, .v 16, .v 17, .v 18] 10 [] <|
(.leaf .ret [.v 19, .v 20, .v 21, .v 22, .v 23, .v 24, .v 25, .v 26, .v 27, .v 28] ())))))))
(.call none 81 [.v 0] 2 [] <|
(.leaf .ret [.c (.int .i64 0), .c (.int .i64 0), .c (.int .i64 0), .c (.int .i64 0), .c (.int .i64 0), .c (.int .i64 0), .c (.int .i64 0), .c (.int .i64 0), .v 7, .v 8] ())))))))
def tm114 : Tm Unit :=
(.call none 72 [.v 8, .v 9] 2 [] <|
(.leaf .ret [.v 0, .v 1, .v 2, .v 3, .v 4, .v 5, .v 6, .v 7, .v 10, .v 11] ()))
def tm115 : Tm Unit :=
(.lt none .len [.v 0] 1 <|
(.call none 116 [.v 3] 2 [] <|
(.lt none .len [.v 0] 1 <|
(.bind 1
(.loop [.c (.int .i64 0), .v 4, .v 5]
(.lt none (.bin .lss) [.v 7, .v 6] 1 <|
(.ite (.v 10)
(.lt none .inb [.v 0, .v 7] 0 <|
(.lt none (.row 4 0 [true, true, false, false]) [.v 0, .v 7] 4 <|
(.call none 110 [.v 12, .v 13] 1 [] <|
(.lt none .len [.v 15] 1 <|
(.bind 3
(.loop [.c (.int .i64 0), .v 8, .v 9]
(.lt none (.bin .lss) [.v 17, .v 16] 1 <|
(.ite (.v 20)
(.lt none .inb [.v 15, .v 17] 0 <|
(.lt none (.row 1 0 [false]) [.v 15, .v 17] 1 <|
(.lt none .inb [.v 21, .c (.int .i64 0)] 0 <|
(.lt none (.row 1 0 [true]) [.v 21, .c (.int .i64 0)] 1 <|
(.lt none .inb [.v 21, .c (.int .i64 1)] 0 <|
(.lt none (.row 1 0 [true]) [.v 21, .c (.int .i64 1)] 1 <|
(.call none 113 [.v 12, .v 13, .v 22, .v 23] 10 [] <|
(.lt none .inb [.v 21, .c (.int .i64 0)] 0 <|
(.lt none (.row 1 0 [true]) [.v 21, .c (.int .i64 0)] 1 <|
(.lt none .inb [.v 21, .c (.int .i64 1)] 0 <|
(.lt none (.row 1 0 [true]) [.v 21, .c (.int .i64 1)] 1 <|
(.call none 117 [.v 34, .v 35, .c (.int .i64 0), .c (.int .i64 0), .v 26, .v 27, .v 28, .v 29, .v 30, .v 31, .v 32, .v 33, .v 18, .v 19] 2 [] <|
(.lt none (.dep 99) [.v 37] 0 <|
(.lt none (.bin .add) [.v 17, .c (.int .i64 1)] 1 <|
(.leaf .cont [.v 38, .v 36, .v 37] ())))))))))))))))
(.leaf (.yield 3) [.v 18, .v 19] ())))) <|
(.lt none (.bin .add) [.v 7, .c (.int .i64 1)] 1 <|
(.leaf .cont [.v 19, .v 17, .v 18] ())))))))
(.leaf (.yield 1) [.v 8, .v 9] ())))) <|
(.leaf .ret [.v 7, .v 8] ())))))
def tm116 : Tm Unit :=
(.lt none (.make 24 [(.rows 10 [])]) [.v 0] 1 <|
(.leaf .ret [.v 0, .v 1] ()))
def tm117 : Tm Unit :=
(.bind 1
(.loop [.v 13]
(.lt none .inb [.v 14, .v 0] 0 <|
(.lt none (.row 1 0 [false]) [.v 14, .v 0] 1 <|
(.lt none .len [.v 15] 1 <|
(.lt none (.bin .lss) [.v 16, .v 1] 1 <|
(.ite (.v 17)
(.lt none .inb [.v 14, .v 0] 0 <|
(.lt none (.row 1 0 [false]) [.v 14, .v 0] 1 <|
(.call none 81 [.v 12] 2 [] <|
(.lt none (.mk 10 1) [.c (.int .i64 0), .c (.int .i64 0), .c (.int .i64 0), .c (.int .i64 0), .c (.int .i64 0), .c (.int .i64 0), .c (.int .i64 0), .c (.int .i64 0), .v 19, .v 20] 1 <|
(.lt none (.set 1 0 1) [.v 14, .v 0, .c .hole] 1 <|
(.lt none (.app 10 96 false) [.v 18, .v 21] 1 <|
(.lt none .inb [.v 22, .v 0] 0 <|
(.lt none (.set 1 0 1) [.v 22, .v 0, .v 23] 1 <|
(.leaf .cont [.v 24] ())))))))))
(.leaf (.yield 1) [.v 14] ()))))))) <|
(.lt none .inb [.v 14, .v 0] 0 <|
(.lt none (.row 1 0 [false]) [.v 14, .v 0] 1 <|
(.lt none (.bin .sub) [.v 1, .c (.int .i64 1)] 1 <|
(.call none 114 [.v 2, .v 3, .v 4, .v 5, .v 6, .v 7, .v 8, .v 9, .v 10, .v 11] 10 [] <|
(.lt none .inb [.v 15, .v 16] 0 <|
(.lt none (.set 10 0 10) [.v 15, .v 16, .v 17, .v 18, .v 19, .v 20, .v 21, .v 22, .v 23, .v 24, .v 25, .v 26] 1 <|
(.lt none (.set 1 0 1) [.v 14, .v 0, .v 27] 1 <|
(.leaf .ret [.v 12, .v 28] ())))))))))
def tm118 : Tm Unit :=
(.lt none (.bin .neq) [.v 0, .v 2] 1 <|
(.ite (.v 4)
(.leaf .ret [.c (.bool false)] ())
(.call none 119 [.v 1, .v 3] 1 [] <|
(.lt none .not [.v 5] 1 <|
(.ite (.v 6)
(.leaf .ret [.c (.bool false)] ())
(.leaf .ret [.c (.bool true)] ()))))))
def tm119 : Tm Unit :=
(.lt none .len [.v 0] 1 <|
(.lt none .len [.v 1] 1 <|
(.lt none (.bin .neq) [.v 2, .v 3] 1 <|
(.ite (.v 4)
(.leaf .ret [.c (.bool false)] ())
(.bind 1
(.loop [.c (.int .i64 0)]
(.lt none .len [.v 0] 1 <|
(.lt none (.bin .lss) [.v 5, .v 6] 1 <|
(.ite (.v 7)
(.lt none .inb [.v 0, .v 5] 0 <|
(.lt none (.row 1 0 [false]) [.v 0, .v 5] 1 <|
(.lt none .inb [.v 1, .v 5] 0 <|
(.lt none (.row 1 0 [false]) [.v 1, .v 5] 1 <|
(.call none 120 [.v 8, .v 9] 1 [] <|
(.lt none .not [.v 10] 1 <|
(.ite (.v 11)
(.leaf .ret [.c (.bool false)] ())
(.lt none (.bin .add) [.v 5, .c (.int .i64 1)] 1 <|
(.leaf .cont [.v 12] ())))))))))
(.leaf (.yield 1) [] ()))))) <|
(.leaf .ret [.c (.bool true)] ()))))))
def tm120 : Tm Unit :=
(.lt none .len [.v 0] 1 <|
(.lt none .len [.v 1] 1 <|
(.lt none (.bin .neq) [.v 2, .v 3] 1 <|
(.ite (.v 4)
(.leaf .ret [.c (.bool false)] ())
(.bind 1
(.loop [.c (.int .i64 0)]
(.lt none .len [.v 0] 1 <|
(.lt none (.bin .lss) [.v 5, .v 6] 1 <|
(.ite (.v 7)
(.lt none .inb [.v 0, .v 5] 0 <|
(.lt none (.row 10 0 [true, true, true, true, true, true, true, true, true, false]) [.v 0, .v 5] 10 <|
(.lt none .inb [.v 1, .v 5] 0 <|
(.lt none (.row 10 0 [true, true, true, true, true, true, true, true, true, false]) [.v 1, .v 5] 10 <|
(.call none 121 [.v 8, .v 9, .v 10, .v 11, .v 12, .v 13, .v 14, .v 15, .v 16, .v 17, .v 18, .v 19, .v 20, .v 21, .v 22, .v 23, .v 24, .v 25, .v 26, .v 27] 1 [] <|
(.lt none .not [.v 28] 1 <|
(.ite (.v 29)
(.leaf .ret [.c (.bool false)] ())
(.lt none (.bin .add) [.v 5, .c (.int .i64 1)] 1 <|
(.leaf .cont [.v 30] ())))))))))
(.leaf (.yield 1) [] ()))))) <|
(.leaf .ret [.c (.bool true)] ()))))))
def tm121 : Tm Unit :=
(.lt none (.bin .neq) [.v 0, .v 10] 1 <|
(.ite (.v 20)
(.leaf .ret [.c (.bool false)] ())
(.lt none (.bin .neq) [.v 1, .v 11] 1 <|
(.ite (.v 21)
(.leaf .ret [.c (.bool false)] ())
(.lt none (.bin .neq) [.v 2, .v 12] 1 <|
(.ite (.v 22)
(.leaf .ret [.c (.bool false)] ())
(.call none 122 [.v 3, .v 4, .v 5, .v 6, .v 7, .v 13, .v 14, .v 15, .v 16, .v 17] 1 [] <|
(.lt none .not [.v 23] 1 <|
(.ite (.v 24)
(.leaf .ret [.c (.bool false)] ())
(.call none 123 [.v 8, .v 9, .v 18, .v 19] 1 [] <|
(.lt none .not [.v 25] 1 <|
(.ite (.v 26)
(.leaf .ret [.c (.bool false)] ())
(.leaf .ret [.c (.bool true)] ())))))))))))))
def tm122 : Tm Unit :=
(.lt none (.bin .neq) [.v 0, .v 5] 1 <|
(.ite (.v 10)
(.leaf .ret [.c (.bool false)] ())
(.lt none (.bin .neq) [.v 1, .v 6] 1 <|
(.ite (.v 11)
(.leaf .ret [.c (.bool false)] ())
(.lt none (.bin .neq) [.v 2, .v 7] 1 <|
(.ite (.v 12)
(.leaf .ret [.c (.bool false)] ())
(.lt none (.bin .neq) [.v 3, .v 8] 1 <|
(.ite (.v 13)
(.leaf .ret [.c (.bool false)] ())
(.lt none (.bin .neq) [.v 4, .v 9] 1 <|
(.ite (.v 14)
(.leaf .ret [.c (.bool false)] ())
(.leaf .ret [.c (.bool true)] ())))))))))))
def tm123 : Tm Unit :=
(.lt none (.bin .neq) [.v 0, .v 2] 1 <|
(.ite (.v 4)
(.leaf .ret [.c (.bool false)] ())
(.call none 124 [.v 1, .v 3] 1 [] <|
(.lt none .not [.v 5] 1 <|
(.ite (.v 6)
(.leaf .ret [.c (.bool false)] ())
(.leaf .ret [.c (.bool true)] ()))))))
def tm124 : Tm Unit :=
(.lt none .len [.v 0] 1 <|
(.lt none .len [.v 1] 1 <|
(.lt none (.bin .neq) [.v 2, .v 3] 1 <|
(.ite (.v 4)
(.leaf .ret [.c (.bool false)] ())
(.bind 1
(.loop [.c (.int .i64 0)]
(.lt none .len [.v 0] 1 <|
(.lt none (.bin .lss) [.v 5, .v 6] 1 <|
(.ite (.v 7)
(.lt none .inb [.v 0, .v 5] 0 <|
(.lt none (.row 1 0 [true]) [.v 0, .v 5] 1 <|
(.lt none .inb [.v 1, .v 5] 0 <|
(.lt none (.row 1 0 [true]) [.v 1, .v 5] 1 <|
(.lt none (.bin .neq) [.v 8, .v 9] 1 <|
(.ite (.v 10)
(.leaf .ret [.c (.bool false)] ())
(.lt none (.bin .add) [.v 5, .c (.int .i64 1)] 1 <|
(.leaf .cont [.v 11] ()))))))))
(.leaf (.yield 1) [] ()))))) <|
(.leaf .ret [.c (.bool true)] ()))))))
def tm125 : Tm Unit :=
(.call none 126 [.v 0, .v 3] 1 [] <|
(.lt none .not [.v 6] 1 <|
(.ite (.v 7)
(.leaf .ret [.c (.bool false)] ())
(.call none 130 [.v 1, .v 4] 1 [] <|
(.lt none .not [.v 8] 1 <|
(.ite (.v 9)
(.leaf .ret [.c (.bool false)] ())
(.call none 132 [.v 2, .v 5] 1 [] <|
(.lt none .not [.v 10] 1 <|
(.ite (.v 11)
(.leaf .ret [.c (.bool false)] ())
(.leaf .ret [.c (.bool true)] ()))))))))))
def tm126 : Tm Unit :=
(.lt none .len [.v 0] 1 <|
(.lt none .len [.v 1] 1 <|
(.lt none (.bin .neq) [.v 2, .v 3] 1 <|
(.ite (.v 4)
(.leaf .ret [.c (.bool false)] ())
(.bind 1
(.loop [.c (.int .i64 0)]
(.lt none .len [.v 0] 1 <|
(.lt none (.bin .lss) [.v 5, .v 6] 1 <|
(.ite (.v 7)
(.lt none .inb [.v 0, .v 5] 0 <|
(.lt none (.row 4 0 [true, true, false, false]) [.v 0, .v 5] 4 <|
(.lt none .inb [.v 1, .v 5] 0 <|
(.lt none (.row 4 0 [true, true, false, false]) [.v 1, .v 5] 4 <|
(.call none 127 [.v 8, .v 9, .v 10, .v 11, .v 12, .v 13, .v 14, .v 15] 1 [] <|
(.lt none .not [.v 16] 1 <|
(.ite (.v 17)
(.leaf .ret [.c (.bool false)] ())
(.lt none (.bin .add) [.v 5, .c (.int .i64 1)] 1 <|
(.leaf .cont [.v 18] ())))))))))
(.leaf (.yield 1) [] ()))))) <|
(.leaf .ret [.c (.bool true)] ()))))))
def tm127 : Tm Unit :=
(.lt none (.bin .neq) [.v 0, .v 4] 1 <|
(.ite (.v 8)
(.leaf .ret [.c (.bool false)] ())
(.call none 118 [.v 1, .v 2, .v 5, .v 6] 1 [] <|
(.lt none .not [.v 9] 1 <|
(.ite (.v 10)
(.leaf .ret [.c (.bool false)] ())
(.call none 128 [.v 3, .v 7] 1 [] <|
(.lt none .not [.v 11] 1 <|
(.ite (.v 12)
(.leaf .ret [.c (.bool false)] ())
(.leaf .ret [.c (.bool true)] ())))))))))
def tm128 : Tm Unit :=
(.lt none .len [.v 0] 1 <|
(.lt none .len [.v 1] 1 <|
(.lt none (.bin .neq) [.v 2, .v 3] 1 <|
(.ite (.v 4)
(.leaf .ret [.c (.bool false)] ())
(.bind 1
(.loop [.c (.int .i64 0)]
(.lt none .len [.v 0] 1 <|
(.lt none (.bin .lss) [.v 5, .v 6] 1 <|
(.ite (.v 7)
(.lt none .inb [.v 0, .v 5] 0 <|
(.lt none (.row 16 0 [true, true, true, true, true, true, true, true, true, true, false, true, false, true, false, false]) [.v 0, .v 5] 16 <|
(.lt none .inb [.v 1, .v 5] 0 <|
(.lt none (.row 16 0 [true, true, true, true, true, true, true, true, true, true, false, true, false, true, false, false]) [.v 1, .v 5] 16 <|
(.call none 129 [.v 8, .v 9, .v 10, .v 11, .v 12, .v 13, .v 14, .v 15, .v 16, .v 17, .v 18, .v 19, .v 20, .v 21, .v 22, .v 23, .v 24, .v 25, .v 26, .v 27, .v 28, .v 29, .v 30, .v 31, .v 32, .v 33, .v 34, .v 35, .v 36, .v 37, .v 38, .v 39] 1 [] <|
(.lt none .not [.v 40] 1 <|
(.ite (.v 41)
(.leaf .ret [.c (.bool false)] ())
(.lt none (.bin .add) [.v 5, .c (.int .i64 1)] 1 <|
(.leaf .cont [.v 42] ())))))))))
(.leaf (.yield 1) [] ()))))) <|
(.leaf .ret [.c (.bool true)] ()))))))
def tm129 : Tm Unit :=
(.lt none (.bin .neq) [.v 0, .v 16] 1 <|
(.ite (.v 32)
(.leaf .ret [.c (.bool false)] ())
(.lt none (.bin .neq) [.v 1, .v 17] 1 <|
(.ite (.v 33)
(.leaf .ret [.c (.bool false)] ())
(.lt none (.bin .neq) [.v 2, .v 18] 1 <|
(.ite (.v 34)
(.leaf .ret [.c (.bool false)] ())
(.lt none (.bin .neq) [.v 3, .v 19] 1 <|
(.ite (.v 35)
(.leaf .ret [.c (.bool false)] ())
(.call none 122 [.v 4, .v 5, .v 6, .v 7, .v 8, .v 20, .v 21, .v 22, .v 23, .v 24] 1 [] <|
(.lt none .not [.v 36] 1 <|
(.ite (.v 37)
(.leaf .ret [.c (.bool false)] ())
(.call none 123 [.v 9, .v 10, .v 25, .v 26] 1 [] <|
(.lt none .not [.v 38] 1 <|
(.ite (.v 39)
(.leaf .ret [.c (.bool false)] ())
(.call none 123 [.v 11, .v 12, .v 27, .v 28] 1 [] <|
(.lt none .not [.v 40] 1 <|
(.ite (.v 41)
(.leaf .ret [.c (.bool false)] ())
(.lt none (.eqb true) [.v 13, .v 29] 1 <|
(.ite (.v 42)
(.leaf .ret [.c (.bool false)] ())
(.call none 124 [.v 14, .v 30] 1 [] <|
(.lt none .not [.v 43] 1 <|
(.ite (.v 44)
(.leaf .ret [.c (.bool false)] ())
(.call none 120 [.v 15, .v 31] 1 [] <|
(.lt none .not [.v 45] 1 <|
(.ite (.v 46)
(.leaf .ret [.c (.bool false)] ())
(.leaf .ret [.c (.bool true)] ()))))))))))))))))))))))))))
def tm130 : Tm Unit :=
(.lt none .len [.v 0] 1 <|
(.lt none .len [.v 1] 1 <|
(.lt none (.bin .neq) [.v 2, .v 3] 1 <|
(.ite (.v 4)
(.leaf .ret [.c (.bool false)] ())
(.bind 1
(.loop [.c (.int .i64 0)]
(.lt none .len [.v 0] 1 <|
(.lt none (.bin .lss) [.v 5, .v 6] 1 <|
(.ite (.v 7)
(.lt none .inb [.v 0, .v 5] 0 <|
(.lt none (.row 15 0 [true, true, true, true, true, true, true, true, true, true, true, true, true, true, false]) [.v 0, .v 5] 15 <|
(.lt none .inb [.v 1, .v 5] 0 <|
(.lt none (.row 15 0 [true, true, true, true, true, true, true, true, true, true, true, true, true, true, false]) [.v 1, .v 5] 15 <|
(.call none 131 [.v 8, .v 9, .v 10, .v 11, .v 12, .v 13, .v 14, .v 15, .v 16, .v 17, .v 18, .v 19, .v 20, .v 21, .v 22, .v 23, .v 24, .v 25, .v 26, .v 27, .v 28, .v 29, .v 30, .v 31, .v 32, .v 33, .v 34, .v 35, .v 36, .v 37] 1 [] <|
(.lt none .not [.v 38] 1 <|
(.ite (.v 39)
(.leaf .ret [.c (.bool false)] ())
(.lt none (.bin .add) [.v 5, .c (.int .i64 1)] 1 <|
(.leaf .cont [.v 40] ())))))))))
(.leaf (.yield 1) [] ()))))) <|
(.leaf .ret [.c (.bool true)] ()))))))
def tm131 : Tm Unit :=
(.lt none (.bin .neq) [.v 0, .v 15] 1 <|
(.ite (.v 30)
(.leaf .ret [.c (.bool false)] ())
(.lt none (.bin .neq) [.v 1, .v 16] 1 <|
(.ite (.v 31)
(.leaf .ret [.c (.bool false)] ())
(.lt none (.bin .neq) [.v 2, .v 17] 1 <|
(.ite (.v 32)
(.leaf .ret [.c (.bool false)] ())
(.lt none (.bin .neq) [.v 3, .v 18] 1 <|
(.ite (.v 33)
(.leaf .ret [.c (.bool false)] ())
(.lt none (.bin .neq) [.v 4, .v 19] 1 <|
(.ite (.v 34)
(.leaf .ret [.c (.bool false)] ())
(.lt none (.bin .neq) [.v 5, .v 20] 1 <|
(.ite (.v 35)
(.leaf .ret [.c (.bool false)] ())
(.lt none (.bin .neq) [.v 6, .v 21] 1 <|
(.ite (.v 36)
(.leaf .ret [.c (.bool false)] ())
(.lt none (.bin .neq) [.v 7, .v 22] 1 <|
(.ite (.v 37)
(.leaf .ret [.c (.bool false)] ())
(.call none 122 [.v 8, .v 9, .v 10, .v 11, .v 12, .v 23, .v 24, .v 25, .v 26, .v 27] 1 [] <|
(.lt none .not [.v 38] 1 <|
(.ite (.v 39)
(.leaf .ret [.c (.bool false)] ())
(.call none 123 [.v 13, .v 14, .v 28, .v 29] 1 [] <|
(.lt none .not [.v 40] 1 <|
(.ite (.v 41)
(.leaf .ret [.c (.bool false)] ())
(.leaf .ret [.c (.bool true)] ())))))))))))))))))))))))
def tm132 : Tm Unit :=
(.lt none .len [.v 0] 1 <|
(.lt none .len [.v 1] 1 <|
(.lt none (.bin .neq) [.v 2, .v 3] 1 <|
(.ite (.v 4)
(.leaf .ret [.c (.bool false)] ())
(.bind 1
(.loop [.c (.int .i64 0)]
(.lt none .len [.v 0] 1 <|
(.lt none (.bin .lss) [.v 5, .v 6] 1 <|
(.ite (.v 7)
(.lt none .inb [.v 0, .v 5] 0 <|
(.lt none (.row 7 0 [true, true, true, true, true, true, true]) [.v 0, .v 5] 7 <|
(.lt none .inb [.v 1, .v 5] 0 <|
(.lt none (.row 7 0 [true, true, true, true, true, true, true]) [.v 1, .v 5] 7 <|
(.call none 133 [.v 8, .v 9, .v 10, .v 11, .v 12, .v 13, .v 14, .v 15, .v 16, .v 17, .v 18, .v 19, .v 20, .v 21] 1 [] <|
(.lt none .not [.v 22] 1 <|
(.ite (.v 23)
(.leaf .ret [.c (.bool false)] ())
(.lt none (.bin .add) [.v 5, .c (.int .i64 1)] 1 <|
(.leaf .cont [.v 24] ())))))))))
(.leaf (.yield 1) [] ()))))) <|
(.leaf .ret [.c (.bool true)] ()))))))
def tm133 : Tm Unit :=
(.lt none (.bin .neq) [.v 0, .v 7] 1 <|
(.ite (.v 14)
(.leaf .ret [.c (.bool false)] ())
(.lt none (.bin .neq) [.v 1, .v 8] 1 <|
(.ite (.v 15)
(.leaf .ret [.c (.bool false)] ())
(.call none 122 [.v 2, .v 3, .v 4, .v 5, .v 6, .v 9, .v 10, .v 11, .v 12, .v 13] 1 [] <|
(.lt none .not [.v 16] 1 <|
(.ite (.v 17)
(.leaf .ret [.c (.bool false)] ())
(.leaf .ret [.c (.bool true)] ()))))))))
def tm134 : Tm Unit :=
(.call none 135 [.v 0, .v 3] 2 [] <|
(.call none 140 [.v 1, .v 4] 2 [] <|
(.call none 141 [.v 2, .v 6] 2 [] <|
(.leaf .ret [.v 8, .v 5, .v 7, .v 9] ()))))
def tm135 : Tm Unit :=
(.bind 1
(.loop [.v 0, .c .undef, .v 1, .c (.int .i64 0)]
(.lt none .len [.v 2] 1 <|
(.lt none (.bin .lss) [.v 5, .v 6] 1 <|
(.ite (.v 7)
(.lt none .inb [.v 2, .v 5] 0 <|
(.lt none (.set 4 0 1) [.v 2, .v 5, .v 4] 1 <|
(.lt none (.bin .add) [.v 4, .c (.int .i64 1)] 1 <|
(.lt none .inb [.v 8, .v 5] 0 <|
(.lt none (.set 4 1 1) [.v 8, .v 5, .v 9] 1 <|
(.lt none (.bin .add) [.v 9, .c (.int .i64 1)] 1 <|
(.lt none .inb [.v 10, .v 5] 0 <|
(.lt none (.row 4 2 [false]) [.v 10, .v 5] 1 <|
(.call none 136 [.v 12, .v 11] 2 [] <|
(.lt none (.set 4 2 1) [.v 10, .v 5, .v 14] 1 <|
(.lt none .inb [.v 15, .v 5] 0 <|
(.lt none (.row 4 3 [false]) [.v 15, .v 5] 1 <|
(.call none 139 [.v 16, .v 13] 2 [] <|
(.lt none (.set 4 3 1) [.v 15, .v 5, .v 18] 1 <|
(.lt none (.bin .add) [.v 5, .c (.int .i64 1)] 1 <|
(.leaf .cont [.v 19, .c .undef, .v 17, .v 20] ()))))))))))))))))
(.leaf (.yield 1) [.v 2, .v 4] ()))))) <|
(.leaf .ret [.v 3, .v 2] ()))
def tm136 : Tm Unit :=
(.bind 1
(.loop [.v 0, .c .undef, .v 1, .c (.int .i64 0)]
(.lt none .len [.v 2] 1 <|
(.lt none (.bin .lss) [.v 5, .v 6] 1 <|
(.ite (.v 7)
(.lt none .inb [.v 2, .v 5] 0 <|
(.lt none (.row 1 0 [false]) [.v 2, .v 5] 1 <|
(.call none 137 [.v 8, .v 4] 2 [] <|
(.lt none (.set 1 0 1) [.v 2, .v 5, .v 10] 1 <|
(.lt none (.bin .add) [.v 5, .c (.int .i64 1)] 1 <|
(.leaf .cont [.v 11, .c .undef, .v 9, .v 12] ()))))))
(.leaf (.yield 1) [.v 2, .v 4] ()))))) <|
(.leaf .ret [.v 3, .v 2] ()))
def tm137 : Tm Unit :=
(.bind 1
(.loop [.v 0, .c .undef, .v 1, .c (.int .i64 0)]
(.lt none .len [.v 2] 1 <|
(.lt none (.bin .lss) [.v 5, .v 6] 1 <|
(.ite (.v 7)
(.lt none .inb [.v 2, .v 5] 0 <|
(.lt none (.set 10 0 1) [.v 2, .v 5, .v 4] 1 <|
(.lt none (.bin .add) [.v 4, .c (.int .i64 1)] 1 <|
(.lt none .inb [.v 8, .v 5] 0 <|
(.lt none (.set 10 1 1) [.v 8, .v 5, .v 9] 1 <|
(.lt none (.bin .add) [.v 9, .c (.int .i64 1)] 1 <|
(.lt none .inb [.v 10, .v 5] 0 <|
(.lt none (.set 10 2 1) [.v 10, .v 5, .v 11] 1 <|
(.lt none (.bin .add) [.v 11, .c (.int .i64 1)] 1 <|
(.lt none .inb [.v 12, .v 5] 0 <|
(.lt none (.set 10 3 1) [.v 12, .v 5, .v 13] 1 <|
(.lt none (.bin .add) [.v 13, .c (.int .i64 1)] 1 <|
(.lt none .inb [.v 14, .v 5] 0 <|
(.lt none (.set 10 4 1) [.v 14, .v 5, .v 15] 1 <|
(.lt none (.bin .add) [.v 15, .c (.int .i64 1)] 1 <|
(.lt none .inb [.v 16, .v 5] 0 <|
(.lt none (.set 10 5 1) [.v 16, .v 5, .v 17] 1 <|
(.lt none (.bin .add) [.v 17, .c (.int .i64 1)] 1 <|
(.lt none .inb [.v 18, .v 5] 0 <|
(.lt none (.set 10 6 1) [.v 18, .v 5, .v 19] 1 <|
(.lt none (.bin .add) [.v 19, .c (.int .i64 1)] 1 <|
(.lt none .inb [.v 20, .v 5] 0 <|
(.lt none (.set 10 7 1) [.v 20, .v 5, .v 21] 1 <|
(.lt none (.bin .add) [.v 21, .c (.int .i64 1)] 1 <|
(.lt none .inb [.v 22, .v 5] 0 <|
(.lt none (.set 10 8 1) [.v 22, .v 5, .v 23] 1 <|
(.lt none (.bin .add) [.v 23, .c (.int .i64 1)] 1 <|
(.lt none .inb [.v 24, .v 5] 0 <|
(.lt none (.row 10 9 [false]) [.v 24, .v 5] 1 <|
(.call none 138 [.v 26, .v 25] 2 [] <|
(.lt none (.set 10 9 1) [.v 24, .v 5, .v 28] 1 <|
(.lt none (.bin .add) [.v 5, .c (.int .i64 1)] 1 <|
(.leaf .cont [.v 29, .c .undef, .v 27, .v 30] ())))))))))))))))))))))))))))))))))
(.leaf (.yield 1) [.v 2, .v 4] ()))))) <|
(.leaf .ret [.v 3, .v 2] ()))
def tm138 : Tm Unit :=
(.bind 1
(.loop [.v 0, .c .undef, .v 1, .c (.int .i64 0)]
(.lt none .len [.v 2] 1 <|
(.lt none (.bin .lss) [.v 5, .v 6] 1 <|
(.ite (.v 7)
(.lt none .inb [.v 2, .v 5] 0 <|
(.lt none (.set 1 0 1) [.v 2, .v 5, .v 4] 1 <|
(.lt none (.bin .add) [.v 4, .c (.int .i64 1)] 1 <|
(.lt none (.bin .add) [.v 5, .c (.int .i64 1)] 1 <|
(.leaf .cont [.v 8, .c .undef, .v 9, .v 10] ())))))
(.leaf (.yield 1) [.v 2, .v 4] ()))))) <|
(.leaf .ret [.v 3, .v 2] ()))
def tm139 : Tm Unit :=
(.bind 1
(.loop [.v 0, .c .undef, .v 1, .c (.int .i64 0)]
(.lt none .len [.v 2] 1 <|
(.lt none (.bin .lss) [.v 5, .v 6] 1 <|
(.ite (.v 7)
(.lt none .inb [.v 2, .v 5] 0 <|
(.lt none (.set 16 0 1) [.v 2, .v 5, .v 4] 1 <|
(.lt none (.bin .add) [.v 4, .c (.int .i64 1)] 1 <|
(.lt none .inb [.v 8, .v 5] 0 <|
(.lt none (.set 16 1 1) [.v 8, .v 5, .v 9] 1 <|
(.lt none (.bin .add) [.v 9, .c (.int .i64 1)] 1 <|
(.lt none .inb [.v 10, .v 5] 0 <|
(.lt none (.set 16 2 1) [.v 10, .v 5, .v 11] 1 <|
(.lt none (.bin .add) [.v 11, .c (.int .i64 1)] 1 <|
(.lt none .inb [.v 12, .v 5] 0 <|
(.lt none (.set 16 3 1) [.v 12, .v 5, .v 13] 1 <|
(.lt none (.bin .add) [.v 13, .c (.int .i64 1)] 1 <|
(.lt none .inb [.v 14, .v 5] 0 <|
(.lt none (.set 16 4 1) [.v 14, .v 5, .v 15] 1 <|
(.lt none (.bin .add) [.v 15, .c (.int .i64 1)] 1 <|
(.lt none .inb [.v 16, .v 5] 0 <|
(.lt none (.set 16 5 1) [.v 16, .v 5, .v 17] 1 <|
(.lt none (.bin .add) [.v 17, .c (.int .i64 1)] 1 <|
(.lt none .inb [.v 18, .v 5] 0 <|
(.lt none (.set 16 6 1) [.v 18, .v 5, .v 19] 1 <|
(.lt none (.bin .add) [.v 19, .c (.int .i64 1)] 1 <|
(.lt none .inb [.v 20, .v 5] 0 <|
(.lt none (.set 16 7 1) [.v 20, .v 5, .v 21] 1 <|
(.lt none (.bin .add) [.v 21, .c (.int .i64 1)] 1 <|
(.lt none .inb [.v 22, .v 5] 0 <|
(.lt none (.set 16 8 1) [.v 22, .v 5, .v 23] 1 <|
(.lt none (.bin .add) [.v 23, .c (.int .i64 1)] 1 <|
(.lt none .inb [.v 24, .v 5] 0 <|
(.lt none (.set 16 9 1) [.v 24, .v 5, .v 25] 1 <|
(.lt none (.bin .add) [.v 25, .c (.int .i64 1)] 1 <|
(.lt none .inb [.v 26, .v 5] 0 <|
(.lt none (.row 16 10 [false]) [.v 26, .v 5] 1 <|
(.call none 138 [.v 28, .v 27] 2 [] <|
(.lt none (.dep 1) [.v 30] 0 <|
(.lt none (.set 16 10 1) [.v 26, .v 5, .v 30] 1 <|
(.lt none .inb [.v 31, .v 5] 0 <|
(.lt none (.set 16 11 1) [.v 31, .v 5, .v 29] 1 <|
(.lt none (.bin .add) [.v 29, .c (.int .i64 1)] 1 <|
(.lt none .inb [.v 32, .v 5] 0 <|
(.lt none (.row 16 12 [false]) [.v 32, .v 5] 1 <|
(.call none 138 [.v 34, .v 33] 2 [] <|
(.lt none (.dep 1) [.v 36] 0 <|
(.lt none (.set 16 12 1) [.v 32, .v 5, .v 36] 1 <|
(.lt none (.bin .rem) [.v 35, .c (.int .i64 3)] 1 <|
(.lt none (.bin .eql) [.v 38, .c (.int .i64 0)] 1 <|
(.lt none .inb [.v 37, .v 5] 0 <|
(.lt none (.set 16 13 1) [.v 37, .v 5, .v 39] 1 <|
(.lt none (.bin .add) [.v 35, .c (.int .i64 1)] 1 <|
(.lt none .inb [.v 40, .v 5] 0 <|
(.lt none (.row 16 14 [false]) [.v 40, .v 5] 1 <|
(.call none 138 [.v 42, .v 41] 2 [] <|
(.lt none (.dep 1) [.v 44] 0 <|
(.lt none (.set 16 14 1) [.v 40, .v 5, .v 44] 1 <|
(.lt none .inb [.v 45, .v 5] 0 <|
(.lt none (.row 16 15 [false]) [.v 45, .v 5] 1 <|
(.call none 137 [.v 46, .v 43] 2 [] <|
(.lt none (.set 16 15 1) [.v 45, .v 5, .v 48] 1 <|
(.lt none (.bin .add) [.v 5, .c (.int .i64 1)] 1 <|
(.leaf .cont [.v 49, .c .undef, .v 47, .v 50] ())))))))))))))))))))))))))))))))))))))))))))))))))))))))))))
(.leaf (.yield 1) [.v 2, .v 4] ()))))) <|
(.leaf .ret [.v 3, .v 2] ()))
def tm140 : Tm Unit :=
(.bind 1
(.loop [.v 0, .c .undef, .v 1, .c (.int .i64 0)]
(.lt none .len [.v 2] 1 <|
(.lt none (.bin .lss) [.v 5, .v 6] 1 <|
(.ite (.v 7)
(.lt none .inb [.v 2, .v 5] 0 <|
(.lt none (.set 15 0 1) [.v 2, .v 5, .v 4] 1 <|
(.lt none (.bin .add) [.v 4, .c (.int .i64 1)] 1 <|
(.lt none .inb [.v 8, .v 5] 0 <|
(.lt none (.set 15 1 1) [.v 8, .v 5, .v 9] 1 <|
(.lt none (.bin .add) [.v 9, .c (.int .i64 1)] 1 <|
(.lt none .inb [.v 10, .v 5] 0 <|
(.lt none (.set 15 2 1) [.v 10, .v 5, .v 11] 1 <|
(.lt none (.bin .add) [.v 11, .c (.int .i64 1)] 1 <|
(.lt none .inb [.v 12, .v 5] 0 <|
(.lt none (.set 15 3 1) [.v 12, .v 5, .v 13] 1 <|
(.lt none (.bin .add) [.v 13, .c (.int .i64 1)] 1 <|
(.lt none .inb [.v 14, .v 5] 0 <|
(.lt none (.set 15 4 1) [.v 14, .v 5, .v 15] 1 <|
(.lt none (.bin .add) [.v 15, .c (.int .i64 1)] 1 <|
(.lt none .inb [.v 16, .v 5] 0 <|
(.lt none (.set 15 5 1) [.v 16, .v 5, .v 17] 1 <|
(.lt none (.bin .add) [.v 17, .c (.int .i64 1)] 1 <|
(.lt none .inb [.v 18, .v 5] 0 <|
(.lt none (.set 15 6 1) [.v 18, .v 5, .v 19] 1 <|
(.lt none (.bin .add) [.v 19, .c (.int .i64 1)] 1 <|
(.lt none .inb [.v 20, .v 5] 0 <|
(.lt none (.set 15 7 1) [.v 20, .v 5, .v 21] 1 <|
(.lt none (.bin .add) [.v 21, .c (.int .i64 1)] 1 <|
(.lt none .inb [.v 22, .v 5] 0 <|
(.lt none (.set 15 8 1) [.v 22, .v 5, .v 23] 1 <|
(.lt none (.bin .add) [.v 23, .c (.int .i64 1)] 1 <|
(.lt none .inb [.v 24, .v 5] 0 <|
(.lt none (.set 15 9 1) [.v 24, .v 5, .v 25] 1 <|
(.lt none (.bin .add) [.v 25, .c (.int .i64 1)] 1 <|
(.lt none .inb [.v 26, .v 5] 0 <|
(.lt none (.set 15 10 1) [.v 26, .v 5, .v 27] 1 <|
(.lt none (.bin .add) [.v 27, .c (.int .i64 1)] 1 <|
(.lt none .inb [.v 28, .v 5] 0 <|
(.lt none (.set 15 11 1) [.v 28, .v 5, .v 29] 1 <|
(.lt none (.bin .add) [.v 29, .c (.int .i64 1)] 1 <|
(.lt none .inb [.v 30, .v 5] 0 <|
(.lt none (.set 15 12 1) [.v 30, .v 5, .v 31] 1 <|
(.lt none (.bin .add) [.v 31, .c (.int .i64 1)] 1 <|
(.lt none .inb [.v 32, .v 5] 0 <|
(.lt none (.set 15 13 1) [.v 32, .v 5, .v 33] 1 <|
(.lt none (.bin .add) [.v 33, .c (.int .i64 1)] 1 <|
(.lt none .inb [.v 34, .v 5] 0 <|
(.lt none (.row 15 14 [false]) [.v 34, .v 5] 1 <|
(.call none 138 [.v 36, .v 35] 2 [] <|
(.lt none (.set 15 14 1) [.v 34, .v 5, .v 38] 1 <|
(.lt none (.bin .add) [.v 5, .c (.int .i64 1)] 1 <|
(.leaf .cont [.v 39, .c .undef, .v 37, .v 40] ()))))))))))))))))))))))))))))))))))))))))))))))))
(.leaf (.yield 1) [.v 2, .v 4] ()))))) <|
(.leaf .ret [.v 3, .v 2] ()))
def tm141 : Tm Unit :=
(.bind 1
(.loop [.v 0, .c .undef, .v 1, .c (.int .i64 0)]
(.lt none .len [.v 2] 1 <|
(.lt none (.bin .lss) [.v 5, .v 6] 1 <|
(.ite (.v 7)
(.lt none .inb [.v 2, .v 5] 0 <|
(.lt none (.set 7 0 1) [.v 2, .v 5, .v 4] 1 <|
(.lt none (.bin .add) [.v 4, .c (.int .i64 1)] 1 <|
(.lt none .inb [.v 8, .v 5] 0 <|
(.lt none (.set 7 1 1) [.v 8, .v 5, .v 9] 1 <|
(.lt none (.bin .add) [.v 9, .c (.int .i64 1)] 1 <|
(.lt none .inb [.v 10, .v 5] 0 <|
(.lt none (.set 7 2 1) [.v 10, .v 5, .v 11] 1 <|
(.lt none (.bin .add) [.v 11, .c (.int .i64 1)] 1 <|
(.lt none .inb [.v 12, .v 5] 0 <|
(.lt none (.set 7 3 1) [.v 12, .v 5, .v 13] 1 <|
(.lt none (.bin .add) [.v 13, .c (.int .i64 1)] 1 <|
(.lt none .inb [.v 14, .v 5] 0 <|
(.lt none (.set 7 4 1) [.v 14, .v 5, .v 15] 1 <|
(.lt none (.bin .add) [.v 15, .c (.int .i64 1)] 1 <|
(.lt none .inb [.v 16, .v 5] 0 <|
(.lt none (.set 7 5 1) [.v 16, .v 5, .v 17] 1 <|
(.lt none (.bin .add) [.v 17, .c (.int .i64 1)] 1 <|
(.lt none .inb [.v 18, .v 5] 0 <|
(.lt none (.set 7 6 1) [.v 18, .v 5, .v 19] 1 <|
(.lt none (.bin .add) [.v 19, .c (.int .i64 1)] 1 <|
(.lt none (.bin .add) [.v 5, .c (.int .i64 1)] 1 <|
(.leaf .cont [.v 20, .c .undef, .v 21, .v 22] ())))))))))))))))))))))))
(.leaf (.yield 1) [.v 2, .v 4] ()))))) <|
(.leaf .ret [.v 3, .v 2] ()))
def tm142 : Tm Unit :=
(.call none 136 [.v 1, .v 2] 2 [] <|
(.leaf .ret [.v 3, .v 4] ()))
def tm143 : Tm Unit :=
(.call none 144 [.v 1, .v 2] 1 [] <|
(.lt none (.bin .lss) [.v 3, .c (.int .i64 0)] 1 <|
(.ite (.v 4)
(.leaf .ret [.c (.int .i64 (-1))] ())
(.leaf .ret [.v 3] ()))))
def tm144 : Tm Unit :=
(.bind 1
(.loop [.v 1, .c (.int .i64 0)]
(.lt none .len [.v 0] 1 <|
(.lt none (.bin .lss) [.v 3, .v 4] 1 <|
(.ite (.v 5)
(.lt none .inb [.v 0, .v 3] 0 <|
(.lt none (.row 1 0 [false]) [.v 0, .v 3] 1 <|
(.call none 145 [.v 6, .v 2] 1 [] <|
(.lt none (.bin .lss) [.v 7, .c (.int .i64 0)] 1 <|
(.ite (.v 8)
(.leaf .ret [.c (.int .i64 (-1))] ())
(.lt none (.bin .add) [.v 3, .c (.int .i64 1)] 1 <|
(.leaf .cont [.v 7, .v 9] ())))))))
(.leaf (.yield 1) [.v 2] ()))))) <|
(.leaf .ret [.v 2] ()))
def tm145 : Tm Unit :=
(.bind 1
(.loop [.v 1, .c (.int .i64 0)]
(.lt none .len [.v 0] 1 <|
(.lt none (.bin .lss) [.v 3, .v 4] 1 <|
(.ite (.v 5)
(.lt none .inb [.v 0, .v 3] 0 <|
(.lt none (.row 10 0 [true]) [.v 0, .v 3] 1 <|
(.lt none (.bin .neq) [.v 6, .v 2] 1 <|
(.ite (.v 7)
(.leaf .ret [.c (.int .i64 (-1))] ())
(.lt none (.bin .add) [.v 2, .c (.int .i64 1)] 1 <|
(.lt none .inb [.v 0, .v 3] 0 <|
(.lt none (.row 10 1 [true]) [.v 0, .v 3] 1 <|
(.lt none (.bin .neq) [.v 9, .v 8] 1 <|
(.ite (.v 10)
(.leaf .ret [.c (.int .i64 (-1))] ())
(.lt none (.bin .add) [.v 8, .c (.int .i64 1)] 1 <|
(.lt none .inb [.v 0, .v 3] 0 <|
(.lt none (.row 10 2 [true]) [.v 0, .v 3] 1 <|
(.lt none (.bin .neq) [.v 12, .v 11] 1 <|
(.ite (.v 13)
(.leaf .ret [.c (.int .i64 (-1))] ())
(.lt none (.bin .add) [.v 11, .c (.int .i64 1)] 1 <|
(.lt none .inb [.v 0, .v 3] 0 <|
(.lt none (.row 10 3 [true]) [.v 0, .v 3] 1 <|
(.lt none (.bin .neq) [.v 15, .v 14] 1 <|
(.ite (.v 16)
(.leaf .ret [.c (.int .i64 (-1))] ())
(.lt none (.bin .add) [.v 14, .c (.int .i64 1)] 1 <|
(.lt none .inb [.v 0, .v 3] 0 <|
(.lt none (.row 10 4 [true]) [.v 0, .v 3] 1 <|
(.lt none (.bin .neq) [.v 18, .v 17] 1 <|
(.ite (.v 19)
(.leaf .ret [.c (.int .i64 (-1))] ())
(.lt none (.bin .add) [.v 17, .c (.int .i64 1)] 1 <|
(.lt none .inb [.v 0, .v 3] 0 <|
(.lt none (.row 10 5 [true]) [.v 0, .v 3] 1 <|
(.lt none (.bin .neq) [.v 21, .v 20] 1 <|
(.ite (.v 22)
(.leaf .ret [.c (.int .i64 (-1))] ())
(.lt none (.bin .add) [.v 20, .c (.int .i64 1)] 1 <|
(.lt none .inb [.v 0, .v 3] 0 <|
(.lt none (.row 10 6 [true]) [.v 0, .v 3] 1 <|
(.lt none (.bin .neq) [.v 24, .v 23] 1 <|
(.ite (.v 25)
(.leaf .ret [.c (.int .i64 (-1))] ())
(.lt none (.bin .add) [.v 23, .c (.int .i64 1)] 1 <|
(.lt none .inb [.v 0, .v 3] 0 <|
(.lt none (.row 10 7 [true]) [.v 0, .v 3] 1 <|
(.lt none (.bin .neq) [.v 27, .v 26] 1 <|
(.ite (.v 28)
(.leaf .ret [.c (.int .i64 (-1))] ())
(.lt none (.bin .add) [.v 26, .c (.int .i64 1)] 1 <|
(.lt none .inb [.v 0, .v 3] 0 <|
(.lt none (.row 10 8 [true]) [.v 0, .v 3] 1 <|
(.lt none (.bin .neq) [.v 30, .v 29] 1 <|
(.ite (.v 31)
(.leaf .ret [.c (.int .i64 (-1))] ())
(.lt none (.bin .add) [.v 29, .c (.int .i64 1)] 1 <|
(.lt none .inb [.v 0, .v 3] 0 <|
(.lt none (.row 10 9 [false]) [.v 0, .v 3] 1 <|
(.call none 146 [.v 33, .v 32] 1 [] <|
(.lt none (.bin .lss) [.v 34, .c (.int .i64 0)] 1 <|
(.ite (.v 35)
(.leaf .ret [.c (.int .i64 (-1))] ())
(.lt none (.bin .add) [.v 3, .c (.int .i64 1)] 1 <|
(.leaf .cont [.v 34, .v 36] ()))))))))))))))))))))))))))))))))))))))))))))))))))))
(.leaf (.yield 1) [.v 2] ()))))) <|
(.leaf .ret [.v 2] ()))
def tm146 : Tm Unit :=
(.bind 1
(.loop [.v 1, .c (.int .i64 0)]
(.lt none .len [.v 0] 1 <|
(.lt none (.bin .lss) [.v 3, .v 4] 1 <|
(.ite (.v 5)
(.lt none .inb [.v 0, .v 3] 0 <|
(.lt none (.row 1 0 [true]) [.v 0, .v 3] 1 <|
(.lt none (.bin .neq) [.v 6, .v 2] 1 <|
(.ite (.v 7)
(.leaf .ret [.c (.int .i64 (-1))] ())
(.lt none (.bin .add) [.v 2, .c (.int .i64 1)] 1 <|
(.lt none (.bin .add) [.v 3, .c (.int .i64 1)] 1 <|
(.leaf .cont [.v 8, .v 9] ())))))))
(.leaf (.yield 1) [.v 2] ()))))) <|
(.leaf .ret [.v 2] ()))
theorem cl73 : ∀ n, Contract Tryz.prog (entTab [(73, .tm tm73)]) n 73 sg73 := fun n => contracts tiL_ok (by kernel_rfl) (fnOk_all (List.forall_mem_cons.2 ⟨fnOk_tm (E := ⟨tiTab tiL, [(73, sg73)], 0, 0, false, false, [], []⟩) Tryz.func155 (by kernel_rfl) (tm := tm73) (by kernel_rfl) (by kernel_rfl), List.forall_mem_nil _⟩)) n 73 sg73 (by simp)
def ren73 : Go.Shelf.Ren := ⟨fun | 41 => 155 | n => n, fun | 4 => 4 | 22 => 58 | 23 => 3 | n => n, fun n => n⟩
theorem lays73 : Go.Proofs.SlLaysE0.n41 Tryz.prog ren73 := { mixed := by kernel_rfl, f41 := ⟨Tryz.f155.name, by kernel_rfl, Tryz.func155.trans (congrArg some (by kernel_rfl))⟩, t4 := Tryz.underlying4, a4 := Tryz.isAgg4, z4 := Tryz.sizeOf4, v4 := Tryz.zeroValue4, t22 := Tryz.underlying58, a22 := Tryz.isAgg58, z22 := Tryz.sizeOf58, v22 := Tryz.zeroValue58 }
noncomputable def ex73 : List D → Option (List D) := cloneE 1 (entTab [(73, .tm tm73)]) 73

noncomputable def T : Nat → Ent := entTab [(0, .tm tm0), (1, .tm tm1), (2, .tm tm2), (3, .tm tm3), (4, .tm tm4), (5, .tm tm5), (6, .tm tm6), (7, .tm tm7), (8, .tm tm8), (9, .tm tm9), (10, .tm tm10), (11, .tm tm11), (12, .tm tm12), (13, .tm tm13), (14, .tm tm14), (15, .tm tm15), (16, .tm tm16), (17, .tm tm17), (18, .tm tm18), (19, .tm tm19), (20, .tm tm20), (21, .tm tm21), (22, .tm tm22), (23, .tm tm23), (24, .tm tm24), (25, .tm tm25), (26, .tm tm26), (27, .tm tm27), (28, .tm tm28), (29, .tm tm29), (30, .tm tm30), (31, .tm tm31), (32, .tm tm32), (33, .tm tm33), (34, .tm tm34), (35, .tm tm35), (36, .tm tm36), (37, .tm tm37), (38, .tm tm38), (39, .tm tm39), (40, .tm tm40), (41, .tm tm41), (42, .tm tm42), (43, .tm tm43), (44, .tm tm44), (45, .tm tm45), (46, .tm tm46), (47, .tm tm47), (48, .tm tm48), (49, .tm tm49), (50, .tm tm50), (51, .tm tm51), (52, .tm tm52), (53, .tm tm53), (54, .tm tm54), (55, .tm tm55), (56, .tm tm56), (57, .tm tm57), (58, .tm tm58), (59, .tm tm59), (60, .tm tm60), (61, .tm tm61), (62, .tm tm62), (63, .tm tm63), (64, .tm tm64), (65, .tm tm65), (66, .tm tm66), (67, .tm tm67), (68, .tm tm68), (69, .tm tm69), (70, .tm tm70), (71, .tm tm71), (72, .tm tm72), (73, .ext ex73), (74, .tm tm74), (75, .tm tm75), (76, .tm tm76), (77, .tm tm77), (78, .tm tm78), (79, .tm tm79), (80, .tm tm80), (81, .tm tm81), (82, .tm tm82), (83, .tm tm83), (84, .tm tm84), (85, .tm tm85), (86, .tm tm86), (87, .tm tm87), (88, .tm tm88), (89, .tm tm89), (90, .tm tm90), (91, .tm tm91), (92, .tm tm92), (93, .tm tm93), (94, .tm tm94), (95, .tm tm95), (96, .tm tm96), (97, .tm tm97), (98, .tm tm98), (99, .tm tm99), (100, .tm tm100), (101, .tm tm101), (102, .tm tm102), (103, .tm tm103), (104, .tm tm104), (105, .tm tm105), (106, .tm tm106), (107, .tm tm107), (108, .tm tm108), (109, .tm tm109), (110, .tm tm110), (111, .tm tm111), (112, .tm tm112), (113, .tm tm113), (114, .tm tm114), (115, .tm tm115), (116, .tm tm116), (117, .tm tm117), (118, .tm tm118), (119, .tm tm119), (120, .tm tm120), (121, .tm tm121), (122, .tm tm122), (123, .tm tm123), (124, .tm tm124), (125, .tm tm125), (126, .tm tm126), (127, .tm tm127), (128, .tm tm128), (129, .tm tm129), (130, .tm tm130), (131, .tm tm131), (132, .tm tm132), (133, .tm tm133), (134, .tm tm134), (135, .tm tm135), (136, .tm tm136), (137, .tm tm137), (138, .tm tm138), (139, .tm tm139), (140, .tm tm140), (141, .tm tm141), (142, .tm tm142), (143, .tm tm143), (144, .tm tm144), (145, .tm tm145), (146, .tm tm146)]
abbrev K := FnOk Tryz.prog T (tiTab tiL) sigs
theorem o73 : FnOk Tryz.prog T (tiTab tiL) sigs 73 sg73 := clone_ent (m := 98) lays73 rfl (by kernel_rfl) Tryz.sizeOf3 cl73 rfl
theorem o0 : K 0 sg0 := fnK (E := E0) (tm := tm0) Tryz.func8 (by kernel_rfl)
theorem o1 : K 1 sg1 := fnK (E := E0) (tm := tm1) Tryz.func9 (by kernel_rfl)
theorem o2 : K 2 sg2 := fnK (E := E0) (tm := tm2) Tryz.func36 (by kernel_rfl)
theorem o3 : K 3 sg3 := fnK (E := E0) (tm := tm3) Tryz.func18 (by kernel_rfl)
theorem o4 : K 4 sg4 := fnK (E := E0) (tm := tm4) Tryz.func61 (by kernel_rfl)
theorem o5 : K 5 sg5 := fnK (E := E0) (tm := tm5) Tryz.func109 (by kernel_rfl)
theorem o6 : K 6 sg6 := fnK (E := E0) (tm := tm6) Tryz.func149 (by kernel_rfl)
theorem o7 : K 7 sg7 := fnK (E := E0) (tm := tm7) Tryz.func165 (by kernel_rfl)
theorem o8 : K 8 sg8 := fnK (E := E0) (tm := tm8) Tryz.func124 (by kernel_rfl)
theorem o9 : K 9 sg9 := fnK (E := E0) (tm := tm9) Tryz.func150 (by kernel_rfl)
theorem o10 : K 10 sg10 := fnK (E := E0) (tm := tm10) Tryz.func62 (by kernel_rfl)
theorem o11 : K 11 sg11 := fnK (E := E0) (tm := tm11) Tryz.func110 (by kernel_rfl)
theorem o12 : K 12 sg12 := fnK (E := E0) (tm := tm12) Tryz.func37 (by kernel_rfl)
theorem o13 : K 13 sg13 := fnK (E := E0) (tm := tm13) Tryz.func80 (by kernel_rfl)
theorem o14 : K 14 sg14 := fnK (E := E0) (tm := tm14) Tryz.func38 (by kernel_rfl)
theorem o15 : K 15 sg15 := fnK (E := E0) (tm := tm15) Tryz.func11 (by kernel_rfl)
theorem o16 : K 16 sg16 := fnK (E := E0) (tm := tm16) Tryz.func43 (by kernel_rfl)
theorem o17 : K 17 sg17 := fnK (E := E0) (tm := tm17) Tryz.func20 (by kernel_rfl)
theorem o18 : K 18 sg18 := fnK (E := E0) (tm := tm18) Tryz.func64 (by kernel_rfl)
theorem o19 : K 19 sg19 := fnK (E := E0) (tm := tm19) Tryz.func113 (by kernel_rfl)
theorem o20 : K 20 sg20 := fnK (E := E0) (tm := tm20) Tryz.func152 (by kernel_rfl)
theorem o21 : K 21 sg21 := fnK (E := E0) (tm := tm21) Tryz.func167 (by kernel_rfl)
theorem o22 : K 22 sg22 := fnK (E := E0) (tm := tm22) Tryz.func130 (by kernel_rfl)
theorem o23 : K 23 sg23 := fnK (E := E0) (tm := tm23) Tryz.func131 (by kernel_rfl)
theorem o24 : K 24 sg24 := fnK (E := E0) (tm := tm24) Tryz.func153 (by kernel_rfl)
theorem o25 : K 25 sg25 := fnK (E := E0) (tm := tm25) Tryz.func65 (by kernel_rfl)
theorem o26 : K 26 sg26 := fnK (E := E0) (tm := tm26) Tryz.func114 (by kernel_rfl)
theorem o27 : K 27 sg27 := fnK (E := E0) (tm := tm27) Tryz.func44 (by kernel_rfl)
theorem o28 : K 28 sg28 := fnK (E := E0) (tm := tm28) Tryz.func89 (by kernel_rfl)
theorem o29 : K 29 sg29 := fnK (E := E0) (tm := tm29) Tryz.func45 (by kernel_rfl)
theorem o30 : K 30 sg30 := fnK (E := E0) (tm := tm30) Tryz.func90 (by kernel_rfl)
theorem o31 : K 31 sg31 := fnK (E := E0) (tm := tm31) Tryz.func31 (by kernel_rfl)
theorem o32 : K 32 sg32 := fnK (E := E0) (tm := tm32) Tryz.func10 (by kernel_rfl)
theorem o33 : K 33 sg33 := fnK (E := E0) (tm := tm33) Tryz.func39 (by kernel_rfl)
theorem o34 : K 34 sg34 := fnK (E := ⟨tiTab tiL, sigs, 0, 0, false, false, [], [(7, [(117, 0, 0, 0)], [0, 3, 18, 27, 30, 33, 78, 81, 96, 99, 111, 114, 117, 25], 304, [1, 4, 7, 10, 13, 16, 19, 22, 25, 28, 31, 34, 37, 40, 43, 46, 49, 52, 55, 58, 61, 64, 67, 70, 73, 76, 79, 82, 85, 88, 91, 94, 97, 100, 103, 106, 109, 112, 115, 118, 121, 124, 127, 130, 133, 136, 139, 142, 145, 148, 151, 154, 157, 160, 163, 166, 169, 172, 175, 178, 181, 184, 187, 190]), (2, [(33, 0, 0, 0)], [0, 3, 27, 30, 33], 849, [])]⟩) (tm := tm34) Tryz.func40 (by kernel_rfl)
theorem o35 : K 35 sg35 := fnK (E := E0) (tm := tm35) Tryz.func81 (by kernel_rfl)
theorem o36 : K 36 sg36 := fnK (E := E0) (tm := tm36) Tryz.func70 (by kernel_rfl)
theorem o37 : K 37 sg37 := fnK (E := E0) (tm := tm37) Tryz.func82 (by kernel_rfl)
theorem o38 : K 38 sg38 := fnK (E := E0) (tm := tm38) Tryz.func125 (by kernel_rfl)
theorem o39 : K 39 sg39 := fnK (E := E0) (tm := tm39) Tryz.func157 (by kernel_rfl)
theorem o40 : K 40 sg40 := fnK (E := E0) (tm := tm40) Tryz.func41 (by kernel_rfl)
theorem o41 : K 41 sg41 := fnK (E := ⟨tiTab tiL, sigs, 0, 0, false, false, [], [(7, [(84, 0, 0, 0)], [3, 12, 60, 63, 66, 78, 81, 84, 1], 192, [1, 4, 7, 10, 13, 16, 19, 22, 25, 28, 31, 34, 37, 40, 43, 46, 49, 52, 55, 58, 61, 64, 67, 70, 73, 76, 79, 82, 85, 88, 91, 94, 97, 100, 103, 106, 109, 112, 115, 118, 121, 124, 127, 130, 133, 136, 139, 142, 145, 148, 151, 154, 157, 160, 163, 166, 169, 172, 175, 178, 181, 184, 187, 190, 193, 196, 199, 202, 205, 208, 211, 214, 217, 220, 223, 226, 229, 232, 235, 238, 241, 244, 247, 250, 253, 256, 259, 262, 265, 268, 271, 274, 277, 280, 283, 286, 289, 292, 295, 298, 301, 304, 307, 310, 313, 316, 319, 322, 325, 328, 331, 334, 337, 340, 343, 346, 349, 352, 355, 358, 361, 364, 367, 370, 373, 376, 379, 382, 385, 388, 391, 394, 397, 400, 403, 406, 409, 412, 415, 418, 421, 424, 427, 430, 433, 436, 439, 442, 445, 448, 451, 454, 457, 460, 463, 466, 469, 472, 475, 478, 481, 484, 487, 490, 493, 496, 499, 502, 505, 508, 511, 514, 517, 520, 523, 526, 529, 532, 535, 538, 541, 544, 547, 550, 553, 556, 559, 562, 565, 568, 571, 574, 577, 580, 583, 586, 589, 592, 595, 598, 601, 604, 607, 610, 613, 616, 619, 622, 625, 628, 631, 634, 637, 640, 643, 646, 649, 652, 655, 658, 661, 664, 667, 670, 673, 676, 679, 682, 685, 688, 691, 694, 697, 700, 703, 706, 709, 712, 715, 718, 721, 724, 727, 730, 733, 736, 739, 742, 745, 748, 751, 754, 757, 760, 763, 766, 769, 772, 775, 778, 781, 784, 787, 790, 793, 796, 799, 802, 805, 808, 811, 814, 817, 820, 823, 826, 829, 832, 835, 838, 841, 844, 847, 850, 853, 856, 859, 862]), (4, [(66, 0, 0, 0)], [3, 60, 63, 66, 1], 401, [])]⟩) (tm := tm41) Tryz.func83 (by kernel_rfl)
theorem o42 : K 42 sg42 := fnK (E := E0) (tm := tm42) Tryz.func85 (by kernel_rfl)
theorem o43 : K 43 sg43 := fnK (E := E0) (tm := tm43) Tryz.func88 (by kernel_rfl)
theorem o44 : K 44 sg44 := fnK (E := E0) (tm := tm44) Tryz.func87 (by kernel_rfl)
theorem o45 : K 45 sg45 := fnK (E := E0) (tm := tm45) Tryz.func129 (by kernel_rfl)
theorem o46 : K 46 sg46 := fnK (E := E0) (tm := tm46) Tryz.func86 (by kernel_rfl)
theorem o47 : K 47 sg47 := fnK (E := E0) (tm := tm47) Tryz.func128 (by kernel_rfl)
theorem o48 : K 48 sg48 := fnK (E := ⟨tiTab tiL, sigs, 0, 0, false, false, [], [(4, [(165, 0, 0, 0)], [0, 15, 159, 162, 165, 1], 256, [])]⟩) (tm := tm48) Tryz.func84 (by kernel_rfl)
theorem o49 : K 49 sg49 := fnK (E := E0) (tm := tm49) Tryz.func126 (by kernel_rfl)
theorem o50 : K 50 sg50 := fnK (E := E0) (tm := tm50) Tryz.func127 (by kernel_rfl)
theorem o51 : K 51 sg51 := fnK (E := E0) (tm := tm51) Tryz.func42 (by kernel_rfl)
theorem o52 : K 52 sg52 := fnK (E := ⟨tiTab tiL, sigs, 0, 0, false, false, [], [(8, [(96, 0, 0, 0)], [3, 12, 18, 36, 39, 42, 66, 69, 72, 90, 93, 96, 1, 31, 67], 736, [1, 4, 7, 10, 13, 16, 19, 22, 25, 28, 31, 34, 37, 40, 43, 46, 49, 52, 55, 58, 61, 64, 67, 70, 73, 76, 79, 82, 85, 88, 91, 94, 97, 100, 103, 106, 109, 112, 115, 118, 121, 124, 127, 130, 133, 136, 139, 142, 145, 148, 151, 154, 157, 160, 163, 166, 169, 172, 175, 178, 181, 184, 187, 190, 193, 196, 199, 202, 205, 208, 211, 214, 217, 220, 223, 226, 229, 232, 235, 238, 241, 244, 247, 250, 253, 256, 259, 262, 265, 268, 271, 274, 277, 280, 283, 286, 289, 292, 295, 298, 301, 304, 307, 310, 313, 316, 319, 322, 325, 328, 331, 334, 337, 340, 343, 346, 349, 352, 355, 358, 361, 364, 367, 370, 373, 376, 379, 382, 385, 388, 391, 394, 397, 400, 403, 406, 409, 412, 415, 418, 421, 424, 427, 430, 433, 436, 439, 442, 445, 448, 451, 454, 457, 460, 463, 466, 469, 472, 475, 478, 481, 484, 487, 490, 493, 496, 499, 502, 505, 508, 511, 514, 517, 520, 523, 526, 529, 532, 535, 538, 541, 544, 547, 550, 553, 556, 559, 562, 565, 568, 571, 574, 577, 580, 583, 586, 589, 592, 595, 598, 601, 604, 607, 610, 613, 616, 619, 622, 625, 628, 631, 634, 637, 640, 643, 646, 649, 652, 655, 658, 661, 664, 667, 670, 673, 676, 679, 682, 685, 688, 691, 694, 697, 700, 703, 706, 709, 712, 715, 718, 721, 724, 727, 730, 733, 736, 739, 742, 745, 748, 751, 754, 757, 760, 763, 766, 769, 772, 775, 778, 781, 784, 787, 790, 793, 796, 799, 802, 805, 808, 811, 814, 817, 820, 823, 826, 829, 832, 835, 838, 841, 844, 847, 850, 853, 856, 859, 862, 865, 868, 871, 874, 877, 880, 883, 886, 889, 892, 895, 898, 901, 904, 907, 910, 913, 916, 919, 922, 925, 928, 931, 934, 937, 940, 943, 946, 949, 952, 955, 958, 961, 964, 967, 970, 973, 976, 979, 982, 985, 988, 991, 994, 997, 1000, 1003, 1006, 1009, 1012, 1015, 1018, 1021, 1024, 1027, 1030, 1033, 1036, 1039, 1042, 1045, 1048, 1051, 1054, 1057, 1060, 1063, 1066, 1069, 1072, 1075, 1078, 1081, 1084, 1087, 1090, 1093, 1096, 1099, 1102, 1105, 1108, 1111, 1114, 1117, 1120, 1123, 1126, 1129, 1132, 1135, 1138, 1141, 1144, 1147, 1150, 1153, 1156, 1159, 1162, 1165, 1168, 1171, 1174, 1177, 1180, 1183, 1186, 1189, 1192, 1195, 1198, 1201, 1204, 1207, 1210, 1213, 1216, 1219, 1222, 1225, 1228, 1231, 1234, 1237, 1240, 1243, 1246, 1249, 1252, 1255, 1258, 1261, 1264, 1267, 1270, 1273, 1276, 1279, 1282, 1285, 1288, 1291, 1294, 1297, 1300, 1303, 1306, 1309, 1312, 1315, 1318, 1321, 1324, 1327, 1330, 1333, 1336, 1339, 1342, 1345, 1348, 1351, 1354, 1357, 1360, 1363, 1366, 1369, 1372, 1375, 1378, 1381, 1384, 1387, 1390, 1393, 1396, 1399, 1402, 1405, 1408, 1411, 1414, 1417, 1420, 1423, 1426, 1429, 1432, 1435, 1438, 1441, 1444, 1447, 1450, 1453, 1456, 1459, 1462, 1465, 1468, 1471, 1474, 1477, 1480, 1483, 1486, 1489, 1492, 1495, 1498, 1501, 1504, 1507, 1510, 1513, 1516, 1519, 1522, 1525, 1528, 1531, 1534, 1537, 1540, 1543, 1546, 1549, 1552, 1555, 1558, 1561, 1564, 1567, 1570, 1573, 1576, 1579, 1582, 1585, 1588, 1591, 1594, 1597, 1600, 1603, 1606, 1609, 1612, 1615, 1618, 1621, 1624, 1627, 1630, 1633, 1636, 1639, 1642, 1645, 1648, 1651, 1654, 1657, 1660, 1663, 1666, 1669, 1672, 1675, 1678, 1681, 1684, 1687, 1690, 1693, 1696, 1699, 1702, 1705, 1708, 1711, 1714, 1717, 1720, 1723, 1726, 1729, 1732, 1735, 1738, 1741, 1744, 1747, 1750, 1753, 1756, 1759, 1762, 1765, 1768, 1771, 1774, 1777, 1780, 1783, 1786, 1789, 1792, 1795, 1798, 1801, 1804, 1807, 1810, 1813, 1816, 1819, 1822, 1825, 1828, 1831, 1834, 1837, 1840, 1843, 1846, 1849, 1852, 1855, 1858, 1861, 1864, 1867, 1870, 1873, 1876, 1879, 1882, 1885, 1888, 1891, 1894, 1897, 1900, 1903, 1906, 1909, 1912, 1915, 1918, 1921, 1924, 1927, 1930, 1933, 1936, 1939, 1942, 1945, 1948, 1951, 1954, 1957, 1960, 1963, 1966, 1969, 1972, 1975, 1978, 1981, 1984, 1987, 1990, 1993, 1996, 1999, 2002, 2005, 2008, 2011, 2014, 2017, 2020, 2023, 2026, 2029, 2032, 2035, 2038, 2041, 2044, 2047, 2050, 2053, 2056, 2059, 2062, 2065, 2068, 2071, 2074, 2077, 2080, 2083, 2086, 2089, 2092, 2095, 2098, 2101, 2104, 2107, 2110, 2113, 2116, 2119, 2122, 2125, 2128, 2131, 2134, 2137, 2140, 2143, 2146, 2149, 2152, 2155, 2158, 2161, 2164, 2167, 2170, 2173, 2176, 2179, 2182, 2185, 2188, 2191, 2194, 2197, 2200, 2203, 2206, 2209, 2212, 2215, 2218, 2221, 2224, 2227, 2230, 2233, 2236, 2239, 2242, 2245, 2248, 2251, 2254, 2257, 2260, 2263, 2266, 2269, 2272, 2275, 2278, 2281, 2284, 2287, 2290, 2293, 2296, 2299, 2302, 2305, 2308, 2311, 2314, 2317, 2320, 2323, 2326, 2329, 2332, 2335, 2338, 2341, 2344, 2347, 2350, 2353, 2356, 2359, 2362, 2365, 2368, 2371, 2374, 2377, 2380, 2383, 2386, 2389, 2392, 2395, 2398, 2401, 2404, 2407, 2410, 2413, 2416, 2419, 2422, 2425, 2428, 2431, 2434, 2437, 2440, 2443, 2446, 2449, 2452, 2455, 2458, 2461, 2464, 2467, 2470, 2473, 2476, 2479, 2482, 2485, 2488, 2491, 2494, 2497, 2500, 2503, 2506, 2509, 2512, 2515, 2518, 2521, 2524, 2527, 2530, 2533, 2536, 2539, 2542, 2545, 2548, 2551, 2554, 2557, 2560, 2563, 2566, 2569, 2572, 2575, 2578, 2581, 2584, 2587, 2590, 2593, 2596, 2599, 2602, 2605, 2608, 2611, 2614, 2617, 2620, 2623, 2626, 2629, 2632, 2635, 2638, 2641, 2644, 2647, 2650, 2653, 2656, 2659, 2662, 2665, 2668, 2671, 2674, 2677, 2680, 2683, 2686, 2689, 2692, 2695, 2698, 2701, 2704, 2707, 2710, 2713, 2716, 2719, 2722, 2725, 2728, 2731, 2734, 2737, 2740, 2743, 2746, 2749, 2752, 2755, 2758, 2761, 2764, 2767, 2770, 2773, 2776, 2779, 2782, 2785, 2788, 2791, 2794, 2797, 2800, 2803, 2806, 2809, 2812, 2815, 2818, 2821, 2824, 2827, 2830, 2833, 2836, 2839, 2842, 2845, 2848, 2851, 2854, 2857, 2860, 2863, 2866, 2869, 2872, 2875, 2878, 2881, 2884, 2887, 2890, 2893, 2896, 2899, 2902, 2905, 2908, 2911, 2914, 2917, 2920, 2923, 2926, 2929, 2932, 2935, 2938, 2941, 2944, 2947, 2950, 2953, 2956, 2959, 2962, 2965, 2968, 2971, 2974, 2977, 2980, 2983, 2986, 2989, 2992, 2995, 2998, 3001, 3004, 3007, 3010, 3013, 3016, 3019, 3022, 3025, 3028, 3031, 3034, 3037, 3040, 3043, 3046, 3049, 3052, 3055, 3058, 3061, 3064, 3067, 3070, 3073, 3076, 3079, 3082, 3085, 3088, 3091, 3094, 3097, 3100, 3103, 3106, 3109, 3112, 3115, 3118, 3121, 3124, 3127, 3130, 3133, 3136, 3139, 3142, 3145, 3148, 3151, 3154, 3157, 3160, 3163, 3166, 3169, 3172, 3175, 3178, 3181, 3184, 3187, 3190, 3193, 3196, 3199, 3202, 3205, 3208, 3211, 3214, 3217, 3220, 3223, 3226, 3229, 3232, 3235, 3238, 3241, 3244, 3247, 3250, 3253, 3256, 3259, 3262, 3265, 3268, 3271, 3274, 3277, 3280, 3283, 3286, 3289, 3292, 3295, 3298, 3301, 3304, 3307, 3310, 3313, 3316, 3319, 3322, 3325, 3328, 3331, 3334, 3337, 3340, 3343, 3346, 3349, 3352, 3355, 3358, 3361, 3364, 3367, 3370, 3373, 3376, 3379, 3382, 3385, 3388, 3391, 3394, 3397, 3400, 3403, 3406, 3409, 3412, 3415, 3418, 3421, 3424, 3427, 3430, 3433, 3436, 3439, 3442, 3445, 3448, 3451, 3454, 3457, 3460, 3463, 3466, 3469, 3472, 3475, 3478, 3481, 3484, 3487, 3490, 3493, 3496, 3499, 3502, 3505, 3508, 3511, 3514, 3517, 3520, 3523, 3526, 3529, 3532, 3535, 3538, 3541, 3544, 3547, 3550, 3553, 3556, 3559, 3562, 3565, 3568, 3571, 3574, 3577, 3580, 3583, 3586, 3589, 3592, 3595, 3598, 3601, 3604, 3607, 3610, 3613, 3616, 3619, 3622, 3625, 3628, 3631, 3634, 3637, 3640, 3643, 3646, 3649, 3652, 3655, 3658, 3661, 3664, 3667, 3670, 3673, 3676, 3679, 3682, 3685, 3688, 3691, 3694, 3697, 3700, 3703, 3706, 3709, 3712, 3715, 3718, 3721, 3724, 3727, 3730, 3733, 3736, 3739, 3742, 3745, 3748, 3751, 3754, 3757, 3760, 3763, 3766, 3769, 3772, 3775, 3778, 3781, 3784, 3787, 3790, 3793, 3796, 3799, 3802, 3805, 3808, 3811, 3814, 3817, 3820, 3823, 3826, 3829, 3832, 3835, 3838, 3841, 3844, 3847, 3850, 3853, 3856, 3859, 3862, 3865, 3868, 3871, 3874, 3877, 3880, 3883, 3886, 3889, 3892, 3895, 3898, 3901, 3904, 3907, 3910, 3913, 3916, 3919, 3922, 3925, 3928, 3931, 3934, 3937, 3940, 3943, 3946, 3949, 3952, 3955, 3958, 3961, 3964, 3967, 3970, 3973, 3976, 3979, 3982, 3985, 3988, 3991, 3994, 3997, 4000, 4003, 4006, 4009, 4012, 4015, 4018, 4021, 4024, 4027, 4030, 4033, 4036, 4039, 4042, 4045, 4048, 4051, 4054, 4057, 4060, 4063, 4066, 4069, 4072, 4075, 4078, 4081, 4084, 4087, 4090, 4093, 4096, 4099, 4102, 4105, 4108, 4111, 4114, 4117, 4120, 4123, 4126, 4129, 4132, 4135, 4138, 4141, 4144, 4147, 4150, 4153, 4156, 4159, 4162, 4165, 4168, 4171, 4174, 4177, 4180, 4183, 4186, 4189, 4192, 4195, 4198, 4201, 4204, 4207, 4210, 4213, 4216, 4219, 4222, 4225, 4228, 4231, 4234, 4237, 4240, 4243, 4246, 4249, 4252, 4255, 4258, 4261, 4264, 4267, 4270, 4273, 4276, 4279, 4282, 4285, 4288, 4291, 4294, 4297, 4300, 4303, 4306, 4309, 4312, 4315, 4318, 4321, 4324, 4327, 4330, 4333, 4336, 4339, 4342, 4345, 4348, 4351, 4354, 4357, 4360, 4363, 4366, 4369, 4372, 4375, 4378, 4381, 4384, 4387, 4390, 4393, 4396, 4399, 4402, 4405, 4408, 4411, 4414, 4417, 4420, 4423, 4426, 4429, 4432, 4435, 4438, 4441, 4444, 4447, 4450, 4453, 4456, 4459, 4462, 4465, 4468, 4471, 4474, 4477, 4480, 4483, 4486, 4489, 4492, 4495, 4498, 4501, 4504, 4507, 4510, 4513, 4516, 4519, 7696]), (5, [(72, 0, 0, 0)], [3, 12, 36, 39, 42, 66, 69, 72, 1, 31], 945, [1, 4, 7, 10, 13, 16, 19, 22, 25, 28, 31, 34, 37, 40, 43, 46, 49, 52, 55, 58, 61, 64, 67, 70, 73, 76, 79, 82, 85, 88, 91, 94, 97, 100, 103, 106, 109, 112, 115, 118, 121, 124, 127, 130, 133, 136, 139, 142, 145, 148, 151, 154, 157, 160, 163, 166, 169, 172, 175, 178, 181, 184, 187, 190, 193, 196, 199, 202, 205, 208, 211, 214, 217, 220, 223, 226, 229, 232, 235, 238, 241, 244, 247, 250, 253, 256, 259, 262, 265, 268, 271, 274, 277, 280, 283, 286]), (2, [(42, 0, 0, 0)], [3, 36, 39, 42, 1], 1202, [])]⟩) (tm := tm52) Tryz.func59 (by kernel_rfl)
theorem o53 : K 53 sg53 := fnK (E := ⟨tiTab tiL, sigs, 0, 0, false, false, [], [(6, [(9, 0, 2, 99), (54, 0, 0, 0)], [9, 12, 27, 30, 33, 48, 51, 54, 1], 321, [1, 4, 7, 10, 13, 16, 19, 22, 25, 28, 31, 34, 37, 40, 43, 46, 49, 52, 55, 58, 61, 64, 67, 70, 73, 76, 79, 82, 85, 88, 91, 94, 97, 100, 103, 106, 109, 112, 115, 118, 121, 124, 127, 130, 133, 136, 139, 142, 145, 148, 151, 154, 157, 160, 163, 166, 169, 172, 175, 178, 181, 184, 187, 190, 193, 196, 199, 202, 205, 208, 211, 214, 217, 220, 223, 226, 229, 232, 235, 238, 241, 244, 247, 250, 253, 256, 259, 262, 265, 268, 271, 274, 277, 280, 283, 286, 289, 292, 295, 298, 301, 304, 307, 310, 313, 316, 319, 322, 325, 328, 331, 334, 1884]), (3, [(9, 0, 2, 99), (33, 0, 0, 0)], [9, 27, 30, 33, 1], 516, [])]⟩) (tm := tm53) Tryz.func105 (by kernel_rfl)
theorem o54 : K 54 sg54 := fnK (E := E0) (tm := tm54) Tryz.func106 (by kernel_rfl)
theorem o55 : K 55 sg55 := fnK (E := E0) (tm := tm55) Tryz.func112 (by kernel_rfl)
theorem o56 : K 56 sg56 := fnK (E := E0) (tm := tm56) Tryz.func151 (by kernel_rfl)
theorem o57 : K 57 sg57 := fnK (E := E0) (tm := tm57) Tryz.func166 (by kernel_rfl)
theorem o58 : K 58 sg58 := fnK (E := ⟨tiTab tiL, sigs, 0, 0, false, false, [], [(6, [(72, 0, 0, 0), (19, 0, 0, 0), (19, 1, 2, 99)], [6, 9, 15, 42, 45, 48, 66, 69, 72, 1, 4, 19, 46], 496, [1, 4, 7, 10, 13, 16, 19, 22, 25, 28, 31, 34, 37, 40, 43, 46, 49, 52, 55, 58, 61, 64, 67, 70, 73, 76, 79, 82, 85, 88, 91, 94, 97, 100, 103, 106, 109, 112, 115, 118, 121, 124, 127, 130, 133, 136, 139, 142, 145, 148, 151, 154, 157, 160, 163, 166, 169, 172, 175, 178, 181, 184, 187, 190, 193, 196, 199, 202, 205, 208, 211, 214, 217, 220, 223, 226, 229, 232, 235, 238, 241, 244, 247, 250, 253, 256, 259, 262, 265, 268, 271, 274, 277, 280, 283, 286, 289, 292, 295, 298, 301, 304, 307, 310, 313, 316, 319, 322, 325, 328, 331, 334, 337, 340, 343, 346, 349, 352, 355, 358, 361, 364, 367, 370, 373, 376, 379, 382, 385, 388, 391, 394, 397, 400, 403, 406, 409, 412, 415, 418, 421, 424, 427, 430, 433, 436, 439, 442, 445, 448, 451, 454, 457, 460, 463, 466, 469, 472, 475, 478, 481, 484, 487, 490, 493, 496, 499, 502, 505, 508, 511, 514, 517, 520, 523, 526, 529, 532, 535, 538, 541, 544, 547, 550, 553, 556, 559, 562, 565, 568, 571, 574, 2709, 3049]), (3, [(48, 0, 0, 0), (19, 0, 0, 0), (19, 1, 2, 99)], [6, 9, 42, 45, 48, 1, 4, 19], 709, [240])]⟩) (tm := tm58) Tryz.func75 (by kernel_rfl)
theorem o59 : K 59 sg59 := fnK (E := E0) (tm := tm59) Tryz.func111 (by kernel_rfl)
theorem o60 : K 60 sg60 := fnK (E := E0) (tm := tm60) Tryz.func120 (by kernel_rfl)
theorem o61 : K 61 sg61 := fnK (E := ⟨tiTab tiL, sigs, 0, 0, false, false, [], [(6, [(63, 0, 0, 0), (16, 1, 2, 99)], [6, 9, 12, 36, 39, 42, 57, 60, 63, 1, 4, 16], 336, [1, 4, 7, 10, 13, 16, 19, 22, 25, 28, 31, 34, 37, 40, 43, 46, 49, 52, 55, 58, 61, 64, 67, 70, 73, 76, 79, 82, 85, 88, 91, 94, 97, 100, 103, 106, 109, 112, 115, 118, 121, 124, 127, 130, 133, 136, 139, 142, 145, 148, 151, 154, 157, 160, 163, 166, 169, 172, 175, 178, 181, 184, 187, 190, 193, 196, 199, 202, 205, 208, 211, 214, 217, 220, 223, 226, 229, 232, 235, 238, 241, 244, 247, 250, 253, 256, 259, 262, 265, 268, 271, 274, 277, 280, 283, 286, 289, 292, 295, 298, 301, 304, 307, 310, 313, 316, 319, 322, 325, 328, 331, 334, 337, 340, 343, 346, 349, 352, 355, 358, 361, 364, 367, 370, 373, 376, 379, 382, 385, 388, 391, 394, 397, 400, 403, 406, 409, 412, 415, 418, 421, 424, 427, 430, 433, 436, 439, 442, 445, 448, 451, 454, 457, 460, 463, 466, 469, 472, 475, 478, 481, 484, 487, 490, 493, 496, 499, 502, 505, 508, 511, 514, 517, 520, 523, 526, 2124]), (3, [(42, 0, 0, 0), (16, 1, 2, 99)], [6, 9, 36, 39, 42, 1, 4, 16], 531, [192])]⟩) (tm := tm61) Tryz.func63 (by kernel_rfl)
theorem o62 : K 62 sg62 := fnK (E := E0) (tm := tm62) Tryz.func32 (by kernel_rfl)
theorem o63 : K 63 sg63 := fnK (E := E0) (tm := tm63) Tryz.func12 (by kernel_rfl)
theorem o64 : K 64 sg64 := fnK (E := E0) (tm := tm64) Tryz.func46 (by kernel_rfl)
theorem o65 : K 65 sg65 := fnK (E := E0) (tm := tm65) Tryz.func47 (by kernel_rfl)
theorem o66 : K 66 sg66 := fnK (E := E0) (tm := tm66) Tryz.func91 (by kernel_rfl)
theorem o67 : K 67 sg67 := fnK (E := E0) (tm := tm67) Tryz.func48 (by kernel_rfl)
theorem o68 : K 68 sg68 := fnK (E := E0) (tm := tm68) Tryz.func49 (by kernel_rfl)
theorem o69 : K 69 sg69 := fnK (E := E0) (tm := tm69) Tryz.func71 (by kernel_rfl)
theorem o70 : K 70 sg70 := fnK (E := E0) (tm := tm70) Tryz.func51 (by kernel_rfl)
theorem o71 : K 71 sg71 := fnK (E := E0) (tm := tm71) Tryz.func93 (by kernel_rfl)
theorem o72 : K 72 sg72 := fnK (E := E0) (tm := tm72) Tryz.func132 (by kernel_rfl)
theorem o74 : K 74 sg74 := fnK (E := E0) (tm := tm74) Tryz.func92 (by kernel_rfl)
theorem o75 : K 75 sg75 := fnK (E := E0) (tm := tm75) Tryz.func52 (by kernel_rfl)
theorem o76 : K 76 sg76 := fnK (E := E0) (tm := tm76) Tryz.func100 (by kernel_rfl)
theorem o77 : K 77 sg77 := fnK (E := E0) (tm := tm77) Tryz.func94 (by kernel_rfl)
theorem o78 : K 78 sg78 := fnK (E := E0) (tm := tm78) Tryz.func133 (by kernel_rfl)
theorem o79 : K 79 sg79 := fnK (E := E0) (tm := tm79) Tryz.func158 (by kernel_rfl)
theorem o80 : K 80 sg80 := fnK (E := E0) (tm := tm80) Tryz.func134 (by kernel_rfl)
theorem o81 : K 81 sg81 := fnK (E := E0) (tm := tm81) Tryz.func96 (by kernel_rfl)
theorem o82 : K 82 sg82 := fnK (E := E0) (tm := tm82) Tryz.func95 (by kernel_rfl)
theorem o83 : K 83 sg83 := fnK (E := E0) (tm := tm83) Tryz.func135 (by kernel_rfl)
theorem o84 : K 84 sg84 := fnK (E := E0) (tm := tm84) Tryz.func50 (by kernel_rfl)
theorem o85 : K 85 sg85 := fnK (E := E0) (tm := tm85) Tryz.func97 (by kernel_rfl)
theorem o86 : K 86 sg86 := fnK (E := E0) (tm := tm86) Tryz.func136 (by kernel_rfl)
theorem o87 : K 87 sg87 := fnK (E := E0) (tm := tm87) Tryz.func159 (by kernel_rfl)
theorem o88 : K 88 sg88 := fnK (E := E0) (tm := tm88) Tryz.func137 (by kernel_rfl)
theorem o89 : K 89 sg89 := fnK (E := E0) (tm := tm89) Tryz.func138 (by kernel_rfl)
theorem o90 : K 90 sg90 := fnK (E := E0) (tm := tm90) Tryz.func160 (by kernel_rfl)
theorem o91 : K 91 sg91 := fnK (E := E0) (tm := tm91) Tryz.func139 (by kernel_rfl)
theorem o92 : K 92 sg92 := fnK (E := E0) (tm := tm92) Tryz.func98 (by kernel_rfl)
theorem o93 : K 93 sg93 := fnK (E := E0) (tm := tm93) Tryz.func140 (by kernel_rfl)
theorem o94 : K 94 sg94 := fnK (E := E0) (tm := tm94) Tryz.func161 (by kernel_rfl)
theorem o95 : K 95 sg95 := fnK (E := E0) (tm := tm95) Tryz.func133 (by kernel_rfl)
theorem o96 : K 96 sg96 := fnK (E := E0) (tm := tm96) Tryz.func158 (by kernel_rfl)
theorem o97 : K 97 sg97 := fnK (E := E0) (tm := tm97) Tryz.func162 (by kernel_rfl)
theorem o98 : K 98 sg98 := fnK (E := E0) (tm := tm98) Tryz.func141 (by kernel_rfl)
theorem o99 : K 99 sg99 := fnK (E := E0) (tm := tm99) Tryz.func163 (by kernel_rfl)
theorem o100 : K 100 sg100 := fnK (E := E0) (tm := tm100) Tryz.func138 (by kernel_rfl)
theorem o101 : K 101 sg101 := fnK (E := E0) (tm := tm101) Tryz.func160 (by kernel_rfl)
theorem o102 : K 102 sg102 := fnK (E := E0) (tm := tm102) Tryz.func142 (by kernel_rfl)
theorem o103 : K 103 sg103 := fnK (E := E0) (tm := tm103) Tryz.func99 (by kernel_rfl)
theorem o104 : K 104 sg104 := fnK (E := E0) (tm := tm104) Tryz.func143 (by kernel_rfl)
theorem o105 : K 105 sg105 := fnK (E := E0) (tm := tm105) Tryz.func164 (by kernel_rfl)
theorem o106 : K 106 sg106 := fnK (E := E0) (tm := tm106) Tryz.func53 (by kernel_rfl)
theorem o107 : K 107 sg107 := fnK (E := E0) (tm := tm107) Tryz.func101 (by kernel_rfl)
theorem o108 : K 108 sg108 := fnK (E := E0) (tm := tm108) Tryz.func102 (by kernel_rfl)
theorem o109 : K 109 sg109 := fnK (E := ⟨tiTab tiL, sigs, 0, 0, false, false, [], [(9, [(123, 0, 0, 0)], [3, 9, 12, 18, 21, 36, 39, 42, 63, 66, 69, 117, 120, 123, 1, 31, 94], 576, [1, 4, 7, 10, 13, 16, 19, 22, 25, 28, 31, 34, 37, 40, 43, 46, 49, 52, 55, 58, 61, 64, 67, 70, 73, 76, 79, 82, 85, 88, 91, 94, 97, 100, 103, 106, 109, 112, 115, 118, 121, 124, 127, 130, 133, 136, 139, 142, 145, 148, 151, 154, 157, 160, 163, 166, 169, 172, 175, 178, 181, 184, 187, 190, 193, 196, 199, 202, 205, 208, 211, 214, 217, 220, 223, 226, 229, 232, 235, 238, 241, 244, 247, 250, 253, 256, 259, 262, 265, 268, 271, 274, 277, 280, 283, 286, 289, 292, 295, 298, 301, 304, 307, 310, 313, 316, 319, 322, 325, 328, 331, 334, 337, 340, 343, 346, 349, 352, 355, 358, 361, 364, 367, 370, 373, 376, 379, 382, 385, 388, 391, 394, 397, 400, 403, 406, 409, 412, 415, 418, 421, 424, 427, 430, 433, 436, 439, 442, 445, 448, 451, 454, 457, 460, 463, 466, 469, 472, 475, 478, 481, 484, 487, 490, 493, 496, 499, 502, 505, 508, 511, 514, 517, 520, 523, 526, 529, 532, 535, 538, 541, 544, 547, 550, 553, 556, 559, 562, 565, 568, 571, 574, 577, 580, 583, 586, 589, 592, 595, 598, 601, 604, 607, 610, 613, 616, 619, 622, 625, 628, 631, 634, 637, 640, 643, 646, 649, 652, 655, 658, 661, 664, 667, 670, 673, 676, 679, 682, 685, 688, 691, 694, 697, 700, 703, 706, 709, 712, 715, 718, 721, 724, 727, 730, 733, 736, 739, 742, 745, 748, 751, 754, 757, 760, 763, 766, 769, 772, 775, 778, 781, 784, 787, 790, 793, 796, 799, 802, 805, 808, 811, 814, 817, 820, 823, 826, 829, 832, 835, 838, 841, 844, 847, 850, 853, 856, 859, 862, 865, 868, 871, 874, 877, 880, 883, 886, 889, 892, 895, 898, 901, 904, 907, 910, 913, 916, 919, 922, 925, 928, 931, 934, 937, 940, 943, 946, 949, 952, 955, 958, 961, 964, 967, 970, 973, 976, 979, 982, 985, 988, 991, 994, 997, 1000, 1003, 1006, 1009, 1012, 1015, 1018, 1021, 1024, 1027, 1030, 1033, 1036, 1039, 1042, 1045, 1048, 1051, 1054, 1057, 1060, 1063, 1066, 1069, 1072, 1075, 1078, 1081, 1084, 1087, 1090, 1093, 1096, 1099, 1102, 1105, 1108, 1111, 1114, 1117, 1120, 1123, 1126, 1129, 1132, 1135, 1138, 1141, 1144, 1147, 1150, 1153, 1156, 1159, 1162, 1165, 1168, 1171, 1174, 1177, 1180, 1183, 1186, 1189, 1192, 1195, 1198, 1201, 1204, 1207, 1210, 1213, 1216, 1219, 1222, 1225, 1228, 1231, 1234, 1237, 1240, 1243, 1246, 1249, 1252, 1255, 1258, 1261, 1264, 1267, 1270, 1273, 1276, 1279, 1282, 1285, 1288, 1291, 1294, 1297, 1300, 1303, 1306, 1309, 1312, 1315, 1318, 1321, 1324, 1327, 1330, 1333, 1336, 1339, 1342, 1345, 1348, 1351, 1354, 1357, 1360, 1363, 1366, 1369, 1372, 1375, 1378, 1381, 1384, 1387, 1390, 1393, 1396, 1399, 1402, 1405, 1408, 1411, 1414, 1417, 1420, 1423, 1426, 1429, 1432, 1435, 1438, 1441, 1444, 1447, 1450, 1453, 1456, 1459, 1462, 1465, 1468, 1471, 1474, 1477, 1480, 1483, 1486, 1489, 1492, 1495, 1498, 1501, 1504, 1507, 1510, 1513, 1516, 1519, 1522, 1525, 1528, 1531, 1534, 1537, 1540, 1543, 1546, 1549, 1552, 1555, 1558, 1561, 1564, 1567, 1570, 1573, 1576, 1579, 1582, 1585, 1588, 1591, 1594, 1597, 1600, 1603, 1606, 1609, 1612, 1615, 1618, 1621, 1624, 1627, 1630, 1633, 1636, 1639, 1642, 1645, 1648, 1651, 1654, 1657, 1660, 1663, 1666, 1669, 1672, 1675, 1678, 1681, 1684, 1687, 1690, 1693, 1696, 1699, 1702, 1705, 1708, 1711, 1714, 1717, 1720, 1723, 1726, 1729, 1732, 1735, 1738, 1741, 1744, 1747, 1750, 1753, 1756, 1759, 1762, 1765, 1768, 1771, 1774, 1777, 1780, 1783, 1786, 1789, 1792, 1795, 1798, 1801, 1804, 1807, 1810, 1813, 1816, 1819, 1822, 1825, 1828, 1831, 1834, 1837, 1840, 1843, 1846, 1849, 1852, 1855, 1858, 1861, 1864, 1867, 1870, 1873, 1876, 1879, 1882, 1885, 1888, 1891, 1894, 1897, 1900, 1903, 1906, 1909, 1912, 1915, 1918, 1921, 1924, 1927, 1930, 1933, 1936, 1939, 1942, 1945, 1948, 1951, 1954, 1957, 1960, 1963, 1966, 1969, 1972, 1975, 1978, 1981, 1984, 1987, 1990, 1993, 1996, 1999, 2002, 2005, 2008, 2011, 2014, 2017, 2020, 2023, 2026, 2029, 2032, 2035, 2038, 2041, 2044, 2047, 2050, 2053, 2056, 2059, 2062, 2065, 2068, 2071, 2074, 2077, 2080, 2083, 2086, 2089, 2092, 2095, 2098, 2101, 2104, 2107, 2110, 2113, 2116, 2119, 2122, 2125, 2128, 2131, 2134, 2137, 2140, 2143, 2146, 2149, 2152, 2155, 2158, 2161, 2164, 2167, 2170, 2173, 2176, 2179, 2182, 2185, 2188, 2191, 2194, 2197, 2200, 2203, 2206, 2209, 2212, 2215, 2218, 2221, 2224, 2227, 2230, 2233, 2236, 2239, 2242, 2245, 2248, 2251, 2254, 2257, 2260, 2263, 2266, 2269, 2272, 2275, 2278, 2281, 2284, 2287, 2290, 2293, 2296, 2299, 2302, 2305, 2308, 2311, 2314, 2317, 2320, 2323, 2326, 2329, 2332, 2335, 2338, 2341, 2344, 2347, 2350, 2353, 2356, 2359, 2362, 2365, 2368, 2371, 2374, 2377, 2380, 2383, 2386, 2389, 2392, 2395, 2398, 2401, 2404, 2407, 2410, 2413, 2416, 2419, 2422, 2425, 2428, 2431, 2434, 2437, 2440, 2443, 2446, 2449, 2452, 2455, 2458, 2461, 2464, 2467, 2470, 2473, 2476, 2479, 2482, 2485, 2488, 2491, 2494, 2497, 2500, 2503, 2506, 2509, 2512, 2515, 2518, 2521, 2524, 2527, 2530, 2533, 2536, 2539, 2542, 2545, 2548, 2551, 2554, 2557, 2560, 2563, 2566, 2569, 2572, 2575, 2578, 2581, 2584, 2587, 2590, 2593, 2596, 2599, 2602, 2605, 2608, 2611, 2614, 2617, 2620, 2623, 2626, 2629, 2632, 2635, 2638, 2641, 2644, 2647, 2650, 2653, 2656, 2659, 2662, 2665, 2668, 2671, 2674, 2677, 2680, 2683, 2686, 2689, 2692, 2695, 2698, 2701, 2704, 2707, 2710, 2713, 2716, 2719, 2722, 2725, 2728, 2731, 2734, 2737, 2740, 2743, 2746, 2749, 2752, 2755, 2758, 2761, 2764, 2767, 2770, 2773, 2776, 2779, 2782, 2785, 2788, 2791, 2794, 2797, 2800, 2803, 2806, 2809, 2812, 2815, 2818, 2821, 2824, 2827, 2830, 2833, 2836, 2839, 2842, 2845, 2848, 2851, 2854, 2857, 2860, 2863, 2866, 2869, 2872, 2875, 2878, 2881, 2884, 2887, 2890, 2893, 2896, 2899, 2902, 2905, 2908, 2911, 2914, 2917, 2920, 2923, 2926, 2929, 2932, 2935, 2938, 2941, 2944, 2947, 2950, 2953, 2956, 2959, 2962, 2965, 2968, 2971, 2974, 2977, 2980, 2983, 2986, 2989, 2992, 2995, 2998, 3001, 3004, 3007, 3010, 3013, 3016, 3019, 3022, 3025, 3028, 3031, 3034, 3037, 3040, 3043, 3046, 3049, 3052, 3055, 3058, 3061, 3064, 3067, 3070, 3073, 3076, 3079, 3082, 3085, 3088, 3091, 3094, 3097, 3100, 3103, 3106, 3109, 3112, 3115, 3118, 3121, 3124, 3127, 3130, 3133, 3136, 3139, 3142, 3145, 3148, 3151, 3154, 3157, 3160, 3163, 3166, 3169, 3172, 3175, 3178, 3181, 3184, 3187, 3190, 3193, 3196, 3199, 3202, 3205, 3208, 3211, 3214, 3217, 3220, 3223, 3226, 3229, 3232, 3235, 3238, 3241, 3244, 3247, 3250, 3253, 3256, 3259, 3262, 3265, 3268, 3271, 3274, 3277, 3280, 3283, 3286, 3289, 3292, 3295, 3298, 3301, 3304, 3307, 3310, 3313, 3316, 3319, 3322, 3325, 3328, 3331, 3334, 3337, 3340, 3343, 3346, 3349, 3352, 3355, 3358, 3361, 3364, 3367, 3370, 3373, 3376, 3379, 3382, 3385, 3388, 3391, 3394, 3397, 3400, 3403, 3406, 3409, 3412, 3415, 3418, 3421, 3424, 3427, 3430, 3433, 3436, 3439, 3442, 3445, 3448, 3451, 3454, 3457, 3460, 3463, 3466, 3469, 3472, 3475, 3478, 3481, 3484, 3487, 3490, 3493, 3496, 3499, 3502, 3505, 3508, 3511, 3514, 3517, 3520, 3523, 3526, 3529, 3532, 3535, 3538, 3541, 3544, 3547, 3550, 3553, 3556, 3559, 3562, 3565, 3568, 3571, 3574, 3577, 3580, 3583, 3586, 3589, 3592, 3595, 3598, 3601, 3604, 3607, 3610, 3613, 3616, 3619, 3622, 3625, 3628, 3631, 3634, 3637, 3640, 3643, 3646, 3649, 3652, 3655, 3658, 3661, 3664, 3667, 3670, 3673, 3676, 3679, 3682, 3685, 3688, 3691, 3694, 3697, 3700, 3703, 3706, 3709, 3712, 3715, 3718, 3721, 3724, 3727, 3730, 3733, 3736, 3739, 3742, 3745, 3748, 3751, 3754, 3757, 3760, 3763, 3766, 3769, 3772, 3775, 3778, 3781, 3784, 3787, 3790, 3793, 3796, 3799, 3802, 3805, 3808, 3811, 3814, 3817, 3820, 3823, 3826, 3829, 3832, 3835, 3838, 3841, 3844, 3847, 3850, 3853, 3856, 3859, 3862, 3865, 3868, 3871, 3874, 3877, 3880, 3883, 3886, 3889, 3892, 3895, 3898, 3901, 3904, 3907, 3910, 3913, 3916, 3919, 3922, 3925, 3928, 3931, 3934, 3937, 3940, 3943, 3946, 3949, 3952, 3955, 3958, 3961, 3964, 3967, 3970, 3973, 3976, 3979, 3982, 3985, 3988, 3991, 3994, 3997, 4000, 4003, 4006, 4009, 4012, 4015, 4018, 4021, 4024, 4027, 4030, 4033, 4036, 4039, 4042, 4045, 4048, 4051, 4054, 4057, 4060, 4063, 4066, 4069, 4072, 4075, 4078, 4081, 4084, 4087, 4090, 4093, 4096, 4099, 4102, 4105, 4108, 4111, 4114, 4117, 4120, 4123, 4126, 4129, 4132, 4135, 4138, 4141, 4144, 4147, 4150, 4153, 4156, 4159, 4162, 4165, 4168, 4171, 4174, 4177, 4180, 4183, 4186, 4189, 4192, 4195, 4198, 4201, 4204, 4207, 4210, 4213, 4216, 4219, 4222, 4225, 4228, 4231, 4234, 4237, 4240, 4243, 4246, 4249, 4252, 4255, 4258, 4261, 4264, 4267, 4270, 4273, 4276, 4279, 4282, 4285, 4288, 4291, 4294, 4297, 4300, 4303, 4306, 4309, 4312, 4315, 4318, 4321, 4324, 4327, 4330, 4333, 4336, 4339, 4342, 4345, 4348, 4351, 4354, 4357, 4360, 4363, 4366, 4369, 4372, 4375, 4378, 4381, 4384, 4387, 4390, 4393, 4396, 4399, 4402, 4405, 4408, 4411, 4414, 4417, 4420, 4423, 4426, 4429, 4432, 4435, 4438, 4441, 4444, 4447, 4450, 4453, 4456, 4459, 4462, 4465, 4468, 4471, 7936]), (5, [(69, 0, 0, 0)], [3, 9, 12, 36, 39, 42, 63, 66, 69, 1, 31], 961, [1, 4, 7, 10, 13, 16, 19, 22, 25, 28, 31, 34, 37, 40, 43, 46, 49, 52, 55, 58, 61, 64, 67, 70, 73, 76, 79, 82, 85, 88, 91, 94, 97, 100, 103, 106, 109, 112, 115, 118, 121, 124, 127, 130, 133, 136, 139, 142, 145, 148, 151, 154, 157, 160, 163, 166, 169, 172, 175, 178, 181, 184, 187, 190, 193, 196, 199, 202, 205, 208, 211, 214, 217, 220, 223, 226, 229, 232, 235, 238, 241, 244, 247, 250, 253, 256, 259, 262, 265, 268, 271, 274, 277, 280, 283, 286, 4330]), (2, [(42, 0, 0, 0)], [3, 36, 39, 42, 1], 1202, [])]⟩) (tm := tm109) Tryz.func60 (by kernel_rfl)
theorem o110 : K 110 sg110 := fnK (E := E0) (tm := tm110) Tryz.func107 (by kernel_rfl)
theorem o111 : K 111 sg111 := fnK (E := ⟨tiTab tiL, sigs, 0, 0, false, false, [], [(5, [(54, 0, 0, 0), (1, 0, 2, 99)], [93, 3, 12, 27, 30, 33, 48, 51, 54, 1, 4], 240, [1, 4, 7, 10, 13, 16, 19, 22, 25, 28, 31, 34, 37, 40, 43, 46, 49, 52, 55, 58, 61, 64, 67, 70, 73, 76, 79, 82, 85, 88, 91, 94, 97, 100, 103, 106, 109, 112, 115, 118, 121, 124, 127, 130, 133, 136, 139, 142, 145, 148, 151, 154, 157, 160, 163, 166, 169, 172, 175, 178, 181, 184, 187, 190, 193, 196, 199, 202, 205, 208, 211, 214, 217, 220, 223, 226, 229, 232, 235, 238, 241, 1551]), (2, [(33, 0, 0, 0), (1, 0, 2, 99)], [93, 3, 27, 30, 33, 1, 4], 435, [0])]⟩) (tm := tm111) Tryz.func146 (by kernel_rfl)
theorem o112 : K 112 sg112 := fnK (E := E0) (tm := tm112) Tryz.func147 (by kernel_rfl)
theorem o113 : K 113 sg113 := fnK (E := E0) (tm := tm113) Tryz.func108 (by kernel_rfl)
theorem o114 : K 114 sg114 := fnK (E := E0) (tm := tm114) Tryz.func148 (by kernel_rfl)
theorem o115 : K 115 sg115 := fnK (E := ⟨tiTab tiL, sigs, 0, 0, false, false, [], [(6, [(72, 0, 0, 0), (19, 0, 0, 0), (19, 1, 2, 99)], [6, 9, 15, 42, 45, 48, 66, 69, 72, 1, 4, 19, 46], 464, [1, 4, 7, 10, 13, 16, 19, 22, 25, 28, 31, 34, 37, 40, 43, 46, 49, 52, 55, 58, 61, 64, 67, 70, 73, 76, 79, 82, 85, 88, 91, 94, 97, 100, 103, 106, 109, 112, 115, 118, 121, 124, 127, 130, 133, 136, 139, 142, 145, 148, 151, 154, 157, 160, 163, 166, 169, 172, 175, 178, 181, 184, 187, 190, 193, 196, 199, 202, 205, 208, 211, 214, 217, 220, 223, 226, 229, 232, 235, 238, 241, 244, 247, 250, 253, 256, 259, 262, 265, 268, 271, 274, 277, 280, 283, 286, 289, 292, 295, 298, 301, 304, 307, 310, 313, 316, 319, 322, 325, 328, 331, 334, 337, 340, 343, 346, 349, 352, 355, 358, 361, 364, 367, 370, 373, 376, 379, 382, 385, 388, 391, 394, 397, 400, 403, 406, 409, 412, 415, 418, 421, 424, 427, 430, 433, 436, 439, 442, 445, 448, 451, 454, 457, 460, 463, 466, 469, 472, 475, 478, 481, 484, 487, 490, 493, 496, 499, 502, 505, 508, 511, 514, 517, 520, 523, 526, 529, 532, 535, 538, 541, 544, 547, 550, 553, 556, 559, 562, 565, 568, 571, 574, 2613, 2953]), (3, [(48, 0, 0, 0), (19, 0, 0, 0), (19, 1, 2, 99)], [6, 9, 42, 45, 48, 1, 4, 19], 677, [240])]⟩) (tm := tm115) Tryz.func76 (by kernel_rfl)
theorem o116 : K 116 sg116 := fnK (E := E0) (tm := tm116) Tryz.func121 (by kernel_rfl)
theorem o117 : K 117 sg117 := fnK (E := E0) (tm := tm117) Tryz.func122 (by kernel_rfl)
theorem o118 : K 118 sg118 := fnK (E := E0) (tm := tm118) Tryz.func33 (by kernel_rfl)
theorem o119 : K 119 sg119 := fnK (E := E0) (tm := tm119) Tryz.func77 (by kernel_rfl)
theorem o120 : K 120 sg120 := fnK (E := E0) (tm := tm120) Tryz.func123 (by kernel_rfl)
theorem o121 : K 121 sg121 := fnK (E := E0) (tm := tm121) Tryz.func156 (by kernel_rfl)
theorem o122 : K 122 sg122 := fnK (E := E0) (tm := tm122) Tryz.func144 (by kernel_rfl)
theorem o123 : K 123 sg123 := fnK (E := E0) (tm := tm123) Tryz.func145 (by kernel_rfl)
theorem o124 : K 124 sg124 := fnK (E := E0) (tm := tm124) Tryz.func27 (by kernel_rfl)
theorem o125 : K 125 sg125 := fnK (E := E0) (tm := tm125) Tryz.func13 (by kernel_rfl)
theorem o126 : K 126 sg126 := fnK (E := E0) (tm := tm126) Tryz.func54 (by kernel_rfl)
theorem o127 : K 127 sg127 := fnK (E := E0) (tm := tm127) Tryz.func22 (by kernel_rfl)
theorem o128 : K 128 sg128 := fnK (E := E0) (tm := tm128) Tryz.func67 (by kernel_rfl)
theorem o129 : K 129 sg129 := fnK (E := E0) (tm := tm129) Tryz.func117 (by kernel_rfl)
theorem o130 : K 130 sg130 := fnK (E := E0) (tm := tm130) Tryz.func55 (by kernel_rfl)
theorem o131 : K 131 sg131 := fnK (E := E0) (tm := tm131) Tryz.func103 (by kernel_rfl)
theorem o132 : K 132 sg132 := fnK (E := E0) (tm := tm132) Tryz.func56 (by kernel_rfl)
theorem o133 : K 133 sg133 := fnK (E := E0) (tm := tm133) Tryz.func104 (by kernel_rfl)
theorem o134 : K 134 sg134 := fnK (E := E0) (tm := tm134) Tryz.func28 (by kernel_rfl)
theorem o135 : K 135 sg135 := fnK (E := E0) (tm := tm135) Tryz.func72 (by kernel_rfl)
theorem o136 : K 136 sg136 := fnK (E := E0) (tm := tm136) Tryz.func78 (by kernel_rfl)
theorem o137 : K 137 sg137 := fnK (E := E0) (tm := tm137) Tryz.func118 (by kernel_rfl)
theorem o138 : K 138 sg138 := fnK (E := E0) (tm := tm138) Tryz.func29 (by kernel_rfl)
theorem o139 : K 139 sg139 := fnK (E := ⟨tiTab tiL, sigs, 0, 0, false, false, [], [(2, [(408, 0, 2, 3), (0, 0, 6, 0), (3, 0, 0, 0), (15, 0, 0, 0)], [408, 0, 3, 15], 2528, [0])]⟩) (tm := tm139) Tryz.func68 (by kernel_rfl)
theorem o140 : K 140 sg140 := fnK (E := E0) (tm := tm140) Tryz.func73 (by kernel_rfl)
theorem o141 : K 141 sg141 := fnK (E := E0) (tm := tm141) Tryz.func74 (by kernel_rfl)
theorem o142 : K 142 sg142 := fnK (E := E0) (tm := tm142) Tryz.func34 (by kernel_rfl)
theorem o143 : K 143 sg143 := fnK (E := E0) (tm := tm143) Tryz.func35 (by kernel_rfl)
theorem o144 : K 144 sg144 := fnK (E := E0) (tm := tm144) Tryz.func79 (by kernel_rfl)
theorem o145 : K 145 sg145 := fnK (E := ⟨tiTab tiL, sigs, 0, 0, false, false, [], [(2, [(3, 0, 0, 0), (15, 0, 0, 0)], [0, 3, 15], 1824, [])]⟩) (tm := tm145) Tryz.func119 (by kernel_rfl)
theorem o146 : K 146 sg146 := fnK (E := E0) (tm := tm146) Tryz.func30 (by kernel_rfl)
theorem fns_ok : ∀ key s, (key, s) ∈ sigs → FnOk Tryz.prog T (tiTab tiL) sigs key s := fnOk_all (fc o0 <| fc o1 <| fc o2 <| fc o3 <| fc o4 <| fc o5 <| fc o6 <| fc o7 <| fc o8 <| fc o9 <| fc o10 <| fc o11 <| fc o12 <| fc o13 <| fc o14 <| fc o15 <| fc o16 <| fc o17 <| fc o18 <| fc o19 <| fc o20 <| fc o21 <| fc o22 <| fc o23 <| fc o24 <| fc o25 <| fc o26 <| fc o27 <| fc o28 <| fc o29 <| fc o30 <| fc o31 <| fc o32 <| fc o33 <| fc o34 <| fc o35 <| fc o36 <| fc o37 <| fc o38 <| fc o39 <| fc o40 <| fc o41 <| fc o42 <| fc o43 <| fc o44 <| fc o45 <| fc o46 <| fc o47 <| fc o48 <| fc o49 <| fc o50 <| fc o51 <| fc o52 <| fc o53 <| fc o54 <| fc o55 <| fc o56 <| fc o57 <| fc o58 <| fc o59 <| fc o60 <| fc o61 <| fc o62 <| fc o63 <| fc o64 <| fc o65 <| fc o66 <| fc o67 <| fc o68 <| fc o69 <| fc o70 <| fc o71 <| fc o72 <| fc o73 <| fc o74 <| fc o75 <| fc o76 <| fc o77 <| fc o78 <| fc o79 <| fc o80 <| fc o81 <| fc o82 <| fc o83 <| fc o84 <| fc o85 <| fc o86 <| fc o87 <| fc o88 <| fc o89 <| fc o90 <| fc o91 <| fc o92 <| fc o93 <| fc o94 <| fc o95 <| fc o96 <| fc o97 <| fc o98 <| fc o99 <| fc o100 <| fc o101 <| fc o102 <| fc o103 <| fc o104 <| fc o105 <| fc o106 <| fc o107 <| fc o108 <| fc o109 <| fc o110 <| fc o111 <| fc o112 <| fc o113 <| fc o114 <| fc o115 <| fc o116 <| fc o117 <| fc o118 <| fc o119 <| fc o120 <| fc o121 <| fc o122 <| fc o123 <| fc o124 <| fc o125 <| fc o126 <| fc o127 <| fc o128 <| fc o129 <| fc o130 <| fc o131 <| fc o132 <| fc o133 <| fc o134 <| fc o135 <| fc o136 <| fc o137 <| fc o138 <| fc o139 <| fc o140 <| fc o141 <| fc o142 <| fc o143 <| fc o144 <| fc o145 <| fc o146 <| fc0)
theorem contract : ∀ n, Contract Tryz.prog T n 0 sg0 := fun n => contracts tiL_ok (by kernel_rfl) fns_ok n 0 sg0 (by simp [sigs])
end FnExactSettledOf
end Go.Proofs.YtmpakpgonfnadaaGreat
