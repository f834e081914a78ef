/- The terms of the functions that FnExactSameOrders reaches (printed by the author's own program). -/
import Derived.Test.YtgbjmmkjlhjbbaaChecked
import Derived.Test.YtgbjmmkjlhjbbaaRf8
import Derived.KernelRfl
namespace Go.Proofs.Ytgbjmmkjlhjbbaa
namespace FnExactSameOrders
open Go Go.Proofs.Ytgbjmmkjlhjbbaa.Rf
set_option maxRecDepth 100000

def tiL : List (Nat × TI) := [
  (3, ⟨false, 1, 8, [.sc (.int .i64 0)], [], none, (some .i64), false, false, false, false⟩),
  (4, ⟨false, 1, 1, [.sc (.bool false)], [], none, none, true, false, false, false⟩),
  (22, ⟨false, 1, 24, [.sl 1], [], (some 43), none, false, false, false, false⟩),
  (23, ⟨false, 1, 24, [.sl 1], [], (some 66), none, false, false, false, false⟩),
  (25, ⟨true, 2, 32, [.sc (.int .i64 0), .sl 1], [(0, 3), (1, 23)], none, none, false, false, false, false⟩),
  (31, ⟨false, 1, 24, [.sl 1], [], (some 68), none, false, false, false, false⟩),
  (33, ⟨true, 2, 32, [.sc (.int .i64 0), .sl 1], [(0, 3), (1, 31)], none, none, false, false, false, false⟩),
  (43, ⟨false, 1, 24, [.sl 1], [], (some 3), none, false, false, false, false⟩),
  (50, ⟨true, 5, 40, [.sc (.int .i64 0), .sc (.int .i64 0), .sc (.int .i64 0), .sc (.int .i64 0), .sc (.int .i64 0)], [(0, 3), (1, 3), (2, 3), (3, 3), (4, 3)], none, none, false, false, false, true⟩),
  (52, ⟨true, 2, 32, [.sc (.int .i64 0), .sl 1], [(0, 3), (1, 43)], none, none, false, false, false, false⟩),
  (54, ⟨true, 10, 96, [.sc (.int .i64 0), .sc (.int .i64 0), .sc (.int .i64 0), .sc (.int .i64 0), .sc (.int .i64 0), .sc (.int .i64 0), .sc (.int .i64 0), .sc (.int .i64 0), .sc (.int .i64 0), .sl 1], [(0, 3), (1, 3), (2, 3), (3, 50), (8, 52)], none, none, false, false, false, false⟩),
  (66, ⟨false, 1, 24, [.sl 10], [], (some 95), none, false, false, false, false⟩),
  (68, ⟨false, 1, 24, [.sl 10], [], (some 54), none, false, false, false, false⟩),
  (92, ⟨true, 5, 40, [.sc (.int .i64 0), .sc (.int .i64 0), .sc (.int .i64 0), .sc (.int .i64 0), .sc (.int .i64 0)], [(0, 3), (1, 3), (2, 3), (3, 3), (4, 3)], none, none, false, false, false, true⟩),
  (93, ⟨true, 2, 32, [.sc (.int .i64 0), .sl 1], [(0, 3), (1, 43)], none, none, false, false, false, false⟩),
  (95, ⟨true, 10, 96, [.sc (.int .i64 0), .sc (.int .i64 0), .sc (.int .i64 0), .sc (.int .i64 0), .sc (.int .i64 0), .sc (.int .i64 0), .sc (.int .i64 0), .sc (.int .i64 0), .sc (.int .i64 0), .sl 1], [(0, 3), (1, 3), (2, 3), (3, 92), (8, 93)], none, none, false, false, false, false⟩)]
theorem ti3 : tiOf Try.prog 3 = some ⟨false, 1, 8, [.sc (.int .i64 0)], [], none, (some .i64), false, false, false, false⟩ := by kernel_rfl
theorem ti4 : tiOf Try.prog 4 = some ⟨false, 1, 1, [.sc (.bool false)], [], none, none, true, false, false, false⟩ := by kernel_rfl
theorem ti22 : tiOf Try.prog 22 = some ⟨false, 1, 24, [.sl 1], [], (some 43), none, false, false, false, false⟩ := by kernel_rfl
theorem ti23 : tiOf Try.prog 23 = some ⟨false, 1, 24, [.sl 1], [], (some 66), none, false, false, false, false⟩ := by kernel_rfl
theorem ti25 : tiOf Try.prog 25 = some ⟨true, 2, 32, [.sc (.int .i64 0), .sl 1], [(0, 3), (1, 23)], none, none, false, false, false, false⟩ := by kernel_rfl
theorem ti31 : tiOf Try.prog 31 = some ⟨false, 1, 24, [.sl 1], [], (some 68), none, false, false, false, false⟩ := by kernel_rfl
theorem ti33 : tiOf Try.prog 33 = some ⟨true, 2, 32, [.sc (.int .i64 0), .sl 1], [(0, 3), (1, 31)], none, none, false, false, false, false⟩ := by kernel_rfl
theorem ti43 : tiOf Try.prog 43 = some ⟨false, 1, 24, [.sl 1], [], (some 3), none, false, false, false, false⟩ := by kernel_rfl
theorem ti50 : tiOf Try.prog 50 = some ⟨true, 5, 40, [.sc (.int .i64 0), .sc (.int .i64 0), .sc (.int .i64 0), .sc (.int .i64 0), .sc (.int .i64 0)], [(0, 3), (1, 3), (2, 3), (3, 3), (4, 3)], none, none, false, false, false, true⟩ := by kernel_rfl
theorem ti52 : tiOf Try.prog 52 = some ⟨true, 2, 32, [.sc (.int .i64 0), .sl 1], [(0, 3), (1, 43)], none, none, false, false, false, false⟩ := by kernel_rfl
theorem ti54 : tiOf Try.prog 54 = some ⟨true, 10, 96, [.sc (.int .i64 0), .sc (.int .i64 0), .sc (.int .i64 0), .sc (.int .i64 0), .sc (.int .i64 0), .sc (.int .i64 0), .sc (.int .i64 0), .sc (.int .i64 0), .sc (.int .i64 0), .sl 1], [(0, 3), (1, 3), (2, 3), (3, 50), (8, 52)], none, none, false, false, false, false⟩ := by kernel_rfl
theorem ti66 : tiOf Try.prog 66 = some ⟨false, 1, 24, [.sl 10], [], (some 95), none, false, false, false, false⟩ := by kernel_rfl
theorem ti68 : tiOf Try.prog 68 = some ⟨false, 1, 24, [.sl 10], [], (some 54), none, false, false, false, false⟩ := by kernel_rfl
theorem ti92 : tiOf Try.prog 92 = some ⟨true, 5, 40, [.sc (.int .i64 0), .sc (.int .i64 0), .sc (.int .i64 0), .sc (.int .i64 0), .sc (.int .i64 0)], [(0, 3), (1, 3), (2, 3), (3, 3), (4, 3)], none, none, false, false, false, true⟩ := by kernel_rfl
theorem ti93 : tiOf Try.prog 93 = some ⟨true, 2, 32, [.sc (.int .i64 0), .sl 1], [(0, 3), (1, 43)], none, none, false, false, false, false⟩ := by kernel_rfl
theorem ti95 : tiOf Try.prog 95 = some ⟨true, 10, 96, [.sc (.int .i64 0), .sc (.int .i64 0), .sc (.int .i64 0), .sc (.int .i64 0), .sc (.int .i64 0), .sc (.int .i64 0), .sc (.int .i64 0), .sc (.int .i64 0), .sc (.int .i64 0), .sl 1], [(0, 3), (1, 3), (2, 3), (3, 92), (8, 93)], none, none, false, false, false, false⟩ := by kernel_rfl
theorem tiL_ok : TiOk Try.prog (tiTab tiL) := tiTab_ok (l := tiL) (List.forall_mem_cons.2 ⟨ti3, List.forall_mem_cons.2 ⟨ti4, List.forall_mem_cons.2 ⟨ti22, List.forall_mem_cons.2 ⟨ti23, List.forall_mem_cons.2 ⟨ti25, List.forall_mem_cons.2 ⟨ti31, List.forall_mem_cons.2 ⟨ti33, List.forall_mem_cons.2 ⟨ti43, List.forall_mem_cons.2 ⟨ti50, List.forall_mem_cons.2 ⟨ti52, List.forall_mem_cons.2 ⟨ti54, List.forall_mem_cons.2 ⟨ti66, List.forall_mem_cons.2 ⟨ti68, List.forall_mem_cons.2 ⟨ti92, List.forall_mem_cons.2 ⟨ti93, List.forall_mem_cons.2 ⟨ti95, List.forall_mem_nil _⟩⟩⟩⟩⟩⟩⟩⟩⟩⟩⟩⟩⟩⟩⟩⟩)

def sg0 : Sig := ⟨3, [(false, [.fz false]), (false, [.fz false]), (true, [.sc, .fz false])], [], [(false, [.sc])]⟩
def sg1 : Sig := ⟨5, [(false, [.fz false]), (false, [.sc])], [], [(false, [.sc])]⟩
def sg2 : Sig := ⟨18, [(false, [.fz false]), (false, [.sc])], [], [(false, [.sc])]⟩
def sg3 : Sig := ⟨6, [(true, [.sc, .fz false]), (false, [.sc])], [], [(false, [.sc])]⟩
def sg4 : Sig := ⟨19, [(false, [.fz false]), (false, [.sc])], [], [(false, [.sc])]⟩
def sg5 : Sig := ⟨37, [(false, [.fz false]), (false, [.sc])], [], [(false, [.sc])]⟩
def sg6 : Sig := ⟨67, [(true, [.sc, .sc, .sc, .sc, .sc, .sc, .sc, .sc, .sc, .fz false]), (false, [.sc])], [], [(false, [.sc])]⟩
def sg7 : Sig := ⟨91, [(true, [.sc, .fz false]), (false, [.sc])], [], [(false, [.sc])]⟩
def sg8 : Sig := ⟨8, [(false, [.fz false])], [], [(false, [.ow 99])]⟩
def sg9 : Sig := ⟨25, [(false, [.fz false])], [], [(false, [.ow 99])]⟩
def sg10 : Sig := ⟨9, [(true, [.sc, .fz false])], [], [(true, [.sc, .ow 99])]⟩
def sg11 : Sig := ⟨26, [(false, [.fz false])], [], [(false, [.ow 99])]⟩
def sg12 : Sig := ⟨46, [(false, [.fz false])], [], [(false, [.ow 99])]⟩
def sg13 : Sig := ⟨73, [(true, [.sc, .sc, .sc, .sc, .sc, .sc, .sc, .sc, .sc, .fz false])], [], [(true, [.sc, .sc, .sc, .sc, .sc, .sc, .sc, .sc, .sc, .ow 99])]⟩
def sg14 : Sig := ⟨95, [(true, [.sc, .sc, .sc, .sc, .sc])], [], [(true, [.sc, .sc, .sc, .sc, .sc])]⟩
def sg15 : Sig := ⟨96, [(true, [.sc, .fz false])], [], [(true, [.sc, .ow 99])]⟩
def sg16 : Sig := ⟨7, [(false, [.fz false]), (false, [.fz false]), (true, [.sc, .fz false])], [], [(false, [.sc]), (false, [.sc])]⟩
def sg17 : Sig := ⟨20, [(true, [.sc, .fz false])], [], [(false, [.sc])]⟩
def sg18 : Sig := ⟨38, [(false, [.sc])], [], [(false, [.sc])]⟩
def sg19 : Sig := ⟨39, [(false, [.sc]), (true, [.sc, .sc, .sc, .sc, .sc, .sc, .sc, .sc, .sc, .fz false])], [], [(false, [.sc])]⟩
def sg20 : Sig := ⟨68, [(false, [.sc]), (false, [.sc]), (false, [.sc])], [], [(false, [.sc])]⟩
def sg21 : Sig := ⟨44, [(false, [.sc])], [], [(true, [.sc, .ow 99])]⟩
def sg22 : Sig := ⟨69, [(true, [.sc, .fz false]), (true, [.sc, .fz false])], [], [(false, [.sc])]⟩
def sg23 : Sig := ⟨41, [(false, [.fz false]), (false, [.fz false])], [], [(false, [.sc])]⟩
def sg24 : Sig := ⟨70, [(true, [.sc, .sc, .sc, .sc, .sc])], [], [(false, [.sc])]⟩
def sg25 : Sig := ⟨92, [(true, [.sc, .sc, .sc, .sc, .sc])], [], [(false, [.sc])]⟩
def sg26 : Sig := ⟨104, [(false, [.sc])], [], [(false, [.sc])]⟩
def sg27 : Sig := ⟨71, [(false, [.sc]), (true, [.sc, .fz false])], [], [(false, [.sc])]⟩
def sg28 : Sig := ⟨93, [(false, [.fz false]), (false, [.sc]), (false, [.sc])], [], [(false, [.sc])]⟩
def sg29 : Sig := ⟨21, [(true, [.sc, .fz false]), (false, [.fz false])], [], [(false, [.sc])]⟩
def sg30 : Sig := ⟨40, [(false, [.sc]), (false, [.sc]), (false, [.sc])], [], [(false, [.sc])]⟩
def sg31 : Sig := ⟨22, [(false, [.fz false]), (false, [.fz false])], [], [(false, [.sc])]⟩
def sg32 : Sig := ⟨24, [(true, [.sc, .fz false]), (false, [.sc]), (false, [.sc])], [], [(true, [.sc, .sc, .sc, .sc, .sc, .sc, .sc, .sc, .sc, .ow 99])]⟩
def sg33 : Sig := ⟨45, [(true, [.sc, .sc, .sc, .sc, .sc, .sc, .sc, .sc, .sc, .fz false])], [], [(true, [.sc, .sc, .sc, .sc, .sc, .sc, .sc, .sc, .sc, .ow 99])]⟩
def sg34 : Sig := ⟨72, [(true, [.sc, .fz false])], [], [(true, [.sc, .ow 99])]⟩
def sg35 : Sig := ⟨94, [(false, [.fz false])], [], [(false, [.ow 99])]⟩
def sg36 : Sig := ⟨23, [(true, [.sc, .sc, .sc, .sc, .sc]), (true, [.sc, .sc, .sc, .sc, .sc])], [], [(false, [.sc])]⟩
def sg37 : Sig := ⟨42, [(true, [.sc, .sc, .sc, .sc, .sc])], [], [(false, [.fz])]⟩
def sg38 : Sig := ⟨64, [(false, [.fz false]), (false, [.sc])], [], [(false, [.fz])]⟩
def sg39 : Sig := ⟨43, [(false, [.fz false]), (false, [.sc])], [], [(false, [.sc])]⟩
def sg40 : Sig := ⟨10, [(false, [.fz false]), (false, [.fz false]), (true, [.sc, .fz false])], [], [(false, [.sc]), (false, [.sc])]⟩
def sg41 : Sig := ⟨27, [(true, [.sc, .fz false])], [], [(false, [.sc])]⟩
def sg42 : Sig := ⟨47, [(false, [.sc])], [], [(false, [.sc])]⟩
def sg43 : Sig := ⟨48, [(false, [.fz false]), (false, [.clo 49 [.px 0]])], [(true, [(.sc, .sc), (.fz false, .fz)])], [(false, [.sc])]⟩
def sg44 : Sig := ⟨74, [(false, [.fz false]), (false, [.clo 49 [.px 0]])], [(true, [(.sc, .sc), (.fz false, .fz)])], [(false, [.sc])]⟩
def sg45 : Sig := ⟨49, [(false, [.fz false]), (false, [.px 0])], [(true, [(.sc, .sc), (.fz false, .fz)])], [(false, [.sc])]⟩
def sg46 : Sig := ⟨50, [(false, [.fz false]), (false, [.clo 51 [.px 0]])], [(true, [(.sc, .sc), (.fz false, .fz)])], [(false, [.sc])]⟩
def sg47 : Sig := ⟨75, [(false, [.fz false]), (false, [.clo 51 [.px 0]])], [(true, [(.sc, .sc), (.fz false, .fz)])], [(false, [.sc])]⟩
def sg48 : Sig := ⟨51, [(true, [.sc, .sc, .sc, .sc, .sc, .sc, .sc, .sc, .sc, .fz false]), (false, [.px 0])], [(true, [(.sc, .sc), (.fz false, .fz)])], [(false, [.sc])]⟩
def sg49 : Sig := ⟨52, [(false, [.sc]), (true, [.sc, .sc, .sc, .sc, .sc, .sc, .sc, .sc, .sc, .fz false])], [], [(false, [.sc])]⟩
def sg50 : Sig := ⟨76, [(false, [.sc]), (false, [.sc]), (false, [.sc])], [], [(false, [.sc])]⟩
def sg51 : Sig := ⟨77, [(true, [.sc, .sc, .sc, .sc, .sc])], [], [(false, [.sc])]⟩
def sg52 : Sig := ⟨97, [(false, [.sc])], [], [(false, [.sc])]⟩
def sg53 : Sig := ⟨78, [(false, [.sc]), (true, [.sc, .fz false])], [], [(false, [.sc])]⟩
def sg54 : Sig := ⟨83, [(false, [.fz false]), (false, [.clo 98 []])], [], [(false, [.sc])]⟩
def sg55 : Sig := ⟨99, [(false, [.fz false]), (false, [.clo 98 []])], [], [(false, [.sc])]⟩
def sg56 : Sig := ⟨98, [(false, [.sc])], [], [(false, [.sc])]⟩
def sg57 : Sig := ⟨80, [(false, [.sc])], [], [(true, [.sc, .ow 99])]⟩
def sg58 : Sig := ⟨79, [(true, [.sc, .fz false]), (true, [.sc, .fz false])], [], [(false, [.sc])]⟩
def sg59 : Sig := ⟨58, [(false, [.fz false]), (false, [.fz false])], [], [(false, [.sc])]⟩
def sg60 : Sig := ⟨28, [(false, [.sc]), (false, [.fz false])], [], [(false, [.sc])]⟩
def sg61 : Sig := ⟨53, [(false, [.sc]), (false, [.sc]), (false, [.sc])], [], [(false, [.sc])]⟩
def sg62 : Sig := ⟨54, [(false, [.fz false]), (false, [.fz false])], [], [(false, [.sc])]⟩
def sg63 : Sig := ⟨81, [(false, [.fz false]), (false, [.clo 82 [.px 0]])], [(true, [(.fz false, .fz)])], [(false, [.sc])]⟩
def sg64 : Sig := ⟨56, [(false, [.fz false]), (false, [.clo 82 [.px 0]])], [(true, [(.fz false, .fz)])], [(false, [.sc])]⟩
def sg65 : Sig := ⟨82, [(false, [.fz false]), (false, [.px 0])], [(true, [(.fz false, .fz)])], [(false, [.sc])]⟩
def sg66 : Sig := ⟨29, [(true, [.sc, .fz false]), (false, [.fz false]), (false, [.fz false])], [], [(false, [.sc])]⟩
def sg67 : Sig := ⟨60, [(true, [.sc, .fz false]), (false, [.sc]), (false, [.sc])], [], [(true, [.sc, .sc, .sc, .sc, .sc, .sc, .sc, .sc, .sc, .ow 99])]⟩
def sg68 : Sig := ⟨87, [(true, [.sc, .sc, .sc, .sc, .sc, .sc, .sc, .sc, .sc, .fz false])], [], [(true, [.sc, .sc, .sc, .sc, .sc, .sc, .sc, .sc, .sc, .ow 99])]⟩
def sg69 : Sig := ⟨101, [(true, [.sc, .fz false])], [], [(true, [.sc, .ow 99])]⟩
def sg70 : Sig := ⟨105, [(false, [.fz false])], [], [(false, [.ow 99])]⟩
def sg71 : Sig := ⟨59, [(true, [.sc, .sc, .sc, .sc, .sc]), (true, [.sc, .sc, .sc, .sc, .sc])], [], [(false, [.sc])]⟩
def sg72 : Sig := ⟨84, [(true, [.sc, .sc, .sc, .sc, .sc])], [], [(false, [.ow 99])]⟩
def sg73 : Sig := ⟨83, [(false, [.fz false]), (false, [.clo 85 [.px 0]])], [(true, [(.sc, .sc), (.sc, .sc), (.sc, .sc), (.sc, .sc), (.sc, .sc)])], [(false, [.sc])]⟩
def sg74 : Sig := ⟨99, [(false, [.fz false]), (false, [.clo 85 [.px 0]])], [(true, [(.sc, .sc), (.sc, .sc), (.sc, .sc), (.sc, .sc), (.sc, .sc)])], [(false, [.sc])]⟩
def sg75 : Sig := ⟨85, [(false, [.sc]), (false, [.px 0])], [(true, [(.sc, .sc), (.sc, .sc), (.sc, .sc), (.sc, .sc), (.sc, .sc)])], [(false, [.sc])]⟩
def sg76 : Sig := ⟨86, [(false, [.fz false]), (false, [.sc])], [], [(false, [.sc])]⟩
def sg77 : Sig := ⟨100, [(false, [.fz false]), (false, [.sc])], [], [(false, [.sc])]⟩
def sg78 : Sig := ⟨55, [(false, [.fz false]), (false, [.px 0])], [(true, [(.fz false, .fz)])], [(false, [.sc])]⟩
def sg79 : Sig := ⟨56, [(false, [.fz false]), (false, [.clo 57 [.px 0]])], [(true, [(.fz false, .fz)])], [(false, [.sc])]⟩
def sg80 : Sig := ⟨57, [(false, [.fz false]), (false, [.px 0])], [(true, [(.fz false, .fz)])], [(false, [.sc])]⟩
def sg81 : Sig := ⟨11, [(false, [.fz false]), (false, [.fz false])], [], [(false, [.sc])]⟩
def sg82 : Sig := ⟨30, [(false, [.fz false]), (false, [.fz false])], [], [(false, [.sc])]⟩
def sg83 : Sig := ⟨12, [(true, [.sc, .fz false]), (true, [.sc, .fz false])], [], [(false, [.sc])]⟩
def sg84 : Sig := ⟨31, [(false, [.fz false]), (false, [.fz false])], [], [(false, [.sc])]⟩
def sg85 : Sig := ⟨61, [(false, [.fz false]), (false, [.fz false])], [], [(false, [.sc])]⟩
def sg86 : Sig := ⟨88, [(true, [.sc, .sc, .sc, .sc, .sc, .sc, .sc, .sc, .sc, .fz false]), (true, [.sc, .sc, .sc, .sc, .sc, .sc, .sc, .sc, .sc, .fz false])], [], [(false, [.sc])]⟩
def sg87 : Sig := ⟨102, [(true, [.sc, .sc, .sc, .sc, .sc]), (true, [.sc, .sc, .sc, .sc, .sc])], [], [(false, [.sc])]⟩
def sg88 : Sig := ⟨103, [(true, [.sc, .fz false]), (true, [.sc, .fz false])], [], [(false, [.sc])]⟩
def sigs : List (Nat × Sig) := [(0, sg0), (1, sg1), (2, sg2), (3, sg3), (4, sg4), (5, sg5), (6, sg6), (7, sg7), (8, sg8), (9, sg9), (10, sg10), (11, sg11), (12, sg12), (13, sg13), (14, sg14), (15, sg15), (16, sg16), (17, sg17), (18, sg18), (19, sg19), (20, sg20), (21, sg21), (22, sg22), (23, sg23), (24, sg24), (25, sg25), (26, sg26), (27, sg27), (28, sg28), (29, sg29), (30, sg30), (31, sg31), (32, sg32), (33, sg33), (34, sg34), (35, sg35), (36, sg36), (37, sg37), (38, sg38), (39, sg39), (40, sg40), (41, sg41), (42, sg42), (43, sg43), (44, sg44), (45, sg45), (46, sg46), (47, sg47), (48, sg48), (49, sg49), (50, sg50), (51, sg51), (52, sg52), (53, sg53), (54, sg54), (55, sg55), (56, sg56), (57, sg57), (58, sg58), (59, sg59), (60, sg60), (61, sg61), (62, sg62), (63, sg63), (64, sg64), (65, sg65), (66, sg66), (67, sg67), (68, sg68), (69, sg69), (70, sg70), (71, sg71), (72, sg72), (73, sg73), (74, sg74), (75, sg75), (76, sg76), (77, sg77), (78, sg78), (79, sg79), (80, sg80), (81, sg81), (82, sg82), (83, sg83), (84, sg84), (85, sg85), (86, sg86), (87, sg87), (88, sg88)]

/-- laws.FnExactSameOrders -/
def tm0 : Tm Unit :=
  (.call none 1 [.v 0, .c (.int .i64 1048576)] 1 [] <|
  (.lt none (.bin .lss) [.v 4, .c (.int .i64 0)] 1 <|
  (.ite (.v 5)
   (.leaf .ret [.c (.bool true)] ())
   (.call none 1 [.v 1, .v 4] 1 [] <|
   (.lt none (.bin .lss) [.v 6, .c (.int .i64 0)] 1 <|
   (.ite (.v 7)
    (.leaf .ret [.c (.bool true)] ())
    (.call none 3 [.v 2, .v 3, .v 6] 1 [] <|
    (.lt none (.bin .lss) [.v 8, .c (.int .i64 0)] 1 <|
    (.ite (.v 9)
     (.leaf .ret [.c (.bool true)] ())
     (.call none 8 [.v 0] 1 [] <|
     (.call none 8 [.v 1] 1 [] <|
     (.call none 10 [.v 2, .v 3] 2 [] <|
     (.call none 16 [.v 10, .v 11, .v 12, .v 13] 2 [] <|
     (.call none 8 [.v 0] 1 [] <|
     (.call none 8 [.v 1] 1 [] <|
     (.call none 10 [.v 2, .v 3] 2 [] <|
     (.call none 40 [.v 16, .v 17, .v 18, .v 19] 2 [] <|
     (.lt none (.eqb true) [.v 20, .v 14] 1 <|
     (.lt (some (.v 22, false)) .id [.v 21] 1 <|
     (.lt (some (.v 22, false)) .id [.v 15] 1 <|
     (.lt (some (.v 22, false)) (.eqb true) [.v 23, .v 24] 1 <|
     (.lt none .pick [.v 22, .c (.bool true), .v 25] 1 <|
     (.ite (.v 26)
      (.leaf .ret [.c (.bool false)] ())
      (.call none 8 [.v 0] 1 [] <|
      (.call none 81 [.v 16, .v 27] 1 [] <|
      (.lt none .not [.v 28] 1 <|
      (.ite (.v 29)
       (.leaf .ret [.c (.bool false)] ())
       (.call none 8 [.v 1] 1 [] <|
       (.call none 81 [.v 17, .v 30] 1 [] <|
       (.lt none .not [.v 31] 1 <|
       (.ite (.v 32)
        (.leaf .ret [.c (.bool false)] ())
        (.call none 10 [.v 2, .v 3] 2 [] <|
        (.call none 83 [.v 18, .v 19, .v 33, .v 34] 1 [] <|
        (.lt none .not [.v 35] 1 <|
        (.ite (.v 36)
         (.leaf .ret [.c (.bool false)] ())
         (.leaf .ret [.c (.bool true)] ()))))))))))))))))))))))))))))))))))))
/-- laws.szIntSS -/
def tm1 : Tm Unit :=
  (.lt none .len [.v 0] 1 <|
  (.lt none (.bin .sub) [.v 1, .v 2] 1 <|
  (.lt none (.bin .lss) [.v 3, .c (.int .i64 0)] 1 <|
  (.ite (.v 4)
   (.leaf .ret [.c (.int .i64 (-1))] ())
   (.bind 1
    (.loop [.v 3, .c (.int .i64 0)]
     (.lt none .len [.v 0] 1 <|
     (.lt none (.bin .lss) [.v 6, .v 7] 1 <|
     (.ite (.v 8)
      (.lt none .inb [.v 0, .v 6] 0 <|
      (.lt none (.row 1 0 [false]) [.v 0, .v 6] 1 <|
      (.call none 2 [.v 9, .v 5] 1 [] <|
      (.lt none (.bin .lss) [.v 10, .c (.int .i64 0)] 1 <|
      (.ite (.v 11)
       (.leaf .ret [.c (.int .i64 (-1))] ())
       (.lt none (.bin .add) [.v 6, .c (.int .i64 1)] 1 <|
       (.leaf .cont [.v 10, .v 12] ())))))))
      (.leaf (.yield 1) [.v 5] ()))))) <|
   (.leaf .ret [.v 5] ()))))))
/-- laws.szIntS -/
def tm2 : Tm Unit :=
  (.lt none .len [.v 0] 1 <|
  (.lt none (.bin .sub) [.v 1, .v 2] 1 <|
  (.lt none (.bin .lss) [.v 3, .c (.int .i64 0)] 1 <|
  (.ite (.v 4)
   (.leaf .ret [.c (.int .i64 (-1))] ())
   (.leaf .ret [.v 3] ())))))
/-- laws.szTable -/
def tm3 : Tm Unit :=
  (.call none 4 [.v 1, .v 2] 1 [] <|
  (.lt none (.bin .lss) [.v 3, .c (.int .i64 0)] 1 <|
  (.ite (.v 4)
   (.leaf .ret [.c (.int .i64 (-1))] ())
   (.leaf .ret [.v 3] ()))))
/-- laws.szRowSS -/
def tm4 : Tm Unit :=
  (.lt none .len [.v 0] 1 <|
  (.lt none (.bin .sub) [.v 1, .v 2] 1 <|
  (.lt none (.bin .lss) [.v 3, .c (.int .i64 0)] 1 <|
  (.ite (.v 4)
   (.leaf .ret [.c (.int .i64 (-1))] ())
   (.bind 1
    (.loop [.v 3, .c (.int .i64 0)]
     (.lt none .len [.v 0] 1 <|
     (.lt none (.bin .lss) [.v 6, .v 7] 1 <|
     (.ite (.v 8)
      (.lt none .inb [.v 0, .v 6] 0 <|
      (.lt none (.row 1 0 [false]) [.v 0, .v 6] 1 <|
      (.call none 5 [.v 9, .v 5] 1 [] <|
      (.lt none (.bin .lss) [.v 10, .c (.int .i64 0)] 1 <|
      (.ite (.v 11)
       (.leaf .ret [.c (.int .i64 (-1))] ())
       (.lt none (.bin .add) [.v 6, .c (.int .i64 1)] 1 <|
       (.leaf .cont [.v 10, .v 12] ())))))))
      (.leaf (.yield 1) [.v 5] ()))))) <|
   (.leaf .ret [.v 5] ()))))))
/-- laws.szRowS -/
def tm5 : Tm Unit :=
  (.lt none .len [.v 0] 1 <|
  (.lt none (.bin .sub) [.v 1, .v 2] 1 <|
  (.lt none (.bin .lss) [.v 3, .c (.int .i64 0)] 1 <|
  (.ite (.v 4)
   (.leaf .ret [.c (.int .i64 (-1))] ())
   (.bind 1
    (.loop [.v 3, .c (.int .i64 0)]
     (.lt none .len [.v 0] 1 <|
     (.lt none (.bin .lss) [.v 6, .v 7] 1 <|
     (.ite (.v 8)
      (.lt none .inb [.v 0, .v 6] 0 <|
      (.lt none (.row 10 0 [true, true, true, true, true, true, true, true, true, false]) [.v 0, .v 6] 10 <|
      (.call none 6 [.v 9, .v 10, .v 11, .v 12, .v 13, .v 14, .v 15, .v 16, .v 17, .v 18, .v 5] 1 [] <|
      (.lt none (.bin .lss) [.v 19, .c (.int .i64 0)] 1 <|
      (.ite (.v 20)
       (.leaf .ret [.c (.int .i64 (-1))] ())
       (.lt none (.bin .add) [.v 6, .c (.int .i64 1)] 1 <|
       (.leaf .cont [.v 19, .v 21] ())))))))
      (.leaf (.yield 1) [.v 5] ()))))) <|
   (.leaf .ret [.v 5] ()))))))
/-- laws.szRow -/
def tm6 : Tm Unit :=
  (.call none 7 [.v 8, .v 9, .v 10] 1 [] <|
  (.lt none (.bin .lss) [.v 11, .c (.int .i64 0)] 1 <|
  (.ite (.v 12)
   (.leaf .ret [.c (.int .i64 (-1))] ())
   (.leaf .ret [.v 11] ()))))
/-- laws.szAttr -/
def tm7 : Tm Unit :=
  (.call none 2 [.v 1, .v 2] 1 [] <|
  (.lt none (.bin .lss) [.v 3, .c (.int .i64 0)] 1 <|
  (.ite (.v 4)
   (.leaf .ret [.c (.int .i64 (-1))] ())
   (.leaf .ret [.v 3] ()))))
/-- laws.toIntSS -/
def tm8 : Tm Unit :=
  (.lt none .len [.v 0] 1 <|
  (.lt none (.make 24 [(.rows 1 [])]) [.v 1] 1 <|
  (.bind 1
   (.loop [.v 2, .c (.int .i64 0)]
    (.lt none .len [.v 0] 1 <|
    (.lt none (.bin .lss) [.v 4, .v 5] 1 <|
    (.ite (.v 6)
     (.lt none .inb [.v 0, .v 4] 0 <|
     (.lt none (.row 1 0 [false]) [.v 0, .v 4] 1 <|
     (.call none 9 [.v 7] 1 [] <|
     (.lt none .inb [.v 3, .v 4] 0 <|
     (.lt none (.set 1 0 1) [.v 3, .v 4, .v 8] 1 <|
     (.lt none (.bin .add) [.v 4, .c (.int .i64 1)] 1 <|
     (.leaf .cont [.v 9, .v 10] ())))))))
     (.leaf (.yield 1) [.v 3] ()))))) <|
  (.leaf .ret [.v 3] ()))))
/-- laws.toIntS -/
def tm9 : Tm Unit :=
  (.lt none .len [.v 0] 1 <|
  (.lt none (.make 8 [(.int .i64 0)]) [.v 1] 1 <|
  (.bind 1
   (.loop [.v 2, .c (.int .i64 0)]
    (.lt none .len [.v 0] 1 <|
    (.lt none (.bin .lss) [.v 4, .v 5] 1 <|
    (.ite (.v 6)
     (.lt none .inb [.v 0, .v 4] 0 <|
     (.lt none (.row 1 0 [true]) [.v 0, .v 4] 1 <|
     (.lt none .inb [.v 3, .v 4] 0 <|
     (.lt none (.set 1 0 1) [.v 3, .v 4, .v 7] 1 <|
     (.lt none (.bin .add) [.v 4, .c (.int .i64 1)] 1 <|
     (.leaf .cont [.v 8, .v 9] ()))))))
     (.leaf (.yield 1) [.v 3] ()))))) <|
  (.leaf .ret [.v 3] ()))))
/-- laws.toTable -/
def tm10 : Tm Unit :=
  (.call none 11 [.v 1] 1 [] <|
  (.leaf .ret [.v 0, .v 2] ()))
/-- laws.toRowSS -/
def tm11 : Tm Unit :=
  (.lt none .len [.v 0] 1 <|
  (.lt none (.make 24 [(.rows 10 [])]) [.v 1] 1 <|
  (.bind 1
   (.loop [.v 2, .c (.int .i64 0)]
    (.lt none .len [.v 0] 1 <|
    (.lt none (.bin .lss) [.v 4, .v 5] 1 <|
    (.ite (.v 6)
     (.lt none .inb [.v 0, .v 4] 0 <|
     (.lt none (.row 1 0 [false]) [.v 0, .v 4] 1 <|
     (.call none 12 [.v 7] 1 [] <|
     (.lt none .inb [.v 3, .v 4] 0 <|
     (.lt none (.set 1 0 1) [.v 3, .v 4, .v 8] 1 <|
     (.lt none (.bin .add) [.v 4, .c (.int .i64 1)] 1 <|
     (.leaf .cont [.v 9, .v 10] ())))))))
     (.leaf (.yield 1) [.v 3] ()))))) <|
  (.leaf .ret [.v 3] ()))))
/-- laws.toRowS -/
def tm12 : Tm Unit :=
  (.lt none .len [.v 0] 1 <|
  (.lt none (.make 96 [(.int .i64 0), (.int .i64 0), (.int .i64 0), (.int .i64 0), (.int .i64 0), (.int .i64 0), (.int .i64 0), (.int .i64 0), (.int .i64 0), (.rows 1 [])]) [.v 1] 1 <|
  (.bind 1
   (.loop [.v 2, .c (.int .i64 0)]
    (.lt none .len [.v 0] 1 <|
    (.lt none (.bin .lss) [.v 4, .v 5] 1 <|
    (.ite (.v 6)
     (.lt none .inb [.v 0, .v 4] 0 <|
     (.lt none (.row 10 0 [true, true, true, true, true, true, true, true, true, false]) [.v 0, .v 4] 10 <|
     (.call none 13 [.v 7, .v 8, .v 9, .v 10, .v 11, .v 12, .v 13, .v 14, .v 15, .v 16] 10 [] <|
     (.lt none .inb [.v 3, .v 4] 0 <|
     (.lt none (.set 10 0 10) [.v 3, .v 4, .v 17, .v 18, .v 19, .v 20, .v 21, .v 22, .v 23, .v 24, .v 25, .v 26] 1 <|
     (.lt none (.bin .add) [.v 4, .c (.int .i64 1)] 1 <|
     (.leaf .cont [.v 27, .v 28] ())))))))
     (.leaf (.yield 1) [.v 3] ()))))) <|
  (.leaf .ret [.v 3] ()))))
/-- laws.toRow -/
def tm13 : Tm Unit :=
  (.call none 14 [.v 3, .v 4, .v 5, .v 6, .v 7] 5 [] <|
  (.call none 15 [.v 8, .v 9] 2 [] <|
  (.leaf .ret [.v 0, .v 1, .v 2, .v 10, .v 11, .v 12, .v 13, .v 14, .v 15, .v 16] ())))
/-- laws.toCmd -/
def tm14 : Tm Unit :=
  (.leaf .ret [.v 0, .v 1, .v 2, .v 3, .v 4] ())
/-- laws.toAttr -/
def tm15 : Tm Unit :=
  (.call none 9 [.v 1] 1 [] <|
  (.leaf .ret [.v 0, .v 2] ()))
/-- spec.SameOrders -/
def tm16 : Tm Unit :=
  (.call none 17 [.v 2, .v 3] 1 [] <|
  (.lt none .not [.v 4] 1 <|
  (.call (some (.v 5, false)) 29 [.v 2, .v 3, .v 0] 1 [] <|
  (.lt (some (.v 5, false)) .not [.v 6] 1 <|
  (.lt none .pick [.v 5, .c (.bool true), .v 7] 1 <|
  (.call (some (.v 8, false)) 29 [.v 2, .v 3, .v 1] 1 [] <|
  (.lt (some (.v 8, false)) .not [.v 9] 1 <|
  (.lt none .pick [.v 8, .c (.bool true), .v 10] 1 <|
  (.ite (.v 11)
   (.leaf .ret [.c (.bool false), .c (.bool false)] ())
   (.lt none .len [.v 0] 1 <|
   (.bind 1
    (.loop [.c (.int .i64 0)]
     (.lt none (.bin .lss) [.v 13, .v 12] 1 <|
     (.ite (.v 14)
      (.lt none .inb [.v 0, .v 13] 0 <|
      (.lt none (.row 1 0 [false]) [.v 0, .v 13] 1 <|
      (.lt none (.sub 1 false) [.v 0, .c (.int .i64 0), .v 13] 1 <|
      (.lt none .len [.v 16] 1 <|
      (.bind 3
       (.loop [.c (.int .i64 0)]
        (.lt none (.bin .lss) [.v 18, .v 17] 1 <|
        (.ite (.v 19)
         (.lt none .inb [.v 16, .v 18] 0 <|
         (.lt none (.row 1 0 [false]) [.v 16, .v 18] 1 <|
         (.call none 31 [.v 1, .v 20] 1 [] <|
         (.call none 31 [.v 1, .v 15] 1 [] <|
         (.lt none (.bin .geq) [.v 21, .c (.int .i64 0)] 1 <|
         (.lt (some (.v 23, true)) .id [.v 22] 1 <|
         (.lt (some (.v 23, true)) (.bin .geq) [.v 24, .c (.int .i64 0)] 1 <|
         (.lt none .pick [.v 23, .v 25, .c (.bool false)] 1 <|
         (.lt (some (.v 26, true)) .id [.v 21] 1 <|
         (.lt (some (.v 26, true)) .id [.v 22] 1 <|
         (.lt (some (.v 26, true)) (.bin .gtr) [.v 27, .v 28] 1 <|
         (.lt none .pick [.v 26, .v 29, .c (.bool false)] 1 <|
         (.lt (some (.v 30, true)) .inb [.v 20, .c (.int .i64 0)] 0 <|
         (.lt (some (.v 30, true)) (.row 1 0 [true]) [.v 20, .c (.int .i64 0)] 1 <|
         (.lt (some (.v 30, true)) .inb [.v 20, .c (.int .i64 1)] 0 <|
         (.lt (some (.v 30, true)) (.row 1 0 [true]) [.v 20, .c (.int .i64 1)] 1 <|
         (.call (some (.v 30, true)) 32 [.v 2, .v 3, .v 31, .v 32] 10 [] <|
         (.lt (some (.v 30, true)) .inb [.v 15, .c (.int .i64 0)] 0 <|
         (.lt (some (.v 30, true)) (.row 1 0 [true]) [.v 15, .c (.int .i64 0)] 1 <|
         (.lt (some (.v 30, true)) .inb [.v 15, .c (.int .i64 1)] 0 <|
         (.lt (some (.v 30, true)) (.row 1 0 [true]) [.v 15, .c (.int .i64 1)] 1 <|
         (.call (some (.v 30, true)) 32 [.v 2, .v 3, .v 43, .v 44] 10 [] <|
         (.call (some (.v 30, true)) 36 [.v 36, .v 37, .v 38, .v 39, .v 40, .v 48, .v 49, .v 50, .v 51, .v 52] 1 [] <|
         (.lt none .pick [.v 30, .v 55, .c (.bool false)] 1 <|
         (.ite (.v 56)
          (.leaf .ret [.c (.bool false), .c (.bool true)] ())
          (.lt none (.bin .add) [.v 18, .c (.int .i64 1)] 1 <|
          (.leaf .cont [.v 57] ())))))))))))))))))))))))))))
         (.leaf (.yield 3) [] ())))) <|
      (.lt none (.bin .add) [.v 13, .c (.int .i64 1)] 1 <|
      (.leaf .cont [.v 18] ())))))))
      (.leaf (.yield 1) [] ())))) <|
   (.leaf .ret [.c (.bool true), .c (.bool true)] ()))))))))))))
/-- spec.GoodTable -/
def tm17 : Tm Unit :=
  (.call none 18 [.v 0] 1 [] <|
  (.lt none .not [.v 2] 1 <|
  (.lt (some (.v 3, false)) .len [.v 1] 1 <|
  (.lt (some (.v 3, false)) .id [.v 0] 1 <|
  (.lt (some (.v 3, false)) (.bin .neq) [.v 4, .v 5] 1 <|
  (.lt none .pick [.v 3, .c (.bool true), .v 6] 1 <|
  (.ite (.v 7)
   (.leaf .ret [.c (.bool false)] ())
   (.lt none .len [.v 1] 1 <|
   (.bind 1
    (.loop [.c (.int .i64 0)]
     (.lt none (.bin .lss) [.v 9, .v 8] 1 <|
     (.ite (.v 10)
      (.lt none .inb [.v 1, .v 9] 0 <|
      (.lt none (.row 1 0 [false]) [.v 1, .v 9] 1 <|
      (.lt none .len [.v 11] 1 <|
      (.bind 3
       (.loop [.c (.int .i64 0)]
        (.lt none (.bin .lss) [.v 13, .v 12] 1 <|
        (.ite (.v 14)
         (.lt none .inb [.v 11, .v 13] 0 <|
         (.lt none (.row 10 0 [true, true, true, true, true, true, true, true, true, false]) [.v 11, .v 13] 10 <|
         (.call none 19 [.v 0, .v 15, .v 16, .v 17, .v 18, .v 19, .v 20, .v 21, .v 22, .v 23, .v 24] 1 [] <|
         (.lt none .not [.v 25] 1 <|
         (.ite (.v 26)
          (.leaf .ret [.c (.bool false)] ())
          (.lt none (.bin .add) [.v 13, .c (.int .i64 1)] 1 <|
          (.leaf .cont [.v 27] ())))))))
         (.leaf (.yield 3) [] ())))) <|
      (.lt none .len [.v 11] 1 <|
      (.lt none (.bin .gtr) [.v 13, .c (.int .i64 6)] 1 <|
      (.ite (.v 14)
       (.leaf .ret [.c (.bool false)] ())
       (.lt none (.bin .add) [.v 9, .c (.int .i64 1)] 1 <|
       (.leaf .cont [.v 15] ())))))))))
      (.leaf (.yield 1) [] ())))) <|
   (.leaf .ret [.c (.bool true)] ()))))))))))
/-- spec.IsGroup -/
def tm18 : Tm Unit :=
  (.lt none (.bin .eql) [.v 0, .c (.int .i64 3)] 1 <|
  (.lt (some (.v 1, false)) .id [.v 0] 1 <|
  (.lt (some (.v 1, false)) (.bin .eql) [.v 2, .c (.int .i64 5)] 1 <|
  (.lt none .pick [.v 1, .c (.bool true), .v 3] 1 <|
  (.leaf .ret [.v 4] ())))))
/-- spec.l4Row -/
def tm19 : Tm Unit :=
  (.call none 20 [.v 1, .c (.int .i64 0), .c (.int .i64 9999)] 1 [] <|
  (.lt none .not [.v 11] 1 <|
  (.lt (some (.v 12, false)) .id [.v 2] 1 <|
  (.lt (some (.v 12, false)) .id [.v 1] 1 <|
  (.call (some (.v 12, false)) 20 [.v 13, .c (.int .i64 0), .v 14] 1 [] <|
  (.lt (some (.v 12, false)) .not [.v 15] 1 <|
  (.lt none .pick [.v 12, .c (.bool true), .v 16] 1 <|
  (.lt (some (.v 17, false)) .id [.v 3] 1 <|
  (.call (some (.v 17, false)) 20 [.v 18, .c (.int .i64 0), .c (.int .i64 3)] 1 [] <|
  (.lt (some (.v 17, false)) .not [.v 19] 1 <|
  (.lt none .pick [.v 17, .c (.bool true), .v 20] 1 <|
  (.ite (.v 21)
   (.leaf .ret [.c (.bool false)] ())
   (.lt none (.bin .eql) [.v 3, .c (.int .i64 0)] 1 <|
   (.ite (.v 22)
    (.lt none (.bin .eql) [.v 2, .c (.int .i64 0)] 1 <|
    (.lt (some (.v 23, true)) (.eqs [0, 0, 0, 0, 0]) [.v 4, .v 5, .v 6, .v 7, .v 8, .c (.int .i64 0), .c (.int .i64 0), .c (.int .i64 0), .c (.int .i64 0), .c (.int .i64 0)] 1 <|
    (.lt none .pick [.v 23, .v 24, .c (.bool false)] 1 <|
    (.lt (some (.v 25, true)) .id [.v 0] 1 <|
    (.call (some (.v 25, true)) 21 [.v 26] 2 [] <|
    (.call (some (.v 25, true)) 22 [.v 9, .v 10, .v 27, .v 28] 1 [] <|
    (.lt none .pick [.v 25, .v 29, .c (.bool false)] 1 <|
    (.leaf .ret [.v 30] ()))))))))
    (.call none 24 [.v 4, .v 5, .v 6, .v 7, .v 8] 1 [] <|
    (.lt (some (.v 23, true)) .id [.v 0] 1 <|
    (.call (some (.v 23, true)) 27 [.v 24, .v 9, .v 10] 1 [] <|
    (.lt none .pick [.v 23, .v 25, .c (.bool false)] 1 <|
    (.leaf .ret [.v 26] ())))))))))))))))))))
/-- spec.l1In -/
def tm20 : Tm Unit :=
  (.lt none (.bin .geq) [.v 0, .v 1] 1 <|
  (.lt (some (.v 3, true)) .id [.v 0] 1 <|
  (.lt (some (.v 3, true)) .id [.v 2] 1 <|
  (.lt (some (.v 3, true)) (.bin .leq) [.v 4, .v 5] 1 <|
  (.lt none .pick [.v 3, .v 6, .c (.bool false)] 1 <|
  (.leaf .ret [.v 7] ()))))))
/-- spec.l3None -/
def tm21 : Tm Unit :=
  (.lt none (.make 8 [(.int .i64 0)]) [.v 0] 1 <|
  (.leaf .ret [.c (.int .i64 0), .v 1] ()))
/-- spec.SameAttr -/
def tm22 : Tm Unit :=
  (.lt none (.bin .eql) [.v 0, .v 2] 1 <|
  (.call (some (.v 4, true)) 23 [.v 1, .v 3] 1 [] <|
  (.lt none .pick [.v 4, .v 5, .c (.bool false)] 1 <|
  (.leaf .ret [.v 6] ()))))
/-- spec.l1Same -/
def tm23 : Tm Unit :=
  (.lt none .len [.v 0] 1 <|
  (.lt none .len [.v 1] 1 <|
  (.lt none (.bin .neq) [.v 2, .v 3] 1 <|
  (.ite (.v 4)
   (.leaf .ret [.c (.bool false)] ())
   (.lt none .len [.v 0] 1 <|
   (.bind 1
    (.loop [.c (.int .i64 0)]
     (.lt none (.bin .lss) [.v 6, .v 5] 1 <|
     (.ite (.v 7)
      (.lt none .inb [.v 0, .v 6] 0 <|
      (.lt none (.row 1 0 [true]) [.v 0, .v 6] 1 <|
      (.lt none .inb [.v 1, .v 6] 0 <|
      (.lt none (.row 1 0 [true]) [.v 1, .v 6] 1 <|
      (.lt none (.bin .neq) [.v 8, .v 9] 1 <|
      (.ite (.v 10)
       (.leaf .ret [.c (.bool false)] ())
       (.lt none (.bin .add) [.v 6, .c (.int .i64 1)] 1 <|
       (.leaf .cont [.v 11] ()))))))))
      (.leaf (.yield 1) [] ())))) <|
   (.leaf .ret [.c (.bool true)] ())))))))
/-- spec.GoodCmd -/
def tm24 : Tm Unit :=
  (.lt none (.bin .eql) [.v 0, .c (.int .i64 0)] 1 <|
  (.ite (.v 5)
   (.lt none (.eqs [0, 0, 0, 0, 0]) [.v 0, .v 1, .v 2, .v 3, .v 4, .c (.int .i64 0), .c (.int .i64 0), .c (.int .i64 0), .c (.int .i64 0), .c (.int .i64 0)] 1 <|
   (.leaf .ret [.v 6] ()))
   (.lt none (.bin .eql) [.v 0, .c (.int .i64 1)] 1 <|
   (.ite (.v 6)
    (.call none 25 [.v 0, .v 1, .v 2, .v 3, .v 4] 1 [] <|
    (.lt none (.bin .eql) [.v 7, .c (.int .i64 0)] 1 <|
    (.leaf .ret [.v 8] ())))
    (.lt none (.bin .eql) [.v 0, .c (.int .i64 2)] 1 <|
    (.ite (.v 7)
     (.call none 25 [.v 0, .v 1, .v 2, .v 3, .v 4] 1 [] <|
     (.lt none (.bin .eql) [.v 8, .c (.int .i64 0)] 1 <|
     (.lt (some (.v 9, true)) .id [.v 3] 1 <|
     (.lt (some (.v 9, true)) (.bin .eql) [.v 10, .c (.int .i64 0)] 1 <|
     (.lt none .pick [.v 9, .v 11, .c (.bool false)] 1 <|
     (.lt (some (.v 12, true)) .id [.v 4] 1 <|
     (.lt (some (.v 12, true)) (.bin .eql) [.v 13, .c (.int .i64 0)] 1 <|
     (.lt none .pick [.v 12, .v 14, .c (.bool false)] 1 <|
     (.leaf .ret [.v 15] ())))))))))
     (.leaf .ret [.c (.bool false)] ())))))))
/-- spec.l2Code -/
def tm25 : Tm Unit :=
  (.lt none (.bin .eql) [.v 0, .c (.int .i64 1)] 1 <|
  (.call none 26 [.v 2] 1 [] <|
  (.lt none .not [.v 6] 1 <|
  (.lt (some (.v 7, false)) .id [.v 5] 1 <|
  (.lt (some (.v 7, false)) .id [.v 8] 1 <|
  (.lt (some (.v 9, true)) .id [.v 3] 1 <|
  (.call (some (.v 9, true)) 26 [.v 10] 1 [] <|
  (.lt (some (.v 9, true)) .not [.v 11] 1 <|
  (.lt (some (.v 7, false)) .pick [.v 9, .v 12, .c (.bool false)] 1 <|
  (.lt none .pick [.v 7, .c (.bool true), .v 13] 1 <|
  (.ite (.v 14)
   (.leaf .ret [.c (.int .i64 4)] ())
   (.lt (some (.v 5, true)) .id [.v 2] 1 <|
   (.lt (some (.v 5, true)) .id [.v 3] 1 <|
   (.lt (some (.v 5, true)) (.bin .eql) [.v 15, .v 16] 1 <|
   (.lt none .pick [.v 5, .v 17, .c (.bool false)] 1 <|
   (.ite (.v 18)
    (.leaf .ret [.c (.int .i64 5)] ())
    (.call none 20 [.v 1, .c (.int .i64 1), .c (.int .i64 999)] 1 [] <|
    (.lt none .not [.v 19] 1 <|
    (.lt (some (.v 20, false)) .id [.v 5] 1 <|
    (.lt (some (.v 20, false)) .id [.v 21] 1 <|
    (.lt (some (.v 22, true)) .id [.v 4] 1 <|
    (.call (some (.v 22, true)) 20 [.v 23, .c (.int .i64 1), .c (.int .i64 1000)] 1 [] <|
    (.lt (some (.v 22, true)) .not [.v 24] 1 <|
    (.lt (some (.v 20, false)) .pick [.v 22, .v 25, .c (.bool false)] 1 <|
    (.lt none .pick [.v 20, .c (.bool true), .v 26] 1 <|
    (.ite (.v 27)
     (.leaf .ret [.c (.int .i64 6)] ())
     (.leaf .ret [.c (.int .i64 0)] ())))))))))))))))))))))))))))
/-- spec.l2Account -/
def tm26 : Tm Unit :=
  (.call none 20 [.v 0, .c (.int .i64 0), .c (.int .i64 3)] 1 [] <|
  (.leaf .ret [.v 1] ()))
/-- spec.l3Attr -/
def tm27 : Tm Unit :=
  (.call none 20 [.v 1, .c (.int .i64 0), .c (.int .i64 999)] 1 [] <|
  (.lt (some (.v 3, true)) .len [.v 2] 1 <|
  (.lt (some (.v 3, true)) .id [.v 0] 1 <|
  (.lt (some (.v 3, true)) (.bin .eql) [.v 4, .v 5] 1 <|
  (.lt none .pick [.v 3, .v 6, .c (.bool false)] 1 <|
  (.call (some (.v 7, true)) 28 [.v 2, .c (.int .i64 0), .c (.int .i64 6)] 1 [] <|
  (.lt none .pick [.v 7, .v 8, .c (.bool false)] 1 <|
  (.leaf .ret [.v 9] ()))))))))
/-- spec.l1All -/
def tm28 : Tm Unit :=
  (.lt none .len [.v 0] 1 <|
  (.bind 1
   (.loop [.c (.int .i64 0)]
    (.lt none (.bin .lss) [.v 4, .v 3] 1 <|
    (.ite (.v 5)
     (.lt none .inb [.v 0, .v 4] 0 <|
     (.lt none (.row 1 0 [true]) [.v 0, .v 4] 1 <|
     (.call none 20 [.v 6, .v 1, .v 2] 1 [] <|
     (.lt none .not [.v 7] 1 <|
     (.ite (.v 8)
      (.leaf .ret [.c (.bool false)] ())
      (.lt none (.bin .add) [.v 4, .c (.int .i64 1)] 1 <|
      (.leaf .cont [.v 9] ())))))))
     (.leaf (.yield 1) [] ())))) <|
  (.leaf .ret [.c (.bool true)] ())))
/-- spec.l6Insts -/
def tm29 : Tm Unit :=
  (.lt none .len [.v 2] 1 <|
  (.bind 1
   (.loop [.c (.int .i64 0)]
    (.lt none (.bin .lss) [.v 4, .v 3] 1 <|
    (.ite (.v 5)
     (.lt none .inb [.v 2, .v 4] 0 <|
     (.lt none (.row 1 0 [false]) [.v 2, .v 4] 1 <|
     (.lt none .len [.v 6] 1 <|
     (.lt none (.bin .neq) [.v 7, .c (.int .i64 2)] 1 <|
     (.lt (some (.v 8, false)) .id [.v 0] 1 <|
     (.lt (some (.v 8, false)) .inb [.v 6, .c (.int .i64 0)] 0 <|
     (.lt (some (.v 8, false)) (.row 1 0 [true]) [.v 6, .c (.int .i64 0)] 1 <|
     (.lt (some (.v 8, false)) .inb [.v 6, .c (.int .i64 1)] 0 <|
     (.lt (some (.v 8, false)) (.row 1 0 [true]) [.v 6, .c (.int .i64 1)] 1 <|
     (.call (some (.v 8, false)) 30 [.v 9, .v 10, .v 11] 1 [] <|
     (.lt (some (.v 8, false)) .not [.v 12] 1 <|
     (.lt none .pick [.v 8, .c (.bool true), .v 13] 1 <|
     (.lt (some (.v 14, false)) .id [.v 4] 1 <|
     (.lt (some (.v 14, false)) (.sub 1 false) [.v 2, .c (.int .i64 0), .v 15] 1 <|
     (.call (some (.v 14, false)) 31 [.v 16, .v 6] 1 [] <|
     (.lt (some (.v 14, false)) (.bin .geq) [.v 17, .c (.int .i64 0)] 1 <|
     (.lt none .pick [.v 14, .c (.bool true), .v 18] 1 <|
     (.ite (.v 19)
      (.leaf .ret [.c (.bool false)] ())
      (.lt none (.bin .add) [.v 4, .c (.int .i64 1)] 1 <|
      (.leaf .cont [.v 20] ()))))))))))))))))))))
     (.leaf (.yield 1) [] ())))) <|
  (.leaf .ret [.c (.bool true)] ())))
/-- spec.l3Inst -/
def tm30 : Tm Unit :=
  (.lt none (.bin .sub) [.v 0, .c (.int .i64 1)] 1 <|
  (.call none 20 [.v 1, .c (.int .i64 0), .v 3] 1 [] <|
  (.lt (some (.v 4, true)) .id [.v 2] 1 <|
  (.call (some (.v 4, true)) 20 [.v 5, .c (.int .i64 1), .c (.int .i64 6)] 1 [] <|
  (.lt none .pick [.v 4, .v 6, .c (.bool false)] 1 <|
  (.leaf .ret [.v 7] ()))))))
/-- spec.l6Find -/
def tm31 : Tm Unit :=
  (.lt none .len [.v 0] 1 <|
  (.bind 1
   (.loop [.c (.int .i64 0)]
    (.lt none (.bin .lss) [.v 3, .v 2] 1 <|
    (.ite (.v 4)
     (.lt none .inb [.v 0, .v 3] 0 <|
     (.lt none (.row 1 0 [false]) [.v 0, .v 3] 1 <|
     (.call none 23 [.v 1, .v 5] 1 [] <|
     (.ite (.v 6)
      (.leaf .ret [.v 3] ())
      (.lt none (.bin .add) [.v 3, .c (.int .i64 1)] 1 <|
      (.leaf .cont [.v 7] ()))))))
     (.leaf (.yield 1) [] ())))) <|
  (.leaf .ret [.c (.int .i64 (-1))] ())))
/-- spec.l4At -/
def tm32 : Tm Unit :=
  (.lt none .inb [.v 1, .v 2] 0 <|
  (.lt none (.row 1 0 [false]) [.v 1, .v 2] 1 <|
  (.lt none .len [.v 4] 1 <|
  (.lt none (.bin .gtr) [.v 3, .v 5] 1 <|
  (.ite (.v 6)
   (.call none 21 [.v 0] 2 [] <|
   (.leaf .ret [.c (.int .i64 0), .c (.int .i64 0), .c (.int .i64 0), .c (.int .i64 0), .c (.int .i64 0), .c (.int .i64 0), .c (.int .i64 0), .c (.int .i64 0), .v 7, .v 8] ()))
   (.lt none .inb [.v 1, .v 2] 0 <|
   (.lt none (.row 1 0 [false]) [.v 1, .v 2] 1 <|
   (.lt none (.bin .sub) [.v 3, .c (.int .i64 1)] 1 <|
   (.lt none .inb [.v 7, .v 8] 0 <|
   (.lt none (.row 10 0 [true, true, true, true, true, true, true, true, true, false]) [.v 7, .v 8] 10 <|
   (.call none 33 [.v 9, .v 10, .v 11, .v 12, .v 13, .v 14, .v 15, .v 16, .v 17, .v 18] 10 [] <|
   (.leaf .ret [.v 19, .v 20, .v 21, .v 22, .v 23, .v 24, .v 25, .v 26, .v 27, .v 28] ()))))))))))))
/-- spec.l4OwnRow -/
def tm33 : Tm Unit :=
  (.call none 34 [.v 8, .v 9] 2 [] <|
  (.leaf .ret [.v 0, .v 1, .v 2, .v 3, .v 4, .v 5, .v 6, .v 7, .v 10, .v 11] ()))
/-- spec.l4OwnAttr -/
def tm34 : Tm Unit :=
  (.call none 35 [.v 1] 1 [] <|
  (.leaf .ret [.v 0, .v 2] ()))
/-- spec.l1Own -/
def tm35 : Tm Unit :=
  (.lt none (.mk 1 0) [] 1 <|
  (.lt none (.app 1 8 true) [.v 1, .v 0] 1 <|
  (.leaf .ret [.v 2] ())))
/-- spec.l2Interfere -/
def tm36 : Tm Unit :=
  (.call none 37 [.v 0, .v 1, .v 2, .v 3, .v 4] 1 [] <|
  (.lt none .len [.v 10] 1 <|
  (.bind 1
   (.loop [.c (.int .i64 0)]
    (.lt none (.bin .lss) [.v 12, .v 11] 1 <|
    (.ite (.v 13)
     (.lt none .inb [.v 10, .v 12] 0 <|
     (.lt none (.row 1 0 [true]) [.v 10, .v 12] 1 <|
     (.call none 37 [.v 5, .v 6, .v 7, .v 8, .v 9] 1 [] <|
     (.call none 39 [.v 15, .v 14] 1 [] <|
     (.ite (.v 16)
      (.leaf .ret [.c (.bool true)] ())
      (.lt none (.bin .add) [.v 12, .c (.int .i64 1)] 1 <|
      (.leaf .cont [.v 17] ())))))))
     (.leaf (.yield 1) [] ())))) <|
  (.leaf .ret [.c (.bool false)] ()))))
/-- spec.l2Touches -/
def tm37 : Tm Unit :=
  (.lt none (.bin .eql) [.v 0, .c (.int .i64 1)] 1 <|
  (.ite (.v 5)
   (.lt none (.mk 1 1) [.v 2] 1 <|
   (.call none 38 [.v 6, .v 3] 1 [] <|
   (.leaf .ret [.v 7] ())))
   (.lt none (.bin .eql) [.v 0, .c (.int .i64 2)] 1 <|
   (.ite (.v 6)
    (.lt none (.mk 1 1) [.v 2] 1 <|
    (.leaf .ret [.v 7] ()))
    (.leaf .ret [.c (.rows 1 [])] ())))))
/-- spec.l1Put -/
def tm38 : Tm Unit :=
  (.bind 1
   (.loop [.c (.int .i64 0)]
    (.lt none .len [.v 0] 1 <|
    (.lt none (.bin .lss) [.v 2, .v 3] 1 <|
    (.lt (some (.v 4, true)) .id [.v 2] 1 <|
    (.lt (some (.v 4, true)) .inb [.v 0, .v 5] 0 <|
    (.lt (some (.v 4, true)) (.row 1 0 [true]) [.v 0, .v 5] 1 <|
    (.lt (some (.v 4, true)) .id [.v 1] 1 <|
    (.lt (some (.v 4, true)) (.bin .lss) [.v 6, .v 7] 1 <|
    (.lt none .pick [.v 4, .v 8, .c (.bool false)] 1 <|
    (.ite (.v 9)
     (.lt none (.bin .add) [.v 2, .c (.int .i64 1)] 1 <|
     (.leaf .cont [.v 10] ()))
     (.leaf (.yield 1) [.v 2] ()))))))))))) <|
  (.lt none .len [.v 0] 1 <|
  (.lt none (.bin .lss) [.v 2, .v 3] 1 <|
  (.lt (some (.v 4, true)) .id [.v 2] 1 <|
  (.lt (some (.v 4, true)) .inb [.v 0, .v 5] 0 <|
  (.lt (some (.v 4, true)) (.row 1 0 [true]) [.v 0, .v 5] 1 <|
  (.lt (some (.v 4, true)) .id [.v 1] 1 <|
  (.lt (some (.v 4, true)) (.bin .eql) [.v 6, .v 7] 1 <|
  (.lt none .pick [.v 4, .v 8, .c (.bool false)] 1 <|
  (.ite (.v 9)
   (.leaf .ret [.v 0] ())
   (.lt none (.mk 1 0) [] 1 <|
   (.lt none (.sub 1 false) [.v 0, .c (.int .i64 0), .v 2] 1 <|
   (.lt none (.app 1 8 true) [.v 10, .v 11] 1 <|
   (.lt none (.mk 1 1) [.v 1] 1 <|
   (.lt none (.app 1 8 true) [.v 12, .v 13] 1 <|
   (.lt none .len [.v 0] 1 <|
   (.lt none (.sub 1 false) [.v 0, .v 2, .v 15] 1 <|
   (.lt none (.app 1 8 true) [.v 14, .v 16] 1 <|
   (.leaf .ret [.v 17] ())))))))))))))))))))
/-- spec.l1Has -/
def tm39 : Tm Unit :=
  (.lt none .len [.v 0] 1 <|
  (.bind 1
   (.loop [.c (.int .i64 0)]
    (.lt none (.bin .lss) [.v 3, .v 2] 1 <|
    (.ite (.v 4)
     (.lt none .inb [.v 0, .v 3] 0 <|
     (.lt none (.row 1 0 [true]) [.v 0, .v 3] 1 <|
     (.lt none (.bin .eql) [.v 5, .v 1] 1 <|
     (.ite (.v 6)
      (.leaf .ret [.c (.bool true)] ())
      (.lt none (.bin .add) [.v 3, .c (.int .i64 1)] 1 <|
      (.leaf .cont [.v 7] ()))))))
     (.leaf (.yield 1) [] ())))) <|
  (.leaf .ret [.c (.bool false)] ())))
/-- impl.SameOrders -/
def tm40 : Tm Unit :=
  (.call none 41 [.v 2, .v 3] 1 [] <|
  (.lt none .not [.v 4] 1 <|
  (.lt (some (.v 5, false)) .id [.v 2] 1 <|
  (.call (some (.v 5, false)) 60 [.v 6, .v 0] 1 [] <|
  (.lt (some (.v 5, false)) .not [.v 7] 1 <|
  (.lt none .pick [.v 5, .c (.bool true), .v 8] 1 <|
  (.lt (some (.v 9, false)) .id [.v 2] 1 <|
  (.call (some (.v 9, false)) 60 [.v 10, .v 1] 1 [] <|
  (.lt (some (.v 9, false)) .not [.v 11] 1 <|
  (.lt none .pick [.v 9, .c (.bool true), .v 12] 1 <|
  (.ite (.v 13)
   (.leaf .ret [.c (.bool false), .c (.bool false)] ())
   (.call none 66 [.v 2, .v 3, .v 0, .v 1] 1 [] <|
   (.leaf .ret [.v 14, .c (.bool true)] ())))))))))))))
/-- impl.GoodTable -/
def tm41 : Tm Unit :=
  (.call none 42 [.v 0] 1 [] <|
  (.lt (some (.v 2, true)) .len [.v 1] 1 <|
  (.lt (some (.v 2, true)) .id [.v 0] 1 <|
  (.lt (some (.v 2, true)) (.bin .eql) [.v 3, .v 4] 1 <|
  (.lt none .pick [.v 2, .v 5, .c (.bool false)] 1 <|
  (.call (some (.v 6, true)) 43 [.v 1, .v 0, .v 1] 1 [] <|
  (.lt (some (.v 6, true)) .not [.v 7] 1 <|
  (.lt none .pick [.v 6, .v 8, .c (.bool false)] 1 <|
  (.leaf .ret [.v 9] ())))))))))
/-- impl.IsGroup -/
def tm42 : Tm Unit :=
  (.lt none (.bin .eql) [.v 0, .c (.int .i64 3)] 1 <|
  (.lt (some (.v 1, false)) .id [.v 0] 1 <|
  (.lt (some (.v 1, false)) (.bin .eql) [.v 2, .c (.int .i64 5)] 1 <|
  (.lt none .pick [.v 1, .c (.bool true), .v 3] 1 <|
  (.leaf .ret [.v 4] ())))))
/-- slices.ContainsFunc[[][]impl.Row,[]impl.Row]@impl.GoodTable$1 -/
def tm43 : Tm Unit :=
  (.call none 44 [.v 0, .v 1, .v 2] 1 [] <|
  (.lt none (.bin .geq) [.v 3, .c (.int .i64 0)] 1 <|
  (.leaf .ret [.v 4] ())))
/-- slices.IndexFunc[[][]impl.Row,[]impl.Row]@impl.GoodTable$1 -/
def tm44 : Tm Unit :=
  (.lt none .len [.v 0] 1 <|
  (.bind 1
   (.loop [.c (.int .i64 0)]
    (.lt none (.bin .lss) [.v 4, .v 3] 1 <|
    (.ite (.v 5)
     (.lt none .inb [.v 0, .v 4] 0 <|
     (.lt none (.row 1 0 [false]) [.v 0, .v 4] 1 <|
     (.call none 45 [.v 6, .v 1, .v 2] 1 [] <|
     (.ite (.v 7)
      (.leaf .ret [.v 4] ())
      (.lt none (.bin .add) [.v 4, .c (.int .i64 1)] 1 <|
      (.leaf .cont [.v 8] ()))))))
     (.leaf (.yield 1) [] ())))) <|
  (.leaf .ret [.c (.int .i64 (-1))] ())))
/-- impl.GoodTable$1 -/
def tm45 : Tm Unit :=
  (.lt none .len [.v 0] 1 <|
  (.lt none (.bin .gtr) [.v 3, .c (.int .i64 6)] 1 <|
  (.call (some (.v 4, false)) 46 [.v 0, .v 1, .v 2] 1 [] <|
  (.lt none .pick [.v 4, .c (.bool true), .v 5] 1 <|
  (.leaf .ret [.v 6] ())))))
/-- slices.ContainsFunc[[]impl.Row,impl.Row]@impl.GoodTable$1$1 -/
def tm46 : Tm Unit :=
  (.call none 47 [.v 0, .v 1, .v 2] 1 [] <|
  (.lt none (.bin .geq) [.v 3, .c (.int .i64 0)] 1 <|
  (.leaf .ret [.v 4] ())))
/-- slices.IndexFunc[[]impl.Row,impl.Row]@impl.GoodTable$1$1 -/
def tm47 : Tm Unit :=
  (.lt none .len [.v 0] 1 <|
  (.bind 1
   (.loop [.c (.int .i64 0)]
    (.lt none (.bin .lss) [.v 4, .v 3] 1 <|
    (.ite (.v 5)
     (.lt none .inb [.v 0, .v 4] 0 <|
     (.lt none (.row 10 0 [true, true, true, true, true, true, true, true, true, false]) [.v 0, .v 4] 10 <|
     (.call none 48 [.v 6, .v 7, .v 8, .v 9, .v 10, .v 11, .v 12, .v 13, .v 14, .v 15, .v 1, .v 2] 1 [] <|
     (.ite (.v 16)
      (.leaf .ret [.v 4] ())
      (.lt none (.bin .add) [.v 4, .c (.int .i64 1)] 1 <|
      (.leaf .cont [.v 17] ()))))))
     (.leaf (.yield 1) [] ())))) <|
  (.leaf .ret [.c (.int .i64 (-1))] ())))
/-- impl.GoodTable$1$1 -/
def tm48 : Tm Unit :=
  (.call none 49 [.v 10, .v 0, .v 1, .v 2, .v 3, .v 4, .v 5, .v 6, .v 7, .v 8, .v 9] 1 [] <|
  (.lt none .not [.v 12] 1 <|
  (.leaf .ret [.v 13] ())))
/-- impl.goodRow -/
def tm49 : Tm Unit :=
  (.call none 50 [.v 1, .c (.int .i64 0), .c (.int .i64 9999)] 1 [] <|
  (.lt none .not [.v 11] 1 <|
  (.lt (some (.v 12, false)) .id [.v 2] 1 <|
  (.lt (some (.v 12, false)) .id [.v 1] 1 <|
  (.call (some (.v 12, false)) 50 [.v 13, .c (.int .i64 0), .v 14] 1 [] <|
  (.lt (some (.v 12, false)) .not [.v 15] 1 <|
  (.lt none .pick [.v 12, .c (.bool true), .v 16] 1 <|
  (.lt (some (.v 17, false)) .id [.v 3] 1 <|
  (.call (some (.v 17, false)) 50 [.v 18, .c (.int .i64 0), .c (.int .i64 3)] 1 [] <|
  (.lt (some (.v 17, false)) .not [.v 19] 1 <|
  (.lt none .pick [.v 17, .c (.bool true), .v 20] 1 <|
  (.call (some (.v 21, false)) 51 [.v 4, .v 5, .v 6, .v 7, .v 8] 1 [] <|
  (.lt (some (.v 21, false)) .not [.v 22] 1 <|
  (.lt none .pick [.v 21, .c (.bool true), .v 23] 1 <|
  (.lt (some (.v 24, false)) .id [.v 0] 1 <|
  (.call (some (.v 24, false)) 53 [.v 25, .v 9, .v 10] 1 [] <|
  (.lt (some (.v 24, false)) .not [.v 26] 1 <|
  (.lt none .pick [.v 24, .c (.bool true), .v 27] 1 <|
  (.ite (.v 28)
   (.leaf .ret [.c (.bool false)] ())
   (.lt none (.bin .neq) [.v 3, .c (.int .i64 0)] 1 <|
   (.lt (some (.v 29, false)) .id [.v 2] 1 <|
   (.lt (some (.v 29, false)) (.bin .eql) [.v 30, .c (.int .i64 0)] 1 <|
   (.lt (some (.v 29, false)) .id [.v 31] 1 <|
   (.lt (some (.v 32, true)) (.eqs [0, 0, 0, 0, 0]) [.v 4, .v 5, .v 6, .v 7, .v 8, .c (.int .i64 0), .c (.int .i64 0), .c (.int .i64 0), .c (.int .i64 0), .c (.int .i64 0)] 1 <|
   (.lt (some (.v 29, false)) .pick [.v 32, .v 33, .c (.bool false)] 1 <|
   (.lt (some (.v 29, false)) .id [.v 34] 1 <|
   (.lt (some (.v 35, true)) .id [.v 0] 1 <|
   (.call (some (.v 35, true)) 57 [.v 36] 2 [] <|
   (.call (some (.v 35, true)) 58 [.v 9, .v 10, .v 37, .v 38] 1 [] <|
   (.lt (some (.v 29, false)) .pick [.v 35, .v 39, .c (.bool false)] 1 <|
   (.lt none .pick [.v 29, .c (.bool true), .v 40] 1 <|
   (.leaf .ret [.v 41] ()))))))))))))))))))))))))))))))))
/-- impl.within -/
def tm50 : Tm Unit :=
  (.lt none (.bin .leq) [.v 1, .v 0] 1 <|
  (.lt (some (.v 3, true)) .id [.v 0] 1 <|
  (.lt (some (.v 3, true)) .id [.v 2] 1 <|
  (.lt (some (.v 3, true)) (.bin .leq) [.v 4, .v 5] 1 <|
  (.lt none .pick [.v 3, .v 6, .c (.bool false)] 1 <|
  (.leaf .ret [.v 7] ()))))))
/-- impl.GoodCmd -/
def tm51 : Tm Unit :=
  (.lt none (.bin .eql) [.v 0, .c (.int .i64 0)] 1 <|
  (.ite (.v 5)
   (.lt none (.eqs [0, 0, 0, 0, 0]) [.v 0, .v 1, .v 2, .v 3, .v 4, .c (.int .i64 0), .c (.int .i64 0), .c (.int .i64 0), .c (.int .i64 0), .c (.int .i64 0)] 1 <|
   (.leaf .ret [.v 6] ()))
   (.lt none (.bin .eql) [.v 0, .c (.int .i64 1)] 1 <|
   (.ite (.v 6)
    (.call none 50 [.v 1, .c (.int .i64 1), .c (.int .i64 999)] 1 [] <|
    (.lt (some (.v 7, true)) .id [.v 2] 1 <|
    (.call (some (.v 7, true)) 52 [.v 8] 1 [] <|
    (.lt none .pick [.v 7, .v 9, .c (.bool false)] 1 <|
    (.lt (some (.v 10, true)) .id [.v 3] 1 <|
    (.call (some (.v 10, true)) 52 [.v 11] 1 [] <|
    (.lt none .pick [.v 10, .v 12, .c (.bool false)] 1 <|
    (.lt (some (.v 13, true)) .id [.v 2] 1 <|
    (.lt (some (.v 13, true)) .id [.v 3] 1 <|
    (.lt (some (.v 13, true)) (.bin .neq) [.v 14, .v 15] 1 <|
    (.lt none .pick [.v 13, .v 16, .c (.bool false)] 1 <|
    (.lt (some (.v 17, true)) .id [.v 4] 1 <|
    (.call (some (.v 17, true)) 50 [.v 18, .c (.int .i64 1), .c (.int .i64 1000)] 1 [] <|
    (.lt none .pick [.v 17, .v 19, .c (.bool false)] 1 <|
    (.leaf .ret [.v 20] ())))))))))))))))
    (.lt none (.bin .eql) [.v 0, .c (.int .i64 2)] 1 <|
    (.lt (some (.v 7, true)) .id [.v 1] 1 <|
    (.call (some (.v 7, true)) 50 [.v 8, .c (.int .i64 1), .c (.int .i64 999)] 1 [] <|
    (.lt none .pick [.v 7, .v 9, .c (.bool false)] 1 <|
    (.lt (some (.v 10, true)) .id [.v 2] 1 <|
    (.call (some (.v 10, true)) 52 [.v 11] 1 [] <|
    (.lt none .pick [.v 10, .v 12, .c (.bool false)] 1 <|
    (.lt (some (.v 13, true)) .id [.v 3] 1 <|
    (.lt (some (.v 13, true)) (.bin .eql) [.v 14, .c (.int .i64 0)] 1 <|
    (.lt none .pick [.v 13, .v 15, .c (.bool false)] 1 <|
    (.lt (some (.v 16, true)) .id [.v 4] 1 <|
    (.lt (some (.v 16, true)) (.bin .eql) [.v 17, .c (.int .i64 0)] 1 <|
    (.lt none .pick [.v 16, .v 18, .c (.bool false)] 1 <|
    (.leaf .ret [.v 19] ()))))))))))))))))))
/-- impl.isAccount -/
def tm52 : Tm Unit :=
  (.call none 50 [.v 0, .c (.int .i64 0), .c (.int .i64 3)] 1 [] <|
  (.leaf .ret [.v 1] ()))
/-- impl.GoodAttr -/
def tm53 : Tm Unit :=
  (.call none 42 [.v 0] 1 [] <|
  (.lt (some (.v 3, true)) .id [.v 1] 1 <|
  (.call (some (.v 3, true)) 50 [.v 4, .c (.int .i64 0), .c (.int .i64 999)] 1 [] <|
  (.lt none .pick [.v 3, .v 5, .c (.bool false)] 1 <|
  (.lt (some (.v 6, true)) .len [.v 2] 1 <|
  (.lt (some (.v 6, true)) .id [.v 0] 1 <|
  (.lt (some (.v 6, true)) (.bin .eql) [.v 7, .v 8] 1 <|
  (.lt none .pick [.v 6, .v 9, .c (.bool false)] 1 <|
  (.call (some (.v 10, true)) 54 [.v 2] 1 [] <|
  (.lt (some (.v 10, true)) .not [.v 11] 1 <|
  (.lt none .pick [.v 10, .v 12, .c (.bool false)] 1 <|
  (.leaf .ret [.v 13] ()))))))))))))
/-- slices.ContainsFunc[[]int,int]@impl.GoodAttr$1 -/
def tm54 : Tm Unit :=
  (.call none 55 [.v 0] 1 [] <|
  (.lt none (.bin .geq) [.v 1, .c (.int .i64 0)] 1 <|
  (.leaf .ret [.v 2] ())))
/-- slices.IndexFunc[[]int,int]@impl.GoodAttr$1 -/
def tm55 : Tm Unit :=
  (.lt none .len [.v 0] 1 <|
  (.bind 1
   (.loop [.c (.int .i64 0)]
    (.lt none (.bin .lss) [.v 2, .v 1] 1 <|
    (.ite (.v 3)
     (.lt none .inb [.v 0, .v 2] 0 <|
     (.lt none (.row 1 0 [true]) [.v 0, .v 2] 1 <|
     (.call none 56 [.v 4] 1 [] <|
     (.ite (.v 5)
      (.leaf .ret [.v 2] ())
      (.lt none (.bin .add) [.v 2, .c (.int .i64 1)] 1 <|
      (.leaf .cont [.v 6] ()))))))
     (.leaf (.yield 1) [] ())))) <|
  (.leaf .ret [.c (.int .i64 (-1))] ())))
/-- impl.GoodAttr$1 -/
def tm56 : Tm Unit :=
  (.call none 50 [.v 0, .c (.int .i64 0), .c (.int .i64 6)] 1 [] <|
  (.lt none .not [.v 1] 1 <|
  (.leaf .ret [.v 2] ())))
/-- impl.noneAttr -/
def tm57 : Tm Unit :=
  (.lt none (.make 8 [(.int .i64 0)]) [.v 0] 1 <|
  (.leaf .ret [.c (.int .i64 0), .v 1] ()))
/-- impl.SameAttr -/
def tm58 : Tm Unit :=
  (.lt none (.bin .eql) [.v 0, .v 2] 1 <|
  (.call (some (.v 4, true)) 59 [.v 1, .v 3] 1 [] <|
  (.lt none .pick [.v 4, .v 5, .c (.bool false)] 1 <|
  (.leaf .ret [.v 6] ()))))
/-- slices.Equal[[]int,int] -/
def tm59 : Tm Unit :=
  (.lt none .len [.v 0] 1 <|
  (.lt none .len [.v 1] 1 <|
  (.lt none (.bin .neq) [.v 2, .v 3] 1 <|
  (.ite (.v 4)
   (.leaf .ret [.c (.bool false)] ())
   (.lt none .len [.v 0] 1 <|
   (.bind 1
    (.loop [.c (.int .i64 0)]
     (.lt none (.bin .lss) [.v 6, .v 5] 1 <|
     (.ite (.v 7)
      (.lt none .inb [.v 0, .v 6] 0 <|
      (.lt none (.row 1 0 [true]) [.v 0, .v 6] 1 <|
      (.lt none .inb [.v 1, .v 6] 0 <|
      (.lt none (.row 1 0 [true]) [.v 1, .v 6] 1 <|
      (.lt none (.bin .neq) [.v 8, .v 9] 1 <|
      (.ite (.v 10)
       (.leaf .ret [.c (.bool false)] ())
       (.lt none (.bin .add) [.v 6, .c (.int .i64 1)] 1 <|
       (.leaf .cont [.v 11] ()))))))))
      (.leaf (.yield 1) [] ())))) <|
   (.leaf .ret [.c (.bool true)] ())))))))
/-- impl.areInstances -/
def tm60 : Tm Unit :=
  (.lt none .len [.v 1] 1 <|
  (.bind 1
   (.loop [.c (.int .i64 0)]
    (.lt none (.bin .lss) [.v 3, .v 2] 1 <|
    (.ite (.v 4)
     (.lt none .inb [.v 1, .v 3] 0 <|
     (.lt none (.row 1 0 [false]) [.v 1, .v 3] 1 <|
     (.lt none .len [.v 5] 1 <|
     (.lt none (.bin .neq) [.v 6, .c (.int .i64 2)] 1 <|
     (.lt (some (.v 7, false)) .id [.v 0] 1 <|
     (.lt (some (.v 7, false)) .inb [.v 5, .c (.int .i64 0)] 0 <|
     (.lt (some (.v 7, false)) (.row 1 0 [true]) [.v 5, .c (.int .i64 0)] 1 <|
     (.lt (some (.v 7, false)) .inb [.v 5, .c (.int .i64 1)] 0 <|
     (.lt (some (.v 7, false)) (.row 1 0 [true]) [.v 5, .c (.int .i64 1)] 1 <|
     (.call (some (.v 7, false)) 61 [.v 8, .v 9, .v 10] 1 [] <|
     (.lt (some (.v 7, false)) .not [.v 11] 1 <|
     (.lt none .pick [.v 7, .c (.bool true), .v 12] 1 <|
     (.lt (some (.v 13, false)) .id [.v 3] 1 <|
     (.lt (some (.v 13, false)) (.sub 1 false) [.v 1, .c (.int .i64 0), .v 14] 1 <|
     (.call (some (.v 13, false)) 62 [.v 15, .v 5] 1 [] <|
     (.lt none .pick [.v 13, .c (.bool true), .v 16] 1 <|
     (.ite (.v 17)
      (.leaf .ret [.c (.bool false)] ())
      (.lt none (.bin .add) [.v 3, .c (.int .i64 1)] 1 <|
      (.leaf .cont [.v 18] ())))))))))))))))))))
     (.leaf (.yield 1) [] ())))) <|
  (.leaf .ret [.c (.bool true)] ())))
/-- impl.isInstance -/
def tm61 : Tm Unit :=
  (.call none 42 [.v 0] 1 [] <|
  (.lt (some (.v 3, true)) .id [.v 1] 1 <|
  (.lt (some (.v 3, true)) .id [.v 0] 1 <|
  (.lt (some (.v 3, true)) (.bin .sub) [.v 5, .c (.int .i64 1)] 1 <|
  (.call (some (.v 3, true)) 50 [.v 4, .c (.int .i64 0), .v 6] 1 [] <|
  (.lt none .pick [.v 3, .v 7, .c (.bool false)] 1 <|
  (.lt (some (.v 8, true)) .id [.v 2] 1 <|
  (.call (some (.v 8, true)) 50 [.v 9, .c (.int .i64 1), .c (.int .i64 6)] 1 [] <|
  (.lt none .pick [.v 8, .v 10, .c (.bool false)] 1 <|
  (.leaf .ret [.v 11] ()))))))))))
/-- impl.hasInstance -/
def tm62 : Tm Unit :=
  (.call none 63 [.v 0, .v 1] 1 [] <|
  (.leaf .ret [.v 2] ()))
/-- slices.ContainsFunc[[][]int,[]int]@impl.hasInstance$1 -/
def tm63 : Tm Unit :=
  (.call none 64 [.v 0, .v 1] 1 [] <|
  (.lt none (.bin .geq) [.v 2, .c (.int .i64 0)] 1 <|
  (.leaf .ret [.v 3] ())))
/-- slices.IndexFunc[[][]int,[]int]@impl.hasInstance$1 -/
def tm64 : Tm Unit :=
  (.lt none .len [.v 0] 1 <|
  (.bind 1
   (.loop [.c (.int .i64 0)]
    (.lt none (.bin .lss) [.v 3, .v 2] 1 <|
    (.ite (.v 4)
     (.lt none .inb [.v 0, .v 3] 0 <|
     (.lt none (.row 1 0 [false]) [.v 0, .v 3] 1 <|
     (.call none 65 [.v 5, .v 1] 1 [] <|
     (.ite (.v 6)
      (.leaf .ret [.v 3] ())
      (.lt none (.bin .add) [.v 3, .c (.int .i64 1)] 1 <|
      (.leaf .cont [.v 7] ()))))))
     (.leaf (.yield 1) [] ())))) <|
  (.leaf .ret [.c (.int .i64 (-1))] ())))
/-- impl.hasInstance$1 -/
def tm65 : Tm Unit :=
  (.call none 59 [.v 1, .v 0] 1 [] <|
  (.leaf .ret [.v 2] ()))
/-- (impl.Table).sameOrders -/
def tm66 : Tm Unit :=
  (.lt none .len [.v 2] 1 <|
  (.bind 1
   (.loop [.c (.int .i64 0)]
    (.lt none (.bin .lss) [.v 5, .v 4] 1 <|
    (.ite (.v 6)
     (.lt none .inb [.v 2, .v 5] 0 <|
     (.lt none (.row 1 0 [false]) [.v 2, .v 5] 1 <|
     (.lt none (.sub 1 false) [.v 2, .c (.int .i64 0), .v 5] 1 <|
     (.lt none .len [.v 8] 1 <|
     (.bind 3
      (.loop [.c (.int .i64 0)]
       (.lt none (.bin .lss) [.v 10, .v 9] 1 <|
       (.ite (.v 11)
        (.lt none .inb [.v 8, .v 10] 0 <|
        (.lt none (.row 1 0 [false]) [.v 8, .v 10] 1 <|
        (.lt none .inb [.v 7, .c (.int .i64 0)] 0 <|
        (.lt none (.row 1 0 [true]) [.v 7, .c (.int .i64 0)] 1 <|
        (.lt none .inb [.v 7, .c (.int .i64 1)] 0 <|
        (.lt none (.row 1 0 [true]) [.v 7, .c (.int .i64 1)] 1 <|
        (.call none 67 [.v 0, .v 1, .v 13, .v 14] 10 [] <|
        (.lt none .inb [.v 12, .c (.int .i64 0)] 0 <|
        (.lt none (.row 1 0 [true]) [.v 12, .c (.int .i64 0)] 1 <|
        (.lt none .inb [.v 12, .c (.int .i64 1)] 0 <|
        (.lt none (.row 1 0 [true]) [.v 12, .c (.int .i64 1)] 1 <|
        (.call none 67 [.v 0, .v 1, .v 25, .v 26] 10 [] <|
        (.call none 71 [.v 18, .v 19, .v 20, .v 21, .v 22, .v 30, .v 31, .v 32, .v 33, .v 34] 1 [] <|
        (.call (some (.v 37, true)) 78 [.v 7, .v 3] 1 [] <|
        (.lt (some (.v 37, true)) (.bin .geq) [.v 38, .c (.int .i64 0)] 1 <|
        (.lt none .pick [.v 37, .v 39, .c (.bool false)] 1 <|
        (.call (some (.v 40, true)) 78 [.v 12, .v 3] 1 [] <|
        (.lt (some (.v 40, true)) (.bin .geq) [.v 41, .c (.int .i64 0)] 1 <|
        (.lt none .pick [.v 40, .v 42, .c (.bool false)] 1 <|
        (.call (some (.v 43, true)) 78 [.v 7, .v 3] 1 [] <|
        (.call (some (.v 43, true)) 78 [.v 12, .v 3] 1 [] <|
        (.lt (some (.v 43, true)) (.bin .lss) [.v 44, .v 45] 1 <|
        (.lt none .pick [.v 43, .v 46, .c (.bool false)] 1 <|
        (.ite (.v 47)
         (.leaf .ret [.c (.bool false)] ())
         (.lt none (.bin .add) [.v 10, .c (.int .i64 1)] 1 <|
         (.leaf .cont [.v 48] ()))))))))))))))))))))))))))
        (.leaf (.yield 3) [] ())))) <|
     (.lt none (.bin .add) [.v 5, .c (.int .i64 1)] 1 <|
     (.leaf .cont [.v 10] ())))))))
     (.leaf (.yield 1) [] ())))) <|
  (.leaf .ret [.c (.bool true)] ())))
/-- (impl.Table).row -/
def tm67 : Tm Unit :=
  (.lt none .inb [.v 1, .v 2] 0 <|
  (.lt none (.row 1 0 [false]) [.v 1, .v 2] 1 <|
  (.lt none .len [.v 4] 1 <|
  (.lt none (.bin .leq) [.v 3, .v 5] 1 <|
  (.ite (.v 6)
   (.lt none .inb [.v 1, .v 2] 0 <|
   (.lt none (.row 1 0 [false]) [.v 1, .v 2] 1 <|
   (.lt none (.bin .sub) [.v 3, .c (.int .i64 1)] 1 <|
   (.lt none .inb [.v 7, .v 8] 0 <|
   (.lt none (.row 10 0 [true, true, true, true, true, true, true, true, true, false]) [.v 7, .v 8] 10 <|
   (.call none 68 [.v 9, .v 10, .v 11, .v 12, .v 13, .v 14, .v 15, .v 16, .v 17, .v 18] 10 [] <|
   (.leaf .ret [.v 19, .v 20, .v 21, .v 22, .v 23, .v 24, .v 25, .v 26, .v 27, .v 28] ())))))))
   (.call none 57 [.v 0] 2 [] <|
   (.leaf .ret [.c (.int .i64 0), .c (.int .i64 0), .c (.int .i64 0), .c (.int .i64 0), .c (.int .i64 0), .c (.int .i64 0), .c (.int .i64 0), .c (.int .i64 0), .v 7, .v 8] ())))))))
/-- (impl.Row).copied -/
def tm68 : Tm Unit :=
  (.call none 69 [.v 8, .v 9] 2 [] <|
  (.leaf .ret [.v 0, .v 1, .v 2, .v 3, .v 4, .v 5, .v 6, .v 7, .v 10, .v 11] ()))
/-- (impl.Attr).copied -/
def tm69 : Tm Unit :=
  (.call none 70 [.v 1] 1 [] <|
  (.leaf .ret [.v 0, .v 2] ()))
/-- slices.Clone[[]int,int] -/
def tm70 : Tm Unit :=
  (.lt none .ne [.v 0] 0 <|
  (.lt none .emp [.v 0] 1 <|
  (.ite (.v 1)
   (.leaf .ret [.c (.rows 1 [])] ())
   (.lt none (.mk 1 0) [] 1 <|
   (.lt none (.app 1 8 true) [.v 2, .v 0] 1 <|
   (.leaf .ret [.v 3] ()))))))
/-- impl.interfere -/
def tm71 : Tm Unit :=
  (.call none 72 [.v 0, .v 1, .v 2, .v 3, .v 4] 1 [] <|
  (.call none 73 [.v 10, .v 5, .v 6, .v 7, .v 8, .v 9] 1 [] <|
  (.leaf .ret [.v 11] ())))
/-- impl.touches -/
def tm72 : Tm Unit :=
  (.lt none (.bin .eql) [.v 0, .c (.int .i64 1)] 1 <|
  (.ite (.v 5)
   (.lt none .min [.v 2, .v 3] 1 <|
   (.lt none .max [.v 2, .v 3] 1 <|
   (.lt none (.mk 1 2) [.v 6, .v 7] 1 <|
   (.leaf .ret [.v 8] ()))))
   (.lt none (.bin .eql) [.v 0, .c (.int .i64 2)] 1 <|
   (.ite (.v 6)
    (.lt none (.mk 1 1) [.v 2] 1 <|
    (.leaf .ret [.v 7] ()))
    (.lt none (.mk 1 0) [] 1 <|
    (.leaf .ret [.v 7] ()))))))
/-- slices.ContainsFunc[[]int,int]@impl.interfere$1 -/
def tm73 : Tm Unit :=
  (.call none 74 [.v 0, .v 1, .v 2, .v 3, .v 4, .v 5] 1 [] <|
  (.lt none (.bin .geq) [.v 6, .c (.int .i64 0)] 1 <|
  (.leaf .ret [.v 7] ())))
/-- slices.IndexFunc[[]int,int]@impl.interfere$1 -/
def tm74 : Tm Unit :=
  (.lt none .len [.v 0] 1 <|
  (.bind 1
   (.loop [.c (.int .i64 0)]
    (.lt none (.bin .lss) [.v 7, .v 6] 1 <|
    (.ite (.v 8)
     (.lt none .inb [.v 0, .v 7] 0 <|
     (.lt none (.row 1 0 [true]) [.v 0, .v 7] 1 <|
     (.call none 75 [.v 9, .v 1, .v 2, .v 3, .v 4, .v 5] 1 [] <|
     (.ite (.v 10)
      (.leaf .ret [.v 7] ())
      (.lt none (.bin .add) [.v 7, .c (.int .i64 1)] 1 <|
      (.leaf .cont [.v 11] ()))))))
     (.leaf (.yield 1) [] ())))) <|
  (.leaf .ret [.c (.int .i64 (-1))] ())))
/-- impl.interfere$1 -/
def tm75 : Tm Unit :=
  (.call none 72 [.v 1, .v 2, .v 3, .v 4, .v 5] 1 [] <|
  (.call none 76 [.v 6, .v 0] 1 [] <|
  (.leaf .ret [.v 7] ())))
/-- slices.Contains[[]int,int] -/
def tm76 : Tm Unit :=
  (.call none 77 [.v 0, .v 1] 1 [] <|
  (.lt none (.bin .geq) [.v 2, .c (.int .i64 0)] 1 <|
  (.leaf .ret [.v 3] ())))
/-- slices.Index[[]int,int] -/
def tm77 : Tm Unit :=
  (.lt none .len [.v 0] 1 <|
  (.bind 1
   (.loop [.c (.int .i64 0)]
    (.lt none (.bin .lss) [.v 3, .v 2] 1 <|
    (.ite (.v 4)
     (.lt none .inb [.v 0, .v 3] 0 <|
     (.lt none (.row 1 0 [true]) [.v 0, .v 3] 1 <|
     (.lt none (.bin .eql) [.v 1, .v 5] 1 <|
     (.ite (.v 6)
      (.leaf .ret [.v 3] ())
      (.lt none (.bin .add) [.v 3, .c (.int .i64 1)] 1 <|
      (.leaf .cont [.v 7] ()))))))
     (.leaf (.yield 1) [] ())))) <|
  (.leaf .ret [.c (.int .i64 (-1))] ())))
/-- (impl.Table).sameOrders$1 -/
def tm78 : Tm Unit :=
  (.call none 79 [.v 1, .v 0] 1 [] <|
  (.leaf .ret [.v 2] ()))
/-- slices.IndexFunc[[][]int,[]int]@(impl.Table).sameOrders$1$1 -/
def tm79 : Tm Unit :=
  (.lt none .len [.v 0] 1 <|
  (.bind 1
   (.loop [.c (.int .i64 0)]
    (.lt none (.bin .lss) [.v 3, .v 2] 1 <|
    (.ite (.v 4)
     (.lt none .inb [.v 0, .v 3] 0 <|
     (.lt none (.row 1 0 [false]) [.v 0, .v 3] 1 <|
     (.call none 80 [.v 5, .v 1] 1 [] <|
     (.ite (.v 6)
      (.leaf .ret [.v 3] ())
      (.lt none (.bin .add) [.v 3, .c (.int .i64 1)] 1 <|
      (.leaf .cont [.v 7] ()))))))
     (.leaf (.yield 1) [] ())))) <|
  (.leaf .ret [.c (.int .i64 (-1))] ())))
/-- (impl.Table).sameOrders$1$1 -/
def tm80 : Tm Unit :=
  (.call none 59 [.v 1, .v 0] 1 [] <|
  (.leaf .ret [.v 2] ()))
/-- laws.eqIntSS -/
def tm81 : Tm Unit :=
  (.lt none .len [.v 0] 1 <|
  (.lt none .len [.v 1] 1 <|
  (.lt none (.bin .neq) [.v 2, .v 3] 1 <|
  (.ite (.v 4)
   (.leaf .ret [.c (.bool false)] ())
   (.bind 1
    (.loop [.c (.int .i64 0)]
     (.lt none .len [.v 0] 1 <|
     (.lt none (.bin .lss) [.v 5, .v 6] 1 <|
     (.ite (.v 7)
      (.lt none .inb [.v 0, .v 5] 0 <|
      (.lt none (.row 1 0 [false]) [.v 0, .v 5] 1 <|
      (.lt none .inb [.v 1, .v 5] 0 <|
      (.lt none (.row 1 0 [false]) [.v 1, .v 5] 1 <|
      (.call none 82 [.v 8, .v 9] 1 [] <|
      (.lt none .not [.v 10] 1 <|
      (.ite (.v 11)
       (.leaf .ret [.c (.bool false)] ())
       (.lt none (.bin .add) [.v 5, .c (.int .i64 1)] 1 <|
       (.leaf .cont [.v 12] ())))))))))
      (.leaf (.yield 1) [] ()))))) <|
   (.leaf .ret [.c (.bool true)] ()))))))
/-- laws.eqIntS -/
def tm82 : Tm Unit :=
  (.lt none .len [.v 0] 1 <|
  (.lt none .len [.v 1] 1 <|
  (.lt none (.bin .neq) [.v 2, .v 3] 1 <|
  (.ite (.v 4)
   (.leaf .ret [.c (.bool false)] ())
   (.bind 1
    (.loop [.c (.int .i64 0)]
     (.lt none .len [.v 0] 1 <|
     (.lt none (.bin .lss) [.v 5, .v 6] 1 <|
     (.ite (.v 7)
      (.lt none .inb [.v 0, .v 5] 0 <|
      (.lt none (.row 1 0 [true]) [.v 0, .v 5] 1 <|
      (.lt none .inb [.v 1, .v 5] 0 <|
      (.lt none (.row 1 0 [true]) [.v 1, .v 5] 1 <|
      (.lt none (.bin .neq) [.v 8, .v 9] 1 <|
      (.ite (.v 10)
       (.leaf .ret [.c (.bool false)] ())
       (.lt none (.bin .add) [.v 5, .c (.int .i64 1)] 1 <|
       (.leaf .cont [.v 11] ()))))))))
      (.leaf (.yield 1) [] ()))))) <|
   (.leaf .ret [.c (.bool true)] ()))))))
/-- laws.eqTable -/
def tm83 : Tm Unit :=
  (.lt none (.bin .neq) [.v 0, .v 2] 1 <|
  (.ite (.v 4)
   (.leaf .ret [.c (.bool false)] ())
   (.call none 84 [.v 1, .v 3] 1 [] <|
   (.lt none .not [.v 5] 1 <|
   (.ite (.v 6)
    (.leaf .ret [.c (.bool false)] ())
    (.leaf .ret [.c (.bool true)] ()))))))
/-- laws.eqRowSS -/
def tm84 : Tm Unit :=
  (.lt none .len [.v 0] 1 <|
  (.lt none .len [.v 1] 1 <|
  (.lt none (.bin .neq) [.v 2, .v 3] 1 <|
  (.ite (.v 4)
   (.leaf .ret [.c (.bool false)] ())
   (.bind 1
    (.loop [.c (.int .i64 0)]
     (.lt none .len [.v 0] 1 <|
     (.lt none (.bin .lss) [.v 5, .v 6] 1 <|
     (.ite (.v 7)
      (.lt none .inb [.v 0, .v 5] 0 <|
      (.lt none (.row 1 0 [false]) [.v 0, .v 5] 1 <|
      (.lt none .inb [.v 1, .v 5] 0 <|
      (.lt none (.row 1 0 [false]) [.v 1, .v 5] 1 <|
      (.call none 85 [.v 8, .v 9] 1 [] <|
      (.lt none .not [.v 10] 1 <|
      (.ite (.v 11)
       (.leaf .ret [.c (.bool false)] ())
       (.lt none (.bin .add) [.v 5, .c (.int .i64 1)] 1 <|
       (.leaf .cont [.v 12] ())))))))))
      (.leaf (.yield 1) [] ()))))) <|
   (.leaf .ret [.c (.bool true)] ()))))))
/-- laws.eqRowS -/
def tm85 : Tm Unit :=
  (.lt none .len [.v 0] 1 <|
  (.lt none .len [.v 1] 1 <|
  (.lt none (.bin .neq) [.v 2, .v 3] 1 <|
  (.ite (.v 4)
   (.leaf .ret [.c (.bool false)] ())
   (.bind 1
    (.loop [.c (.int .i64 0)]
     (.lt none .len [.v 0] 1 <|
     (.lt none (.bin .lss) [.v 5, .v 6] 1 <|
     (.ite (.v 7)
      (.lt none .inb [.v 0, .v 5] 0 <|
      (.lt none (.row 10 0 [true, true, true, true, true, true, true, true, true, false]) [.v 0, .v 5] 10 <|
      (.lt none .inb [.v 1, .v 5] 0 <|
      (.lt none (.row 10 0 [true, true, true, true, true, true, true, true, true, false]) [.v 1, .v 5] 10 <|
      (.call none 86 [.v 8, .v 9, .v 10, .v 11, .v 12, .v 13, .v 14, .v 15, .v 16, .v 17, .v 18, .v 19, .v 20, .v 21, .v 22, .v 23, .v 24, .v 25, .v 26, .v 27] 1 [] <|
      (.lt none .not [.v 28] 1 <|
      (.ite (.v 29)
       (.leaf .ret [.c (.bool false)] ())
       (.lt none (.bin .add) [.v 5, .c (.int .i64 1)] 1 <|
       (.leaf .cont [.v 30] ())))))))))
      (.leaf (.yield 1) [] ()))))) <|
   (.leaf .ret [.c (.bool true)] ()))))))
/-- laws.eqRow -/
def tm86 : Tm Unit :=
  (.lt none (.bin .neq) [.v 0, .v 10] 1 <|
  (.ite (.v 20)
   (.leaf .ret [.c (.bool false)] ())
   (.lt none (.bin .neq) [.v 1, .v 11] 1 <|
   (.ite (.v 21)
    (.leaf .ret [.c (.bool false)] ())
    (.lt none (.bin .neq) [.v 2, .v 12] 1 <|
    (.ite (.v 22)
     (.leaf .ret [.c (.bool false)] ())
     (.call none 87 [.v 3, .v 4, .v 5, .v 6, .v 7, .v 13, .v 14, .v 15, .v 16, .v 17] 1 [] <|
     (.lt none .not [.v 23] 1 <|
     (.ite (.v 24)
      (.leaf .ret [.c (.bool false)] ())
      (.call none 88 [.v 8, .v 9, .v 18, .v 19] 1 [] <|
      (.lt none .not [.v 25] 1 <|
      (.ite (.v 26)
       (.leaf .ret [.c (.bool false)] ())
       (.leaf .ret [.c (.bool true)] ())))))))))))))
/-- laws.eqCmd -/
def tm87 : Tm Unit :=
  (.lt none (.bin .neq) [.v 0, .v 5] 1 <|
  (.ite (.v 10)
   (.leaf .ret [.c (.bool false)] ())
   (.lt none (.bin .neq) [.v 1, .v 6] 1 <|
   (.ite (.v 11)
    (.leaf .ret [.c (.bool false)] ())
    (.lt none (.bin .neq) [.v 2, .v 7] 1 <|
    (.ite (.v 12)
     (.leaf .ret [.c (.bool false)] ())
     (.lt none (.bin .neq) [.v 3, .v 8] 1 <|
     (.ite (.v 13)
      (.leaf .ret [.c (.bool false)] ())
      (.lt none (.bin .neq) [.v 4, .v 9] 1 <|
      (.ite (.v 14)
       (.leaf .ret [.c (.bool false)] ())
       (.leaf .ret [.c (.bool true)] ())))))))))))
/-- laws.eqAttr -/
def tm88 : Tm Unit :=
  (.lt none (.bin .neq) [.v 0, .v 2] 1 <|
  (.ite (.v 4)
   (.leaf .ret [.c (.bool false)] ())
   (.call none 82 [.v 1, .v 3] 1 [] <|
   (.lt none .not [.v 5] 1 <|
   (.ite (.v 6)
    (.leaf .ret [.c (.bool false)] ())
    (.leaf .ret [.c (.bool true)] ()))))))
theorem cl70 : ∀ n, Contract Try.prog (entTab [(70, .tm tm70)]) n 70 sg70 := fun n => contracts tiL_ok (by kernel_rfl) (fnOk_all (List.forall_mem_cons.2 ⟨fnOk_tm (E := ⟨tiTab tiL, [(70, sg70)], 0, 0, false, false, []⟩) Try.func105 (by kernel_rfl) (tm := tm70) (by kernel_rfl) (by kernel_rfl), List.forall_mem_nil _⟩)) n 70 sg70 (by simp)
def ren70 : Go.Shelf.Ren := ⟨fun | 41 => 105 | n => n, fun | 4 => 4 | 22 => 43 | 23 => 3 | n => n, fun n => n⟩
theorem lays70 : Go.Proofs.SlLaysE0.n41 Try.prog ren70 := { mixed := by kernel_rfl, f41 := ⟨Try.f105.name, by kernel_rfl, Try.func105.trans (congrArg some (by kernel_rfl))⟩, t4 := Try.underlying4, a4 := Try.isAgg4, z4 := Try.sizeOf4, v4 := Try.zeroValue4, t22 := Try.underlying43, a22 := Try.isAgg43, z22 := Try.sizeOf43, v22 := Try.zeroValue43 }
noncomputable def ex70 : List D → Option (List D) := cloneE 1 (entTab [(70, .tm tm70)]) 70

noncomputable def T : Nat → Ent := entTab [(0, .tm tm0), (1, .tm tm1), (2, .tm tm2), (3, .tm tm3), (4, .tm tm4), (5, .tm tm5), (6, .tm tm6), (7, .tm tm7), (8, .tm tm8), (9, .tm tm9), (10, .tm tm10), (11, .tm tm11), (12, .tm tm12), (13, .tm tm13), (14, .tm tm14), (15, .tm tm15), (16, .tm tm16), (17, .tm tm17), (18, .tm tm18), (19, .tm tm19), (20, .tm tm20), (21, .tm tm21), (22, .tm tm22), (23, .tm tm23), (24, .tm tm24), (25, .tm tm25), (26, .tm tm26), (27, .tm tm27), (28, .tm tm28), (29, .tm tm29), (30, .tm tm30), (31, .tm tm31), (32, .tm tm32), (33, .tm tm33), (34, .tm tm34), (35, .tm tm35), (36, .tm tm36), (37, .tm tm37), (38, .tm tm38), (39, .tm tm39), (40, .tm tm40), (41, .tm tm41), (42, .tm tm42), (43, .tm tm43), (44, .tm tm44), (45, .tm tm45), (46, .tm tm46), (47, .tm tm47), (48, .tm tm48), (49, .tm tm49), (50, .tm tm50), (51, .tm tm51), (52, .tm tm52), (53, .tm tm53), (54, .tm tm54), (55, .tm tm55), (56, .tm tm56), (57, .tm tm57), (58, .tm tm58), (59, .tm tm59), (60, .tm tm60), (61, .tm tm61), (62, .tm tm62), (63, .tm tm63), (64, .tm tm64), (65, .tm tm65), (66, .tm tm66), (67, .tm tm67), (68, .tm tm68), (69, .tm tm69), (70, .ext ex70), (71, .tm tm71), (72, .tm tm72), (73, .tm tm73), (74, .tm tm74), (75, .tm tm75), (76, .tm tm76), (77, .tm tm77), (78, .tm tm78), (79, .tm tm79), (80, .tm tm80), (81, .tm tm81), (82, .tm tm82), (83, .tm tm83), (84, .tm tm84), (85, .tm tm85), (86, .tm tm86), (87, .tm tm87), (88, .tm tm88)]
theorem ok70 : FnOk Try.prog T (tiTab tiL) sigs 70 sg70 := clone_ent (m := 98) lays70 rfl (by kernel_rfl) Try.sizeOf3 cl70 rfl
theorem ok0 : FnOk Try.prog T (tiTab tiL) sigs 0 sg0 := fnOk_tm (E := ⟨tiTab tiL, sigs, 0, 0, false, false, []⟩) Try.func3 (by kernel_rfl) (tm := tm0) (by kernel_rfl) (by kernel_rfl)
theorem ok1 : FnOk Try.prog T (tiTab tiL) sigs 1 sg1 := fnOk_tm (E := ⟨tiTab tiL, sigs, 0, 0, false, false, []⟩) Try.func5 (by kernel_rfl) (tm := tm1) (by kernel_rfl) (by kernel_rfl)
theorem ok2 : FnOk Try.prog T (tiTab tiL) sigs 2 sg2 := fnOk_tm (E := ⟨tiTab tiL, sigs, 0, 0, false, false, []⟩) Try.func18 (by kernel_rfl) (tm := tm2) (by kernel_rfl) (by kernel_rfl)
theorem ok3 : FnOk Try.prog T (tiTab tiL) sigs 3 sg3 := fnOk_tm (E := ⟨tiTab tiL, sigs, 0, 0, false, false, []⟩) Try.func6 (by kernel_rfl) (tm := tm3) (by kernel_rfl) (by kernel_rfl)
theorem ok4 : FnOk Try.prog T (tiTab tiL) sigs 4 sg4 := fnOk_tm (E := ⟨tiTab tiL, sigs, 0, 0, false, false, []⟩) Try.func19 (by kernel_rfl) (tm := tm4) (by kernel_rfl) (by kernel_rfl)
theorem ok5 : FnOk Try.prog T (tiTab tiL) sigs 5 sg5 := fnOk_tm (E := ⟨tiTab tiL, sigs, 0, 0, false, false, []⟩) Try.func37 (by kernel_rfl) (tm := tm5) (by kernel_rfl) (by kernel_rfl)
theorem ok6 : FnOk Try.prog T (tiTab tiL) sigs 6 sg6 := fnOk_tm (E := ⟨tiTab tiL, sigs, 0, 0, false, false, []⟩) Try.func67 (by kernel_rfl) (tm := tm6) (by kernel_rfl) (by kernel_rfl)
theorem ok7 : FnOk Try.prog T (tiTab tiL) sigs 7 sg7 := fnOk_tm (E := ⟨tiTab tiL, sigs, 0, 0, false, false, []⟩) Try.func91 (by kernel_rfl) (tm := tm7) (by kernel_rfl) (by kernel_rfl)
theorem ok8 : FnOk Try.prog T (tiTab tiL) sigs 8 sg8 := fnOk_tm (E := ⟨tiTab tiL, sigs, 0, 0, false, false, []⟩) Try.func8 (by kernel_rfl) (tm := tm8) (by kernel_rfl) (by kernel_rfl)
theorem ok9 : FnOk Try.prog T (tiTab tiL) sigs 9 sg9 := fnOk_tm (E := ⟨tiTab tiL, sigs, 0, 0, false, false, []⟩) Try.func25 (by kernel_rfl) (tm := tm9) (by kernel_rfl) (by kernel_rfl)
theorem ok10 : FnOk Try.prog T (tiTab tiL) sigs 10 sg10 := fnOk_tm (E := ⟨tiTab tiL, sigs, 0, 0, false, false, []⟩) Try.func9 (by kernel_rfl) (tm := tm10) (by kernel_rfl) (by kernel_rfl)
theorem ok11 : FnOk Try.prog T (tiTab tiL) sigs 11 sg11 := fnOk_tm (E := ⟨tiTab tiL, sigs, 0, 0, false, false, []⟩) Try.func26 (by kernel_rfl) (tm := tm11) (by kernel_rfl) (by kernel_rfl)
theorem ok12 : FnOk Try.prog T (tiTab tiL) sigs 12 sg12 := fnOk_tm (E := ⟨tiTab tiL, sigs, 0, 0, false, false, []⟩) Try.func46 (by kernel_rfl) (tm := tm12) (by kernel_rfl) (by kernel_rfl)
theorem ok13 : FnOk Try.prog T (tiTab tiL) sigs 13 sg13 := fnOk_tm (E := ⟨tiTab tiL, sigs, 0, 0, false, false, []⟩) Try.func73 (by kernel_rfl) (tm := tm13) (by kernel_rfl) (by kernel_rfl)
theorem ok14 : FnOk Try.prog T (tiTab tiL) sigs 14 sg14 := fnOk_tm (E := ⟨tiTab tiL, sigs, 0, 0, false, false, []⟩) Try.func95 (by kernel_rfl) (tm := tm14) (by kernel_rfl) (by kernel_rfl)
theorem ok15 : FnOk Try.prog T (tiTab tiL) sigs 15 sg15 := fnOk_tm (E := ⟨tiTab tiL, sigs, 0, 0, false, false, []⟩) Try.func96 (by kernel_rfl) (tm := tm15) (by kernel_rfl) (by kernel_rfl)
theorem ok16 : FnOk Try.prog T (tiTab tiL) sigs 16 sg16 := fnOk_tm (E := ⟨tiTab tiL, sigs, 0, 0, false, false, []⟩) Try.func7 (by kernel_rfl) (tm := tm16) (by kernel_rfl) (by kernel_rfl)
theorem ok17 : FnOk Try.prog T (tiTab tiL) sigs 17 sg17 := fnOk_tm (E := ⟨tiTab tiL, sigs, 0, 0, false, false, []⟩) Try.func20 (by kernel_rfl) (tm := tm17) (by kernel_rfl) (by kernel_rfl)
theorem ok18 : FnOk Try.prog T (tiTab tiL) sigs 18 sg18 := fnOk_tm (E := ⟨tiTab tiL, sigs, 0, 0, false, false, []⟩) Try.func38 (by kernel_rfl) (tm := tm18) (by kernel_rfl) (by kernel_rfl)
theorem ok19 : FnOk Try.prog T (tiTab tiL) sigs 19 sg19 := fnOk_tm (E := ⟨tiTab tiL, sigs, 0, 0, false, false, []⟩) Try.func39 (by kernel_rfl) (tm := tm19) (by kernel_rfl) (by kernel_rfl)
theorem ok20 : FnOk Try.prog T (tiTab tiL) sigs 20 sg20 := fnOk_tm (E := ⟨tiTab tiL, sigs, 0, 0, false, false, []⟩) Try.func68 (by kernel_rfl) (tm := tm20) (by kernel_rfl) (by kernel_rfl)
theorem ok21 : FnOk Try.prog T (tiTab tiL) sigs 21 sg21 := fnOk_tm (E := ⟨tiTab tiL, sigs, 0, 0, false, false, []⟩) Try.func44 (by kernel_rfl) (tm := tm21) (by kernel_rfl) (by kernel_rfl)
theorem ok22 : FnOk Try.prog T (tiTab tiL) sigs 22 sg22 := fnOk_tm (E := ⟨tiTab tiL, sigs, 0, 0, false, false, []⟩) Try.func69 (by kernel_rfl) (tm := tm22) (by kernel_rfl) (by kernel_rfl)
theorem ok23 : FnOk Try.prog T (tiTab tiL) sigs 23 sg23 := fnOk_tm (E := ⟨tiTab tiL, sigs, 0, 0, false, false, []⟩) Try.func41 (by kernel_rfl) (tm := tm23) (by kernel_rfl) (by kernel_rfl)
theorem ok24 : FnOk Try.prog T (tiTab tiL) sigs 24 sg24 := fnOk_tm (E := ⟨tiTab tiL, sigs, 0, 0, false, false, []⟩) Try.func70 (by kernel_rfl) (tm := tm24) (by kernel_rfl) (by kernel_rfl)
theorem ok25 : FnOk Try.prog T (tiTab tiL) sigs 25 sg25 := fnOk_tm (E := ⟨tiTab tiL, sigs, 0, 0, false, false, []⟩) Try.func92 (by kernel_rfl) (tm := tm25) (by kernel_rfl) (by kernel_rfl)
theorem ok26 : FnOk Try.prog T (tiTab tiL) sigs 26 sg26 := fnOk_tm (E := ⟨tiTab tiL, sigs, 0, 0, false, false, []⟩) Try.func104 (by kernel_rfl) (tm := tm26) (by kernel_rfl) (by kernel_rfl)
theorem ok27 : FnOk Try.prog T (tiTab tiL) sigs 27 sg27 := fnOk_tm (E := ⟨tiTab tiL, sigs, 0, 0, false, false, []⟩) Try.func71 (by kernel_rfl) (tm := tm27) (by kernel_rfl) (by kernel_rfl)
theorem ok28 : FnOk Try.prog T (tiTab tiL) sigs 28 sg28 := fnOk_tm (E := ⟨tiTab tiL, sigs, 0, 0, false, false, []⟩) Try.func93 (by kernel_rfl) (tm := tm28) (by kernel_rfl) (by kernel_rfl)
theorem ok29 : FnOk Try.prog T (tiTab tiL) sigs 29 sg29 := fnOk_tm (E := ⟨tiTab tiL, sigs, 0, 0, false, false, []⟩) Try.func21 (by kernel_rfl) (tm := tm29) (by kernel_rfl) (by kernel_rfl)
theorem ok30 : FnOk Try.prog T (tiTab tiL) sigs 30 sg30 := fnOk_tm (E := ⟨tiTab tiL, sigs, 0, 0, false, false, []⟩) Try.func40 (by kernel_rfl) (tm := tm30) (by kernel_rfl) (by kernel_rfl)
theorem ok31 : FnOk Try.prog T (tiTab tiL) sigs 31 sg31 := fnOk_tm (E := ⟨tiTab tiL, sigs, 0, 0, false, false, []⟩) Try.func22 (by kernel_rfl) (tm := tm31) (by kernel_rfl) (by kernel_rfl)
theorem ok32 : FnOk Try.prog T (tiTab tiL) sigs 32 sg32 := fnOk_tm (E := ⟨tiTab tiL, sigs, 0, 0, false, false, []⟩) Try.func24 (by kernel_rfl) (tm := tm32) (by kernel_rfl) (by kernel_rfl)
theorem ok33 : FnOk Try.prog T (tiTab tiL) sigs 33 sg33 := fnOk_tm (E := ⟨tiTab tiL, sigs, 0, 0, false, false, []⟩) Try.func45 (by kernel_rfl) (tm := tm33) (by kernel_rfl) (by kernel_rfl)
theorem ok34 : FnOk Try.prog T (tiTab tiL) sigs 34 sg34 := fnOk_tm (E := ⟨tiTab tiL, sigs, 0, 0, false, false, []⟩) Try.func72 (by kernel_rfl) (tm := tm34) (by kernel_rfl) (by kernel_rfl)
theorem ok35 : FnOk Try.prog T (tiTab tiL) sigs 35 sg35 := fnOk_tm (E := ⟨tiTab tiL, sigs, 0, 0, false, false, []⟩) Try.func94 (by kernel_rfl) (tm := tm35) (by kernel_rfl) (by kernel_rfl)
theorem ok36 : FnOk Try.prog T (tiTab tiL) sigs 36 sg36 := fnOk_tm (E := ⟨tiTab tiL, sigs, 0, 0, false, false, []⟩) Try.func23 (by kernel_rfl) (tm := tm36) (by kernel_rfl) (by kernel_rfl)
theorem ok37 : FnOk Try.prog T (tiTab tiL) sigs 37 sg37 := fnOk_tm (E := ⟨tiTab tiL, sigs, 0, 0, false, false, []⟩) Try.func42 (by kernel_rfl) (tm := tm37) (by kernel_rfl) (by kernel_rfl)
theorem ok38 : FnOk Try.prog T (tiTab tiL) sigs 38 sg38 := fnOk_tm (E := ⟨tiTab tiL, sigs, 0, 0, false, false, []⟩) Try.func64 (by kernel_rfl) (tm := tm38) (by kernel_rfl) (by kernel_rfl)
theorem ok39 : FnOk Try.prog T (tiTab tiL) sigs 39 sg39 := fnOk_tm (E := ⟨tiTab tiL, sigs, 0, 0, false, false, []⟩) Try.func43 (by kernel_rfl) (tm := tm39) (by kernel_rfl) (by kernel_rfl)
theorem ok40 : FnOk Try.prog T (tiTab tiL) sigs 40 sg40 := fnOk_tm (E := ⟨tiTab tiL, sigs, 0, 0, false, false, []⟩) Try.func10 (by kernel_rfl) (tm := tm40) (by kernel_rfl) (by kernel_rfl)
theorem ok41 : FnOk Try.prog T (tiTab tiL) sigs 41 sg41 := fnOk_tm (E := ⟨tiTab tiL, sigs, 0, 0, false, false, []⟩) Try.func27 (by kernel_rfl) (tm := tm41) (by kernel_rfl) (by kernel_rfl)
theorem ok42 : FnOk Try.prog T (tiTab tiL) sigs 42 sg42 := fnOk_tm (E := ⟨tiTab tiL, sigs, 0, 0, false, false, []⟩) Try.func47 (by kernel_rfl) (tm := tm42) (by kernel_rfl) (by kernel_rfl)
theorem ok43 : FnOk Try.prog T (tiTab tiL) sigs 43 sg43 := fnOk_tm (E := ⟨tiTab tiL, sigs, 0, 0, false, false, []⟩) Try.func48 (by kernel_rfl) (tm := tm43) (by kernel_rfl) (by kernel_rfl)
theorem ok44 : FnOk Try.prog T (tiTab tiL) sigs 44 sg44 := fnOk_tm (E := ⟨tiTab tiL, sigs, 0, 0, false, false, []⟩) Try.func74 (by kernel_rfl) (tm := tm44) (by kernel_rfl) (by kernel_rfl)
theorem ok45 : FnOk Try.prog T (tiTab tiL) sigs 45 sg45 := fnOk_tm (E := ⟨tiTab tiL, sigs, 0, 0, false, false, []⟩) Try.func49 (by kernel_rfl) (tm := tm45) (by kernel_rfl) (by kernel_rfl)
theorem ok46 : FnOk Try.prog T (tiTab tiL) sigs 46 sg46 := fnOk_tm (E := ⟨tiTab tiL, sigs, 0, 0, false, false, []⟩) Try.func50 (by kernel_rfl) (tm := tm46) (by kernel_rfl) (by kernel_rfl)
theorem ok47 : FnOk Try.prog T (tiTab tiL) sigs 47 sg47 := fnOk_tm (E := ⟨tiTab tiL, sigs, 0, 0, false, false, []⟩) Try.func75 (by kernel_rfl) (tm := tm47) (by kernel_rfl) (by kernel_rfl)
theorem ok48 : FnOk Try.prog T (tiTab tiL) sigs 48 sg48 := fnOk_tm (E := ⟨tiTab tiL, sigs, 0, 0, false, false, []⟩) Try.func51 (by kernel_rfl) (tm := tm48) (by kernel_rfl) (by kernel_rfl)
theorem ok49 : FnOk Try.prog T (tiTab tiL) sigs 49 sg49 := fnOk_tm (E := ⟨tiTab tiL, sigs, 0, 0, false, false, []⟩) Try.func52 (by kernel_rfl) (tm := tm49) (by kernel_rfl) (by kernel_rfl)
theorem ok50 : FnOk Try.prog T (tiTab tiL) sigs 50 sg50 := fnOk_tm (E := ⟨tiTab tiL, sigs, 0, 0, false, false, []⟩) Try.func76 (by kernel_rfl) (tm := tm50) (by kernel_rfl) (by kernel_rfl)
theorem ok51 : FnOk Try.prog T (tiTab tiL) sigs 51 sg51 := fnOk_tm (E := ⟨tiTab tiL, sigs, 0, 0, false, false, []⟩) Try.func77 (by kernel_rfl) (tm := tm51) (by kernel_rfl) (by kernel_rfl)
theorem ok52 : FnOk Try.prog T (tiTab tiL) sigs 52 sg52 := fnOk_tm (E := ⟨tiTab tiL, sigs, 0, 0, false, false, []⟩) Try.func97 (by kernel_rfl) (tm := tm52) (by kernel_rfl) (by kernel_rfl)
theorem ok53 : FnOk Try.prog T (tiTab tiL) sigs 53 sg53 := fnOk_tm (E := ⟨tiTab tiL, sigs, 0, 0, false, false, []⟩) Try.func78 (by kernel_rfl) (tm := tm53) (by kernel_rfl) (by kernel_rfl)
theorem ok54 : FnOk Try.prog T (tiTab tiL) sigs 54 sg54 := fnOk_tm (E := ⟨tiTab tiL, sigs, 0, 0, false, false, []⟩) Try.func83 (by kernel_rfl) (tm := tm54) (by kernel_rfl) (by kernel_rfl)
theorem ok55 : FnOk Try.prog T (tiTab tiL) sigs 55 sg55 := fnOk_tm (E := ⟨tiTab tiL, sigs, 0, 0, false, false, []⟩) Try.func99 (by kernel_rfl) (tm := tm55) (by kernel_rfl) (by kernel_rfl)
theorem ok56 : FnOk Try.prog T (tiTab tiL) sigs 56 sg56 := fnOk_tm (E := ⟨tiTab tiL, sigs, 0, 0, false, false, []⟩) Try.func98 (by kernel_rfl) (tm := tm56) (by kernel_rfl) (by kernel_rfl)
theorem ok57 : FnOk Try.prog T (tiTab tiL) sigs 57 sg57 := fnOk_tm (E := ⟨tiTab tiL, sigs, 0, 0, false, false, []⟩) Try.func80 (by kernel_rfl) (tm := tm57) (by kernel_rfl) (by kernel_rfl)
theorem ok58 : FnOk Try.prog T (tiTab tiL) sigs 58 sg58 := fnOk_tm (E := ⟨tiTab tiL, sigs, 0, 0, false, false, []⟩) Try.func79 (by kernel_rfl) (tm := tm58) (by kernel_rfl) (by kernel_rfl)
theorem ok59 : FnOk Try.prog T (tiTab tiL) sigs 59 sg59 := fnOk_tm (E := ⟨tiTab tiL, sigs, 0, 0, false, false, []⟩) Try.func58 (by kernel_rfl) (tm := tm59) (by kernel_rfl) (by kernel_rfl)
theorem ok60 : FnOk Try.prog T (tiTab tiL) sigs 60 sg60 := fnOk_tm (E := ⟨tiTab tiL, sigs, 0, 0, false, false, []⟩) Try.func28 (by kernel_rfl) (tm := tm60) (by kernel_rfl) (by kernel_rfl)
theorem ok61 : FnOk Try.prog T (tiTab tiL) sigs 61 sg61 := fnOk_tm (E := ⟨tiTab tiL, sigs, 0, 0, false, false, []⟩) Try.func53 (by kernel_rfl) (tm := tm61) (by kernel_rfl) (by kernel_rfl)
theorem ok62 : FnOk Try.prog T (tiTab tiL) sigs 62 sg62 := fnOk_tm (E := ⟨tiTab tiL, sigs, 0, 0, false, false, []⟩) Try.func54 (by kernel_rfl) (tm := tm62) (by kernel_rfl) (by kernel_rfl)
theorem ok63 : FnOk Try.prog T (tiTab tiL) sigs 63 sg63 := fnOk_tm (E := ⟨tiTab tiL, sigs, 0, 0, false, false, []⟩) Try.func81 (by kernel_rfl) (tm := tm63) (by kernel_rfl) (by kernel_rfl)
theorem ok64 : FnOk Try.prog T (tiTab tiL) sigs 64 sg64 := fnOk_tm (E := ⟨tiTab tiL, sigs, 0, 0, false, false, []⟩) Try.func56 (by kernel_rfl) (tm := tm64) (by kernel_rfl) (by kernel_rfl)
theorem ok65 : FnOk Try.prog T (tiTab tiL) sigs 65 sg65 := fnOk_tm (E := ⟨tiTab tiL, sigs, 0, 0, false, false, []⟩) Try.func82 (by kernel_rfl) (tm := tm65) (by kernel_rfl) (by kernel_rfl)
theorem ok66 : FnOk Try.prog T (tiTab tiL) sigs 66 sg66 := fnOk_tm (E := ⟨tiTab tiL, sigs, 0, 0, false, false, []⟩) Try.func29 (by kernel_rfl) (tm := tm66) (by kernel_rfl) (by kernel_rfl)
theorem ok67 : FnOk Try.prog T (tiTab tiL) sigs 67 sg67 := fnOk_tm (E := ⟨tiTab tiL, sigs, 0, 0, false, false, []⟩) Try.func60 (by kernel_rfl) (tm := tm67) (by kernel_rfl) (by kernel_rfl)
theorem ok68 : FnOk Try.prog T (tiTab tiL) sigs 68 sg68 := fnOk_tm (E := ⟨tiTab tiL, sigs, 0, 0, false, false, []⟩) Try.func87 (by kernel_rfl) (tm := tm68) (by kernel_rfl) (by kernel_rfl)
theorem ok69 : FnOk Try.prog T (tiTab tiL) sigs 69 sg69 := fnOk_tm (E := ⟨tiTab tiL, sigs, 0, 0, false, false, []⟩) Try.func101 (by kernel_rfl) (tm := tm69) (by kernel_rfl) (by kernel_rfl)
theorem ok71 : FnOk Try.prog T (tiTab tiL) sigs 71 sg71 := fnOk_tm (E := ⟨tiTab tiL, sigs, 0, 0, false, false, []⟩) Try.func59 (by kernel_rfl) (tm := tm71) (by kernel_rfl) (by kernel_rfl)
theorem ok72 : FnOk Try.prog T (tiTab tiL) sigs 72 sg72 := fnOk_tm (E := ⟨tiTab tiL, sigs, 0, 0, false, false, []⟩) Try.func84 (by kernel_rfl) (tm := tm72) (by kernel_rfl) (by kernel_rfl)
theorem ok73 : FnOk Try.prog T (tiTab tiL) sigs 73 sg73 := fnOk_tm (E := ⟨tiTab tiL, sigs, 0, 0, false, false, []⟩) Try.func83 (by kernel_rfl) (tm := tm73) (by kernel_rfl) (by kernel_rfl)
theorem ok74 : FnOk Try.prog T (tiTab tiL) sigs 74 sg74 := fnOk_tm (E := ⟨tiTab tiL, sigs, 0, 0, false, false, []⟩) Try.func99 (by kernel_rfl) (tm := tm74) (by kernel_rfl) (by kernel_rfl)
theorem ok75 : FnOk Try.prog T (tiTab tiL) sigs 75 sg75 := fnOk_tm (E := ⟨tiTab tiL, sigs, 0, 0, false, false, []⟩) Try.func85 (by kernel_rfl) (tm := tm75) (by kernel_rfl) (by kernel_rfl)
theorem ok76 : FnOk Try.prog T (tiTab tiL) sigs 76 sg76 := fnOk_tm (E := ⟨tiTab tiL, sigs, 0, 0, false, false, []⟩) Try.func86 (by kernel_rfl) (tm := tm76) (by kernel_rfl) (by kernel_rfl)
theorem ok77 : FnOk Try.prog T (tiTab tiL) sigs 77 sg77 := fnOk_tm (E := ⟨tiTab tiL, sigs, 0, 0, false, false, []⟩) Try.func100 (by kernel_rfl) (tm := tm77) (by kernel_rfl) (by kernel_rfl)
theorem ok78 : FnOk Try.prog T (tiTab tiL) sigs 78 sg78 := fnOk_tm (E := ⟨tiTab tiL, sigs, 0, 0, false, false, []⟩) Try.func55 (by kernel_rfl) (tm := tm78) (by kernel_rfl) (by kernel_rfl)
theorem ok79 : FnOk Try.prog T (tiTab tiL) sigs 79 sg79 := fnOk_tm (E := ⟨tiTab tiL, sigs, 0, 0, false, false, []⟩) Try.func56 (by kernel_rfl) (tm := tm79) (by kernel_rfl) (by kernel_rfl)
theorem ok80 : FnOk Try.prog T (tiTab tiL) sigs 80 sg80 := fnOk_tm (E := ⟨tiTab tiL, sigs, 0, 0, false, false, []⟩) Try.func57 (by kernel_rfl) (tm := tm80) (by kernel_rfl) (by kernel_rfl)
theorem ok81 : FnOk Try.prog T (tiTab tiL) sigs 81 sg81 := fnOk_tm (E := ⟨tiTab tiL, sigs, 0, 0, false, false, []⟩) Try.func11 (by kernel_rfl) (tm := tm81) (by kernel_rfl) (by kernel_rfl)
theorem ok82 : FnOk Try.prog T (tiTab tiL) sigs 82 sg82 := fnOk_tm (E := ⟨tiTab tiL, sigs, 0, 0, false, false, []⟩) Try.func30 (by kernel_rfl) (tm := tm82) (by kernel_rfl) (by kernel_rfl)
theorem ok83 : FnOk Try.prog T (tiTab tiL) sigs 83 sg83 := fnOk_tm (E := ⟨tiTab tiL, sigs, 0, 0, false, false, []⟩) Try.func12 (by kernel_rfl) (tm := tm83) (by kernel_rfl) (by kernel_rfl)
theorem ok84 : FnOk Try.prog T (tiTab tiL) sigs 84 sg84 := fnOk_tm (E := ⟨tiTab tiL, sigs, 0, 0, false, false, []⟩) Try.func31 (by kernel_rfl) (tm := tm84) (by kernel_rfl) (by kernel_rfl)
theorem ok85 : FnOk Try.prog T (tiTab tiL) sigs 85 sg85 := fnOk_tm (E := ⟨tiTab tiL, sigs, 0, 0, false, false, []⟩) Try.func61 (by kernel_rfl) (tm := tm85) (by kernel_rfl) (by kernel_rfl)
theorem ok86 : FnOk Try.prog T (tiTab tiL) sigs 86 sg86 := fnOk_tm (E := ⟨tiTab tiL, sigs, 0, 0, false, false, []⟩) Try.func88 (by kernel_rfl) (tm := tm86) (by kernel_rfl) (by kernel_rfl)
theorem ok87 : FnOk Try.prog T (tiTab tiL) sigs 87 sg87 := fnOk_tm (E := ⟨tiTab tiL, sigs, 0, 0, false, false, []⟩) Try.func102 (by kernel_rfl) (tm := tm87) (by kernel_rfl) (by kernel_rfl)
theorem ok88 : FnOk Try.prog T (tiTab tiL) sigs 88 sg88 := fnOk_tm (E := ⟨tiTab tiL, sigs, 0, 0, false, false, []⟩) Try.func103 (by kernel_rfl) (tm := tm88) (by kernel_rfl) (by kernel_rfl)
theorem fns_ok : ∀ key s, (key, s) ∈ sigs → FnOk Try.prog T (tiTab tiL) sigs key s := fnOk_all (List.forall_mem_cons.2 ⟨ok0, List.forall_mem_cons.2 ⟨ok1, List.forall_mem_cons.2 ⟨ok2, List.forall_mem_cons.2 ⟨ok3, List.forall_mem_cons.2 ⟨ok4, List.forall_mem_cons.2 ⟨ok5, List.forall_mem_cons.2 ⟨ok6, List.forall_mem_cons.2 ⟨ok7, List.forall_mem_cons.2 ⟨ok8, List.forall_mem_cons.2 ⟨ok9, List.forall_mem_cons.2 ⟨ok10, List.forall_mem_cons.2 ⟨ok11, List.forall_mem_cons.2 ⟨ok12, List.forall_mem_cons.2 ⟨ok13, List.forall_mem_cons.2 ⟨ok14, List.forall_mem_cons.2 ⟨ok15, List.forall_mem_cons.2 ⟨ok16, List.forall_mem_cons.2 ⟨ok17, List.forall_mem_cons.2 ⟨ok18, List.forall_mem_cons.2 ⟨ok19, List.forall_mem_cons.2 ⟨ok20, List.forall_mem_cons.2 ⟨ok21, List.forall_mem_cons.2 ⟨ok22, List.forall_mem_cons.2 ⟨ok23, List.forall_mem_cons.2 ⟨ok24, List.forall_mem_cons.2 ⟨ok25, List.forall_mem_cons.2 ⟨ok26, List.forall_mem_cons.2 ⟨ok27, List.forall_mem_cons.2 ⟨ok28, List.forall_mem_cons.2 ⟨ok29, List.forall_mem_cons.2 ⟨ok30, List.forall_mem_cons.2 ⟨ok31, List.forall_mem_cons.2 ⟨ok32, List.forall_mem_cons.2 ⟨ok33, List.forall_mem_cons.2 ⟨ok34, List.forall_mem_cons.2 ⟨ok35, List.forall_mem_cons.2 ⟨ok36, List.forall_mem_cons.2 ⟨ok37, List.forall_mem_cons.2 ⟨ok38, List.forall_mem_cons.2 ⟨ok39, List.forall_mem_cons.2 ⟨ok40, List.forall_mem_cons.2 ⟨ok41, List.forall_mem_cons.2 ⟨ok42, List.forall_mem_cons.2 ⟨ok43, List.forall_mem_cons.2 ⟨ok44, List.forall_mem_cons.2 ⟨ok45, List.forall_mem_cons.2 ⟨ok46, List.forall_mem_cons.2 ⟨ok47, List.forall_mem_cons.2 ⟨ok48, List.forall_mem_cons.2 ⟨ok49, List.forall_mem_cons.2 ⟨ok50, List.forall_mem_cons.2 ⟨ok51, List.forall_mem_cons.2 ⟨ok52, List.forall_mem_cons.2 ⟨ok53, List.forall_mem_cons.2 ⟨ok54, List.forall_mem_cons.2 ⟨ok55, List.forall_mem_cons.2 ⟨ok56, List.forall_mem_cons.2 ⟨ok57, List.forall_mem_cons.2 ⟨ok58, List.forall_mem_cons.2 ⟨ok59, List.forall_mem_cons.2 ⟨ok60, List.forall_mem_cons.2 ⟨ok61, List.forall_mem_cons.2 ⟨ok62, List.forall_mem_cons.2 ⟨ok63, List.forall_mem_cons.2 ⟨ok64, List.forall_mem_cons.2 ⟨ok65, List.forall_mem_cons.2 ⟨ok66, List.forall_mem_cons.2 ⟨ok67, List.forall_mem_cons.2 ⟨ok68, List.forall_mem_cons.2 ⟨ok69, List.forall_mem_cons.2 ⟨ok70, List.forall_mem_cons.2 ⟨ok71, List.forall_mem_cons.2 ⟨ok72, List.forall_mem_cons.2 ⟨ok73, List.forall_mem_cons.2 ⟨ok74, List.forall_mem_cons.2 ⟨ok75, List.forall_mem_cons.2 ⟨ok76, List.forall_mem_cons.2 ⟨ok77, List.forall_mem_cons.2 ⟨ok78, List.forall_mem_cons.2 ⟨ok79, List.forall_mem_cons.2 ⟨ok80, List.forall_mem_cons.2 ⟨ok81, List.forall_mem_cons.2 ⟨ok82, List.forall_mem_cons.2 ⟨ok83, List.forall_mem_cons.2 ⟨ok84, List.forall_mem_cons.2 ⟨ok85, List.forall_mem_cons.2 ⟨ok86, List.forall_mem_cons.2 ⟨ok87, List.forall_mem_cons.2 ⟨ok88, List.forall_mem_nil _⟩⟩⟩⟩⟩⟩⟩⟩⟩⟩⟩⟩⟩⟩⟩⟩⟩⟩⟩⟩⟩⟩⟩⟩⟩⟩⟩⟩⟩⟩⟩⟩⟩⟩⟩⟩⟩⟩⟩⟩⟩⟩⟩⟩⟩⟩⟩⟩⟩⟩⟩⟩⟩⟩⟩⟩⟩⟩⟩⟩⟩⟩⟩⟩⟩⟩⟩⟩⟩⟩⟩⟩⟩⟩⟩⟩⟩⟩⟩⟩⟩⟩⟩⟩⟩⟩⟩⟩⟩)
theorem contract : ∀ n, Contract Try.prog T n 0 sg0 := fun n => contracts tiL_ok (by kernel_rfl) fns_ok n 0 sg0 (by simp [sigs])
theorem T_eq : (T 0 = .tm tm0 ∧ T 1 = .tm tm1 ∧ T 2 = .tm tm2 ∧ T 3 = .tm tm3 ∧ T 4 = .tm tm4 ∧ T 5 = .tm tm5 ∧ T 6 = .tm tm6 ∧ T 7 = .tm tm7 ∧ T 8 = .tm tm8 ∧ T 9 = .tm tm9 ∧ T 10 = .tm tm10 ∧ T 11 = .tm tm11 ∧ T 12 = .tm tm12 ∧ T 13 = .tm tm13 ∧ T 14 = .tm tm14 ∧ T 15 = .tm tm15 ∧ T 16 = .tm tm16 ∧ T 17 = .tm tm17 ∧ T 18 = .tm tm18 ∧ T 19 = .tm tm19 ∧ T 20 = .tm tm20 ∧ T 21 = .tm tm21 ∧ T 22 = .tm tm22 ∧ T 23 = .tm tm23 ∧ T 24 = .tm tm24 ∧ T 25 = .tm tm25 ∧ T 26 = .tm tm26 ∧ T 27 = .tm tm27 ∧ T 28 = .tm tm28 ∧ T 29 = .tm tm29 ∧ T 30 = .tm tm30 ∧ T 31 = .tm tm31 ∧ T 32 = .tm tm32 ∧ T 33 = .tm tm33 ∧ T 34 = .tm tm34 ∧ T 35 = .tm tm35 ∧ T 36 = .tm tm36 ∧ T 37 = .tm tm37 ∧ T 38 = .tm tm38 ∧ T 39 = .tm tm39 ∧ T 40 = .tm tm40 ∧ T 41 = .tm tm41 ∧ T 42 = .tm tm42 ∧ T 43 = .tm tm43 ∧ T 44 = .tm tm44 ∧ T 45 = .tm tm45 ∧ T 46 = .tm tm46 ∧ T 47 = .tm tm47 ∧ T 48 = .tm tm48 ∧ T 49 = .tm tm49 ∧ T 50 = .tm tm50 ∧ T 51 = .tm tm51 ∧ T 52 = .tm tm52 ∧ T 53 = .tm tm53 ∧ T 54 = .tm tm54 ∧ T 55 = .tm tm55 ∧ T 56 = .tm tm56 ∧ T 57 = .tm tm57 ∧ T 58 = .tm tm58 ∧ T 59 = .tm tm59 ∧ T 60 = .tm tm60 ∧ T 61 = .tm tm61 ∧ T 62 = .tm tm62 ∧ T 63 = .tm tm63 ∧ T 64 = .tm tm64 ∧ T 65 = .tm tm65 ∧ T 66 = .tm tm66 ∧ T 67 = .tm tm67 ∧ T 68 = .tm tm68 ∧ T 69 = .tm tm69 ∧ T 70 = .ext ex70 ∧ T 71 = .tm tm71 ∧ T 72 = .tm tm72 ∧ T 73 = .tm tm73 ∧ T 74 = .tm tm74 ∧ T 75 = .tm tm75 ∧ T 76 = .tm tm76 ∧ T 77 = .tm tm77 ∧ T 78 = .tm tm78 ∧ T 79 = .tm tm79 ∧ T 80 = .tm tm80 ∧ T 81 = .tm tm81 ∧ T 82 = .tm tm82 ∧ T 83 = .tm tm83 ∧ T 84 = .tm tm84 ∧ T 85 = .tm tm85 ∧ T 86 = .tm tm86 ∧ T 87 = .tm tm87 ∧ T 88 = .tm tm88) := ⟨rfl, rfl, rfl, rfl, rfl, rfl, rfl, rfl, rfl, rfl, rfl, rfl, rfl, rfl, rfl, rfl, rfl, rfl, rfl, rfl, rfl, rfl, rfl, rfl, rfl, rfl, rfl, rfl, rfl, rfl, rfl, rfl, rfl, rfl, rfl, rfl, rfl, rfl, rfl, rfl, rfl, rfl, rfl, rfl, rfl, rfl, rfl, rfl, rfl, rfl, rfl, rfl, rfl, rfl, rfl, rfl, rfl, rfl, rfl, rfl, rfl, rfl, rfl, rfl, rfl, rfl, rfl, rfl, rfl, rfl, rfl, rfl, rfl, rfl, rfl, rfl, rfl, rfl, rfl, rfl, rfl, rfl, rfl, rfl, rfl, rfl, rfl, rfl, rfl⟩
end FnExactSameOrders
end Go.Proofs.Ytgbjmmkjlhjbbaa
