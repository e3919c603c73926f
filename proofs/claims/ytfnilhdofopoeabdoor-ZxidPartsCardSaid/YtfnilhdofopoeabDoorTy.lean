/- The types of the program, as a table that Lean has checked against it. -/
import Derived.Test.YtfnilhdofopoeabDoorAvRules
import Derived.Test.YtfnilhdofopoeabDoorChecked
namespace Go.Proofs.YtfnilhdofopoeabDoor
set_option linter.unusedVariables false
set_option maxRecDepth 100000
set_option linter.unusedSimpArgs false
open Go Go.RowKit

def ty1 : TI := { size := 1, bytes := 8, zero := [.sc .nilFunc], kind := .func }
def ty2 : TI := { size := 1, bytes := 8, zero := [.int .i64 0], kind := .int .i64 }
def ty3 : TI := { size := 1, bytes := 8, zero := [.int .i64 0], kind := .int .i64 }
def ty4 : TI := { size := 1, bytes := 1, zero := [.bool false], kind := .bool }
def ty5 : TI := { size := 1, bytes := 1, zero := [.int .u8 0], kind := .int .u8 }
def ty6 : TI := { size := 1, bytes := 1, zero := [.int .u8 0], kind := .int .u8 }
def ty7 : TI := { size := 4, bytes := 24, zero := [.int .i64 0, .int .i64 0, .bool false, .int .u8 0], kind := .struct [(0, 1, 2), (1, 1, 3), (2, 1, 4), (3, 1, 6)] }
def ty8 : TI := { size := 4, bytes := 24, zero := [.int .i64 0, .int .i64 0, .bool false, .int .u8 0], kind := .struct [(0, 1, 2), (1, 1, 3), (2, 1, 4), (3, 1, 6)] }
def ty9 : TI := { size := 1, bytes := 16, zero := [.str []], kind := .str }
def ty10 : TI := { size := 1, bytes := 16, zero := [.str []], kind := .str }
def ty11 : TI := { size := 1, bytes := 16, zero := [.str []], kind := .str }
def ty12 : TI := { size := 1, bytes := 8, zero := [.int .u64 0], kind := .int .u64 }
def ty13 : TI := { size := 2, bytes := 24, zero := [.str [], .int .u64 0], kind := .struct [(0, 1, 9), (1, 1, 12)] }
def ty14 : TI := { size := 2, bytes := 24, zero := [.str [], .int .u64 0], kind := .struct [(0, 1, 9), (1, 1, 12)] }
def ty15 : TI := { size := 1, bytes := 8, zero := [.sc (.pointer none)], kind := .pointer 47 }
def ty16 : TI := { size := 1, bytes := 8, zero := [.sc (.pointer none)], kind := .pointer 50 }
def ty17 : TI := { size := 1, bytes := 8, zero := [.sc (.pointer none)], kind := .pointer 59 }
def ty18 : TI := { size := 1, bytes := 8, zero := [.sc (.pointer none)], kind := .struct [(0, 1, 17)] }
def ty19 : TI := { size := 1, bytes := 8, zero := [.sc (.pointer none)], kind := .struct [(0, 1, 17)] }
def ty21 : TI := { size := 1, bytes := 4, zero := [.int .i32 0], kind := .int .i32 }
def ty22 : TI := { size := 1, bytes := 8, zero := [.int .i64 0], kind := .int .i64 }
def ty24 : TI := { size := 1, bytes := 8, zero := [.sc .nilFunc], kind := .func }
def ty25 : TI := { size := 1, bytes := 8, zero := [.sc .nilFunc], kind := .func }
def ty26 : TI := { size := 1, bytes := 8, zero := [.sc .nilFunc], kind := .func }
def ty27 : TI := { size := 1, bytes := 8, zero := [.sc .nilFunc], kind := .func }
def ty28 : TI := { size := 1, bytes := 8, zero := [.int .u64 0], kind := .int .u64 }
def ty29 : TI := { size := 1, bytes := 24, zero := [.sc (.slice none 0 0)], kind := .slice 5 }
def ty30 : TI := { size := 1, bytes := 8, zero := [.sc .nilFunc], kind := .func }
def ty31 : TI := { size := 24, bytes := 24, zero := [.int .u8 0, .int .u8 0, .int .u8 0, .int .u8 0, .int .u8 0, .int .u8 0, .int .u8 0, .int .u8 0, .int .u8 0, .int .u8 0, .int .u8 0, .int .u8 0, .int .u8 0, .int .u8 0, .int .u8 0, .int .u8 0, .int .u8 0, .int .u8 0, .int .u8 0, .int .u8 0, .int .u8 0, .int .u8 0, .int .u8 0, .int .u8 0], kind := .array 24 5 }
def ty32 : TI := { size := 1, bytes := 8, zero := [.int .u64 0], kind := .int .u64 }
def ty33 : TI := { size := 1, bytes := 8, zero := [.sc .nilFunc], kind := .func }
def ty34 : TI := { size := 1, bytes := 8, zero := [.sc .nilFunc], kind := .func }
def ty36 : TI := { size := 1, bytes := 8, zero := [.sc .nilFunc], kind := .func }
def ty37 : TI := { size := 1, bytes := 8, zero := [.sc .nilFunc], kind := .func }
def ty38 : TI := { size := 20, bytes := 160, zero := [.int .u64 0, .int .u64 0, .int .u64 0, .int .u64 0, .int .u64 0, .int .u64 0, .int .u64 0, .int .u64 0, .int .u64 0, .int .u64 0, .int .u64 0, .int .u64 0, .int .u64 0, .int .u64 0, .int .u64 0, .int .u64 0, .int .u64 0, .int .u64 0, .int .u64 0, .int .u64 0], kind := .array 20 32 }
def ty39 : TI := { size := 1, bytes := 4, zero := [.int .u32 0], kind := .int .u32 }
def ty40 : TI := { size := 65, bytes := 65, zero := [.int .u8 0, .int .u8 0, .int .u8 0, .int .u8 0, .int .u8 0, .int .u8 0, .int .u8 0, .int .u8 0, .int .u8 0, .int .u8 0, .int .u8 0, .int .u8 0, .int .u8 0, .int .u8 0, .int .u8 0, .int .u8 0, .int .u8 0, .int .u8 0, .int .u8 0, .int .u8 0, .int .u8 0, .int .u8 0, .int .u8 0, .int .u8 0, .int .u8 0, .int .u8 0, .int .u8 0, .int .u8 0, .int .u8 0, .int .u8 0, .int .u8 0, .int .u8 0, .int .u8 0, .int .u8 0, .int .u8 0, .int .u8 0, .int .u8 0, .int .u8 0, .int .u8 0, .int .u8 0, .int .u8 0, .int .u8 0, .int .u8 0, .int .u8 0, .int .u8 0, .int .u8 0, .int .u8 0, .int .u8 0, .int .u8 0, .int .u8 0, .int .u8 0, .int .u8 0, .int .u8 0, .int .u8 0, .int .u8 0, .int .u8 0, .int .u8 0, .int .u8 0, .int .u8 0, .int .u8 0, .int .u8 0, .int .u8 0, .int .u8 0, .int .u8 0, .int .u8 0], kind := .array 65 5 }
def ty41 : TI := { size := 1, bytes := 8, zero := [.sc .nilFunc], kind := .func }
def ty42 : TI := { size := 1, bytes := 8, zero := [.sc .nilFunc], kind := .func }
def ty43 : TI := { size := 32, bytes := 32, zero := [.int .u8 0, .int .u8 0, .int .u8 0, .int .u8 0, .int .u8 0, .int .u8 0, .int .u8 0, .int .u8 0, .int .u8 0, .int .u8 0, .int .u8 0, .int .u8 0, .int .u8 0, .int .u8 0, .int .u8 0, .int .u8 0, .int .u8 0, .int .u8 0, .int .u8 0, .int .u8 0, .int .u8 0, .int .u8 0, .int .u8 0, .int .u8 0, .int .u8 0, .int .u8 0, .int .u8 0, .int .u8 0, .int .u8 0, .int .u8 0, .int .u8 0, .int .u8 0], kind := .array 32 5 }
def ty44 : TI := { size := 64, bytes := 64, zero := [.int .u8 0, .int .u8 0, .int .u8 0, .int .u8 0, .int .u8 0, .int .u8 0, .int .u8 0, .int .u8 0, .int .u8 0, .int .u8 0, .int .u8 0, .int .u8 0, .int .u8 0, .int .u8 0, .int .u8 0, .int .u8 0, .int .u8 0, .int .u8 0, .int .u8 0, .int .u8 0, .int .u8 0, .int .u8 0, .int .u8 0, .int .u8 0, .int .u8 0, .int .u8 0, .int .u8 0, .int .u8 0, .int .u8 0, .int .u8 0, .int .u8 0, .int .u8 0, .int .u8 0, .int .u8 0, .int .u8 0, .int .u8 0, .int .u8 0, .int .u8 0, .int .u8 0, .int .u8 0, .int .u8 0, .int .u8 0, .int .u8 0, .int .u8 0, .int .u8 0, .int .u8 0, .int .u8 0, .int .u8 0, .int .u8 0, .int .u8 0, .int .u8 0, .int .u8 0, .int .u8 0, .int .u8 0, .int .u8 0, .int .u8 0, .int .u8 0, .int .u8 0, .int .u8 0, .int .u8 0, .int .u8 0, .int .u8 0, .int .u8 0, .int .u8 0], kind := .array 64 5 }
def ty45 : TI := { size := 1, bytes := 8, zero := [.sc .nilFunc], kind := .func }
def ty46 : TI := { size := 4, bytes := 40, zero := [.sc (.pointer none), .sc (.pointer none), .sc (.pointer none), .str []], kind := .struct [(0, 1, 17), (1, 1, 17), (2, 1, 17), (3, 1, 9)] }
def ty47 : TI := { size := 4, bytes := 40, zero := [.sc (.pointer none), .sc (.pointer none), .sc (.pointer none), .str []], kind := .struct [(0, 1, 17), (1, 1, 17), (2, 1, 17), (3, 1, 9)] }
def ty51 : TI := { size := 1, bytes := 8, zero := [.sc .nilFunc], kind := .func }
def ty52 : TI := { size := 1, bytes := 1, zero := [.int .u8 0], kind := .int .u8 }
def ty53 : TI := { size := 1, bytes := 1, zero := [.int .u8 0], kind := .int .u8 }
def ty54 : TI := { size := 1, bytes := 8, zero := [.sc .nilFunc], kind := .func }
def ty55 : TI := { size := 1, bytes := 8, zero := [.sc (.pointer none)], kind := .pointer 5 }
def ty56 : TI := { size := 1, bytes := 4, zero := [.int .i32 0], kind := .int .i32 }
def ty57 : TI := { size := 1, bytes := 4, zero := [.int .i32 0], kind := .int .i32 }
def ty58 : TI := { size := 11, bytes := 48, zero := [.int .u64 0, .int .u64 0, .int .u32 0, .int .u8 0, .int .u8 0, .int .u8 0, .int .u8 0, .sc .nilFunc, .sc (.pointer none), .int .i32 0, .int .i32 0], kind := .struct [(0, 1, 12), (1, 1, 12), (2, 1, 39), (3, 1, 52), (4, 1, 5), (5, 1, 5), (6, 1, 53), (7, 1, 54), (8, 1, 55), (9, 1, 56), (10, 1, 57)] }
def ty59 : TI := { size := 11, bytes := 48, zero := [.int .u64 0, .int .u64 0, .int .u32 0, .int .u8 0, .int .u8 0, .int .u8 0, .int .u8 0, .sc .nilFunc, .sc (.pointer none), .int .i32 0, .int .i32 0], kind := .struct [(0, 1, 12), (1, 1, 12), (2, 1, 39), (3, 1, 52), (4, 1, 5), (5, 1, 5), (6, 1, 53), (7, 1, 54), (8, 1, 55), (9, 1, 56), (10, 1, 57)] }
theorem tc1 : tyCheck Tryd.prog 1 ty1 = true := by kernel_rfl
theorem tc2 : tyCheck Tryd.prog 2 ty2 = true := by kernel_rfl
theorem tc3 : tyCheck Tryd.prog 3 ty3 = true := by kernel_rfl
theorem tc4 : tyCheck Tryd.prog 4 ty4 = true := by kernel_rfl
theorem tc5 : tyCheck Tryd.prog 5 ty5 = true := by kernel_rfl
theorem tc6 : tyCheck Tryd.prog 6 ty6 = true := by kernel_rfl
theorem tc7 : tyCheck Tryd.prog 7 ty7 = true := by kernel_rfl
theorem tc8 : tyCheck Tryd.prog 8 ty8 = true := by kernel_rfl
theorem tc9 : tyCheck Tryd.prog 9 ty9 = true := by kernel_rfl
theorem tc10 : tyCheck Tryd.prog 10 ty10 = true := by kernel_rfl
theorem tc11 : tyCheck Tryd.prog 11 ty11 = true := by kernel_rfl
theorem tc12 : tyCheck Tryd.prog 12 ty12 = true := by kernel_rfl
theorem tc13 : tyCheck Tryd.prog 13 ty13 = true := by kernel_rfl
theorem tc14 : tyCheck Tryd.prog 14 ty14 = true := by kernel_rfl
theorem tc15 : tyCheck Tryd.prog 15 ty15 = true := by kernel_rfl
theorem tc16 : tyCheck Tryd.prog 16 ty16 = true := by kernel_rfl
theorem tc17 : tyCheck Tryd.prog 17 ty17 = true := by kernel_rfl
theorem tc18 : tyCheck Tryd.prog 18 ty18 = true := by kernel_rfl
theorem tc19 : tyCheck Tryd.prog 19 ty19 = true := by kernel_rfl
theorem tc21 : tyCheck Tryd.prog 21 ty21 = true := by kernel_rfl
theorem tc22 : tyCheck Tryd.prog 22 ty22 = true := by kernel_rfl
theorem tc24 : tyCheck Tryd.prog 24 ty24 = true := by kernel_rfl
theorem tc25 : tyCheck Tryd.prog 25 ty25 = true := by kernel_rfl
theorem tc26 : tyCheck Tryd.prog 26 ty26 = true := by kernel_rfl
theorem tc27 : tyCheck Tryd.prog 27 ty27 = true := by kernel_rfl
theorem tc28 : tyCheck Tryd.prog 28 ty28 = true := by kernel_rfl
theorem tc29 : tyCheck Tryd.prog 29 ty29 = true := by kernel_rfl
theorem tc30 : tyCheck Tryd.prog 30 ty30 = true := by kernel_rfl
theorem tc31 : tyCheck Tryd.prog 31 ty31 = true := by kernel_rfl
theorem tc32 : tyCheck Tryd.prog 32 ty32 = true := by kernel_rfl
theorem tc33 : tyCheck Tryd.prog 33 ty33 = true := by kernel_rfl
theorem tc34 : tyCheck Tryd.prog 34 ty34 = true := by kernel_rfl
theorem tc36 : tyCheck Tryd.prog 36 ty36 = true := by kernel_rfl
theorem tc37 : tyCheck Tryd.prog 37 ty37 = true := by kernel_rfl
theorem tc38 : tyCheck Tryd.prog 38 ty38 = true := by kernel_rfl
theorem tc39 : tyCheck Tryd.prog 39 ty39 = true := by kernel_rfl
theorem tc40 : tyCheck Tryd.prog 40 ty40 = true := by kernel_rfl
theorem tc41 : tyCheck Tryd.prog 41 ty41 = true := by kernel_rfl
theorem tc42 : tyCheck Tryd.prog 42 ty42 = true := by kernel_rfl
theorem tc43 : tyCheck Tryd.prog 43 ty43 = true := by kernel_rfl
theorem tc44 : tyCheck Tryd.prog 44 ty44 = true := by kernel_rfl
theorem tc45 : tyCheck Tryd.prog 45 ty45 = true := by kernel_rfl
theorem tc46 : tyCheck Tryd.prog 46 ty46 = true := by kernel_rfl
theorem tc47 : tyCheck Tryd.prog 47 ty47 = true := by kernel_rfl
theorem tc51 : tyCheck Tryd.prog 51 ty51 = true := by kernel_rfl
theorem tc52 : tyCheck Tryd.prog 52 ty52 = true := by kernel_rfl
theorem tc53 : tyCheck Tryd.prog 53 ty53 = true := by kernel_rfl
theorem tc54 : tyCheck Tryd.prog 54 ty54 = true := by kernel_rfl
theorem tc55 : tyCheck Tryd.prog 55 ty55 = true := by kernel_rfl
theorem tc56 : tyCheck Tryd.prog 56 ty56 = true := by kernel_rfl
theorem tc57 : tyCheck Tryd.prog 57 ty57 = true := by kernel_rfl
theorem tc58 : tyCheck Tryd.prog 58 ty58 = true := by kernel_rfl
theorem tc59 : tyCheck Tryd.prog 59 ty59 = true := by kernel_rfl
def tyL : List (Nat × TI) := [(1, ty1), (2, ty2), (3, ty3), (4, ty4), (5, ty5), (6, ty6), (7, ty7), (8, ty8), (9, ty9), (10, ty10), (11, ty11), (12, ty12), (13, ty13), (14, ty14), (15, ty15), (16, ty16), (17, ty17), (18, ty18), (19, ty19), (21, ty21), (22, ty22), (24, ty24), (25, ty25), (26, ty26), (27, ty27), (28, ty28), (29, ty29), (30, ty30), (31, ty31), (32, ty32), (33, ty33), (34, ty34), (36, ty36), (37, ty37), (38, ty38), (39, ty39), (40, ty40), (41, ty41), (42, ty42), (43, ty43), (44, ty44), (45, ty45), (46, ty46), (47, ty47), (51, ty51), (52, ty52), (53, ty53), (54, ty54), (55, ty55), (56, ty56), (57, ty57), (58, ty58), (59, ty59)]
def T : TypeId → TI := tabOf tyL
theorem tabOk : TabOk Tryd.prog T := tabOk_of (by
  simp only [tyL, List.forall_mem_cons, List.not_mem_nil, false_implies, implies_true, and_true]
  exact ⟨tc1, tc2, tc3, tc4, tc5, tc6, tc7, tc8, tc9, tc10, tc11, tc12, tc13, tc14, tc15, tc16, tc17, tc18, tc19, tc21, tc22, tc24, tc25, tc26, tc27, tc28, tc29, tc30, tc31, tc32, tc33, tc34, tc36, tc37, tc38, tc39, tc40, tc41, tc42, tc43, tc44, tc45, tc46, tc47, tc51, tc52, tc53, tc54, tc55, tc56, tc57, tc58, tc59⟩)
theorem T_1 : T 1 = ty1 := by kernel_rfl
theorem T_2 : T 2 = ty2 := by kernel_rfl
theorem T_3 : T 3 = ty3 := by kernel_rfl
theorem T_4 : T 4 = ty4 := by kernel_rfl
theorem T_5 : T 5 = ty5 := by kernel_rfl
theorem T_6 : T 6 = ty6 := by kernel_rfl
theorem T_7 : T 7 = ty7 := by kernel_rfl
theorem T_8 : T 8 = ty8 := by kernel_rfl
theorem T_9 : T 9 = ty9 := by kernel_rfl
theorem T_10 : T 10 = ty10 := by kernel_rfl
theorem T_11 : T 11 = ty11 := by kernel_rfl
theorem T_12 : T 12 = ty12 := by kernel_rfl
theorem T_13 : T 13 = ty13 := by kernel_rfl
theorem T_14 : T 14 = ty14 := by kernel_rfl
theorem T_15 : T 15 = ty15 := by kernel_rfl
theorem T_16 : T 16 = ty16 := by kernel_rfl
theorem T_17 : T 17 = ty17 := by kernel_rfl
theorem T_18 : T 18 = ty18 := by kernel_rfl
theorem T_19 : T 19 = ty19 := by kernel_rfl
theorem T_21 : T 21 = ty21 := by kernel_rfl
theorem T_22 : T 22 = ty22 := by kernel_rfl
theorem T_24 : T 24 = ty24 := by kernel_rfl
theorem T_25 : T 25 = ty25 := by kernel_rfl
theorem T_26 : T 26 = ty26 := by kernel_rfl
theorem T_27 : T 27 = ty27 := by kernel_rfl
theorem T_28 : T 28 = ty28 := by kernel_rfl
theorem T_29 : T 29 = ty29 := by kernel_rfl
theorem T_30 : T 30 = ty30 := by kernel_rfl
theorem T_31 : T 31 = ty31 := by kernel_rfl
theorem T_32 : T 32 = ty32 := by kernel_rfl
theorem T_33 : T 33 = ty33 := by kernel_rfl
theorem T_34 : T 34 = ty34 := by kernel_rfl
theorem T_36 : T 36 = ty36 := by kernel_rfl
theorem T_37 : T 37 = ty37 := by kernel_rfl
theorem T_38 : T 38 = ty38 := by kernel_rfl
theorem T_39 : T 39 = ty39 := by kernel_rfl
theorem T_40 : T 40 = ty40 := by kernel_rfl
theorem T_41 : T 41 = ty41 := by kernel_rfl
theorem T_42 : T 42 = ty42 := by kernel_rfl
theorem T_43 : T 43 = ty43 := by kernel_rfl
theorem T_44 : T 44 = ty44 := by kernel_rfl
theorem T_45 : T 45 = ty45 := by kernel_rfl
theorem T_46 : T 46 = ty46 := by kernel_rfl
theorem T_47 : T 47 = ty47 := by kernel_rfl
theorem T_51 : T 51 = ty51 := by kernel_rfl
theorem T_52 : T 52 = ty52 := by kernel_rfl
theorem T_53 : T 53 = ty53 := by kernel_rfl
theorem T_54 : T 54 = ty54 := by kernel_rfl
theorem T_55 : T 55 = ty55 := by kernel_rfl
theorem T_56 : T 56 = ty56 := by kernel_rfl
theorem T_57 : T 57 = ty57 := by kernel_rfl
theorem T_58 : T 58 = ty58 := by kernel_rfl
theorem T_59 : T 59 = ty59 := by kernel_rfl
attribute [go_sem] T_1 ty1 T_2 ty2 T_3 ty3 T_4 ty4 T_5 ty5 T_6 ty6 T_7 ty7 T_8 ty8 T_9 ty9 T_10 ty10 T_11 ty11 T_12 ty12 T_13 ty13 T_14 ty14 T_15 ty15 T_16 ty16 T_17 ty17 T_18 ty18 T_19 ty19 T_21 ty21 T_22 ty22 T_24 ty24 T_25 ty25 T_26 ty26 T_27 ty27 T_28 ty28 T_29 ty29 T_30 ty30 T_31 ty31 T_32 ty32 T_33 ty33 T_34 ty34 T_36 ty36 T_37 ty37 T_38 ty38 T_39 ty39 T_40 ty40 T_41 ty41 T_42 ty42 T_43 ty43 T_44 ty44 T_45 ty45 T_46 ty46 T_47 ty47 T_51 ty51 T_52 ty52 T_53 ty53 T_54 ty54 T_55 ty55 T_56 ty56 T_57 ty57 T_58 ty58 T_59 ty59
theorem mixed : Tryd.prog.follows .mixedOrders = true := by kernel_rfl
end Go.Proofs.YtfnilhdofopoeabDoor
