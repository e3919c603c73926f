/- The types of the program, as a table that Lean has checked against it. -/
import Derived.Test.YtecbkeddfjalcaaAvRules
import Derived.Test.YtecbkeddfjalcaaChecked
namespace Go.Proofs.Ytecbkeddfjalcaa
open Go Go.RowKit

def ty1 : TI := { size := 1, bytes := 8, zero := [.sc .nilFunc], kind := .func }
def ty2 : TI := { size := 1, bytes := 8, zero := [.int .i64 0], kind := .int .i64 }
def ty3 : TI := { size := 1, bytes := 8, zero := [.int .i64 0], kind := .int .i64 }
def ty4 : TI := { size := 1, bytes := 1, zero := [.bool false], kind := .bool }
def ty5 : TI := { size := 1, bytes := 1, zero := [.int .u8 0], kind := .int .u8 }
def ty6 : TI := { size := 1, bytes := 1, zero := [.int .u8 0], kind := .int .u8 }
def ty7 : TI := { size := 4, bytes := 24, zero := [.int .i64 0, .int .i64 0, .bool false, .int .u8 0], kind := .struct [(0, 1, 2), (1, 1, 3), (2, 1, 4), (3, 1, 6)] }
def ty8 : TI := { size := 4, bytes := 24, zero := [.int .i64 0, .int .i64 0, .bool false, .int .u8 0], kind := .struct [(0, 1, 2), (1, 1, 3), (2, 1, 4), (3, 1, 6)] }
def ty9 : TI := { size := 1, bytes := 16, zero := [.str []], kind := .str }
def ty10 : TI := { size := 1, bytes := 16, zero := [.str []], kind := .str }
def ty11 : TI := { size := 1, bytes := 16, zero := [.str []], kind := .str }
def ty12 : TI := { size := 1, bytes := 8, zero := [.int .u64 0], kind := .int .u64 }
def ty13 : TI := { size := 2, bytes := 24, zero := [.str [], .int .u64 0], kind := .struct [(0, 1, 9), (1, 1, 12)] }
def ty14 : TI := { size := 2, bytes := 24, zero := [.str [], .int .u64 0], kind := .struct [(0, 1, 9), (1, 1, 12)] }
def ty15 : TI := { size := 1, bytes := 8, zero := [.sc (.pointer none)], kind := .pointer 81 }
def ty16 : TI := { size := 1, bytes := 8, zero := [.sc (.pointer none)], kind := .pointer 84 }
def ty17 : TI := { size := 1, bytes := 8, zero := [.sc (.pointer none)], kind := .pointer 94 }
def ty18 : TI := { size := 1, bytes := 8, zero := [.sc (.pointer none)], kind := .struct [(0, 1, 17)] }
def ty19 : TI := { size := 1, bytes := 8, zero := [.sc (.pointer none)], kind := .struct [(0, 1, 17)] }
def ty21 : TI := { size := 1, bytes := 4, zero := [.int .i32 0], kind := .int .i32 }
def ty22 : TI := { size := 1, bytes := 24, zero := [.sc (.slice none 0 0)], kind := .slice 51 }
def ty23 : TI := { size := 1, bytes := 24, zero := [.sc (.slice none 0 0)], kind := .struct [(0, 1, 22)] }
def ty24 : TI := { size := 1, bytes := 24, zero := [.sc (.slice none 0 0)], kind := .struct [(0, 1, 22)] }
def ty25 : TI := { size := 1, bytes := 8, zero := [.int .i64 0], kind := .int .i64 }
def ty27 : TI := { size := 1, bytes := 8, zero := [.sc .nilFunc], kind := .func }
def ty28 : TI := { size := 1, bytes := 8, zero := [.sc .nilFunc], kind := .func }
def ty29 : TI := { size := 1, bytes := 8, zero := [.sc .nilFunc], kind := .func }
def ty30 : TI := { size := 1, bytes := 8, zero := [.sc .nilFunc], kind := .func }
def ty31 : TI := { size := 1, bytes := 8, zero := [.sc .nilFunc], kind := .func }
def ty32 : TI := { size := 1, bytes := 24, zero := [.sc (.slice none 0 0)], kind := .slice 38 }
def ty33 : TI := { size := 1, bytes := 24, zero := [.sc (.slice none 0 0)], kind := .slice 60 }
def ty34 : TI := { size := 3, bytes := 40, zero := [.int .i64 0, .int .i64 0, .sc (.slice none 0 0)], kind := .struct [(0, 1, 3), (1, 1, 3), (2, 1, 32)] }
def ty35 : TI := { size := 3, bytes := 40, zero := [.int .i64 0, .int .i64 0, .sc (.slice none 0 0)], kind := .struct [(0, 1, 3), (1, 1, 3), (2, 1, 32)] }
def ty36 : TI := { size := 1, bytes := 8, zero := [.sc .nilFunc], kind := .func }
def ty37 : TI := { size := 3, bytes := 40, zero := [.str [], .str [], .bool false], kind := .struct [(0, 1, 9), (1, 1, 9), (2, 1, 4)] }
def ty38 : TI := { size := 3, bytes := 40, zero := [.str [], .str [], .bool false], kind := .struct [(0, 1, 9), (1, 1, 9), (2, 1, 4)], cmp := [.str, .str, .bool] }
def ty40 : TI := { size := 1, bytes := 8, zero := [.sc .nilFunc], kind := .func }
def ty41 : TI := { size := 1, bytes := 8, zero := [.sc .nilFunc], kind := .func }
def ty42 : TI := { size := 1, bytes := 8, zero := [.sc .nilFunc], kind := .func }
def ty43 : TI := { size := 1, bytes := 8, zero := [.sc .nilFunc], kind := .func }
def ty44 : TI := { size := 1, bytes := 8, zero := [.sc .nilFunc], kind := .func }
def ty45 : TI := { size := 1, bytes := 8, zero := [.sc .nilFunc], kind := .func }
def ty46 : TI := { size := 1, bytes := 8, zero := [.sc .nilFunc], kind := .func }
def ty48 : TI := { size := 1, bytes := 8, zero := [.sc .nilFunc], kind := .func }
def ty49 : TI := { size := 1, bytes := 8, zero := [.sc .nilFunc], kind := .func }
def ty50 : TI := { size := 3, bytes := 48, zero := [.str [], .str [], .str []], kind := .struct [(0, 1, 9), (1, 1, 9), (2, 1, 9)] }
def ty51 : TI := { size := 3, bytes := 48, zero := [.str [], .str [], .str []], kind := .struct [(0, 1, 9), (1, 1, 9), (2, 1, 9)], cmp := [.str, .str, .str] }
def ty52 : TI := { size := 1, bytes := 8, zero := [.sc (.pointer none)], kind := .pointer 51 }
def ty53 : TI := { size := 1, bytes := 8, zero := [.sc .nilFunc], kind := .func }
def ty54 : TI := { size := 1, bytes := 8, zero := [.sc .nilFunc], kind := .func }
def ty55 : TI := { size := 1, bytes := 8, zero := [.sc .nilFunc], kind := .func }
def ty56 : TI := { size := 1, bytes := 8, zero := [.sc .nilFunc], kind := .func }
def ty57 : TI := { size := 2, bytes := 24, zero := [.int .i64 0, .str []], kind := .struct [(0, 1, 3), (1, 1, 9)] }
def ty58 : TI := { size := 2, bytes := 24, zero := [.int .i64 0, .str []], kind := .struct [(0, 1, 3), (1, 1, 9)], cmp := [.int .i64, .str] }
def ty59 : TI := { size := 3, bytes := 32, zero := [.int .i64 0, .int .i64 0, .str []], kind := .struct [(0, 1, 3), (1, 2, 58)] }
def ty60 : TI := { size := 3, bytes := 32, zero := [.int .i64 0, .int .i64 0, .str []], kind := .struct [(0, 1, 3), (1, 2, 58)], cmp := [.int .i64, .int .i64, .str] }
def ty61 : TI := { size := 1, bytes := 8, zero := [.sc .nilFunc], kind := .func }
def ty63 : TI := { size := 1, bytes := 8, zero := [.sc .nilFunc], kind := .func }
def ty64 : TI := { size := 1, bytes := 8, zero := [.sc .nilFunc], kind := .func }
def ty65 : TI := { size := 1, bytes := 8, zero := [.sc .nilFunc], kind := .func }
def ty66 : TI := { size := 1, bytes := 8, zero := [.sc .nilFunc], kind := .func }
def ty67 : TI := { size := 1, bytes := 8, zero := [.sc .nilFunc], kind := .func }
def ty68 : TI := { size := 1, bytes := 8, zero := [.sc .nilFunc], kind := .func }
def ty69 : TI := { size := 1, bytes := 8, zero := [.sc .nilFunc], kind := .func }
def ty70 : TI := { size := 1, bytes := 24, zero := [.sc (.slice none 0 0)], kind := .slice 5 }
def ty71 : TI := { size := 1, bytes := 8, zero := [.sc .nilFunc], kind := .func }
def ty72 : TI := { size := 1, bytes := 8, zero := [.sc .nilFunc], kind := .func }
def ty73 : TI := { size := 1, bytes := 8, zero := [.sc .nilFunc], kind := .func }
def ty74 : TI := { size := 1, bytes := 8, zero := [.sc .nilFunc], kind := .func }
def ty75 : TI := { size := 1, bytes := 8, zero := [.sc .nilFunc], kind := .func }
def ty76 : TI := { size := 1, bytes := 8, zero := [.int .u64 0], kind := .int .u64 }
def ty77 : TI := { size := 1, bytes := 8, zero := [.sc .nilFunc], kind := .func }
def ty78 : TI := { size := 1, bytes := 8, zero := [.sc .nilFunc], kind := .func }
def ty79 : TI := { size := 1, bytes := 8, zero := [.sc .nilFunc], kind := .func }
def ty80 : TI := { size := 4, bytes := 40, zero := [.sc (.pointer none), .sc (.pointer none), .sc (.pointer none), .str []], kind := .struct [(0, 1, 17), (1, 1, 17), (2, 1, 17), (3, 1, 9)] }
def ty81 : TI := { size := 4, bytes := 40, zero := [.sc (.pointer none), .sc (.pointer none), .sc (.pointer none), .str []], kind := .struct [(0, 1, 17), (1, 1, 17), (2, 1, 17), (3, 1, 9)] }
def ty85 : TI := { size := 1, bytes := 8, zero := [.sc .nilFunc], kind := .func }
def ty86 : TI := { size := 1, bytes := 4, zero := [.int .u32 0], kind := .int .u32 }
def ty87 : TI := { size := 1, bytes := 1, zero := [.int .u8 0], kind := .int .u8 }
def ty88 : TI := { size := 1, bytes := 1, zero := [.int .u8 0], kind := .int .u8 }
def ty89 : TI := { size := 1, bytes := 8, zero := [.sc .nilFunc], kind := .func }
def ty90 : TI := { size := 1, bytes := 8, zero := [.sc (.pointer none)], kind := .pointer 5 }
def ty91 : TI := { size := 1, bytes := 4, zero := [.int .i32 0], kind := .int .i32 }
def ty92 : TI := { size := 1, bytes := 4, zero := [.int .i32 0], kind := .int .i32 }
def ty93 : TI := { size := 11, bytes := 48, zero := [.int .u64 0, .int .u64 0, .int .u32 0, .int .u8 0, .int .u8 0, .int .u8 0, .int .u8 0, .sc .nilFunc, .sc (.pointer none), .int .i32 0, .int .i32 0], kind := .struct [(0, 1, 12), (1, 1, 12), (2, 1, 86), (3, 1, 87), (4, 1, 5), (5, 1, 5), (6, 1, 88), (7, 1, 89), (8, 1, 90), (9, 1, 91), (10, 1, 92)] }
def ty94 : TI := { size := 11, bytes := 48, zero := [.int .u64 0, .int .u64 0, .int .u32 0, .int .u8 0, .int .u8 0, .int .u8 0, .int .u8 0, .sc .nilFunc, .sc (.pointer none), .int .i32 0, .int .i32 0], kind := .struct [(0, 1, 12), (1, 1, 12), (2, 1, 86), (3, 1, 87), (4, 1, 5), (5, 1, 5), (6, 1, 88), (7, 1, 89), (8, 1, 90), (9, 1, 91), (10, 1, 92)] }
theorem tc1 : tyCheck Try.prog 1 ty1 = true := by kernel_rfl
theorem tc2 : tyCheck Try.prog 2 ty2 = true := by kernel_rfl
theorem tc3 : tyCheck Try.prog 3 ty3 = true := by kernel_rfl
theorem tc4 : tyCheck Try.prog 4 ty4 = true := by kernel_rfl
theorem tc5 : tyCheck Try.prog 5 ty5 = true := by kernel_rfl
theorem tc6 : tyCheck Try.prog 6 ty6 = true := by kernel_rfl
theorem tc7 : tyCheck Try.prog 7 ty7 = true := by kernel_rfl
theorem tc8 : tyCheck Try.prog 8 ty8 = true := by kernel_rfl
theorem tc9 : tyCheck Try.prog 9 ty9 = true := by kernel_rfl
theorem tc10 : tyCheck Try.prog 10 ty10 = true := by kernel_rfl
theorem tc11 : tyCheck Try.prog 11 ty11 = true := by kernel_rfl
theorem tc12 : tyCheck Try.prog 12 ty12 = true := by kernel_rfl
theorem tc13 : tyCheck Try.prog 13 ty13 = true := by kernel_rfl
theorem tc14 : tyCheck Try.prog 14 ty14 = true := by kernel_rfl
theorem tc15 : tyCheck Try.prog 15 ty15 = true := by kernel_rfl
theorem tc16 : tyCheck Try.prog 16 ty16 = true := by kernel_rfl
theorem tc17 : tyCheck Try.prog 17 ty17 = true := by kernel_rfl
theorem tc18 : tyCheck Try.prog 18 ty18 = true := by kernel_rfl
theorem tc19 : tyCheck Try.prog 19 ty19 = true := by kernel_rfl
theorem tc21 : tyCheck Try.prog 21 ty21 = true := by kernel_rfl
theorem tc22 : tyCheck Try.prog 22 ty22 = true := by kernel_rfl
theorem tc23 : tyCheck Try.prog 23 ty23 = true := by kernel_rfl
theorem tc24 : tyCheck Try.prog 24 ty24 = true := by kernel_rfl
theorem tc25 : tyCheck Try.prog 25 ty25 = true := by kernel_rfl
theorem tc27 : tyCheck Try.prog 27 ty27 = true := by kernel_rfl
theorem tc28 : tyCheck Try.prog 28 ty28 = true := by kernel_rfl
theorem tc29 : tyCheck Try.prog 29 ty29 = true := by kernel_rfl
theorem tc30 : tyCheck Try.prog 30 ty30 = true := by kernel_rfl
theorem tc31 : tyCheck Try.prog 31 ty31 = true := by kernel_rfl
theorem tc32 : tyCheck Try.prog 32 ty32 = true := by kernel_rfl
theorem tc33 : tyCheck Try.prog 33 ty33 = true := by kernel_rfl
theorem tc34 : tyCheck Try.prog 34 ty34 = true := by kernel_rfl
theorem tc35 : tyCheck Try.prog 35 ty35 = true := by kernel_rfl
theorem tc36 : tyCheck Try.prog 36 ty36 = true := by kernel_rfl
theorem tc37 : tyCheck Try.prog 37 ty37 = true := by kernel_rfl
theorem tc38 : tyCheck Try.prog 38 ty38 = true := by kernel_rfl
theorem tc40 : tyCheck Try.prog 40 ty40 = true := by kernel_rfl
theorem tc41 : tyCheck Try.prog 41 ty41 = true := by kernel_rfl
theorem tc42 : tyCheck Try.prog 42 ty42 = true := by kernel_rfl
theorem tc43 : tyCheck Try.prog 43 ty43 = true := by kernel_rfl
theorem tc44 : tyCheck Try.prog 44 ty44 = true := by kernel_rfl
theorem tc45 : tyCheck Try.prog 45 ty45 = true := by kernel_rfl
theorem tc46 : tyCheck Try.prog 46 ty46 = true := by kernel_rfl
theorem tc48 : tyCheck Try.prog 48 ty48 = true := by kernel_rfl
theorem tc49 : tyCheck Try.prog 49 ty49 = true := by kernel_rfl
theorem tc50 : tyCheck Try.prog 50 ty50 = true := by kernel_rfl
theorem tc51 : tyCheck Try.prog 51 ty51 = true := by kernel_rfl
theorem tc52 : tyCheck Try.prog 52 ty52 = true := by kernel_rfl
theorem tc53 : tyCheck Try.prog 53 ty53 = true := by kernel_rfl
theorem tc54 : tyCheck Try.prog 54 ty54 = true := by kernel_rfl
theorem tc55 : tyCheck Try.prog 55 ty55 = true := by kernel_rfl
theorem tc56 : tyCheck Try.prog 56 ty56 = true := by kernel_rfl
theorem tc57 : tyCheck Try.prog 57 ty57 = true := by kernel_rfl
theorem tc58 : tyCheck Try.prog 58 ty58 = true := by kernel_rfl
theorem tc59 : tyCheck Try.prog 59 ty59 = true := by kernel_rfl
theorem tc60 : tyCheck Try.prog 60 ty60 = true := by kernel_rfl
theorem tc61 : tyCheck Try.prog 61 ty61 = true := by kernel_rfl
theorem tc63 : tyCheck Try.prog 63 ty63 = true := by kernel_rfl
theorem tc64 : tyCheck Try.prog 64 ty64 = true := by kernel_rfl
theorem tc65 : tyCheck Try.prog 65 ty65 = true := by kernel_rfl
theorem tc66 : tyCheck Try.prog 66 ty66 = true := by kernel_rfl
theorem tc67 : tyCheck Try.prog 67 ty67 = true := by kernel_rfl
theorem tc68 : tyCheck Try.prog 68 ty68 = true := by kernel_rfl
theorem tc69 : tyCheck Try.prog 69 ty69 = true := by kernel_rfl
theorem tc70 : tyCheck Try.prog 70 ty70 = true := by kernel_rfl
theorem tc71 : tyCheck Try.prog 71 ty71 = true := by kernel_rfl
theorem tc72 : tyCheck Try.prog 72 ty72 = true := by kernel_rfl
theorem tc73 : tyCheck Try.prog 73 ty73 = true := by kernel_rfl
theorem tc74 : tyCheck Try.prog 74 ty74 = true := by kernel_rfl
theorem tc75 : tyCheck Try.prog 75 ty75 = true := by kernel_rfl
theorem tc76 : tyCheck Try.prog 76 ty76 = true := by kernel_rfl
theorem tc77 : tyCheck Try.prog 77 ty77 = true := by kernel_rfl
theorem tc78 : tyCheck Try.prog 78 ty78 = true := by kernel_rfl
theorem tc79 : tyCheck Try.prog 79 ty79 = true := by kernel_rfl
theorem tc80 : tyCheck Try.prog 80 ty80 = true := by kernel_rfl
theorem tc81 : tyCheck Try.prog 81 ty81 = true := by kernel_rfl
theorem tc85 : tyCheck Try.prog 85 ty85 = true := by kernel_rfl
theorem tc86 : tyCheck Try.prog 86 ty86 = true := by kernel_rfl
theorem tc87 : tyCheck Try.prog 87 ty87 = true := by kernel_rfl
theorem tc88 : tyCheck Try.prog 88 ty88 = true := by kernel_rfl
theorem tc89 : tyCheck Try.prog 89 ty89 = true := by kernel_rfl
theorem tc90 : tyCheck Try.prog 90 ty90 = true := by kernel_rfl
theorem tc91 : tyCheck Try.prog 91 ty91 = true := by kernel_rfl
theorem tc92 : tyCheck Try.prog 92 ty92 = true := by kernel_rfl
theorem tc93 : tyCheck Try.prog 93 ty93 = true := by kernel_rfl
theorem tc94 : tyCheck Try.prog 94 ty94 = true := by kernel_rfl
def tyL : List (Nat × TI) := [(1, ty1), (2, ty2), (3, ty3), (4, ty4), (5, ty5), (6, ty6), (7, ty7), (8, ty8), (9, ty9), (10, ty10), (11, ty11), (12, ty12), (13, ty13), (14, ty14), (15, ty15), (16, ty16), (17, ty17), (18, ty18), (19, ty19), (21, ty21), (22, ty22), (23, ty23), (24, ty24), (25, ty25), (27, ty27), (28, ty28), (29, ty29), (30, ty30), (31, ty31), (32, ty32), (33, ty33), (34, ty34), (35, ty35), (36, ty36), (37, ty37), (38, ty38), (40, ty40), (41, ty41), (42, ty42), (43, ty43), (44, ty44), (45, ty45), (46, ty46), (48, ty48), (49, ty49), (50, ty50), (51, ty51), (52, ty52), (53, ty53), (54, ty54), (55, ty55), (56, ty56), (57, ty57), (58, ty58), (59, ty59), (60, ty60), (61, ty61), (63, ty63), (64, ty64), (65, ty65), (66, ty66), (67, ty67), (68, ty68), (69, ty69), (70, ty70), (71, ty71), (72, ty72), (73, ty73), (74, ty74), (75, ty75), (76, ty76), (77, ty77), (78, ty78), (79, ty79), (80, ty80), (81, ty81), (85, ty85), (86, ty86), (87, ty87), (88, ty88), (89, ty89), (90, ty90), (91, ty91), (92, ty92), (93, ty93), (94, ty94)]
def T : TypeId → TI := tabOf tyL
theorem tabOk : TabOk Try.prog T := tabOk_of (by
  simp only [tyL, List.forall_mem_cons, List.not_mem_nil, false_implies, implies_true, and_true]
  exact ⟨tc1, tc2, tc3, tc4, tc5, tc6, tc7, tc8, tc9, tc10, tc11, tc12, tc13, tc14, tc15, tc16, tc17, tc18, tc19, tc21, tc22, tc23, tc24, tc25, tc27, tc28, tc29, tc30, tc31, tc32, tc33, tc34, tc35, tc36, tc37, tc38, tc40, tc41, tc42, tc43, tc44, tc45, tc46, tc48, tc49, tc50, tc51, tc52, tc53, tc54, tc55, tc56, tc57, tc58, tc59, tc60, tc61, tc63, tc64, tc65, tc66, tc67, tc68, tc69, tc70, tc71, tc72, tc73, tc74, tc75, tc76, tc77, tc78, tc79, tc80, tc81, tc85, tc86, tc87, tc88, tc89, tc90, tc91, tc92, tc93, tc94⟩)
theorem T_1 : T 1 = ty1 := by kernel_rfl
theorem T_2 : T 2 = ty2 := by kernel_rfl
theorem T_3 : T 3 = ty3 := by kernel_rfl
theorem T_4 : T 4 = ty4 := by kernel_rfl
theorem T_5 : T 5 = ty5 := by kernel_rfl
theorem T_6 : T 6 = ty6 := by kernel_rfl
theorem T_7 : T 7 = ty7 := by kernel_rfl
theorem T_8 : T 8 = ty8 := by kernel_rfl
theorem T_9 : T 9 = ty9 := by kernel_rfl
theorem T_10 : T 10 = ty10 := by kernel_rfl
theorem T_11 : T 11 = ty11 := by kernel_rfl
theorem T_12 : T 12 = ty12 := by kernel_rfl
theorem T_13 : T 13 = ty13 := by kernel_rfl
theorem T_14 : T 14 = ty14 := by kernel_rfl
theorem T_15 : T 15 = ty15 := by kernel_rfl
theorem T_16 : T 16 = ty16 := by kernel_rfl
theorem T_17 : T 17 = ty17 := by kernel_rfl
theorem T_18 : T 18 = ty18 := by kernel_rfl
theorem T_19 : T 19 = ty19 := by kernel_rfl
theorem T_21 : T 21 = ty21 := by kernel_rfl
theorem T_22 : T 22 = ty22 := by kernel_rfl
theorem T_23 : T 23 = ty23 := by kernel_rfl
theorem T_24 : T 24 = ty24 := by kernel_rfl
theorem T_25 : T 25 = ty25 := by kernel_rfl
theorem T_27 : T 27 = ty27 := by kernel_rfl
theorem T_28 : T 28 = ty28 := by kernel_rfl
theorem T_29 : T 29 = ty29 := by kernel_rfl
theorem T_30 : T 30 = ty30 := by kernel_rfl
theorem T_31 : T 31 = ty31 := by kernel_rfl
theorem T_32 : T 32 = ty32 := by kernel_rfl
theorem T_33 : T 33 = ty33 := by kernel_rfl
theorem T_34 : T 34 = ty34 := by kernel_rfl
theorem T_35 : T 35 = ty35 := by kernel_rfl
theorem T_36 : T 36 = ty36 := by kernel_rfl
theorem T_37 : T 37 = ty37 := by kernel_rfl
theorem T_38 : T 38 = ty38 := by kernel_rfl
theorem T_40 : T 40 = ty40 := by kernel_rfl
theorem T_41 : T 41 = ty41 := by kernel_rfl
theorem T_42 : T 42 = ty42 := by kernel_rfl
theorem T_43 : T 43 = ty43 := by kernel_rfl
theorem T_44 : T 44 = ty44 := by kernel_rfl
theorem T_45 : T 45 = ty45 := by kernel_rfl
theorem T_46 : T 46 = ty46 := by kernel_rfl
theorem T_48 : T 48 = ty48 := by kernel_rfl
theorem T_49 : T 49 = ty49 := by kernel_rfl
theorem T_50 : T 50 = ty50 := by kernel_rfl
theorem T_51 : T 51 = ty51 := by kernel_rfl
theorem T_52 : T 52 = ty52 := by kernel_rfl
theorem T_53 : T 53 = ty53 := by kernel_rfl
theorem T_54 : T 54 = ty54 := by kernel_rfl
theorem T_55 : T 55 = ty55 := by kernel_rfl
theorem T_56 : T 56 = ty56 := by kernel_rfl
theorem T_57 : T 57 = ty57 := by kernel_rfl
theorem T_58 : T 58 = ty58 := by kernel_rfl
theorem T_59 : T 59 = ty59 := by kernel_rfl
theorem T_60 : T 60 = ty60 := by kernel_rfl
theorem T_61 : T 61 = ty61 := by kernel_rfl
theorem T_63 : T 63 = ty63 := by kernel_rfl
theorem T_64 : T 64 = ty64 := by kernel_rfl
theorem T_65 : T 65 = ty65 := by kernel_rfl
theorem T_66 : T 66 = ty66 := by kernel_rfl
theorem T_67 : T 67 = ty67 := by kernel_rfl
theorem T_68 : T 68 = ty68 := by kernel_rfl
theorem T_69 : T 69 = ty69 := by kernel_rfl
theorem T_70 : T 70 = ty70 := by kernel_rfl
theorem T_71 : T 71 = ty71 := by kernel_rfl
theorem T_72 : T 72 = ty72 := by kernel_rfl
theorem T_73 : T 73 = ty73 := by kernel_rfl
theorem T_74 : T 74 = ty74 := by kernel_rfl
theorem T_75 : T 75 = ty75 := by kernel_rfl
theorem T_76 : T 76 = ty76 := by kernel_rfl
theorem T_77 : T 77 = ty77 := by kernel_rfl
theorem T_78 : T 78 = ty78 := by kernel_rfl
theorem T_79 : T 79 = ty79 := by kernel_rfl
theorem T_80 : T 80 = ty80 := by kernel_rfl
theorem T_81 : T 81 = ty81 := by kernel_rfl
theorem T_85 : T 85 = ty85 := by kernel_rfl
theorem T_86 : T 86 = ty86 := by kernel_rfl
theorem T_87 : T 87 = ty87 := by kernel_rfl
theorem T_88 : T 88 = ty88 := by kernel_rfl
theorem T_89 : T 89 = ty89 := by kernel_rfl
theorem T_90 : T 90 = ty90 := by kernel_rfl
theorem T_91 : T 91 = ty91 := by kernel_rfl
theorem T_92 : T 92 = ty92 := by kernel_rfl
theorem T_93 : T 93 = ty93 := by kernel_rfl
theorem T_94 : T 94 = ty94 := by kernel_rfl
attribute [go_sem] T_1 ty1 T_2 ty2 T_3 ty3 T_4 ty4 T_5 ty5 T_6 ty6 T_7 ty7 T_8 ty8 T_9 ty9 T_10 ty10 T_11 ty11 T_12 ty12 T_13 ty13 T_14 ty14 T_15 ty15 T_16 ty16 T_17 ty17 T_18 ty18 T_19 ty19 T_21 ty21 T_22 ty22 T_23 ty23 T_24 ty24 T_25 ty25 T_27 ty27 T_28 ty28 T_29 ty29 T_30 ty30 T_31 ty31 T_32 ty32 T_33 ty33 T_34 ty34 T_35 ty35 T_36 ty36 T_37 ty37 T_38 ty38 T_40 ty40 T_41 ty41 T_42 ty42 T_43 ty43 T_44 ty44 T_45 ty45 T_46 ty46 T_48 ty48 T_49 ty49 T_50 ty50 T_51 ty51 T_52 ty52 T_53 ty53 T_54 ty54 T_55 ty55 T_56 ty56 T_57 ty57 T_58 ty58 T_59 ty59 T_60 ty60 T_61 ty61 T_63 ty63 T_64 ty64 T_65 ty65 T_66 ty66 T_67 ty67 T_68 ty68 T_69 ty69 T_70 ty70 T_71 ty71 T_72 ty72 T_73 ty73 T_74 ty74 T_75 ty75 T_76 ty76 T_77 ty77 T_78 ty78 T_79 ty79 T_80 ty80 T_81 ty81 T_85 ty85 T_86 ty86 T_87 ty87 T_88 ty88 T_89 ty89 T_90 ty90 T_91 ty91 T_92 ty92 T_93 ty93 T_94 ty94
theorem mixed : Try.prog.follows .mixedOrders = true := by kernel_rfl
end Go.Proofs.Ytecbkeddfjalcaa
