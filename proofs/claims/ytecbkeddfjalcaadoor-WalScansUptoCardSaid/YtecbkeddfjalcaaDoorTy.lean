/- The types of the program, as a table that Lean has checked against it. -/
import Derived.Test.YtecbkeddfjalcaaDoorAvRules
import Derived.Test.YtecbkeddfjalcaaDoorChecked
namespace Go.Proofs.YtecbkeddfjalcaaDoor
set_option linter.unusedVariables false
set_option linter.unusedSimpArgs false
open Go Go.RowKit

def ty1 : TI := { size := 1, bytes := 8, zero := [.sc .nilFunc], kind := .func }
def ty2 : TI := { size := 1, bytes := 8, zero := [.int .i64 0], kind := .int .i64 }
def ty3 : TI := { size := 1, bytes := 8, zero := [.int .i64 0], kind := .int .i64 }
def ty4 : TI := { size := 1, bytes := 1, zero := [.bool false], kind := .bool }
def ty5 : TI := { size := 1, bytes := 1, zero := [.int .u8 0], kind := .int .u8 }
def ty6 : TI := { size := 1, bytes := 1, zero := [.int .u8 0], kind := .int .u8 }
def ty7 : TI := { size := 4, bytes := 24, zero := [.int .i64 0, .int .i64 0, .bool false, .int .u8 0], kind := .struct [(0, 1, 2), (1, 1, 3), (2, 1, 4), (3, 1, 6)] }
def ty8 : TI := { size := 4, bytes := 24, zero := [.int .i64 0, .int .i64 0, .bool false, .int .u8 0], kind := .struct [(0, 1, 2), (1, 1, 3), (2, 1, 4), (3, 1, 6)] }
def ty9 : TI := { size := 1, bytes := 16, zero := [.str []], kind := .str }
def ty10 : TI := { size := 1, bytes := 16, zero := [.str []], kind := .str }
def ty11 : TI := { size := 1, bytes := 16, zero := [.str []], kind := .str }
def ty12 : TI := { size := 1, bytes := 8, zero := [.int .u64 0], kind := .int .u64 }
def ty13 : TI := { size := 2, bytes := 24, zero := [.str [], .int .u64 0], kind := .struct [(0, 1, 9), (1, 1, 12)] }
def ty14 : TI := { size := 2, bytes := 24, zero := [.str [], .int .u64 0], kind := .struct [(0, 1, 9), (1, 1, 12)] }
def ty15 : TI := { size := 1, bytes := 8, zero := [.sc (.pointer none)], kind := .pointer 134 }
def ty16 : TI := { size := 1, bytes := 8, zero := [.sc (.pointer none)], kind := .pointer 137 }
def ty17 : TI := { size := 1, bytes := 8, zero := [.sc (.pointer none)], kind := .pointer 146 }
def ty18 : TI := { size := 1, bytes := 8, zero := [.sc (.pointer none)], kind := .struct [(0, 1, 17)] }
def ty19 : TI := { size := 1, bytes := 8, zero := [.sc (.pointer none)], kind := .struct [(0, 1, 17)] }
def ty21 : TI := { size := 1, bytes := 4, zero := [.int .i32 0], kind := .int .i32 }
def ty22 : TI := { size := 1, bytes := 8, zero := [.sc .nilFunc], kind := .func }
def ty23 : TI := { size := 1, bytes := 8, zero := [.int .i64 0], kind := .int .i64 }
def ty25 : TI := { size := 1, bytes := 8, zero := [.sc .nilFunc], kind := .func }
def ty26 : TI := { size := 1, bytes := 8, zero := [.sc .nilFunc], kind := .func }
def ty27 : TI := { size := 1, bytes := 8, zero := [.sc .nilFunc], kind := .func }
def ty28 : TI := { size := 1, bytes := 8, zero := [.sc .nilFunc], kind := .func }
def ty29 : TI := { size := 1, bytes := 8, zero := [.sc .nilFunc], kind := .func }
def ty30 : TI := { size := 1, bytes := 8, zero := [.sc .nilFunc], kind := .func }
def ty31 : TI := { size := 1, bytes := 8, zero := [.sc .nilFunc], kind := .func }
def ty32 : TI := { size := 1, bytes := 24, zero := [.sc (.slice none 0 0)], kind := .slice 34 }
def ty33 : TI := { size := 3, bytes := 32, zero := [.int .i64 0, .int .i64 0, .str []], kind := .struct [(0, 1, 3), (1, 1, 3), (2, 1, 9)] }
def ty34 : TI := { size := 3, bytes := 32, zero := [.int .i64 0, .int .i64 0, .str []], kind := .struct [(0, 1, 3), (1, 1, 3), (2, 1, 9)], cmp := [.int .i64, .int .i64, .str] }
def ty36 : TI := { size := 1, bytes := 8, zero := [.sc .nilFunc], kind := .func }
def ty37 : TI := { size := 1, bytes := 8, zero := [.sc .nilFunc], kind := .func }
def ty38 : TI := { size := 1, bytes := 8, zero := [.sc .nilFunc], kind := .func }
def ty39 : TI := { size := 1, bytes := 8, zero := [.sc .nilFunc], kind := .func }
def ty40 : TI := { size := 1, bytes := 8, zero := [.sc .nilFunc], kind := .func }
def ty41 : TI := { size := 7, bytes := 72, zero := [.int .i64 0, .int .i64 0, .int .i64 0, .str [], .str [], .int .i64 0, .int .i64 0], kind := .struct [(0, 1, 3), (1, 1, 3), (2, 1, 3), (3, 1, 9), (4, 1, 9), (5, 1, 3), (6, 1, 3)] }
def ty42 : TI := { size := 7, bytes := 72, zero := [.int .i64 0, .int .i64 0, .int .i64 0, .str [], .str [], .int .i64 0, .int .i64 0], kind := .struct [(0, 1, 3), (1, 1, 3), (2, 1, 3), (3, 1, 9), (4, 1, 9), (5, 1, 3), (6, 1, 3)], cmp := [.int .i64, .int .i64, .int .i64, .str, .str, .int .i64, .int .i64] }
def ty43 : TI := { size := 1, bytes := 8, zero := [.sc .nilFunc], kind := .func }
def ty44 : TI := { size := 1, bytes := 8, zero := [.sc .nilFunc], kind := .func }
def ty45 : TI := { size := 1, bytes := 8, zero := [.sc .nilFunc], kind := .func }
def ty47 : TI := { size := 1, bytes := 8, zero := [.sc .nilFunc], kind := .func }
def ty49 : TI := { size := 1, bytes := 8, zero := [.sc .nilFunc], kind := .func }
def ty51 : TI := { size := 1, bytes := 8, zero := [.sc .nilFunc], kind := .func }
def ty52 : TI := { size := 1, bytes := 24, zero := [.sc (.slice none 0 0)], kind := .slice 42 }
def ty54 : TI := { size := 1, bytes := 8, zero := [.sc .nilFunc], kind := .func }
def ty55 : TI := { size := 1, bytes := 8, zero := [.sc .nilFunc], kind := .func }
def ty56 : TI := { size := 1, bytes := 8, zero := [.sc .nilFunc], kind := .func }
def ty57 : TI := { size := 1, bytes := 24, zero := [.sc (.slice none 0 0)], kind := .slice 87 }
def ty58 : TI := { size := 1, bytes := 24, zero := [.sc (.slice none 0 0)], kind := .struct [(0, 1, 57)] }
def ty59 : TI := { size := 1, bytes := 24, zero := [.sc (.slice none 0 0)], kind := .struct [(0, 1, 57)] }
def ty61 : TI := { size := 1, bytes := 8, zero := [.sc .nilFunc], kind := .func }
def ty62 : TI := { size := 1, bytes := 8, zero := [.sc .nilFunc], kind := .func }
def ty63 : TI := { size := 1, bytes := 8, zero := [.sc .nilFunc], kind := .func }
def ty64 : TI := { size := 1, bytes := 8, zero := [.sc .nilFunc], kind := .func }
def ty65 : TI := { size := 1, bytes := 8, zero := [.sc .nilFunc], kind := .func }
def ty66 : TI := { size := 1, bytes := 24, zero := [.sc (.slice none 0 0)], kind := .slice 5 }
def ty67 : TI := { size := 1, bytes := 8, zero := [.sc .nilFunc], kind := .func }
def ty68 : TI := { size := 1, bytes := 8, zero := [.sc .nilFunc], kind := .func }
def ty69 : TI := { size := 1, bytes := 8, zero := [.sc .nilFunc], kind := .func }
def ty70 : TI := { size := 1, bytes := 24, zero := [.sc (.slice none 0 0)], kind := .slice 9 }
def ty71 : TI := { size := 1, bytes := 8, zero := [.sc .nilFunc], kind := .func }
def ty72 : TI := { size := 1, bytes := 8, zero := [.sc .nilFunc], kind := .func }
def ty73 : TI := { size := 1, bytes := 8, zero := [.int .u64 0], kind := .int .u64 }
def ty74 : TI := { size := 1, bytes := 8, zero := [.sc .nilFunc], kind := .func }
def ty75 : TI := { size := 1, bytes := 8, zero := [.sc .nilFunc], kind := .func }
def ty76 : TI := { size := 1, bytes := 8, zero := [.sc .nilFunc], kind := .func }
def ty77 : TI := { size := 1, bytes := 8, zero := [.sc .nilFunc], kind := .func }
def ty78 : TI := { size := 1, bytes := 8, zero := [.sc .nilFunc], kind := .func }
def ty79 : TI := { size := 1, bytes := 8, zero := [.sc .nilFunc], kind := .func }
def ty80 : TI := { size := 1, bytes := 8, zero := [.sc .nilFunc], kind := .func }
def ty81 : TI := { size := 1, bytes := 8, zero := [.sc (.pointer none)], kind := .pointer 83 }
def ty82 : TI := { size := 2, bytes := 24, zero := [.str [], .bool false], kind := .struct [(0, 1, 9), (1, 1, 4)] }
def ty83 : TI := { size := 2, bytes := 24, zero := [.str [], .bool false], kind := .struct [(0, 1, 9), (1, 1, 4)], cmp := [.str, .bool] }
def ty84 : TI := { size := 1, bytes := 8, zero := [.sc .nilFunc], kind := .func }
def ty85 : TI := { size := 1, bytes := 8, zero := [.sc .nilFunc], kind := .func }
def ty86 : TI := { size := 3, bytes := 48, zero := [.str [], .str [], .str []], kind := .struct [(0, 1, 9), (1, 1, 9), (2, 1, 9)] }
def ty87 : TI := { size := 3, bytes := 48, zero := [.str [], .str [], .str []], kind := .struct [(0, 1, 9), (1, 1, 9), (2, 1, 9)], cmp := [.str, .str, .str] }
def ty88 : TI := { size := 1, bytes := 8, zero := [.sc .nilFunc], kind := .func }
def ty89 : TI := { size := 1, bytes := 8, zero := [.sc .nilFunc], kind := .func }
def ty90 : TI := { size := 1, bytes := 4, zero := [.int .u32 0], kind := .int .u32 }
def ty91 : TI := { size := 32, bytes := 256, zero := [.int .i64 0, .int .i64 0, .int .i64 0, .int .i64 0, .int .i64 0, .int .i64 0, .int .i64 0, .int .i64 0, .int .i64 0, .int .i64 0, .int .i64 0, .int .i64 0, .int .i64 0, .int .i64 0, .int .i64 0, .int .i64 0, .int .i64 0, .int .i64 0, .int .i64 0, .int .i64 0, .int .i64 0, .int .i64 0, .int .i64 0, .int .i64 0, .int .i64 0, .int .i64 0, .int .i64 0, .int .i64 0, .int .i64 0, .int .i64 0, .int .i64 0, .int .i64 0], kind := .array 32 3 }
def ty92 : TI := { size := 1, bytes := 24, zero := [.sc (.slice none 0 0)], kind := .slice 3 }
def ty93 : TI := { size := 1, bytes := 8, zero := [.sc .nilFunc], kind := .func }
def ty95 : TI := { size := 1, bytes := 8, zero := [.sc .nilFunc], kind := .func }
def ty96 : TI := { size := 1, bytes := 8, zero := [.sc .nilFunc], kind := .func }
def ty97 : TI := { size := 1, bytes := 8, zero := [.sc (.pointer none)], kind := .pointer 87 }
def ty98 : TI := { size := 1, bytes := 8, zero := [.sc .nilFunc], kind := .func }
def ty99 : TI := { size := 1, bytes := 8, zero := [.sc .nilFunc], kind := .func }
def ty100 : TI := { size := 1, bytes := 8, zero := [.sc .nilFunc], kind := .func }
def ty101 : TI := { size := 1, bytes := 8, zero := [.sc .nilFunc], kind := .func }
def ty102 : TI := { size := 1, bytes := 8, zero := [.sc .nilFunc], kind := .func }
def ty104 : TI := { size := 1, bytes := 8, zero := [.sc .nilFunc], kind := .func }
def ty105 : TI := { size := 1, bytes := 8, zero := [.sc .nilFunc], kind := .func }
def ty106 : TI := { size := 1, bytes := 8, zero := [.sc .nilFunc], kind := .func }
def ty107 : TI := { size := 1, bytes := 8, zero := [.sc .nilFunc], kind := .func }
def ty108 : TI := { size := 1, bytes := 8, zero := [.sc .nilFunc], kind := .func }
def ty109 : TI := { size := 1, bytes := 8, zero := [.sc .nilFunc], kind := .func }
def ty110 : TI := { size := 1, bytes := 8, zero := [.sc .nilFunc], kind := .func }
def ty112 : TI := { size := 24, bytes := 24, zero := [.int .u8 0, .int .u8 0, .int .u8 0, .int .u8 0, .int .u8 0, .int .u8 0, .int .u8 0, .int .u8 0, .int .u8 0, .int .u8 0, .int .u8 0, .int .u8 0, .int .u8 0, .int .u8 0, .int .u8 0, .int .u8 0, .int .u8 0, .int .u8 0, .int .u8 0, .int .u8 0, .int .u8 0, .int .u8 0, .int .u8 0, .int .u8 0], kind := .array 24 5 }
def ty113 : TI := { size := 1, bytes := 8, zero := [.int .u64 0], kind := .int .u64 }
def ty114 : TI := { size := 1, bytes := 8, zero := [.sc .nilFunc], kind := .func }
def ty115 : TI := { size := 1, bytes := 8, zero := [.sc .nilFunc], kind := .func }
def ty117 : TI := { size := 1, bytes := 8, zero := [.sc .nilFunc], kind := .func }
def ty118 : TI := { size := 256, bytes := 256, zero := [.int .u8 0, .int .u8 0, .int .u8 0, .int .u8 0, .int .u8 0, .int .u8 0, .int .u8 0, .int .u8 0, .int .u8 0, .int .u8 0, .int .u8 0, .int .u8 0, .int .u8 0, .int .u8 0, .int .u8 0, .int .u8 0, .int .u8 0, .int .u8 0, .int .u8 0, .int .u8 0, .int .u8 0, .int .u8 0, .int .u8 0, .int .u8 0, .int .u8 0, .int .u8 0, .int .u8 0, .int .u8 0, .int .u8 0, .int .u8 0, .int .u8 0, .int .u8 0, .int .u8 0, .int .u8 0, .int .u8 0, .int .u8 0, .int .u8 0, .int .u8 0, .int .u8 0, .int .u8 0, .int .u8 0, .int .u8 0, .int .u8 0, .int .u8 0, .int .u8 0, .int .u8 0, .int .u8 0, .int .u8 0, .int .u8 0, .int .u8 0, .int .u8 0, .int .u8 0, .int .u8 0, .int .u8 0, .int .u8 0, .int .u8 0, .int .u8 0, .int .u8 0, .int .u8 0, .int .u8 0, .int .u8 0, .int .u8 0, .int .u8 0, .int .u8 0, .int .u8 0, .int .u8 0, .int .u8 0, .int .u8 0, .int .u8 0, .int .u8 0, .int .u8 0, .int .u8 0, .int .u8 0, .int .u8 0, .int .u8 0, .int .u8 0, .int .u8 0, .int .u8 0, .int .u8 0, .int .u8 0, .int .u8 0, .int .u8 0, .int .u8 0, .int .u8 0, .int .u8 0, .int .u8 0, .int .u8 0, .int .u8 0, .int .u8 0, .int .u8 0, .int .u8 0, .int .u8 0, .int .u8 0, .int .u8 0, .int .u8 0, .int .u8 0, .int .u8 0, .int .u8 0, .int .u8 0, .int .u8 0, .int .u8 0, .int .u8 0, .int .u8 0, .int .u8 0, .int .u8 0, .int .u8 0, .int .u8 0, .int .u8 0, .int .u8 0, .int .u8 0, .int .u8 0, .int .u8 0, .int .u8 0, .int .u8 0, .int .u8 0, .int .u8 0, .int .u8 0, .int .u8 0, .int .u8 0, .int .u8 0, .int .u8 0, .int .u8 0, .int .u8 0, .int .u8 0, .int .u8 0, .int .u8 0, .int .u8 0, .int .u8 0, .int .u8 0, .int .u8 0, .int .u8 0, .int .u8 0, .int .u8 0, .int .u8 0, .int .u8 0, .int .u8 0, .int .u8 0, .int .u8 0, .int .u8 0, .int .u8 0, .int .u8 0, .int .u8 0, .int .u8 0, .int .u8 0, .int .u8 0, .int .u8 0, .int .u8 0, .int .u8 0, .int .u8 0, .int .u8 0, .int .u8 0, .int .u8 0, .int .u8 0, .int .u8 0, .int .u8 0, .int .u8 0, .int .u8 0, .int .u8 0, .int .u8 0, .int .u8 0, .int .u8 0, .int .u8 0, .int .u8 0, .int .u8 0, .int .u8 0, .int .u8 0, .int .u8 0, .int .u8 0, .int .u8 0, .int .u8 0, .int .u8 0, .int .u8 0, .int .u8 0, .int .u8 0, .int .u8 0, .int .u8 0, .int .u8 0, .int .u8 0, .int .u8 0, .int .u8 0, .int .u8 0, .int .u8 0, .int .u8 0, .int .u8 0, .int .u8 0, .int .u8 0, .int .u8 0, .int .u8 0, .int .u8 0, .int .u8 0, .int .u8 0, .int .u8 0, .int .u8 0, .int .u8 0, .int .u8 0, .int .u8 0, .int .u8 0, .int .u8 0, .int .u8 0, .int .u8 0, .int .u8 0, .int .u8 0, .int .u8 0, .int .u8 0, .int .u8 0, .int .u8 0, .int .u8 0, .int .u8 0, .int .u8 0, .int .u8 0, .int .u8 0, .int .u8 0, .int .u8 0, .int .u8 0, .int .u8 0, .int .u8 0, .int .u8 0, .int .u8 0, .int .u8 0, .int .u8 0, .int .u8 0, .int .u8 0, .int .u8 0, .int .u8 0, .int .u8 0, .int .u8 0, .int .u8 0, .int .u8 0, .int .u8 0, .int .u8 0, .int .u8 0, .int .u8 0, .int .u8 0, .int .u8 0, .int .u8 0, .int .u8 0, .int .u8 0, .int .u8 0, .int .u8 0, .int .u8 0, .int .u8 0, .int .u8 0, .int .u8 0, .int .u8 0, .int .u8 0, .int .u8 0, .int .u8 0, .int .u8 0, .int .u8 0, .int .u8 0, .int .u8 0, .int .u8 0, .int .u8 0, .int .u8 0, .int .u8 0, .int .u8 0], kind := .array 256 5 }
def ty119 : TI := { size := 2, bytes := 2, zero := [.int .u8 0, .int .u8 0], kind := .struct [(0, 1, 5), (1, 1, 5)] }
def ty120 : TI := { size := 2, bytes := 2, zero := [.int .u8 0, .int .u8 0], kind := .struct [(0, 1, 5), (1, 1, 5)] }
def ty121 : TI := { size := 32, bytes := 32, zero := [.int .u8 0, .int .u8 0, .int .u8 0, .int .u8 0, .int .u8 0, .int .u8 0, .int .u8 0, .int .u8 0, .int .u8 0, .int .u8 0, .int .u8 0, .int .u8 0, .int .u8 0, .int .u8 0, .int .u8 0, .int .u8 0, .int .u8 0, .int .u8 0, .int .u8 0, .int .u8 0, .int .u8 0, .int .u8 0, .int .u8 0, .int .u8 0, .int .u8 0, .int .u8 0, .int .u8 0, .int .u8 0, .int .u8 0, .int .u8 0, .int .u8 0, .int .u8 0], kind := .array 16 120 }
def ty122 : TI := { size := 1, bytes := 8, zero := [.sc .nilFunc], kind := .func }
def ty123 : TI := { size := 20, bytes := 160, zero := [.int .u64 0, .int .u64 0, .int .u64 0, .int .u64 0, .int .u64 0, .int .u64 0, .int .u64 0, .int .u64 0, .int .u64 0, .int .u64 0, .int .u64 0, .int .u64 0, .int .u64 0, .int .u64 0, .int .u64 0, .int .u64 0, .int .u64 0, .int .u64 0, .int .u64 0, .int .u64 0], kind := .array 20 113 }
def ty124 : TI := { size := 65, bytes := 65, zero := [.int .u8 0, .int .u8 0, .int .u8 0, .int .u8 0, .int .u8 0, .int .u8 0, .int .u8 0, .int .u8 0, .int .u8 0, .int .u8 0, .int .u8 0, .int .u8 0, .int .u8 0, .int .u8 0, .int .u8 0, .int .u8 0, .int .u8 0, .int .u8 0, .int .u8 0, .int .u8 0, .int .u8 0, .int .u8 0, .int .u8 0, .int .u8 0, .int .u8 0, .int .u8 0, .int .u8 0, .int .u8 0, .int .u8 0, .int .u8 0, .int .u8 0, .int .u8 0, .int .u8 0, .int .u8 0, .int .u8 0, .int .u8 0, .int .u8 0, .int .u8 0, .int .u8 0, .int .u8 0, .int .u8 0, .int .u8 0, .int .u8 0, .int .u8 0, .int .u8 0, .int .u8 0, .int .u8 0, .int .u8 0, .int .u8 0, .int .u8 0, .int .u8 0, .int .u8 0, .int .u8 0, .int .u8 0, .int .u8 0, .int .u8 0, .int .u8 0, .int .u8 0, .int .u8 0, .int .u8 0, .int .u8 0, .int .u8 0, .int .u8 0, .int .u8 0, .int .u8 0], kind := .array 65 5 }
def ty125 : TI := { size := 1, bytes := 8, zero := [.sc .nilFunc], kind := .func }
def ty127 : TI := { size := 1, bytes := 8, zero := [.sc .nilFunc], kind := .func }
def ty128 : TI := { size := 1, bytes := 8, zero := [.sc .nilFunc], kind := .func }
def ty129 : TI := { size := 1, bytes := 8, zero := [.sc .nilFunc], kind := .func }
def ty130 : TI := { size := 32, bytes := 32, zero := [.int .u8 0, .int .u8 0, .int .u8 0, .int .u8 0, .int .u8 0, .int .u8 0, .int .u8 0, .int .u8 0, .int .u8 0, .int .u8 0, .int .u8 0, .int .u8 0, .int .u8 0, .int .u8 0, .int .u8 0, .int .u8 0, .int .u8 0, .int .u8 0, .int .u8 0, .int .u8 0, .int .u8 0, .int .u8 0, .int .u8 0, .int .u8 0, .int .u8 0, .int .u8 0, .int .u8 0, .int .u8 0, .int .u8 0, .int .u8 0, .int .u8 0, .int .u8 0], kind := .array 32 5 }
def ty131 : TI := { size := 64, bytes := 64, zero := [.int .u8 0, .int .u8 0, .int .u8 0, .int .u8 0, .int .u8 0, .int .u8 0, .int .u8 0, .int .u8 0, .int .u8 0, .int .u8 0, .int .u8 0, .int .u8 0, .int .u8 0, .int .u8 0, .int .u8 0, .int .u8 0, .int .u8 0, .int .u8 0, .int .u8 0, .int .u8 0, .int .u8 0, .int .u8 0, .int .u8 0, .int .u8 0, .int .u8 0, .int .u8 0, .int .u8 0, .int .u8 0, .int .u8 0, .int .u8 0, .int .u8 0, .int .u8 0, .int .u8 0, .int .u8 0, .int .u8 0, .int .u8 0, .int .u8 0, .int .u8 0, .int .u8 0, .int .u8 0, .int .u8 0, .int .u8 0, .int .u8 0, .int .u8 0, .int .u8 0, .int .u8 0, .int .u8 0, .int .u8 0, .int .u8 0, .int .u8 0, .int .u8 0, .int .u8 0, .int .u8 0, .int .u8 0, .int .u8 0, .int .u8 0, .int .u8 0, .int .u8 0, .int .u8 0, .int .u8 0, .int .u8 0, .int .u8 0, .int .u8 0, .int .u8 0], kind := .array 64 5 }
def ty132 : TI := { size := 1, bytes := 8, zero := [.sc .nilFunc], kind := .func }
def ty133 : TI := { size := 4, bytes := 40, zero := [.sc (.pointer none), .sc (.pointer none), .sc (.pointer none), .str []], kind := .struct [(0, 1, 17), (1, 1, 17), (2, 1, 17), (3, 1, 9)] }
def ty134 : TI := { size := 4, bytes := 40, zero := [.sc (.pointer none), .sc (.pointer none), .sc (.pointer none), .str []], kind := .struct [(0, 1, 17), (1, 1, 17), (2, 1, 17), (3, 1, 9)] }
def ty138 : TI := { size := 1, bytes := 8, zero := [.sc .nilFunc], kind := .func }
def ty139 : TI := { size := 1, bytes := 1, zero := [.int .u8 0], kind := .int .u8 }
def ty140 : TI := { size := 1, bytes := 1, zero := [.int .u8 0], kind := .int .u8 }
def ty141 : TI := { size := 1, bytes := 8, zero := [.sc .nilFunc], kind := .func }
def ty142 : TI := { size := 1, bytes := 8, zero := [.sc (.pointer none)], kind := .pointer 5 }
def ty143 : TI := { size := 1, bytes := 4, zero := [.int .i32 0], kind := .int .i32 }
def ty144 : TI := { size := 1, bytes := 4, zero := [.int .i32 0], kind := .int .i32 }
def ty145 : TI := { size := 11, bytes := 48, zero := [.int .u64 0, .int .u64 0, .int .u32 0, .int .u8 0, .int .u8 0, .int .u8 0, .int .u8 0, .sc .nilFunc, .sc (.pointer none), .int .i32 0, .int .i32 0], kind := .struct [(0, 1, 12), (1, 1, 12), (2, 1, 90), (3, 1, 139), (4, 1, 5), (5, 1, 5), (6, 1, 140), (7, 1, 141), (8, 1, 142), (9, 1, 143), (10, 1, 144)] }
def ty146 : TI := { size := 11, bytes := 48, zero := [.int .u64 0, .int .u64 0, .int .u32 0, .int .u8 0, .int .u8 0, .int .u8 0, .int .u8 0, .sc .nilFunc, .sc (.pointer none), .int .i32 0, .int .i32 0], kind := .struct [(0, 1, 12), (1, 1, 12), (2, 1, 90), (3, 1, 139), (4, 1, 5), (5, 1, 5), (6, 1, 140), (7, 1, 141), (8, 1, 142), (9, 1, 143), (10, 1, 144)] }
theorem tc1 : tyCheck Tryd.prog 1 ty1 = true := by kernel_rfl
theorem tc2 : tyCheck Tryd.prog 2 ty2 = true := by kernel_rfl
theorem tc3 : tyCheck Tryd.prog 3 ty3 = true := by kernel_rfl
theorem tc4 : tyCheck Tryd.prog 4 ty4 = true := by kernel_rfl
theorem tc5 : tyCheck Tryd.prog 5 ty5 = true := by kernel_rfl
theorem tc6 : tyCheck Tryd.prog 6 ty6 = true := by kernel_rfl
theorem tc7 : tyCheck Tryd.prog 7 ty7 = true := by kernel_rfl
theorem tc8 : tyCheck Tryd.prog 8 ty8 = true := by kernel_rfl
theorem tc9 : tyCheck Tryd.prog 9 ty9 = true := by kernel_rfl
theorem tc10 : tyCheck Tryd.prog 10 ty10 = true := by kernel_rfl
theorem tc11 : tyCheck Tryd.prog 11 ty11 = true := by kernel_rfl
theorem tc12 : tyCheck Tryd.prog 12 ty12 = true := by kernel_rfl
theorem tc13 : tyCheck Tryd.prog 13 ty13 = true := by kernel_rfl
theorem tc14 : tyCheck Tryd.prog 14 ty14 = true := by kernel_rfl
theorem tc15 : tyCheck Tryd.prog 15 ty15 = true := by kernel_rfl
theorem tc16 : tyCheck Tryd.prog 16 ty16 = true := by kernel_rfl
theorem tc17 : tyCheck Tryd.prog 17 ty17 = true := by kernel_rfl
theorem tc18 : tyCheck Tryd.prog 18 ty18 = true := by kernel_rfl
theorem tc19 : tyCheck Tryd.prog 19 ty19 = true := by kernel_rfl
theorem tc21 : tyCheck Tryd.prog 21 ty21 = true := by kernel_rfl
theorem tc22 : tyCheck Tryd.prog 22 ty22 = true := by kernel_rfl
theorem tc23 : tyCheck Tryd.prog 23 ty23 = true := by kernel_rfl
theorem tc25 : tyCheck Tryd.prog 25 ty25 = true := by kernel_rfl
theorem tc26 : tyCheck Tryd.prog 26 ty26 = true := by kernel_rfl
theorem tc27 : tyCheck Tryd.prog 27 ty27 = true := by kernel_rfl
theorem tc28 : tyCheck Tryd.prog 28 ty28 = true := by kernel_rfl
theorem tc29 : tyCheck Tryd.prog 29 ty29 = true := by kernel_rfl
theorem tc30 : tyCheck Tryd.prog 30 ty30 = true := by kernel_rfl
theorem tc31 : tyCheck Tryd.prog 31 ty31 = true := by kernel_rfl
theorem tc32 : tyCheck Tryd.prog 32 ty32 = true := by kernel_rfl
theorem tc33 : tyCheck Tryd.prog 33 ty33 = true := by kernel_rfl
theorem tc34 : tyCheck Tryd.prog 34 ty34 = true := by kernel_rfl
theorem tc36 : tyCheck Tryd.prog 36 ty36 = true := by kernel_rfl
theorem tc37 : tyCheck Tryd.prog 37 ty37 = true := by kernel_rfl
theorem tc38 : tyCheck Tryd.prog 38 ty38 = true := by kernel_rfl
theorem tc39 : tyCheck Tryd.prog 39 ty39 = true := by kernel_rfl
theorem tc40 : tyCheck Tryd.prog 40 ty40 = true := by kernel_rfl
theorem tc41 : tyCheck Tryd.prog 41 ty41 = true := by kernel_rfl
theorem tc42 : tyCheck Tryd.prog 42 ty42 = true := by kernel_rfl
theorem tc43 : tyCheck Tryd.prog 43 ty43 = true := by kernel_rfl
theorem tc44 : tyCheck Tryd.prog 44 ty44 = true := by kernel_rfl
theorem tc45 : tyCheck Tryd.prog 45 ty45 = true := by kernel_rfl
theorem tc47 : tyCheck Tryd.prog 47 ty47 = true := by kernel_rfl
theorem tc49 : tyCheck Tryd.prog 49 ty49 = true := by kernel_rfl
theorem tc51 : tyCheck Tryd.prog 51 ty51 = true := by kernel_rfl
theorem tc52 : tyCheck Tryd.prog 52 ty52 = true := by kernel_rfl
theorem tc54 : tyCheck Tryd.prog 54 ty54 = true := by kernel_rfl
theorem tc55 : tyCheck Tryd.prog 55 ty55 = true := by kernel_rfl
theorem tc56 : tyCheck Tryd.prog 56 ty56 = true := by kernel_rfl
theorem tc57 : tyCheck Tryd.prog 57 ty57 = true := by kernel_rfl
theorem tc58 : tyCheck Tryd.prog 58 ty58 = true := by kernel_rfl
theorem tc59 : tyCheck Tryd.prog 59 ty59 = true := by kernel_rfl
theorem tc61 : tyCheck Tryd.prog 61 ty61 = true := by kernel_rfl
theorem tc62 : tyCheck Tryd.prog 62 ty62 = true := by kernel_rfl
theorem tc63 : tyCheck Tryd.prog 63 ty63 = true := by kernel_rfl
theorem tc64 : tyCheck Tryd.prog 64 ty64 = true := by kernel_rfl
theorem tc65 : tyCheck Tryd.prog 65 ty65 = true := by kernel_rfl
theorem tc66 : tyCheck Tryd.prog 66 ty66 = true := by kernel_rfl
theorem tc67 : tyCheck Tryd.prog 67 ty67 = true := by kernel_rfl
theorem tc68 : tyCheck Tryd.prog 68 ty68 = true := by kernel_rfl
theorem tc69 : tyCheck Tryd.prog 69 ty69 = true := by kernel_rfl
theorem tc70 : tyCheck Tryd.prog 70 ty70 = true := by kernel_rfl
theorem tc71 : tyCheck Tryd.prog 71 ty71 = true := by kernel_rfl
theorem tc72 : tyCheck Tryd.prog 72 ty72 = true := by kernel_rfl
theorem tc73 : tyCheck Tryd.prog 73 ty73 = true := by kernel_rfl
theorem tc74 : tyCheck Tryd.prog 74 ty74 = true := by kernel_rfl
theorem tc75 : tyCheck Tryd.prog 75 ty75 = true := by kernel_rfl
theorem tc76 : tyCheck Tryd.prog 76 ty76 = true := by kernel_rfl
theorem tc77 : tyCheck Tryd.prog 77 ty77 = true := by kernel_rfl
theorem tc78 : tyCheck Tryd.prog 78 ty78 = true := by kernel_rfl
theorem tc79 : tyCheck Tryd.prog 79 ty79 = true := by kernel_rfl
theorem tc80 : tyCheck Tryd.prog 80 ty80 = true := by kernel_rfl
theorem tc81 : tyCheck Tryd.prog 81 ty81 = true := by kernel_rfl
theorem tc82 : tyCheck Tryd.prog 82 ty82 = true := by kernel_rfl
theorem tc83 : tyCheck Tryd.prog 83 ty83 = true := by kernel_rfl
theorem tc84 : tyCheck Tryd.prog 84 ty84 = true := by kernel_rfl
theorem tc85 : tyCheck Tryd.prog 85 ty85 = true := by kernel_rfl
theorem tc86 : tyCheck Tryd.prog 86 ty86 = true := by kernel_rfl
theorem tc87 : tyCheck Tryd.prog 87 ty87 = true := by kernel_rfl
theorem tc88 : tyCheck Tryd.prog 88 ty88 = true := by kernel_rfl
theorem tc89 : tyCheck Tryd.prog 89 ty89 = true := by kernel_rfl
theorem tc90 : tyCheck Tryd.prog 90 ty90 = true := by kernel_rfl
theorem tc91 : tyCheck Tryd.prog 91 ty91 = true := by kernel_rfl
theorem tc92 : tyCheck Tryd.prog 92 ty92 = true := by kernel_rfl
theorem tc93 : tyCheck Tryd.prog 93 ty93 = true := by kernel_rfl
theorem tc95 : tyCheck Tryd.prog 95 ty95 = true := by kernel_rfl
theorem tc96 : tyCheck Tryd.prog 96 ty96 = true := by kernel_rfl
theorem tc97 : tyCheck Tryd.prog 97 ty97 = true := by kernel_rfl
theorem tc98 : tyCheck Tryd.prog 98 ty98 = true := by kernel_rfl
theorem tc99 : tyCheck Tryd.prog 99 ty99 = true := by kernel_rfl
theorem tc100 : tyCheck Tryd.prog 100 ty100 = true := by kernel_rfl
theorem tc101 : tyCheck Tryd.prog 101 ty101 = true := by kernel_rfl
theorem tc102 : tyCheck Tryd.prog 102 ty102 = true := by kernel_rfl
theorem tc104 : tyCheck Tryd.prog 104 ty104 = true := by kernel_rfl
theorem tc105 : tyCheck Tryd.prog 105 ty105 = true := by kernel_rfl
theorem tc106 : tyCheck Tryd.prog 106 ty106 = true := by kernel_rfl
theorem tc107 : tyCheck Tryd.prog 107 ty107 = true := by kernel_rfl
theorem tc108 : tyCheck Tryd.prog 108 ty108 = true := by kernel_rfl
theorem tc109 : tyCheck Tryd.prog 109 ty109 = true := by kernel_rfl
theorem tc110 : tyCheck Tryd.prog 110 ty110 = true := by kernel_rfl
theorem tc112 : tyCheck Tryd.prog 112 ty112 = true := by kernel_rfl
theorem tc113 : tyCheck Tryd.prog 113 ty113 = true := by kernel_rfl
theorem tc114 : tyCheck Tryd.prog 114 ty114 = true := by kernel_rfl
theorem tc115 : tyCheck Tryd.prog 115 ty115 = true := by kernel_rfl
theorem tc117 : tyCheck Tryd.prog 117 ty117 = true := by kernel_rfl
theorem tc118 : tyCheck Tryd.prog 118 ty118 = true := by kernel_rfl
theorem tc119 : tyCheck Tryd.prog 119 ty119 = true := by kernel_rfl
theorem tc120 : tyCheck Tryd.prog 120 ty120 = true := by kernel_rfl
theorem tc121 : tyCheck Tryd.prog 121 ty121 = true := by kernel_rfl
theorem tc122 : tyCheck Tryd.prog 122 ty122 = true := by kernel_rfl
theorem tc123 : tyCheck Tryd.prog 123 ty123 = true := by kernel_rfl
theorem tc124 : tyCheck Tryd.prog 124 ty124 = true := by kernel_rfl
theorem tc125 : tyCheck Tryd.prog 125 ty125 = true := by kernel_rfl
theorem tc127 : tyCheck Tryd.prog 127 ty127 = true := by kernel_rfl
theorem tc128 : tyCheck Tryd.prog 128 ty128 = true := by kernel_rfl
theorem tc129 : tyCheck Tryd.prog 129 ty129 = true := by kernel_rfl
theorem tc130 : tyCheck Tryd.prog 130 ty130 = true := by kernel_rfl
theorem tc131 : tyCheck Tryd.prog 131 ty131 = true := by kernel_rfl
theorem tc132 : tyCheck Tryd.prog 132 ty132 = true := by kernel_rfl
theorem tc133 : tyCheck Tryd.prog 133 ty133 = true := by kernel_rfl
theorem tc134 : tyCheck Tryd.prog 134 ty134 = true := by kernel_rfl
theorem tc138 : tyCheck Tryd.prog 138 ty138 = true := by kernel_rfl
theorem tc139 : tyCheck Tryd.prog 139 ty139 = true := by kernel_rfl
theorem tc140 : tyCheck Tryd.prog 140 ty140 = true := by kernel_rfl
theorem tc141 : tyCheck Tryd.prog 141 ty141 = true := by kernel_rfl
theorem tc142 : tyCheck Tryd.prog 142 ty142 = true := by kernel_rfl
theorem tc143 : tyCheck Tryd.prog 143 ty143 = true := by kernel_rfl
theorem tc144 : tyCheck Tryd.prog 144 ty144 = true := by kernel_rfl
theorem tc145 : tyCheck Tryd.prog 145 ty145 = true := by kernel_rfl
theorem tc146 : tyCheck Tryd.prog 146 ty146 = true := by kernel_rfl
def tyL : List (Nat × TI) := [(1, ty1), (2, ty2), (3, ty3), (4, ty4), (5, ty5), (6, ty6), (7, ty7), (8, ty8), (9, ty9), (10, ty10), (11, ty11), (12, ty12), (13, ty13), (14, ty14), (15, ty15), (16, ty16), (17, ty17), (18, ty18), (19, ty19), (21, ty21), (22, ty22), (23, ty23), (25, ty25), (26, ty26), (27, ty27), (28, ty28), (29, ty29), (30, ty30), (31, ty31), (32, ty32), (33, ty33), (34, ty34), (36, ty36), (37, ty37), (38, ty38), (39, ty39), (40, ty40), (41, ty41), (42, ty42), (43, ty43), (44, ty44), (45, ty45), (47, ty47), (49, ty49), (51, ty51), (52, ty52), (54, ty54), (55, ty55), (56, ty56), (57, ty57), (58, ty58), (59, ty59), (61, ty61), (62, ty62), (63, ty63), (64, ty64), (65, ty65), (66, ty66), (67, ty67), (68, ty68), (69, ty69), (70, ty70), (71, ty71), (72, ty72), (73, ty73), (74, ty74), (75, ty75), (76, ty76), (77, ty77), (78, ty78), (79, ty79), (80, ty80), (81, ty81), (82, ty82), (83, ty83), (84, ty84), (85, ty85), (86, ty86), (87, ty87), (88, ty88), (89, ty89), (90, ty90), (91, ty91), (92, ty92), (93, ty93), (95, ty95), (96, ty96), (97, ty97), (98, ty98), (99, ty99), (100, ty100), (101, ty101), (102, ty102), (104, ty104), (105, ty105), (106, ty106), (107, ty107), (108, ty108), (109, ty109), (110, ty110), (112, ty112), (113, ty113), (114, ty114), (115, ty115), (117, ty117), (118, ty118), (119, ty119), (120, ty120), (121, ty121), (122, ty122), (123, ty123), (124, ty124), (125, ty125), (127, ty127), (128, ty128), (129, ty129), (130, ty130), (131, ty131), (132, ty132), (133, ty133), (134, ty134), (138, ty138), (139, ty139), (140, ty140), (141, ty141), (142, ty142), (143, ty143), (144, ty144), (145, ty145), (146, ty146)]
def T : TypeId → TI := tabOf tyL
theorem tabOk : TabOk Tryd.prog T := tabOk_of (by
  simp only [tyL, List.forall_mem_cons, List.not_mem_nil, false_implies, implies_true, and_true]
  exact ⟨tc1, tc2, tc3, tc4, tc5, tc6, tc7, tc8, tc9, tc10, tc11, tc12, tc13, tc14, tc15, tc16, tc17, tc18, tc19, tc21, tc22, tc23, tc25, tc26, tc27, tc28, tc29, tc30, tc31, tc32, tc33, tc34, tc36, tc37, tc38, tc39, tc40, tc41, tc42, tc43, tc44, tc45, tc47, tc49, tc51, tc52, tc54, tc55, tc56, tc57, tc58, tc59, tc61, tc62, tc63, tc64, tc65, tc66, tc67, tc68, tc69, tc70, tc71, tc72, tc73, tc74, tc75, tc76, tc77, tc78, tc79, tc80, tc81, tc82, tc83, tc84, tc85, tc86, tc87, tc88, tc89, tc90, tc91, tc92, tc93, tc95, tc96, tc97, tc98, tc99, tc100, tc101, tc102, tc104, tc105, tc106, tc107, tc108, tc109, tc110, tc112, tc113, tc114, tc115, tc117, tc118, tc119, tc120, tc121, tc122, tc123, tc124, tc125, tc127, tc128, tc129, tc130, tc131, tc132, tc133, tc134, tc138, tc139, tc140, tc141, tc142, tc143, tc144, tc145, tc146⟩)
theorem T_1 : T 1 = ty1 := by kernel_rfl
theorem T_2 : T 2 = ty2 := by kernel_rfl
theorem T_3 : T 3 = ty3 := by kernel_rfl
theorem T_4 : T 4 = ty4 := by kernel_rfl
theorem T_5 : T 5 = ty5 := by kernel_rfl
theorem T_6 : T 6 = ty6 := by kernel_rfl
theorem T_7 : T 7 = ty7 := by kernel_rfl
theorem T_8 : T 8 = ty8 := by kernel_rfl
theorem T_9 : T 9 = ty9 := by kernel_rfl
theorem T_10 : T 10 = ty10 := by kernel_rfl
theorem T_11 : T 11 = ty11 := by kernel_rfl
theorem T_12 : T 12 = ty12 := by kernel_rfl
theorem T_13 : T 13 = ty13 := by kernel_rfl
theorem T_14 : T 14 = ty14 := by kernel_rfl
theorem T_15 : T 15 = ty15 := by kernel_rfl
theorem T_16 : T 16 = ty16 := by kernel_rfl
theorem T_17 : T 17 = ty17 := by kernel_rfl
theorem T_18 : T 18 = ty18 := by kernel_rfl
theorem T_19 : T 19 = ty19 := by kernel_rfl
theorem T_21 : T 21 = ty21 := by kernel_rfl
theorem T_22 : T 22 = ty22 := by kernel_rfl
theorem T_23 : T 23 = ty23 := by kernel_rfl
theorem T_25 : T 25 = ty25 := by kernel_rfl
theorem T_26 : T 26 = ty26 := by kernel_rfl
theorem T_27 : T 27 = ty27 := by kernel_rfl
theorem T_28 : T 28 = ty28 := by kernel_rfl
theorem T_29 : T 29 = ty29 := by kernel_rfl
theorem T_30 : T 30 = ty30 := by kernel_rfl
theorem T_31 : T 31 = ty31 := by kernel_rfl
theorem T_32 : T 32 = ty32 := by kernel_rfl
theorem T_33 : T 33 = ty33 := by kernel_rfl
theorem T_34 : T 34 = ty34 := by kernel_rfl
theorem T_36 : T 36 = ty36 := by kernel_rfl
theorem T_37 : T 37 = ty37 := by kernel_rfl
theorem T_38 : T 38 = ty38 := by kernel_rfl
theorem T_39 : T 39 = ty39 := by kernel_rfl
theorem T_40 : T 40 = ty40 := by kernel_rfl
theorem T_41 : T 41 = ty41 := by kernel_rfl
theorem T_42 : T 42 = ty42 := by kernel_rfl
theorem T_43 : T 43 = ty43 := by kernel_rfl
theorem T_44 : T 44 = ty44 := by kernel_rfl
theorem T_45 : T 45 = ty45 := by kernel_rfl
theorem T_47 : T 47 = ty47 := by kernel_rfl
theorem T_49 : T 49 = ty49 := by kernel_rfl
theorem T_51 : T 51 = ty51 := by kernel_rfl
theorem T_52 : T 52 = ty52 := by kernel_rfl
theorem T_54 : T 54 = ty54 := by kernel_rfl
theorem T_55 : T 55 = ty55 := by kernel_rfl
theorem T_56 : T 56 = ty56 := by kernel_rfl
theorem T_57 : T 57 = ty57 := by kernel_rfl
theorem T_58 : T 58 = ty58 := by kernel_rfl
theorem T_59 : T 59 = ty59 := by kernel_rfl
theorem T_61 : T 61 = ty61 := by kernel_rfl
theorem T_62 : T 62 = ty62 := by kernel_rfl
theorem T_63 : T 63 = ty63 := by kernel_rfl
theorem T_64 : T 64 = ty64 := by kernel_rfl
theorem T_65 : T 65 = ty65 := by kernel_rfl
theorem T_66 : T 66 = ty66 := by kernel_rfl
theorem T_67 : T 67 = ty67 := by kernel_rfl
theorem T_68 : T 68 = ty68 := by kernel_rfl
theorem T_69 : T 69 = ty69 := by kernel_rfl
theorem T_70 : T 70 = ty70 := by kernel_rfl
theorem T_71 : T 71 = ty71 := by kernel_rfl
theorem T_72 : T 72 = ty72 := by kernel_rfl
theorem T_73 : T 73 = ty73 := by kernel_rfl
theorem T_74 : T 74 = ty74 := by kernel_rfl
theorem T_75 : T 75 = ty75 := by kernel_rfl
theorem T_76 : T 76 = ty76 := by kernel_rfl
theorem T_77 : T 77 = ty77 := by kernel_rfl
theorem T_78 : T 78 = ty78 := by kernel_rfl
theorem T_79 : T 79 = ty79 := by kernel_rfl
theorem T_80 : T 80 = ty80 := by kernel_rfl
theorem T_81 : T 81 = ty81 := by kernel_rfl
theorem T_82 : T 82 = ty82 := by kernel_rfl
theorem T_83 : T 83 = ty83 := by kernel_rfl
theorem T_84 : T 84 = ty84 := by kernel_rfl
theorem T_85 : T 85 = ty85 := by kernel_rfl
theorem T_86 : T 86 = ty86 := by kernel_rfl
theorem T_87 : T 87 = ty87 := by kernel_rfl
theorem T_88 : T 88 = ty88 := by kernel_rfl
theorem T_89 : T 89 = ty89 := by kernel_rfl
theorem T_90 : T 90 = ty90 := by kernel_rfl
theorem T_91 : T 91 = ty91 := by kernel_rfl
theorem T_92 : T 92 = ty92 := by kernel_rfl
theorem T_93 : T 93 = ty93 := by kernel_rfl
theorem T_95 : T 95 = ty95 := by kernel_rfl
theorem T_96 : T 96 = ty96 := by kernel_rfl
theorem T_97 : T 97 = ty97 := by kernel_rfl
theorem T_98 : T 98 = ty98 := by kernel_rfl
theorem T_99 : T 99 = ty99 := by kernel_rfl
theorem T_100 : T 100 = ty100 := by kernel_rfl
theorem T_101 : T 101 = ty101 := by kernel_rfl
theorem T_102 : T 102 = ty102 := by kernel_rfl
theorem T_104 : T 104 = ty104 := by kernel_rfl
theorem T_105 : T 105 = ty105 := by kernel_rfl
theorem T_106 : T 106 = ty106 := by kernel_rfl
theorem T_107 : T 107 = ty107 := by kernel_rfl
theorem T_108 : T 108 = ty108 := by kernel_rfl
theorem T_109 : T 109 = ty109 := by kernel_rfl
theorem T_110 : T 110 = ty110 := by kernel_rfl
theorem T_112 : T 112 = ty112 := by kernel_rfl
theorem T_113 : T 113 = ty113 := by kernel_rfl
theorem T_114 : T 114 = ty114 := by kernel_rfl
theorem T_115 : T 115 = ty115 := by kernel_rfl
theorem T_117 : T 117 = ty117 := by kernel_rfl
theorem T_118 : T 118 = ty118 := by kernel_rfl
theorem T_119 : T 119 = ty119 := by kernel_rfl
theorem T_120 : T 120 = ty120 := by kernel_rfl
theorem T_121 : T 121 = ty121 := by kernel_rfl
theorem T_122 : T 122 = ty122 := by kernel_rfl
theorem T_123 : T 123 = ty123 := by kernel_rfl
theorem T_124 : T 124 = ty124 := by kernel_rfl
theorem T_125 : T 125 = ty125 := by kernel_rfl
theorem T_127 : T 127 = ty127 := by kernel_rfl
theorem T_128 : T 128 = ty128 := by kernel_rfl
theorem T_129 : T 129 = ty129 := by kernel_rfl
theorem T_130 : T 130 = ty130 := by kernel_rfl
theorem T_131 : T 131 = ty131 := by kernel_rfl
theorem T_132 : T 132 = ty132 := by kernel_rfl
theorem T_133 : T 133 = ty133 := by kernel_rfl
theorem T_134 : T 134 = ty134 := by kernel_rfl
theorem T_138 : T 138 = ty138 := by kernel_rfl
theorem T_139 : T 139 = ty139 := by kernel_rfl
theorem T_140 : T 140 = ty140 := by kernel_rfl
theorem T_141 : T 141 = ty141 := by kernel_rfl
theorem T_142 : T 142 = ty142 := by kernel_rfl
theorem T_143 : T 143 = ty143 := by kernel_rfl
theorem T_144 : T 144 = ty144 := by kernel_rfl
theorem T_145 : T 145 = ty145 := by kernel_rfl
theorem T_146 : T 146 = ty146 := by kernel_rfl
attribute [go_sem] T_1 ty1 T_2 ty2 T_3 ty3 T_4 ty4 T_5 ty5 T_6 ty6 T_7 ty7 T_8 ty8 T_9 ty9 T_10 ty10 T_11 ty11 T_12 ty12 T_13 ty13 T_14 ty14 T_15 ty15 T_16 ty16 T_17 ty17 T_18 ty18 T_19 ty19 T_21 ty21 T_22 ty22 T_23 ty23 T_25 ty25 T_26 ty26 T_27 ty27 T_28 ty28 T_29 ty29 T_30 ty30 T_31 ty31 T_32 ty32 T_33 ty33 T_34 ty34 T_36 ty36 T_37 ty37 T_38 ty38 T_39 ty39 T_40 ty40 T_41 ty41 T_42 ty42 T_43 ty43 T_44 ty44 T_45 ty45 T_47 ty47 T_49 ty49 T_51 ty51 T_52 ty52 T_54 ty54 T_55 ty55 T_56 ty56 T_57 ty57 T_58 ty58 T_59 ty59 T_61 ty61 T_62 ty62 T_63 ty63 T_64 ty64 T_65 ty65 T_66 ty66 T_67 ty67 T_68 ty68 T_69 ty69 T_70 ty70 T_71 ty71 T_72 ty72 T_73 ty73 T_74 ty74 T_75 ty75 T_76 ty76 T_77 ty77 T_78 ty78 T_79 ty79 T_80 ty80 T_81 ty81 T_82 ty82 T_83 ty83 T_84 ty84 T_85 ty85 T_86 ty86 T_87 ty87 T_88 ty88 T_89 ty89 T_90 ty90 T_91 ty91 T_92 ty92 T_93 ty93 T_95 ty95 T_96 ty96 T_97 ty97 T_98 ty98 T_99 ty99 T_100 ty100 T_101 ty101 T_102 ty102 T_104 ty104 T_105 ty105 T_106 ty106 T_107 ty107 T_108 ty108 T_109 ty109 T_110 ty110 T_112 ty112 T_113 ty113 T_114 ty114 T_115 ty115 T_117 ty117 T_118 ty118 T_119 ty119 T_120 ty120 T_121 ty121 T_122 ty122 T_123 ty123 T_124 ty124 T_125 ty125 T_127 ty127 T_128 ty128 T_129 ty129 T_130 ty130 T_131 ty131 T_132 ty132 T_133 ty133 T_134 ty134 T_138 ty138 T_139 ty139 T_140 ty140 T_141 ty141 T_142 ty142 T_143 ty143 T_144 ty144 T_145 ty145 T_146 ty146
theorem mixed : Tryd.prog.follows .mixedOrders = true := by kernel_rfl
end Go.Proofs.YtecbkeddfjalcaaDoor
