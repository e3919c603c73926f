/- The types of the program, as a table that Lean has checked against it. -/
import Derived.Test.YtmpfhalheaeibaaDoorAvRules
import Derived.Test.YtmpfhalheaeibaaDoorChecked
namespace Go.Proofs.YtmpfhalheaeibaaDoor
set_option linter.unusedVariables false
set_option maxRecDepth 100000
set_option linter.unusedSimpArgs false
open Go Go.RowKit

def ty1 : TI := { size := 1, bytes := 8, zero := [.sc .nilFunc], kind := .func }
def ty2 : TI := { size := 1, bytes := 8, zero := [.int .i64 0], kind := .int .i64 }
def ty3 : TI := { size := 1, bytes := 8, zero := [.int .i64 0], kind := .int .i64 }
def ty4 : TI := { size := 1, bytes := 1, zero := [.bool false], kind := .bool }
def ty5 : TI := { size := 1, bytes := 1, zero := [.int .u8 0], kind := .int .u8 }
def ty6 : TI := { size := 1, bytes := 1, zero := [.int .u8 0], kind := .int .u8 }
def ty7 : TI := { size := 4, bytes := 24, zero := [.int .i64 0, .int .i64 0, .bool false, .int .u8 0], kind := .struct [(0, 1, 2), (1, 1, 3), (2, 1, 4), (3, 1, 6)] }
def ty8 : TI := { size := 4, bytes := 24, zero := [.int .i64 0, .int .i64 0, .bool false, .int .u8 0], kind := .struct [(0, 1, 2), (1, 1, 3), (2, 1, 4), (3, 1, 6)] }
def ty9 : TI := { size := 1, bytes := 16, zero := [.str []], kind := .str }
def ty10 : TI := { size := 1, bytes := 16, zero := [.str []], kind := .str }
def ty11 : TI := { size := 1, bytes := 16, zero := [.str []], kind := .str }
def ty12 : TI := { size := 1, bytes := 8, zero := [.int .u64 0], kind := .int .u64 }
def ty13 : TI := { size := 2, bytes := 24, zero := [.str [], .int .u64 0], kind := .struct [(0, 1, 9), (1, 1, 12)] }
def ty14 : TI := { size := 2, bytes := 24, zero := [.str [], .int .u64 0], kind := .struct [(0, 1, 9), (1, 1, 12)] }
def ty15 : TI := { size := 1, bytes := 8, zero := [.sc (.pointer none)], kind := .pointer 227 }
def ty16 : TI := { size := 1, bytes := 8, zero := [.sc (.pointer none)], kind := .pointer 230 }
def ty17 : TI := { size := 1, bytes := 8, zero := [.sc (.pointer none)], kind := .pointer 239 }
def ty18 : TI := { size := 1, bytes := 8, zero := [.sc (.pointer none)], kind := .struct [(0, 1, 17)] }
def ty19 : TI := { size := 1, bytes := 8, zero := [.sc (.pointer none)], kind := .struct [(0, 1, 17)] }
def ty21 : TI := { size := 1, bytes := 4, zero := [.int .i32 0], kind := .int .i32 }
def ty22 : TI := { size := 1, bytes := 24, zero := [.sc (.slice none 0 0)], kind := .slice 100 }
def ty23 : TI := { size := 1, bytes := 24, zero := [.sc (.slice none 0 0)], kind := .struct [(0, 1, 22)] }
def ty24 : TI := { size := 1, bytes := 24, zero := [.sc (.slice none 0 0)], kind := .struct [(0, 1, 22)] }
def ty25 : TI := { size := 7, bytes := 72, zero := [.int .i64 0, .int .i64 0, .int .i64 0, .str [], .str [], .int .i64 0, .int .i64 0], kind := .struct [(0, 1, 3), (1, 1, 3), (2, 1, 3), (3, 1, 9), (4, 1, 9), (5, 1, 3), (6, 1, 3)] }
def ty26 : TI := { size := 7, bytes := 72, zero := [.int .i64 0, .int .i64 0, .int .i64 0, .str [], .str [], .int .i64 0, .int .i64 0], kind := .struct [(0, 1, 3), (1, 1, 3), (2, 1, 3), (3, 1, 9), (4, 1, 9), (5, 1, 3), (6, 1, 3)], cmp := [.int .i64, .int .i64, .int .i64, .str, .str, .int .i64, .int .i64] }
def ty27 : TI := { size := 1, bytes := 24, zero := [.sc (.slice none 0 0)], kind := .slice 26 }
def ty28 : TI := { size := 1, bytes := 8, zero := [.int .i64 0], kind := .int .i64 }
def ty30 : TI := { size := 1, bytes := 8, zero := [.sc .nilFunc], kind := .func }
def ty31 : TI := { size := 1, bytes := 8, zero := [.sc .nilFunc], kind := .func }
def ty32 : TI := { size := 1, bytes := 8, zero := [.sc .nilFunc], kind := .func }
def ty33 : TI := { size := 1, bytes := 8, zero := [.sc .nilFunc], kind := .func }
def ty34 : TI := { size := 1, bytes := 8, zero := [.sc .nilFunc], kind := .func }
def ty35 : TI := { size := 1, bytes := 8, zero := [.sc .nilFunc], kind := .func }
def ty37 : TI := { size := 1, bytes := 8, zero := [.sc .nilFunc], kind := .func }
def ty38 : TI := { size := 1, bytes := 8, zero := [.sc .nilFunc], kind := .func }
def ty39 : TI := { size := 1, bytes := 8, zero := [.sc .nilFunc], kind := .func }
def ty40 : TI := { size := 1, bytes := 8, zero := [.sc .nilFunc], kind := .func }
def ty41 : TI := { size := 1, bytes := 24, zero := [.sc (.slice none 0 0)], kind := .slice 57 }
def ty42 : TI := { size := 1, bytes := 24, zero := [.sc (.slice none 0 0)], kind := .slice 3 }
def ty43 : TI := { size := 3, bytes := 56, zero := [.int .i64 0, .sc (.slice none 0 0), .sc (.slice none 0 0)], kind := .struct [(0, 1, 3), (1, 1, 41), (2, 1, 42)] }
def ty44 : TI := { size := 3, bytes := 56, zero := [.int .i64 0, .sc (.slice none 0 0), .sc (.slice none 0 0)], kind := .struct [(0, 1, 3), (1, 1, 41), (2, 1, 42)] }
def ty46 : TI := { size := 1, bytes := 8, zero := [.sc .nilFunc], kind := .func }
def ty47 : TI := { size := 1, bytes := 8, zero := [.sc .nilFunc], kind := .func }
def ty48 : TI := { size := 1, bytes := 8, zero := [.sc .nilFunc], kind := .func }
def ty50 : TI := { size := 1, bytes := 8, zero := [.sc .nilFunc], kind := .func }
def ty51 : TI := { size := 1, bytes := 8, zero := [.sc .nilFunc], kind := .func }
def ty52 : TI := { size := 1, bytes := 8, zero := [.sc .nilFunc], kind := .func }
def ty53 : TI := { size := 1, bytes := 8, zero := [.sc .nilFunc], kind := .func }
def ty54 : TI := { size := 7, bytes := 56, zero := [.int .i64 0, .int .i64 0, .int .i64 0, .int .i64 0, .int .i64 0, .int .i64 0, .int .i64 0], kind := .struct [(0, 1, 3), (1, 1, 3), (2, 1, 3), (3, 1, 3), (4, 1, 3), (5, 1, 3), (6, 1, 3)] }
def ty55 : TI := { size := 7, bytes := 56, zero := [.int .i64 0, .int .i64 0, .int .i64 0, .int .i64 0, .int .i64 0, .int .i64 0, .int .i64 0], kind := .struct [(0, 1, 3), (1, 1, 3), (2, 1, 3), (3, 1, 3), (4, 1, 3), (5, 1, 3), (6, 1, 3)], cmp := [.int .i64, .int .i64, .int .i64, .int .i64, .int .i64, .int .i64, .int .i64] }
def ty56 : TI := { size := 9, bytes := 88, zero := [.str [], .str [], .int .i64 0, .int .i64 0, .int .i64 0, .int .i64 0, .int .i64 0, .int .i64 0, .int .i64 0], kind := .struct [(0, 1, 9), (1, 1, 9), (2, 7, 55)] }
def ty57 : TI := { size := 9, bytes := 88, zero := [.str [], .str [], .int .i64 0, .int .i64 0, .int .i64 0, .int .i64 0, .int .i64 0, .int .i64 0, .int .i64 0], kind := .struct [(0, 1, 9), (1, 1, 9), (2, 7, 55)], cmp := [.str, .str, .int .i64, .int .i64, .int .i64, .int .i64, .int .i64, .int .i64, .int .i64] }
def ty59 : TI := { size := 1, bytes := 8, zero := [.sc .nilFunc], kind := .func }
def ty60 : TI := { size := 1, bytes := 24, zero := [.sc (.slice none 0 0)], kind := .slice 9 }
def ty62 : TI := { size := 1, bytes := 8, zero := [.sc .nilFunc], kind := .func }
def ty63 : TI := { size := 1, bytes := 8, zero := [.sc .nilFunc], kind := .func }
def ty64 : TI := { size := 1, bytes := 8, zero := [.sc .nilFunc], kind := .func }
def ty65 : TI := { size := 1, bytes := 8, zero := [.sc .nilFunc], kind := .func }
def ty67 : TI := { size := 1, bytes := 8, zero := [.sc .nilFunc], kind := .func }
def ty68 : TI := { size := 1, bytes := 8, zero := [.sc .nilFunc], kind := .func }
def ty70 : TI := { size := 1, bytes := 8, zero := [.sc .nilFunc], kind := .func }
def ty72 : TI := { size := 1, bytes := 8, zero := [.sc .nilFunc], kind := .func }
def ty73 : TI := { size := 1, bytes := 8, zero := [.sc .nilFunc], kind := .func }
def ty74 : TI := { size := 1, bytes := 24, zero := [.sc (.slice none 0 0)], kind := .slice 145 }
def ty76 : TI := { size := 1, bytes := 8, zero := [.sc .nilFunc], kind := .func }
def ty77 : TI := { size := 1, bytes := 8, zero := [.sc .nilFunc], kind := .func }
def ty78 : TI := { size := 1, bytes := 8, zero := [.sc .nilFunc], kind := .func }
def ty79 : TI := { size := 1, bytes := 8, zero := [.sc .nilFunc], kind := .func }
def ty80 : TI := { size := 6, bytes := 64, zero := [.int .i64 0, .int .i64 0, .str [], .str [], .int .i64 0, .int .i64 0], kind := .struct [(0, 1, 3), (1, 1, 3), (2, 1, 9), (3, 1, 9), (4, 1, 3), (5, 1, 3)] }
def ty81 : TI := { size := 6, bytes := 64, zero := [.int .i64 0, .int .i64 0, .str [], .str [], .int .i64 0, .int .i64 0], kind := .struct [(0, 1, 3), (1, 1, 3), (2, 1, 9), (3, 1, 9), (4, 1, 3), (5, 1, 3)], cmp := [.int .i64, .int .i64, .str, .str, .int .i64, .int .i64] }
def ty83 : TI := { size := 1, bytes := 8, zero := [.sc .nilFunc], kind := .func }
def ty84 : TI := { size := 1, bytes := 8, zero := [.sc .nilFunc], kind := .func }
def ty85 : TI := { size := 4, bytes := 48, zero := [.int .i64 0, .int .i64 0, .sc (.slice none 0 0), .int .i64 0], kind := .struct [(0, 1, 3), (1, 1, 3), (2, 1, 27), (3, 1, 3)] }
def ty86 : TI := { size := 4, bytes := 48, zero := [.int .i64 0, .int .i64 0, .sc (.slice none 0 0), .int .i64 0], kind := .struct [(0, 1, 3), (1, 1, 3), (2, 1, 27), (3, 1, 3)] }
def ty87 : TI := { size := 1, bytes := 24, zero := [.sc (.slice none 0 0)], kind := .slice 195 }
def ty88 : TI := { size := 10, bytes := 160, zero := [.bool false, .sc (.slice none 0 0), .int .i64 0, .int .i64 0, .sc (.slice none 0 0), .int .i64 0, .int .i64 0, .sc (.slice none 0 0), .sc (.slice none 0 0), .sc (.slice none 0 0)], kind := .struct [(0, 1, 4), (1, 1, 24), (2, 4, 86), (6, 3, 44), (9, 1, 87)] }
def ty89 : TI := { size := 10, bytes := 160, zero := [.bool false, .sc (.slice none 0 0), .int .i64 0, .int .i64 0, .sc (.slice none 0 0), .int .i64 0, .int .i64 0, .sc (.slice none 0 0), .sc (.slice none 0 0), .sc (.slice none 0 0)], kind := .struct [(0, 1, 4), (1, 1, 24), (2, 4, 86), (6, 3, 44), (9, 1, 87)] }
def ty91 : TI := { size := 1, bytes := 8, zero := [.sc .nilFunc], kind := .func }
def ty92 : TI := { size := 1, bytes := 8, zero := [.sc .nilFunc], kind := .func }
def ty93 : TI := { size := 1, bytes := 8, zero := [.sc .nilFunc], kind := .func }
def ty94 : TI := { size := 1, bytes := 8, zero := [.sc .nilFunc], kind := .func }
def ty95 : TI := { size := 1, bytes := 8, zero := [.sc .nilFunc], kind := .func }
def ty96 : TI := { size := 1, bytes := 8, zero := [.sc .nilFunc], kind := .func }
def ty97 : TI := { size := 1, bytes := 8, zero := [.sc .nilFunc], kind := .func }
def ty98 : TI := { size := 1, bytes := 8, zero := [.sc .nilFunc], kind := .func }
def ty99 : TI := { size := 3, bytes := 48, zero := [.str [], .str [], .str []], kind := .struct [(0, 1, 9), (1, 1, 9), (2, 1, 9)] }
def ty100 : TI := { size := 3, bytes := 48, zero := [.str [], .str [], .str []], kind := .struct [(0, 1, 9), (1, 1, 9), (2, 1, 9)], cmp := [.str, .str, .str] }
def ty101 : TI := { size := 1, bytes := 8, zero := [.sc .nilFunc], kind := .func }
def ty103 : TI := { size := 1, bytes := 8, zero := [.sc .nilFunc], kind := .func }
def ty104 : TI := { size := 1, bytes := 8, zero := [.sc .nilFunc], kind := .func }
def ty105 : TI := { size := 1, bytes := 8, zero := [.sc .nilFunc], kind := .func }
def ty106 : TI := { size := 1, bytes := 24, zero := [.sc (.slice none 0 0)], kind := .slice 5 }
def ty107 : TI := { size := 1, bytes := 8, zero := [.sc .nilFunc], kind := .func }
def ty108 : TI := { size := 1, bytes := 24, zero := [.sc (.slice none 0 0)], kind := .slice 111 }
def ty109 : TI := { size := 1, bytes := 8, zero := [.sc .nilFunc], kind := .func }
def ty110 : TI := { size := 1, bytes := 8, zero := [.sc (.pointer none)], kind := .pointer 55 }
def ty111 : TI := { size := 1, bytes := 8, zero := [.sc (.pointer none)], kind := .pointer 3 }
def ty112 : TI := { size := 1, bytes := 8, zero := [.sc .nilFunc], kind := .func }
def ty113 : TI := { size := 1, bytes := 8, zero := [.sc .nilFunc], kind := .func }
def ty114 : TI := { size := 1, bytes := 8, zero := [.sc (.pointer none)], kind := .pointer 116 }
def ty115 : TI := { size := 2, bytes := 24, zero := [.str [], .bool false], kind := .struct [(0, 1, 9), (1, 1, 4)] }
def ty116 : TI := { size := 2, bytes := 24, zero := [.str [], .bool false], kind := .struct [(0, 1, 9), (1, 1, 4)], cmp := [.str, .bool] }
def ty117 : TI := { size := 1, bytes := 8, zero := [.sc .nilFunc], kind := .func }
def ty118 : TI := { size := 1, bytes := 8, zero := [.sc .nilFunc], kind := .func }
def ty119 : TI := { size := 1, bytes := 8, zero := [.sc (.pointer none)], kind := .pointer 121 }
def ty120 : TI := { size := 2, bytes := 24, zero := [.str [], .bool false], kind := .struct [(0, 1, 9), (1, 1, 4)] }
def ty121 : TI := { size := 2, bytes := 24, zero := [.str [], .bool false], kind := .struct [(0, 1, 9), (1, 1, 4)], cmp := [.str, .bool] }
def ty122 : TI := { size := 7, bytes := 56, zero := [.int .i64 0, .int .i64 0, .int .i64 0, .int .i64 0, .int .i64 0, .int .i64 0, .int .i64 0], kind := .array 7 3 }
def ty123 : TI := { size := 1, bytes := 8, zero := [.sc .nilFunc], kind := .func }
def ty125 : TI := { size := 1, bytes := 8, zero := [.sc .nilFunc], kind := .func }
def ty126 : TI := { size := 1, bytes := 8, zero := [.sc (.map none)], kind := .map 9 3 }
def ty128 : TI := { size := 1, bytes := 8, zero := [.sc .nilFunc], kind := .func }
def ty129 : TI := { size := 1, bytes := 8, zero := [.sc .nilFunc], kind := .func }
def ty130 : TI := { size := 1, bytes := 8, zero := [.sc .nilFunc], kind := .func }
def ty131 : TI := { size := 1, bytes := 8, zero := [.sc .nilFunc], kind := .func }
def ty132 : TI := { size := 1, bytes := 8, zero := [.sc .nilFunc], kind := .func }
def ty133 : TI := { size := 1, bytes := 8, zero := [.sc .nilFunc], kind := .func }
def ty134 : TI := { size := 1, bytes := 8, zero := [.sc .nilFunc], kind := .func }
def ty135 : TI := { size := 1, bytes := 8, zero := [.sc .nilFunc], kind := .func }
def ty136 : TI := { size := 1, bytes := 8, zero := [.sc .nilFunc], kind := .func }
def ty137 : TI := { size := 1, bytes := 8, zero := [.sc (.pointer none)], kind := .pointer 139 }
def ty138 : TI := { size := 4, bytes := 80, zero := [.int .i64 0, .sc (.slice none 0 0), .sc (.slice none 0 0), .sc (.slice none 0 0)], kind := .struct [(0, 3, 44), (3, 1, 74)] }
def ty139 : TI := { size := 4, bytes := 80, zero := [.int .i64 0, .sc (.slice none 0 0), .sc (.slice none 0 0), .sc (.slice none 0 0)], kind := .struct [(0, 3, 44), (3, 1, 74)] }
def ty140 : TI := { size := 1, bytes := 8, zero := [.sc .nilFunc], kind := .func }
def ty141 : TI := { size := 1, bytes := 8, zero := [.sc .nilFunc], kind := .func }
def ty142 : TI := { size := 1, bytes := 8, zero := [.sc .nilFunc], kind := .func }
def ty143 : TI := { size := 1, bytes := 8, zero := [.sc .nilFunc], kind := .func }
def ty144 : TI := { size := 2, bytes := 24, zero := [.int .i64 0, .str []], kind := .struct [(0, 1, 3), (1, 1, 9)] }
def ty145 : TI := { size := 2, bytes := 24, zero := [.int .i64 0, .str []], kind := .struct [(0, 1, 3), (1, 1, 9)], cmp := [.int .i64, .str] }
def ty146 : TI := { size := 1, bytes := 8, zero := [.sc .nilFunc], kind := .func }
def ty147 : TI := { size := 1, bytes := 8, zero := [.sc .nilFunc], kind := .func }
def ty148 : TI := { size := 1, bytes := 8, zero := [.sc .nilFunc], kind := .func }
def ty149 : TI := { size := 1, bytes := 8, zero := [.sc .nilFunc], kind := .func }
def ty150 : TI := { size := 1, bytes := 8, zero := [.sc .nilFunc], kind := .func }
def ty151 : TI := { size := 1, bytes := 8, zero := [.sc (.pointer none)], kind := .pointer 57 }
def ty152 : TI := { size := 1, bytes := 8, zero := [.sc .nilFunc], kind := .func }
def ty153 : TI := { size := 1, bytes := 8, zero := [.sc (.pointer none)], kind := .pointer 26 }
def ty155 : TI := { size := 1, bytes := 8, zero := [.sc .nilFunc], kind := .func }
def ty156 : TI := { size := 1, bytes := 8, zero := [.sc .nilFunc], kind := .func }
def ty157 : TI := { size := 1, bytes := 8, zero := [.sc .nilFunc], kind := .func }
def ty158 : TI := { size := 1, bytes := 8, zero := [.sc .nilFunc], kind := .func }
def ty159 : TI := { size := 1, bytes := 8, zero := [.sc .nilFunc], kind := .func }
def ty160 : TI := { size := 1, bytes := 8, zero := [.sc .nilFunc], kind := .func }
def ty161 : TI := { size := 1, bytes := 8, zero := [.sc .nilFunc], kind := .func }
def ty162 : TI := { size := 1, bytes := 8, zero := [.sc .nilFunc], kind := .func }
def ty163 : TI := { size := 1, bytes := 8, zero := [.sc (.pointer none)], kind := .pointer 100 }
def ty164 : TI := { size := 1, bytes := 8, zero := [.sc .nilFunc], kind := .func }
def ty165 : TI := { size := 1, bytes := 8, zero := [.sc .nilFunc], kind := .func }
def ty166 : TI := { size := 1, bytes := 8, zero := [.sc .nilFunc], kind := .func }
def ty167 : TI := { size := 1, bytes := 8, zero := [.sc .nilFunc], kind := .func }
def ty169 : TI := { size := 1, bytes := 8, zero := [.sc .nilFunc], kind := .func }
def ty170 : TI := { size := 1, bytes := 8, zero := [.int .u64 0], kind := .int .u64 }
def ty171 : TI := { size := 1, bytes := 4, zero := [.int .u32 0], kind := .int .u32 }
def ty172 : TI := { size := 32, bytes := 256, zero := [.int .i64 0, .int .i64 0, .int .i64 0, .int .i64 0, .int .i64 0, .int .i64 0, .int .i64 0, .int .i64 0, .int .i64 0, .int .i64 0, .int .i64 0, .int .i64 0, .int .i64 0, .int .i64 0, .int .i64 0, .int .i64 0, .int .i64 0, .int .i64 0, .int .i64 0, .int .i64 0, .int .i64 0, .int .i64 0, .int .i64 0, .int .i64 0, .int .i64 0, .int .i64 0, .int .i64 0, .int .i64 0, .int .i64 0, .int .i64 0, .int .i64 0, .int .i64 0], kind := .array 32 3 }
def ty173 : TI := { size := 1, bytes := 8, zero := [.int .u64 0], kind := .int .u64 }
def ty174 : TI := { size := 1, bytes := 8, zero := [.sc .nilFunc], kind := .func }
def ty175 : TI := { size := 1, bytes := 8, zero := [.sc .nilFunc], kind := .func }
def ty176 : TI := { size := 1, bytes := 8, zero := [.sc .nilFunc], kind := .func }
def ty177 : TI := { size := 1, bytes := 8, zero := [.sc .nilFunc], kind := .func }
def ty178 : TI := { size := 1, bytes := 8, zero := [.sc .nilFunc], kind := .func }
def ty179 : TI := { size := 1, bytes := 8, zero := [.sc .nilFunc], kind := .func }
def ty180 : TI := { size := 1, bytes := 8, zero := [.sc .nilFunc], kind := .func }
def ty181 : TI := { size := 1, bytes := 8, zero := [.sc .nilFunc], kind := .func }
def ty182 : TI := { size := 1, bytes := 8, zero := [.sc .nilFunc], kind := .func }
def ty183 : TI := { size := 1, bytes := 8, zero := [.sc .nilFunc], kind := .func }
def ty184 : TI := { size := 1, bytes := 8, zero := [.sc .nilFunc], kind := .func }
def ty185 : TI := { size := 1, bytes := 8, zero := [.sc .nilFunc], kind := .func }
def ty186 : TI := { size := 1, bytes := 8, zero := [.sc .nilFunc], kind := .func }
def ty187 : TI := { size := 1, bytes := 8, zero := [.sc .nilFunc], kind := .func }
def ty188 : TI := { size := 1, bytes := 8, zero := [.sc .nilFunc], kind := .func }
def ty189 : TI := { size := 1, bytes := 8, zero := [.sc .nilFunc], kind := .func }
def ty190 : TI := { size := 1, bytes := 8, zero := [.sc .nilFunc], kind := .func }
def ty191 : TI := { size := 1, bytes := 8, zero := [.sc .nilFunc], kind := .func }
def ty192 : TI := { size := 1, bytes := 8, zero := [.sc .nilFunc], kind := .func }
def ty193 : TI := { size := 1, bytes := 8, zero := [.sc .nilFunc], kind := .func }
def ty194 : TI := { size := 3, bytes := 32, zero := [.int .i64 0, .int .i64 0, .str []], kind := .struct [(0, 1, 3), (1, 1, 3), (2, 1, 9)] }
def ty195 : TI := { size := 3, bytes := 32, zero := [.int .i64 0, .int .i64 0, .str []], kind := .struct [(0, 1, 3), (1, 1, 3), (2, 1, 9)], cmp := [.int .i64, .int .i64, .str] }
def ty196 : TI := { size := 1, bytes := 8, zero := [.sc .nilFunc], kind := .func }
def ty197 : TI := { size := 1, bytes := 8, zero := [.sc .nilFunc], kind := .func }
def ty198 : TI := { size := 1, bytes := 8, zero := [.sc .nilFunc], kind := .func }
def ty199 : TI := { size := 1, bytes := 8, zero := [.sc .nilFunc], kind := .func }
def ty200 : TI := { size := 1, bytes := 8, zero := [.sc .nilFunc], kind := .func }
def ty201 : TI := { size := 1, bytes := 8, zero := [.sc .nilFunc], kind := .func }
def ty203 : TI := { size := 1, bytes := 8, zero := [.sc (.pointer none)], kind := .pointer 205 }
def ty204 : TI := { size := 2, bytes := 24, zero := [.str [], .bool false], kind := .struct [(0, 1, 9), (1, 1, 4)] }
def ty205 : TI := { size := 2, bytes := 24, zero := [.str [], .bool false], kind := .struct [(0, 1, 9), (1, 1, 4)], cmp := [.str, .bool] }
def ty206 : TI := { size := 1, bytes := 8, zero := [.sc .nilFunc], kind := .func }
def ty207 : TI := { size := 1, bytes := 8, zero := [.sc .nilFunc], kind := .func }
def ty208 : TI := { size := 1, bytes := 8, zero := [.sc .nilFunc], kind := .func }
def ty209 : TI := { size := 1, bytes := 8, zero := [.sc .nilFunc], kind := .func }
def ty211 : TI := { size := 1, bytes := 8, zero := [.sc .nilFunc], kind := .func }
def ty212 : TI := { size := 1, bytes := 8, zero := [.sc .nilFunc], kind := .func }
def ty214 : TI := { size := 1, bytes := 8, zero := [.sc .nilFunc], kind := .func }
def ty215 : TI := { size := 1, bytes := 8, zero := [.sc .nilFunc], kind := .func }
def ty216 : TI := { size := 1, bytes := 8, zero := [.sc .nilFunc], kind := .func }
def ty217 : TI := { size := 1, bytes := 8, zero := [.sc .nilFunc], kind := .func }
def ty218 : TI := { size := 1, bytes := 8, zero := [.sc .nilFunc], kind := .func }
def ty219 : TI := { size := 256, bytes := 256, zero := [.int .u8 0, .int .u8 0, .int .u8 0, .int .u8 0, .int .u8 0, .int .u8 0, .int .u8 0, .int .u8 0, .int .u8 0, .int .u8 0, .int .u8 0, .int .u8 0, .int .u8 0, .int .u8 0, .int .u8 0, .int .u8 0, .int .u8 0, .int .u8 0, .int .u8 0, .int .u8 0, .int .u8 0, .int .u8 0, .int .u8 0, .int .u8 0, .int .u8 0, .int .u8 0, .int .u8 0, .int .u8 0, .int .u8 0, .int .u8 0, .int .u8 0, .int .u8 0, .int .u8 0, .int .u8 0, .int .u8 0, .int .u8 0, .int .u8 0, .int .u8 0, .int .u8 0, .int .u8 0, .int .u8 0, .int .u8 0, .int .u8 0, .int .u8 0, .int .u8 0, .int .u8 0, .int .u8 0, .int .u8 0, .int .u8 0, .int .u8 0, .int .u8 0, .int .u8 0, .int .u8 0, .int .u8 0, .int .u8 0, .int .u8 0, .int .u8 0, .int .u8 0, .int .u8 0, .int .u8 0, .int .u8 0, .int .u8 0, .int .u8 0, .int .u8 0, .int .u8 0, .int .u8 0, .int .u8 0, .int .u8 0, .int .u8 0, .int .u8 0, .int .u8 0, .int .u8 0, .int .u8 0, .int .u8 0, .int .u8 0, .int .u8 0, .int .u8 0, .int .u8 0, .int .u8 0, .int .u8 0, .int .u8 0, .int .u8 0, .int .u8 0, .int .u8 0, .int .u8 0, .int .u8 0, .int .u8 0, .int .u8 0, .int .u8 0, .int .u8 0, .int .u8 0, .int .u8 0, .int .u8 0, .int .u8 0, .int .u8 0, .int .u8 0, .int .u8 0, .int .u8 0, .int .u8 0, .int .u8 0, .int .u8 0, .int .u8 0, .int .u8 0, .int .u8 0, .int .u8 0, .int .u8 0, .int .u8 0, .int .u8 0, .int .u8 0, .int .u8 0, .int .u8 0, .int .u8 0, .int .u8 0, .int .u8 0, .int .u8 0, .int .u8 0, .int .u8 0, .int .u8 0, .int .u8 0, .int .u8 0, .int .u8 0, .int .u8 0, .int .u8 0, .int .u8 0, .int .u8 0, .int .u8 0, .int .u8 0, .int .u8 0, .int .u8 0, .int .u8 0, .int .u8 0, .int .u8 0, .int .u8 0, .int .u8 0, .int .u8 0, .int .u8 0, .int .u8 0, .int .u8 0, .int .u8 0, .int .u8 0, .int .u8 0, .int .u8 0, .int .u8 0, .int .u8 0, .int .u8 0, .int .u8 0, .int .u8 0, .int .u8 0, .int .u8 0, .int .u8 0, .int .u8 0, .int .u8 0, .int .u8 0, .int .u8 0, .int .u8 0, .int .u8 0, .int .u8 0, .int .u8 0, .int .u8 0, .int .u8 0, .int .u8 0, .int .u8 0, .int .u8 0, .int .u8 0, .int .u8 0, .int .u8 0, .int .u8 0, .int .u8 0, .int .u8 0, .int .u8 0, .int .u8 0, .int .u8 0, .int .u8 0, .int .u8 0, .int .u8 0, .int .u8 0, .int .u8 0, .int .u8 0, .int .u8 0, .int .u8 0, .int .u8 0, .int .u8 0, .int .u8 0, .int .u8 0, .int .u8 0, .int .u8 0, .int .u8 0, .int .u8 0, .int .u8 0, .int .u8 0, .int .u8 0, .int .u8 0, .int .u8 0, .int .u8 0, .int .u8 0, .int .u8 0, .int .u8 0, .int .u8 0, .int .u8 0, .int .u8 0, .int .u8 0, .int .u8 0, .int .u8 0, .int .u8 0, .int .u8 0, .int .u8 0, .int .u8 0, .int .u8 0, .int .u8 0, .int .u8 0, .int .u8 0, .int .u8 0, .int .u8 0, .int .u8 0, .int .u8 0, .int .u8 0, .int .u8 0, .int .u8 0, .int .u8 0, .int .u8 0, .int .u8 0, .int .u8 0, .int .u8 0, .int .u8 0, .int .u8 0, .int .u8 0, .int .u8 0, .int .u8 0, .int .u8 0, .int .u8 0, .int .u8 0, .int .u8 0, .int .u8 0, .int .u8 0, .int .u8 0, .int .u8 0, .int .u8 0, .int .u8 0, .int .u8 0, .int .u8 0, .int .u8 0, .int .u8 0, .int .u8 0, .int .u8 0, .int .u8 0, .int .u8 0, .int .u8 0, .int .u8 0, .int .u8 0, .int .u8 0, .int .u8 0, .int .u8 0, .int .u8 0, .int .u8 0, .int .u8 0, .int .u8 0], kind := .array 256 5 }
def ty220 : TI := { size := 2, bytes := 2, zero := [.int .u8 0, .int .u8 0], kind := .struct [(0, 1, 5), (1, 1, 5)] }
def ty221 : TI := { size := 2, bytes := 2, zero := [.int .u8 0, .int .u8 0], kind := .struct [(0, 1, 5), (1, 1, 5)] }
def ty222 : TI := { size := 32, bytes := 32, zero := [.int .u8 0, .int .u8 0, .int .u8 0, .int .u8 0, .int .u8 0, .int .u8 0, .int .u8 0, .int .u8 0, .int .u8 0, .int .u8 0, .int .u8 0, .int .u8 0, .int .u8 0, .int .u8 0, .int .u8 0, .int .u8 0, .int .u8 0, .int .u8 0, .int .u8 0, .int .u8 0, .int .u8 0, .int .u8 0, .int .u8 0, .int .u8 0, .int .u8 0, .int .u8 0, .int .u8 0, .int .u8 0, .int .u8 0, .int .u8 0, .int .u8 0, .int .u8 0], kind := .array 16 221 }
def ty224 : TI := { size := 1, bytes := 8, zero := [.sc .nilFunc], kind := .func }
def ty225 : TI := { size := 1, bytes := 8, zero := [.sc .nilFunc], kind := .func }
def ty226 : TI := { size := 4, bytes := 40, zero := [.sc (.pointer none), .sc (.pointer none), .sc (.pointer none), .str []], kind := .struct [(0, 1, 17), (1, 1, 17), (2, 1, 17), (3, 1, 9)] }
def ty227 : TI := { size := 4, bytes := 40, zero := [.sc (.pointer none), .sc (.pointer none), .sc (.pointer none), .str []], kind := .struct [(0, 1, 17), (1, 1, 17), (2, 1, 17), (3, 1, 9)] }
def ty231 : TI := { size := 1, bytes := 8, zero := [.sc .nilFunc], kind := .func }
def ty232 : TI := { size := 1, bytes := 1, zero := [.int .u8 0], kind := .int .u8 }
def ty233 : TI := { size := 1, bytes := 1, zero := [.int .u8 0], kind := .int .u8 }
def ty234 : TI := { size := 1, bytes := 8, zero := [.sc .nilFunc], kind := .func }
def ty235 : TI := { size := 1, bytes := 8, zero := [.sc (.pointer none)], kind := .pointer 5 }
def ty236 : TI := { size := 1, bytes := 4, zero := [.int .i32 0], kind := .int .i32 }
def ty237 : TI := { size := 1, bytes := 4, zero := [.int .i32 0], kind := .int .i32 }
def ty238 : TI := { size := 11, bytes := 48, zero := [.int .u64 0, .int .u64 0, .int .u32 0, .int .u8 0, .int .u8 0, .int .u8 0, .int .u8 0, .sc .nilFunc, .sc (.pointer none), .int .i32 0, .int .i32 0], kind := .struct [(0, 1, 12), (1, 1, 12), (2, 1, 171), (3, 1, 232), (4, 1, 5), (5, 1, 5), (6, 1, 233), (7, 1, 234), (8, 1, 235), (9, 1, 236), (10, 1, 237)] }
def ty239 : TI := { size := 11, bytes := 48, zero := [.int .u64 0, .int .u64 0, .int .u32 0, .int .u8 0, .int .u8 0, .int .u8 0, .int .u8 0, .sc .nilFunc, .sc (.pointer none), .int .i32 0, .int .i32 0], kind := .struct [(0, 1, 12), (1, 1, 12), (2, 1, 171), (3, 1, 232), (4, 1, 5), (5, 1, 5), (6, 1, 233), (7, 1, 234), (8, 1, 235), (9, 1, 236), (10, 1, 237)] }
theorem tc1 : tyCheck Tryd.prog 1 ty1 = true := by kernel_rfl
theorem tc2 : tyCheck Tryd.prog 2 ty2 = true := by kernel_rfl
theorem tc3 : tyCheck Tryd.prog 3 ty3 = true := by kernel_rfl
theorem tc4 : tyCheck Tryd.prog 4 ty4 = true := by kernel_rfl
theorem tc5 : tyCheck Tryd.prog 5 ty5 = true := by kernel_rfl
theorem tc6 : tyCheck Tryd.prog 6 ty6 = true := by kernel_rfl
theorem tc7 : tyCheck Tryd.prog 7 ty7 = true := by kernel_rfl
theorem tc8 : tyCheck Tryd.prog 8 ty8 = true := by kernel_rfl
theorem tc9 : tyCheck Tryd.prog 9 ty9 = true := by kernel_rfl
theorem tc10 : tyCheck Tryd.prog 10 ty10 = true := by kernel_rfl
theorem tc11 : tyCheck Tryd.prog 11 ty11 = true := by kernel_rfl
theorem tc12 : tyCheck Tryd.prog 12 ty12 = true := by kernel_rfl
theorem tc13 : tyCheck Tryd.prog 13 ty13 = true := by kernel_rfl
theorem tc14 : tyCheck Tryd.prog 14 ty14 = true := by kernel_rfl
theorem tc15 : tyCheck Tryd.prog 15 ty15 = true := by kernel_rfl
theorem tc16 : tyCheck Tryd.prog 16 ty16 = true := by kernel_rfl
theorem tc17 : tyCheck Tryd.prog 17 ty17 = true := by kernel_rfl
theorem tc18 : tyCheck Tryd.prog 18 ty18 = true := by kernel_rfl
theorem tc19 : tyCheck Tryd.prog 19 ty19 = true := by kernel_rfl
theorem tc21 : tyCheck Tryd.prog 21 ty21 = true := by kernel_rfl
theorem tc22 : tyCheck Tryd.prog 22 ty22 = true := by kernel_rfl
theorem tc23 : tyCheck Tryd.prog 23 ty23 = true := by kernel_rfl
theorem tc24 : tyCheck Tryd.prog 24 ty24 = true := by kernel_rfl
theorem tc25 : tyCheck Tryd.prog 25 ty25 = true := by kernel_rfl
theorem tc26 : tyCheck Tryd.prog 26 ty26 = true := by kernel_rfl
theorem tc27 : tyCheck Tryd.prog 27 ty27 = true := by kernel_rfl
theorem tc28 : tyCheck Tryd.prog 28 ty28 = true := by kernel_rfl
theorem tc30 : tyCheck Tryd.prog 30 ty30 = true := by kernel_rfl
theorem tc31 : tyCheck Tryd.prog 31 ty31 = true := by kernel_rfl
theorem tc32 : tyCheck Tryd.prog 32 ty32 = true := by kernel_rfl
theorem tc33 : tyCheck Tryd.prog 33 ty33 = true := by kernel_rfl
theorem tc34 : tyCheck Tryd.prog 34 ty34 = true := by kernel_rfl
theorem tc35 : tyCheck Tryd.prog 35 ty35 = true := by kernel_rfl
theorem tc37 : tyCheck Tryd.prog 37 ty37 = true := by kernel_rfl
theorem tc38 : tyCheck Tryd.prog 38 ty38 = true := by kernel_rfl
theorem tc39 : tyCheck Tryd.prog 39 ty39 = true := by kernel_rfl
theorem tc40 : tyCheck Tryd.prog 40 ty40 = true := by kernel_rfl
theorem tc41 : tyCheck Tryd.prog 41 ty41 = true := by kernel_rfl
theorem tc42 : tyCheck Tryd.prog 42 ty42 = true := by kernel_rfl
theorem tc43 : tyCheck Tryd.prog 43 ty43 = true := by kernel_rfl
theorem tc44 : tyCheck Tryd.prog 44 ty44 = true := by kernel_rfl
theorem tc46 : tyCheck Tryd.prog 46 ty46 = true := by kernel_rfl
theorem tc47 : tyCheck Tryd.prog 47 ty47 = true := by kernel_rfl
theorem tc48 : tyCheck Tryd.prog 48 ty48 = true := by kernel_rfl
theorem tc50 : tyCheck Tryd.prog 50 ty50 = true := by kernel_rfl
theorem tc51 : tyCheck Tryd.prog 51 ty51 = true := by kernel_rfl
theorem tc52 : tyCheck Tryd.prog 52 ty52 = true := by kernel_rfl
theorem tc53 : tyCheck Tryd.prog 53 ty53 = true := by kernel_rfl
theorem tc54 : tyCheck Tryd.prog 54 ty54 = true := by kernel_rfl
theorem tc55 : tyCheck Tryd.prog 55 ty55 = true := by kernel_rfl
theorem tc56 : tyCheck Tryd.prog 56 ty56 = true := by kernel_rfl
theorem tc57 : tyCheck Tryd.prog 57 ty57 = true := by kernel_rfl
theorem tc59 : tyCheck Tryd.prog 59 ty59 = true := by kernel_rfl
theorem tc60 : tyCheck Tryd.prog 60 ty60 = true := by kernel_rfl
theorem tc62 : tyCheck Tryd.prog 62 ty62 = true := by kernel_rfl
theorem tc63 : tyCheck Tryd.prog 63 ty63 = true := by kernel_rfl
theorem tc64 : tyCheck Tryd.prog 64 ty64 = true := by kernel_rfl
theorem tc65 : tyCheck Tryd.prog 65 ty65 = true := by kernel_rfl
theorem tc67 : tyCheck Tryd.prog 67 ty67 = true := by kernel_rfl
theorem tc68 : tyCheck Tryd.prog 68 ty68 = true := by kernel_rfl
theorem tc70 : tyCheck Tryd.prog 70 ty70 = true := by kernel_rfl
theorem tc72 : tyCheck Tryd.prog 72 ty72 = true := by kernel_rfl
theorem tc73 : tyCheck Tryd.prog 73 ty73 = true := by kernel_rfl
theorem tc74 : tyCheck Tryd.prog 74 ty74 = true := by kernel_rfl
theorem tc76 : tyCheck Tryd.prog 76 ty76 = true := by kernel_rfl
theorem tc77 : tyCheck Tryd.prog 77 ty77 = true := by kernel_rfl
theorem tc78 : tyCheck Tryd.prog 78 ty78 = true := by kernel_rfl
theorem tc79 : tyCheck Tryd.prog 79 ty79 = true := by kernel_rfl
theorem tc80 : tyCheck Tryd.prog 80 ty80 = true := by kernel_rfl
theorem tc81 : tyCheck Tryd.prog 81 ty81 = true := by kernel_rfl
theorem tc83 : tyCheck Tryd.prog 83 ty83 = true := by kernel_rfl
theorem tc84 : tyCheck Tryd.prog 84 ty84 = true := by kernel_rfl
theorem tc85 : tyCheck Tryd.prog 85 ty85 = true := by kernel_rfl
theorem tc86 : tyCheck Tryd.prog 86 ty86 = true := by kernel_rfl
theorem tc87 : tyCheck Tryd.prog 87 ty87 = true := by kernel_rfl
theorem tc88 : tyCheck Tryd.prog 88 ty88 = true := by kernel_rfl
theorem tc89 : tyCheck Tryd.prog 89 ty89 = true := by kernel_rfl
theorem tc91 : tyCheck Tryd.prog 91 ty91 = true := by kernel_rfl
theorem tc92 : tyCheck Tryd.prog 92 ty92 = true := by kernel_rfl
theorem tc93 : tyCheck Tryd.prog 93 ty93 = true := by kernel_rfl
theorem tc94 : tyCheck Tryd.prog 94 ty94 = true := by kernel_rfl
theorem tc95 : tyCheck Tryd.prog 95 ty95 = true := by kernel_rfl
theorem tc96 : tyCheck Tryd.prog 96 ty96 = true := by kernel_rfl
theorem tc97 : tyCheck Tryd.prog 97 ty97 = true := by kernel_rfl
theorem tc98 : tyCheck Tryd.prog 98 ty98 = true := by kernel_rfl
theorem tc99 : tyCheck Tryd.prog 99 ty99 = true := by kernel_rfl
theorem tc100 : tyCheck Tryd.prog 100 ty100 = true := by kernel_rfl
theorem tc101 : tyCheck Tryd.prog 101 ty101 = true := by kernel_rfl
theorem tc103 : tyCheck Tryd.prog 103 ty103 = true := by kernel_rfl
theorem tc104 : tyCheck Tryd.prog 104 ty104 = true := by kernel_rfl
theorem tc105 : tyCheck Tryd.prog 105 ty105 = true := by kernel_rfl
theorem tc106 : tyCheck Tryd.prog 106 ty106 = true := by kernel_rfl
theorem tc107 : tyCheck Tryd.prog 107 ty107 = true := by kernel_rfl
theorem tc108 : tyCheck Tryd.prog 108 ty108 = true := by kernel_rfl
theorem tc109 : tyCheck Tryd.prog 109 ty109 = true := by kernel_rfl
theorem tc110 : tyCheck Tryd.prog 110 ty110 = true := by kernel_rfl
theorem tc111 : tyCheck Tryd.prog 111 ty111 = true := by kernel_rfl
theorem tc112 : tyCheck Tryd.prog 112 ty112 = true := by kernel_rfl
theorem tc113 : tyCheck Tryd.prog 113 ty113 = true := by kernel_rfl
theorem tc114 : tyCheck Tryd.prog 114 ty114 = true := by kernel_rfl
theorem tc115 : tyCheck Tryd.prog 115 ty115 = true := by kernel_rfl
theorem tc116 : tyCheck Tryd.prog 116 ty116 = true := by kernel_rfl
theorem tc117 : tyCheck Tryd.prog 117 ty117 = true := by kernel_rfl
theorem tc118 : tyCheck Tryd.prog 118 ty118 = true := by kernel_rfl
theorem tc119 : tyCheck Tryd.prog 119 ty119 = true := by kernel_rfl
theorem tc120 : tyCheck Tryd.prog 120 ty120 = true := by kernel_rfl
theorem tc121 : tyCheck Tryd.prog 121 ty121 = true := by kernel_rfl
theorem tc122 : tyCheck Tryd.prog 122 ty122 = true := by kernel_rfl
theorem tc123 : tyCheck Tryd.prog 123 ty123 = true := by kernel_rfl
theorem tc125 : tyCheck Tryd.prog 125 ty125 = true := by kernel_rfl
theorem tc126 : tyCheck Tryd.prog 126 ty126 = true := by kernel_rfl
theorem tc128 : tyCheck Tryd.prog 128 ty128 = true := by kernel_rfl
theorem tc129 : tyCheck Tryd.prog 129 ty129 = true := by kernel_rfl
theorem tc130 : tyCheck Tryd.prog 130 ty130 = true := by kernel_rfl
theorem tc131 : tyCheck Tryd.prog 131 ty131 = true := by kernel_rfl
theorem tc132 : tyCheck Tryd.prog 132 ty132 = true := by kernel_rfl
theorem tc133 : tyCheck Tryd.prog 133 ty133 = true := by kernel_rfl
theorem tc134 : tyCheck Tryd.prog 134 ty134 = true := by kernel_rfl
theorem tc135 : tyCheck Tryd.prog 135 ty135 = true := by kernel_rfl
theorem tc136 : tyCheck Tryd.prog 136 ty136 = true := by kernel_rfl
theorem tc137 : tyCheck Tryd.prog 137 ty137 = true := by kernel_rfl
theorem tc138 : tyCheck Tryd.prog 138 ty138 = true := by kernel_rfl
theorem tc139 : tyCheck Tryd.prog 139 ty139 = true := by kernel_rfl
theorem tc140 : tyCheck Tryd.prog 140 ty140 = true := by kernel_rfl
theorem tc141 : tyCheck Tryd.prog 141 ty141 = true := by kernel_rfl
theorem tc142 : tyCheck Tryd.prog 142 ty142 = true := by kernel_rfl
theorem tc143 : tyCheck Tryd.prog 143 ty143 = true := by kernel_rfl
theorem tc144 : tyCheck Tryd.prog 144 ty144 = true := by kernel_rfl
theorem tc145 : tyCheck Tryd.prog 145 ty145 = true := by kernel_rfl
theorem tc146 : tyCheck Tryd.prog 146 ty146 = true := by kernel_rfl
theorem tc147 : tyCheck Tryd.prog 147 ty147 = true := by kernel_rfl
theorem tc148 : tyCheck Tryd.prog 148 ty148 = true := by kernel_rfl
theorem tc149 : tyCheck Tryd.prog 149 ty149 = true := by kernel_rfl
theorem tc150 : tyCheck Tryd.prog 150 ty150 = true := by kernel_rfl
theorem tc151 : tyCheck Tryd.prog 151 ty151 = true := by kernel_rfl
theorem tc152 : tyCheck Tryd.prog 152 ty152 = true := by kernel_rfl
theorem tc153 : tyCheck Tryd.prog 153 ty153 = true := by kernel_rfl
theorem tc155 : tyCheck Tryd.prog 155 ty155 = true := by kernel_rfl
theorem tc156 : tyCheck Tryd.prog 156 ty156 = true := by kernel_rfl
theorem tc157 : tyCheck Tryd.prog 157 ty157 = true := by kernel_rfl
theorem tc158 : tyCheck Tryd.prog 158 ty158 = true := by kernel_rfl
theorem tc159 : tyCheck Tryd.prog 159 ty159 = true := by kernel_rfl
theorem tc160 : tyCheck Tryd.prog 160 ty160 = true := by kernel_rfl
theorem tc161 : tyCheck Tryd.prog 161 ty161 = true := by kernel_rfl
theorem tc162 : tyCheck Tryd.prog 162 ty162 = true := by kernel_rfl
theorem tc163 : tyCheck Tryd.prog 163 ty163 = true := by kernel_rfl
theorem tc164 : tyCheck Tryd.prog 164 ty164 = true := by kernel_rfl
theorem tc165 : tyCheck Tryd.prog 165 ty165 = true := by kernel_rfl
theorem tc166 : tyCheck Tryd.prog 166 ty166 = true := by kernel_rfl
theorem tc167 : tyCheck Tryd.prog 167 ty167 = true := by kernel_rfl
theorem tc169 : tyCheck Tryd.prog 169 ty169 = true := by kernel_rfl
theorem tc170 : tyCheck Tryd.prog 170 ty170 = true := by kernel_rfl
theorem tc171 : tyCheck Tryd.prog 171 ty171 = true := by kernel_rfl
theorem tc172 : tyCheck Tryd.prog 172 ty172 = true := by kernel_rfl
theorem tc173 : tyCheck Tryd.prog 173 ty173 = true := by kernel_rfl
theorem tc174 : tyCheck Tryd.prog 174 ty174 = true := by kernel_rfl
theorem tc175 : tyCheck Tryd.prog 175 ty175 = true := by kernel_rfl
theorem tc176 : tyCheck Tryd.prog 176 ty176 = true := by kernel_rfl
theorem tc177 : tyCheck Tryd.prog 177 ty177 = true := by kernel_rfl
theorem tc178 : tyCheck Tryd.prog 178 ty178 = true := by kernel_rfl
theorem tc179 : tyCheck Tryd.prog 179 ty179 = true := by kernel_rfl
theorem tc180 : tyCheck Tryd.prog 180 ty180 = true := by kernel_rfl
theorem tc181 : tyCheck Tryd.prog 181 ty181 = true := by kernel_rfl
theorem tc182 : tyCheck Tryd.prog 182 ty182 = true := by kernel_rfl
theorem tc183 : tyCheck Tryd.prog 183 ty183 = true := by kernel_rfl
theorem tc184 : tyCheck Tryd.prog 184 ty184 = true := by kernel_rfl
theorem tc185 : tyCheck Tryd.prog 185 ty185 = true := by kernel_rfl
theorem tc186 : tyCheck Tryd.prog 186 ty186 = true := by kernel_rfl
theorem tc187 : tyCheck Tryd.prog 187 ty187 = true := by kernel_rfl
theorem tc188 : tyCheck Tryd.prog 188 ty188 = true := by kernel_rfl
theorem tc189 : tyCheck Tryd.prog 189 ty189 = true := by kernel_rfl
theorem tc190 : tyCheck Tryd.prog 190 ty190 = true := by kernel_rfl
theorem tc191 : tyCheck Tryd.prog 191 ty191 = true := by kernel_rfl
theorem tc192 : tyCheck Tryd.prog 192 ty192 = true := by kernel_rfl
theorem tc193 : tyCheck Tryd.prog 193 ty193 = true := by kernel_rfl
theorem tc194 : tyCheck Tryd.prog 194 ty194 = true := by kernel_rfl
theorem tc195 : tyCheck Tryd.prog 195 ty195 = true := by kernel_rfl
theorem tc196 : tyCheck Tryd.prog 196 ty196 = true := by kernel_rfl
theorem tc197 : tyCheck Tryd.prog 197 ty197 = true := by kernel_rfl
theorem tc198 : tyCheck Tryd.prog 198 ty198 = true := by kernel_rfl
theorem tc199 : tyCheck Tryd.prog 199 ty199 = true := by kernel_rfl
theorem tc200 : tyCheck Tryd.prog 200 ty200 = true := by kernel_rfl
theorem tc201 : tyCheck Tryd.prog 201 ty201 = true := by kernel_rfl
theorem tc203 : tyCheck Tryd.prog 203 ty203 = true := by kernel_rfl
theorem tc204 : tyCheck Tryd.prog 204 ty204 = true := by kernel_rfl
theorem tc205 : tyCheck Tryd.prog 205 ty205 = true := by kernel_rfl
theorem tc206 : tyCheck Tryd.prog 206 ty206 = true := by kernel_rfl
theorem tc207 : tyCheck Tryd.prog 207 ty207 = true := by kernel_rfl
theorem tc208 : tyCheck Tryd.prog 208 ty208 = true := by kernel_rfl
theorem tc209 : tyCheck Tryd.prog 209 ty209 = true := by kernel_rfl
theorem tc211 : tyCheck Tryd.prog 211 ty211 = true := by kernel_rfl
theorem tc212 : tyCheck Tryd.prog 212 ty212 = true := by kernel_rfl
theorem tc214 : tyCheck Tryd.prog 214 ty214 = true := by kernel_rfl
theorem tc215 : tyCheck Tryd.prog 215 ty215 = true := by kernel_rfl
theorem tc216 : tyCheck Tryd.prog 216 ty216 = true := by kernel_rfl
theorem tc217 : tyCheck Tryd.prog 217 ty217 = true := by kernel_rfl
theorem tc218 : tyCheck Tryd.prog 218 ty218 = true := by kernel_rfl
theorem tc219 : tyCheck Tryd.prog 219 ty219 = true := by kernel_rfl
theorem tc220 : tyCheck Tryd.prog 220 ty220 = true := by kernel_rfl
theorem tc221 : tyCheck Tryd.prog 221 ty221 = true := by kernel_rfl
theorem tc222 : tyCheck Tryd.prog 222 ty222 = true := by kernel_rfl
theorem tc224 : tyCheck Tryd.prog 224 ty224 = true := by kernel_rfl
theorem tc225 : tyCheck Tryd.prog 225 ty225 = true := by kernel_rfl
theorem tc226 : tyCheck Tryd.prog 226 ty226 = true := by kernel_rfl
theorem tc227 : tyCheck Tryd.prog 227 ty227 = true := by kernel_rfl
theorem tc231 : tyCheck Tryd.prog 231 ty231 = true := by kernel_rfl
theorem tc232 : tyCheck Tryd.prog 232 ty232 = true := by kernel_rfl
theorem tc233 : tyCheck Tryd.prog 233 ty233 = true := by kernel_rfl
theorem tc234 : tyCheck Tryd.prog 234 ty234 = true := by kernel_rfl
theorem tc235 : tyCheck Tryd.prog 235 ty235 = true := by kernel_rfl
theorem tc236 : tyCheck Tryd.prog 236 ty236 = true := by kernel_rfl
theorem tc237 : tyCheck Tryd.prog 237 ty237 = true := by kernel_rfl
theorem tc238 : tyCheck Tryd.prog 238 ty238 = true := by kernel_rfl
theorem tc239 : tyCheck Tryd.prog 239 ty239 = true := by kernel_rfl
def tyL : List (Nat × TI) := [(1, ty1), (2, ty2), (3, ty3), (4, ty4), (5, ty5), (6, ty6), (7, ty7), (8, ty8), (9, ty9), (10, ty10), (11, ty11), (12, ty12), (13, ty13), (14, ty14), (15, ty15), (16, ty16), (17, ty17), (18, ty18), (19, ty19), (21, ty21), (22, ty22), (23, ty23), (24, ty24), (25, ty25), (26, ty26), (27, ty27), (28, ty28), (30, ty30), (31, ty31), (32, ty32), (33, ty33), (34, ty34), (35, ty35), (37, ty37), (38, ty38), (39, ty39), (40, ty40), (41, ty41), (42, ty42), (43, ty43), (44, ty44), (46, ty46), (47, ty47), (48, ty48), (50, ty50), (51, ty51), (52, ty52), (53, ty53), (54, ty54), (55, ty55), (56, ty56), (57, ty57), (59, ty59), (60, ty60), (62, ty62), (63, ty63), (64, ty64), (65, ty65), (67, ty67), (68, ty68), (70, ty70), (72, ty72), (73, ty73), (74, ty74), (76, ty76), (77, ty77), (78, ty78), (79, ty79), (80, ty80), (81, ty81), (83, ty83), (84, ty84), (85, ty85), (86, ty86), (87, ty87), (88, ty88), (89, ty89), (91, ty91), (92, ty92), (93, ty93), (94, ty94), (95, ty95), (96, ty96), (97, ty97), (98, ty98), (99, ty99), (100, ty100), (101, ty101), (103, ty103), (104, ty104), (105, ty105), (106, ty106), (107, ty107), (108, ty108), (109, ty109), (110, ty110), (111, ty111), (112, ty112), (113, ty113), (114, ty114), (115, ty115), (116, ty116), (117, ty117), (118, ty118), (119, ty119), (120, ty120), (121, ty121), (122, ty122), (123, ty123), (125, ty125), (126, ty126), (128, ty128), (129, ty129), (130, ty130), (131, ty131), (132, ty132), (133, ty133), (134, ty134), (135, ty135), (136, ty136), (137, ty137), (138, ty138), (139, ty139), (140, ty140), (141, ty141), (142, ty142), (143, ty143), (144, ty144), (145, ty145), (146, ty146), (147, ty147), (148, ty148), (149, ty149), (150, ty150), (151, ty151), (152, ty152), (153, ty153), (155, ty155), (156, ty156), (157, ty157), (158, ty158), (159, ty159), (160, ty160), (161, ty161), (162, ty162), (163, ty163), (164, ty164), (165, ty165), (166, ty166), (167, ty167), (169, ty169), (170, ty170), (171, ty171), (172, ty172), (173, ty173), (174, ty174), (175, ty175), (176, ty176), (177, ty177), (178, ty178), (179, ty179), (180, ty180), (181, ty181), (182, ty182), (183, ty183), (184, ty184), (185, ty185), (186, ty186), (187, ty187), (188, ty188), (189, ty189), (190, ty190), (191, ty191), (192, ty192), (193, ty193), (194, ty194), (195, ty195), (196, ty196), (197, ty197), (198, ty198), (199, ty199), (200, ty200), (201, ty201), (203, ty203), (204, ty204), (205, ty205), (206, ty206), (207, ty207), (208, ty208), (209, ty209), (211, ty211), (212, ty212), (214, ty214), (215, ty215), (216, ty216), (217, ty217), (218, ty218), (219, ty219), (220, ty220), (221, ty221), (222, ty222), (224, ty224), (225, ty225), (226, ty226), (227, ty227), (231, ty231), (232, ty232), (233, ty233), (234, ty234), (235, ty235), (236, ty236), (237, ty237), (238, ty238), (239, ty239)]
def T : TypeId → TI := tabOf tyL
theorem tabOk : TabOk Tryd.prog T := tabOk_of (by
  simp only [tyL, List.forall_mem_cons, List.not_mem_nil, false_implies, implies_true, and_true]
  exact ⟨tc1, tc2, tc3, tc4, tc5, tc6, tc7, tc8, tc9, tc10, tc11, tc12, tc13, tc14, tc15, tc16, tc17, tc18, tc19, tc21, tc22, tc23, tc24, tc25, tc26, tc27, tc28, tc30, tc31, tc32, tc33, tc34, tc35, tc37, tc38, tc39, tc40, tc41, tc42, tc43, tc44, tc46, tc47, tc48, tc50, tc51, tc52, tc53, tc54, tc55, tc56, tc57, tc59, tc60, tc62, tc63, tc64, tc65, tc67, tc68, tc70, tc72, tc73, tc74, tc76, tc77, tc78, tc79, tc80, tc81, tc83, tc84, tc85, tc86, tc87, tc88, tc89, tc91, tc92, tc93, tc94, tc95, tc96, tc97, tc98, tc99, tc100, tc101, tc103, tc104, tc105, tc106, tc107, tc108, tc109, tc110, tc111, tc112, tc113, tc114, tc115, tc116, tc117, tc118, tc119, tc120, tc121, tc122, tc123, tc125, tc126, tc128, tc129, tc130, tc131, tc132, tc133, tc134, tc135, tc136, tc137, tc138, tc139, tc140, tc141, tc142, tc143, tc144, tc145, tc146, tc147, tc148, tc149, tc150, tc151, tc152, tc153, tc155, tc156, tc157, tc158, tc159, tc160, tc161, tc162, tc163, tc164, tc165, tc166, tc167, tc169, tc170, tc171, tc172, tc173, tc174, tc175, tc176, tc177, tc178, tc179, tc180, tc181, tc182, tc183, tc184, tc185, tc186, tc187, tc188, tc189, tc190, tc191, tc192, tc193, tc194, tc195, tc196, tc197, tc198, tc199, tc200, tc201, tc203, tc204, tc205, tc206, tc207, tc208, tc209, tc211, tc212, tc214, tc215, tc216, tc217, tc218, tc219, tc220, tc221, tc222, tc224, tc225, tc226, tc227, tc231, tc232, tc233, tc234, tc235, tc236, tc237, tc238, tc239⟩)
theorem T_1 : T 1 = ty1 := by kernel_rfl
theorem T_2 : T 2 = ty2 := by kernel_rfl
theorem T_3 : T 3 = ty3 := by kernel_rfl
theorem T_4 : T 4 = ty4 := by kernel_rfl
theorem T_5 : T 5 = ty5 := by kernel_rfl
theorem T_6 : T 6 = ty6 := by kernel_rfl
theorem T_7 : T 7 = ty7 := by kernel_rfl
theorem T_8 : T 8 = ty8 := by kernel_rfl
theorem T_9 : T 9 = ty9 := by kernel_rfl
theorem T_10 : T 10 = ty10 := by kernel_rfl
theorem T_11 : T 11 = ty11 := by kernel_rfl
theorem T_12 : T 12 = ty12 := by kernel_rfl
theorem T_13 : T 13 = ty13 := by kernel_rfl
theorem T_14 : T 14 = ty14 := by kernel_rfl
theorem T_15 : T 15 = ty15 := by kernel_rfl
theorem T_16 : T 16 = ty16 := by kernel_rfl
theorem T_17 : T 17 = ty17 := by kernel_rfl
theorem T_18 : T 18 = ty18 := by kernel_rfl
theorem T_19 : T 19 = ty19 := by kernel_rfl
theorem T_21 : T 21 = ty21 := by kernel_rfl
theorem T_22 : T 22 = ty22 := by kernel_rfl
theorem T_23 : T 23 = ty23 := by kernel_rfl
theorem T_24 : T 24 = ty24 := by kernel_rfl
theorem T_25 : T 25 = ty25 := by kernel_rfl
theorem T_26 : T 26 = ty26 := by kernel_rfl
theorem T_27 : T 27 = ty27 := by kernel_rfl
theorem T_28 : T 28 = ty28 := by kernel_rfl
theorem T_30 : T 30 = ty30 := by kernel_rfl
theorem T_31 : T 31 = ty31 := by kernel_rfl
theorem T_32 : T 32 = ty32 := by kernel_rfl
theorem T_33 : T 33 = ty33 := by kernel_rfl
theorem T_34 : T 34 = ty34 := by kernel_rfl
theorem T_35 : T 35 = ty35 := by kernel_rfl
theorem T_37 : T 37 = ty37 := by kernel_rfl
theorem T_38 : T 38 = ty38 := by kernel_rfl
theorem T_39 : T 39 = ty39 := by kernel_rfl
theorem T_40 : T 40 = ty40 := by kernel_rfl
theorem T_41 : T 41 = ty41 := by kernel_rfl
theorem T_42 : T 42 = ty42 := by kernel_rfl
theorem T_43 : T 43 = ty43 := by kernel_rfl
theorem T_44 : T 44 = ty44 := by kernel_rfl
theorem T_46 : T 46 = ty46 := by kernel_rfl
theorem T_47 : T 47 = ty47 := by kernel_rfl
theorem T_48 : T 48 = ty48 := by kernel_rfl
theorem T_50 : T 50 = ty50 := by kernel_rfl
theorem T_51 : T 51 = ty51 := by kernel_rfl
theorem T_52 : T 52 = ty52 := by kernel_rfl
theorem T_53 : T 53 = ty53 := by kernel_rfl
theorem T_54 : T 54 = ty54 := by kernel_rfl
theorem T_55 : T 55 = ty55 := by kernel_rfl
theorem T_56 : T 56 = ty56 := by kernel_rfl
theorem T_57 : T 57 = ty57 := by kernel_rfl
theorem T_59 : T 59 = ty59 := by kernel_rfl
theorem T_60 : T 60 = ty60 := by kernel_rfl
theorem T_62 : T 62 = ty62 := by kernel_rfl
theorem T_63 : T 63 = ty63 := by kernel_rfl
theorem T_64 : T 64 = ty64 := by kernel_rfl
theorem T_65 : T 65 = ty65 := by kernel_rfl
theorem T_67 : T 67 = ty67 := by kernel_rfl
theorem T_68 : T 68 = ty68 := by kernel_rfl
theorem T_70 : T 70 = ty70 := by kernel_rfl
theorem T_72 : T 72 = ty72 := by kernel_rfl
theorem T_73 : T 73 = ty73 := by kernel_rfl
theorem T_74 : T 74 = ty74 := by kernel_rfl
theorem T_76 : T 76 = ty76 := by kernel_rfl
theorem T_77 : T 77 = ty77 := by kernel_rfl
theorem T_78 : T 78 = ty78 := by kernel_rfl
theorem T_79 : T 79 = ty79 := by kernel_rfl
theorem T_80 : T 80 = ty80 := by kernel_rfl
theorem T_81 : T 81 = ty81 := by kernel_rfl
theorem T_83 : T 83 = ty83 := by kernel_rfl
theorem T_84 : T 84 = ty84 := by kernel_rfl
theorem T_85 : T 85 = ty85 := by kernel_rfl
theorem T_86 : T 86 = ty86 := by kernel_rfl
theorem T_87 : T 87 = ty87 := by kernel_rfl
theorem T_88 : T 88 = ty88 := by kernel_rfl
theorem T_89 : T 89 = ty89 := by kernel_rfl
theorem T_91 : T 91 = ty91 := by kernel_rfl
theorem T_92 : T 92 = ty92 := by kernel_rfl
theorem T_93 : T 93 = ty93 := by kernel_rfl
theorem T_94 : T 94 = ty94 := by kernel_rfl
theorem T_95 : T 95 = ty95 := by kernel_rfl
theorem T_96 : T 96 = ty96 := by kernel_rfl
theorem T_97 : T 97 = ty97 := by kernel_rfl
theorem T_98 : T 98 = ty98 := by kernel_rfl
theorem T_99 : T 99 = ty99 := by kernel_rfl
theorem T_100 : T 100 = ty100 := by kernel_rfl
theorem T_101 : T 101 = ty101 := by kernel_rfl
theorem T_103 : T 103 = ty103 := by kernel_rfl
theorem T_104 : T 104 = ty104 := by kernel_rfl
theorem T_105 : T 105 = ty105 := by kernel_rfl
theorem T_106 : T 106 = ty106 := by kernel_rfl
theorem T_107 : T 107 = ty107 := by kernel_rfl
theorem T_108 : T 108 = ty108 := by kernel_rfl
theorem T_109 : T 109 = ty109 := by kernel_rfl
theorem T_110 : T 110 = ty110 := by kernel_rfl
theorem T_111 : T 111 = ty111 := by kernel_rfl
theorem T_112 : T 112 = ty112 := by kernel_rfl
theorem T_113 : T 113 = ty113 := by kernel_rfl
theorem T_114 : T 114 = ty114 := by kernel_rfl
theorem T_115 : T 115 = ty115 := by kernel_rfl
theorem T_116 : T 116 = ty116 := by kernel_rfl
theorem T_117 : T 117 = ty117 := by kernel_rfl
theorem T_118 : T 118 = ty118 := by kernel_rfl
theorem T_119 : T 119 = ty119 := by kernel_rfl
theorem T_120 : T 120 = ty120 := by kernel_rfl
theorem T_121 : T 121 = ty121 := by kernel_rfl
theorem T_122 : T 122 = ty122 := by kernel_rfl
theorem T_123 : T 123 = ty123 := by kernel_rfl
theorem T_125 : T 125 = ty125 := by kernel_rfl
theorem T_126 : T 126 = ty126 := by kernel_rfl
theorem T_128 : T 128 = ty128 := by kernel_rfl
theorem T_129 : T 129 = ty129 := by kernel_rfl
theorem T_130 : T 130 = ty130 := by kernel_rfl
theorem T_131 : T 131 = ty131 := by kernel_rfl
theorem T_132 : T 132 = ty132 := by kernel_rfl
theorem T_133 : T 133 = ty133 := by kernel_rfl
theorem T_134 : T 134 = ty134 := by kernel_rfl
theorem T_135 : T 135 = ty135 := by kernel_rfl
theorem T_136 : T 136 = ty136 := by kernel_rfl
theorem T_137 : T 137 = ty137 := by kernel_rfl
theorem T_138 : T 138 = ty138 := by kernel_rfl
theorem T_139 : T 139 = ty139 := by kernel_rfl
theorem T_140 : T 140 = ty140 := by kernel_rfl
theorem T_141 : T 141 = ty141 := by kernel_rfl
theorem T_142 : T 142 = ty142 := by kernel_rfl
theorem T_143 : T 143 = ty143 := by kernel_rfl
theorem T_144 : T 144 = ty144 := by kernel_rfl
theorem T_145 : T 145 = ty145 := by kernel_rfl
theorem T_146 : T 146 = ty146 := by kernel_rfl
theorem T_147 : T 147 = ty147 := by kernel_rfl
theorem T_148 : T 148 = ty148 := by kernel_rfl
theorem T_149 : T 149 = ty149 := by kernel_rfl
theorem T_150 : T 150 = ty150 := by kernel_rfl
theorem T_151 : T 151 = ty151 := by kernel_rfl
theorem T_152 : T 152 = ty152 := by kernel_rfl
theorem T_153 : T 153 = ty153 := by kernel_rfl
theorem T_155 : T 155 = ty155 := by kernel_rfl
theorem T_156 : T 156 = ty156 := by kernel_rfl
theorem T_157 : T 157 = ty157 := by kernel_rfl
theorem T_158 : T 158 = ty158 := by kernel_rfl
theorem T_159 : T 159 = ty159 := by kernel_rfl
theorem T_160 : T 160 = ty160 := by kernel_rfl
theorem T_161 : T 161 = ty161 := by kernel_rfl
theorem T_162 : T 162 = ty162 := by kernel_rfl
theorem T_163 : T 163 = ty163 := by kernel_rfl
theorem T_164 : T 164 = ty164 := by kernel_rfl
theorem T_165 : T 165 = ty165 := by kernel_rfl
theorem T_166 : T 166 = ty166 := by kernel_rfl
theorem T_167 : T 167 = ty167 := by kernel_rfl
theorem T_169 : T 169 = ty169 := by kernel_rfl
theorem T_170 : T 170 = ty170 := by kernel_rfl
theorem T_171 : T 171 = ty171 := by kernel_rfl
theorem T_172 : T 172 = ty172 := by kernel_rfl
theorem T_173 : T 173 = ty173 := by kernel_rfl
theorem T_174 : T 174 = ty174 := by kernel_rfl
theorem T_175 : T 175 = ty175 := by kernel_rfl
theorem T_176 : T 176 = ty176 := by kernel_rfl
theorem T_177 : T 177 = ty177 := by kernel_rfl
theorem T_178 : T 178 = ty178 := by kernel_rfl
theorem T_179 : T 179 = ty179 := by kernel_rfl
theorem T_180 : T 180 = ty180 := by kernel_rfl
theorem T_181 : T 181 = ty181 := by kernel_rfl
theorem T_182 : T 182 = ty182 := by kernel_rfl
theorem T_183 : T 183 = ty183 := by kernel_rfl
theorem T_184 : T 184 = ty184 := by kernel_rfl
theorem T_185 : T 185 = ty185 := by kernel_rfl
theorem T_186 : T 186 = ty186 := by kernel_rfl
theorem T_187 : T 187 = ty187 := by kernel_rfl
theorem T_188 : T 188 = ty188 := by kernel_rfl
theorem T_189 : T 189 = ty189 := by kernel_rfl
theorem T_190 : T 190 = ty190 := by kernel_rfl
theorem T_191 : T 191 = ty191 := by kernel_rfl
theorem T_192 : T 192 = ty192 := by kernel_rfl
theorem T_193 : T 193 = ty193 := by kernel_rfl
theorem T_194 : T 194 = ty194 := by kernel_rfl
theorem T_195 : T 195 = ty195 := by kernel_rfl
theorem T_196 : T 196 = ty196 := by kernel_rfl
theorem T_197 : T 197 = ty197 := by kernel_rfl
theorem T_198 : T 198 = ty198 := by kernel_rfl
theorem T_199 : T 199 = ty199 := by kernel_rfl
theorem T_200 : T 200 = ty200 := by kernel_rfl
theorem T_201 : T 201 = ty201 := by kernel_rfl
theorem T_203 : T 203 = ty203 := by kernel_rfl
theorem T_204 : T 204 = ty204 := by kernel_rfl
theorem T_205 : T 205 = ty205 := by kernel_rfl
theorem T_206 : T 206 = ty206 := by kernel_rfl
theorem T_207 : T 207 = ty207 := by kernel_rfl
theorem T_208 : T 208 = ty208 := by kernel_rfl
theorem T_209 : T 209 = ty209 := by kernel_rfl
theorem T_211 : T 211 = ty211 := by kernel_rfl
theorem T_212 : T 212 = ty212 := by kernel_rfl
theorem T_214 : T 214 = ty214 := by kernel_rfl
theorem T_215 : T 215 = ty215 := by kernel_rfl
theorem T_216 : T 216 = ty216 := by kernel_rfl
theorem T_217 : T 217 = ty217 := by kernel_rfl
theorem T_218 : T 218 = ty218 := by kernel_rfl
theorem T_219 : T 219 = ty219 := by kernel_rfl
theorem T_220 : T 220 = ty220 := by kernel_rfl
theorem T_221 : T 221 = ty221 := by kernel_rfl
theorem T_222 : T 222 = ty222 := by kernel_rfl
theorem T_224 : T 224 = ty224 := by kernel_rfl
theorem T_225 : T 225 = ty225 := by kernel_rfl
theorem T_226 : T 226 = ty226 := by kernel_rfl
theorem T_227 : T 227 = ty227 := by kernel_rfl
theorem T_231 : T 231 = ty231 := by kernel_rfl
theorem T_232 : T 232 = ty232 := by kernel_rfl
theorem T_233 : T 233 = ty233 := by kernel_rfl
theorem T_234 : T 234 = ty234 := by kernel_rfl
theorem T_235 : T 235 = ty235 := by kernel_rfl
theorem T_236 : T 236 = ty236 := by kernel_rfl
theorem T_237 : T 237 = ty237 := by kernel_rfl
theorem T_238 : T 238 = ty238 := by kernel_rfl
theorem T_239 : T 239 = ty239 := by kernel_rfl
attribute [go_sem] T_1 ty1 T_2 ty2 T_3 ty3 T_4 ty4 T_5 ty5 T_6 ty6 T_7 ty7 T_8 ty8 T_9 ty9 T_10 ty10 T_11 ty11 T_12 ty12 T_13 ty13 T_14 ty14 T_15 ty15 T_16 ty16 T_17 ty17 T_18 ty18 T_19 ty19 T_21 ty21 T_22 ty22 T_23 ty23 T_24 ty24 T_25 ty25 T_26 ty26 T_27 ty27 T_28 ty28 T_30 ty30 T_31 ty31 T_32 ty32 T_33 ty33 T_34 ty34 T_35 ty35 T_37 ty37 T_38 ty38 T_39 ty39 T_40 ty40 T_41 ty41 T_42 ty42 T_43 ty43 T_44 ty44 T_46 ty46 T_47 ty47 T_48 ty48 T_50 ty50 T_51 ty51 T_52 ty52 T_53 ty53 T_54 ty54 T_55 ty55 T_56 ty56 T_57 ty57 T_59 ty59 T_60 ty60 T_62 ty62 T_63 ty63 T_64 ty64 T_65 ty65 T_67 ty67 T_68 ty68 T_70 ty70 T_72 ty72 T_73 ty73 T_74 ty74 T_76 ty76 T_77 ty77 T_78 ty78 T_79 ty79 T_80 ty80 T_81 ty81 T_83 ty83 T_84 ty84 T_85 ty85 T_86 ty86 T_87 ty87 T_88 ty88 T_89 ty89 T_91 ty91 T_92 ty92 T_93 ty93 T_94 ty94 T_95 ty95 T_96 ty96 T_97 ty97 T_98 ty98 T_99 ty99 T_100 ty100 T_101 ty101 T_103 ty103 T_104 ty104 T_105 ty105 T_106 ty106 T_107 ty107 T_108 ty108 T_109 ty109 T_110 ty110 T_111 ty111 T_112 ty112 T_113 ty113 T_114 ty114 T_115 ty115 T_116 ty116 T_117 ty117 T_118 ty118 T_119 ty119 T_120 ty120 T_121 ty121 T_122 ty122 T_123 ty123 T_125 ty125 T_126 ty126 T_128 ty128 T_129 ty129 T_130 ty130 T_131 ty131 T_132 ty132 T_133 ty133 T_134 ty134 T_135 ty135 T_136 ty136 T_137 ty137 T_138 ty138 T_139 ty139 T_140 ty140 T_141 ty141 T_142 ty142 T_143 ty143 T_144 ty144 T_145 ty145 T_146 ty146 T_147 ty147 T_148 ty148 T_149 ty149 T_150 ty150 T_151 ty151 T_152 ty152 T_153 ty153 T_155 ty155 T_156 ty156 T_157 ty157 T_158 ty158 T_159 ty159 T_160 ty160 T_161 ty161 T_162 ty162 T_163 ty163 T_164 ty164 T_165 ty165 T_166 ty166 T_167 ty167 T_169 ty169 T_170 ty170 T_171 ty171 T_172 ty172 T_173 ty173 T_174 ty174 T_175 ty175 T_176 ty176 T_177 ty177 T_178 ty178 T_179 ty179 T_180 ty180 T_181 ty181 T_182 ty182 T_183 ty183 T_184 ty184 T_185 ty185 T_186 ty186 T_187 ty187 T_188 ty188 T_189 ty189 T_190 ty190 T_191 ty191 T_192 ty192 T_193 ty193 T_194 ty194 T_195 ty195 T_196 ty196 T_197 ty197 T_198 ty198 T_199 ty199 T_200 ty200 T_201 ty201 T_203 ty203 T_204 ty204 T_205 ty205 T_206 ty206 T_207 ty207 T_208 ty208 T_209 ty209 T_211 ty211 T_212 ty212 T_214 ty214 T_215 ty215 T_216 ty216 T_217 ty217 T_218 ty218 T_219 ty219 T_220 ty220 T_221 ty221 T_222 ty222 T_224 ty224 T_225 ty225 T_226 ty226 T_227 ty227 T_231 ty231 T_232 ty232 T_233 ty233 T_234 ty234 T_235 ty235 T_236 ty236 T_237 ty237 T_238 ty238 T_239 ty239
theorem mixed : Tryd.prog.follows .mixedOrders = true := by kernel_rfl
end Go.Proofs.YtmpfhalheaeibaaDoor
