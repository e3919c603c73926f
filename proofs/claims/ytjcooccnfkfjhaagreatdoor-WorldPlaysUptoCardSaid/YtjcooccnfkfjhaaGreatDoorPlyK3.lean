/- What the law leans on. No condition. -/
import Derived.Test.YtjcooccnfkfjhaaGreatDoorChecked
import Derived.Lib.Strings
import Derived.Lib.Slices
import Derived.Lib.Walk
import Derived.Lib.Bytealg
import Derived.Sort.Walk0
import Derived.RangeFuncNested
import Derived.RangeFuncBound
import Derived.RangeFuncCalls
import Derived.RangeFuncLeaves
import Derived.Shelf.Abstract
import Derived.Shelf.RegionOpen
import Derived.WalkKit
import Derived.OwnWalkIn
import Derived.TacticsInMore
import Derived.LoopNIn
import Derived.LoopIn
import Derived.Laws.BitsAllLaws
import Derived.Laws.BitsLemmas
import Derived.IntWalk
import Derived.Lib.IndexLaws
import Derived.Lib.ItoaNum
import Derived.Test.YtjcooccnfkfjhaaGreatDoorPlyK2
namespace Go.Proofs.YtjcooccnfkfjhaaGreatDoor
set_option maxHeartbeats 4000000
set_option linter.unusedVariables false
set_option maxRecDepth 100000
set_option linter.unusedSimpArgs false
open Go Go.RowKit Tryz
def ty1:TI:={ size:=1,bytes:=8,zero:=[.sc .nilFunc],kind:=.func }
def ty2:TI:={ size:=1,bytes:=8,zero:=[.int .i64 0],kind:=.int .i64 }
def ty3:TI:={ size:=1,bytes:=8,zero:=[.int .i64 0],kind:=.int .i64 }
def ty4:TI:={ size:=1,bytes:=1,zero:=[.bool false],kind:=.bool }
def ty5:TI:={ size:=1,bytes:=1,zero:=[.int .u8 0],kind:=.int .u8 }
def ty6:TI:={ size:=1,bytes:=1,zero:=[.int .u8 0],kind:=.int .u8 }
def ty7:TI:={ size:=4,bytes:=24,zero:=[.int .i64 0,.int .i64 0,.bool false,.int .u8 0],kind:=.struct [(0,1,2),(1,1,3),(2,1,4),(3,1,6)] }
def ty9:TI:={ size:=1,bytes:=16,zero:=[.str []],kind:=.str }
def Po:TI:={ size:=1,bytes:=4,zero:=[.int .i32 0],kind:=.int .i32 }
def Jv:TI:={ size:=1,bytes:=24,zero:=[.sc (.slice none 0 0)],kind:=.slice 30 }
def Pl:TI:={ size:=1,bytes:=8,zero:=[.int .i64 0],kind:=.int .i64 }
def Nf:TI:={ size:=6,bytes:=64,zero:=[.int .i64 0,.int .i64 0,.str [],.str [],.int .i64 0,.int .i64 0],kind:=.struct [(0,1,3),(1,1,3),(2,1,9),(3,1,9),(4,1,3),(5,1,3)],cmp:=[.int .i64,.int .i64,.str,.str,.int .i64,.int .i64] }
def G6:TI:={ size:=13,bytes:=120,zero:=[.int .i64 0,.int .i64 0,.int .i64 0,.int .i64 0,.int .i64 0,.str [],.str [],.int .i64 0,.int .i64 0,.int .i64 0,.int .i64 0,.int .i64 0,.bool false],kind:=.struct [(0,1,3),(1,1,3),(2,1,3),(3,6,28),(9,1,3),(10,1,3),(11,1,3),(12,1,4)],cmp:=[.int .i64,.int .i64,.int .i64,.int .i64,.int .i64,.str,.str,.int .i64,.int .i64,.int .i64,.int .i64,.int .i64,.bool] }
def OY:TI:={ size:=1,bytes:=8,zero:=[.sc (.pointer none)],kind:=.pointer 64 }
def PE:TI:={ size:=7,bytes:=56,zero:=[.int .i64 0,.int .i64 0,.int .i64 0,.int .i64 0,.int .i64 0,.int .i64 0,.int .i64 0],kind:=.struct [(0,1,3),(1,1,3),(2,1,3),(3,1,3),(4,1,3),(5,1,3),(6,1,3)],cmp:=[.int .i64,.int .i64,.int .i64,.int .i64,.int .i64,.int .i64,.int .i64] }
def OA:TI:={ size:=1,bytes:=24,zero:=[.sc (.slice none 0 0)],kind:=.slice 100 }
def O1:TI:={ size:=12,bytes:=128,zero:=[.int .i64 0,.int .i64 0,.str [],.str [],.int .i64 0,.int .i64 0,.int .i64 0,.int .i64 0,.int .i64 0,.int .i64 0,.int .i64 0,.sc (.slice none 0 0)],kind:=.struct [(0,1,24),(1,1,3),(2,1,9),(3,1,9),(4,7,35),(11,1,36)] }
def PJ:TI:={ size:=1,bytes:=8,zero:=[.sc (.pointer none)],kind:=.pointer 116 }
def Ng:TI:={ size:=1,bytes:=24,zero:=[.sc (.slice none 0 0)],kind:=.slice 102 }
def Pe:TI:={ size:=1,bytes:=24,zero:=[.sc (.slice none 0 0)],kind:=.struct [(0,1,44)] }
def Pf:TI:={ size:=1,bytes:=24,zero:=[.sc (.slice none 0 0)],kind:=.slice 80 }
def PT:TI:={ size:=4,bytes:=48,zero:=[.int .i64 0,.int .i64 0,.sc (.slice none 0 0),.int .i64 0],kind:=.struct [(0,1,3),(1,1,3),(2,1,47),(3,1,3)] }
def Nk:TI:={ size:=1,bytes:=24,zero:=[.sc (.slice none 0 0)],kind:=.slice 93 }
def Mq:TI:={ size:=1,bytes:=24,zero:=[.sc (.slice none 0 0)],kind:=.slice 3 }
def Pn:TI:={ size:=3,bytes:=56,zero:=[.int .i64 0,.sc (.slice none 0 0),.sc (.slice none 0 0)],kind:=.struct [(0,1,3),(1,1,50),(2,1,51)] }
def Pg:TI:={ size:=1,bytes:=24,zero:=[.sc (.slice none 0 0)],kind:=.slice 104 }
def Oz:TI:={ size:=10,bytes:=160,zero:=[.bool false,.sc (.slice none 0 0),.int .i64 0,.int .i64 0,.sc (.slice none 0 0),.int .i64 0,.int .i64 0,.sc (.slice none 0 0),.sc (.slice none 0 0),.sc (.slice none 0 0)],kind:=.struct [(0,1,4),(1,1,46),(2,4,49),(6,3,53),(9,1,54)] }
def PN:TI:={ size:=30,bytes:=480,zero:=[.bool false,.sc (.slice none 0 0),.int .i64 0,.int .i64 0,.sc (.slice none 0 0),.int .i64 0,.int .i64 0,.sc (.slice none 0 0),.sc (.slice none 0 0),.sc (.slice none 0 0),.bool false,.sc (.slice none 0 0),.int .i64 0,.int .i64 0,.sc (.slice none 0 0),.int .i64 0,.int .i64 0,.sc (.slice none 0 0),.sc (.slice none 0 0),.sc (.slice none 0 0),.bool false,.sc (.slice none 0 0),.int .i64 0,.int .i64 0,.sc (.slice none 0 0),.int .i64 0,.int .i64 0,.sc (.slice none 0 0),.sc (.slice none 0 0),.sc (.slice none 0 0)],kind:=.array 3 56 }
def NV:TI:={ size:=1,bytes:=24,zero:=[.sc (.slice none 0 0)],kind:=.slice 107 }
def OW:TI:={ size:=3,bytes:=40,zero:=[.int .i64 0,.int .i64 0,.sc (.slice none 0 0)],kind:=.struct [(0,1,3),(1,1,3),(2,1,58)] }
def Pd:TI:={ size:=48,bytes:=640,zero:=[.int .i64 0,.int .i64 0,.sc (.slice none 0 0),.int .i64 0,.int .i64 0,.sc (.slice none 0 0),.int .i64 0,.int .i64 0,.sc (.slice none 0 0),.int .i64 0,.int .i64 0,.sc (.slice none 0 0),.int .i64 0,.int .i64 0,.sc (.slice none 0 0),.int .i64 0,.int .i64 0,.sc (.slice none 0 0),.int .i64 0,.int .i64 0,.sc (.slice none 0 0),.int .i64 0,.int .i64 0,.sc (.slice none 0 0),.int .i64 0,.int .i64 0,.sc (.slice none 0 0),.int .i64 0,.int .i64 0,.sc (.slice none 0 0),.int .i64 0,.int .i64 0,.sc (.slice none 0 0),.int .i64 0,.int .i64 0,.sc (.slice none 0 0),.int .i64 0,.int .i64 0,.sc (.slice none 0 0),.int .i64 0,.int .i64 0,.sc (.slice none 0 0),.int .i64 0,.int .i64 0,.sc (.slice none 0 0),.int .i64 0,.int .i64 0,.sc (.slice none 0 0)],kind:=.array 16 60 }
def Px:TI:={ size:=3,bytes:=3,zero:=[.bool false,.bool false,.bool false],kind:=.array 3 4 }
def OK:TI:={ size:=84,bytes:=1168,zero:=[.bool false,.sc (.slice none 0 0),.int .i64 0,.int .i64 0,.sc (.slice none 0 0),.int .i64 0,.int .i64 0,.sc (.slice none 0 0),.sc (.slice none 0 0),.sc (.slice none 0 0),.bool false,.sc (.slice none 0 0),.int .i64 0,.int .i64 0,.sc (.slice none 0 0),.int .i64 0,.int .i64 0,.sc (.slice none 0 0),.sc (.slice none 0 0),.sc (.slice none 0 0),.bool false,.sc (.slice none 0 0),.int .i64 0,.int .i64 0,.sc (.slice none 0 0),.int .i64 0,.int .i64 0,.sc (.slice none 0 0),.sc (.slice none 0 0),.sc (.slice none 0 0),.int .i64 0,.int .i64 0,.sc (.slice none 0 0),.int .i64 0,.int .i64 0,.sc (.slice none 0 0),.int .i64 0,.int .i64 0,.sc (.slice none 0 0),.int .i64 0,.int .i64 0,.sc (.slice none 0 0),.int .i64 0,.int .i64 0,.sc (.slice none 0 0),.int .i64 0,.int .i64 0,.sc (.slice none 0 0),.int .i64 0,.int .i64 0,.sc (.slice none 0 0),.int .i64 0,.int .i64 0,.sc (.slice none 0 0),.int .i64 0,.int .i64 0,.sc (.slice none 0 0),.int .i64 0,.int .i64 0,.sc (.slice none 0 0),.int .i64 0,.int .i64 0,.sc (.slice none 0 0),.int .i64 0,.int .i64 0,.sc (.slice none 0 0),.int .i64 0,.int .i64 0,.sc (.slice none 0 0),.int .i64 0,.int .i64 0,.sc (.slice none 0 0),.int .i64 0,.int .i64 0,.sc (.slice none 0 0),.int .i64 0,.int .i64 0,.sc (.slice none 0 0),.int .i64 0,.bool false,.bool false,.bool false,.sc (.slice none 0 0),.int .i64 0],kind:=.struct [(0,30,57),(30,48,61),(78,1,3),(79,3,62),(82,1,47),(83,1,3)] }
def PS:TI:={ size:=7,bytes:=72,zero:=[.int .i64 0,.int .i64 0,.int .i64 0,.str [],.str [],.int .i64 0,.int .i64 0],kind:=.struct [(0,1,3),(1,1,3),(2,1,3),(3,1,9),(4,1,9),(5,1,3),(6,1,3)],cmp:=[.int .i64,.int .i64,.int .i64,.str,.str,.int .i64,.int .i64] }
def PY:TI:={ size:=1,bytes:=24,zero:=[.sc (.slice none 0 0)],kind:=.slice 98 }
def NH:TI:={ size:=9,bytes:=88,zero:=[.str [],.str [],.int .i64 0,.int .i64 0,.int .i64 0,.int .i64 0,.int .i64 0,.int .i64 0,.int .i64 0],kind:=.struct [(0,1,9),(1,1,9),(2,7,35)],cmp:=[.str,.str,.int .i64,.int .i64,.int .i64,.int .i64,.int .i64,.int .i64,.int .i64] }
def ON:TI:={ size:=2,bytes:=24,zero:=[.int .i64 0,.str []],kind:=.struct [(0,1,3),(1,1,9)],cmp:=[.int .i64,.str] }
def Ll:TI:={ size:=3,bytes:=32,zero:=[.int .i64 0,.int .i64 0,.str []],kind:=.struct [(0,1,3),(1,2,98)],cmp:=[.int .i64,.int .i64,.str] }
def E9:TI:={ size:=3,bytes:=48,zero:=[.str [],.str [],.str []],kind:=.struct [(0,1,9),(1,1,9),(2,1,9)],cmp:=[.str,.str,.str] }
def Lm:TI:={ size:=3,bytes:=32,zero:=[.int .i64 0,.int .i64 0,.str []],kind:=.struct [(0,1,3),(1,1,3),(2,1,9)],cmp:=[.int .i64,.int .i64,.str] }
def Fc:TI:={ size:=3,bytes:=40,zero:=[.str [],.str [],.bool false],kind:=.struct [(0,1,9),(1,1,9),(2,1,4)],cmp:=[.str,.str,.bool] }
def L7:TI:={ size:=1,bytes:=8,zero:=[.sc .nilFunc],kind:=.func }
def JW:TI:={ size:=84,bytes:=1168,zero:=[.bool false,.sc (.slice none 0 0),.int .i64 0,.int .i64 0,.sc (.slice none 0 0),.int .i64 0,.int .i64 0,.sc (.slice none 0 0),.sc (.slice none 0 0),.sc (.slice none 0 0),.bool false,.sc (.slice none 0 0),.int .i64 0,.int .i64 0,.sc (.slice none 0 0),.int .i64 0,.int .i64 0,.sc (.slice none 0 0),.sc (.slice none 0 0),.sc (.slice none 0 0),.bool false,.sc (.slice none 0 0),.int .i64 0,.int .i64 0,.sc (.slice none 0 0),.int .i64 0,.int .i64 0,.sc (.slice none 0 0),.sc (.slice none 0 0),.sc (.slice none 0 0),.int .i64 0,.int .i64 0,.sc (.slice none 0 0),.int .i64 0,.int .i64 0,.sc (.slice none 0 0),.int .i64 0,.int .i64 0,.sc (.slice none 0 0),.int .i64 0,.int .i64 0,.sc (.slice none 0 0),.int .i64 0,.int .i64 0,.sc (.slice none 0 0),.int .i64 0,.int .i64 0,.sc (.slice none 0 0),.int .i64 0,.int .i64 0,.sc (.slice none 0 0),.int .i64 0,.int .i64 0,.sc (.slice none 0 0),.int .i64 0,.int .i64 0,.sc (.slice none 0 0),.int .i64 0,.int .i64 0,.sc (.slice none 0 0),.int .i64 0,.int .i64 0,.sc (.slice none 0 0),.int .i64 0,.int .i64 0,.sc (.slice none 0 0),.int .i64 0,.int .i64 0,.sc (.slice none 0 0),.int .i64 0,.int .i64 0,.sc (.slice none 0 0),.int .i64 0,.int .i64 0,.sc (.slice none 0 0),.int .i64 0,.int .i64 0,.sc (.slice none 0 0),.int .i64 0,.bool false,.bool false,.bool false,.sc (.slice none 0 0),.int .i64 0],kind:=.struct [(0,30,57),(30,48,61),(78,1,3),(79,3,62),(82,1,47),(83,1,3)] }
def HF:TI:={ size:=1,bytes:=8,zero:=[.sc (.pointer none)],kind:=.pointer 131 }
def Jh:TI:={ size:=4,bytes:=80,zero:=[.int .i64 0,.sc (.slice none 0 0),.sc (.slice none 0 0),.sc (.slice none 0 0)],kind:=.struct [(0,3,53),(3,1,81)] }
def LL:TI:={ size:=1,bytes:=8,zero:=[.sc .nilFunc],kind:=.func }
def HS:TI:={ size:=1,bytes:=8,zero:=[.sc .nilFunc],kind:=.func }
def Ly:TI:={ size:=1,bytes:=8,zero:=[.sc (.map none)],kind:=.map 9 3 }
def Iy:TI:={ size:=1,bytes:=8,zero:=[.sc .nilFunc],kind:=.func }
def IE:TI:={ size:=1,bytes:=24,zero:=[.sc (.slice none 0 0)],kind:=.slice 49 }
def Lr:TI:={ size:=1,bytes:=8,zero:=[.int .u64 0],kind:=.int .u64 }
def Jo:TI:={ size:=1,bytes:=8,zero:=[.sc (.pointer none)],kind:=.pointer 56 }
def LW:TI:={ size:=1,bytes:=8,zero:=[.sc .nilFunc],kind:=.func }
def IB:TI:={ size:=1,bytes:=8,zero:=[.sc .nilFunc],kind:=.func }
def HZ:TI:={ size:=1,bytes:=8,zero:=[.sc .nilFunc],kind:=.func }
def Jg:TI:={ size:=1,bytes:=8,zero:=[.sc (.pointer none)],kind:=.pointer 102 }
def JA:TI:={ size:=1,bytes:=8,zero:=[.sc .nilFunc],kind:=.func }
def Km:TI:={ size:=1,bytes:=8,zero:=[.sc (.pointer none)],kind:=.pointer 80 }
def HT:TI:={ size:=1,bytes:=8,zero:=[.sc (.pointer none)],kind:=.pointer 35 }
def Kd:TI:={ size:=1,bytes:=8,zero:=[.sc .nilFunc],kind:=.func }
def Iq:TI:={ size:=1,bytes:=8,zero:=[.sc (.pointer none)],kind:=.pointer 236 }
def Ki:TI:={ size:=2,bytes:=24,zero:=[.str [],.bool false],kind:=.struct [(0,1,9),(1,1,4)],cmp:=[.str,.bool] }
def JJ:TI:={ size:=1,bytes:=24,zero:=[.sc (.slice none 0 0)],kind:=.slice 5 }
def LE:TI:={ size:=1,bytes:=8,zero:=[.sc .nilFunc],kind:=.func }
def I3:TI:={ size:=2,bytes:=16,zero:=[.int .i64 0,.int .i64 0],kind:=.array 2 3 }
def J3:TI:={ size:=1,bytes:=24,zero:=[.sc (.slice none 0 0)],kind:=.slice 9 }
def Kq:TI:={ size:=1,bytes:=8,zero:=[.sc .nilFunc],kind:=.func }
def IG:TI:={ size:=1,bytes:=8,zero:=[.sc .nilFunc],kind:=.func }
def KZ:TI:={ size:=1,bytes:=8,zero:=[.sc (.pointer none)],kind:=.pointer 93 }
def Lo:TI:={ size:=1,bytes:=8,zero:=[.sc .nilFunc],kind:=.func }
def Kh:TI:={ size:=1,bytes:=8,zero:=[.sc .nilFunc],kind:=.func }
def L4:TI:={ size:=1,bytes:=4,zero:=[.int .u32 0],kind:=.int .u32 }
def Iz:TI:={ size:=32,bytes:=256,zero:=[.int .i64 0,.int .i64 0,.int .i64 0,.int .i64 0,.int .i64 0,.int .i64 0,.int .i64 0,.int .i64 0,.int .i64 0,.int .i64 0,.int .i64 0,.int .i64 0,.int .i64 0,.int .i64 0,.int .i64 0,.int .i64 0,.int .i64 0,.int .i64 0,.int .i64 0,.int .i64 0,.int .i64 0,.int .i64 0,.int .i64 0,.int .i64 0,.int .i64 0,.int .i64 0,.int .i64 0,.int .i64 0,.int .i64 0,.int .i64 0,.int .i64 0,.int .i64 0],kind:=.array 32 3 }
def Li:TI:={ size:=24,bytes:=24,zero:=[.int .u8 0,.int .u8 0,.int .u8 0,.int .u8 0,.int .u8 0,.int .u8 0,.int .u8 0,.int .u8 0,.int .u8 0,.int .u8 0,.int .u8 0,.int .u8 0,.int .u8 0,.int .u8 0,.int .u8 0,.int .u8 0,.int .u8 0,.int .u8 0,.int .u8 0,.int .u8 0,.int .u8 0,.int .u8 0,.int .u8 0,.int .u8 0],kind:=.array 24 5 }
def Kr:TI:={ size:=1,bytes:=8,zero:=[.int .u64 0],kind:=.int .u64 }
def Jt:TI:={ size:=20,bytes:=160,zero:=[.int .u64 0,.int .u64 0,.int .u64 0,.int .u64 0,.int .u64 0,.int .u64 0,.int .u64 0,.int .u64 0,.int .u64 0,.int .u64 0,.int .u64 0,.int .u64 0,.int .u64 0,.int .u64 0,.int .u64 0,.int .u64 0,.int .u64 0,.int .u64 0,.int .u64 0,.int .u64 0],kind:=.array 20 285 }
def IQ:TI:={ size:=65,bytes:=65,zero:=[.int .u8 0,.int .u8 0,.int .u8 0,.int .u8 0,.int .u8 0,.int .u8 0,.int .u8 0,.int .u8 0,.int .u8 0,.int .u8 0,.int .u8 0,.int .u8 0,.int .u8 0,.int .u8 0,.int .u8 0,.int .u8 0,.int .u8 0,.int .u8 0,.int .u8 0,.int .u8 0,.int .u8 0,.int .u8 0,.int .u8 0,.int .u8 0,.int .u8 0,.int .u8 0,.int .u8 0,.int .u8 0,.int .u8 0,.int .u8 0,.int .u8 0,.int .u8 0,.int .u8 0,.int .u8 0,.int .u8 0,.int .u8 0,.int .u8 0,.int .u8 0,.int .u8 0,.int .u8 0,.int .u8 0,.int .u8 0,.int .u8 0,.int .u8 0,.int .u8 0,.int .u8 0,.int .u8 0,.int .u8 0,.int .u8 0,.int .u8 0,.int .u8 0,.int .u8 0,.int .u8 0,.int .u8 0,.int .u8 0,.int .u8 0,.int .u8 0,.int .u8 0,.int .u8 0,.int .u8 0,.int .u8 0,.int .u8 0,.int .u8 0,.int .u8 0,.int .u8 0],kind:=.array 65 5 }
def Ko:TI:={ size:=32,bytes:=32,zero:=[.int .u8 0,.int .u8 0,.int .u8 0,.int .u8 0,.int .u8 0,.int .u8 0,.int .u8 0,.int .u8 0,.int .u8 0,.int .u8 0,.int .u8 0,.int .u8 0,.int .u8 0,.int .u8 0,.int .u8 0,.int .u8 0,.int .u8 0,.int .u8 0,.int .u8 0,.int .u8 0,.int .u8 0,.int .u8 0,.int .u8 0,.int .u8 0,.int .u8 0,.int .u8 0,.int .u8 0,.int .u8 0,.int .u8 0,.int .u8 0,.int .u8 0,.int .u8 0],kind:=.array 32 5 }
def I9:TI:={ size:=64,bytes:=64,zero:=[.int .u8 0,.int .u8 0,.int .u8 0,.int .u8 0,.int .u8 0,.int .u8 0,.int .u8 0,.int .u8 0,.int .u8 0,.int .u8 0,.int .u8 0,.int .u8 0,.int .u8 0,.int .u8 0,.int .u8 0,.int .u8 0,.int .u8 0,.int .u8 0,.int .u8 0,.int .u8 0,.int .u8 0,.int .u8 0,.int .u8 0,.int .u8 0,.int .u8 0,.int .u8 0,.int .u8 0,.int .u8 0,.int .u8 0,.int .u8 0,.int .u8 0,.int .u8 0,.int .u8 0,.int .u8 0,.int .u8 0,.int .u8 0,.int .u8 0,.int .u8 0,.int .u8 0,.int .u8 0,.int .u8 0,.int .u8 0,.int .u8 0,.int .u8 0,.int .u8 0,.int .u8 0,.int .u8 0,.int .u8 0,.int .u8 0,.int .u8 0,.int .u8 0,.int .u8 0,.int .u8 0,.int .u8 0,.int .u8 0,.int .u8 0,.int .u8 0,.int .u8 0,.int .u8 0,.int .u8 0,.int .u8 0,.int .u8 0,.int .u8 0,.int .u8 0],kind:=.array 64 5 }
def tyL:List (Nat×TI):=[(1,ty1),(2,ty2),(3,ty3),(4,ty4),(5,ty5),(6,ty6),(7,ty7),(9,ty9),(21,Po),(22,Jv),(24,Pl),(28,Nf),(30,G6),(31,OY),(35,PE),(36,OA),(38,O1),(41,PJ),(44,Ng),(46,Pe),(47,Pf),(49,PT),(50,Nk),(51,Mq),(53,Pn),(54,Pg),(56,Oz),(57,PN),(58,NV),(60,OW),(61,Pd),(62,Px),(64,OK),(80,PS),(81,PY),(93,NH),(98,ON),(100,Ll),(102,E9),(104,Lm),(107,Fc),(112,L7),(116,JW),(128,HF),(131,Jh),(135,LL),(139,HS),(141,Ly),(142,Iy),(157,IE),(172,Lr),(174,Jo),(180,LW),(188,IB),(192,HZ),(198,Jg),(202,JA),(220,Km),(225,HT),(230,Kd),(234,Iq),(236,Ki),(239,JJ),(242,LE),(243,I3),(244,J3),(248,Kq),(249,IG),(250,KZ),(256,Lo),(262,Kh),(267,L4),(275,Iz),(284,Li),(285,Kr),(291,Jt),(292,IQ),(295,Ko),(296,I9)]
def T:TypeId→TI:=xz tyL
theorem tyOk:(tyL.all fun p=>sP prog p.1 p.2)=true:=by kernel_rfl
theorem dn:ap prog T:=BT fun p hp=>S6.1 tyOk p hp
theorem T_1:T 1=ty1:=by kernel_rfl
theorem T_2:T 2=ty2:=by kernel_rfl
theorem T_3:T 3=ty3:=by kernel_rfl
theorem T_4:T 4=ty4:=by kernel_rfl
theorem T_5:T 5=ty5:=by kernel_rfl
theorem T_6:T 6=ty6:=by kernel_rfl
theorem T_7:T 7=ty7:=by kernel_rfl
theorem T_9:T 9=ty9:=by kernel_rfl
theorem T_21:T 21=Po:=by kernel_rfl
theorem PQ:T 22=Jv:=by kernel_rfl
theorem T_24:T 24=Pl:=by kernel_rfl
theorem QT:T 28=Nf:=by kernel_rfl
theorem NB:T 30=G6:=by kernel_rfl
theorem T_31:T 31=OY:=by kernel_rfl
theorem T_35:T 35=PE:=by kernel_rfl
theorem T_36:T 36=OA:=by kernel_rfl
theorem T_38:T 38=O1:=by kernel_rfl
theorem T_41:T 41=PJ:=by kernel_rfl
theorem QV:T 44=Ng:=by kernel_rfl
theorem T_46:T 46=Pe:=by kernel_rfl
theorem T_47:T 47=Pf:=by kernel_rfl
theorem T_49:T 49=PT:=by kernel_rfl
theorem QI:T 50=Nk:=by kernel_rfl
theorem QC:T 51=Mq:=by kernel_rfl
theorem T_53:T 53=Pn:=by kernel_rfl
theorem T_54:T 54=Pg:=by kernel_rfl
theorem T_56:T 56=Oz:=by kernel_rfl
theorem T_57:T 57=PN:=by kernel_rfl
theorem QG:T 58=NV:=by kernel_rfl
theorem T_60:T 60=OW:=by kernel_rfl
theorem T_61:T 61=Pd:=by kernel_rfl
theorem T_62:T 62=Px:=by kernel_rfl
theorem T_64:T 64=OK:=by kernel_rfl
theorem T_80:T 80=PS:=by kernel_rfl
theorem T_81:T 81=PY:=by kernel_rfl
theorem QL:T 93=NH:=by kernel_rfl
theorem T_98:T 98=ON:=by kernel_rfl
theorem QJ:T 100=Ll:=by kernel_rfl
theorem On:T 102=E9:=by kernel_rfl
theorem P5:T 104=Lm:=by kernel_rfl
theorem Om:T 107=Fc:=by kernel_rfl
theorem RD:T 112=L7:=by kernel_rfl
theorem Rp:T 116=JW:=by kernel_rfl
theorem Qm:T 128=HF:=by kernel_rfl
theorem RA:T 131=Jh:=by kernel_rfl
theorem Q5:T 135=LL:=by kernel_rfl
theorem Ro:T 139=HS:=by kernel_rfl
theorem Rr:T 141=Ly:=by kernel_rfl
theorem Qo:T 142=Iy:=by kernel_rfl
theorem Q2:T 157=IE:=by kernel_rfl
theorem Qe:T 172=Lr:=by kernel_rfl
theorem Ra:T 174=Jo:=by kernel_rfl
theorem Ry:T 180=LW:=by kernel_rfl
theorem PZ:T 188=IB:=by kernel_rfl
theorem Qg:T 192=HZ:=by kernel_rfl
theorem Qf:T 198=Jg:=by kernel_rfl
theorem QY:T 202=JA:=by kernel_rfl
theorem QR:T 220=Km:=by kernel_rfl
theorem Qa:T 225=HT:=by kernel_rfl
theorem P6:T 230=Kd:=by kernel_rfl
theorem Rg:T 234=Iq:=by kernel_rfl
theorem Qp:T 236=Ki:=by kernel_rfl
theorem Qq:T 239=JJ:=by kernel_rfl
theorem Qu:T 242=LE:=by kernel_rfl
theorem QB:T 243=I3:=by kernel_rfl
theorem QZ:T 244=J3:=by kernel_rfl
theorem QA:T 248=Kq:=by kernel_rfl
theorem Rj:T 249=IG:=by kernel_rfl
theorem P2:T 250=KZ:=by kernel_rfl
theorem Rq:T 256=Lo:=by kernel_rfl
theorem QH:T 262=Kh:=by kernel_rfl
theorem QU:T 267=L4:=by kernel_rfl
theorem Ri:T 275=Iz:=by kernel_rfl
theorem Q4:T 284=Li:=by kernel_rfl
theorem Rm:T 285=Kr:=by kernel_rfl
theorem Ru:T 291=Jt:=by kernel_rfl
theorem Qk:T 292=IQ:=by kernel_rfl
theorem Qc:T 295=Ko:=by kernel_rfl
theorem Q3:T 296=I9:=by kernel_rfl
attribute [go_sem] T_1 ty1 T_2 ty2 T_3 ty3 T_4 ty4 T_5 ty5 T_6 ty6 T_7 ty7 T_9 ty9 T_21 Po PQ Jv T_24 Pl QT Nf NB G6 T_31 OY T_35 PE T_36 OA T_38 O1 T_41 PJ QV Ng T_46 Pe T_47 Pf T_49 PT QI Nk QC Mq T_53 Pn T_54 Pg T_56 Oz T_57 PN QG NV T_60 OW T_61 Pd T_62 Px T_64 OK T_80 PS T_81 PY QL NH T_98 ON QJ Ll On E9 P5 Lm Om Fc RD L7 Rp JW Qm HF RA Jh Q5 LL Ro HS Rr Ly Qo Iy Q2 IE Qe Lr Ra Jo Ry LW PZ IB Qg HZ Qf Jg QY JA QR Km Qa HT P6 Kd Rg Iq Qp Ki Qq JJ Qu LE QB I3 QZ J3 QA Kq Rj IG P2 KZ Rq Lo QH Kh QU L4 Ri Iz Q4 Li Rm Kr Ru Jt Qk IQ Qc Ko Q3 I9
theorem mixed:prog.follows .mixedOrders=true:=by kernel_rfl
class AR (G:Prop) (H:outParam Prop):Prop where
 f:H→G
section
variable {P:Program} {s:ASt} {Q:Exit→ASt→Prop} {x y:Code} {N:ASt→Prop} {id i:Nat}
instance:AR (AWP P (.seq x y) s Q) (AWP P x s (ie (fun s'=>AWP P y s' Q) Q)):=⟨AWP.seq⟩
instance:AR (ie N Q .normal s) (N s):=⟨NP⟩
instance:AR (ie N Q .ret s) (Q .ret s):=⟨Nl⟩
instance:AR (ie N Q (.exit i) s) (Q (.exit i) s):=⟨Mn⟩
instance:AR (sC id N Q .normal s) (N s):=⟨PC⟩
instance:AR (sC id N Q .ret s) (Q .ret s):=⟨O2⟩
instance:AR (sC id N Q (.exit id) s) (N s):=⟨Pi⟩
instance:AR (AWP P .skip s Q) (Q .normal s):=⟨AWP.skip⟩
instance:AR (AWP P .ret s Q) (Q .ret s):=⟨AWP.ret⟩
instance:AR (AWP P (.exit i) s Q) (Q (.exit i) s):=⟨AWP.exit⟩
instance:AR (AWP P (.block id x) s Q) (AWP P x s (sC id (Q .normal) Q)):=⟨AWP.block⟩
end
class CK (G:Prop) (P:outParam Program) (hp:outParam (List ABlk)) (g:outParam FuncId) (xs:outParam (List AV)) (x:AV) (H:outParam Prop):Prop where
 sc:∀{ys:List AV} {u0:Value},ab P [] g ys (ret x)→dh hp xs=ys→bv x=some u0→ch hp xs→cF ys→H→G
 cx:∀{ys:List AV} {u0:Value},ab P [] g ys (ret x)→bv x=some u0→gD (dh hp xs) ys∧ch hp xs∧cF (dh hp xs)→H→G
section
variable {P:Program} {hp:List ABlk} {g:FuncId} {xs:List AV} {x:AV} {np:Nat}
instance {K:AV→List ABlk→Prop} {t:Tok K}:CK (cQ P np hp g xs K t) P hp g xs x (K x hp):=⟨fun c a b d e h=>acallH_sc c a b d e h,fun c a b h=>Co c a b h⟩
instance {K:AV→Prop} {t:Tok K}:CK (nH P hp g xs K t) P hp g xs x (K x):=⟨fun c a b d e h=>acallQ_sc c a b d e h,fun c a b h=>Dr c a b h⟩
end
section
variable {G H:Prop} {P:Program} {hp:List ABlk} {g:FuncId} {xs ys:List AV} {x:AV} {u0:Value}
theorem zA(c:ab P [] g ys (ret x))[k:CK G P hp g xs x H](a:dh hp xs=ys)(b:(bv x).isSome=true)(d:ch hp xs)(e:cF ys)(h:H):G:=by obtain⟨u,hu⟩:=U9.1 b;exact k.sc c a hu d e h
theorem zX(c:ab P [] g ys (ret x))[k:CK G P hp g xs x H](b:bv x=some u0)(d:gD (dh hp xs) ys∧ch hp xs∧cF (dh hp xs))(h:H):G:=k.cx c b d h
end
section
variable {s:ASt} {Q:Exit→ASt→Prop} {id:Nat} {l:List Oper}
theorem zR(h:∀ K:ASt→Prop,(∀ s',Q .normal s'→K s')→CO prog T l.toArray K l s):AWP prog (.region id l.toArray false) s Q:=AWP.region dn h
theorem zQ(h:∀ K:ASt→Prop,(∀ s',Q .normal s'→K s')→o7 prog T l.toArray K l s)(hB:(MN l.toArray&&Region.lexB .any l.toArray)=true:=by decide +kernel):AWP prog (.region id l.toArray true) s Q:=XH mixed dn hB h
theorem zD(h:∀ K:ASt→Prop,(∀ s',Q .normal s'→K s')→jl prog T l.toArray K l s)(hB:HN l.toArray=true:=by decide +kernel):AWP prog (.region id l.toArray true) s Q:=XQ mixed dn hB h
theorem zE(h:∀ K:ASt→Prop,(∀ s',Q .normal s'→K s')→jl prog T l.toArray K (uq l) s)(hB:drawE l.toArray=true:=by decide +kernel):AWP prog (.region id l.toArray true) s Q:=XM mixed dn hB h
theorem zG(h:∀ K:ASt→Prop,(∀ s',Q .normal s'→K s')→mK prog T l.toArray K (lE l) s)(hB:EI T l.toArray=true:=by decide +kernel):AWP prog (.region id l.toArray true) s Q:=XN mixed dn hB h
theorem zP{ops:Array Oper}(p:XT)(h:∀ K:ASt→Prop,(∀ s',Q .normal s'→K s')→fD prog T ops K p s)(hB:E5 ops p=true:=by decide +kernel):AWP prog (.region id ops true) s Q:=XD p mixed dn hB h
end
theorem zN{P:Program}{g:FuncId}{xs ys:List AV}{x:AV}{hp bl:List ABlk}{np:Nat}{K:AV→List ABlk→Prop}{t:Tok K}(c:ab P [] g ys (fun v h=>v=x∧h=bl))(e:xs=ys)(h:dB xs=[]∧dh hp xs=xs∧ch hp xs∧cF xs)
  (hK:K (renV (bN [] hp.length) x) (hp++d9 (bN [] hp.length) bl)):cQ P np hp g xs K t:=AD c e h hK
class ER (e:Exit):Prop where
 h:e=.ret∨e=.normal
instance:ER .ret:=⟨.inl rfl⟩
instance:ER .normal:=⟨.inr rfl⟩
theorem zF{T:TypeId→TI}{s:ASt}{rs:List ResultVar}{x:AV}{e:Exit}[k:ER e](h0:s.np=0)(h1:(bh T s rs).1)
  (h2:cc s.hp (du (bh T s rs).2)) (h3:cp (bt s.hp (du (bh T s rs).2))) (hR:dM (bt s.hp (du (bh T s rs).2)) x):nV T rs (ret x) e s:=GL k.h h0 h1 h2 h3 hR
theorem zY{P:Program}{g:FuncId}{xs ys:List AV}{x:AV}{hp bl:List ABlk}{np:Nat}{K:AV→List ABlk→Prop}{t:Tok K}(c:ab P [] g ys (fun v h=>v=x∧h=bl))(h:(np=0∨dB xs=[])∧gD (dh hp xs) ys∧ch hp xs∧cF (dh hp xs))
  (hK:K (renV (bN [] (killIds (dB xs) hp).length) x) (killIds (dB xs) hp++d9 (bN [] (killIds (dB xs) hp).length) bl)):cQ P np hp g xs K t:=BB c h hK
theorem zI {g : FuncId} {fn : Func} {c : Code} (hf : prog.funcs[g]? = some fn) (hb : fn.body = some c) (hn : (fn.name == "runtime.NumGoroutine") = false)
  {hp:List ABlk} {xs:List AV} {R:AV→List ABlk→Prop} (hx:xs.length≤fn.ntmps)
  (h:AWP prog c { np:=hp.length,nt:=fn.ntmps,env:=gE 0 xs,hp:=hp } (nV T fn.results.toList R)):ab prog hp g xs R:=cr dn hf hb hn hx h
theorem zV(m:List Nat){np nt:Nat}{env env':List (Nat×AV)}{hp hp':List ABlk}(hl:Nat.beq hp'.length m.length=true)(hm:(m.all fun i=>Nat.blt i hp.length)=true)(hinj:decide m.Nodup=true)(hpre:((List.range np).all fun k=>m[k]?==some k)=true)
  (he:pm (mAt m hp.length) m.length env env') (hh:mT (mAt m hp.length) m.length hp 0 hp') :
  ax { np:=np,nt:=nt,env:=env,hp:=hp } { np:=np,nt:=nt,env:=env',hp:=hp' }:=
 ax.frame m (Nat.eq_of_beq_eq_true hl) (fun i hi=>by have:=S6.1 hm i hi;simpa[Nat.blt_eq] using this) (Uz hinj)
  (fun k hk=>by have:=S6.1 hpre k (Un.2 hk);simpa using this) he hh
theorem zO{T:TypeId→TI}{s:ASt}{e:Exit}{rs:List ResultVar}{R:AV→List ABlk→Prop}[k:ER e](h1:(bh T s rs).1)(h2:af s.np s.hp (du (bh T s rs).2) R):nV T rs R e s:=bK k.h h1 h2
theorem zj:(∀ a b,(AV.d a=AV.d b)=(a=b))∧(∀ k n k' n',(DV.int k n=DV.int k' n')=(k=k'∧n=n'))∧(∀ a b,(DV.bool a=DV.bool b)=(a=b))∧(∀ a b,(DV.str a=DV.str b)=(a=b))∧(∀ k n k' n',(DV.sl k n=DV.sl k' n')=(k=k'∧n=n'))∧
  (∀ a b,(AV.tup a=AV.tup b)=(a=b))∧(∀ a b,(AV.agg a=AV.agg b)=(a=b))∧(∀ a b c d a' b' c' d',(AV.osl a b c d=AV.osl a' b' c' d')=(a=a'∧b=b'∧c=c'∧d=d'))∧(∀ a b a' b',(AV.ptr a b=AV.ptr a' b')=(a=a'∧b=b'))∧
  (∀ a b c d a' b' c' d',(AV.rp a b c d=AV.rp a' b' c' d')=(a=a'∧b=b'∧c=c'∧d=d'))∧(∀(a b:AV) l m,(a::l=b::m)=(a=b∧l=m))∧(∀(a b:DV) l m,(a::l=b::m)=(a=b∧l=m))∧(∀(a b:List DV) l m,(a::l=b::m)=(a=b∧l=m))∧(∀ p:Prop,(p∧p)=p):=by simp
def aY(n:Int):List DV:=[.int .i64 n]
def srow(s:List UInt8):List DV:=[.str s]
theorem bO{α:Type}[Inhabited α](f:α→List DV)(l:List α)(i:Nat)(z:List DV)(h:i<l.length):(l.map f).getD i z=f (l.getD i default):=by rw[RG,RG,RS,RH h];rfl
theorem Gz(l:List Int)(i:Nat):(l.map aY).getD i [.int .i64 0]=aY (l.getD i default):=by rw[RG,RG,RS];cases l[i]?<;>rfl
theorem Hj(l:List (List UInt8))(i:Nat):(l.map srow).getD i [.str []]=srow (l.getD i default):=by rw[RG,RG,RS];cases l[i]?<;>rfl
theorem aN{α:Type}[Inhabited α](l:List α)(k:Nat)(h:k<l.length):l.take (k+1)=l.take k++[l.getD k default]:=by rw[UX,RH h,RG,RH h];rfl
theorem aZ{α:Type}[Inhabited α](l:List α)(k:Nat)(h:k<l.length):l.getD k default∈l:=by rw[RG,RH h];exact SD _
theorem ay{α β:Type}(f:α→β)(l:List α):(l.map f).take l.length=l.map f:=RK (by simp)
theorem bs{α:Type}(l:List α)(i:Nat)(x z:α)(h:i<l.length):(l.set i x).getD i z=x:=by rw[RG,TW h];rfl
theorem az{α β:Type}(f:α→β)(l:List α)(i:Nat)(x:α)(z:β)(h:i<l.length):((l.set i x).map f).getD i z=f x:=by rw[UL];exact bs _ _ _ _ (by simpa using h)
theorem bL{α β:Type}(f:α→β)(l:List α)(i:Nat)(x:α):((l.set i x).map f).take l.length=(l.set i x).map f:=RK (by simp)
theorem kW{α β:Type}(f:α→β)(l:List α)(i:Nat)(x:α):(l.map f).insertIdx i (f x)=(l.insertIdx i x).map f:=by
 induction l generalizing i with
 |nil=>cases i<;>rfl
 | cons a l ih=>cases i with
   |zero=>rfl
   |succ i=>simp only[TL,V8];rw[ih]
theorem gU{α:Type}{l:List α}(h:l.length=0):l=[]:=Sf h
structure ATxn where
 zxid:Int
 op:Int
 session:Int
 path:List UInt8
 data:List UInt8
 version:Int
 owner:Int
instance:Inhabited ATxn:=⟨⟨0,0,0,[],[],0,0⟩⟩
theorem ATxn.ext_iff(a b:ATxn):a=b↔a.zxid=b.zxid∧a.op=b.op∧a.session=b.session∧a.path=b.path∧a.data=b.data∧a.version=b.version∧a.owner=b.owner:=by cases a;cases b;simp
instance:DecidableEq ATxn:=fun a b=>decidable_of_iff _ (ATxn.ext_iff a b).symm
def ATxn.row(x:ATxn):List DV:=[.int .i64 x.zxid,.int .i64 x.op,.int .i64 x.session,.str x.path,.str x.data,.int .i64 x.version,.int .i64 x.owner]
def ATxn.av(x:ATxn):AV:=.agg [.d (.int .i64 x.zxid),.d (.int .i64 x.op),.d (.int .i64 x.session),.d (.str x.path),.d (.str x.data),.d (.int .i64 x.version),.d (.int .i64 x.owner)]
theorem ATxn.dec(a b:ATxn):(decide (a.zxid=b.zxid)&&(decide (a.op=b.op)&&(decide (a.session=b.session)&&(decide (a.path=b.path)&&(decide (a.data=b.data)&&(decide (a.version=b.version)&&decide (a.owner=b.owner)))))))=decide (a=b):=by rw[Tv];simp only[RU,RN,ATxn.ext_iff,Wi]
theorem ATxn.getD(l:List ATxn)(i:Nat):(l.map ATxn.row).getD i [.int .i64 0,.int .i64 0,.int .i64 0,.str [],.str [],.int .i64 0,.int .i64 0]=(l.getD i default).row:=by rw[RG,RG,RS];cases l[i]?<;>rfl
theorem ATxn.rgetD(l:List ATxn)(i:Nat)(z:List DV)(h:i<l.length):(l.map ATxn.row).getD i z=(l.getD i default).row:=bO ATxn.row l i z h
theorem ATxn.rsnoc(l:List ATxn)(qzxid:Int)(qop:Int)(qsession:Int)(qpath:List UInt8)(qdata:List UInt8)(qversion:Int)(qowner:Int):l.map ATxn.row++[[.int .i64 qzxid,.int .i64 qop,.int .i64 qsession,.str qpath,.str qdata,.int .i64 qversion,.int .i64 qowner]]=(l++[(⟨qzxid,qop,qsession,qpath,qdata,qversion,qowner⟩:ATxn)]).map ATxn.row:=by rw[Sn];rfl
structure X8 where
 czxid:Int
 mzxid:Int
 pzxid:Int
 version:Int
 cversion:Int
 owner:Int
 kids:Int
instance:Inhabited X8:=⟨⟨0,0,0,0,0,0,0⟩⟩
theorem X8.ext_iff(a b:X8):a=b↔a.czxid=b.czxid∧a.mzxid=b.mzxid∧a.pzxid=b.pzxid∧a.version=b.version∧a.cversion=b.cversion∧a.owner=b.owner∧a.kids=b.kids:=by cases a;cases b;simp
instance:DecidableEq X8:=fun a b=>decidable_of_iff _ (X8.ext_iff a b).symm
def X8.row(x:X8):List DV:=[.int .i64 x.czxid,.int .i64 x.mzxid,.int .i64 x.pzxid,.int .i64 x.version,.int .i64 x.cversion,.int .i64 x.owner,.int .i64 x.kids]
def X8.av(x:X8):AV:=.agg [.d (.int .i64 x.czxid),.d (.int .i64 x.mzxid),.d (.int .i64 x.pzxid),.d (.int .i64 x.version),.d (.int .i64 x.cversion),.d (.int .i64 x.owner),.d (.int .i64 x.kids)]
theorem X8.dec(a b:X8):(decide (a.czxid=b.czxid)&&(decide (a.mzxid=b.mzxid)&&(decide (a.pzxid=b.pzxid)&&(decide (a.version=b.version)&&(decide (a.cversion=b.cversion)&&(decide (a.owner=b.owner)&&decide (a.kids=b.kids)))))))=decide (a=b):=by rw[Tv];simp only[RU,RN,X8.ext_iff,Wi]
structure XU where
 path:List UInt8
 data:List UInt8
 stat:X8
instance:Inhabited XU:=⟨⟨[],[],default⟩⟩
theorem XU.ext_iff(a b:XU):a=b↔a.path=b.path∧a.data=b.data∧a.stat=b.stat:=by cases a;cases b;simp
instance:DecidableEq XU:=fun a b=>decidable_of_iff _ (XU.ext_iff a b).symm
def XU.row(x:XU):List DV:=[.str x.path,.str x.data,.int .i64 x.stat.czxid,.int .i64 x.stat.mzxid,.int .i64 x.stat.pzxid,.int .i64 x.stat.version,.int .i64 x.stat.cversion,.int .i64 x.stat.owner,.int .i64 x.stat.kids]
def XU.av(x:XU):AV:=.agg [.d (.str x.path),.d (.str x.data),.d (.int .i64 x.stat.czxid),.d (.int .i64 x.stat.mzxid),.d (.int .i64 x.stat.pzxid),.d (.int .i64 x.stat.version),.d (.int .i64 x.stat.cversion),.d (.int .i64 x.stat.owner),.d (.int .i64 x.stat.kids)]
theorem XU.getD(l:List XU)(i:Nat):(l.map XU.row).getD i [.str [],.str [],.int .i64 0,.int .i64 0,.int .i64 0,.int .i64 0,.int .i64 0,.int .i64 0,.int .i64 0]=(l.getD i default).row:=by rw[RG,RG,RS];cases l[i]?<;>rfl
theorem XU.rgetD(l:List XU)(i:Nat)(z:List DV)(h:i<l.length):(l.map XU.row).getD i z=(l.getD i default).row:=bO XU.row l i z h
theorem XU.rset(l:List XU)(i:Nat)(qpath:List UInt8)(qdata:List UInt8)(qstat_czxid:Int)(qstat_mzxid:Int)(qstat_pzxid:Int)(qstat_version:Int)(qstat_cversion:Int)(qstat_owner:Int)(qstat_kids:Int):(l.map XU.row).set i [.str qpath,.str qdata,.int .i64 qstat_czxid,.int .i64 qstat_mzxid,.int .i64 qstat_pzxid,.int .i64 qstat_version,.int .i64 qstat_cversion,.int .i64 qstat_owner,.int .i64 qstat_kids]=(l.set i (⟨qpath,qdata,⟨qstat_czxid,qstat_mzxid,qstat_pzxid,qstat_version,qstat_cversion,qstat_owner,qstat_kids⟩⟩:XU)).map XU.row:=by rw[UL];rfl
theorem XU.rins(l:List XU)(i:Nat)(qpath:List UInt8)(qdata:List UInt8)(qstat_czxid:Int)(qstat_mzxid:Int)(qstat_pzxid:Int)(qstat_version:Int)(qstat_cversion:Int)(qstat_owner:Int)(qstat_kids:Int):(l.map XU.row).insertIdx i [.str qpath,.str qdata,.int .i64 qstat_czxid,.int .i64 qstat_mzxid,.int .i64 qstat_pzxid,.int .i64 qstat_version,.int .i64 qstat_cversion,.int .i64 qstat_owner,.int .i64 qstat_kids]=(l.insertIdx i (⟨qpath,qdata,⟨qstat_czxid,qstat_mzxid,qstat_pzxid,qstat_version,qstat_cversion,qstat_owner,qstat_kids⟩⟩:XU)).map XU.row:=kW XU.row l i (⟨qpath,qdata,⟨qstat_czxid,qstat_mzxid,qstat_pzxid,qstat_version,qstat_cversion,qstat_owner,qstat_kids⟩⟩:XU)
theorem XU.rsnoc(l:List XU)(qpath:List UInt8)(qdata:List UInt8)(qstat_czxid:Int)(qstat_mzxid:Int)(qstat_pzxid:Int)(qstat_version:Int)(qstat_cversion:Int)(qstat_owner:Int)(qstat_kids:Int):l.map XU.row++[[.str qpath,.str qdata,.int .i64 qstat_czxid,.int .i64 qstat_mzxid,.int .i64 qstat_pzxid,.int .i64 qstat_version,.int .i64 qstat_cversion,.int .i64 qstat_owner,.int .i64 qstat_kids]]=(l++[(⟨qpath,qdata,⟨qstat_czxid,qstat_mzxid,qstat_pzxid,qstat_version,qstat_cversion,qstat_owner,qstat_kids⟩⟩:XU)]).map XU.row:=by rw[Sn];rfl
structure AFile where
 name:List UInt8
 safe:List UInt8
 tail:List UInt8
instance:Inhabited AFile:=⟨⟨[],[],[]⟩⟩
theorem AFile.ext_iff(a b:AFile):a=b↔a.name=b.name∧a.safe=b.safe∧a.tail=b.tail:=by cases a;cases b;simp
instance:DecidableEq AFile:=fun a b=>decidable_of_iff _ (AFile.ext_iff a b).symm
def AFile.row(x:AFile):List DV:=[.str x.name,.str x.safe,.str x.tail]
def AFile.av(x:AFile):AV:=.agg [.d (.str x.name),.d (.str x.safe),.d (.str x.tail)]
theorem AFile.dec(a b:AFile):(decide (a.name=b.name)&&(decide (a.safe=b.safe)&&decide (a.tail=b.tail)))=decide (a=b):=by rw[Tv];simp only[RU,RN,AFile.ext_iff,Wi]
theorem AFile.getD(l:List AFile)(i:Nat):(l.map AFile.row).getD i [.str [],.str [],.str []]=(l.getD i default).row:=by rw[RG,RG,RS];cases l[i]?<;>rfl
theorem AFile.rgetD(l:List AFile)(i:Nat)(z:List DV)(h:i<l.length):(l.map AFile.row).getD i z=(l.getD i default).row:=bO AFile.row l i z h
theorem AFile.rset(l:List AFile)(i:Nat)(qname:List UInt8)(qsafe:List UInt8)(qtail:List UInt8):(l.map AFile.row).set i [.str qname,.str qsafe,.str qtail]=(l.set i (⟨qname,qsafe,qtail⟩:AFile)).map AFile.row:=by rw[UL];rfl
theorem AFile.rins(l:List AFile)(i:Nat)(qname:List UInt8)(qsafe:List UInt8)(qtail:List UInt8):(l.map AFile.row).insertIdx i [.str qname,.str qsafe,.str qtail]=(l.insertIdx i (⟨qname,qsafe,qtail⟩:AFile)).map AFile.row:=kW AFile.row l i (⟨qname,qsafe,qtail⟩:AFile)
theorem AFile.rdrop(l:List AFile)(k:Nat):List.drop 3 ((l.map AFile.row).getD k [])=[]:=by rw[RG,RS];cases l[k]?<;>rfl
attribute [go_sem] AFile.rdrop
theorem AFile.rsnoc(l:List AFile)(qname:List UInt8)(qsafe:List UInt8)(qtail:List UInt8):l.map AFile.row++[[.str qname,.str qsafe,.str qtail]]=(l++[(⟨qname,qsafe,qtail⟩:AFile)]).map AFile.row:=by rw[Sn];rfl
structure AWatch where
 session:Int
 kind:Int
 path:List UInt8
instance:Inhabited AWatch:=⟨⟨0,0,[]⟩⟩
theorem AWatch.ext_iff(a b:AWatch):a=b↔a.session=b.session∧a.kind=b.kind∧a.path=b.path:=by cases a;cases b;simp
instance:DecidableEq AWatch:=fun a b=>decidable_of_iff _ (AWatch.ext_iff a b).symm
def AWatch.row(x:AWatch):List DV:=[.int .i64 x.session,.int .i64 x.kind,.str x.path]
def AWatch.av(x:AWatch):AV:=.agg [.d (.int .i64 x.session),.d (.int .i64 x.kind),.d (.str x.path)]
theorem AWatch.dec(a b:AWatch):(decide (a.session=b.session)&&(decide (a.kind=b.kind)&&decide (a.path=b.path)))=decide (a=b):=by rw[Tv];simp only[RU,RN,AWatch.ext_iff,Wi]
theorem AWatch.getD(l:List AWatch)(i:Nat):(l.map AWatch.row).getD i [.int .i64 0,.int .i64 0,.str []]=(l.getD i default).row:=by rw[RG,RG,RS];cases l[i]?<;>rfl
theorem AWatch.rgetD(l:List AWatch)(i:Nat)(z:List DV)(h:i<l.length):(l.map AWatch.row).getD i z=(l.getD i default).row:=bO AWatch.row l i z h
theorem AWatch.rdrop(l:List AWatch)(k:Nat):List.drop 3 ((l.map AWatch.row).getD k [])=[]:=by rw[RG,RS];cases l[k]?<;>rfl
attribute [go_sem] AWatch.rdrop
theorem AWatch.rsnoc(l:List AWatch)(qsession:Int)(qkind:Int)(qpath:List UInt8):l.map AWatch.row++[[.int .i64 qsession,.int .i64 qkind,.str qpath]]=(l++[(⟨qsession,qkind,qpath⟩:AWatch)]).map AWatch.row:=by rw[Sn];rfl
structure XZ where
 kind:Int
 path:List UInt8
instance:Inhabited XZ:=⟨⟨0,[]⟩⟩
theorem XZ.ext_iff(a b:XZ):a=b↔a.kind=b.kind∧a.path=b.path:=by cases a;cases b;simp
instance:DecidableEq XZ:=fun a b=>decidable_of_iff _ (XZ.ext_iff a b).symm
def XZ.row(x:XZ):List DV:=[.int .i64 x.kind,.str x.path]
def XZ.av(x:XZ):AV:=.agg [.d (.int .i64 x.kind),.d (.str x.path)]
theorem XZ.dec(a b:XZ):(decide (a.kind=b.kind)&&decide (a.path=b.path))=decide (a=b):=by rw[Tv];simp only[RU,RN,XZ.ext_iff,Wi]
theorem XZ.getD(l:List XZ)(i:Nat):(l.map XZ.row).getD i [.int .i64 0,.str []]=(l.getD i default).row:=by rw[RG,RG,RS];cases l[i]?<;>rfl
theorem XZ.rsnoc(l:List XZ)(qkind:Int)(qpath:List UInt8):l.map XZ.row++[[.int .i64 qkind,.str qpath]]=(l++[(⟨qkind,qpath⟩:XZ)]).map XZ.row:=by rw[Sn];rfl
structure XX where
 session:Int
 event:XZ
instance:Inhabited XX:=⟨⟨0,default⟩⟩
theorem XX.ext_iff(a b:XX):a=b↔a.session=b.session∧a.event=b.event:=by cases a;cases b;simp
instance:DecidableEq XX:=fun a b=>decidable_of_iff _ (XX.ext_iff a b).symm
def XX.row(x:XX):List DV:=[.int .i64 x.session,.int .i64 x.event.kind,.str x.event.path]
def XX.av(x:XX):AV:=.agg [.d (.int .i64 x.session),.d (.int .i64 x.event.kind),.d (.str x.event.path)]
theorem XX.rgetD(l:List XX)(i:Nat)(z:List DV)(h:i<l.length):(l.map XX.row).getD i z=(l.getD i default).row:=bO XX.row l i z h
structure AEntry where
 path:List UInt8
 data:List UInt8
 there:Bool
instance:Inhabited AEntry:=⟨⟨[],[],false⟩⟩
theorem AEntry.ext_iff(a b:AEntry):a=b↔a.path=b.path∧a.data=b.data∧a.there=b.there:=by cases a;cases b;simp
instance:DecidableEq AEntry:=fun a b=>decidable_of_iff _ (AEntry.ext_iff a b).symm
def AEntry.row(x:AEntry):List DV:=[.str x.path,.str x.data,.bool x.there]
def AEntry.av(x:AEntry):AV:=.agg [.d (.str x.path),.d (.str x.data),.d (.bool x.there)]
theorem AEntry.dec(a b:AEntry):(decide (a.path=b.path)&&(decide (a.data=b.data)&&decide (a.there=b.there)))=decide (a=b):=by rw[Tv];simp only[RU,RN,AEntry.ext_iff,Wi]
theorem AEntry.getD(l:List AEntry)(i:Nat):(l.map AEntry.row).getD i [.str [],.str [],.bool false]=(l.getD i default).row:=by rw[RG,RG,RS];cases l[i]?<;>rfl
theorem AEntry.rgetD(l:List AEntry)(i:Nat)(z:List DV)(h:i<l.length):(l.map AEntry.row).getD i z=(l.getD i default).row:=bO AEntry.row l i z h
theorem AEntry.rset(l:List AEntry)(i:Nat)(qpath:List UInt8)(qdata:List UInt8)(qthere:Bool):(l.map AEntry.row).set i [.str qpath,.str qdata,.bool qthere]=(l.set i (⟨qpath,qdata,qthere⟩:AEntry)).map AEntry.row:=by rw[UL];rfl
theorem AEntry.rins(l:List AEntry)(i:Nat)(qpath:List UInt8)(qdata:List UInt8)(qthere:Bool):(l.map AEntry.row).insertIdx i [.str qpath,.str qdata,.bool qthere]=(l.insertIdx i (⟨qpath,qdata,qthere⟩:AEntry)).map AEntry.row:=kW AEntry.row l i (⟨qpath,qdata,qthere⟩:AEntry)
theorem AEntry.rdrop(l:List AEntry)(k:Nat):List.drop 3 ((l.map AEntry.row).getD k [])=[]:=by rw[RG,RS];cases l[k]?<;>rfl
attribute [go_sem] AEntry.rdrop
theorem AEntry.rsnoc(l:List AEntry)(qpath:List UInt8)(qdata:List UInt8)(qthere:Bool):l.map AEntry.row++[[.str qpath,.str qdata,.bool qthere]]=(l++[(⟨qpath,qdata,qthere⟩:AEntry)]).map AEntry.row:=by rw[Sn];rfl
structure XY where
 op:Int
 session:Int
 path:List UInt8
 data:List UInt8
 version:Int
 flags:Int
instance:Inhabited XY:=⟨⟨0,0,[],[],0,0⟩⟩
theorem XY.ext_iff(a b:XY):a=b↔a.op=b.op∧a.session=b.session∧a.path=b.path∧a.data=b.data∧a.version=b.version∧a.flags=b.flags:=by cases a;cases b;simp
instance:DecidableEq XY:=fun a b=>decidable_of_iff _ (XY.ext_iff a b).symm
def XY.row(x:XY):List DV:=[.int .i64 x.op,.int .i64 x.session,.str x.path,.str x.data,.int .i64 x.version,.int .i64 x.flags]
def XY.av(x:XY):AV:=.agg [.d (.int .i64 x.op),.d (.int .i64 x.session),.d (.str x.path),.d (.str x.data),.d (.int .i64 x.version),.d (.int .i64 x.flags)]
structure XW where
 zxid:Int
 nodes:List (XU)
 sessions:List (Int)
instance:Inhabited XW:=⟨⟨0,[],[]⟩⟩
theorem XW.ext_iff(a b:XW):a=b↔a.zxid=b.zxid∧a.nodes=b.nodes∧a.sessions=b.sessions:=by cases a;cases b;simp
instance:DecidableEq XW:=fun a b=>decidable_of_iff _ (XW.ext_iff a b).symm
def XW.row(x:XW):List DV:=[.int .i64 x.zxid,.sl 9 (x.nodes.map XU.row),.sl 1 (x.sessions.map aY)]
def XW.av(x:XW):AV:=.agg [.d (.int .i64 x.zxid),.d (.sl 9 (x.nodes.map XU.row)),.d (.sl 1 (x.sessions.map aY))]
structure X4 where
 files:List (AFile)
instance:Inhabited X4:=⟨⟨[]⟩⟩
theorem X4.ext_iff(a b:X4):a=b↔a.files=b.files:=by cases a;cases b;simp
instance:DecidableEq X4:=fun a b=>decidable_of_iff _ (X4.ext_iff a b).symm
def X4.row(x:X4):List DV:=[.sl 3 (x.files.map AFile.row)]
def X4.av(x:X4):AV:=.agg [.d (.sl 3 (x.files.map AFile.row))]
structure X3 where
 id:Int
 epoch:Int
 log:List (ATxn)
 done:Int
instance:Inhabited X3:=⟨⟨0,0,[],0⟩⟩
theorem X3.ext_iff(a b:X3):a=b↔a.id=b.id∧a.epoch=b.epoch∧a.log=b.log∧a.done=b.done:=by cases a;cases b;simp
instance:DecidableEq X3:=fun a b=>decidable_of_iff _ (X3.ext_iff a b).symm
def X3.row(x:X3):List DV:=[.int .i64 x.id,.int .i64 x.epoch,.sl 7 (x.log.map ATxn.row),.int .i64 x.done]
def X3.av(x:X3):AV:=.agg [.d (.int .i64 x.id),.d (.int .i64 x.epoch),.d (.sl 7 (x.log.map ATxn.row)),.d (.int .i64 x.done)]
theorem X3.rgetD(l:List X3)(i:Nat)(z:List DV)(h:i<l.length):(l.map X3.row).getD i z=(l.getD i default).row:=bO X3.row l i z h
structure XV where
 up:Bool
 disk:X4
 peer:X3
 tree:XW
 watches:List (AWatch)
instance:Inhabited XV:=⟨⟨false,default,default,default,[]⟩⟩
theorem XV.ext_iff(a b:XV):a=b↔a.up=b.up∧a.disk=b.disk∧a.peer=b.peer∧a.tree=b.tree∧a.watches=b.watches:=by cases a;cases b;simp
instance:DecidableEq XV:=fun a b=>decidable_of_iff _ (XV.ext_iff a b).symm
def XV.row(x:XV):List DV:=[.bool x.up,.sl 3 (x.disk.files.map AFile.row),.int .i64 x.peer.id,.int .i64 x.peer.epoch,.sl 7 (x.peer.log.map ATxn.row),.int .i64 x.peer.done,.int .i64 x.tree.zxid,.sl 9 (x.tree.nodes.map XU.row),.sl 1 (x.tree.sessions.map aY),.sl 3 (x.watches.map AWatch.row)]
def XV.av(x:XV):AV:=.agg [.d (.bool x.up),.d (.sl 3 (x.disk.files.map AFile.row)),.d (.int .i64 x.peer.id),.d (.int .i64 x.peer.epoch),.d (.sl 7 (x.peer.log.map ATxn.row)),.d (.int .i64 x.peer.done),.d (.int .i64 x.tree.zxid),.d (.sl 9 (x.tree.nodes.map XU.row)),.d (.sl 1 (x.tree.sessions.map aY)),.d (.sl 3 (x.watches.map AWatch.row))]
structure X0 where
 session:Int
 seen:Int
 cache:List (AEntry)
instance:Inhabited X0:=⟨⟨0,0,[]⟩⟩
theorem X0.ext_iff(a b:X0):a=b↔a.session=b.session∧a.seen=b.seen∧a.cache=b.cache:=by cases a;cases b;simp
instance:DecidableEq X0:=fun a b=>decidable_of_iff _ (X0.ext_iff a b).symm
def X0.row(x:X0):List DV:=[.int .i64 x.session,.int .i64 x.seen,.sl 3 (x.cache.map AEntry.row)]
def X0.av(x:X0):AV:=.agg [.d (.int .i64 x.session),.d (.int .i64 x.seen),.d (.sl 3 (x.cache.map AEntry.row))]
structure X1 where
 kind:Int
 client:Int
 server:Int
 request:XY
 lost:Int
 slow:Int
 keep:Int
 watch:Bool
instance:Inhabited X1:=⟨⟨0,0,0,default,0,0,0,false⟩⟩
theorem X1.ext_iff(a b:X1):a=b↔a.kind=b.kind∧a.client=b.client∧a.server=b.server∧a.request=b.request∧a.lost=b.lost∧a.slow=b.slow∧a.keep=b.keep∧a.watch=b.watch:=by cases a;cases b;simp
instance:DecidableEq X1:=fun a b=>decidable_of_iff _ (X1.ext_iff a b).symm
def X1.row(x:X1):List DV:=[.int .i64 x.kind,.int .i64 x.client,.int .i64 x.server,.int .i64 x.request.op,.int .i64 x.request.session,.str x.request.path,.str x.request.data,.int .i64 x.request.version,.int .i64 x.request.flags,.int .i64 x.lost,.int .i64 x.slow,.int .i64 x.keep,.bool x.watch]
def X1.av(x:X1):AV:=.agg [.d (.int .i64 x.kind),.d (.int .i64 x.client),.d (.int .i64 x.server),.d (.int .i64 x.request.op),.d (.int .i64 x.request.session),.d (.str x.request.path),.d (.str x.request.data),.d (.int .i64 x.request.version),.d (.int .i64 x.request.flags),.d (.int .i64 x.lost),.d (.int .i64 x.slow),.d (.int .i64 x.keep),.d (.bool x.watch)]
theorem X1.getD(l:List X1)(i:Nat):(l.map X1.row).getD i [.int .i64 0,.int .i64 0,.int .i64 0,.int .i64 0,.int .i64 0,.str [],.str [],.int .i64 0,.int .i64 0,.int .i64 0,.int .i64 0,.int .i64 0,.bool false]=(l.getD i default).row:=by rw[RG,RG,RS];cases l[i]?<;>rfl
structure X2 where
 code:Int
 zxid:Int
 path:List UInt8
 data:List UInt8
 stat:X8
 notes:List (XX)
instance:Inhabited X2:=⟨⟨0,0,[],[],default,[]⟩⟩
theorem X2.ext_iff(a b:X2):a=b↔a.code=b.code∧a.zxid=b.zxid∧a.path=b.path∧a.data=b.data∧a.stat=b.stat∧a.notes=b.notes:=by cases a;cases b;simp
instance:DecidableEq X2:=fun a b=>decidable_of_iff _ (X2.ext_iff a b).symm
def X2.row(x:X2):List DV:=[.int .i64 x.code,.int .i64 x.zxid,.str x.path,.str x.data,.int .i64 x.stat.czxid,.int .i64 x.stat.mzxid,.int .i64 x.stat.pzxid,.int .i64 x.stat.version,.int .i64 x.stat.cversion,.int .i64 x.stat.owner,.int .i64 x.stat.kids,.sl 3 (x.notes.map XX.row)]
def X2.av(x:X2):AV:=.agg [.d (.int .i64 x.code),.d (.int .i64 x.zxid),.d (.str x.path),.d (.str x.data),.d (.int .i64 x.stat.czxid),.d (.int .i64 x.stat.mzxid),.d (.int .i64 x.stat.pzxid),.d (.int .i64 x.stat.version),.d (.int .i64 x.stat.cversion),.d (.int .i64 x.stat.owner),.d (.int .i64 x.stat.kids),.d (.sl 3 (x.notes.map XX.row))]
def okS(s:List UInt8):Prop:=s.length≤140737488351232
theorem O8{n:Int}(h:(Lit.int .i64 n).wf=true):okI n:=by simp only[Lit.wf,RU,RN] at h;have h1:IntKind.i64.min=-9223372036854775808:=rfl;have h2:IntKind.i64.max=9223372036854775807:=rfl;rw[h1,h2] at h;exact h
theorem pk{α:Type}{f:α→List DV}{wf:α→Prop}:∀{rows:List (List DV)},(∀ r,r∈rows→∃ x,r=f x∧wf x)→∃ l:List α,rows=l.map f∧∀ x,x∈l→wf x
 |[],_=>⟨[],rfl,by simp⟩
 | r::rows,h=>by
   obtain⟨x,h1,h2⟩:=h r (by simp);obtain⟨l,h3,h4⟩:=pk (rows:=rows) fun r hr=>h r (by simp[hr])
   exact⟨x::l,by rw[h1,h3];rfl,fun y hy=>by rcases RW.1 hy with rfl|hy;exact h2;exact h4 y hy⟩
def ATxn.wf(x:ATxn):Prop:=okI x.zxid∧okI x.op∧okI x.session∧okS x.path∧okS x.data∧okI x.version∧okI x.owner
def X8.wf(x:X8):Prop:=okI x.czxid∧okI x.mzxid∧okI x.pzxid∧okI x.version∧okI x.cversion∧okI x.owner∧okI x.kids
def XU.wf(x:XU):Prop:=okS x.path∧okS x.data∧x.stat.wf
def AFile.wf(x:AFile):Prop:=okS x.name∧okS x.safe∧okS x.tail
def AWatch.wf(x:AWatch):Prop:=okI x.session∧okI x.kind∧okS x.path
def XZ.wf(x:XZ):Prop:=okI x.kind∧okS x.path
def XX.wf(x:XX):Prop:=okI x.session∧x.event.wf
def AEntry.wf(x:AEntry):Prop:=okS x.path∧okS x.data∧True
def XY.wf(x:XY):Prop:=okI x.op∧okI x.session∧okS x.path∧okS x.data∧okI x.version∧okI x.flags
def XW.wf(x:XW):Prop:=okI x.zxid∧(x.nodes.length*88≤140737488351232∧∀ y:XU,y∈x.nodes→y.wf)∧(x.sessions.length*8≤140737488351232∧∀ y:Int,y∈x.sessions→okI y)
def X4.wf(x:X4):Prop:=(x.files.length*48≤140737488351232∧∀ y:AFile,y∈x.files→y.wf)
def X3.wf(x:X3):Prop:=okI x.id∧okI x.epoch∧(x.log.length*72≤140737488351232∧∀ y:ATxn,y∈x.log→y.wf)∧okI x.done
def XV.wf(x:XV):Prop:=True∧x.disk.wf∧x.peer.wf∧x.tree.wf∧(x.watches.length*32≤140737488351232∧∀ y:AWatch,y∈x.watches→y.wf)
def X0.wf(x:X0):Prop:=okI x.session∧okI x.seen∧(x.cache.length*40≤140737488351232∧∀ y:AEntry,y∈x.cache→y.wf)
def X1.wf(x:X1):Prop:=okI x.kind∧okI x.client∧okI x.server∧x.request.wf∧okI x.lost∧okI x.slow∧okI x.keep∧True
def X2.wf(x:X2):Prop:=okI x.code∧okI x.zxid∧okS x.path∧okS x.data∧x.stat.wf∧(x.notes.length*32≤140737488351232∧∀ y:XX,y∈x.notes→y.wf)
attribute [go_sem] ay aY srow aL Gz Hj ATxn.row ATxn.av X8.row X8.av XU.row XU.av AFile.row AFile.av AWatch.row AWatch.av XZ.row XZ.av XX.row XX.av AEntry.row AEntry.av XY.row XY.av XW.row XW.av X4.row X4.av X3.row X3.av XV.row XV.av X0.row X0.av X1.row X1.av X2.row X2.av ATxn.dec ATxn.getD X8.dec XU.getD AFile.dec AFile.getD AWatch.dec AWatch.getD XZ.dec XZ.getD AEntry.dec AEntry.getD X1.getD
attribute [go_sem] List.length_map List.length_take List.length_drop
theorem xo{m:Nat}{t:TypeId}{cs:List DV}{fs:List (Nat×Nat×TypeId)}(hk:(T t).kind=.struct fs)(h:fb T (m+1) t cs):mD (fb T m) fs cs:=by simp only[fb,hk] at h;exact h
theorem jV{m:Nat}{t:TypeId}{cs:List DV}(hk:(T t).kind=.int .i64)(h:fb T (m+1) t cs):∃ n,cs=[.int .i64 n]∧okI n:=by simp only[fb,hk] at h;obtain⟨n,rfl,h⟩:=h;exact⟨n,rfl,O8 h⟩
theorem Ja{m:Nat}{t:TypeId}{cs:List DV}(hk:(T t).kind=.str)(h:fb T (m+1) t cs):∃ n,cs=[.str n]∧okS n:=by simp only[fb,hk] at h;exact h
theorem ND{m:Nat}{t:TypeId}{cs:List DV}(hk:(T t).kind=.bool)(h:fb T (m+1) t cs):∃ b,cs=[.bool b]:=by simp only[fb,hk] at h;exact h
theorem Rf{α:Type}{f:α→List DV}{wf:α→Prop}{m:Nat}{t e:TypeId}{sz by_:Nat}{cs:List DV}(hk:(T t).kind=.slice e)(hs:(T e).size=sz)(hb:(T e).bytes=by_)
  (h1:∀ r,fb T m e r→∃ x,r=f x∧wf x) (h:fb T (m+1) t cs):∃ l:List α,cs=[.sl sz (l.map f)]∧l.length*by_≤140737488351232∧∀ x,x∈l→wf x:=by
 simp only[fb,hk,hs,hb] at h;obtain⟨rows,rfl,h2,_,h3⟩:=h;obtain⟨l,rfl,h4⟩:=pk fun r hr=>h1 r (h3 r hr)
 exact⟨l,rfl,by simpa using h2,h4⟩
theorem tO{m:Nat}{cs:List DV}(h:fb T (m+2) 28 cs):∃ x:XY,cs=x.row∧x.wf:=by have h:=xo (m:=m+1) (by simp only[QT,Nf];rfl) h;simp only[mD] at h;obtain⟨a0,b0,e0,h0,a1,b1,e1,h1,a2,b2,e2,h2,a3,b3,e3,h3,a4,b4,e4,h4,a5,b5,e5,h5,e⟩:=h;subst e;obtain⟨x0,rfl,w0⟩:=jV (m:=m) (by simp only[T_3,ty3]) h0;obtain⟨x1,rfl,w1⟩:=jV (m:=m) (by simp only[T_3,ty3]) h1;obtain⟨x2,rfl,w2⟩:=Ja (m:=m) (by simp only[T_9,ty9]) h2;obtain⟨x3,rfl,w3⟩:=Ja (m:=m) (by simp only[T_9,ty9]) h3;obtain⟨x4,rfl,w4⟩:=jV (m:=m) (by simp only[T_3,ty3]) h4;obtain⟨x5,rfl,w5⟩:=jV (m:=m) (by simp only[T_3,ty3]) h5;subst e5 e4 e3 e2 e1 e0;exact⟨⟨x0,x1,x2,x3,x4,x5⟩,rfl,⟨w0,w1,w2,w3,w4,w5⟩⟩
theorem Br{m:Nat}{cs:List DV}(h:fb T (m+3) 30 cs):∃ x:X1,cs=x.row∧x.wf:=by have h:=xo (m:=m+2) (by simp only[NB,G6];rfl) h;simp only[mD] at h;obtain⟨a0,b0,e0,h0,a1,b1,e1,h1,a2,b2,e2,h2,a3,b3,e3,h3,a4,b4,e4,h4,a5,b5,e5,h5,a6,b6,e6,h6,a7,b7,e7,h7,e⟩:=h;subst e;obtain⟨x0,rfl,w0⟩:=jV (m:=m+1) (by simp only[T_3,ty3]) h0;obtain⟨x1,rfl,w1⟩:=jV (m:=m+1) (by simp only[T_3,ty3]) h1;obtain⟨x2,rfl,w2⟩:=jV (m:=m+1) (by simp only[T_3,ty3]) h2;obtain⟨x3,rfl,w3⟩:=tO (m:=m) h3;obtain⟨x4,rfl,w4⟩:=jV (m:=m+1) (by simp only[T_3,ty3]) h4;obtain⟨x5,rfl,w5⟩:=jV (m:=m+1) (by simp only[T_3,ty3]) h5;obtain⟨x6,rfl,w6⟩:=jV (m:=m+1) (by simp only[T_3,ty3]) h6;obtain⟨x7,rfl⟩:=ND (m:=m+1) (by simp only[T_4,ty4]) h7;subst e7 e6 e5 e4 e3 e2 e1 e0;exact⟨⟨x0,x1,x2,x3,x4,x5,x6,x7⟩,rfl,⟨w0,w1,w2,w3,w4,w5,w6,Yj⟩⟩
structure Zc (a b:Prop):Prop where
 h:a
 t:b
structure Zn:Prop where
structure Qw:Prop where
 q:True
structure Qd:Prop where
 q:True
 d:True
theorem qw:Qw:=⟨Yj⟩
theorem qs:Zn:=⟨⟩
theorem qd:Qd:=⟨Yj,Yj⟩
theorem zc{a b:Prop}(h:a)(t:b):Zc a b:=⟨h,t⟩
theorem zn:Zn:=⟨⟩
theorem z1{a:Prop}(h:a):Zc a Zn:=⟨h,zn⟩
theorem z2{a b:Prop}(x:a)(y:b):Zc a (Zc b Zn):=⟨x,z1 y⟩
theorem z3{a b c:Prop}(x:a)(y:b)(z:c):Zc a (Zc b (Zc c Zn)):=⟨x,z2 y z⟩
theorem z4{a b c d:Prop}(x:a)(y:b)(z:c)(w:d):Zc a (Zc b (Zc c (Zc d Zn))):=⟨x,z3 y z w⟩
theorem zx{a b:Prop}(h:a)(t:b):a∧b:=⟨h,t⟩
structure Pls (l:List XT):Prop where
theorem pls(l:List XT):Pls l:=⟨⟩
theorem Pls.t{p:XT}{l:List XT}(_:Pls (p::l)):Pls l:=⟨⟩
structure Ho {α:Type} (C:α→Prop):Prop where
 o:∀ z,C z
theorem ho{α:Type}{C:α→Prop}(h:∀ z,C z):Ho C:=⟨h⟩
structure Ow (C:Prop):Prop where
 w:C
theorem ow{C:Prop}(h:C):Ow C:=⟨h⟩
structure Ac (m:List Nat) (C:Prop):Prop where
 a:C
theorem ac(m:List Nat){C:Prop}(h:C):Ac m C:=⟨h⟩
structure Ad (m:List Nat) (C:Prop):Prop where
 d:C
theorem ad(m:List Nat){C:Prop}(h:C):Ad m C:=⟨h⟩
structure Ic (g:FuncId) (fn:Func):Prop where
 i:prog.funcs[g]?=some fn
theorem ic{g:FuncId}{fn:Func}(h:prog.funcs[g]?=some fn):Ic g fn:=⟨h⟩
theorem sd{X G:Prop}(x:X) (k:X→G:=by
 intro hX
 (try simp(disch:=omega) only[go_sem,aa,hX])<;>(try omega)<;>fail):G:=k x
theorem sj{X G:Prop}(x:X) (k:X→G:=by
 intro hX
 (try simp(disch:=omega) only[inj,Sk,Th,Sj,R6,RW,R5,Sr,go_sem,aa,hX])<;>(try omega)<;>fail):G:=k x
theorem sk{X G:Prop}(x:X) (k:X→G:=by
 intro hX
 (try simp(disch:=omega) only[inj,Sk,Th,Sj,R6,RW,R5,Sr,go_sem,aa,hX])<;>(try omega)<;>(try decide)<;>fail):G:=k x
theorem zIn{g:FuncId}{fn:Func}(h:Ic g fn){c:Code}{hp:List ABlk}{xs:List AV}{R:AV→List ABlk→Prop}
  (hA : AWP prog c { np := hp.length, nt := fn.ntmps, env := gE 0 xs, hp := hp } (nV T fn.results.toList R)) (hb : fn.body = some c := by exact rfl) (hn : (fn.name == "runtime.NumGoroutine") = false := by kernel_rfl) (hx : xs.length ≤ fn.ntmps := by (simp only [List.length_nil, List.length_cons, go_sem]; done)) : ab prog hp g xs R := cr dn h.i hb hn hx hA
theorem zPl{s:ASt}{Q:Exit→ASt→Prop}{id:Nat}{ops:Array Oper}{p:XT}{l:List XT}(_:Pls (p::l))(hB:E5 ops p=true)(h:∀ K:ASt→Prop,(∀ s',Q .normal s'→K s')→fD prog T ops K p s):AWP prog (.region id ops true) s Q:=XD p mixed dn hB h
theorem zB{G H:Prop}{P:Program}{hp:List ABlk}{g:FuncId}{xs ys:List AV}{x:AV}(c:ab P [] g ys (ret x))[k:CK G P hp g xs x H](d:ch hp xs)(e:cF ys)(h:H)(b:(bv x).isSome=true:=by exact rfl)(a:dh hp xs=ys:=by exact rfl):G:=zA c a b d e h
theorem zHh{α:Type}{P:Program}{np:Nat}{hp:List ABlk}{g:FuncId}{xs:List AV}{K:AV→List ABlk→Prop}{t:Tok K}{z:α}{ys:α→List AV}{x:α→AV}{u0:Value}(c:∀ z,ab P [] g (ys z) (ret (x z)))(hf:ch hp xs)(hn:cF (ys z))(hK:K (x z) hp)(e:dh hp xs=ys z:=by exact rfl)(hs:bv (x z)=some u0:=by exact rfl):cQ P np hp g xs K t:=acallH_sc (c z) e hs hf hn hK
theorem zHq{α:Type}{P:Program}{hp:List ABlk}{g:FuncId}{xs:List AV}{K:AV→Prop}{t:Tok K}{z:α}{ys:α→List AV}{x:α→AV}{u0:Value}(c:∀ z,ab P [] g (ys z) (ret (x z)))(hf:ch hp xs)(hn:cF (ys z))(hK:K (x z))(e:dh hp xs=ys z:=by exact rfl)(hs:bv (x z)=some u0:=by exact rfl):nH P hp g xs K t:=acallQ_sc (c z) e hs hf hn hK
theorem zAt{m:List Nat}{P:Program}{np:Nat}{hp:List ABlk}{g:FuncId}{xs:List AV}{K:AV→List ABlk→Prop}{t:Tok K}{chp bl:List ABlk}{cargs:List AV}{x:AV}(c:Ac m (ab P chp g cargs (dr x bl)))
  (exs:renL (mAt m hp.length) cargs=xs) (h:chp.length=m.length∧m.Nodup∧(∀ i,i∈m→i<hp.length)∧inL m.length cargs∧mT (mAt m hp.length) m.length hp 0 chp)
  (hK:K (renV (bN m hp.length) x) (bZ (bN m hp.length) hp m bl++d9 (bN m hp.length) (bl.drop m.length))):cQ P np hp g xs K t:=cO m c.a exs h hK
theorem zAd{m:List Nat}{P:Program}{hp:List ABlk}{g:FuncId}{xs:List AV}{K:AV→List ABlk→Prop}{t:Tok K}{chp bl:List ABlk}{cargs:List AV}{x:AV}(c:Ad m (ab P chp g cargs (dr x bl)))
  (exs:renL (mAt m hp.length) cargs=xs) (h:chp.length=m.length∧m.Nodup∧(∀ i,i∈m→i<hp.length)∧inL m.length cargs∧mT (mAt m hp.length) m.length hp 0 chp)
  (hf:cc (bZ (bN m hp.length) hp m bl++d9 (bN m hp.length) (bl.drop m.length)) (renV (bN m hp.length) x)∧cp (bt (bZ (bN m hp.length) hp m bl++d9 (bN m hp.length) (bl.drop m.length)) (renV (bN m hp.length) x)))
  (hK:K (bt (bZ (bN m hp.length) hp m bl++d9 (bN m hp.length) (bl.drop m.length)) (renV (bN m hp.length) x)) (killIds (eB (renV (bN m hp.length) x)) (bZ (bN m hp.length) hp m bl++d9 (bN m hp.length) (bl.drop m.length)))):cQ P 0 hp g xs K t:=DX m c.d exs h hf hK
theorem zq{s:ASt}{Q:Exit→ASt→Prop}{id:Nat}{l:List Oper}(_:True)(hB:(MN l.toArray&&Region.lexB .any l.toArray)=true)(h:∀ K:ASt→Prop,(∀ s',Q .normal s'→K s')→o7 prog T l.toArray K l s):AWP prog (.region id l.toArray true) s Q:=zQ h hB
theorem zd{s:ASt}{Q:Exit→ASt→Prop}{id:Nat}{l:List Oper}(_:True)(hB:HN l.toArray=true)(h:∀ K:ASt→Prop,(∀ s',Q .normal s'→K s')→jl prog T l.toArray K l s):AWP prog (.region id l.toArray true) s Q:=zD h hB
theorem ze{s:ASt}{Q:Exit→ASt→Prop}{id:Nat}{l:List Oper}(_:True)(hB:drawE l.toArray=true)(h:∀ K:ASt→Prop,(∀ s',Q .normal s'→K s')→jl prog T l.toArray K (uq l) s):AWP prog (.region id l.toArray true) s Q:=zE h hB
theorem zg{s:ASt}{Q:Exit→ASt→Prop}{id:Nat}{l:List Oper}(_:True)(hB:EI T l.toArray=true)(h:∀ K:ASt→Prop,(∀ s',Q .normal s'→K s')→mK prog T l.toArray K (lE l) s):AWP prog (.region id l.toArray true) s Q:=zG h hB
structure Zl (A:Prop):Prop where
theorem zl0:Zl Zn:=⟨⟩
theorem zl1{b:Prop}(_:Zl b):Zl (Zc True b):=⟨⟩
theorem zl2{a b:Prop}(_:Zl b):Zl (Zc a b):=⟨⟩
structure Zg (G A:Prop):Prop where
 g:G
 l:Zl A
theorem zW{F C X A G:Prop}(f:F)(c:C)(x:X)(h:A) (k:F→C→X→A→Zg G A:=by
 intro hF hC hX hA
 refine Zg.mk (by
  try have c1:=hC.h
  try have hC:=hC.t
  try have c2:=hC.h
  try have hC:=hC.t
  try have c3:=hC.h
  try have hC:=hC.t
  try have c4:=hC.h
  try have hC:=hC.t
  try have c5:=hC.h
  try have hC:=hC.t
  try have c6:=hC.h
  try have hC:=hC.t
  try have c7:=hC.h
  try have hC:=hC.t
  try have c8:=hC.h
  try have hC:=hC.t
  try have c9:=hC.h
  try have hC:=hC.t
  try have c10:=hC.h
  try have hC:=hC.t
  try have c11:=hC.h
  try have hC:=hC.t
  try have c12:=hC.h
  try have hC:=hC.t
  (repeat' first
|(with_reducible refine AR.f ?_)
|refine bH (by decide) ?_
|(with_reducible refine AWP.cond rfl ?_ ?_<;>intro hcW<;>(try simp only[hcs,R1,Sa,Sb] at hcW))
|(refine bJ fun Kk hKk=>?_;(first|refine zIn c1 ?_|refine zIn c2 ?_|refine zIn c3 ?_|refine zIn c4 ?_|refine zIn c5 ?_|refine zIn c6 ?_|refine zIn c7 ?_|refine zIn c8 ?_|refine zIn c9 ?_|refine zIn c10 ?_|refine zIn c11 ?_|refine zIn c12 ?_);simp only[gE,Sd,RQ,Nat.reduceAdd,RL,R3,go_sem])
|((first
|((first|refine zPl c1 (by decide +kernel) ?_|refine zPl c1.t (by decide +kernel) ?_|refine zPl c1.t.t (by decide +kernel) ?_|refine zPl c1.t.t.t (by decide +kernel) ?_|refine zPl c1.t.t.t.t (by decide +kernel) ?_|refine zPl c1.t.t.t.t.t (by decide +kernel) ?_|refine zPl c1.t.t.t.t.t.t (by decide +kernel) ?_|refine zPl c1.t.t.t.t.t.t.t (by decide +kernel) ?_|(with_reducible first|refine zR ?_|refine zd hF.d (by decide +kernel) ?_|refine ze hF.d (by decide +kernel) ?_|refine zq hF.q (by decide +kernel) ?_|refine zd hF.q (by decide +kernel) ?_|refine ze hF.q (by decide +kernel) ?_|refine zg hF.q (by decide +kernel) ?_));intro KW hKW)
|(first|refine zB c1 (sd hX) (sd hX) ?_|refine zB c2 (sd hX) (sd hX) ?_|refine zB c3 (sd hX) (sd hX) ?_|refine zB c4 (sd hX) (sd hX) ?_|refine zB c5 (sd hX) (sd hX) ?_|refine zB c6 (sd hX) (sd hX) ?_|refine zB c7 (sd hX) (sd hX) ?_|refine zB c8 (sd hX) (sd hX) ?_|refine zB c9 (sd hX) (sd hX) ?_|refine zB c10 (sd hX) (sd hX) ?_|refine zB c11 (sd hX) (sd hX) ?_|refine zB c12 (sd hX) (sd hX) ?_)
|(first|refine zHh c1.o (sd hX) (sd hX) ?_|refine zHq c1.o (sd hX) (sd hX) ?_|refine zHh c2.o (sd hX) (sd hX) ?_|refine zHq c2.o (sd hX) (sd hX) ?_|refine zHh c3.o (sd hX) (sd hX) ?_|refine zHq c3.o (sd hX) (sd hX) ?_|refine zHh c4.o (sd hX) (sd hX) ?_|refine zHq c4.o (sd hX) (sd hX) ?_|refine zHh c5.o (sd hX) (sd hX) ?_|refine zHq c5.o (sd hX) (sd hX) ?_|refine zHh c6.o (sd hX) (sd hX) ?_|refine zHq c6.o (sd hX) (sd hX) ?_|refine zHh c7.o (sd hX) (sd hX) ?_|refine zHq c7.o (sd hX) (sd hX) ?_|refine zHh c8.o (sd hX) (sd hX) ?_|refine zHq c8.o (sd hX) (sd hX) ?_|refine zHh c9.o (sd hX) (sd hX) ?_|refine zHq c9.o (sd hX) (sd hX) ?_|refine zHh c10.o (sd hX) (sd hX) ?_|refine zHq c10.o (sd hX) (sd hX) ?_|refine zHh c11.o (sd hX) (sd hX) ?_|refine zHq c11.o (sd hX) (sd hX) ?_|refine zHh c12.o (sd hX) (sd hX) ?_|refine zHq c12.o (sd hX) (sd hX) ?_)
|(first|refine zN c1 rfl (sd hX) ?_|refine zN (c1.o _) rfl (sd hX) ?_|refine zN c2 rfl (sd hX) ?_|refine zN (c2.o _) rfl (sd hX) ?_|refine zN c3 rfl (sd hX) ?_|refine zN (c3.o _) rfl (sd hX) ?_|refine zN c4 rfl (sd hX) ?_|refine zN (c4.o _) rfl (sd hX) ?_|refine zN c5 rfl (sd hX) ?_|refine zN (c5.o _) rfl (sd hX) ?_|refine zN c6 rfl (sd hX) ?_|refine zN (c6.o _) rfl (sd hX) ?_|refine zN c7 rfl (sd hX) ?_|refine zN (c7.o _) rfl (sd hX) ?_|refine zN c8 rfl (sd hX) ?_|refine zN (c8.o _) rfl (sd hX) ?_|refine zN c9 rfl (sd hX) ?_|refine zN (c9.o _) rfl (sd hX) ?_|refine zN c10 rfl (sd hX) ?_|refine zN (c10.o _) rfl (sd hX) ?_|refine zN c11 rfl (sd hX) ?_|refine zN (c11.o _) rfl (sd hX) ?_|refine zN c12 rfl (sd hX) ?_|refine zN (c12.o _) rfl (sd hX) ?_)
|(first|refine zX c1 rfl (sd hX) ?_|refine zX (c1.o _) rfl (sd hX) ?_|refine zX c2 rfl (sd hX) ?_|refine zX (c2.o _) rfl (sd hX) ?_|refine zX c3 rfl (sd hX) ?_|refine zX (c3.o _) rfl (sd hX) ?_|refine zX c4 rfl (sd hX) ?_|refine zX (c4.o _) rfl (sd hX) ?_|refine zX c5 rfl (sd hX) ?_|refine zX (c5.o _) rfl (sd hX) ?_|refine zX c6 rfl (sd hX) ?_|refine zX (c6.o _) rfl (sd hX) ?_|refine zX c7 rfl (sd hX) ?_|refine zX (c7.o _) rfl (sd hX) ?_|refine zX c8 rfl (sd hX) ?_|refine zX (c8.o _) rfl (sd hX) ?_|refine zX c9 rfl (sd hX) ?_|refine zX (c9.o _) rfl (sd hX) ?_|refine zX c10 rfl (sd hX) ?_|refine zX (c10.o _) rfl (sd hX) ?_|refine zX c11 rfl (sd hX) ?_|refine zX (c11.o _) rfl (sd hX) ?_|refine zX c12 rfl (sd hX) ?_|refine zX (c12.o _) rfl (sd hX) ?_)
|(first|refine zY c1 (sd hX) ?_|refine zY (c1.o _) (sd hX) ?_|refine zY c2 (sd hX) ?_|refine zY (c2.o _) (sd hX) ?_|refine zY c3 (sd hX) ?_|refine zY (c3.o _) (sd hX) ?_|refine zY c4 (sd hX) ?_|refine zY (c4.o _) (sd hX) ?_|refine zY c5 (sd hX) ?_|refine zY (c5.o _) (sd hX) ?_|refine zY c6 (sd hX) ?_|refine zY (c6.o _) (sd hX) ?_|refine zY c7 (sd hX) ?_|refine zY (c7.o _) (sd hX) ?_|refine zY c8 (sd hX) ?_|refine zY (c8.o _) (sd hX) ?_|refine zY c9 (sd hX) ?_|refine zY (c9.o _) (sd hX) ?_|refine zY c10 (sd hX) ?_|refine zY (c10.o _) (sd hX) ?_|refine zY c11 (sd hX) ?_|refine zY (c11.o _) (sd hX) ?_|refine zY c12 (sd hX) ?_|refine zY (c12.o _) (sd hX) ?_)
|(first|refine acallH_own c1.w (sj hX) (sk hX) ?_|refine acallH_own c2.w (sj hX) (sk hX) ?_|refine acallH_own c3.w (sj hX) (sk hX) ?_|refine acallH_own c4.w (sj hX) (sk hX) ?_|refine acallH_own c5.w (sj hX) (sk hX) ?_|refine acallH_own c6.w (sj hX) (sk hX) ?_|refine acallH_own c7.w (sj hX) (sk hX) ?_|refine acallH_own c8.w (sj hX) (sk hX) ?_|refine acallH_own c9.w (sj hX) (sk hX) ?_|refine acallH_own c10.w (sj hX) (sk hX) ?_|refine acallH_own c11.w (sj hX) (sk hX) ?_|refine acallH_own c12.w (sj hX) (sk hX) ?_)
|(first|refine zAt c1 (sj hX) (sk hX) ?_|refine zAd c1 (sj hX) (sk hX) (sj hX) ?_|refine zAt c2 (sj hX) (sk hX) ?_|refine zAd c2 (sj hX) (sk hX) (sj hX) ?_|refine zAt c3 (sj hX) (sk hX) ?_|refine zAd c3 (sj hX) (sk hX) (sj hX) ?_|refine zAt c4 (sj hX) (sk hX) ?_|refine zAd c4 (sj hX) (sk hX) (sj hX) ?_|refine zAt c5 (sj hX) (sk hX) ?_|refine zAd c5 (sj hX) (sk hX) (sj hX) ?_|refine zAt c6 (sj hX) (sk hX) ?_|refine zAd c6 (sj hX) (sk hX) (sj hX) ?_|refine zAt c7 (sj hX) (sk hX) ?_|refine zAd c7 (sj hX) (sk hX) (sj hX) ?_|refine zAt c8 (sj hX) (sk hX) ?_|refine zAd c8 (sj hX) (sk hX) (sj hX) ?_|refine zAt c9 (sj hX) (sk hX) ?_|refine zAd c9 (sj hX) (sk hX) (sj hX) ?_|refine zAt c10 (sj hX) (sk hX) ?_|refine zAd c10 (sj hX) (sk hX) (sj hX) ?_|refine zAt c11 (sj hX) (sk hX) ?_|refine zAd c11 (sj hX) (sk hX) (sj hX) ?_|refine zAt c12 (sj hX) (sk hX) ?_|refine zAd c12 (sj hX) (sk hX) (sj hX) ?_)
|(refine aend_in (v:=?_) hKk (by first|exact .inl rfl|exact .inr rfl) ?_ ?_ ?_;rotate_left;exact sd hX;(focus((try simp(disch:=omega) only[go_sem,aa,hX])<;>(first|done|exact rfl)));clear hKk Kk)
|((first|(with_reducible refine aunder_i ?_ ?_<;>intro hgW)|with_reducible intro hgW)<;>(first|(exfalso;simp at hgW;done)|(have hgX:=hgW;(try simp only[hcs,R1,Sa,Sb] at hgX);(try simp only[hgW])))))<;>(try simp(disch:=omega) only[go_sem,aa,hX])<;>(repeat' with_reducible refine Su ?_ ?_)<;>(try(with_reducible first|(refine hKW _ ?_;clear hKW KW)|refine hK _ ?_)))
|omega)
  all_goals(repeat revert hcW)
  all_goals(repeat revert hgX)
  all_goals(repeat revert hgW)
  all_goals(try revert hKW)
  all_goals(try revert KW)
  all_goals first|(with_reducible first|exact hA.h|exact hA.t.h|exact hA.t.t.h|exact hA.t.t.t.h|exact hA.t.t.t.t.h|exact hA.t.t.t.t.t.h|exact hA.t.t.t.t.t.t.h|exact hA.t.t.t.t.t.t.t.h|exact hA.t.t.t.t.t.t.t.t.h|exact hA.t.t.t.t.t.t.t.t.t.h|exact hA.t.t.t.t.t.t.t.t.t.t.h|exact hA.t.t.t.t.t.t.t.t.t.t.t.h|exact hA.t.t.t.t.t.t.t.t.t.t.t.t.h|exact hA.t.t.t.t.t.t.t.t.t.t.t.t.t.h|exact hA.t.t.t.t.t.t.t.t.t.t.t.t.t.t.h|exact hA.t.t.t.t.t.t.t.t.t.t.t.t.t.t.t.h|exact hA.t.t.t.t.t.t.t.t.t.t.t.t.t.t.t.t.h|exact hA.t.t.t.t.t.t.t.t.t.t.t.t.t.t.t.t.t.h|exact hA.t.t.t.t.t.t.t.t.t.t.t.t.t.t.t.t.t.t.h|exact hA.t.t.t.t.t.t.t.t.t.t.t.t.t.t.t.t.t.t.t.h|exact hA.t.t.t.t.t.t.t.t.t.t.t.t.t.t.t.t.t.t.t.t.h|exact hA.t.t.t.t.t.t.t.t.t.t.t.t.t.t.t.t.t.t.t.t.t.h|exact hA.t.t.t.t.t.t.t.t.t.t.t.t.t.t.t.t.t.t.t.t.t.t.h|exact hA.t.t.t.t.t.t.t.t.t.t.t.t.t.t.t.t.t.t.t.t.t.t.t.h|exact hA.t.t.t.t.t.t.t.t.t.t.t.t.t.t.t.t.t.t.t.t.t.t.t.t.h|exact hA.t.t.t.t.t.t.t.t.t.t.t.t.t.t.t.t.t.t.t.t.t.t.t.t.t.h|exact hA.t.t.t.t.t.t.t.t.t.t.t.t.t.t.t.t.t.t.t.t.t.t.t.t.t.t.h|exact hA.t.t.t.t.t.t.t.t.t.t.t.t.t.t.t.t.t.t.t.t.t.t.t.t.t.t.t.h|exact hA.t.t.t.t.t.t.t.t.t.t.t.t.t.t.t.t.t.t.t.t.t.t.t.t.t.t.t.t.h|exact hA.t.t.t.t.t.t.t.t.t.t.t.t.t.t.t.t.t.t.t.t.t.t.t.t.t.t.t.t.t.h|exact hA.t.t.t.t.t.t.t.t.t.t.t.t.t.t.t.t.t.t.t.t.t.t.t.t.t.t.t.t.t.t.h|exact hA.t.t.t.t.t.t.t.t.t.t.t.t.t.t.t.t.t.t.t.t.t.t.t.t.t.t.t.t.t.t.t.h|exact hA.t.t.t.t.t.t.t.t.t.t.t.t.t.t.t.t.t.t.t.t.t.t.t.t.t.t.t.t.t.t.t.t.h|exact hA.t.t.t.t.t.t.t.t.t.t.t.t.t.t.t.t.t.t.t.t.t.t.t.t.t.t.t.t.t.t.t.t.t.h|exact hA.t.t.t.t.t.t.t.t.t.t.t.t.t.t.t.t.t.t.t.t.t.t.t.t.t.t.t.t.t.t.t.t.t.t.h|exact hA.t.t.t.t.t.t.t.t.t.t.t.t.t.t.t.t.t.t.t.t.t.t.t.t.t.t.t.t.t.t.t.t.t.t.t.h)|(intros;exfalso;omega)|(intros;exfalso;simp_all;done)) ?_
 (repeat'(with_reducible first|exact zl0|refine zl1 ?_|refine zl2 ?_))):G:=(k f c x h).g
theorem zEe{X G:Prop}(x:X) (k:X→G:=by
 intro hX
 (refine zF rfl ?_ ?_ ?_ ?_;(iterate 3 (focus((try simp(disch:=omega) only[go_sem,aa,hX])<;>(try omega)<;>fail)));(try simp(disch:=omega) only[go_sem,aa,hX,I,B,S,zj]))):G:=k x
theorem zEf{X G:Prop}(x:X) (k:X→G:=by
 intro hX
 (refine zF rfl ?_ ?_ ?_ ?_;(iterate 3 (focus((try simp(disch:=omega) only[go_sem,aa,hX])<;>(try omega)<;>fail)));(try simp(disch:=omega) only[go_sem,aa,hX,I,B,S,zj]))<;>fail):G:=k x
theorem zE2{T:TypeId→TI}{s:ASt}{rs:List ResultVar}{R:AV}{e:Exit}[k:ER e]{X:Prop}(x:X)(hR:dM (bt s.hp (du (bh T s rs).2)) R)(h0:s.np=0:=by exact rfl) (h1:X→(bh T s rs).1:=by
  intro hX;(try simp(disch:=omega) only[go_sem,aa,hX])<;>(try omega)<;>fail) (h2:X→cc s.hp (du (bh T s rs).2):=by
  intro hX;(try simp(disch:=omega) only[go_sem,aa,hX])<;>(try omega)<;>fail) (h3:X→cp (bt s.hp (du (bh T s rs).2)):=by
  intro hX;(try simp(disch:=omega) only[go_sem,aa,hX])<;>(try omega)<;>fail):nV T rs (ret R) e s:=zF h0 (h1 x) (h2 x) (h3 x) hR
theorem zk1{G:Prop}(k:G:=by exfalso;omega):G:=k
theorem zk2{G:Prop}(k:G:=by first|(exfalso;omega)|contradiction):G:=k
theorem zk3{G:Prop}(k:G:=by first|(exfalso;omega)|contradiction|(exfalso;(simp_all<;>fail))):G:=k
theorem zOp{T:TypeId→TI}{s:ASt}{e:Exit}{rs:List ResultVar}{R:AV→List ABlk→Prop}[k:ER e]{X:Prop}(x:X)(h2:af s.np s.hp (du (bh T s rs).2) R) (h1:X→(bh T s rs).1:=by
 intro hX;(try simp(disch:=omega) only[go_sem,aa,hX])<;>fail):nV T rs R e s:=zO (h1 x) h2
theorem zSm{X G:Prop}(x:X) (k:X→G:=by
 intro hX
 (refine ax.same ?_;simp(disch:=omega) only[go_sem,aa,Ss,hX])):G:=k x
theorem zFr(m:List Nat){X:Prop}(x:X){np nt:Nat}{env env':List (Nat×AV)}{hp hp':List ABlk} (he:X→pm (mAt m hp.length) m.length env env':=by
  intro hX;simp(disch:=omega) only[go_sem,aa,Ss,hX]<;>(try rfl)) (hh:X→mT (mAt m hp.length) m.length hp 0 hp':=by
  intro hX;simp(disch:=omega) only[go_sem,aa,Ss,hX]<;>(try rfl)) (hl:Nat.beq hp'.length m.length=true:=by exact rfl) (hm:(m.all fun i=>Nat.blt i hp.length)=true:=by exact rfl) (hinj:decide m.Nodup=true:=by exact rfl) (hpre:((List.range np).all fun k=>m[k]?==some k)=true:=by exact rfl) :
  ax { np:=np,nt:=nt,env:=env,hp:=hp } { np:=np,nt:=nt,env:=env',hp:=hp' }:=zV m hl hm hinj hpre (he x) (hh x)
theorem dfl:(default:ATxn)=⟨0,0,0,[],[],0,0⟩∧(default:X8)=⟨0,0,0,0,0,0,0⟩∧(default:XU)=⟨[],[],⟨0,0,0,0,0,0,0⟩⟩∧(default:AFile)=⟨[],[],[]⟩∧(default:AWatch)=⟨0,0,[]⟩∧(default:XZ)=⟨0,[]⟩∧(default:XX)=⟨0,⟨0,[]⟩⟩∧(default:AEntry)=⟨[],[],false⟩∧(default:XY)=⟨0,0,[],[],0,0⟩∧(default:XW)=⟨0,[],[]⟩∧(default:X4)=⟨[]⟩∧(default:X3)=⟨0,0,[],0⟩∧(default:XV)=⟨false,⟨[]⟩,⟨0,0,[],0⟩,⟨0,[],[]⟩,[]⟩∧(default:X0)=⟨0,0,[]⟩∧(default:X1)=⟨0,0,0,⟨0,0,[],[],0,0⟩,0,0,0,false⟩∧(default:X2)=⟨0,0,[],[],⟨0,0,0,0,0,0,0⟩,[]⟩:=⟨rfl,rfl,rfl,rfl,rfl,rfl,rfl,rfl,rfl,rfl,rfl,rfl,rfl,rfl,rfl,rfl⟩
theorem zJ{g:FuncId}{fn:Func}{c:Code}{nt:Nat}{rs:Array ResultVar}(hf:prog.funcs[g]?=some fn)(hn:fn.ntmps=nt)(hr:fn.results=rs){hp:List ABlk}{xs:List AV}{R:AV→List ABlk→Prop}
  (h : AWP prog c { np := hp.length, nt := nt, env := gE 0 xs, hp := hp } (nV T rs.toList R)) (hb : fn.body = some c := by exact rfl) (hk : (fn.name == "runtime.NumGoroutine") = false := by kernel_rfl) (hx : xs.length ≤ nt := by simp) : ab prog hp g xs R := by
 subst hn hr;exact cr dn hf hb hk hx h
theorem Ya.len{N:Nat}{l:List UInt8}(h:Ya N (.str l)):l.length≤N:=by cases h;assumption
theorem Ya.rows{N sz:Nat}{rs:List (List DV)}(h:Ya N (.sl sz rs)):rs.length≤N∧∀ r,r∈rs→∀ c,c∈r→Ya N c:=by cases h;exact⟨by assumption,by assumption⟩
theorem uw{P:Program}{g:FuncId}{xs:List AV}{x:AV}{us:List Value}{u:Value}(hg:goFn P g)(hxs:gG xs=some us)(hx:bv x=some u)
  (h:∀ w:World,Calls P g us.toArray w fun e w'=>e=.returned u∧w'=w):ab P [] g xs (ret x):=by
 refine⟨hg,fun E w vs hw hH hvs=>?_⟩
 have e:vs=us:=by
  obtain⟨h1,h2⟩:=gc hxs;refine SR fun j=>?_
  by_cases hj:j<xs.length
  ·obtain⟨u',hu,hs⟩:=h2 j _ (RH hj)
   have hv:vs[j]?=some (vs[j]'(by rw[hvs.1];exact hj)):=RH _;rw[hv,hu,sR (hvs.2 j _ _ (RH hj) hv) u' hs]
  ·rw[R9 (by rw[hvs.1];omega),R9 (by omega)]
 subst e;refine(h w).mono fun e w' ⟨h1,h2⟩=>?_
 subst h2;refine⟨u,x,[],[],h1,⟨rfl,rfl⟩,?_,fun k p hk=>?_,mP x u hx⟩
 ·have h0:E.ρ0=[]:=Sf (by rw[hH.len];rfl)
  rw[h0] at hH;exact hH
 ·have h0:E.ρ0=[]:=Sf (by rw[hH.len];rfl)
  rw[h0] at hk;exact hk
theorem sF(a b:ByteArray)(w:World) :
  Calls prog 193 #[.string a,.string b] w fun e w'=>e=.returned (.int .i64 (Lib.compareBytes a.data.toList b.data.toList))∧w'=w:=by
 go_enter func193,ntmps193
 go_wp2
 rw[VM func246 (by kernel_rfl) (by kernel_rfl) (by kernel_rfl) (e:=Extern.BytealgCompare.compare) (by kernel_rfl),Lib.run_compareString];simp only[Result.andThen];rw[Oper.upon_value]
 go_wp2
 go_ret
 exact⟨rfl,rfl⟩
theorem sA(a b:List UInt8):ab prog [] 193 [S a,S b] (ret (I (Lib.compareBytes a b))):=
 uw ⟨_,func193,by kernel_rfl,by kernel_rfl⟩ rfl rfl fun w=>sF ⟨a.toArray⟩ ⟨b.toArray⟩ w
theorem qF(a b:List UInt8):ab prog [] 132 [S a,S b] (ret (I (Lib.compareBytes a b))):=by refine zJ func132 ntmps132 results132 ?_;simp only[go_sem];refine zW qw (z1 (sA _ _)) Yj (z1 ?_);exact zEe Yj
theorem fP{α:Type}[Inhabited α]{a b:List α}(h:a.length=b.length)(h2:∀ k,k<a.length→a.getD k default=b.getD k default):a=b:=by
 refine UH h fun k h1 h3=>?_
 have:=h2 k h1;simpa[RG,RH h1,RH h3] using this
def pb(a b:List UInt8):Int:=Lib.compareBytes a b
theorem yP (a b:List UInt8):pb a b=0↔a=b:=by
 unfold pb
 induction a generalizing b with
 |nil=>cases b<;>simp[Lib.compareBytes]
 | cons x a ih=>
   cases b with
   |nil=>simp[Lib.compareBytes]
   | cons y b=>
     simp only[Lib.compareBytes];split
     ·rename_i h;simp;intro e;subst e;exact absurd h (by simp)
     ·split
      ·rename_i h;simp;intro e;subst e;exact absurd h (by simp)
      ·rename_i h1 h2
       have:x=y:=by
        have h1':¬ x.toNat<y.toNat:=by simpa[UV] using h1
        have h2':¬ y.toNat<x.toNat:=by simpa[UV] using h2
        exact Vc.1 (by omega)
       subst this;rw[ih];simp
theorem MI (a b:List UInt8):pb a b<0↔ol a b=true:=by
 unfold pb ol
 induction a generalizing b with
 |nil=>cases b<;>simp[Lib.compareBytes,Op.bytesLess]
 | cons x a ih=>
   cases b with
   |nil=>simp[Lib.compareBytes,Op.bytesLess]
   | cons y b=>
     simp only[Lib.compareBytes,Op.bytesLess];split
     ·rename_i h;simp[h]
     ·rename_i h1
      split
      ·rename_i h2
       have h2':¬ x=y:=fun e=>by subst e;exact absurd h2 (by simp)
       simp[h1,h2']
      ·rename_i h2
       have:x=y:=by
        have h1':¬ x.toNat<y.toNat:=by simpa[UV] using h1
        have h2':¬ y.toNat<x.toNat:=by simpa[UV] using h2
        exact Vc.1 (by omega)
       subst this;simp[ih]
theorem ey(a b:List UInt8):ol a b=decide (a<b):=Go.Proofs.bytesLess_eq a b
theorem kO(a b:List UInt8):pb a b<0↔a<b:=by rw[MI,ey,RN]
theorem OT{a b:List UInt8}(h:¬ a<b)(h2:¬ b<a):a=b:=List.le_antisymm (List.not_lt.1 h2) (List.not_lt.1 h)
theorem gN{a b:List UInt8}(h:¬ a<b)(h2:a≠b):b<a:=Sh fun h3=>h2 (OT h h3)
def aF(ns:List (List UInt8)):Prop:=∀ k,k+1<ns.length→ns.getD k []<ns.getD (k+1) []
theorem aV{ns:List (List UInt8)}(h:aF ns){i:Nat}:∀{j:Nat},i<j→j<ns.length→ns.getD i []<ns.getD j []
 |0,h1,_=>by omega
 | j+1,h1,h2=>by
   by_cases e:i=j
   ·subst e;exact h i h2
   ·exact Tk (aV h (by omega) (by omega)) (h j h2)
def place(ns:List (List UInt8))(key:List UInt8):Nat:=ns.findIdx fun x=>!decide (x<key)
theorem gy{ns:List (List UInt8)}{key:List UInt8}{i:Nat}(h0:i≤ns.length)(h1:∀ k,k<i→ns.getD k []<key)(h2:i<ns.length→¬ ns.getD i []<key):place ns key=i:=by
 unfold place
 by_cases e:i<ns.length
 ·rw[VE e]
  have h3:=h2 e;rw[RG,RH e] at h3;refine⟨by simpa using h3,fun j hj=>?_⟩;have h4:=h1 j hj;rw[RG,RH (by omega)] at h4;simpa using h4
 ·have e2:i=ns.length:=by omega
  subst e2;rw[Wr];intro x hx;obtain⟨j,hj,rfl⟩:=Tm hx;have h4:=h1 j hj;rw[RG,RH hj] at h4;simpa using h4
theorem bu{α:Type}(ns:List α)(d:α){k:Nat}(h:k<ns.length):ns.getD k d∈ns:=by rw[RG,RH h];exact SD h
theorem aM{α:Type}(ns:List α)(d x:α):x∈ns↔∃ k,k<ns.length∧ns.getD k d=x:=by
 constructor
 ·intro h
  obtain⟨j,hj,e⟩:=Tm h;exact⟨j,hj,by rw[RG,RH hj];exact e⟩
 ·rintro⟨k,h,rfl⟩;exact bu ns d h
theorem ny{ns:List (List UInt8)}{key:List UInt8}{i:Nat}(hr:aF ns)(h1:∀ k,k<i→ns.getD k []<key)(h2:i<ns.length→¬ ns.getD i []<key):key∈ns↔i<ns.length∧ns.getD i []=key:=by
 rw[aM ns []];constructor
 ·rintro⟨k,hk,e⟩
  have a:¬ k<i:=fun hki=>by have:=h1 k hki;rw[e] at this;exact Sw _ this
  have b:¬ i<k:=fun hik=>by have:=aV hr hik hk;rw[e] at this;exact h2 (by omega) this
  have c:i=k:=by omega
  subst c;exact⟨hk,e⟩
 ·rintro⟨h,e⟩;exact⟨i,h,e⟩
theorem eT(ns:List (List UInt8))(key:List UInt8):place ns key≤ns.length:=TF
theorem pj{ns:List (List UInt8)}{k:Nat}(hr:aF ns)(h:k<ns.length):place ns (ns.getD k [])=k:=
 gy (by omega) (fun j hj=>aV hr hj h) fun _=>Sw _
theorem ag{ns:List (List UInt8)}{key:List UInt8}(hr:aF ns)(h:key∈ns):place ns key<ns.length∧ns.getD (place ns key) []=key:=by obtain⟨k,hk,e⟩:=(aM ns [] key).1 h;subst e;rw[pj hr hk];exact⟨hk,rfl⟩
theorem cW{α β:Type}(f:α→β)(l:List α)(k:Nat)(d:α):(l.map f).getD k (f d)=f (l.getD k d):=by simp only[RG,RS];cases l[k]?<;>rfl
def okc(c:UInt8):Bool:=decide ((97≤c.toNat∧c.toNat≤122)∨(48≤c.toNat∧c.toNat≤57)∨c.toNat=45∨c.toNat=95)
def aU(s:List UInt8):Bool:=s.all okc&&(!decide (s=[])&&decide ((s.length:Int)≤40))
theorem JU{α:Type}[Inhabited α](p:α→Bool)(l:List α)(d:α):∀ k,k≤l.length→(∀ j,j<k→p (l.getD j d)=true)→(l.take k).all p=true:=by
 intro k hk h;rw[S6];intro x hx;rw[ST] at hx;obtain⟨j,hj,rfl⟩:=hx
 have:=h j (by omega);rwa[RG,RH (by omega)] at this
theorem tu{α:Type}[Inhabited α](p:α→Bool)(l:List α)(d:α)(h:∀ j,j<l.length→p (l.getD j d)=true):l.all p=true:=by have:=JU p l d l.length (RP _) h;rwa[R7] at this
theorem pu{α:Type}[Inhabited α]{p:α→Bool}{l:List α}{d:α}{k:Nat}(hk:k<l.length)(h:p (l.getD k d)=false):l.all p=false:=by rw[List.all_eq_false];refine⟨l.getD k d,?_,by rw[h];simp⟩;rw[RG,RH hk];exact SD hk
theorem iC(s:List UInt8)(h:okS s):ab prog [] 81 [S s] (ret (B (aU s))):=by
 unfold okS at h;refine zJ func81 ntmps81 results81 ?_;simp only[go_sem];refine zW qw zn Yj (z1 ?_);refine Xd (ι:=Nat) (fun k=>k≤s.length∧∀ j,j<k→okc (s.getD j 0)=true) (fun k=>s.length-k) [0] (fun k=>[(3,I k)]) 0 ?_ (by simp(disch:=omega) only[go_sem,aa,SI]) ?_
 ·exact⟨by omega,by omega⟩
 intro k ⟨hk,hk2⟩;simp only[go_sem]
 (refine zW qw zn Yj (z3 ?_ ?_ ?_)<;>(repeat with_reducible intro hc))
 ·rename_i hl
  have e:s.all okc=false:=pu (d:=0) hl (by unfold okc;rw[RR];omega);exact zEe (zx @aU.eq_1 (zx @e @Um))
 ·refine⟨k+1,⟨by omega,fun j hj=>?_⟩,by omega,?_⟩
  ·by_cases e:j=k
   ·subst e;unfold okc;rw[RN];omega
   ·exact hk2 j (by omega)
  exact zSm Yj
 ·have e:s.all okc=true:=tu okc s 0 fun j hj=>hk2 j (by omega)
  exact zEe (zx @aU.eq_1 (zx @e @Ui))
def eO:List UInt8:=[97,98,99,100,101,102,103,104,105,106,107,108,109,110,111,112,113,114,115,116,117,118,119,120,121,122,48,49,50,51,52,53,54,55,56,57,45,95]
theorem si(c:UInt8):okc c=eO.any (fun x=>decide (c=x)):=by
 have h:∀ n,n<256→okc (UInt8.ofNat n)=eO.any (fun x=>decide (UInt8.ofNat n=x)):=by unfold okc eO;decide
 have:=h c.toNat c.toNat_lt;simpa using this
theorem Jc{α:Type}[Inhabited α](p:α→Bool)(l:List α)(d:α)(k:Nat)(hk:k<l.length):(l.take (k+1)).any p=((l.take k).any p||p (l.getD k d)):=by rw[RG,RH hk,UX,RH hk,List.any_append];simp
theorem u8g(l:List UInt8)(i:Nat)(h:i<l.length):(l.map aL).getD i []=aL (l.getD i 0):=bO aL l i [] h
theorem ref_named_c(s:List UInt8)(h:okS s):ab prog [] 207 [S s] (ret (B (aU s))):=by
 unfold okS at h;refine zJ func207 ntmps207 results207 ?_;simp only[go_sem];refine zW qw zn Yj (z1 ?_);refine W9 (ι:=Nat) (fun k=>k≤s.length∧∀ j,j<k→okc (s.getD j 0)=true) (fun k=>s.length-k) [0,3,10,11] (fun k=>[(12,I k)]) (fun k=>[.bytes s]) 0 ?_ ?_ ?_
 ·exact⟨by omega,by omega⟩
 ·simp only[go_sem];exact zSm Yj
 intro k ⟨hk,hk2⟩;have hL:eO.length=38:=rfl;simp only[go_sem]
 (refine zW qw zn @u8g (z2 ?_ ?_)<;>(repeat with_reducible intro hc))
 ·refine W9 (ι:=Nat) (fun j=>j≤38) (fun j=>38-j) [0,3,5,10,11,12,17,18] (fun j=>[(6,B ((eO.take j).any (fun x=>decide (s.getD k 0=x)))),(19,I j)]) (fun j=>[.bytes s,.bytes eO]) 0 ?_ ?_ ?_
  ·omega
  ·simp only[go_sem,eO];exact zSm (zx @eO.eq_1 (zx @List.take_zero.{0} @List.any_nil.{0}))
  intro j hj;simp only[go_sem]
  (refine zW qw zn @u8g (z3 ?_ ?_ ?_)<;>(repeat with_reducible intro hc))
  ·refine Zq (j+1) ?_
   have e1:((eO.take (j+1)).any fun x=>decide (s.getD k 0=x))=(((eO.take j).any fun x=>decide (s.getD k 0=x))||decide (s.getD k 0=eO.getD j 0)):=Jc _ eO 0 j (by omega);have e2:((((s.getD k 0).toNat:Int)=((eO.getD j 0).toNat:Int)))=(s.getD k 0=eO.getD j 0):=by rw[Int.natCast_inj,Vc]
   exact zSm (zx @e1 @e2)
  ·have e0:j=38:=by omega
   subst e0;have e:s.all okc=false:=pu (d:=0) (by assumption) (by rw[si];exact hc);exact zEe (zx @aU.eq_1 (zx @e @Um))
  ·have e0:j=38:=by omega
   subst e0;refine⟨k+1,⟨by omega,fun j hj=>?_⟩,by omega,?_⟩
   ·by_cases e:j=k
    ·subst e;rw[si];exact hc
    ·exact hk2 j (by omega)
   exact zFr [0] Yj
 ·have e:s.all okc=true:=tu okc s 0 fun j hj=>hk2 j (by omega)
  (refine zE2 (zx @aU.eq_1 (zx @e @Ui)) ?_;(try simp(disch:=omega) only[go_sem,aa,aU,e,Ui,I,B,S,zj]))
  cases s<;>simp<;>omega
theorem ext_indexByte {P : Program} {hp : List ABlk} {g : FuncId} {fn : Func} (hf : P.funcs[g]? = some fn) (hn : (fn.name == "runtime.NumGoroutine") = false) (hb : fn.body.isNone = true) (hx : Extern.findNext fn = none)
  (he:Extern.find fn=some Extern.BytealgIndexByte.indexByte) (s:List UInt8) (c:UInt8):wO P hp g [S s,.d (.int .u8 c.toNat)] (I (Lib.indexByte s c)):=by
 intro E ρ w us hH hus;refine⟨.int .i64 (Lib.indexByte s c),.d _ _ (.int _ _),fun w' hbl=>?_⟩
 match us,hus with
 | [u,u'],hus=>
   have hu:=hus.2 0 _ u rfl rfl;have hu':=hus.2 1 _ u' rfl rfl;cases hu with|d _ _ hu=>cases hu with|str _=>
   cases hu' with|d _ _ hu'=>cases hu' with|int _ _=>
   rw[VM hf hn hb hx he]
   have:=Lib.run_indexByteString (P:=P) ⟨s.toArray⟩ (c.toNat:Int) w';have e:((c.toNat:Int)).toNat.toUInt8=c:=by simp
   rw[e] at this;show(Extern.BytealgIndexByte.indexByte #[.string ⟨s.toArray⟩,.int .u8 (c.toNat:Int)] |>.run P w').andThen _=_;rw[this];rfl
theorem yB(s:List UInt8)(c:UInt8):ab prog [] 266 [S s,.d (.int .u8 c.toNat)] (ret (I (Lib.indexByte s c))):=by
 refine zJ func266 ntmps266 results266 ?_;simp only[go_sem]
 (repeat' first
|(with_reducible refine AR.f ?_)
|(with_reducible refine AWP.cond rfl ?_ ?_<;>intro hc<;>(try simp only[hcs,R1,Sa,Sb] at hc))
|((first|((first|(with_reducible first|refine zR ?_));intro K hK)|refine acallHK_ext (ext_indexByte func272 (by kernel_rfl) (by kernel_rfl) (by kernel_rfl) (by kernel_rfl) s c) ?_)<;>(try simp(disch:=omega) only[go_sem,aa])<;>(repeat' with_reducible refine Su ?_ ?_)<;>(try(with_reducible refine hK _ ?_;clear hK K)))
|omega)
 exact zEe Yj
theorem uK(s:List UInt8)(c:UInt8):ab prog [] 251 [S s,S [c]] (ret (I (Lib.indexByte s c))):=by
 refine zJ func251 ntmps251 results251 ?_;simp only[go_sem]
 (refine zW qw (z1 (yB s c)) Yj (z2 ?_ ?_)<;>(repeat with_reducible intro hc))
 ·(refine zE2 Yj ?_;(try simp(disch:=omega) only[go_sem,aa,I,B,S,zj]))
  subst hc;simp[Lib.indexByte]
 ·exact zEe Yj
theorem IA(s:List UInt8)(c:UInt8):ab prog [] 249 [S s,S [c]] (ret (I (Lib.indexByte s c))):=by refine zJ func249 ntmps249 results249 ?_;simp only[go_sem];refine zW qw (z1 (uK s c)) Yj (z1 ?_);exact zEe Yj
theorem yh(s p:List UInt8)(hp:okS p)(hs:okS s):ab prog [] 194 [S s,S p] (ret (B (decide (p.length≤s.length∧s.take p.length=p)))):=by
 unfold okS at hp hs;refine zJ func194 ntmps194 results194 ?_;simp only[go_sem];refine zW qw zn Yj (z1 ?_)
 all_goals(refine zE2 Yj ?_;(try simp(disch:=omega) only[go_sem,aa,I,B,S,zj]))
 rw[Tv];simp
theorem AO(s p:List UInt8)(hp:okS p)(hs:okS s):ab prog [] 134 [S s,S p] (ret (B (decide (p.length≤s.length∧s.take p.length=p)))):=by
 refine zJ func134 ntmps134 results134 ?_;simp only[go_sem];refine zW qw (z1 (yh s p hp hs)) Yj (z1 ?_)
 all_goals exact zEe Yj
theorem jt{P:Program}{g:FuncId}{xs:List AV}{x:AV}{us:List Value}{u:Value}(c:ab P [] g xs (ret x))(hxs:gG xs=some us)(hx:bv x=some u)(w:World)(ht:eY w) :
  Calls P g us.toArray w fun e w'=>e=.returned u∧Below w.heap.size w w':=by
 obtain⟨h1,h2⟩:=gc hxs
 have hH:X5 (⟨w,fun _=>False,fun _=>False,[],by simp,by simp,ht,by simp⟩:Ent) [] [] w:=
  ⟨rfl,by simp,by simp,by simp,Fr.refl _ _⟩
 refine(c.2 ⟨w,fun _=>False,fun _=>False,[],by simp,by simp,ht,by simp⟩ w us rfl hH ⟨h1,fun j x' u' hx' hu'=>?_⟩).mono fun e w' ⟨u',v,hp',ρ',q1,q2,q3,q4,q5⟩=>?_
 ·obtain⟨u2,q,hs⟩:=h2 j x' hx'
  rw[hu'] at q;injection q with q;subst q;exact mP x' u' hs
 ·obtain⟨rfl,rfl⟩:=q2
  exact⟨by rw[q1,sR q5 u hx],q3.fr.os,q3.fr.tape,q3.fr.output,q3.fr.size,fun k hk=>q3.fr.block k hk (by simp)⟩
open Go Go.RowKit Go.Shelf
attribute [local go_sem] Oper.semAt_some
def Et(W:World)(b:Nat):Nat:=match W.cell? ⟨b,0,none⟩ with
 |some (.string s)=>s.size
 |_=>0
def splitB:List UInt8→List (List UInt8)
 |[]=>[[]]
 | c::r=>if c=47 then[]::splitB r else match splitB r with
   |p::ps=>(c::p)::ps
   |[]=>[[c]]
def cB(r:List UInt8):Bool:=(splitB r).all aU
theorem nA(r:List UInt8):splitB r≠[]:=by
 induction r with
 |nil=>simp[splitB]
 | cons c r ih=>
   unfold splitB;split
   ·simp
   ·split<;>simp
theorem Fw(r:List UInt8):(Lib.indexByte r 47=-1∧splitB r=[r])∨∃ i:Nat,Lib.indexByte r 47=(i:Int)∧i<r.length∧splitB r=r.take i::splitB (r.drop (i+1)):=by
 induction r with
 |nil=>exact .inl ⟨rfl,rfl⟩
 | cons c r ih=>
   by_cases h:c=47
   ·subst h
    exact .inr ⟨0,by simp[Lib.indexByte],by simp,by simp[splitB]⟩
   ·rcases ih with⟨e1,e2⟩|⟨i,e1,e2,e3⟩
    ·refine .inl ⟨by simp[Lib.indexByte,h,e1],by simp[splitB,h,e2]⟩
    ·refine .inr ⟨i+1,?_,by simp;omega,by simp[splitB,h,e3]⟩
     simp only[Lib.indexByte,e1];rw[RI (by simpa using h),RI (by simp)];omega
theorem Al(r:List UInt8)(W:World)(ht:eY W):Calls prog 249 #[aW r,aW [47]] W fun e W'=>e=.returned (.int .i64 (Lib.indexByte r 47))∧Below W.heap.size W W':=
 jt (IA r 47) rfl rfl W ht
theorem O7(n l Bs Bp Bv:Nat)(J:List UInt8→World→Prop)(Jx:World→Prop)
  (hc:∀ r W,J r W→W.cell? ⟨Bs,0,none⟩=some (aW r)∧W.frozen? ⟨Bs,0,none⟩=false∧W.cell? ⟨Bp,0,none⟩=some (aW [47])∧W.cell? ⟨Bv,0,none⟩=some (.int .i64 0))
  (hs:∀ r r' W,J r W→J r' (W.setCell ⟨Bs,0,none⟩ (aW r'))) (hb:∀ r W W',J r W→Below W.heap.size W W'→J r W') (ht:∀ r W,J r W→eY W)
  (hY:∀ r W p,J r W→p.length≤200→YieldAt Fence.wide (n-1) prog l #[aW p] W (fun e W'=>(e=.returned (.bool true)∧aU p=true∧J r W')∨(e=.returned (.bool false)∧aU p=false∧Jx W')))
  (r0:List UInt8) (hr0:r0.length≤200) (W:World) (h0:J r0 W) :
  CallsIn Fence.wide n prog 247 #[.func (.yield l) #[] #[],.pointer (some ⟨Bp,0,none⟩),.pointer (some ⟨Bs,0,none⟩),.pointer (some ⟨Bv,0,none⟩)] W fun e W'=>
   (∃ v,e=.returned v)∧((cB r0=true∧∃ r,J r W')∨(cB r0=false∧Jx W')):=by
 refine callsIn_of_wp func247 rfl Yj ?_ rfl;simp only[ntmps247,T7,RQ,Sd,Nat.reduceAdd,Nat.reduceSub,WH,WI,List.push_toArray,WR,Sx,SB];unfold aW at hc;obtain⟨h1,h2,h3,h4⟩:=hc _ _ h0
 gi_wp2
 gi_loopw [] (fun wr=>∃ r,J r wr∧r.length≤200∧cB r0=cB r) (fun wr=>Et wr Bs)
 case atStart=>exact⟨r0,h0,hr0,rfl⟩
 case round=>
  obtain⟨r,hJ,hrl,hal⟩:=hrel;obtain⟨q1,q2,q3,q4⟩:=hc _ _ hJ;have hm0:Et wr Bs=r.length:=by unfold Et;rw[q1];simp[ByteArray.size]
  gi_wp2
  refine⟨Yj,fun h=>by simp[Fence.wide] at h,(VP.2 (show Calls _ _ #[.string ⟨r.toArray⟩,.string ⟨#[47]⟩] _ _ from Al r wr (ht _ _ hJ))).mono ?_⟩
  rintro e w' ⟨rfl,hbl⟩
  have hJ':=hb _ _ _ hJ hbl;clear q1 q2 q3 q4;obtain⟨q1,q2,q3,q4⟩:=hc _ _ hJ';rcases Fw r with⟨ei,es⟩|⟨i,ei,hil,es⟩
  ·rw[ei]
   have ea:cB r=aU r:=by unfold cB;rw[es];simp
   obtain⟨fn,tmps,assign,body,hy,hR⟩:=hY r w' r hJ' hrl;unfold aW at hy
   gi_wp2
   refine⟨fun h=>by simp[Fence.wide] at h,hR.mono ?_⟩
   rintro e W3 (⟨rfl,hn,hJ3⟩|⟨rfl,hn,hJx3⟩)
   ·gi_wp2
    go_end0
    exact⟨⟨_,rfl⟩,.inl ⟨by rw[hal,ea,hn],r,hJ3⟩⟩
   ·gi_wp2
    go_end0
    exact⟨⟨_,rfl⟩,.inr ⟨by rw[hal,ea,hn],hJx3⟩⟩
  ·rw[ei]
   have e0:aW (r.take i)=.string ((⟨r.toArray⟩:ByteArray).extract 0 i):=by unfold aW;rw[ji];simp
   have ea:cB r=(aU (r.take i)&&cB (r.drop (i+1))):=by unfold cB;rw[es];simp
   obtain⟨fn,tmps,assign,body,hy,hR⟩:=hY r w' (r.take i) hJ' (by rw[RV];omega);rw[e0] at hy
   gi_wp2
   refine⟨fun h=>by simp[Fence.wide] at h,hR.mono ?_⟩
   rintro e W3 (⟨rfl,hn,hJ3⟩|⟨rfl,hn,hJx3⟩)
   ·obtain⟨t1,t2,t3,t4⟩:=hc _ _ hJ3
    gi_wp2
    have e2:Value.string ((⟨r.toArray⟩:ByteArray).extract (i+1) r.length)=aW (r.drop (i+1)):=by unfold aW;rw[ji,RK (by simp)]
    have hJ4:=hs r (r.drop (i+1)) W3 hJ3;rw[e2];refine⟨⟨_,hJ4,by rw[RZ];omega,by rw[hal,ea,hn];rfl⟩,?_⟩;rw[hm0];unfold Et;rw[(hc _ _ hJ4).1];simp[ByteArray.size];omega
   ·gi_wp2
    refine bodyPost_ret (results_none rfl _ _ _) rfl ?_;exact⟨⟨_,rfl⟩,.inr ⟨by rw[hal,ea,hn];rfl,hJx3⟩⟩
theorem Ai(p:List UInt8)(h:p.length≤200)(W:World)(ht:eY W):Calls prog 81 #[.string ⟨p.toArray⟩] W fun e W'=>e=.returned (.bool (aU p))∧Below W.heap.size W W':=
 jt (iC p (by unfold okS;omega)) rfl rfl W ht
theorem yr(p:List UInt8)(h:okS p)(W:World)(ht:eY W):Calls prog 134 #[.string ⟨p.toArray⟩,.string ⟨#[47]⟩] W fun e W'=>e=.returned (.bool (decide (1≤p.length∧p.take 1=[47])))∧Below W.heap.size W W':=
 jt (AO p [47] (by unfold okS;decide) h) rfl rfl W ht
theorem Cy(s:List UInt8)(w:World):Calls prog 135 #[.string ⟨s.toArray⟩,.string ⟨#[47]⟩] w fun e w'=>
  e = .returned (.func (.func 247) #[] #[.pointer (some ⟨w.heap.size+1,0,none⟩),.pointer (some ⟨w.heap.size,0,none⟩),.pointer (some ⟨w.heap.size+2,0,none⟩)])∧
    ∃ a b c,w'=((w.alloc (.cells #[.string ⟨s.toArray⟩] a)).alloc (.cells #[.string ⟨#[47]⟩] b)).alloc (.cells #[.int .i64 0] c):=by
 go_enter func135,ntmps135
 go_wp2
 go_ret
 exact⟨rfl,_,_,_,rfl⟩
def br(s:List UInt8):Bool:=decide (s=[47])||(decide (s.length≤200)&&(decide (1≤s.length∧s.take 1=[47])&&cB (s.drop 1)))
structure GJ (w:World) (B:Nat) (rec:Loop) (r:List UInt8) (W:World):Prop where
 below:Below w.heap.size w W
 res:W.cell? ⟨w.heap.size,0,none⟩=some (.bool false)
 resf:W.frozen? ⟨w.heap.size,0,none⟩=false
 s:W.cell? ⟨B,0,none⟩=some (aW r)
 sf:W.frozen? ⟨B,0,none⟩=false
 p:W.cell? ⟨B+1,0,none⟩=some (aW [47])
 v:W.cell? ⟨B+2,0,none⟩=some (.int .i64 0)
 d:W.heap[B+3]?=some (.deferred (some []))
 l:W.heap[B+4]?=some (.loop rec)
theorem gR{W:World}{k k':Nat}{v:Value}(h:k≠k'):(W.setCell ⟨k,0,none⟩ v).cell? ⟨k',0,none⟩=W.cell? ⟨k',0,none⟩:=by
 have:(⟨k,0,none⟩:Addr)≠⟨k',0,none⟩:=fun e=>h (by injection e)
 simp[World.cell?_setCell_other,this]
theorem zu{W:World}{k:Nat}{o:Obj}(h:W.heap[k]?=some o):k<W.heap.size:=(Tr.1 h).1
section
variable {w W W':World} {B:Nat} {rec:Loop} {r:List UInt8}
theorem GJ.write(hB:w.heap.size<B)(h:GJ w B rec r W)(r':List UInt8):GJ w B rec r' (W.setCell ⟨B,0,none⟩ (aW r')):=
 ⟨h.below.setCell (by simp only;omega) _,by rw[gR (by omega)];exact h.res,by rw[UW];exact h.resf,Us _ _ _ (by rw[h.s];rfl),by rw[UW];exact h.sf,
  by rw[gR (by omega)];exact h.p,by rw[gR (by omega)];exact h.v,by rw[UN _ _ _ _ (by simp only;omega)];exact h.d,by rw[UN _ _ _ _ (by simp only;omega)];exact h.l⟩
theorem GJ.mark(hB:w.heap.size<B)(h:GJ w B rec r W):GJ w B rec r (W.setCell ⟨w.heap.size,0,none⟩ (.bool false)):=
 ⟨h.below.setCell (RP _) _,Us _ _ _ (by rw[h.res];rfl),by rw[UW];exact h.resf,by rw[gR (by omega)];exact h.s,by rw[UW];exact h.sf,
  by rw[gR (by omega)];exact h.p,by rw[gR (by omega)];exact h.v,by rw[UN _ _ _ _ (by simp only;omega)];exact h.d,by rw[UN _ _ _ _ (by simp only;omega)];exact h.l⟩
theorem GJ.grow(hB:w.heap.size<B)(h:GJ w B rec r W)(hb:Below W.heap.size W W'):GJ w B rec r W':=by
 have hl:=zu h.l
 exact⟨h.below.trans (hb.mono h.below.size),by rw[hb.cell (by simp only;omega)];exact h.res,by rw[hb.frozen (by simp only;omega)];exact h.resf,by rw[hb.cell (by simp only;omega)];exact h.s,by rw[hb.frozen (by simp only;omega)];exact h.sf,
  by rw[hb.cell (by simp only;omega)];exact h.p,by rw[hb.cell (by simp only;omega)];exact h.v,by rw[hb.block _ (by omega)];exact h.d,by rw[hb.block _ (by omega)];exact h.l⟩
theorem GJ.turn(hB:w.heap.size<B)(h:GJ w B rec r W)(rec':Loop):GJ w B rec' r (W.putObj (B+4) (.loop rec')):=by
 have hl:=zu h.l;have hcell:∀ k,k≠B+4→(W.putObj (B+4) (.loop rec')).cell? ⟨k,0,none⟩=W.cell? ⟨k,0,none⟩:=fun k hk=>Uw (World.putObj_heap_other hk)
 have hfz:∀ k,k≠B+4→(W.putObj (B+4) (.loop rec')).frozen? ⟨k,0,none⟩=W.frozen? ⟨k,0,none⟩:=fun k hk=>Ws (World.putObj_heap_other hk)
 exact⟨h.below.trans ⟨rfl,rfl,rfl,by simp,fun k hk=>World.putObj_heap_other (by omega)⟩,by rw[hcell _ (by omega)];exact h.res,by rw[hfz _ (by omega)];exact h.resf,by rw[hcell _ (by omega)];exact h.s,by rw[hfz _ (by omega)];exact h.sf,
  by rw[hcell _ (by omega)];exact h.p,by rw[hcell _ (by omega)];exact h.v,by rw[World.putObj_heap_other (by omega)];exact h.d,World.putObj_heap_same hl⟩
end
theorem D2{assign body:Code}{Q:Exit→Act→World→Prop}{tm:Array Value}{pt:Tmp}{g:Operand}{w W0:World}{B:Nat}(a₁:Value→Act)(hB:w.heap.size<B)(htw:eY w)
  (hg:Act.eval { tmps:=tm,defers:=[] } g=.func (.func 247) #[] #[.pointer (some ⟨B+1,0,none⟩),.pointer (some ⟨B,0,none⟩),.pointer (some ⟨B+2,0,none⟩)])
  (r0:List UInt8) (hr0:r0.length≤200) (hsz:W0.heap.size=B+3) (hJ0:∀ rec,GJ w B rec r0 ((W0.alloc (.deferred (some []))).alloc (.loop rec)))
  (hassign:∀(l:Nat) (x:Value) (W:World) (K:Act→World→Prop),K (a₁ x) W→assign.wpIn (Fence.wide.inRound l) 7 prog (Exit.then K (fun _ _ _=>False)) { tmps:=tm.setIfInBounds pt x,defers:=[] } W)
  (hbody:∀(l:Nat) (x:List UInt8) (W:World),eY W→x.length≤200→w.heap.size<W.heap.size→W.cell? ⟨w.heap.size,0,none⟩=some (.bool false)→W.frozen? ⟨w.heap.size,0,none⟩=false→
   body.wpIn (Fence.wide.inRound l) 7 prog (fun e _ W'=>(e=.normal∧aU x=true∧Below W.heap.size W W')∨(e=.ret∧aU x=false∧∃ W2,Below W.heap.size W W2∧W'=W2.setCell ⟨w.heap.size,0,none⟩ (.bool false))) (a₁ (aW x)) W)
  (hdone:∀(W:World) (rec:Loop) (r:List UInt8),cB r0=true→GJ w B rec r W→Q .normal { tmps:=tm,defers:=[{ target:=.collected (B+3),args:=#[] }] } W)
  (hstop:∀(W:World) (rec:Loop) (r:List UInt8),cB r0=false→GJ w B rec r W→Code.ret.wpIn Fence.wide 9 prog Q { tmps:=tm,defers:=[{ target:=.collected (B+3),args:=#[] }] } W) :
  (Code.rangeFunc g #[pt] assign body).wpIn Fence.wide 9 prog Q { tmps:=tm,defers:=[] } W0:=by
 refine wpIn_rangeFunc ?_;intro fn hfn;obtain⟨rec,hrec⟩:∃ rec:LoopState→Option Code→Loop,rec=fun st pe=>{ state:=st,pending:=pe,fn:=fn,tmps:=tm,params:=#[pt],assign:=assign,body:=body,defers:=B+3 }:=⟨_,rfl⟩
 have hr:∀ st pe,rec st pe={ state:=st,pending:=pe,fn:=fn,tmps:=tm,params:=#[pt],assign:=assign,body:=body,defers:=B+3 }:=fun st pe=>by rw[hrec]
 have hJ:=hJ0 (rec .ready none);obtain⟨W1,hW1⟩:∃ W1,(W0.alloc (.deferred (some []))).alloc (.loop (rec .ready none))=W1:=⟨_,rfl⟩;rw[hW1] at hJ
 refine⟨B+4,[{ target:=.collected (B+3),args:=#[] }],W1,
  { target:=.fn (.func 247) #[.pointer (some ⟨B+1,0,none⟩),.pointer (some ⟨B,0,none⟩),.pointer (some ⟨B+2,0,none⟩)],args:=#[.func (.yield (B+4)) #[] #[]] },W1,247,
  #[.func (.yield (B+4)) #[] #[],.pointer (some ⟨B+1,0,none⟩),.pointer (some ⟨B,0,none⟩),.pointer (some ⟨B+2,0,none⟩)],W1,?_,?_,fun _ _=>trivial,?_,fun h=>by simp[Fence.wide] at h,?_⟩
 ·have:=run_enterLoop_outer (P:=prog) (w:=W0) fn tm #[pt] assign body
  rw[hsz,show B+3+1=B+4 from rfl,←hr,hW1] at this;exact this
 ·simp only[resolve,hg]
  simp[go_sem]
 ·simp[invoke,go_sem,enters_of func247 (by kernel_rfl) rfl]
 ·refine(O7 8 (B+4) B (B+1) (B+2) (fun r W=>GJ w B (rec .ready none) r W) (fun W=>∃ r,GJ w B (rec .done (some .ret)) r W) (fun r W h=>⟨h.s,h.sf,h.p,h.v⟩)
   (fun r r' W h=>h.write hB r') (fun r W W' h hb=>h.grow hB hb) (fun r W h=>htw.below h.below) ?_ r0 hr0 W1 hJ).mono ?_
  ·intro r W x hj hx
   have hy:=run_yield (P:=prog) (args:=#[aW x]) hj.l (by rw[hr];rfl);rw[hr] at hy;have hy2:(Instr.yield (B+4) #[aW x]).run prog W=.ok (.round (B+4) fn (tm.setIfInBounds pt (aW x)) assign body) W:=by rw[hy];simp
   refine⟨fn,_,assign,body,hy2,roundIn_of_wpIn hfn ?_⟩;refine hassign _ (aW x) W _ ?_;refine⟨_,run_beginRound hj.l (by rw[hr]),?_⟩;have hj2:=hj.turn hB ({ rec .ready none with state:=.busy });have hl2:=zu hj2.l;have hl3:=WY (show w.heap.size<B+4 by omega) hl2;refine wpIn_mono (hbody _ x _ (htw.below hj2.below) hx hl3 hj2.res hj2.resf) ?_
   rintro e a3 W3 (⟨rfl,hn,hb3⟩|⟨rfl,hn,W2,hb2,rfl⟩)
   ·have hj3:=hj2.grow hB hb3
    have:=run_endRound (P:=prog) none hj3.l;refine⟨_,_,this,.inl ⟨rfl,hn,?_⟩⟩;have hj4:=hj3.turn hB (rec .ready none);rw[hr] at hj4;rw[hr];exact hj4
   ·have hj3:=(hj2.grow hB hb2).mark hB
    have:=run_endRound (P:=prog) (some .ret) hj3.l;refine⟨_,_,this,.inr ⟨rfl,hn,r,?_⟩⟩;have hj4:=hj3.turn hB (rec .done (some .ret));simp only[hr] at hj4 ⊢;exact hj4
  ·rintro e W2 ⟨⟨v,rfl⟩,(⟨ha,r,hj⟩|⟨ha,r,hj⟩)⟩
   ·have:=run_endLoop (P:=prog) hj.l (by rw[hr];simp)
    exact⟨_,_,this,by rw[hr];exact hdone _ _ r ha (hj.turn hB _)⟩
   ·have:=run_endLoop (P:=prog) hj.l (by rw[hr];simp)
    exact⟨_,_,this,by rw[hr];exact hstop _ _ r ha (hj.turn hB _)⟩
theorem BW{w w':World}{r:List UInt8}(hb:Below w.heap.size w w')(hB:w.heap.size<w'.heap.size)(c1:w'.cell? ⟨w.heap.size,0,none⟩=some (.bool false))(c2:w'.frozen? ⟨w.heap.size,0,none⟩=false)(ta tb tc:TypeId)(rec:Loop) :
  GJ w w'.heap.size rec r (((((w'.alloc (.cells #[.string ⟨r.toArray⟩] ta)).alloc (.cells #[.string ⟨#[47]⟩] tb)).alloc (.cells #[.int .i64 0] tc)).alloc (.deferred (some []))).alloc (.loop rec)):=by
 obtain⟨W1,h1⟩:∃ W1,w'.alloc (.cells #[.string ⟨r.toArray⟩] ta)=W1:=⟨_,rfl⟩;have a1:=World.alloc_heap_new w' (.cells #[.string ⟨r.toArray⟩] ta);have s1:W1.heap.size=w'.heap.size+1:=by rw[←h1,UI]
 have k1:∀ k,k<w'.heap.size→W1.heap[k]?=w'.heap[k]?:=fun k hk=>by rw[←h1];exact U8 _ _ _ hk
 rw[h1] at a1 ⊢;obtain⟨W2,h2⟩:∃ W2,W1.alloc (.cells #[.string ⟨#[47]⟩] tb)=W2:=⟨_,rfl⟩;have a2:=World.alloc_heap_new W1 (.cells #[.string ⟨#[47]⟩] tb);have s2:W2.heap.size=w'.heap.size+2:=by rw[←h2,UI,s1]
 have k2:∀ k,k<W1.heap.size→W2.heap[k]?=W1.heap[k]?:=fun k hk=>by rw[←h2];exact U8 _ _ _ hk
 rw[h2,s1] at a2;rw[h2];obtain⟨W3,h3⟩:∃ W3,W2.alloc (.cells #[.int .i64 0] tc)=W3:=⟨_,rfl⟩;have a3:=World.alloc_heap_new W2 (.cells #[.int .i64 0] tc);have s3:W3.heap.size=w'.heap.size+3:=by rw[←h3,UI,s2]
 have k3:∀ k,k<W2.heap.size→W3.heap[k]?=W2.heap[k]?:=fun k hk=>by rw[←h3];exact U8 _ _ _ hk
 rw[h3,s2] at a3;rw[h3];obtain⟨W4,h4⟩:∃ W4,W3.alloc (.deferred (some []))=W4:=⟨_,rfl⟩;have a4:=World.alloc_heap_new W3 (.deferred (some []));have s4:W4.heap.size=w'.heap.size+4:=by rw[←h4,UI,s3]
 have k4:∀ k,k<W3.heap.size→W4.heap[k]?=W3.heap[k]?:=fun k hk=>by rw[←h4];exact U8 _ _ _ hk
 rw[h4,s3] at a4;rw[h4];obtain⟨W5,h5⟩:∃ W5,W4.alloc (.loop rec)=W5:=⟨_,rfl⟩;have a5:=World.alloc_heap_new W4 (.loop rec);have s5:W5.heap.size=w'.heap.size+5:=by rw[←h5,UI,s4]
 have k5:∀ k,k<W4.heap.size→W5.heap[k]?=W4.heap[k]?:=fun k hk=>by rw[←h5];exact U8 _ _ _ hk
 rw[h5,s4] at a5;rw[h5];have hbb:Below w'.heap.size w' W5:=by rw[←h5,←h4,←h3,←h2,←h1];exact(((((Below.refl _ w').alloc (RP _) _).alloc (by simp) _).alloc (by simp;omega) _).alloc (by simp;omega) _).alloc (by simp;omega) _
 have hk:∀ k,k<w'.heap.size→W5.heap[k]?=w'.heap[k]?:=fun k hk=>hbb.block k hk
 have e0:W5.heap[w'.heap.size]?=some (.cells #[.string ⟨r.toArray⟩] ta):=by rw[k5 _ (by omega),k4 _ (by omega),k3 _ (by omega),k2 _ (by omega)];exact a1
 have e1:W5.heap[w'.heap.size+1]?=some (.cells #[.string ⟨#[47]⟩] tb):=by rw[k5 _ (by omega),k4 _ (by omega),k3 _ (by omega)];exact a2
 have e2:W5.heap[w'.heap.size+2]?=some (.cells #[.int .i64 0] tc):=by rw[k5 _ (by omega),k4 _ (by omega)];exact a3
 exact⟨hb.trans (hbb.mono (by omega)),by rw[Uw (hk _ hB)];exact c1,by rw[Ws (hk _ hB)];exact c2,
  by rw[bc e0];rfl,by rw[iE e0];rfl,by rw[bc e1];rfl,by rw[bc e2];rfl,by rw[k5 _ (by omega)];exact a4,a5⟩
theorem mQ(tmps:Array Value)(W:World)(b:Nat)(v:Bool)(ht:tmps.getD 2 undef=.pointer (some ⟨b,0,none⟩))(hc:W.cell? ⟨b,0,none⟩=some (.bool v)):(results Tryz.f78 tmps).run prog W=.ok (.bool v) W:=by rw[uA,results78];simp[oP,ht,go_sem,hc]
theorem An(W:World)(v:Value)(t:TypeId):(W.alloc (.cells #[v] t)).cell? ⟨W.heap.size,0,none⟩=some v∧(W.alloc (.cells #[v] t)).frozen? ⟨W.heap.size,0,none⟩=false:=by have e:=World.alloc_heap_new W (.cells #[v] t);exact⟨by rw[bc e];rfl,by rw[iE e];rfl⟩
theorem Nw(s:List UInt8)(h:okS s)(w:World)(htw:eY w):CallsIn Fence.wide 9 prog 78 #[.string ⟨s.toArray⟩] w fun e w'=>e=.returned (.bool (br s))∧Below w.heap.size w w':=by
 refine callsIn_of_wp_marks func78 rfl Yj ?_ rfl;simp only[ntmps78,T7,RQ,Sd,Nat.reduceAdd,Nat.reduceSub,WH,WI,List.push_toArray,WR,Sx,SB];have hA:=An w (.bool false) 4;have hB:=An w (.bool true) 4;have hbA:Below w.heap.size w (w.alloc (.cells #[.bool false] 4)):=(Below.refl _ w).alloc (RP _) _;have hbB:Below w.heap.size w (w.alloc (.cells #[.bool true] 4)):=(Below.refl _ w).alloc (RP _) _
 by_cases h1:s=[47]
 ·subst h1
  gi_wp2
  exact⟨_,mQ _ _ w.heap.size true rfl hB.1,rfl,hbB⟩
 have g1:br s=(decide (s.length≤200)&&(decide (1≤s.length∧s.take 1=[47])&&cB (s.drop 1))):=by unfold br;rw[R0 h1,V9]
 by_cases h2:200<s.length
 ·have g2:br s=false:=by rw[g1,R0 (by omega),Um]
  gi_wp2
  ·rename_i hx;exact absurd (by simpa using hx) h1
  ·refine⟨Yj,?_⟩
   gi_wp2
   exact⟨_,mQ _ _ w.heap.size false rfl hA.1,by rw[g2],hbA⟩
 ·have g2:br s=(decide (1≤s.length∧s.take 1=[47])&&cB (s.drop 1)):=by rw[g1,decide_eq_true (by omega),Ui]
  gi_wp2
  ·rename_i hx;exact absurd (by simpa using hx) h1
  refine⟨Yj,(VP.2 (yr s h _ (htw.below hbA))).mono ?_⟩
  rintro e w' ⟨rfl,hbl⟩
  have hbl':=hbA.trans (hbl.mono hbA.size);have c1:w'.cell? ⟨w.heap.size,0,none⟩=some (.bool false):=by rw[hbl.cell (by simp)];exact hA.1
  have c2:w'.frozen? ⟨w.heap.size,0,none⟩=false:=by rw[hbl.frozen (by simp)];exact hA.2
  have hszB:w.heap.size<w'.heap.size:=by have:=hbl.size;simp at this;omega
  by_cases h3:1≤s.length∧s.take 1=[47]
  ·have g3:br s=cB s.tail:=by rw[g2,decide_eq_true h3,Ui,List.drop_one]
   rw[decide_eq_true h3];have e1:(⟨s.toArray⟩:ByteArray).extract 1 s.length=⟨s.tail.toArray⟩:=by rw[ji,RK (by simp),List.drop_one]
   gi_wp2
   refine⟨Yj,(VP.2 (Cy s.tail w')).mono ?_⟩
   rintro e w2 ⟨rfl,ta,tb,tc,rfl⟩
   gi_wp2
   refine D2 (w:=w) (B:=w'.heap.size) (fun x=>{ tmps:=#[.string ⟨s.toArray⟩,undef,.pointer (some ⟨w.heap.size,0,none⟩),x,.string ⟨s.toArray⟩,.bool false,.string ⟨s.toArray⟩,.int .i64 s.length,.bool (decide (200<(s.length:Int))),.bool (decide (200<(s.length:Int))),.string ⟨s.toArray⟩,.bool true,.bool false,.bool (decide (200<(s.length:Int))),.string ⟨s.toArray⟩,.string ⟨s.tail.toArray⟩,.func (.func 247) #[] #[.pointer (some ⟨w'.heap.size+1,0,none⟩),.pointer (some ⟨w'.heap.size,0,none⟩),.pointer (some ⟨w'.heap.size+2,0,none⟩)],x,undef,undef,undef],defers:=[] })
    hszB htw rfl s.tail (by simp;omega) (by simp[UI]) (fun rec=>BW hbl' hszB c1 c2 _ _ _ _) ?_ ?_ ?_ ?_
   ·intro l x W K hK
    gi_wp2
    exact hK
   ·intro l x W htW hx hlt q1 q2
    gi_wp2
    refine⟨Yj,((VP.2 (Ai x hx W htW)).inRound l).mono ?_⟩
    rintro e w3 ⟨rfl,hb3⟩
    have u1:w3.cell? ⟨w.heap.size,0,none⟩=some (.bool false):=by rw[hb3.cell (by simp only;omega)];exact q1
    have u2:w3.frozen? ⟨w.heap.size,0,none⟩=false:=by rw[hb3.frozen (by simp only;omega)];exact q2
    by_cases hn:aU x=true
    ·rw[hn]
     gi_wp2
    ·rw[Tx] at hn
     rw[hn]
     gi_wp2
     exact⟨w3,hb3,rfl⟩
   ·intro W rec r ha hj
    have r1:=hj.res;have r2:=hj.resf
    gi_wp2
    refine⟨by simp,.inl ⟨_,_,rfl,run_takeDeferred (ds:=[]) (by rw[UN _ _ _ _ (by simp only;omega)];exact hj.d),?_⟩⟩;refine⟨_,mQ _ _ w.heap.size true rfl ?_,by rw[g3,ha],?_⟩
    ·rw[Uw (World.putObj_heap_other (by simp only;omega))]
     exact Us _ _ _ (by rw[r1];rfl)
    ·exact(hj.below.setCell (by simp) _).trans ⟨rfl,rfl,rfl,by simp,fun k hk=>World.putObj_heap_other (by omega)⟩
   ·intro W rec r ha hj
    gi_wp2
    refine⟨by simp,.inl ⟨_,_,rfl,run_takeDeferred (ds:=[]) hj.d,?_⟩⟩;refine⟨_,mQ _ _ w.heap.size false rfl ?_,by rw[g3,ha],?_⟩
    ·rw[Uw (World.putObj_heap_other (by simp only;omega))]
     exact hj.res
    ·exact hj.below.trans ⟨rfl,rfl,rfl,by simp,fun k hk=>World.putObj_heap_other (by omega)⟩
  ·have g3:br s=false:=by rw[g2,R0 h3,Um]
   rw[R0 h3]
   gi_wp2
   exact⟨_,mQ _ _ w.heap.size false rfl (Us _ _ _ (by rw[c1];rfl)),by rw[g3],hbl'.setCell (by simp) _⟩
theorem mE{P:Program}{g:FuncId}{xs:List AV}{x:AV}{us:List Value}{u:Value}(hg:goFn P g)(hxs:gG xs=some us)(hx:bv x=some u)
  (h:∀ w:World,eY w→Calls P g us.toArray w fun e w'=>e=.returned u∧Below w.heap.size w w'):ab P [] g xs (ret x):=by
 refine⟨hg,fun E w vs hw hH hvs=>?_⟩
 have e:vs=us:=by
  obtain⟨h1,h2⟩:=gc hxs;refine SR fun j=>?_
  by_cases hj:j<xs.length
  ·obtain⟨u',hu,hs⟩:=h2 j _ (RH hj)
   have hv:vs[j]?=some (vs[j]'(by rw[hvs.1];exact hj)):=RH _;rw[hv,hu,sR (hvs.2 j _ _ (RH hj) hv) u' hs]
  ·rw[R9 (by rw[hvs.1];omega),R9 (by omega)]
 subst e;refine(h w (hw▸E.hT)).mono fun e w' ⟨h1,h2⟩=>?_
 have h0:E.ρ0=[]:=Sf (by rw[hH.len];rfl);refine⟨u,x,[],[],h1,⟨rfl,rfl⟩,?_,fun k p hk=>?_,mP x u hx⟩
 ·rw[h0] at hH;exact hH.below h2
 ·rw[h0] at hk;exact hk
theorem good_c(s:List UInt8)(h:okS s):ab prog [] 78 [S s] (ret (B (br s))):=
 mE ⟨_,func78,by kernel_rfl,by kernel_rfl⟩ rfl rfl fun w ht=>VP.1 (Nw s h w ht)
def dig(n:Nat):UInt8:=UInt8.ofNat (48+n%10)
def lM(k n:Nat):List UInt8:=(List.range k).map fun i=>dig (n/10^(k-1-i))
def iA(n:Nat):List UInt8:=if h:n<10 then[dig n] else iA (n/10)++[dig n]
theorem jU{n:Nat}(h:n<10):iA n=[dig n]:=by rw[iA,dif_pos h]
theorem nJ{n:Nat}(h:¬ n<10):iA n=iA (n/10)++[dig n]:=by rw[iA,dif_neg h]
theorem xj(k n:Nat):lM (k+1) n=lM k (n/10)++[dig n]:=by
 unfold lM;rw[VF,Sn];congr 1
 ·refine VL fun i hi=>?_
  have hi:=Un.1 hi;rw[TX,←Nat.pow_succ',show k+1-1-i=(k-1-i)+1 from by omega]
 ·simp
theorem GW(k:Nat):lM k 0=List.replicate k 48:=by
 unfold lM;refine UH (by simp) fun i h1 h2=>?_
 simp[dig]
theorem B3(n:Nat):0<(iA n).length:=by
 by_cases h:n<10
 ·rw[jU h];simp
 ·rw[nJ h];simp
theorem vS:∀(k n:Nat),n<10^(k+1)→(iA n).length≤k+1∧List.replicate (k+1-(iA n).length) 48++iA n=lM (k+1) n
 | 0,n,h=>by
   rw[jU (by simpa using h),xj];exact⟨by simp,by simp[lM]⟩
 | k + 1,n,h=>by
   rw[xj]
   by_cases h10:n<10
   ·have e:n/10=0:=by omega
    rw[jU h10,e,GW];exact⟨by simp,by simp⟩
   ·obtain⟨h1,h2⟩:=vS k (n/10) (by rw[T4] at h;omega)
    rw[nJ h10,←h2];refine⟨by simp;omega,?_⟩;rw[RL,Sv,show k+1+1-((iA (n/10)).length+1)=k+1-(iA (n/10)).length from by omega,Sq]
theorem KR{n:Nat}(h:n<10^20):(iA n).length≤20:=(vS 19 n h).1
theorem xd(n:Nat):(dig n).toNat=48+n%10:=by unfold dig;rw[UO];omega
theorem ve(n:Nat):IntKind.u8.wrap (48+((n%10:Nat):Int))=((dig n).toNat:Int):=by rw[xd];simp[IntKind.wrap,IntKind.bits,IntKind.signed];omega
theorem DY(n:Nat):(n:Int).tmod 10=((n%10:Nat):Int):=by rw[U3 (by omega)];omega
theorem Eh(n:Nat):(n:Int).tdiv 10=((n/10:Nat):Int):=by rw[Up (by omega)];omega
theorem qB(b:UInt8):x9 [[.int .u8 (b.toNat:Int)]]=True:=eq_true (lg [b])
theorem kC(n:Nat)(h:n≤9223372036854775807):ab prog [] 212 [I n] (ret (S (iA n))):=by
 induction n using Nat.strongRecOn with
 | _ n ih=>
   have hl:=KR (n:=n/10) (by omega)
   by_cases h10:n<10
   ·rw[jU h10]
    refine zJ func212 ntmps212 results212 ?_;simp only[go_sem]
    (refine zW qw zn (zx @DY (zx @Eh (zx @ve (zx @qB @T8)))) (z1 ?_)<;>(repeat with_reducible intro hc))
    exact zEe Yj
   ·rw[nJ h10]
    refine zJ func212 ntmps212 results212 ?_;simp only[go_sem]
    (refine zW qw (z1 (ih (n/10) (by omega) (by omega))) (zx @DY (zx @Eh (zx @ve (zx @qB @T8)))) (z1 ?_)<;>(repeat with_reducible intro hc))
    exact zEe Yj
theorem qPg0:Pls [XS [0,1,2,3,4,6] (.fork 5 (XS [7,8,9,10,11] .done) 7 (.fork 5 (XS [8,9,10,11] .done) 8 (XS [5,9,10,11] .done)))]:=pls _
theorem lq(r:List UInt8):0<(splitB r).length:=by have:=nA r;exact TY.2 this
theorem AB(a:List UInt8)(c:UInt8):splitB (a++[c])=if c=47 then splitB a++[[]] else(splitB a).set ((splitB a).length-1) ((splitB a).getD ((splitB a).length-1) []++[c]):=by
 induction a with
 |nil=>by_cases h:c=47<;>simp[splitB,h]
 | cons x a ih=>
   have hl:=lq a
   by_cases hx:x=47
   ·have e:splitB (x::a++[c])=[]::splitB (a++[c]):=by simp[splitB,hx]
    have e2:splitB (x::a)=[]::splitB a:=by simp[splitB,hx]
    rw[e,e2,ih]
    by_cases h:c=47
    ·simp[h]
    ·rw[RI h,RI h]
     obtain⟨n,hn⟩:∃ n,(splitB a).length=n+1:=⟨_,(Nat.succ_pred_eq_of_pos hl).symm⟩;simp[hn]
   ·cases hp:splitB a with
    |nil=>exact absurd hp (nA a)
    | cons p ps=>
      have e2:splitB (x::a)=(x::p)::ps:=by simp[splitB,hx,hp]
      rw[hp] at ih;have e:∀ q qs,splitB (a++[c])=q::qs→splitB (x::a++[c])=(x::q)::qs:=fun q qs hq=>by show splitB (x::(a++[c]))=_;rw[splitB,RI hx,hq]
      by_cases h:c=47
      ·rw[RJ h] at ih ⊢
       rw[e _ _ ih,e2];rfl
      ·rw[RI h] at ih ⊢
       cases ps with
       |nil=>rw[e _ _ ih,e2];rfl
       | cons q qs=>
         have ih2:splitB (a++[c])=p::(q::qs).set qs.length ((q::qs).getD qs.length []++[c]):=by rw[ih];rfl
         rw[e _ _ ih2,e2];rfl
theorem sa(s:List UInt8)(k:Nat)(h:k<s.length):splitB (s.take (k+1))=if s.getD k 0=47 then splitB (s.take k)++[[]] else(splitB (s.take k)).set ((splitB (s.take k)).length-1) ((splitB (s.take k)).getD ((splitB (s.take k)).length-1) []++[s.getD k 0]):=by have:s.take (k+1)=s.take k++[s.getD k 0]:=aN s k h;rw[this,AB]
theorem qG(s:List UInt8):(splitB s).length≤s.length+1:=by
 induction s with
 |nil=>simp[splitB]
 | cons c s ih=>
   unfold splitB;split
   ·simp;omega
   ·split
    ·rename_i e;rw[e] at ih;simp at ih ⊢;omega
    ·simp
theorem vm:splitB []=[[]]:=rfl
theorem Ap(s:List UInt8):∀ p,p∈splitB s→p.length≤s.length:=by
 induction s with
 |nil=>intro p hp;simp[splitB] at hp;simp[hp]
 | cons c s ih=>
   intro p hp;unfold splitB at hp;split at hp
   ·rcases RW.1 hp with rfl|hp
    ·simp
    ·have:=ih p hp;simp;omega
   ·split at hp
    ·rename_i q qs e
     rcases RW.1 hp with rfl|hp
     ·have:=ih q (by rw[e];simp);simp;omega
     ·have:=ih p (by rw[e];simp[hp]);simp;omega
    ·simp at hp;subst hp;simp
theorem fX(n:Nat):((n:Int)-1).toNat=n-1:=by omega
theorem fa(l:List (List UInt8))(i:Nat)(z:List DV)(h:i<l.length):(l.map srow).getD i z=srow (l.getD i []):=bO srow l i z h
theorem xT(l:List (List UInt8))(i:Nat)(x:List UInt8):(l.map srow).set i [.str x]=(l.set i x).map srow:=by rw[UL];rfl
theorem Dt(l:List (List UInt8))(x:List UInt8):l.map srow++[[.str x]]=(l++[x]).map srow:=by rw[Sn];rfl
theorem IN(b:UInt8):x9 [[.int .u8 (b.toNat:Int)]]=True:=eq_true (lg [b])
theorem P7{b:UInt8}(h:(b.toNat:Int)=47):b=47:=by
 have h2:b.toNat=(47:UInt8).toNat:=by have:(47:UInt8).toNat=47:=rfl;omega
 exact Vc.1 h2
theorem v8(l:List (List UInt8)):List.take (l.length-1) (List.drop 1 (l.map srow))=(l.drop 1).map srow:=by rw[←US];exact RK (by simp)
theorem Fg(s:List UInt8)(h:s.length≤1048576):ab prog [] 222 [S s] (ret (.d (.sl 1 ((splitB s).map srow)))):=by
 refine zJ func222 ntmps222 results222 ?_;simp only[go_sem];refine zW qw zn Yj (z1 ?_);refine W9 (ι:=Nat) (fun k=>k≤s.length) (fun k=>s.length-k) [8,9] (fun k=>[(10,I k),(3,.osl 0 1 0 (splitB (s.take k)).length)]) (fun k=>[.rows 1 ((splitB (s.take k)).map srow),.bytes s]) 0 ?_ ?_ ?_
 ·omega
 ·simp only[go_sem,vm,srow];exact zSm @vm
 intro k hk;have hl:=lq (s.take k);have hle:=qG (s.take k);have htl:(s.take k).length=k:=by simp;omega
 have hpl:((splitB (s.take k)).getD ((splitB (s.take k)).length-1) []).length≤k:=by have:=Ap (s.take k) _ (bu (splitB (s.take k)) [] (k:=(splitB (s.take k)).length-1) (by omega));omega
 simp only[go_sem]
 (refine zW qw (z1 qPg0) (zx @u8g (zx @fa (zx @srow.eq_1 (zx @xT (zx @Dt (zx @fX (zx @IN @T8))))))) (zc ?_ (z4 ?_ ?_ ?_ ?_))<;>(repeat with_reducible intro hc))
 ·refine Zq (k+1) ?_
  rw[sa _ _ (by assumption),RJ (P7 hc)];exact zFr [3,1] @List.length_append.{0}
 iterate 3
  ·refine Zq (k+1) ?_
   rw[sa _ _ (by assumption),RI (fun e=>hc (by rw[e];rfl))];exact zFr [0,1] @List.length_set.{0}
 ·have e:k=s.length:=by omega
  subst e;simp only[R7];exact zEe Yj
def wP(s:List UInt8):Bool:=decide (s=[47])||(decide (s.length≤200)&&(decide ((splitB s).getD 0 []=[])&&(decide (2≤(splitB s).length)&&((splitB s).drop 1).all aU)))
theorem JE(s:List UInt8):wP s=br s:=by
 unfold wP br;congr 2;cases s with
 |nil=>simp[splitB]
 | cons c r=>
   by_cases h:c=47
   ·subst h
    have:=lq r;simp[splitB,cB];intro _;omega
   ·have hn:∃ p ps,splitB (c::r)=(c::p)::ps:=by
     cases hp:splitB r with
     |nil=>exact absurd hp (nA r)
     |cons p ps=>exact⟨p,ps,by simp[splitB,h,hp]⟩
    obtain⟨p,ps,e⟩:=hn;rw[e];simp[h]
theorem bx(s:List UInt8)(h:s.length≤1048576):ab prog [] 162 [S s] (ret (B (br s))):=by
 rw[←JE];have hl:=lq s;refine zJ func162 ntmps162 results162 ?_;simp only[go_sem]
 (refine zW qw (z1 (Fg s h)) (zx @fa (zx @srow.eq_1 (zx @v8 @VQ))) (z3 ?_ ?_ ?_)<;>(repeat with_reducible intro hc))
 ·(refine zE2 Yj ?_;(try simp(disch:=omega) only[go_sem,aa,I,B,S,zj]))
  unfold wP;rw[decide_eq_true hc,Bool.true_or]
 ·(refine zE2 Yj ?_;(try simp(disch:=omega) only[go_sem,aa,I,B,S,zj]))
  unfold wP;rw[R0 (by assumption),V9];rcases hc with(c|c)|c
  ·rw[R0 (p:=s.length≤200) (by omega),Um]
  ·rw[R0 c,Um,WJ]
  ·rw[R0 (p:=2≤(splitB s).length) (by omega),Um,WJ,WJ]
 have g:wP s=((splitB s).drop 1).all aU:=by unfold wP;rw[R0 (by assumption),V9,decide_eq_true (p:=s.length≤200) (by omega),decide_eq_true hc.1.2,decide_eq_true (p:=2≤(splitB s).length) (by omega)];rfl
 rw[g];have hml:((splitB s).drop 1).length=(splitB s).length-1:=by simp
 have hle:=qG s;have hpl:∀ p,p∈(splitB s).drop 1→okS p:=fun p hp=>by have:=Ap s p (SJ hp);unfold okS;omega
 generalize (splitB s).drop 1=m at *
 refine Xd (ι:=Nat) (fun k=>k≤m.length∧∀ j,j<k→aU (m.getD j [])=true) (fun k=>m.length-k) [25,26] (fun k=>[(27,I k)]) 0 ?_ (by simp(disch:=omega) only[go_sem,aa,hml]) ?_
 ·exact⟨by omega,by omega⟩
 intro k ⟨hk,hk2⟩;simp only[go_sem]
 have hpk:okS (m.getD k []):=by
  by_cases e:k<m.length
  ·exact hpl _ (bu m [] e)
  ·rw[RG,R9 (by omega)];show okS [];unfold okS;decide
 (refine zW qw (z1 (ref_named_c _ hpk)) (zx @fa @srow.eq_1) (z3 ?_ ?_ ?_)<;>(repeat with_reducible intro hc))
 ·(refine zE2 Yj ?_;(try simp(disch:=omega) only[go_sem,aa,I,B,S,zj]))
  symm;exact pu (d:=[]) (by omega:k<m.length) hc
 ·refine⟨k+1,⟨by omega,fun j hj=>?_⟩,by omega,?_⟩
  ·by_cases e:j=k
   ·subst e;exact hc
   ·exact hk2 j (by omega)
  exact zSm Yj
 ·(refine zE2 Yj ?_;(try simp(disch:=omega) only[go_sem,aa,I,B,S,zj]))
  symm;exact tu aU m [] fun j hj=>hk2 j (by omega)
def me(e c:Int):Prop:=e<0∨2147483647<e∨c<0∨2147483647<c
instance (e c:Int):Decidable (me e c):=by unfold me;infer_instance
def mkZ(e c:Int):Int×Int:=if me e c then(0,3) else(e*2147483648+c,0)
def two(p:Int×Int):AV:=.tup [I p.1,I p.2]
theorem kK(a:Nat)(ha:a<9223372036854775808):(BitVec.ofInt 64 (a:Int)).toNat=a:=by rw[BitVec.ofInt_natCast,BitVec.toNat_ofNat];exact Ts (by omega)
theorem PV(e c:Nat)(he:e≤2147483647)(hc:c≤2147483647):bits .or .i64 ((e:Int)*2147483648) (c:Int)=(e:Int)*2147483648+c:=by
 have e1:((e:Int)*2147483648)=((e*2147483648:Nat):Int):=by omega
 have hx:e*2147483648 ||| c=e*2147483648+c:=by have h:=Nat.shiftLeft_add_eq_or_of_lt (i:=31) (b:=c) (by omega:c<2^31) e;rw[Nat.shiftLeft_eq] at h;exact h.symm
 rw[e1];show IntKind.i64.wrap ((BitVec.ofInt 64 ((e*2147483648:Nat):Int) ||| BitVec.ofInt 64 (c:Int)).toNat:Int)=_;rw[BitVec.toNat_or,kK _ (by omega),kK c (by omega),hx,UG];omega
theorem D0(e c:Int):ab prog [] 145 [I e,I c] (ret (two (mkZ e c))):=by
 unfold mkZ
 by_cases hb:me e c
 ·rw[RJ hb]
  unfold me at hb;have hb1:(decide (e<0)||decide (2147483647<e)||decide (c<0)||decide (2147483647<c))=true:=by simp;omega
  refine zJ func145 ntmps145 results145 ?_;simp only[go_sem];refine zW qw zn @hb1 (z1 (fun hc=>?_))
  all_goals exact zEe @two.eq_1
 ·rw[RI hb]
  unfold me at hb;have hb1:(decide (e<0)||decide (2147483647<e)||decide (c<0)||decide (2147483647<c))=false:=by simp;omega
  obtain⟨n,rfl⟩:=S1 (show 0≤e by omega);obtain⟨m,rfl⟩:=S1 (show 0≤c by omega);have ho:=PV n m (by omega) (by omega);refine zJ func145 ntmps145 results145 ?_;simp only[go_sem];refine zW qw zn @hb1 (z1 (fun hc=>?_))
  all_goals exact zEe (zx @two.eq_1 @ho)
theorem lh(e c:Int):ab prog [] 166 [I e,I c] (ret (two (mkZ e c))):=by
 unfold mkZ
 by_cases hb:me e c
 ·rw[RJ hb]
  unfold me at hb;have hb1:(decide (e<0)||decide (2147483648≤e)||decide (c<0)||decide (2147483648≤c))=true:=by simp;omega
  refine zJ func166 ntmps166 results166 ?_;simp only[go_sem];refine zW qw zn @hb1 (z1 (fun hc=>?_))
  all_goals exact zEe @two.eq_1
 ·rw[RI hb]
  unfold me at hb;have hb1:(decide (e<0)||decide (2147483648≤e)||decide (c<0)||decide (2147483648≤c))=false:=by simp;omega
  refine zJ func166 ntmps166 results166 ?_;simp only[go_sem];refine zW qw zn @hb1 (z1 (fun hc=>?_))
  all_goals exact zEe @two.eq_1
def bd(z:Int):Prop:=0≤z∧z<4611686018427387904
instance (z:Int):Decidable (bd z):=by unfold bd;infer_instance
def epZ(z:Int):Int:=if bd z then z/2147483648 else 0
def coZ(z:Int):Int:=if bd z then z%2147483648 else 0
theorem zgood_c(z:Int):ab prog [] 77 [I z] (ret (B (decide (bd z)))):=by
 have hd:decide (bd z)=(decide (0≤z)&&decide (z<4611686018427387904)):=by unfold bd;exact Bool.decide_and _ _
 rw[hd];refine zJ func77 ntmps77 results77 ?_;simp only[go_sem];refine zW qw zn Yj (z1 ?_)
 all_goals exact zEe Yj
theorem ref_zgood_c(z:Int)(hz:okI z):ab prog [] 168 [I z] (ret (B (decide (bd z)))):=by
 have hd:decide (bd z)=(decide (0≤z)&&decide (IntKind.i64.wrap (z.tdiv 2147483648)<2147483648)):=by
  have e:∀ h:0≤z,z.tdiv 2147483648=z/2147483648:=fun h=>Up h
  rw[Tv];simp only[RU,RN];unfold bd;constructor
  ·intro⟨h,h2⟩
   have e:=e h;refine⟨h,?_⟩;rw[ng _ ⟨by omega,by omega⟩];omega
  ·intro⟨h,h2⟩
   have e:=e h;rw[ng _ ⟨by omega,by omega⟩] at h2;omega
 rw[hd];refine zJ func168 ntmps168 results168 ?_;simp only[go_sem];refine zW qw zn Yj (z1 ?_)
 all_goals exact zEe Yj
theorem sL(z:Int):ab prog [] 87 [I z] (ret (I (epZ z))):=by
 unfold epZ
 by_cases h:bd z
 ·rw[RJ h]
  have h1:=(zgood_c z).re (congrArg B (decide_eq_true h));unfold bd at h;refine zJ func87 ntmps87 results87 ?_;simp only[go_sem];refine zW qw (z1 h1) Yj (z1 (fun hc=>?_))
  all_goals exact zEe Yj
 ·rw[RI h]
  have h1:=(zgood_c z).re (congrArg B (R0 h));refine zJ func87 ntmps87 results87 ?_;simp only[go_sem];refine zW qw (z1 h1) Yj (z1 (fun hc=>?_))
  all_goals exact zEe Yj
theorem ref_epoch_c(z:Int)(hz:okI z):ab prog [] 151 [I z] (ret (I (epZ z))):=by
 unfold epZ
 by_cases h:bd z
 ·rw[RJ h]
  have h1:=(ref_zgood_c z hz).re (congrArg B (decide_eq_true h));have hm:z.tdiv 2147483648=z/2147483648:=Up h.1;unfold bd at h;refine zJ func151 ntmps151 results151 ?_;simp only[go_sem];refine zW qw (z1 h1) @hm (z1 (fun hc=>?_))
  all_goals exact zEe @hm
 ·rw[RI h]
  have h1:=(ref_zgood_c z hz).re (congrArg B (R0 h));refine zJ func151 ntmps151 results151 ?_;simp only[go_sem];refine zW qw (z1 h1) Yj (z1 (fun hc=>?_))
  all_goals exact zEe Yj
theorem JR(z:Int)(h:bd z):bits .and .i64 z 2147483647=z%2147483648:=by unfold bd at h;obtain⟨n,rfl⟩:=S1 h.1;show IntKind.i64.wrap ((BitVec.ofInt 64 (n:Int) &&& BitVec.ofInt 64 ((2147483647:Nat):Int)).toNat:Int)=_;rw[BitVec.toNat_and,kK _ (by omega),kK _ (by omega),show(2147483647:Nat)=2^31-1 from rfl,Vz,UG];omega
theorem EF(z:Int):ab prog [] 225 [I z] (ret (I (coZ z))):=by
 unfold coZ
 by_cases h:bd z
 ·rw[RJ h]
  have h1:=(zgood_c z).re (congrArg B (decide_eq_true h));have hm:=JR z h;unfold bd at h;refine zJ func225 ntmps225 results225 ?_;simp only[go_sem];refine zW qw (z1 h1) @hm (z1 (fun hc=>?_))
  all_goals exact zEe @hm
 ·rw[RI h]
  have h1:=(zgood_c z).re (congrArg B (R0 h));refine zJ func225 ntmps225 results225 ?_;simp only[go_sem];refine zW qw (z1 h1) Yj (z1 (fun hc=>?_))
  all_goals exact zEe Yj
theorem B6(z:Int)(hz:okI z):ab prog [] 223 [I z] (ret (I (coZ z))):=by
 unfold coZ
 by_cases h:bd z
 ·rw[RJ h]
  have h1:=(ref_zgood_c z hz).re (congrArg B (decide_eq_true h));have hm:z.tmod 2147483648=z%2147483648:=U3 h.1;unfold bd at h;refine zJ func223 ntmps223 results223 ?_;simp only[go_sem];refine zW qw (z1 h1) @hm (z1 (fun hc=>?_))
  all_goals exact zEe @hm
 ·rw[RI h]
  have h1:=(ref_zgood_c z hz).re (congrArg B (R0 h));refine zJ func223 ntmps223 results223 ?_;simp only[go_sem];refine zW qw (z1 h1) Yj (z1 (fun hc=>?_))
  all_goals exact zEe Yj
def iX(z:Int):Int×Int:=if bd z then(if z%2147483648=2147483647 then(0,6) else(z+1,0)) else(0,3)
theorem Pa(z:Int):ab prog [] 174 [I z] (ret (two (iX z))):=by
 unfold iX
 by_cases h:bd z
 ·rw[RJ h]
  have h1:=(zgood_c z).re (congrArg B (decide_eq_true h));have h2:=(EF z).re (congrArg I (show coZ z=z%2147483648 by unfold coZ;rw[RJ h]));unfold bd at h
  by_cases hm:z%2147483648=2147483647
  ·rw[RJ hm]
   rw[hm] at h2;refine zJ func174 ntmps174 results174 ?_;simp only[go_sem];refine zW qw (z2 h1 h2) Yj (z1 (fun hc hc=>?_))
   all_goals exact zEe @two.eq_1
  ·rw[RI hm]
   have hm2:decide (z%2147483648=2147483647)=false:=R0 hm;refine zJ func174 ntmps174 results174 ?_;simp only[go_sem];refine zW qw (z2 h1 h2) @hm2 (z1 (fun hc hc=>?_))
   all_goals try exact zk1
   all_goals exact zEe @two.eq_1
 ·rw[RI h]
  have h1:=(zgood_c z).re (congrArg B (R0 h));refine zJ func174 ntmps174 results174 ?_;simp only[go_sem];refine zW qw (z1 h1) Yj (z1 (fun hc=>?_))
  all_goals exact zEe @two.eq_1
theorem KU{z:Int}(h:bd z):0≤epZ z∧epZ z≤2147483647∧0≤coZ z∧coZ z≤2147483647∧z=epZ z*2147483648+coZ z∧epZ z=z/2147483648∧coZ z=z%2147483648:=by simp only[epZ,coZ,RJ h];unfold bd at h;exact⟨by omega,by omega,by omega,by omega,by omega,Yj,Yj⟩
theorem M9{z:Int}(h:bd z):(mkZ (epZ z) (IntKind.i64.wrap (coZ z+1))).2=0→iX z=(mkZ (epZ z) (IntKind.i64.wrap (coZ z+1))):=by
 obtain⟨a,b,c,d,e,f,g⟩:=KU h;rw[ng _ ⟨by omega,by omega⟩]
 by_cases hb:me (epZ z) (coZ z+1)
 ·simp[mkZ,hb]
 ·intro _;simp only[mkZ,RI hb,iX,RJ h];unfold me at hb;rw[RI (by omega)];congr 1;omega
theorem HP{z:Int}(h:bd z):(mkZ (epZ z) (IntKind.i64.wrap (coZ z+1))).2≠0→iX z=(0,6):=by
 obtain⟨a,b,c,d,e,f,g⟩:=KU h;rw[ng _ ⟨by omega,by omega⟩]
 by_cases hb:me (epZ z) (coZ z+1)
 ·intro _;simp only[iX,RJ h];unfold me at hb;rw[RJ (by omega)]
 ·simp[mkZ,hb]
theorem vL(z:Int)(hz:okI z):ab prog [] 165 [I z] (ret (two (iX z))):=by
 by_cases h:bd z
 ·have h1:=(ref_zgood_c z hz).re (congrArg B (decide_eq_true h))
  have h2:=ref_epoch_c z hz;have h3:=B6 z hz;obtain⟨a,b,c,d,e,f,g⟩:=KU h;have h4:=lh (epZ z) (coZ z+1);have n1:=M9 h;have n2:=HP h;rw[ng (coZ z+1) ⟨by omega,by omega⟩] at n1 n2;unfold two at h4;generalize mkZ (epZ z) (coZ z+1)=q at h4 n1 n2;obtain⟨q1,q2⟩:=q;simp only at h4 n1 n2
  by_cases hq:q2=0
  ·rw[n1 hq]
   subst hq;refine zJ func165 ntmps165 results165 ?_;simp only[go_sem];refine zW qw (z4 h1 h2 h3 h4) Yj (z1 (fun hc hc=>?_))
   all_goals exact zEe @two.eq_1
  ·rw[n2 hq]
   have hq2:decide (q2=0)=false:=R0 hq;refine zJ func165 ntmps165 results165 ?_;simp only[go_sem];refine zW qw (z4 h1 h2 h3 h4) @hq2 (z1 (fun hc hc=>?_))
   all_goals try exact zk1
   all_goals exact zEe @two.eq_1
 ·have h1:=(ref_zgood_c z hz).re (congrArg B (R0 h))
  rw[show iX z=(0,3) from by unfold iX;rw[RI h]];refine zJ func165 ntmps165 results165 ?_;simp only[go_sem];refine zW qw (z1 h1) Yj (z1 (fun hc=>?_))
  all_goals exact zEe @two.eq_1
theorem qZr0:Pls [XS [0,1,2,3,4,5,6,9,7,8] .done]:=pls _
def cd(c:UInt8):Bool:=decide (48≤c.toNat∧c.toNat≤57)
def valS(t:List UInt8):Nat:=t.foldl (fun n c=>n*10+(c.toNat-48)) 0
theorem rz(t:List UInt8)(k:Nat)(h:k<t.length):valS (t.take (k+1))=valS (t.take k)*10+((t.getD k 0).toNat-48):=by
 unfold valS
 have:t.take (k+1)=t.take k++[t.getD k 0]:=aN t k h;rw[this,Tz];rfl
theorem Nn(t:List UInt8):t.all cd=true→valS t<10^t.length:=by
 have:∀(t:List UInt8) (n:Nat),t.all cd=true→t.foldl (fun n c=>n*10+(c.toNat-48)) n<(n+1)*10^t.length:=by
  intro t
  induction t with
  |nil=>intro n _;simp
  | cons c t ih=>
    intro n h;simp only[V7,RU] at h;have hc:=h.1;unfold cd at hc;rw[RN] at hc
    have:=ih (n*10+(c.toNat-48)) h.2;simp only[Uu,RQ,T4];refine SL this ?_;have e:(n+1)*(10^t.length*10)=((n+1)*10)*10^t.length:=by rw[Wp (10^t.length) 10,Nat.mul_assoc]
    rw[e];exact Sc _ (by omega)
 intro h
 have:=this t 0 h;simpa[valS] using this
def cX(t:List UInt8):Bool:=!decide (t=[])&&(decide (t.length≤10)&&(!(decide (1<t.length)&&decide (((t.getD 0 0).toNat:Int)=48))&&t.all cd))
def iw(t:List UInt8):Int×Bool:=if cX t=true then((valS t:Nat),true) else(0,false)
def gm(s:List UInt8)(c:UInt8):(List UInt8×List UInt8)×Bool:=if 0≤Lib.indexByte s c then((s.take (Lib.indexByte s c).toNat,s.drop ((Lib.indexByte s c).toNat+1)),true) else((s,[]),false)
theorem IF(s:List UInt8)(c:UInt8):Lib.indexByte s c<s.length:=by
 induction s with
 |nil=>simp[Lib.indexByte]
 | cons b s ih=>
   unfold Lib.indexByte;split
   ·simp
   ·split<;>simp<;>omega
theorem mj{α:Type}(l:List α)(k:Nat):List.take (l.length-k) (List.drop k l)=List.drop k l:=RK (by simp)
theorem wE(n:Nat):((n:Int)+1).toNat=n+1:=by omega
theorem PH(s:List UInt8)(c:UInt8)(hs:okS s):ab prog [] 205 [S s,S [c]] (ret (.tup [S (gm s c).1.1,S (gm s c).1.2,B (gm s c).2])):=by
 unfold okS at hs;have hi:=IF s c
 by_cases h:0≤Lib.indexByte s c
 ·obtain⟨n,hn⟩:=S1 h
  have e:gm s c=((s.take n,s.drop (n+1)),true):=by unfold gm;rw[RJ h,hn];rfl
  rw[hn] at hi;rw[e];refine zJ func205 ntmps205 results205 ?_;simp only[go_sem]
  (refine zW qw (z1 ((uK s c).re (by rw[hn]))) (zx @wE (zx @mj @Sg)) (z1 ?_)<;>(repeat with_reducible intro hc))
  exact zEe Yj
 ·have e:gm s c=((s,[]),false):=by unfold gm;rw[RI h]
  rw[e];have hi2:=Lib.indexByte_ge s c;have hn:Lib.indexByte s c=-1:=by omega
  refine zJ func205 ntmps205 results205 ?_;simp only[go_sem]
  (refine zW qw (z1 ((uK s c).re (by rw[hn]))) Yj (z1 ?_)<;>(repeat with_reducible intro hc))
  exact zEe Yj
theorem OI(s:List UInt8)(c:UInt8)(hs:okS s):ab prog [] 143 [S s,S [c]] (ret (.tup [S (gm s c).1.1,S (gm s c).1.2,B (gm s c).2])):=by refine zJ func143 ntmps143 results143 ?_;simp only[go_sem];refine zW qw (z1 (PH s c hs)) Yj (z1 ?_);exact zEe Yj
theorem Jy(c:UInt8)(h:48≤c.toNat):IntKind.u8.wrap ((c.toNat:Int)-48)=((c.toNat-48:Nat):Int):=by have:=c.toNat_lt;simp[IntKind.wrap,IntKind.bits,IntKind.signed];omega
theorem Aa{t:List UInt8}(h:t.all cd=true)(hl:t.length≤10):valS t≤9999999999:=by have:=Nn t h;have h2:10^t.length≤10^10:=U4 (by decide) hl;omega
theorem EB(t:List UInt8)(ht:okS t):ab prog [] 144 [S t] (ret (.tup [I (iw t).1,B (iw t).2])):=by
 unfold okS at ht;refine zJ func144 ntmps144 results144 ?_;simp only[go_sem]
 (refine zW qw zn Yj (z2 ?_ ?_)<;>(repeat with_reducible intro hc))
 ·have e:iw t=(0,false):=by
   unfold iw;rw[RI];unfold cX;rcases hc with(c|c)|c
   ·simp[c]
   ·rw[R0 (p:=t.length≤10) (by omega)];simp
   ·rw[decide_eq_true (p:=1<t.length) (by omega),decide_eq_true c.2];simp
  rw[e];exact zEe Yj
 have hsm:cX t=t.all cd:=by
  unfold cX;rw[R0 hc.1.1,decide_eq_true (p:=t.length≤10) (by omega)];rcases hc.2 with c|c
  ·rw[R0 (p:=1<t.length) (by omega)];simp
  ·rw[R0 c];simp
 have hl10:t.length≤10:=by omega
 refine W9 (ι:=Nat) (fun k=>k≤t.length∧(t.take k).all cd=true) (fun k=>t.length-k) [25,26] (fun k=>[(27,I k),(4,I (valS (t.take k):Nat))]) (fun k=>[.bytes t]) 0 ?_ ?_ ?_
 ·exact⟨by omega,rfl⟩
 ·simp only[go_sem];exact zSm (zx @valS.eq_1 @List.foldl_nil.{0,0})
 intro k ⟨hk,hk2⟩;have hv:=Aa hk2 (by simp;omega);simp only[go_sem]
 (refine zW qw zn @u8g (z3 ?_ ?_ ?_)<;>(repeat with_reducible intro hc))
 ·have e:iw t=(0,false):=by
   unfold iw;rw[RI];rw[hsm,pu (d:=0) (by assumption) (by unfold cd;rw[RR];omega)];simp
  rw[e];exact zEe Yj
 ·have hcc:48≤(t.getD k 0).toNat:=by omega
  refine⟨k+1,⟨by omega,?_⟩,by omega,?_⟩
  ·have:t.take (k+1)=t.take k++[t.getD k 0]:=aN t k (by assumption)
   rw[this,List.all_append,hk2];simp only[V7,List.all_nil,WV,Ui];unfold cd;rw[RN];omega
  rw[rz _ _ (by assumption)];exact zSm (zx (Jy _ hcc) @WB)
 ·have e0:k=t.length:=by omega
  subst e0;rw[R7] at *
  have e:iw t=(((valS t:Nat):Int),true):=by unfold iw;rw[RJ (by rw[hsm];exact hk2)]
  rw[e];exact zEe Yj
theorem E3(s:List UInt8)(c:UInt8)(h:okS s):okS (gm s c).1.1∧okS (gm s c).1.2:=by
 unfold okS at *
 unfold gm;split
 ·simp only[RV,RZ];omega
 ·simp only[Sd];omega
def dw(s:List UInt8):Int×Int:=if(gm s 46).2=true∧cX (gm s 46).1.1=true∧cX (gm s 46).1.2=true then mkZ (valS (gm s 46).1.1) (valS (gm s 46).1.2) else(0,2)
theorem pA(t:List UInt8):(iw t).2=cX t:=by unfold iw;cases h:cX t<;>simp
theorem Bd{t:List UInt8}(h:cX t=true):(iw t).1=valS t:=by unfold iw;rw[RJ h]
theorem It(s:List UInt8)(hs:okS s):ab prog [] 86 [S s] (ret (.tup [I (dw s).1,I (dw s).2])):=by
 refine zJ func86 ntmps86 results86 ?_;simp only[go_sem]
 (refine zW qw (z4 (OI s 46 hs) (EB (gm s 46).1.1 (E3 s 46 hs).1) (EB (gm s 46).1.2 (E3 s 46 hs).2) (D0 _ _)) @two.eq_1 (z2 ?_ ?_)<;>(repeat with_reducible intro hc))
 ·rw[pA,pA] at hc
  have e:dw s=(0,2):=by
   unfold dw;rw[RI]
   rintro⟨h1,h2,h3⟩
   rw[h1,h2,h3] at hc;simp at hc
  rw[e];exact zEe Yj
 ·rw[pA,pA] at hc
  have e:dw s=mkZ (valS (gm s 46).1.1) (valS (gm s 46).1.2):=by unfold dw;rw[RJ ⟨hc.1.1,hc.1.2,hc.2⟩]
  rw[e,Bd hc.1.2,Bd hc.2];exact zEe Yj
/-! The plain law. -/
theorem wM{c:UInt8}(h:cd c=true):c.toNat-48<10∧48≤c.toNat:=by unfold cd at h;rw[RN] at h;omega
theorem Ay{c:UInt8}(h:cd c=true)(m:Nat):dig (m*10+(c.toNat-48))=c:=by have:=wM h;unfold dig;rw[show 48+(m*10+(c.toNat-48))%10=c.toNat from by omega];simp
theorem J0(u:List UInt8)(c:UInt8):valS (u++[c])=valS u*10+(c.toNat-48):=by unfold valS;rw[Tz];rfl
theorem IW(t:List UInt8):∀ n,n≤t.foldl (fun n c=>n*10+(c.toNat-48)) n:=by
 induction t with
 |nil=>intro n;exact RP _
 |cons c t ih=>intro n;exact R8 (by omega) (ih (n*10+(c.toNat-48)))
theorem HJ{t:List UInt8}(h:t.all cd=true)(h0:t≠[])(h1:(t.getD 0 0).toNat≠48):0<valS t:=by
 cases t with
 |nil=>exact absurd rfl h0
 | cons c t=>
   simp only[V7,RU] at h
   have:=wM h.1;have h1':c.toNat≠48:=h1;exact SL (by show 0<0*10+(c.toNat-48);omega) (IW t _)
theorem JL:∀(k:Nat) (t:List UInt8),t.length=k→t.all cd=true→t≠[]→(1<t.length→(t.getD 0 0).toNat≠48)→iA (valS t)=t:=by
 intro k
 induction k using Nat.strongRecOn with
 | _ k ih=>
   intro t hl hd h0 hz;rcases Vs t with e|⟨u,c,e⟩
   ·exact absurd e h0
   rw[Vt] at e;subst e;have hd2:=hd;rw[List.all_append,RU] at hd2;have hc:cd c=true:=by simpa using hd2.2
   have hc2:=wM hc;rw[J0]
   by_cases hu:u=[]
   ·subst hu
    have e0:valS ([]:List UInt8)=0:=rfl;rw[e0,jU (by omega),Ay hc];rfl
   ·obtain⟨b,u',rfl⟩:∃ b u',u=b::u':=by cases u with|nil=>exact absurd rfl hu|cons b u'=>exact⟨b,u',rfl⟩
    have hz2:b.toNat≠48:=hz (by simp);have hp:=HJ hd2.1 hu hz2;rw[nJ (by omega),Ay hc,show(valS (b::u')*10+(c.toNat-48))/10=valS (b::u') from by omega];rw[ih (b::u').length (by rw[←hl];simp) (b::u') rfl hd2.1 hu (fun _=>hz2)]
theorem Gf(n:Nat)(h:0<n):((iA n).getD 0 0).toNat≠48:=by
 induction n using Nat.strongRecOn with
 | _ n ih=>
   by_cases h10:n<10
   ·rw[jU h10]
    show(dig n).toNat≠48;rw[xd];omega
   ·rw[nJ h10]
    have:=ih (n/10) (by omega) (by omega);have hp:=B3 (n/10);rw[RG,R2 hp,←RG];exact this
theorem po{t:List UInt8}(hd:t.all cd=true)(hl:t.length≤10):iA (valS t)=t↔cX t=true:=by
 have e:cX t=true↔(t≠[]∧(1<t.length→(t.getD 0 0).toNat≠48)):=by
  unfold cX;rw[decide_eq_true hl,hd];simp only[Ui,WV,RU,SY,RR,UU];refine and_congr_right fun _=>?_
  rw[←Decidable.imp_iff_not_or];exact imp_congr Iff.rfl (not_congr (by omega))
 rw[e];constructor
 ·intro h
  refine⟨fun h0=>?_,fun h1=>?_⟩
  ·have:=B3 (valS t)
   rw[h,h0] at this;simp at this
  ·rw[←h] at h1
   have hv:¬ valS t<10:=by intro hv;rw[jU hv] at h1;simp at h1
   have:=Gf (valS t) (by omega);rwa[h] at this
 ·rintro⟨h0,h1⟩
  exact JL _ t rfl hd h0 h1
theorem I1{s:List UInt8}{n:Nat}(h:Lib.indexByte s 46=n):gm s 46=((s.take n,s.drop (n+1)),true):=by unfold gm;rw[h,RJ (by omega)];rfl
theorem KX{s:List UInt8}(h:Lib.indexByte s 46<0):dw s=(0,2):=by
 have e:gm s 46=((s,[]),false):=by unfold gm;rw[RI (by omega)]
 unfold dw;rw[e];simp
theorem uP{t:List UInt8}{k:Nat}(hk:k<t.length)(h:cd (t.getD k 0)=false):cX t=false:=by unfold cX;rw[pu hk h];simp
theorem xU{s:List UInt8}{k:Nat}(hk:k<s.length)(h:cd (s.getD k 0)=false)(hx:Lib.indexByte s 46≠k):dw s=(0,2):=by
 by_cases h0:Lib.indexByte s 46<0
 ·exact KX h0
 obtain⟨n,hn⟩:=S1 (Int.not_lt.1 h0);unfold dw;rw[I1 hn,RI]
 rintro⟨_,h1,h2⟩
 rw[hn] at hx
 by_cases hkn:k<n
 ·have:=uP (t:=s.take n) (k:=k) (by simp;omega) (by rw[RG,Va hkn,←RG];exact h)
  rw[this] at h1;cases h1
 ·have:=uP (t:=s.drop (n+1)) (k:=k-(n+1)) (by simp;omega) (by rw[RG,SM,show n+1+(k-(n+1))=k from by omega,←RG];exact h)
  rw[this] at h2;cases h2
theorem getD_some{s:List UInt8}{k:Nat}{c:UInt8}(h:s[k]?=some c):k<s.length∧s.getD k 0=c:=by rw[RG,h];exact⟨(RM.1 h).1,rfl⟩
theorem ry{s:List UInt8}{k:Nat}(h:k<s.length):s[k]?=some (s.getD k 0):=by rw[RG,RH h];rfl
theorem Ni{s:List UInt8}(h:∀ j,j<s.length→cd (s.getD j 0)=true):Lib.indexByte s 46<0:=by
 refine Int.not_le.1 fun h0=>?_
 obtain⟨n,hn⟩:=S1 h0;have h1:=getD_some (Lib.indexByte_some hn).1
 have:=h n h1.1;rw[h1.2] at this;cases this
theorem OF{s:List UInt8}{d:Nat}(hd:d<s.length)(h1:s.getD d 0=46)(h:∀ j,j<d→cd (s.getD j 0)=true):Lib.indexByte s 46=d:=by
 have hge:=Lib.indexByte_ge s 46
 by_cases h0:Lib.indexByte s 46=-1
 ·exact absurd (by rw[ry hd,h1]) (Lib.indexByte_none h0 d)
 obtain⟨n,hn⟩:=S1 (a:=Lib.indexByte s 46) (by omega);have h2:=Lib.indexByte_some hn;have h3:=getD_some h2.1
 by_cases hlt:n<d
 ·have:=h n hlt
  rw[h3.2] at this;cases this
 ·by_cases e:n=d
  ·rw[hn,e]
  ·exact absurd (by rw[ry hd,h1]) (h2.2 d (by omega))
def Of(s:List UInt8)(k:Nat)(d:Int):Prop:=(d=-1∧∀ j,j<k→cd (s.getD j 0)=true)∨∃ n:Nat,d=n∧n<k∧s.getD n 0=46∧∀ j,j<k→j≠n→cd (s.getD j 0)=true
theorem LV{t:List UInt8}(h:∀ j,j<t.length→cd (t.getD j 0)=true):t.all cd=true:=by
 rw[S6];intro x hx;obtain⟨j,hj,e⟩:=Tm hx
 have:=h j hj;rw[RG,RH hj] at this;rw[←e];exact this
theorem ET{s:List UInt8}{d:Int}(h:Of s s.length d):(d<0∧dw s=(0,2))∨∃ n:Nat,d=n∧n<s.length∧gm s 46=((s.take n,s.drop (n+1)),true)∧(s.take n).all cd=true∧(s.drop (n+1)).all cd=true:=by
 rcases h with⟨h1,h2⟩|⟨n,h1,h2,h3,h4⟩
 ·exact .inl ⟨by omega,KX (Ni h2)⟩
 ·refine .inr ⟨n,h1,h2,I1 (OF h2 h3 fun j hj=>h4 j (by omega) (by omega)),?_,?_⟩
  ·refine LV fun j hj=>?_
   simp only[RV] at hj;rw[RG,Va (by omega),←RG];exact h4 j (by omega) (by omega)
  ·refine LV fun j hj=>?_
   simp only[RZ] at hj;rw[RG,SM,←RG];exact h4 _ (by omega) (by omega)
theorem Oh{c:UInt8}{n:Nat}(h:(c.toNat:Int)=n)(hn:n<256):c=UInt8.ofNat n:=by apply UInt8.toNat.inj;rw[UO];omega
theorem Fi:((valS []:Nat):Int)=0:=rfl
theorem E7{c:UInt8}(h:cd c=true){v:Nat}(hv:v≤9999999999):IntKind.i64.wrap (IntKind.i64.wrap (10*(v:Int)+IntKind.i64.wrap (c.toNat:Int))-48)=((v*10+(c.toNat-48):Nat):Int):=by
 have:=wM h
 have:=c.toNat_lt;rw[aa (c.toNat:Int) (by omega) (by omega),aa (10*(v:Int)+_) (by omega) (by omega),aa _ (by omega) (by omega)];omega
theorem Ii{t:List UInt8}(h:t.all cd=true){i:Nat}(hi:i<t.length):cd (t.getD i 0)=true:=by rw[S6] at h;rw[RG,RH hi];exact h _ (SD hi)
theorem Ah{t:List UInt8}(h:t.all cd=true)(i:Nat):(t.take i).all cd=true:=by
 rw[S6] at *
 exact fun x hx=>h x (St hx)
theorem GD{s:List UInt8}{n:Nat}(h:gm s 46=((s.take n,s.drop (n+1)),true)):dw s=if cX (s.take n)=true∧cX (s.drop (n+1))=true then mkZ (valS (s.take n)) (valS (s.drop (n+1))) else(0,2):=by unfold dw;rw[h];simp
theorem yb{t:List UInt8}(h:¬ t.length≤10):cX t=false:=by unfold cX;rw[R0 h];simp
theorem By(s:List UInt8)(hs:okS s):ab prog [] 150 [S s] (ret (.tup [I (dw s).1,I (dw s).2])):=by
 unfold okS at hs;refine zJ func150 ntmps150 results150 ?_;simp only[go_sem];refine zW qw zn Yj (z1 ?_);refine W9 (ι:=Nat×Int) (fun p=>p.1≤s.length∧Of s p.1 p.2) (fun p=>s.length-p.1) [0,13,14] (fun p=>[(4,I p.2),(15,I p.1)]) (fun p=>[.bytes s]) (0,-1) ?_ ?_ ?_
 ·exact⟨RX _,.inl ⟨rfl,fun j hj=>absurd hj (Vd j)⟩⟩
 ·simp only[go_sem];exact zSm Yj
 intro⟨k,d⟩ ⟨hk,hd⟩
 dsimp only at hk hd
 simp only[go_sem]
 (refine zW qw zn @u8g (zc ?_ (zc ?_ (z4 ?_ ?_ ?_ ?_)))<;>(repeat with_reducible intro hc))
 ·have h46:s.getD k 0=46:=Oh (n:=46) (by assumption) (by decide)
  have e:dw s=(0,2):=by
   rcases hd with⟨h1,_⟩|⟨n,h1,h2,h3,h4⟩
   ·omega
   refine xU (k:=k) (by assumption) (by rw[h46];rfl) fun hx=>?_
   exact(Lib.indexByte_some hx).2 n h2 (by rw[ry (by omega),h3])
  rw[e];exact zEe Yj
 ·have h46:s.getD k 0=46:=Oh (n:=46) (by assumption) (by decide)
  refine⟨(k+1,(k:Int)),⟨by dsimp only;omega,.inr ⟨k,rfl,Nat.lt_succ_self k,h46,fun j hj hjn=>?_⟩⟩,by dsimp only;omega,?_⟩
  ·rcases hd with⟨_,h2⟩|⟨n,h1,_⟩
   ·exact h2 j (by omega)
   ·omega
  exact zSm Yj
 ·have e:dw s=(0,2):=by
   have hnd:cd (s.getD k 0)=false:=by unfold cd;rw[RR];omega
   refine xU (k:=k) (by assumption) hnd fun hx=>?_
   have:=(getD_some (Lib.indexByte_some hx).1).2;have hne:¬ ((s.getD k 0).toNat:Int)=46:=by assumption
   rw[this] at hne;exact hne rfl
  rw[e];exact zEe Yj
 ·have hdg:cd (s.getD k 0)=true:=by unfold cd;rw[RN];omega
  refine⟨(k+1,d),⟨by dsimp only;omega,?_⟩,by dsimp only;omega,?_⟩
  ·rcases hd with⟨h1,h2⟩|⟨n,h1,h2,h3,h4⟩
   ·refine .inl ⟨h1,fun j hj=>?_⟩
    by_cases e:j=k
    ·subst e;exact hdg
    ·exact h2 j (by omega)
   ·refine .inr ⟨n,h1,by omega,h3,fun j hj hjn=>?_⟩
    by_cases e:j=k
    ·subst e;exact hdg
    ·exact h4 j (by omega) hjn
  exact zSm Yj
 ·have e0:k=s.length:=by omega
  subst e0;rcases ET hd with⟨_,e⟩|⟨n,h1,_⟩
  ·rw[e];exact zEe Yj
  ·omega
 have e0:k=s.length:=by omega
 subst e0;rcases ET hd with⟨hneg,_⟩|⟨n,h1,hn,hcut,hd0,hd1⟩
 ·omega
 subst h1;clear hd hc hk;refine zW qw (z1 qZr0) (zx @wE (zx @mj (zx @Sg (zx @List.drop_zero.{0} (zx @List.length_take.{0} @List.length_drop.{0}))))) (z1 ?_);have hr:=GD hcut;have l0:(s.take n).length≤s.length:=by rw[RV];omega
 have l1:(s.drop (n+1)).length≤s.length:=by rw[RZ];omega
 clear hcut;generalize s.take n=p0 at *
 generalize s.drop (n+1)=p1 at *
 refine W9 (ι:=Nat) (fun k=>k≤2∧(0<k→cX p0=true)∧(1<k→cX p1=true)) (fun k=>2-k) [7,41,42] (fun k=>[(43,I k)]) (fun k=>[.bytes s,.cells [I (if 0<k then(valS p0:Int) else 0),I (if 1<k then(valS p1:Int) else 0)],.rows 1 [[.str p0],[.str p1]]]) 0 ?_ ?_ ?_
 ·exact⟨by omega,fun h=>absurd h (by decide),fun h=>absurd h (by decide)⟩
 ·simp only[go_sem];exact zSm Yj
 intro k ⟨hk,k0,k1⟩;have hcs:k=0∨k=1∨k=2:=by omega
 rcases hcs with rfl|rfl|rfl
 all_goals simp only[go_sem]
 ·(refine zW qw zn Yj (z2 ?_ ?_)<;>(repeat with_reducible intro hc))
  ·rw[hr,RI (fun h=>by rw[yb (t:=p0) (by omega)] at h;exact absurd h.1 (by decide))];exact zEe Yj
  have hle:p0.length≤10:=by omega
  refine W9 (ι:=Nat) (fun i=>i≤p0.length) (fun i=>p0.length-i) [7,8,9,41,42,43,52,53] (fun i=>[(54,I i)]) (fun i=>[.bytes s,.cells [I (valS (p0.take i):Nat),I 0],.rows 1 [[.str p0],[.str p1]],.bytes p0]) 0 ?_ ?_ ?_
  ·omega
  ·simp only[go_sem,Fi];exact zSm Yj
  intro i hi;have hv:=Aa (Ah hd0 i) (by rw[RV];omega);simp only[go_sem]
  (refine zW qw zn @u8g (z2 ?_ ?_)<;>(try with_reducible intro(K:ASt→Prop) hK)<;>(repeat with_reducible intro hc))
  ·have hd:=Ii hd0 (by assumption:i<p0.length)
   have hd2:=wM hd;have hd3:=(p0.getD i 0).toNat_lt;refine Zq (i+1) ?_;rw[rz _ _ (by assumption)];rw[E7 hd hv];exact zSm Yj
  have e0:i=p0.length:=by omega
  subst e0;rw[R7] at *
  (refine zW qw (z1 (kC (valS p0) (by omega))) Yj (z2 ?_ ?_)<;>(repeat with_reducible intro hc))
  ·have hns:cX p0≠true:=fun h=>hc ((po hd0 hle).2 h)
   rw[hr,RI (fun h=>hns h.1)];exact zEe Yj
  ·have hss:=(po hd0 hle).1 hc
   refine⟨1,⟨by omega,fun _=>hss,fun h=>absurd h (by decide)⟩,by omega,?_⟩;exact zFr [0,1,2] Yj
 ·(refine zW qw zn Yj (z2 ?_ ?_)<;>(repeat with_reducible intro hc))
  ·rw[hr,RI (fun h=>by rw[yb (t:=p1) (by omega)] at h;exact absurd h.2 (by decide))];exact zEe Yj
  have hle:p1.length≤10:=by omega
  refine W9 (ι:=Nat) (fun i=>i≤p1.length) (fun i=>p1.length-i) [7,8,9,41,42,43,52,53] (fun i=>[(54,I i)]) (fun i=>[.bytes s,.cells [I (valS p0:Nat),I (valS (p1.take i):Nat)],.rows 1 [[.str p0],[.str p1]],.bytes p1]) 0 ?_ ?_ ?_
  ·omega
  ·simp only[go_sem,Fi];exact zSm Yj
  intro i hi;have hv:=Aa (Ah hd1 i) (by rw[RV];omega);simp only[go_sem]
  (refine zW qw zn @u8g (z2 ?_ ?_)<;>(try with_reducible intro(K:ASt→Prop) hK)<;>(repeat with_reducible intro hc))
  ·have hd:=Ii hd1 (by assumption:i<p1.length)
   have hd2:=wM hd;have hd3:=(p1.getD i 0).toNat_lt;refine Zq (i+1) ?_;rw[rz _ _ (by assumption)];rw[E7 hd hv];exact zSm Yj
  have e0:i=p1.length:=by omega
  subst e0;rw[R7] at *
  (refine zW qw (z1 (kC (valS p1) (by omega))) Yj (z2 ?_ ?_)<;>(repeat with_reducible intro hc))
  ·have hns:cX p1≠true:=fun h=>hc ((po hd1 hle).2 h)
   rw[hr,RI (fun h=>hns h.2)];exact zEe Yj
  ·have hss:=(po hd1 hle).1 hc
   refine⟨2,⟨by omega,fun _=>k0 (by decide),fun _=>hss⟩,by omega,?_⟩;exact zFr [0,1,2] Yj
 ·(refine zW qw (z1 (lh _ _)) @two.eq_1 (z1 ?_)<;>(repeat with_reducible intro hc))
  rw[hr,RJ ⟨k0 (by decide),k1 (by decide)⟩];exact zEe Yj
def fu(z:Int):List UInt8:=Lib.decDigits (z/2147483648).toNat++(46::Lib.decDigits (z%2147483648).toNat)
theorem pD{k:Nat}(h:k<10):(UInt8.ofNat (48+k)).toNat=48+k:=by rw[UO];exact Ts (by omega)
theorem gQ{u:Nat}(h:u<10):Lib.decDigits u=[UInt8.ofNat (48+u)]:=by rw[Lib.decDigits,dif_pos h]
theorem nz{u:Nat}(h:¬ u<10):Lib.decDigits u=Lib.decDigits (u/10)++[UInt8.ofNat (48+u%10)]:=by rw[Lib.decDigits,dif_neg h]
theorem Jf(u:Nat):Lib.decDigits u≠[]:=by
 by_cases h:u<10
 ·rw[gQ h];simp
 ·rw[nz h];simp
theorem EK(u:Nat):∀ c,c∈Lib.decDigits u→cd c=true:=by
 induction u using Nat.strongRecOn with
 | _ u ih=>
   by_cases h:u<10
   ·rw[gQ h]
    intro c hc;rw[S5.1 hc];unfold cd;rw[pD h];simp;omega
   ·rw[nz h]
    intro c hc;rcases Sp.1 hc with hc|hc
    ·exact ih (u/10) (by omega) c hc
    ·rw[S5.1 hc];unfold cd;rw[pD (WW _ (by decide))];simp;omega
theorem CE(a:List UInt8)(c:UInt8):valS (a++[c])=valS a*10+(c.toNat-48):=by unfold valS;rw[Tz];rfl
theorem Fd(u:Nat):valS (Lib.decDigits u)=u:=by
 induction u using Nat.strongRecOn with
 | _ u ih=>
   by_cases h:u<10
   ·rw[gQ h];show 0*10+((UInt8.ofNat (48+u)).toNat-48)=u;rw[pD h];omega
   ·rw[nz h,CE,ih (u/10) (by omega),pD (WW _ (by decide))];omega
theorem KI(u:Nat):u≠0→((Lib.decDigits u).getD 0 0).toNat≠48:=by
 induction u using Nat.strongRecOn with
 | _ u ih=>
   intro h0
   by_cases h:u<10
   ·rw[gQ h];show(UInt8.ofNat (48+u)).toNat≠48;rw[pD h];omega
   ·have:=ih (u/10) (by omega) (by omega)
    have hl:0<(Lib.decDigits (u/10)).length:=TY.2 (Jf _);rw[nz h,RG,R2 hl,←RG];exact this
theorem pB(u:Nat):∀ k,u<10^(k+1)→(Lib.decDigits u).length≤k+1:=by
 induction u using Nat.strongRecOn with
 | _ u ih=>
   intro k hk
   by_cases h:u<10
   ·rw[gQ h];simp
   ·rw[nz h,RL,Sv]
    rcases k with _|k
    ·simp at hk;omega
    ·have:=ih (u/10) (by omega) k (by rw[T4] at hk;omega)
     omega
theorem u7{u:Nat}(h:u≤2147483647):cX (Lib.decDigits u)=true:=by
 have hl:=pB u 9 (by omega);unfold cX;simp only[RU,SY,RR,RN,UU,S6];refine⟨Jf u,hl,?_,EK u⟩
 by_cases h0:u=0
 ·subst h0;left;rw[gQ (by decide)];simp
 ·right;have:=KI u h0;omega
theorem JZ(a b:List UInt8)(h:∀ c,c∈a→c≠46):Lib.indexByte (a++46::b) 46=a.length:=by
 induction a with
 |nil=>simp[Lib.indexByte]
 | cons x a ih=>
   have hx:x≠46:=h x (SF ..)
   have:=ih fun c hc=>h c (Si _ hc)
   simp only[SB,Lib.indexByte];rw[this];simp[hx]
   try omega
theorem HM(a b:List UInt8)(h:∀ c,c∈a→cd c=true):gm (a++46::b) 46=((a,b),true):=by
 have hi:=JZ a b fun c hc e=>by subst e;exact absurd (h _ hc) (by decide)
 unfold gm;rw[hi,RJ (by omega),Ta,Uv rfl];congr 2;rw[show a++46::b=(a++[46])++b from by simp,VG (by simp)]
theorem Gd{z:Int}(h:bd z):dw (fu z)=(z,0):=by
 unfold bd at h;have h1:(z/2147483648).toNat≤2147483647:=by omega
 have h2:(z%2147483648).toNat≤2147483647:=by omega
 unfold dw fu;rw[HM _ _ (EK _)];simp only;rw[RJ ⟨Yj,u7 h1,u7 h2⟩,Fd,Fd];unfold mkZ;rw[RI (by unfold me;omega)];congr 1;omega
theorem xY{z:Int}(h:bd z):(fu z).length≤21:=by unfold bd at h;have h1:=pB (z/2147483648).toNat 9 (by omega);have h2:=pB (z%2147483648).toNat 9 (by omega);unfold fu;rw[RL,RQ];omega
theorem lQ(i j:Nat)(h:i+j<9223372036854775808):IntKind.i64.wrap (IntKind.u64.wrap ((i:Int)+j)/2)=(((i+j)/2:Nat):Int):=by
 have e:IntKind.u64.wrap ((i:Int)+j)=((i+j:Nat):Int):=by simp[IntKind.wrap,IntKind.bits,IntKind.signed];omega
 rw[e];have e2:(((i+j:Nat):Int)/2)=(((i+j)/2:Nat):Int):=by omega
 rw[e2];simp[IntKind.wrap,IntKind.bits,IntKind.signed];omega
theorem diskCmp_c(f:AFile)(n:List UInt8):ab prog [] 198 [f.av,S n] (ret (I (pb f.name n))):=by
 refine zJ func198 ntmps198 results198 ?_;simp only[go_sem]
 (refine zW qw (z1 (qF _ _)) Yj (z1 ?_)<;>(repeat with_reducible intro hc))
 exact zEe @pb.eq_1
theorem LP(l:List AFile)(key:List UInt8)(h:l.length*48≤140737488351232)(hr:aF (l.map AFile.name)) :
  ab prog [] 197 [.d (.sl 3 (l.map AFile.row)),S key,.d (.sc (.func (.func 198) #[] #[]))]
   (ret (.tup [I (place (l.map AFile.name) key),B (decide (key∈l.map AFile.name))])):=by
 have hn:∀ k,(l.map AFile.name).getD k []=(l.getD k default).name:=fun k=>cW AFile.name l k default
 refine zJ func197 ntmps197 results197 ?_;simp only[go_sem]
 (refine zW qw zn Yj (z1 ?_)<;>(repeat with_reducible intro hc))
 refine Xd (ι:=Nat×Nat) (fun v=>v.1≤v.2∧v.2≤l.length∧(∀ k,k<v.1→(l.map AFile.name).getD k []<key)∧(v.2<l.length→¬ (l.map AFile.name).getD v.2 []<key)) (fun v=>v.2-v.1) [0,1,2,8] (fun v=>[(9,I v.1),(10,I v.2)]) (0,l.length) ?_ (by simp(disch:=omega) only[go_sem,aa,SI]) ?_
 ·exact⟨by simp,by simp,fun k hk=>by simp at hk,fun k=>by simp at k⟩
 intro⟨i,j⟩ ⟨h1,h2,h3,h4⟩;simp only at h1 h2 h3 h4;simp only[go_sem]
 (repeat' first
|(with_reducible refine AR.f ?_)
|refine bH (by decide) ?_
|(with_reducible refine AWP.cond rfl ?_ ?_<;>intro hc<;>(try simp only[hcs,R1,Sa,Sb] at hc))
|((first|((first|(with_reducible first|refine zR ?_));intro K hK)|((first|refine acallH_sc (diskCmp_c _ _) rfl rfl ?_ ?_ ?_|refine acallQ_sc (diskCmp_c _ _) rfl rfl ?_ ?_ ?_);iterate 2 (focus((try simp(disch:=omega) only[go_sem,aa,lQ])<;>(try omega)<;>fail)))|((first|refine zX (diskCmp_c _ _) rfl ?_ ?_);(focus((try simp(disch:=omega) only[go_sem,aa,lQ])<;>(try omega)<;>fail)))|((first|(with_reducible refine aunder_i ?_ ?_<;>intro hg)|with_reducible intro hg)<;>(first|(exfalso;simp at hg;done)|(have hg':=hg;(try simp only[hcs,R1,Sa,Sb] at hg');(try simp only[hg])))))<;>(try simp(disch:=omega) only[go_sem,aa,lQ])<;>(repeat' with_reducible refine Su ?_ ?_)<;>(try(with_reducible refine hK _ ?_;clear hK K)))
|omega)
 ·rw[kO] at hc
  refine⟨((i+j)/2+1,j),⟨by simp only;omega,h2,fun k hk=>?_,h4⟩,by simp only;omega,?_⟩
  ·by_cases e:k=(i+j)/2
   ·rw[e,hn];exact hc
   ·refine Tk (aV (j:=(i+j)/2) hr (by simp only at hk;omega) (by simp;omega)) ?_
    rw[hn];exact hc
  exact zSm Yj
 ·have hc2:¬ pb (l.getD ((i+j)/2) default).name key<0:=by omega
  rw[kO,←hn] at hc2;refine⟨(i,(i+j)/2),⟨by simp only;omega,by simp only;omega,h3,fun _=>hc2⟩,by simp only;omega,?_⟩;exact zSm Yj
 ·have e0:i=j:=by omega
  subst e0;have e1:place (l.map AFile.name) key=i:=gy (by simp;omega) h3 (fun h=>h4 (by simpa using h));have e2:key∈l.map AFile.name↔i<(l.map AFile.name).length∧(l.map AFile.name).getD i []=key:=ny hr h3 (fun h=>h4 (by simpa using h))
  (refine zE2 @e1 ?_;(try simp(disch:=omega) only[go_sem,aa,e1,I,B,S,zj]))
  simp only[yP,e2,hn,RO];simp at hg;simp[hg]
 ·have e0:i=j:=by omega
  subst e0;have e1:place (l.map AFile.name) key=i:=gy (by simp;omega) h3 (fun h=>h4 (by simpa using h));have e2:key∈l.map AFile.name↔i<(l.map AFile.name).length∧(l.map AFile.name).getD i []=key:=ny hr h3 (fun h=>h4 (by simpa using h))
  (refine zE2 @e1 ?_;(try simp(disch:=omega) only[go_sem,aa,e1,I,B,S,zj]))
  simp only[e2,RO];simp at hg;simp;omega
theorem clientCmp_c(f:AEntry)(n:List UInt8):ab prog [] 233 [f.av,S n] (ret (I (pb f.path n))):=by
 refine zJ func233 ntmps233 results233 ?_;simp only[go_sem]
 (refine zW qw (z1 (qF _ _)) Yj (z1 ?_)<;>(repeat with_reducible intro hc))
 exact zEe @pb.eq_1
theorem Hf(l:List AEntry)(key:List UInt8)(h:l.length*40≤140737488351232)(hr:aF (l.map AEntry.path)) :
  ab prog [] 232 [.d (.sl 3 (l.map AEntry.row)),S key,.d (.sc (.func (.func 233) #[] #[]))]
   (ret (.tup [I (place (l.map AEntry.path) key),B (decide (key∈l.map AEntry.path))])):=by
 have hn:∀ k,(l.map AEntry.path).getD k []=(l.getD k default).path:=fun k=>cW AEntry.path l k default
 refine zJ func232 ntmps232 results232 ?_;simp only[go_sem]
 (refine zW qw zn Yj (z1 ?_)<;>(repeat with_reducible intro hc))
 refine Xd (ι:=Nat×Nat) (fun v=>v.1≤v.2∧v.2≤l.length∧(∀ k,k<v.1→(l.map AEntry.path).getD k []<key)∧(v.2<l.length→¬ (l.map AEntry.path).getD v.2 []<key)) (fun v=>v.2-v.1) [0,1,2,8] (fun v=>[(9,I v.1),(10,I v.2)]) (0,l.length) ?_ (by simp(disch:=omega) only[go_sem,aa,SI]) ?_
 ·exact⟨by simp,by simp,fun k hk=>by simp at hk,fun k=>by simp at k⟩
 intro⟨i,j⟩ ⟨h1,h2,h3,h4⟩;simp only at h1 h2 h3 h4;simp only[go_sem]
 (repeat' first
|(with_reducible refine AR.f ?_)
|refine bH (by decide) ?_
|(with_reducible refine AWP.cond rfl ?_ ?_<;>intro hc<;>(try simp only[hcs,R1,Sa,Sb] at hc))
|((first|((first|(with_reducible first|refine zR ?_));intro K hK)|((first|refine acallH_sc (clientCmp_c _ _) rfl rfl ?_ ?_ ?_|refine acallQ_sc (clientCmp_c _ _) rfl rfl ?_ ?_ ?_);iterate 2 (focus((try simp(disch:=omega) only[go_sem,aa,lQ])<;>(try omega)<;>fail)))|((first|refine zX (clientCmp_c _ _) rfl ?_ ?_);(focus((try simp(disch:=omega) only[go_sem,aa,lQ])<;>(try omega)<;>fail)))|((first|(with_reducible refine aunder_i ?_ ?_<;>intro hg)|with_reducible intro hg)<;>(first|(exfalso;simp at hg;done)|(have hg':=hg;(try simp only[hcs,R1,Sa,Sb] at hg');(try simp only[hg])))))<;>(try simp(disch:=omega) only[go_sem,aa,lQ])<;>(repeat' with_reducible refine Su ?_ ?_)<;>(try(with_reducible refine hK _ ?_;clear hK K)))
|omega)
 ·rw[kO] at hc
  refine⟨((i+j)/2+1,j),⟨by simp only;omega,h2,fun k hk=>?_,h4⟩,by simp only;omega,?_⟩
  ·by_cases e:k=(i+j)/2
   ·rw[e,hn];exact hc
   ·refine Tk (aV (j:=(i+j)/2) hr (by simp only at hk;omega) (by simp;omega)) ?_
    rw[hn];exact hc
  exact zSm Yj
 ·have hc2:¬ pb (l.getD ((i+j)/2) default).path key<0:=by omega
  rw[kO,←hn] at hc2;refine⟨(i,(i+j)/2),⟨by simp only;omega,by simp only;omega,h3,fun _=>hc2⟩,by simp only;omega,?_⟩;exact zSm Yj
 ·have e0:i=j:=by omega
  subst e0;have e1:place (l.map AEntry.path) key=i:=gy (by simp;omega) h3 (fun h=>h4 (by simpa using h));have e2:key∈l.map AEntry.path↔i<(l.map AEntry.path).length∧(l.map AEntry.path).getD i []=key:=ny hr h3 (fun h=>h4 (by simpa using h))
  (refine zE2 @e1 ?_;(try simp(disch:=omega) only[go_sem,aa,e1,I,B,S,zj]))
  simp only[yP,e2,hn,RO];simp at hg;simp[hg]
 ·have e0:i=j:=by omega
  subst e0;have e1:place (l.map AEntry.path) key=i:=gy (by simp;omega) h3 (fun h=>h4 (by simpa using h));have e2:key∈l.map AEntry.path↔i<(l.map AEntry.path).length∧(l.map AEntry.path).getD i []=key:=ny hr h3 (fun h=>h4 (by simpa using h))
  (refine zE2 @e1 ?_;(try simp(disch:=omega) only[go_sem,aa,e1,I,B,S,zj]))
  simp only[e2,RO];simp at hg;simp;omega
theorem treeCmp_c(f:XU)(n:List UInt8):ab prog [] 131 [f.av,S n] (ret (I (pb f.path n))):=by
 refine zJ func131 ntmps131 results131 ?_;simp only[go_sem]
 (refine zW qw (z1 (qF _ _)) Yj (z1 ?_)<;>(repeat with_reducible intro hc))
 exact zEe @pb.eq_1
theorem dX(i:Nat):((i:Int)+1).toNat=i+1:=by omega
theorem dY(i n:Nat)(h:i≤n):((n:Int)-i).toNat=n-i:=by omega
theorem zf(i n:Nat)(h:i≤n+1):((n:Int)+1-i).toNat=n+1-i:=by omega
theorem y3(i n:Nat)(h:i≤n+1):((n:Int)+1-i)=((n+1-i:Nat):Int):=by omega
theorem eQ{α:Type}(R:List α)(i:Nat):R.eraseIdx i=R.take i++R.drop (i+1):=List.eraseIdx_eq_take_drop_succ R i
theorem pd{α:Type}{R junk X z t:List α}{i q m:Nat}(h:i<R.length)(hq:q=R.length-1)(hm:m=R.length-(i+1)) :
  List.take q (List.take q (List.take i (R++junk)++List.take m (List.drop (i+1) (R++junk))++X)++z++t)=R.eraseIdx i:=by
 have e1:List.take i (R++junk)=R.take i:=Sm (by omega)
 have e2:List.take m (List.drop (i+1) (R++junk))=R.drop (i+1):=by
  rw[Tu (by omega),hm]
  have:R.length-(i+1)=(R.drop (i+1)).length:=by simp
  rw[this,Sm (RP _),R7]
 have e3:(R.take i++R.drop (i+1)).length=q:=by simp;omega
 rw[e1,e2,eQ];have e4:List.take q (R.take i++R.drop (i+1)++X)=R.take i++R.drop (i+1):=by rw[←e3,Sm (RP _),R7]
 rw[e4,Sq,←e3,Sm (RP _),R7]
theorem qf{α:Type}{R junk X z t:List α}{i q:Nat}(h:i+1=R.length)(hq:q=i) :
  List.take q (List.take q (List.take i (R++junk)++X)++z++t)=R.eraseIdx i:=by
 subst hq;have e1:List.take q (R++junk)=R.take q:=Sm (by omega);have e3:(R.take q).length=q:=by simp;omega
 have e2:R.drop (q+1)=[]:=Ug (by omega);have e4:List.take q (R.take q++X)=R.take q:=by have:=Sm (l₁:=R.take q) (l₂:=X) (i:=q) (by omega);rw[this,RK (by omega)]
 rw[e1,e4,eQ,e2,Se,Sq]
 have:=Sm (l₁:=R.take q) (l₂:=z++t) (i:=q) (by omega);rw[this,RK (by omega)]
theorem cT{α:Type}(R:List α)(i:Nat)(x:α)(h:i≤R.length):R.insertIdx i x=R.take i++x::R.drop i:=by
 induction R generalizing i with
 |nil => have:i=0:=by simpa using h
         subst this;rfl
 | cons a R ih=>
   cases i with
   |zero=>rfl
   |succ i=>simp only[V8,Tl,WN,SB];rw[ih i (by simpa using h)]
theorem dS{α β:Type}(f:α→β)(l:List α)(i:Nat):(l.map f).eraseIdx i=(l.eraseIdx i).map f:=by rw[eQ,eQ,Sn,Vb,US]
theorem cP{α:Type}(l:List α)(i:Nat)(h:i<l.length):(l.eraseIdx i).length=l.length-1:=Uq h
theorem vc{α β:Type}(f:α→β)(l:List α)(i:Nat)(h:i<l.length):((l.eraseIdx i).map f).take (l.length-1)=(l.eraseIdx i).map f:=RK (by rw[RO,cP _ _ h];omega)
theorem gu{α:Type}(l:List α)(i:Nat)(x z:α)(h:i≤l.length):(l.insertIdx i x).getD i z=x:=by
 rw[cT _ _ _ h,RG,RT (by rw[RV];omega)]
 have:i-(l.take i).length=0:=by rw[RV];omega
 rw[this];rfl
theorem As{α β:Type}(f:α→β)(l:List α)(i:Nat)(x:α)(z:β)(h:i≤l.length):((l.insertIdx i x).map f).getD i z=f x:=by rw[←kW];exact gu _ _ _ _ (by simpa using h)
theorem Fe{α:Type}(l:List α)(i:Nat)(x y:α)(h:i≤l.length):(l.insertIdx i x).set i y=l.insertIdx i y:=by
 rw[cT _ _ _ h,cT _ _ _ h];have e:(l.take i).length=i:=by simp;omega
 rw[TZ _ _ (by omega),e,Ty];rfl
theorem dD{α:Type}(l:List α)(i:Nat)(x:α)(h:i≤l.length):(l.insertIdx i x).length=l.length+1:=by rw[cT _ _ _ h];simp;omega
theorem qi{α β:Type}(f:α→β)(l:List α)(i:Nat)(x:α)(h:i≤l.length):((l.insertIdx i x).map f).take (l.length+1)=(l.insertIdx i x).map f:=RK (by rw[RO,dD _ _ _ h];omega)
theorem dK{α:Type}(l:List α)(i k:Nat)(x z:α)(h:i≤l.length)(hk:k<i):(l.insertIdx i x).getD k z=l.getD k z:=by rw[cT _ _ _ h,RG,R2 (by rw[RV];omega),Va hk,RG]
theorem Kn{α:Type}(l:List α)(k:Nat)(x z:α)(h:k≤l.length)(h0:0<k):((l.insertIdx k x).set (k-1) x).set k (l.getD (k-1) z)=l.insertIdx (k-1) x:=by
 rw[cT _ _ _ h,cT _ _ _ (R8 (Nat.sub_le _ _) h)]
 have e1:l.take k=l.take (k-1)++[l.getD (k-1) z]:=by
  have:k=(k-1)+1:=by omega
  conv=>lhs;rw[this]
  rw[UX,RH (by omega),RG,RH (by omega)];rfl
 have e2:l.drop (k-1)=l.getD (k-1) z::l.drop k:=by rw[S7 (by omega),RG,RH (by omega),show k-1+1=k from by omega];rfl
 have e3:(l.take (k-1)).length=k-1:=by rw[RV];omega
 rw[e1,e2];generalize l.getD (k-1) z=y;generalize hA:l.take (k-1)=A at *
 generalize l.drop k=B;have hk:k=A.length+1:=by omega
 subst hk;rw[TD];simp[TZ]
theorem NX{α:Type}(l:List α)(x:α):l.insertIdx l.length x=l++[x]:=by rw[cT _ _ _ (RP _),R7,TG]
theorem eE{α β:Type}(f:α→β)(l:List α)(x:α):(List.map f (l++[x])).take (l.length+1)=List.map f (l++[x]):=RK (by simp)
theorem kX{α:Type}{A B:List α}{n:Nat}(h:n=A.length):(A++B).take n=A:=by subst h;simp
theorem D1{α:Type}{A B:List α}{n:Nat}(h:n=A.length):(A++B).drop n=B:=by subst h;simp
theorem Bo{α:Type}{R J:List α}{i a b:Nat}(h:i≤R.length)(ha:a=R.length-i)(hb:R.length-i≤b):List.take a (List.take b (List.drop i (R++J)))=R.drop i:=by rw[TU,SC (by omega),Tu h];exact kX (by simp;omega)
theorem yG{α:Type}{R J X:List α}{r:α}{i a b c d:Nat}(h:i<R.length)(ha:a=R.length-i)(hb:R.length-i≤b)(hc:1≤c)(hd:d=1) :
  List.take (R.length+1) (List.take i (List.take (i+1) (R++J)++List.take a (List.take b (List.drop i (R++J)))++X)++List.take c [r]++List.drop (i+d) (List.take (i+1) (R++J)++List.take a (List.take b (List.drop i (R++J)))++X))=R.insertIdx i r:=by
 subst hd;have e1:List.take (i+1) (R++J)=R.take (i+1):=Sm (by omega);have e2:(R.take (i+1)).length=i+1:=by simp;omega
 have e3:List.take c [r]=[r]:=RK (by simpa using hc);rw[Bo (by omega) ha hb,e1,e3,Sq (List.take (i+1) R),D1 (n:=i+1) e2.symm,cT _ _ _ (by omega)];have e4:List.take i (List.take (i+1) R++(List.drop i R++X))=R.take i:=by rw[Sm (by rw[e2];omega),TU,SC (by omega)]
 rw[e4]
 have:List.take i R++[r]++(List.drop i R++X)=(List.take i R++r::List.drop i R)++X:=by simp
 rw[this];exact kX (by simp;omega)
theorem qq{α:Type}{R J:List α}{r z:α}{i m c d e f g:Nat}(h:i<R.length)(hm:m=R.length+1-i)(hc:1≤c)(hd:d=1)(he:e=R.length-i)(hf:R.length-i≤f)(hg:g=R.length+1) :
  List.take (i+1) (List.take i (List.take i (R++J)++List.replicate m z)++List.take c [r]++List.drop (i+d) (List.take i (R++J)++List.replicate m z))++List.take e (List.take f (List.drop i (R++J))) ++
   List.drop g (List.take i (List.take i (R++J)++List.replicate m z)++List.take c [r]++List.drop (i+d) (List.take i (R++J)++List.replicate m z))=R.insertIdx i r:=by
 subst hd;subst hm;subst hg;have e1:List.take i (R++J)=R.take i:=Sm (by omega);have e2:(R.take i).length=i:=by simp;omega
 have e3:List.take c [r]=[r]:=RK (by simpa using hc);rw[Bo (by omega) he hf,e1,e3,kX (n:=i) e2.symm,cT _ _ _ (by omega)];have e4:(List.take i R++[r]).length=i+1:=by simp;omega
 have e5:List.drop (R.length+1) (List.take i R++[r]++List.drop (i+1) (List.take i R++List.replicate (R.length+1-i) z))=[]:=Ug (by simp;omega);rw[e5,kX e4.symm,Se,Sq];rfl
theorem Hd(rs:List (List DV))(i:Nat)(hi:i<rs.length)(hb:rs.length*48≤140737488351232):ab prog [.rows 3 rs] 261 [.osl 0 3 0 rs.length,I i,I ((i:Int)+1)] (dr (.osl 1 3 0 (rs.length-1)) [.dead,.rows 3 (rs.eraseIdx i)]):=by
 refine zJ func261 ntmps261 results261 ?_;simp only[go_sem];refine Xk 0 (k:=0) (sz:=3) (off:=0) (n:=rs.length) rfl (by omega) rfl (by decide) fun junk hj hjl=>?_
 simp only[go_sem,SO] at hjl ⊢
 by_cases hN:i+1<rs.length+junk.length
 ·(refine zW qw zn (zx @if_pos.{1} (zx @if_neg.{1} (zx @dX (zx @dY (zx @List.length_take.{0} (zx @List.length_drop.{0} @SC)))))) (z1 ?_)<;>(repeat with_reducible intro hc))
  refine bK (by first|exact .inl rfl|exact .inr rfl) (by simp(disch:=omega) only[go_sem]) ?_;simp(disch:=omega) only[go_sem];rw[show i+(rs.length-(i+1))=rs.length-1 from by omega];refine Xj rfl (af.done rfl ?_);rw[pd hi rfl rfl];rfl
 ·(refine zW qw zn (zx @if_pos.{1} (zx @if_neg.{1} (zx @dX (zx @dY (zx @List.length_take.{0} (zx @List.length_drop.{0} @SC)))))) (z1 ?_)<;>(repeat with_reducible intro hc))
  refine bK (by first|exact .inl rfl|exact .inr rfl) (by simp(disch:=omega) only[go_sem]) ?_;simp(disch:=omega) only[go_sem];rw[show i+0=rs.length-1 from by omega];refine Xj rfl (af.done rfl ?_);rw[qf (by omega) (by omega)];rfl
theorem Gg(rs:List (List DV))(r:List DV)(i:Nat)(hi:i≤rs.length)(hb:(rs.length+1)*48≤140737488351232) :
  ab prog [.rows 3 rs,.rows 3 [r]] 139 [.osl 0 3 0 rs.length,I i,.osl 1 3 0 1] (dr (.osl 2 3 0 (rs.length+1)) [.dead,.dead,.rows 3 (rs.insertIdx i r)]):=by
 refine zJ func139 ntmps139 results139 ?_;simp only[go_sem]
 by_cases hin:i=rs.length
 ·subst hin
  (refine zW qw zn (zx @if_pos.{1} (zx @if_neg.{1} (zx @dX @dY))) (z1 ?_)<;>(repeat with_reducible intro hc))
  refine bK (by first|exact .inl rfl|exact .inr rfl) (by simp(disch:=omega) only[go_sem]) ?_;simp(disch:=omega) only[go_sem];refine Xi [0,1,2] rfl (by simp) (by decide) (by intro k hk;match k,hk with|0,_=>rfl|1,_=>rfl) ⟨rfl,by simp[inV]⟩ ?_ (af.done (hp:=[.dead,.dead,.rows 3 (List.take rs.length rs++[r])]) rfl ?_)
  ·simp only[go_sem]
  ·rw[cT _ _ _ (RP _),TG]
 refine Xk 0 (k:=0) (sz:=3) (off:=0) (n:=rs.length) rfl (by omega) rfl (by decide) fun junk hj hjl=>?_
 simp only[go_sem,SO] at hjl ⊢
 by_cases hN:rs.length+1≤rs.length+junk.length
 ·(repeat' first
|(with_reducible refine AR.f ?_)
|refine bH (by decide) ?_
|(with_reducible refine AWP.cond rfl ?_ ?_<;>intro hc<;>(try simp only[hcs,R1,Sa,Sb] at hc))
|((first|((first|(with_reducible first|refine zR ?_|refine zQ ?_|refine zD ?_|refine zE ?_|refine zG ?_));intro K hK)|refine acallHK_ext (ext_overlaps func200 (by kernel_rfl) (by kernel_rfl) (by kernel_rfl) (tS:=44) (tR:=4) (e:=102) (by kernel_rfl) dn (by simp only[QV,Ng]) (by simp[On,E9]) (k:=1) (k':=0) rfl (.inl ⟨rfl,rfl⟩) rfl (.inr ⟨rfl,rfl⟩) (by decide) (by omega) (by omega) (by decide)) ?_)<;>(try simp(disch:=omega) only[go_sem,aa,RJ,RI,dX,dY,RV,RZ,SC])<;>(repeat' with_reducible refine Su ?_ ?_)<;>(try(with_reducible refine hK _ ?_;clear hK K)))
|omega)
  refine bK (by first|exact .inl rfl|exact .inr rfl) (by simp(disch:=omega) only[go_sem]) ?_;simp(disch:=omega) only[go_sem];refine Xj rfl ?_;refine Xi [0,1,2] rfl (by simp) (by decide) (by intro k hk;match k,hk with|0,_=>rfl|1,_=>rfl) ⟨rfl,by simp[inV]⟩ ?_ (af.done (hp:=[.dead,.dead,.rows 3 (rs.insertIdx i r)]) rfl rfl);rw[yG (by omega) (by omega) (by omega) (by omega) (by omega)];simp only[go_sem]
 ·(refine zW qw zn (zx @if_pos.{1} (zx @if_neg.{1} (zx @dX (zx @dY (zx @zf (zx @y3 (zx @List.length_take.{0} (zx @List.length_drop.{0} @SC)))))))) (z1 ?_)<;>(repeat with_reducible intro hc))
  refine bK (by first|exact .inl rfl|exact .inr rfl) (by simp(disch:=omega) only[go_sem]) ?_;simp(disch:=omega) only[go_sem];rw[qq (by omega) rfl (by omega) (by omega) (by omega) (by omega) (by omega),show i+(rs.length+1-i)=rs.length+1 from by omega];refine Xi [0,1,2] rfl (by simp) (by decide) (by intro k hk;match k,hk with|0,_=>rfl|1,_=>rfl) ⟨rfl,by simp[inV]⟩ ?_ (af.done (hp:=[.dead,.dead,.rows 3 (rs.insertIdx i r)]) rfl rfl);simp only[go_sem]
theorem CG(rs:List (List DV))(i:Nat)(hi:i<rs.length)(hb:rs.length*40≤140737488351232):ab prog [.rows 3 rs] 243 [.osl 0 3 0 rs.length,I i,I ((i:Int)+1)] (dr (.osl 1 3 0 (rs.length-1)) [.dead,.rows 3 (rs.eraseIdx i)]):=by
 refine zJ func243 ntmps243 results243 ?_;simp only[go_sem];refine Xk 0 (k:=0) (sz:=3) (off:=0) (n:=rs.length) rfl (by omega) rfl (by decide) fun junk hj hjl=>?_
 simp only[go_sem,SO] at hjl ⊢
 by_cases hN:i+1<rs.length+junk.length
 ·(refine zW qw zn (zx @if_pos.{1} (zx @if_neg.{1} (zx @dX (zx @dY (zx @List.length_take.{0} (zx @List.length_drop.{0} @SC)))))) (z1 ?_)<;>(repeat with_reducible intro hc))
  refine bK (by first|exact .inl rfl|exact .inr rfl) (by simp(disch:=omega) only[go_sem]) ?_;simp(disch:=omega) only[go_sem];rw[show i+(rs.length-(i+1))=rs.length-1 from by omega];refine Xj rfl (af.done rfl ?_);rw[pd hi rfl rfl];rfl
 ·(refine zW qw zn (zx @if_pos.{1} (zx @if_neg.{1} (zx @dX (zx @dY (zx @List.length_take.{0} (zx @List.length_drop.{0} @SC)))))) (z1 ?_)<;>(repeat with_reducible intro hc))
  refine bK (by first|exact .inl rfl|exact .inr rfl) (by simp(disch:=omega) only[go_sem]) ?_;simp(disch:=omega) only[go_sem];rw[show i+0=rs.length-1 from by omega];refine Xj rfl (af.done rfl ?_);rw[qf (by omega) (by omega)];rfl
theorem uO(rs:List (List DV))(r:List DV)(i:Nat)(hi:i≤rs.length)(hb:(rs.length+1)*40≤140737488351232) :
  ab prog [.rows 3 rs,.rows 3 [r]] 181 [.osl 0 3 0 rs.length,I i,.osl 1 3 0 1] (dr (.osl 2 3 0 (rs.length+1)) [.dead,.dead,.rows 3 (rs.insertIdx i r)]):=by
 refine zJ func181 ntmps181 results181 ?_;simp only[go_sem]
 by_cases hin:i=rs.length
 ·subst hin
  (refine zW qw zn (zx @if_pos.{1} (zx @if_neg.{1} (zx @dX @dY))) (z1 ?_)<;>(repeat with_reducible intro hc))
  refine bK (by first|exact .inl rfl|exact .inr rfl) (by simp(disch:=omega) only[go_sem]) ?_;simp(disch:=omega) only[go_sem];refine Xi [0,1,2] rfl (by simp) (by decide) (by intro k hk;match k,hk with|0,_=>rfl|1,_=>rfl) ⟨rfl,by simp[inV]⟩ ?_ (af.done (hp:=[.dead,.dead,.rows 3 (List.take rs.length rs++[r])]) rfl ?_)
  ·simp only[go_sem]
  ·rw[cT _ _ _ (RP _),TG]
 refine Xk 0 (k:=0) (sz:=3) (off:=0) (n:=rs.length) rfl (by omega) rfl (by decide) fun junk hj hjl=>?_
 simp only[go_sem,SO] at hjl ⊢
 by_cases hN:rs.length+1≤rs.length+junk.length
 ·(repeat' first
|(with_reducible refine AR.f ?_)
|refine bH (by decide) ?_
|(with_reducible refine AWP.cond rfl ?_ ?_<;>intro hc<;>(try simp only[hcs,R1,Sa,Sb] at hc))
|((first|((first|(with_reducible first|refine zR ?_|refine zQ ?_|refine zD ?_|refine zE ?_|refine zG ?_));intro K hK)|refine acallHK_ext (ext_overlaps func234 (by kernel_rfl) (by kernel_rfl) (by kernel_rfl) (tS:=58) (tR:=4) (e:=107) (by kernel_rfl) dn (by simp only[QG,NV]) (by simp[Om,Fc]) (k:=1) (k':=0) rfl (.inl ⟨rfl,rfl⟩) rfl (.inr ⟨rfl,rfl⟩) (by decide) (by omega) (by omega) (by decide)) ?_)<;>(try simp(disch:=omega) only[go_sem,aa,RJ,RI,dX,dY,RV,RZ,SC])<;>(repeat' with_reducible refine Su ?_ ?_)<;>(try(with_reducible refine hK _ ?_;clear hK K)))
|omega)
  refine bK (by first|exact .inl rfl|exact .inr rfl) (by simp(disch:=omega) only[go_sem]) ?_;simp(disch:=omega) only[go_sem];refine Xj rfl ?_;refine Xi [0,1,2] rfl (by simp) (by decide) (by intro k hk;match k,hk with|0,_=>rfl|1,_=>rfl) ⟨rfl,by simp[inV]⟩ ?_ (af.done (hp:=[.dead,.dead,.rows 3 (rs.insertIdx i r)]) rfl rfl);rw[yG (by omega) (by omega) (by omega) (by omega) (by omega)];simp only[go_sem]
 ·(refine zW qw zn (zx @if_pos.{1} (zx @if_neg.{1} (zx @dX (zx @dY (zx @zf (zx @y3 (zx @List.length_take.{0} (zx @List.length_drop.{0} @SC)))))))) (z1 ?_)<;>(repeat with_reducible intro hc))
  refine bK (by first|exact .inl rfl|exact .inr rfl) (by simp(disch:=omega) only[go_sem]) ?_;simp(disch:=omega) only[go_sem];rw[qq (by omega) rfl (by omega) (by omega) (by omega) (by omega) (by omega),show i+(rs.length+1-i)=rs.length+1 from by omega];refine Xi [0,1,2] rfl (by simp) (by decide) (by intro k hk;match k,hk with|0,_=>rfl|1,_=>rfl) ⟨rfl,by simp[inV]⟩ ?_ (af.done (hp:=[.dead,.dead,.rows 3 (rs.insertIdx i r)]) rfl rfl);simp only[go_sem]
theorem wR(rs:List (List DV))(i:Nat)(hi:i<rs.length)(hb:rs.length*88≤140737488351232):ab prog [.rows 9 rs] 127 [.osl 0 9 0 rs.length,I i,I ((i:Int)+1)] (dr (.osl 1 9 0 (rs.length-1)) [.dead,.rows 9 (rs.eraseIdx i)]):=by
 refine zJ func127 ntmps127 results127 ?_;simp only[go_sem];refine Xk 0 (k:=0) (sz:=9) (off:=0) (n:=rs.length) rfl (by omega) rfl (by decide) fun junk hj hjl=>?_
 simp only[go_sem,SO] at hjl ⊢
 by_cases hN:i+1<rs.length+junk.length
 ·(refine zW qw zn (zx @if_pos.{1} (zx @if_neg.{1} (zx @dX (zx @dY (zx @List.length_take.{0} (zx @List.length_drop.{0} @SC)))))) (z1 ?_)<;>(repeat with_reducible intro hc))
  refine bK (by first|exact .inl rfl|exact .inr rfl) (by simp(disch:=omega) only[go_sem]) ?_;simp(disch:=omega) only[go_sem];rw[show i+(rs.length-(i+1))=rs.length-1 from by omega];refine Xj rfl (af.done rfl ?_);rw[pd hi rfl rfl];rfl
 ·(refine zW qw zn (zx @if_pos.{1} (zx @if_neg.{1} (zx @dX (zx @dY (zx @List.length_take.{0} (zx @List.length_drop.{0} @SC)))))) (z1 ?_)<;>(repeat with_reducible intro hc))
  refine bK (by first|exact .inl rfl|exact .inr rfl) (by simp(disch:=omega) only[go_sem]) ?_;simp(disch:=omega) only[go_sem];rw[show i+0=rs.length-1 from by omega];refine Xj rfl (af.done rfl ?_);rw[qf (by omega) (by omega)];rfl
theorem GP(rs:List (List DV))(r:List DV)(i:Nat)(hi:i≤rs.length)(hb:(rs.length+1)*88≤140737488351232) :
  ab prog [.rows 9 rs,.rows 9 [r]] 129 [.osl 0 9 0 rs.length,I i,.osl 1 9 0 1] (dr (.osl 2 9 0 (rs.length+1)) [.dead,.dead,.rows 9 (rs.insertIdx i r)]):=by
 refine zJ func129 ntmps129 results129 ?_;simp only[go_sem]
 by_cases hin:i=rs.length
 ·subst hin
  (refine zW qw zn (zx @if_pos.{1} (zx @if_neg.{1} (zx @dX @dY))) (z1 ?_)<;>(repeat with_reducible intro hc))
  refine bK (by first|exact .inl rfl|exact .inr rfl) (by simp(disch:=omega) only[go_sem]) ?_;simp(disch:=omega) only[go_sem];refine Xi [0,1,2] rfl (by simp) (by decide) (by intro k hk;match k,hk with|0,_=>rfl|1,_=>rfl) ⟨rfl,by simp[inV]⟩ ?_ (af.done (hp:=[.dead,.dead,.rows 9 (List.take rs.length rs++[r])]) rfl ?_)
  ·simp only[go_sem]
  ·rw[cT _ _ _ (RP _),TG]
 refine Xk 0 (k:=0) (sz:=9) (off:=0) (n:=rs.length) rfl (by omega) rfl (by decide) fun junk hj hjl=>?_
 simp only[go_sem,SO] at hjl ⊢
 by_cases hN:rs.length+1≤rs.length+junk.length
 ·(repeat' first
|(with_reducible refine AR.f ?_)
|refine bH (by decide) ?_
|(with_reducible refine AWP.cond rfl ?_ ?_<;>intro hc<;>(try simp only[hcs,R1,Sa,Sb] at hc))
|((first|((first|(with_reducible first|refine zR ?_|refine zQ ?_|refine zD ?_|refine zE ?_|refine zG ?_));intro K hK)|refine acallHK_ext (ext_overlaps func191 (by kernel_rfl) (by kernel_rfl) (by kernel_rfl) (tS:=50) (tR:=4) (e:=93) (by kernel_rfl) dn (by simp only[QI,Nk]) (by simp[QL,NH]) (k:=1) (k':=0) rfl (.inl ⟨rfl,rfl⟩) rfl (.inr ⟨rfl,rfl⟩) (by decide) (by omega) (by omega) (by decide)) ?_)<;>(try simp(disch:=omega) only[go_sem,aa,RJ,RI,dX,dY,RV,RZ,SC])<;>(repeat' with_reducible refine Su ?_ ?_)<;>(try(with_reducible refine hK _ ?_;clear hK K)))
|omega)
  refine bK (by first|exact .inl rfl|exact .inr rfl) (by simp(disch:=omega) only[go_sem]) ?_;simp(disch:=omega) only[go_sem];refine Xj rfl ?_;refine Xi [0,1,2] rfl (by simp) (by decide) (by intro k hk;match k,hk with|0,_=>rfl|1,_=>rfl) ⟨rfl,by simp[inV]⟩ ?_ (af.done (hp:=[.dead,.dead,.rows 9 (rs.insertIdx i r)]) rfl rfl);rw[yG (by omega) (by omega) (by omega) (by omega) (by omega)];simp only[go_sem]
 ·(refine zW qw zn (zx @if_pos.{1} (zx @if_neg.{1} (zx @dX (zx @dY (zx @zf (zx @y3 (zx @List.length_take.{0} (zx @List.length_drop.{0} @SC)))))))) (z1 ?_)<;>(repeat with_reducible intro hc))
  refine bK (by first|exact .inl rfl|exact .inr rfl) (by simp(disch:=omega) only[go_sem]) ?_;simp(disch:=omega) only[go_sem];rw[qq (by omega) rfl (by omega) (by omega) (by omega) (by omega) (by omega),show i+(rs.length+1-i)=rs.length+1 from by omega];refine Xi [0,1,2] rfl (by simp) (by decide) (by intro k hk;match k,hk with|0,_=>rfl|1,_=>rfl) ⟨rfl,by simp[inV]⟩ ?_ (af.done (hp:=[.dead,.dead,.rows 9 (rs.insertIdx i r)]) rfl rfl);simp only[go_sem]
theorem IH(rs:List (List DV))(i:Nat)(hi:i<rs.length)(hb:rs.length*8≤140737488351232):ab prog [.rows 1 rs] 71 [.osl 0 1 0 rs.length,I i,I ((i:Int)+1)] (dr (.osl 1 1 0 (rs.length-1)) [.dead,.rows 1 (rs.eraseIdx i)]):=by
 refine zJ func71 ntmps71 results71 ?_;simp only[go_sem];refine Xk 0 (k:=0) (sz:=1) (off:=0) (n:=rs.length) rfl (by omega) rfl (by decide) fun junk hj hjl=>?_
 simp only[go_sem,SO] at hjl ⊢
 by_cases hN:i+1<rs.length+junk.length
 ·(refine zW qw zn (zx @if_pos.{1} (zx @if_neg.{1} (zx @dX (zx @dY (zx @List.length_take.{0} (zx @List.length_drop.{0} @SC)))))) (z1 ?_)<;>(repeat with_reducible intro hc))
  refine bK (by first|exact .inl rfl|exact .inr rfl) (by simp(disch:=omega) only[go_sem]) ?_;simp(disch:=omega) only[go_sem];rw[show i+(rs.length-(i+1))=rs.length-1 from by omega];refine Xj rfl (af.done rfl ?_);rw[pd hi rfl rfl];rfl
 ·(refine zW qw zn (zx @if_pos.{1} (zx @if_neg.{1} (zx @dX (zx @dY (zx @List.length_take.{0} (zx @List.length_drop.{0} @SC)))))) (z1 ?_)<;>(repeat with_reducible intro hc))
  refine bK (by first|exact .inl rfl|exact .inr rfl) (by simp(disch:=omega) only[go_sem]) ?_;simp(disch:=omega) only[go_sem];rw[show i+0=rs.length-1 from by omega];refine Xj rfl (af.done rfl ?_);rw[qf (by omega) (by omega)];rfl
theorem Mf(rs:List (List DV))(r:List DV)(i:Nat)(hi:i≤rs.length)(hb:(rs.length+1)*8≤140737488351232) :
  ab prog [.rows 1 rs,.rows 1 [r]] 70 [.osl 0 1 0 rs.length,I i,.osl 1 1 0 1] (dr (.osl 2 1 0 (rs.length+1)) [.dead,.dead,.rows 1 (rs.insertIdx i r)]):=by
 refine zJ func70 ntmps70 results70 ?_;simp only[go_sem]
 by_cases hin:i=rs.length
 ·subst hin
  (refine zW qw zn (zx @if_pos.{1} (zx @if_neg.{1} (zx @dX @dY))) (z1 ?_)<;>(repeat with_reducible intro hc))
  refine bK (by first|exact .inl rfl|exact .inr rfl) (by simp(disch:=omega) only[go_sem]) ?_;simp(disch:=omega) only[go_sem];refine Xi [0,1,2] rfl (by simp) (by decide) (by intro k hk;match k,hk with|0,_=>rfl|1,_=>rfl) ⟨rfl,by simp[inV]⟩ ?_ (af.done (hp:=[.dead,.dead,.rows 1 (List.take rs.length rs++[r])]) rfl ?_)
  ·simp only[go_sem]
  ·rw[cT _ _ _ (RP _),TG]
 refine Xk 0 (k:=0) (sz:=1) (off:=0) (n:=rs.length) rfl (by omega) rfl (by decide) fun junk hj hjl=>?_
 simp only[go_sem,SO] at hjl ⊢
 by_cases hN:rs.length+1≤rs.length+junk.length
 ·(repeat' first
|(with_reducible refine AR.f ?_)
|refine bH (by decide) ?_
|(with_reducible refine AWP.cond rfl ?_ ?_<;>intro hc<;>(try simp only[hcs,R1,Sa,Sb] at hc))
|((first|((first|(with_reducible first|refine zR ?_|refine zQ ?_|refine zD ?_|refine zE ?_|refine zG ?_));intro K hK)|refine acallHK_ext (ext_overlaps func125 (by kernel_rfl) (by kernel_rfl) (by kernel_rfl) (tS:=51) (tR:=4) (e:=3) (by kernel_rfl) dn (by simp only[QC,Mq]) (by simp[T_3,ty3]) (k:=1) (k':=0) rfl (.inl ⟨rfl,rfl⟩) rfl (.inr ⟨rfl,rfl⟩) (by decide) (by omega) (by omega) (by decide)) ?_)<;>(try simp(disch:=omega) only[go_sem,aa,RJ,RI,dX,dY,RV,RZ,SC])<;>(repeat' with_reducible refine Su ?_ ?_)<;>(try(with_reducible refine hK _ ?_;clear hK K)))
|omega)
  refine bK (by first|exact .inl rfl|exact .inr rfl) (by simp(disch:=omega) only[go_sem]) ?_;simp(disch:=omega) only[go_sem];refine Xj rfl ?_;refine Xi [0,1,2] rfl (by simp) (by decide) (by intro k hk;match k,hk with|0,_=>rfl|1,_=>rfl) ⟨rfl,by simp[inV]⟩ ?_ (af.done (hp:=[.dead,.dead,.rows 1 (rs.insertIdx i r)]) rfl rfl);rw[yG (by omega) (by omega) (by omega) (by omega) (by omega)];simp only[go_sem]
 ·(refine zW qw zn (zx @if_pos.{1} (zx @if_neg.{1} (zx @dX (zx @dY (zx @zf (zx @y3 (zx @List.length_take.{0} (zx @List.length_drop.{0} @SC)))))))) (z1 ?_)<;>(repeat with_reducible intro hc))
  refine bK (by first|exact .inl rfl|exact .inr rfl) (by simp(disch:=omega) only[go_sem]) ?_;simp(disch:=omega) only[go_sem];rw[qq (by omega) rfl (by omega) (by omega) (by omega) (by omega) (by omega),show i+(rs.length+1-i)=rs.length+1 from by omega];refine Xi [0,1,2] rfl (by simp) (by decide) (by intro k hk;match k,hk with|0,_=>rfl|1,_=>rfl) ⟨rfl,by simp[inV]⟩ ?_ (af.done (hp:=[.dead,.dead,.rows 1 (rs.insertIdx i r)]) rfl rfl);simp only[go_sem]
attribute [go_sem] ntmps141 results141 ntmps142 results142 ntmps210 results210 ntmps211 results211 ntmps255 results255 ntmps258 results258
def DT(f:AFile):Prop:=aU f.name=true∧f.safe.length+f.tail.length≤1048576
instance (f:AFile):Decidable (DT f):=by unfold DT;infer_instance
def vk(l:List AFile)(k:Nat):Prop:=DT (l.getD k default)∧(0<k→(l.getD (k-1) default).name<(l.getD k default).name)
instance (l:List AFile) (k:Nat):Decidable (vk l k):=by unfold vk;infer_instance
def bF(l:List AFile):Bool:=decide (l.length≤16∧∀ k,k<l.length→vk l k)
theorem bT{l:List AFile}(h:bF l=true):aF (l.map AFile.name):=by
 intro k hk;unfold bF at h;rw[RN] at h
 have:=(h.2 (k+1) (by simpa using hk)).2 (by omega);have e:∀ j,(l.map AFile.name).getD j []=(l.getD j default).name:=fun j=>cW AFile.name l j default
 rw[e,e];simpa using this
theorem mR(n:Nat):((n:Int)-1).toNat=n-1:=by omega
theorem eL{l:List AFile}(h:∀ f,f∈l→f.wf)(k:Nat):okS (l.getD k default).name∧(l.getD k default).name.length≤140737488351232∧(l.getD k default).safe.length≤140737488351232∧(l.getD k default).tail.length≤140737488351232:=by
 by_cases e:k<l.length
 ·have:=h _ (aZ l k e)
  exact⟨this.1,this.1,this.2.1,this.2.2⟩
 ·rw[RG,R9 (by omega)];exact⟨show okS [] by unfold okS;decide,by decide,by decide,by decide⟩
theorem good_d_c(d:X4)(h:d.files.length*48≤140737488351232)(hw:∀ f,f∈d.files→f.wf):ab prog [] 36 [d.av] (ret (B (bF d.files))):=by
 refine zJ func36 ntmps36 results36 ?_;simp only[go_sem]
 (refine zW qw zn Yj (z2 ?_ ?_)<;>(repeat with_reducible intro hc))
 ·(refine zE2 Yj ?_;(try simp(disch:=omega) only[go_sem,aa,I,B,S,zj]))
  unfold bF;symm;rw[RR];rintro⟨a,-⟩;omega
 refine Xd (ι:=Nat) (fun k=>k≤d.files.length∧∀ j,j<k→vk d.files j) (fun k=>d.files.length-k) [1,10,11] (fun k=>[(12,I k)]) 0 ?_ (by simp(disch:=omega) only[go_sem,aa,SI]) ?_
 ·exact⟨by omega,by omega⟩
 intro k ⟨hk,hk2⟩;obtain⟨w0,w1,w2,w3⟩:=eL hw k;simp only[go_sem]
 (refine zW qw (z1 (iC _ w0)) (zx @mR @ey) (z3 ?_ ?_ ?_)<;>(repeat with_reducible intro hc))
 ·(refine zE2 Yj ?_;(try simp(disch:=omega) only[go_sem,aa,I,B,S,zj]))
  unfold bF;symm;rw[RR];rintro⟨-,a⟩;have a1:=a k (by assumption);rcases hc with(c|c)|c
  ·rw[a1.1.1] at c;exact absurd c (by simp)
  ·exact absurd (a1.2 (by omega)) (by simpa using c.2)
  ·have:=a1.1.2;omega
 ·refine⟨k+1,⟨by omega,fun j hj=>?_⟩,by omega,?_⟩
  ·by_cases e:j=k
   ·subst e
    exact⟨⟨hc.1.1,by omega⟩,fun h0=>(hc.1.2.resolve_left (by omega))⟩
   ·exact hk2 j (by omega)
  exact zFr [0] Yj
 ·(refine zE2 Yj ?_;(try simp(disch:=omega) only[go_sem,aa,I,B,S,zj]))
  unfold bF;symm;rw[RN];exact⟨by omega,fun j hj=>hk2 j (by omega)⟩
theorem ref_good_d_c(d:X4)(h:d.files.length*48≤140737488351232)(hw:∀ f,f∈d.files→f.wf):ab prog [] 152 [d.av] (ret (B (bF d.files))):=by
 refine zJ func152 ntmps152 results152 ?_;simp only[go_sem];refine zW qw zn Yj (z1 ?_);refine Xd (ι:=Nat) (fun k=>k≤d.files.length∧∀ j,j<k→vk d.files j) (fun k=>d.files.length-k) [1,6,7] (fun k=>[(8,I k)]) 0 ?_ (by simp(disch:=omega) only[go_sem,aa,SI]) ?_
 ·exact⟨by omega,by omega⟩
 intro k ⟨hk,hk2⟩;obtain⟨w0,w1,w2,w3⟩:=eL hw k;simp only[go_sem]
 (refine zW qw (z1 (ref_named_c _ w0)) (zx @mR @ey) (z4 ?_ ?_ ?_ ?_)<;>(repeat with_reducible intro hc))
 ·(refine zE2 Yj ?_;(try simp(disch:=omega) only[go_sem,aa,I,B,S,zj]))
  unfold bF;symm;rw[RR];rintro⟨-,a⟩;have a1:=a k (by assumption);rcases hc with c|c
  ·rw[a1.1.1] at c;exact absurd c (by simp)
  ·have:=a1.1.2;omega
 ·(refine zE2 Yj ?_;(try simp(disch:=omega) only[go_sem,aa,I,B,S,zj]))
  unfold bF;symm;rw[RR];rintro⟨-,a⟩;have a1:=a k (by assumption);exact hc.2 (a1.2 (by omega))
 ·rename_i hc1
  refine⟨k+1,⟨by omega,fun j hj=>?_⟩,by omega,?_⟩
  ·by_cases e:j=k
   ·subst e
    exact⟨⟨hc1.1,by omega⟩,fun h0=>(hc.resolve_left (by omega))⟩
   ·exact hk2 j (by omega)
  exact zFr [0] Yj
 ·(refine zE2 Yj ?_;(try simp(disch:=omega) only[go_sem,aa,I,B,S,zj]))
  have a:∀ j,j<d.files.length→vk d.files j:=fun j hj=>hk2 j (by omega)
  unfold bF;rw[Tv,RN,RN];exact⟨fun h=>⟨by omega,a⟩,fun h=>by omega⟩
theorem find_c(d:X4)(key:List UInt8)(h:d.files.length*48≤140737488351232)(hr:bF d.files=true) :
  ab prog [] 137 [d.av,S key] (ret (.tup [I (place (d.files.map AFile.name) key),B (decide (key∈d.files.map AFile.name))])):=by
 refine zJ func137 ntmps137 results137 ?_;simp only[go_sem];refine zW qw (z1 (LP _ key h (bT hr))) Yj (z1 ?_);exact zEe Yj
def jj(l:List AFile)(key:List UInt8):Int:=if key∈l.map AFile.name then(place (l.map AFile.name) key:Nat) else -1
theorem file_c(d:X4)(key:List UInt8)(h:d.files.length*48≤140737488351232)(hr:bF d.files=true):ab prog [] 206 [d.av,S key] (ret (I (jj d.files key))):=by
 have hn:∀ k,(d.files.map AFile.name).getD k []=(d.files.getD k default).name:=fun k=>cW AFile.name d.files k default
 have hr2:=bT hr;refine zJ func206 ntmps206 results206 ?_;simp only[go_sem];refine zW qw zn Yj (z1 ?_);refine Xd (ι:=Nat) (fun k=>k≤d.files.length∧∀ j,j<k→(d.files.getD j default).name≠key) (fun k=>d.files.length-k) [1,8,9] (fun k=>[(10,I k)]) 0 ?_ (by simp(disch:=omega) only[go_sem,aa,SI]) ?_
 ·exact⟨by omega,by omega⟩
 intro k ⟨hk,hk2⟩;simp only[go_sem]
 (refine zW qw zn Yj (z3 ?_ ?_ ?_)<;>(repeat with_reducible intro hc))
 ·(refine zE2 Yj ?_;(try simp(disch:=omega) only[go_sem,aa,I,B,S,zj]))
  have hl:k<(d.files.map AFile.name).length:=by simp;omega
  have e:=pj hr2 hl;rw[hn,hc] at e;unfold jj;rw[RJ ((aM _ [] key).2 ⟨k,hl,by rw[hn];exact hc⟩),e]
 ·refine⟨k+1,⟨by omega,fun j hj=>?_⟩,by omega,?_⟩
  ·by_cases e:j=k
   ·subst e;exact hc
   ·exact hk2 j (by omega)
  exact zFr [0] Yj
 ·(refine zE2 Yj ?_;(try simp(disch:=omega) only[go_sem,aa,I,B,S,zj]))
  unfold jj;rw[RI];rw[aM _ [] key]
  rintro⟨j,hj,e⟩
  rw[hn] at e;exact hk2 j (by simp at hj;omega) e
theorem AW(l:List AFile)(h:l.length*48≤140737488351232):ab prog [] 199 [.d (.sl 3 (l.map AFile.row))] (own 3 (l.map AFile.row)):=by
 refine zJ func199 ntmps199 results199 ?_;simp only[go_sem]
 (repeat' first
|(with_reducible refine AR.f ?_)
|refine bH (by decide) ?_
|(with_reducible refine AWP.cond rfl ?_ ?_<;>intro hc<;>(try simp only[hcs,R1,Sa,Sb] at hc))
|((first|((first|(with_reducible first|refine zR ?_));intro K hK)|((first|(with_reducible refine aunder_i ?_ ?_<;>intro hg)|with_reducible intro hg)<;>(first|(exfalso;simp at hg;done)|(have hg':=hg;(try simp only[hcs,R1,Sa,Sb] at hg');(try simp only[hg])))))<;>(try simp(disch:=omega) only[go_sem,aa])<;>(repeat' with_reducible refine Su ?_ ?_)<;>(try(with_reducible refine hK _ ?_;clear hK K)))
|omega)
 ·have e:l.length=0:=by
   rcases TC l.length with h0|h0
   ·exact h0
   ·rw[hg h0] at hc;simp at hc
  rw[gU e]
  (refine m6 (by first|exact .inl rfl|exact .inr rfl) rfl ?_ ?_<;>simp(disch:=omega) only[go_sem,aa])
 ·(refine mI 1 (by first|exact .inl rfl|exact .inr rfl) rfl ?_ rfl rfl ?_<;>(try simp(disch:=omega) only[go_sem,aa,RO]))
theorem ev(d:X4)(h:d.files.length*48≤140737488351232):ab prog [] 138 [d.av] (dr (.agg [.osl 0 3 0 d.files.length]) [.rows 3 (d.files.map AFile.row)]):=by
 refine zJ func138 ntmps138 results138 ?_;simp only[go_sem];refine zW qw (z1 (AW _ h)) Yj (z1 ?_)
 (refine zOp Yj ?_;simp(disch:=omega) only[go_sem,aa];refine Xc ?_ (af.same ⟨rfl,rfl⟩);refine zV [2] rfl rfl rfl rfl ?_ ?_<;>simp(disch:=omega) only[go_sem,aa,UC,UD])
theorem mL(d:X4)(h:d.files.length*48≤140737488351232):ab prog [] 208 [d.av] (ret d.av):=by
 refine zJ func208 ntmps208 results208 ?_;simp only[go_sem];refine zW qw zn Yj (z1 ?_)
 all_goals exact zEe Yj
theorem Ag(a b:X4)(h:a.files.length*48≤140737488351232)(h2:b.files.length*48≤140737488351232):ab prog [] 60 [a.av,b.av] (ret (B (decide (a=b)))):=by
 refine zJ func60 ntmps60 results60 ?_;simp only[go_sem]
 (refine zW qw zn Yj (z2 ?_ ?_)<;>(repeat with_reducible intro hc))
 ·(refine zE2 Yj ?_;(try simp(disch:=omega) only[go_sem,aa,I,B,S,zj]))
  symm;rw[RR];intro e;subst e;simp at hc
 have h3:=hc;refine Xd (ι:=Nat) (fun k=>k≤a.files.length∧∀ j,j<k→a.files.getD j default=b.files.getD j default) (fun k=>a.files.length-k) [2,3,15] (fun k=>[(16,I k)]) 0 ?_ (by simp(disch:=omega) only[go_sem,aa,SI]) ?_
 ·exact⟨by omega,by omega⟩
 intro k ⟨hk,hk2⟩;simp only[go_sem]
 (refine zW qw zn Yj (z3 ?_ ?_ ?_)<;>(repeat with_reducible intro hc))
 ·(refine zE2 Yj ?_;(try simp(disch:=omega) only[go_sem,aa,I,B,S,zj]))
  symm;rw[RR];intro e;subst e;simp at hc
 ·refine⟨k+1,⟨by omega,fun j hj=>?_⟩,by omega,?_⟩
  ·by_cases e:j=k
   ·subst e;exact hc
   ·exact hk2 j (by omega)
  exact zSm Yj
 ·(refine zE2 Yj ?_;(try simp(disch:=omega) only[go_sem,aa,I,B,S,zj]))
  symm;rw[RN,X4.ext_iff]
  exact fP (by omega) fun j hj=>hk2 j (by omega)
def readD(l:List AFile)(key:List UInt8):List UInt8×Int:=
 if bF l=false then([],3) else if key∈l.map AFile.name then((l.getD (place (l.map AFile.name) key) default).safe++(l.getD (place (l.map AFile.name) key) default).tail,0) else([],7)
theorem IC(d:X4)(key:List UInt8)(h:d.files.length*48≤140737488351232)(hw:∀ f,f∈d.files→f.wf):ab prog [] 82 [d.av,S key] (ret (.tup [S (readD d.files key).1,I (readD d.files key).2])):=by
 obtain⟨w0,w1,w2,w3⟩:=eL hw (place (d.files.map AFile.name) key);refine zJ func82 ntmps82 results82 ?_;simp only[go_sem]
 (repeat' first
|(with_reducible refine AR.f ?_)
|refine bH (by decide) ?_
|(with_reducible refine AWP.cond rfl ?_ ?_<;>intro hc<;>(try simp only[hcs,R1,Sa,Sb] at hc))
|((first|((first|(with_reducible first|refine zR ?_|refine zQ ?_|refine zD ?_|refine zE ?_|refine zG ?_));intro K hK)|((first|refine zA (good_d_c d h hw) ?_ ?_ ?_ ?_ ?_|refine zA (find_c d key h (by assumption)) ?_ ?_ ?_ ?_ ?_);(focus exact rfl);(focus exact rfl);iterate 2 (focus((try simp(disch:=omega) only[go_sem,aa])<;>(try omega)<;>fail)))|((first|refine zN (find_c d key h (by assumption)) rfl ?_ ?_|refine zX (good_d_c d h hw) rfl ?_ ?_);(focus((try simp(disch:=omega) only[go_sem,aa])<;>(try omega)<;>fail)))|((first|refine zX (find_c d key h (by assumption)) rfl ?_ ?_|refine zY (find_c d key h (by assumption)) ?_ ?_);(focus((try simp(disch:=omega) only[go_sem,aa])<;>(try omega)<;>fail))))<;>(try simp(disch:=omega) only[go_sem,aa])<;>(repeat' with_reducible refine Su ?_ ?_)<;>(try(with_reducible refine hK _ ?_;clear hK K)))
|omega)
 all_goals(try unfold readD)
 ·rw[RJ hc];exact zEe Yj
 ·rw[RI (by simp[*]),RI hc];exact zEe Yj
 ·have:=(ag (bT (by assumption)) hc).1;simp at this;omega
 ·have:=(ag (bT (by assumption)) hc).1;simp at this;omega
 ·rw[RI (by simp[*]),RJ hc];exact zEe Yj
theorem FL{l:List AFile}{key:List UInt8}(h:jj l key<0):¬ key∈l.map AFile.name:=by
 unfold jj at h;split at h
 ·omega
 ·assumption
theorem xP{l:List AFile}{key:List UInt8}(h:0≤jj l key):key∈l.map AFile.name∧jj l key=(place (l.map AFile.name) key:Nat):=by
 unfold jj at h ⊢;split at h
 ·rename_i e;rw[RJ e];exact⟨e,rfl⟩
 ·omega
theorem Ca{l:List AFile}{key:List UInt8}(hr:bF l=true)(h:0≤jj l key):jj l key<l.length:=by
 obtain⟨a,b⟩:=xP h
 have:=(ag (bT hr) a).1;simp at this;omega
theorem tJ(d:X4)(key:List UInt8)(h:d.files.length*48≤140737488351232)(hw:∀ f,f∈d.files→f.wf):ab prog [] 146 [d.av,S key] (ret (.tup [S (readD d.files key).1,I (readD d.files key).2])):=by
 refine zJ func146 ntmps146 results146 ?_;simp only[go_sem]
 (repeat' first
|(with_reducible refine AR.f ?_)
|refine bH (by decide) ?_
|(with_reducible refine AWP.cond rfl ?_ ?_<;>intro hc<;>(try simp only[hcs,R1,Sa,Sb] at hc))
|((first|((first|(with_reducible first|refine zR ?_|refine zQ ?_|refine zD ?_|refine zE ?_|refine zG ?_));intro K hK)|((first|refine zA (ref_good_d_c d h hw) ?_ ?_ ?_ ?_ ?_|refine zA (file_c d key h (by assumption)) ?_ ?_ ?_ ?_ ?_);(focus exact rfl);(focus exact rfl);iterate 2 (focus((try simp(disch:=omega) only[go_sem,aa])<;>(try omega)<;>fail)))|((first|refine zX (ref_good_d_c d h hw) rfl ?_ ?_|refine zX (file_c d key h (by assumption)) rfl ?_ ?_);(focus((try simp(disch:=omega) only[go_sem,aa])<;>(try omega)<;>fail))))<;>(try simp(disch:=omega) only[go_sem,aa])<;>(repeat' with_reducible refine Su ?_ ?_)<;>(try(with_reducible refine hK _ ?_;clear hK K)))
|omega)
 ·unfold readD;rw[RJ hc];exact zEe Yj
 ·unfold readD;rw[RI (by simp[*]),RI (FL hc)];exact zEe Yj
 ·exact Ca (by assumption) hc
 ·exact Ca (by assumption) hc
 ·obtain⟨w0,w1,w2,w3⟩:=eL hw (jj d.files key).toNat;omega
 ·have e:=xP hc
  unfold readD;rw[RI (by simp[*]),RJ e.1];rw[e.2];exact zEe Yj
def bo(l:List AFile)(key:List UInt8)(F:AFile→AFile×Int):X4×Int:=
 if bF l=false then(default,3) else if key∈l.map AFile.name then
  (if(F (l.getD (place (l.map AFile.name) key) default)).2=0 then(⟨l.set (place (l.map AFile.name) key) (F (l.getD (place (l.map AFile.name) key) default)).1⟩,0) else(default,(F (l.getD (place (l.map AFile.name) key) default)).2)) else(default,7)
def lT(f:AFile):AFile×Int:=(⟨f.name,f.safe++f.tail,[]⟩,0)
def jG(n:Int)(f:AFile):AFile×Int:=if n<0∨(f.safe.length:Int)+f.tail.length<n then(default,3) else(⟨f.name,(f.safe++f.tail).take n.toNat,[]⟩,0)
theorem jw{l:List AFile}{key:List UInt8}{F:AFile→AFile×Int}(h:¬ bF l=true):bo l key F=(default,3):=by unfold bo;rw[RJ (by simpa using h)]
theorem hZ{l:List AFile}{key:List UInt8}{F:AFile→AFile×Int}(h:bF l=true)(h2:¬ key∈l.map AFile.name):bo l key F=(default,7):=by unfold bo;rw[RI (by simp[h]),RI h2]
theorem tZ{l:List AFile}{key:List UInt8}{F:AFile→AFile×Int}(h:bF l=true)(h2:key∈l.map AFile.name)(h3:¬ (F (l.getD (place (l.map AFile.name) key) default)).2=0) :
  bo l key F=(default,(F (l.getD (place (l.map AFile.name) key) default)).2):=by unfold bo;rw[RI (by simp[h]),RJ h2,RI h3]
theorem fW{l:List AFile}{key:List UInt8}{F:AFile→AFile×Int}(h:bF l=true)(h2:key∈l.map AFile.name)(h3:(F (l.getD (place (l.map AFile.name) key) default)).2=0) :
  bo l key F=(⟨l.set (place (l.map AFile.name) key) (F (l.getD (place (l.map AFile.name) key) default)).1⟩,0):=by unfold bo;rw[RI (by simp[h]),RJ h2,RJ h3]
theorem dC{l:List AFile}{key:List UInt8}(h:bF l=true)(h2:key∈l.map AFile.name):place (l.map AFile.name) key<l.length:=by have:=(ag (bT h) h2).1;simpa using this
theorem bW(d:X4)(h:d.files.length*48≤140737488351232):ab prog [] 208 [d.av] (dr (.agg [.osl 0 3 0 d.files.length]) [.rows 3 (d.files.map AFile.row)]):=by
 refine zJ func208 ntmps208 results208 ?_;simp only[go_sem];refine zW qw zn Yj (z1 ?_)
 all_goals(refine zOp Yj ?_;simp(disch:=omega) only[go_sem,aa];refine Xc ?_ (af.same ⟨rfl,rfl⟩);refine zV [2] rfl rfl rfl rfl ?_ ?_<;>simp(disch:=omega) only[go_sem,aa,UC,UD])
theorem fileI_no{l:List AFile}{key:List UInt8}(h:¬ key∈l.map AFile.name):jj l key=-1:=by unfold jj;rw[RI h]
theorem fileI_yes{l:List AFile}{key:List UInt8}(h:key∈l.map AFile.name):jj l key=(place (l.map AFile.name) key:Nat):=by unfold jj;rw[RJ h]
theorem L5(d:X4)(key:List UInt8)(h:d.files.length*48≤140737488351232)(hw:∀ f,f∈d.files→f.wf):ab prog [] 229 [d.av,S key] (ret (.tup [(bo d.files key lT).1.av,I (bo d.files key lT).2])):=by
 obtain⟨w0,w1,w2,w3⟩:=eL hw (place (d.files.map AFile.name) key)
 by_cases hg:bF d.files=true
 ·by_cases hm:key∈d.files.map AFile.name
  ·have hpl:=dC hg hm
   rw[fW hg hm rfl];refine zJ func229 ntmps229 results229 ?_;simp only[go_sem];refine zW qw (zc ((good_d_c d h hw).re (by rw[hg])) (z4 ((find_c d key h hg).re (by rw[decide_eq_true hm])) (ev d h) (ic func141) (ic func258))) (zx @AFile.rgetD (zx @bs (zx @AFile.rset (zx @az @List.set_set.{0})))) (z1 (fun hc hc hc=>?_))
   (refine zE2 @bL ?_;(try simp(disch:=omega) only[go_sem,aa,bL,I,B,S,zj]))
   exact .inl rfl
  ·rw[hZ hg hm]
   refine zJ func229 ntmps229 results229 ?_;simp only[go_sem];refine zW qw (z4 ((good_d_c d h hw).re (by rw[hg])) ((find_c d key h hg).re (by rw[R0 hm])) (ic func141) (ic func258)) Yj (z1 (fun hc hc=>?_));exact zEe dfl
 ·rw[jw hg]
  rw[Tx] at hg;refine zJ func229 ntmps229 results229 ?_;simp only[go_sem];refine zW qw (z3 ((good_d_c d h hw).re (by rw[hg])) (ic func141) (ic func258)) Yj (z1 (fun hc=>?_));exact zEe dfl
theorem tN(d:X4)(key:List UInt8)(h:d.files.length*48≤140737488351232)(hw:∀ f,f∈d.files→f.wf):ab prog [] 216 [d.av,S key] (ret (.tup [(bo d.files key lT).1.av,I (bo d.files key lT).2])):=by
 obtain⟨w0,w1,w2,w3⟩:=eL hw (place (d.files.map AFile.name) key)
 by_cases hg:bF d.files=true
 ·by_cases hm:key∈d.files.map AFile.name
  ·have hpl:=dC hg hm
   rw[fW hg hm rfl];refine zJ func216 ntmps216 results216 ?_;simp only[go_sem];refine zW qw (zc ((ref_good_d_c d h hw).re (by rw[hg])) (z4 ((file_c d key h hg).re (by rw[fileI_yes hm])) (bW d h) (ic func210) (ic func255))) (zx @AFile.rgetD (zx @bs (zx @AFile.rset (zx @az @List.set_set.{0})))) (z1 (fun hc hc hc=>?_))
   (refine zE2 @bL ?_;(try simp(disch:=omega) only[go_sem,aa,bL,I,B,S,zj]))
   exact .inl rfl
  ·rw[hZ hg hm]
   refine zJ func216 ntmps216 results216 ?_;simp only[go_sem];refine zW qw (z4 ((ref_good_d_c d h hw).re (by rw[hg])) ((file_c d key h hg).re (by rw[fileI_no hm])) (ic func210) (ic func255)) Yj (z1 (fun hc hc=>?_));exact zEe dfl
 ·rw[jw hg]
  rw[Tx] at hg;refine zJ func216 ntmps216 results216 ?_;simp only[go_sem];refine zW qw (z3 ((ref_good_d_c d h hw).re (by rw[hg])) (ic func210) (ic func255)) Yj (z1 (fun hc=>?_));exact zEe dfl
theorem Oq(d:X4)(key:List UInt8)(n:Int)(h:d.files.length*48≤140737488351232)(hw:∀ f,f∈d.files→f.wf):ab prog [] 85 [d.av,S key,I n] (ret (.tup [(bo d.files key (jG n)).1.av,I (bo d.files key (jG n)).2])):=by
 obtain⟨w0,w1,w2,w3⟩:=eL hw (place (d.files.map AFile.name) key)
 by_cases hg:bF d.files=true
 ·by_cases hm:key∈d.files.map AFile.name
  ·have hpl:=dC hg hm
   by_cases hn:n<0∨((d.files.getD (place (d.files.map AFile.name) key) default).safe.length:Int)+(d.files.getD (place (d.files.map AFile.name) key) default).tail.length<n
   ·have e:jG n (d.files.getD (place (d.files.map AFile.name) key) default)=(default,3):=by unfold jG;rw[RJ hn]
    rw[tZ hg hm (by rw[e];decide),e];refine zJ func85 ntmps85 results85 ?_;simp only[go_sem];refine zW qw (zc ((good_d_c d h hw).re (by rw[hg])) (z4 ((find_c d key h hg).re (by rw[decide_eq_true hm])) (ev d h) (ic func141) (ic func142))) (zx @AFile.rgetD (zx @bs (zx @AFile.rset (zx @az @List.set_set.{0})))) (z1 (fun hc hc hc hc=>?_))
    all_goals first|omega|skip
    all_goals exact zEe dfl
   ·have e:jG n (d.files.getD (place (d.files.map AFile.name) key) default)=(⟨(d.files.getD (place (d.files.map AFile.name) key) default).name,((d.files.getD (place (d.files.map AFile.name) key) default).safe++(d.files.getD (place (d.files.map AFile.name) key) default).tail).take n.toNat,[]⟩,0):=by unfold jG;rw[RI hn]
    rw[fW hg hm (by rw[e]),e];refine zJ func85 ntmps85 results85 ?_;simp only[go_sem];refine zW qw (zc ((good_d_c d h hw).re (by rw[hg])) (z4 ((find_c d key h hg).re (by rw[decide_eq_true hm])) (ev d h) (ic func141) (ic func142))) (zx @AFile.rgetD (zx @bs (zx @AFile.rset (zx @az @List.set_set.{0})))) (z1 (fun hc hc hc hc=>?_))
    all_goals first|omega|skip
    (refine zE2 @bL ?_;(try simp(disch:=omega) only[go_sem,aa,bL,I,B,S,zj]))
    exact .inl rfl
  ·rw[hZ hg hm]
   refine zJ func85 ntmps85 results85 ?_;simp only[go_sem];refine zW qw (z4 ((good_d_c d h hw).re (by rw[hg])) ((find_c d key h hg).re (by rw[R0 hm])) (ic func141) (ic func142)) Yj (z1 (fun hc hc=>?_));exact zEe dfl
 ·rw[jw hg]
  rw[Tx] at hg;refine zJ func85 ntmps85 results85 ?_;simp only[go_sem];refine zW qw (z3 ((good_d_c d h hw).re (by rw[hg])) (ic func141) (ic func142)) Yj (z1 (fun hc=>?_));exact zEe dfl
theorem Hg(d:X4)(key:List UInt8)(n:Int)(h:d.files.length*48≤140737488351232)(hw:∀ f,f∈d.files→f.wf):ab prog [] 149 [d.av,S key,I n] (ret (.tup [(bo d.files key (jG n)).1.av,I (bo d.files key (jG n)).2])):=by
 obtain⟨w0,w1,w2,w3⟩:=eL hw (place (d.files.map AFile.name) key)
 by_cases hg:bF d.files=true
 ·by_cases hm:key∈d.files.map AFile.name
  ·have hpl:=dC hg hm
   by_cases hn:n<0∨((d.files.getD (place (d.files.map AFile.name) key) default).safe.length:Int)+(d.files.getD (place (d.files.map AFile.name) key) default).tail.length<n
   ·have e:jG n (d.files.getD (place (d.files.map AFile.name) key) default)=(default,3):=by unfold jG;rw[RJ hn]
    rw[tZ hg hm (by rw[e];decide),e];refine zJ func149 ntmps149 results149 ?_;simp only[go_sem];refine zW qw (zc ((ref_good_d_c d h hw).re (by rw[hg])) (z4 ((file_c d key h hg).re (by rw[fileI_yes hm])) (bW d h) (ic func210) (ic func211))) (zx @AFile.rgetD (zx @bs (zx @AFile.rset (zx @az @List.set_set.{0})))) (z1 (fun hc hc hc hc=>?_))
    all_goals first|omega|skip
    all_goals exact zEe dfl
   ·have e:jG n (d.files.getD (place (d.files.map AFile.name) key) default)=(⟨(d.files.getD (place (d.files.map AFile.name) key) default).name,((d.files.getD (place (d.files.map AFile.name) key) default).safe++(d.files.getD (place (d.files.map AFile.name) key) default).tail).take n.toNat,[]⟩,0):=by unfold jG;rw[RI hn]
    rw[fW hg hm (by rw[e]),e];refine zJ func149 ntmps149 results149 ?_;simp only[go_sem];refine zW qw (zc ((ref_good_d_c d h hw).re (by rw[hg])) (z4 ((file_c d key h hg).re (by rw[fileI_yes hm])) (bW d h) (ic func210) (ic func211))) (zx @AFile.rgetD (zx @bs (zx @AFile.rset (zx @az @List.set_set.{0})))) (z1 (fun hc hc hc hc=>?_))
    all_goals first|omega|skip
    (refine zE2 @bL ?_;(try simp(disch:=omega) only[go_sem,aa,bL,I,B,S,zj]))
    exact .inl rfl
  ·rw[hZ hg hm]
   refine zJ func149 ntmps149 results149 ?_;simp only[go_sem];refine zW qw (z4 ((ref_good_d_c d h hw).re (by rw[hg])) ((file_c d key h hg).re (by rw[fileI_no hm])) (ic func210) (ic func211)) Yj (z1 (fun hc hc=>?_));exact zEe dfl
 ·rw[jw hg]
  rw[Tx] at hg;refine zJ func149 ntmps149 results149 ?_;simp only[go_sem];refine zW qw (z3 ((ref_good_d_c d h hw).re (by rw[hg])) (ic func210) (ic func211)) Yj (z1 (fun hc=>?_));exact zEe dfl
def bn(l:List AFile)(key:List UInt8):X4×Int:=
 if bF l=false then(default,3) else if key∈l.map AFile.name then(⟨l.eraseIdx (place (l.map AFile.name) key)⟩,0) else(default,7)
theorem JC(d:X4)(key:List UInt8)(h:d.files.length*48≤140737488351232)(hw:∀ f,f∈d.files→f.wf):ab prog [] 237 [d.av,S key] (ret (.tup [(bn d.files key).1.av,I (bn d.files key).2])):=by
 by_cases hg:bF d.files=true
 ·by_cases hm:key∈d.files.map AFile.name
  ·have hpl:=dC hg hm
   unfold bn;rw[RI (by simp[hg]),RJ hm];refine zJ func237 ntmps237 results237 ?_;simp only[go_sem]
   (repeat' first
|(with_reducible refine AR.f ?_)
|(with_reducible refine AWP.cond rfl ?_ ?_<;>intro hc<;>(try simp only[hcs,R1,Sa,Sb] at hc))
|((first|((first|(with_reducible first|refine zR ?_));intro K hK)|((first|refine zA ((good_d_c d h hw).re (by rw[hg])) ?_ ?_ ?_ ?_ ?_|refine zA ((find_c d key h hg).re (by rw[decide_eq_true hm])) ?_ ?_ ?_ ?_ ?_);(focus exact rfl);(focus exact rfl);iterate 2 (focus((try simp(disch:=omega) only[go_sem,aa,dS])<;>(try omega)<;>fail)))|((first|refine zN ((find_c d key h hg).re (by rw[decide_eq_true hm])) rfl ?_ ?_|refine zN (ev d h) rfl ?_ ?_|refine zX ((good_d_c d h hw).re (by rw[hg])) rfl ?_ ?_|refine zY (ev d h) ?_ ?_);(focus((try simp(disch:=omega) only[go_sem,aa,dS])<;>(try omega)<;>fail)))|((first|refine zX ((find_c d key h hg).re (by rw[decide_eq_true hm])) rfl ?_ ?_|refine zY ((find_c d key h hg).re (by rw[decide_eq_true hm])) ?_ ?_);(focus((try simp(disch:=omega) only[go_sem,aa,dS])<;>(try omega)<;>fail)))|(refine acallH_own (Hd (d.files.map AFile.row) (place (d.files.map AFile.name) key) (by simpa using hpl) (by simpa using h)) ?_ ?_ ?_;(focus((try simp(disch:=omega) only[inj,Sk,Th,Sj,R6,RW,R5,Sr,go_sem,aa,dS])<;>(try omega)<;>fail));(focus((try simp(disch:=omega) only[inj,Sk,Th,Sj,R6,RW,R5,Sr,go_sem,aa,dS])<;>(try omega)<;>(try decide)<;>fail))))<;>(try simp(disch:=omega) only[go_sem,aa,dS])<;>(repeat' with_reducible refine Su ?_ ?_)<;>(try(with_reducible refine hK _ ?_;clear hK K)))
|omega)
   exact zEe (zx @vc @cP)
  ·unfold bn
   rw[RI (by simp[hg]),RI hm];refine zJ func237 ntmps237 results237 ?_;simp only[go_sem];refine zW qw (z2 ((good_d_c d h hw).re (by rw[hg])) ((find_c d key h hg).re (by rw[R0 hm]))) Yj (z1 (fun hc hc=>?_));exact zEe dfl
 ·unfold bn
  rw[RJ (by simpa using hg)];rw[Tx] at hg;refine zJ func237 ntmps237 results237 ?_;simp only[go_sem];refine zW qw (z1 ((good_d_c d h hw).re (by rw[hg]))) Yj (z1 (fun hc=>?_));exact zEe dfl
def jE(l:List AFile)(key:List UInt8):List AFile:=l.filter fun f=>decide (f.name≠key)
theorem rQ(l:List AFile)(key:List UInt8)(k:Nat)(h:k<l.length):jE (l.take (k+1)) key=if(l.getD k default).name≠key then jE (l.take k) key++[l.getD k default] else jE (l.take k) key:=by
 unfold jE;rw[aN l k h,SA]
 by_cases e:(l.getD k default).name≠key
 ·rw[RJ e,S2 (by simpa using e)];rfl
 ·rw[RI e,SE (by simpa using e),S3,Se]
theorem Bl{l:List AFile}{key:List UInt8}(h:¬ key∈l.map AFile.name):jE l key=l:=by unfold jE;rw[SU];intro f hf;rw[RN];intro e;exact h (SV.2 ⟨f,hf,e⟩)
theorem qp{l:List AFile}{key:List UInt8}(hr:aF (l.map AFile.name))(h:key∈l.map AFile.name):jE l key=l.eraseIdx (place (l.map AFile.name) key):=by
 have hp:=ag hr h;generalize place (l.map AFile.name) key=p at *
 have hpl:p<l.length:=by simpa using hp.1
 have hne:∀ j,j<l.length→j≠p→(l.getD j default).name≠key:=fun j hj hjp e=>by
  have e1:(l.map AFile.name).getD j []=key:=by rw[show([]:List UInt8)=AFile.name default from rfl,cW];exact e
  rcases TO hjp with h1|h1
  ·have:=aV hr h1 (by simpa using hpl);rw[e1,hp.2] at this;exact Sw _ this
  ·have:=aV hr h1 (by simpa using hj);rw[e1,hp.2] at this;exact Sw _ this
 have hpk:(l.getD p default).name=key:=by have:=hp.2;rwa[show([]:List UInt8)=AFile.name default from rfl,cW] at this
 have hs:l=l.take p++l.getD p default::l.drop (p+1):=by rw[RG,RH hpl];simp
 have h1:(l.take p).filter (fun f=>decide (f.name≠key))=l.take p:=by
  rw[SU];intro f hf;obtain⟨j,hj,rfl⟩:=ST.1 hf
  have:=hne j (by omega) (by omega);rw[RG,RH (by omega)] at this;simpa using this
 have h2:(l.drop (p+1)).filter (fun f=>decide (f.name≠key))=l.drop (p+1):=by
  rw[SU];intro f hf;obtain⟨j,hj,rfl⟩:=Te.1 hf
  have:=hne (p+1+j) (by omega) (by omega);rw[RG,RH (by omega)] at this;simpa using this
 rw[eQ];unfold jE
 conv=>lhs;rw[hs]
 rw[SA,SE (by simp only[hpk];simp),h1,h2]
theorem yX(d:X4)(key:List UInt8)(h:d.files.length*48≤140737488351232)(hw:∀ f,f∈d.files→f.wf):ab prog [] 215 [d.av,S key] (ret (.tup [(bn d.files key).1.av,I (bn d.files key).2])):=by
 refine zJ func215 ntmps215 results215 ?_;simp only[go_sem]
 (refine zW qw (z1 (ref_good_d_c d h hw)) Yj (z2 ?_ ?_)<;>(repeat with_reducible intro hc))
 ·unfold bn;rw[RJ hc];exact zEe dfl
 refine Xa (Xl 2 0 3 rfl rfl) ?_;simp only[go_sem];refine W9 (ι:=Nat) (fun k=>k≤d.files.length) (fun k=>d.files.length-k) [1,2,4,6,14,15] (fun k=>[(16,I k)]) (fun k=>[.cells [.d (.sl 3 (d.files.map AFile.row))],.cells [.d (.sc (.slice none 0 0))],.cells [.osl 3 3 0 (jE (d.files.take k) key).length],.rows 3 ((jE (d.files.take k) key).map AFile.row)]) 0 ?_ ?_ ?_
 ·omega
 ·simp only[go_sem];exact zSm Yj
 intro k hk;have hol:(jE (d.files.take k) key).length≤k:=R8 (SW _ _) (Tg _ _);simp only[go_sem]
 (refine zW qw zn (zx @AFile.rgetD (zx @ay @AFile.rsnoc)) (z4 ?_ ?_ ?_ ?_)<;>(repeat with_reducible intro hc))
 ·refine Zq (k+1) ?_
  rw[rQ _ _ _ (by assumption),RJ hc];exact zFr [0,1,2,6] @List.length_append.{0}
 ·refine Zq (k+1) ?_
  rw[rQ _ _ _ (by assumption),RI (by simpa using hc)];exact zFr [0,1,2,3] Yj
 ·have e:k=d.files.length:=by omega
  subst e;simp only[R7] at *
  unfold bn
  have hno:¬ key∈d.files.map AFile.name:=fun hm=>by
   rw[qp (bT (by assumption)) hm,cP _ _ (dC (by assumption) hm)] at hc
   have:=dC (by assumption) hm;omega
  rw[RI (by simp[*]),RI hno];exact zEe dfl
 ·have e:k=d.files.length:=by omega
  subst e;simp only[R7] at *
  unfold bn;have hm:key∈d.files.map AFile.name:=Sh fun hno=>hc (by rw[Bl hno])
  rw[RI (by simp[*]),RJ hm,←qp (bT (by assumption)) hm];exact zEe Yj
def crashF(keep:Int)(f:AFile):AFile:=⟨f.name,f.safe++f.tail.take keep.toNat,[]⟩
def eI(l:List AFile)(keep:Int):X4×Int:=if bF l=false∨keep<0 then(default,3) else(⟨l.map (crashF keep)⟩,0)
def crashed(l:List AFile)(keep:Int)(k:Nat):List AFile:=(l.take k).map (crashF keep)++l.drop k
theorem sy(l:List AFile)(keep:Int)(k:Nat):(crashed l keep k).length=l.length:=by unfold crashed;simp;omega
theorem BQ(l:List AFile)(keep:Int)(k:Nat)(h:k<l.length):(crashed l keep k).getD k default=l.getD k default:=by
 unfold crashed;have e:((l.take k).map (crashF keep)).length=k:=by simp;omega
 rw[RG,RT (by omega),e,SM,RG,Ty,S8]
theorem zH(l:List AFile)(keep:Int)(k:Nat)(z:List DV)(h:k<l.length):((crashed l keep k).map AFile.row).getD k z=(l.getD k default).row:=by rw[AFile.rgetD _ _ _ (by rw[sy];exact h),BQ _ _ _ h]
theorem Cm(l:List AFile)(keep:Int)(k:Nat)(h:k<l.length):(crashed l keep k).set k (crashF keep (l.getD k default))=crashed l keep (k+1):=by
 unfold crashed;have e:((l.take k).map (crashF keep)).length=k:=by simp;omega
 rw[TZ _ _ (by omega),e,Ty,aN l k h,Sn,Sq];congr 1;rw[S7 h];rfl
theorem Lf(l:List UInt8)(keep:Int)(h:0≤keep):l.take (if(l.length:Int)<keep then(l.length:Int) else keep).toNat=l.take keep.toNat:=by
 split
 ·rw[Ta,R7,RK (by omega)]
 ·rfl
theorem NS(d:X4)(keep:Int)(h:d.files.length*48≤140737488351232)(hw:∀ f,f∈d.files→f.wf):ab prog [] 188 [d.av,I keep] (ret (.tup [(eI d.files keep).1.av,I (eI d.files keep).2])):=by
 refine zJ func188 ntmps188 results188 ?_;simp only[go_sem]
 (refine zW qw (z2 (good_d_c d h hw) (ev d h)) Yj (z2 ?_ ?_)<;>(repeat with_reducible intro hc))
 ·unfold eI;rw[RJ hc];exact zEe dfl
 obtain⟨hg,hk0⟩:=hc;refine W9 (ι:=Nat) (fun k=>k≤d.files.length) (fun k=>d.files.length-k) [1,2,4,20] (fun k=>[(21,I k)]) (fun k=>[.cells [.osl 2 3 0 d.files.length],.cells [.d (.sc (.slice none 0 0))],.rows 3 ((crashed d.files keep k).map AFile.row)]) 0 ?_ ?_ ?_
 ·omega
 ·simp only[go_sem];exact zSm @crashed.eq_1
 intro k hk;obtain⟨w0,w1,w2,w3⟩:=eL hw k;have hcl:=sy d.files keep k;simp only[go_sem]
 (refine zW qw zn (zx @zH (zx @AFile.rset (zx @az @List.set_set.{0}))) (z2 ?_ ?_)<;>(repeat with_reducible intro hc))
 ·refine Zq (k+1) ?_
  have e:(⟨(d.files.getD k default).name,(d.files.getD k default).safe++List.take ((if((d.files.getD k default).tail.length:Int)<keep then((d.files.getD k default).tail.length:Int) else keep).toNat-0) (d.files.getD k default).tail,[]⟩:AFile)=crashF keep (d.files.getD k default):=by unfold crashF;rw[Sg,Lf _ _ hk0]
  rw[e,Cm _ _ _ hc];exact zFr [0,1,2] Yj
 ·have e:k=d.files.length:=by omega
  subst e;have e1:crashed d.files keep d.files.length=d.files.map (crashF keep):=by unfold crashed;simp
  rw[e1];unfold eI;rw[RI (by simp[hg];omega)];exact zEe @List.map_map.{0,0,0}
theorem NO{α β γ:Type}(f:α→β)(g:β→γ)(l:List α)(k:Nat):(((l.take k).map f).map g).take k=((l.take k).map f).map g:=RK (by simp;omega)
theorem BH(d:X4)(keep:Int)(h:d.files.length*48≤140737488351232)(hw:∀ f,f∈d.files→f.wf):ab prog [] 91 [d.av,I keep] (ret (.tup [(eI d.files keep).1.av,I (eI d.files keep).2])):=by
 refine zJ func91 ntmps91 results91 ?_;simp only[go_sem]
 (refine zW qw (z1 (ref_good_d_c d h hw)) Yj (z2 ?_ ?_)<;>(repeat with_reducible intro hc))
 ·unfold eI;rw[RJ hc];exact zEe dfl
 obtain⟨hg,hk0⟩:=hc;refine Xa (Xl 2 0 3 rfl rfl) ?_;simp only[go_sem];refine W9 (ι:=Nat) (fun k=>k≤d.files.length) (fun k=>d.files.length-k) [1,4,6,19,20] (fun k=>[(21,I k)]) (fun k=>[.cells [.d (.sl 3 (d.files.map AFile.row))],.cells [.d (.sc (.slice none 0 0))],.cells [.osl 3 3 0 k],.rows 3 (((d.files.take k).map (crashF keep)).map AFile.row)]) 0 ?_ ?_ ?_
 ·omega
 ·simp only[go_sem];exact zSm Yj
 intro k hk;obtain⟨w0,w1,w2,w3⟩:=eL hw k;simp only[go_sem];have e2:k<d.files.length→(d.files.take (k+1)).map (crashF keep)=(d.files.take k).map (crashF keep)++[crashF keep (d.files.getD k default)]:=fun hlt=>by rw[aN _ k hlt,Sn];rfl
 (refine zW qw zn (zx @AFile.rgetD (zx @AFile.rsnoc (zx @List.length_take.{0} (zx @SC @NO)))) (z3 ?_ ?_ ?_)<;>(repeat with_reducible intro hc))
 ·refine Zq (k+1) ?_
  rw[e2 (by assumption)];exact zFr [0,1,2,6] Yj
 ·refine Zq (k+1) ?_
  have e:crashF keep (d.files.getD k default)=⟨(d.files.getD k default).name,(d.files.getD k default).safe++(d.files.getD k default).tail,[]⟩:=by unfold crashF;rw[RK (by omega)]
  rw[e2 (by assumption),e];exact zFr [0,1,2,6] Yj
 ·have e:k=d.files.length:=by omega
  subst e;unfold eI;rw[RI (by simp[hg];omega)];simp only[R7]
  (refine zE2 Yj ?_;(try simp(disch:=omega) only[go_sem,aa,I,B,S,zj]))
  exact .inl (RK (by simp))
theorem xr{l:List AFile}{key:List UInt8}{F:AFile→AFile×Int}(h:l.length*48≤140737488351232):(bo l key F).1.files.length*48≤140737488351232:=by
 unfold bo;split
 ·decide
 ·split
  ·split
   ·simpa using h
   ·show([]:List AFile).length*48≤_;decide
  ·decide
theorem FB{l:List AFile}{key:List UInt8}(h:l.length*48≤140737488351232):(bn l key).1.files.length*48≤140737488351232:=by
 unfold bn;split
 ·decide
 ·split
  ·rename_i hg hm;simp only;rw[cP _ _ (dC (by simpa using hg) hm)];omega
  ·decide
def aD (l:List AFile) (key s:List UInt8):X4×Int:=
 if bF l=false then(default,3) else if aU key=false then(default,2) else
  if key∈l.map AFile.name then
   (if 1048576<(l.getD (place (l.map AFile.name) key) default).safe.length+(l.getD (place (l.map AFile.name) key) default).tail.length+s.length then(default,1)
    else(⟨l.set (place (l.map AFile.name) key) ⟨(l.getD (place (l.map AFile.name) key) default).name,(l.getD (place (l.map AFile.name) key) default).safe,(l.getD (place (l.map AFile.name) key) default).tail++s⟩⟩,0))
  else if 16≤l.length then(default,6) else if 1048576<s.length then(default,1) else(⟨l.insertIdx (place (l.map AFile.name) key) ⟨key,[],s⟩⟩,0)
theorem pn{l:List AFile}(h:bF l=true):l.length≤16:=by unfold bF at h;rw[RN] at h;exact h.1
theorem iT{l:List AFile}{key:List UInt8}:place (l.map AFile.name) key≤l.length:=by have:=eT (l.map AFile.name) key;simpa using this
theorem zb(d:X4)(key s:List UInt8)(hs:okS s)(hk:okS key)(h:d.files.length*48≤140737488351232)(hw:∀ f,f∈d.files→f.wf):ab prog [] 83 [d.av,S key,S s] (ret (.tup [(aD d.files key s).1.av,I (aD d.files key s).2])):=by
 obtain⟨w0,w1,w2,w3⟩:=eL hw (place (d.files.map AFile.name) key);unfold okS at hs
 by_cases hg:bF d.files=true
 ·have hl16:=pn hg
  by_cases hn:aU key=true
  ·have hpl':=iT (l:=d.files) (key:=key)
   by_cases hm:key∈d.files.map AFile.name
   ·have hpl:=dC hg hm
    have e:aD d.files key s=(if 1048576<(d.files.getD (place (d.files.map AFile.name) key) default).safe.length+(d.files.getD (place (d.files.map AFile.name) key) default).tail.length+s.length then(default,1)
     else(⟨d.files.set (place (d.files.map AFile.name) key) ⟨(d.files.getD (place (d.files.map AFile.name) key) default).name,(d.files.getD (place (d.files.map AFile.name) key) default).safe,(d.files.getD (place (d.files.map AFile.name) key) default).tail++s⟩⟩,0)):=by
     unfold aD;rw[RI (by simp[hg]),RI (by simp[hn]),RJ hm]
    rw[e];refine zJ func83 ntmps83 results83 ?_;simp only[go_sem]
    (refine zW qw (z4 ((good_d_c d h hw).re (by rw[hg])) ((iC key hk).re (by rw[hn])) ((find_c d key h hg).re (by rw[decide_eq_true hm])) (ev d h)) (zx @AFile.rgetD (zx @bs (zx @AFile.rset (zx @az @List.set_set.{0})))) (z2 ?_ ?_)<;>(repeat with_reducible intro hc))
    ·rw[RJ (by omega)];exact zEe dfl
    ·rw[RI (by omega)];exact zEe @bL
   ·by_cases hf:16≤d.files.length
    ·have e:aD d.files key s=(default,6):=by unfold aD;rw[RI (by simp[hg]),RI (by simp[hn]),RI hm,RJ hf]
     rw[e];refine zJ func83 ntmps83 results83 ?_;simp only[go_sem];refine zW qw (z4 ((good_d_c d h hw).re (by rw[hg])) ((iC key hk).re (by rw[hn])) ((find_c d key h hg).re (by rw[R0 hm])) (ev d h)) Yj (z1 (fun hc hc hc=>?_));exact zEe dfl
    ·have e:aD d.files key s=(if 1048576<s.length then(default,1) else(⟨d.files.insertIdx (place (d.files.map AFile.name) key) ⟨key,[],s⟩⟩,0)):=by
      unfold aD;rw[RI (by simp[hg]),RI (by simp[hn]),RI hm,RI hf]
     rw[e];have hil:=dD d.files (place (d.files.map AFile.name) key) (⟨key,[],[]⟩:AFile) hpl';have hil2:=dD d.files (place (d.files.map AFile.name) key) (⟨key,[],s⟩:AFile) hpl';refine zJ func83 ntmps83 results83 ?_;simp only[go_sem]
     (refine zW qw (zc ((good_d_c d h hw).re (by rw[hg])) (z4 ((iC key hk).re (by rw[hn])) ((find_c d key h hg).re (by rw[R0 hm])) (ev d h) (ow (Gg (d.files.map AFile.row) [.str key,.str [],.str []] (place (d.files.map AFile.name) key) (by simpa using hpl') (by simp only[RO];omega))))) (zx @AFile.rins (zx @As (zx @AFile.rset (zx @Fe (zx @List.length_nil.{0} @List.nil_append.{0}))))) (z2 ?_ ?_)<;>(repeat with_reducible intro hc))
     ·rw[RJ (by omega)];exact zEe dfl
     ·rw[RI (by omega)];exact zEe @qi
  ·have e:aD d.files key s=(default,2):=by unfold aD;rw[RI (by simp[hg]),RJ (by simpa using hn)]
   rw[e];rw[Tx] at hn;refine zJ func83 ntmps83 results83 ?_;simp only[go_sem];refine zW qw (z2 ((good_d_c d h hw).re (by rw[hg])) ((iC key hk).re (by rw[hn]))) Yj (z1 (fun hc hc=>?_));exact zEe dfl
 ·have e:aD d.files key s=(default,3):=by unfold aD;rw[RJ (by simpa using hg)]
  rw[e];rw[Tx] at hg;refine zJ func83 ntmps83 results83 ?_;simp only[go_sem];refine zW qw (z1 ((good_d_c d h hw).re (by rw[hg]))) Yj (z1 (fun hc=>?_));exact zEe dfl
theorem BL{l:List AFile}{key:List UInt8}{k:Nat}{x:AFile}(hg:bF l=true)(hm:¬ key∈l.map AFile.name)(hkl:k≤l.length)(hk2:∀ j,k≤j→j<l.length→key<(l.getD j default).name)
  (hc:(k:Int)≤0∨((l.insertIdx k x).getD (k-1) default).name<key∨((l.insertIdx k x).getD (k-1) default).name=key):place (l.map AFile.name) key=k:=by
 have hnm:∀ k,(l.map AFile.name).getD k []=(l.getD k default).name:=fun k=>cW AFile.name l k default
 refine gy (by simpa using hkl) (fun j hj=>?_) fun h1=>?_
 ·rw[hnm]
  have hk0:0<k:=by omega
  have c1:(l.getD (k-1) default).name<key:=by
   rw[dK _ _ _ _ _ hkl (by omega)] at hc;rcases hc with c|c|c
   ·omega
   ·exact c
   ·exact absurd ((aM _ [] key).2 ⟨k-1,by simp;omega,by rw[hnm];exact c⟩) hm
  by_cases e:j=k-1
  ·subst e;exact c1
  ·exact Tk (by have:=aV (bT hg) (i:=j) (j:=k-1) (by omega) (by simp;omega);rwa[hnm,hnm] at this) c1
 ·rw[hnm];exact fun h2=>Sw _ (Tk h2 (hk2 k (RP _) (by simpa using h1)))
theorem mo (d:X4) (key s:List UInt8) (hs:okS s) (hk:okS key) (h:d.files.length*48≤140737488351232) (hw:∀ f,f∈d.files→f.wf):ab prog [] 147 [d.av,S key,S s] (ret (.tup [(aD d.files key s).1.av,I (aD d.files key s).2])):=by
 obtain⟨w0,w1,w2,w3⟩:=eL hw (place (d.files.map AFile.name) key);unfold okS at hs
 by_cases hg:bF d.files=true
 ·have hl16 := pn hg
  by_cases hn:aU key=true
  ·have hpl' := iT (l:=d.files) (key:=key)
   by_cases hm:key∈d.files.map AFile.name
   ·have hpl:=dC hg hm
    have e:aD d.files key s=(if 1048576<(d.files.getD (place (d.files.map AFile.name) key) default).safe.length+(d.files.getD (place (d.files.map AFile.name) key) default).tail.length+s.length then(default,1)
     else(⟨d.files.set (place (d.files.map AFile.name) key) ⟨(d.files.getD (place (d.files.map AFile.name) key) default).name,(d.files.getD (place (d.files.map AFile.name) key) default).safe,(d.files.getD (place (d.files.map AFile.name) key) default).tail++s⟩⟩,0)):=by
     unfold aD;rw[RI (by simp[hg]),RI (by simp[hn]),RJ hm]
    rw[e];refine zJ func147 ntmps147 results147 ?_;simp only[go_sem]
    (repeat' first
|(with_reducible refine AR.f ?_)
|refine bH (by decide) ?_
|(with_reducible refine AWP.cond rfl ?_ ?_<;>intro hc<;>(try simp only[hcs,R1,Sa,Sb] at hc))
|((first|((first|(with_reducible first|refine zR ?_|refine zQ ?_|refine zD ?_|refine zE ?_|refine zG ?_));intro K hK)|((first|refine zA ((ref_good_d_c d h hw).re (by rw[hg])) ?_ ?_ ?_ ?_ ?_|refine zA ((ref_named_c key hk).re (by rw[hn])) ?_ ?_ ?_ ?_ ?_|refine zA ((file_c d key h hg).re (by rw[fileI_yes hm])) ?_ ?_ ?_ ?_ ?_);(focus exact rfl);(focus exact rfl);iterate 2 (focus((try simp(disch:=omega) only[go_sem,aa,AFile.rgetD,bs,AFile.rset,az,TT])<;>(try omega)<;>fail)))|((first|refine zN (bW d h) rfl ?_ ?_|refine zX ((ref_good_d_c d h hw).re (by rw[hg])) rfl ?_ ?_|refine zX ((ref_named_c key hk).re (by rw[hn])) rfl ?_ ?_|refine zX ((file_c d key h hg).re (by rw[fileI_yes hm])) rfl ?_ ?_|refine zY (bW d h) ?_ ?_);(focus((try simp(disch:=omega) only[go_sem,aa,AFile.rgetD,bs,AFile.rset,az,TT])<;>(try omega)<;>fail)))|((first|(with_reducible refine aunder_i ?_ ?_<;>intro hg)|with_reducible intro hg)<;>(first|(exfalso;simp at hg;done)|(have hg':=hg;(try simp only[hcs,R1,Sa,Sb] at hg');(try simp only[hg])))))<;>(try simp(disch:=omega) only[go_sem,aa,AFile.rgetD,bs,AFile.rset,az,TT])<;>(repeat' with_reducible refine Su ?_ ?_)<;>(try(with_reducible refine hK _ ?_;clear hK K)))
|omega)
    ·rw[RJ (by omega)];exact zEe dfl
    ·rw[RI (by omega)];exact zEe @bL
   ·by_cases hf:16≤d.files.length
    ·have e:aD d.files key s=(default,6):=by unfold aD;rw[RI (by simp[hg]),RI (by simp[hn]),RI hm,RJ hf]
     rw[e];refine zJ func147 ntmps147 results147 ?_;simp only[go_sem]
     (repeat' first
|(with_reducible refine AR.f ?_)
|refine bH (by decide) ?_
|(with_reducible refine AWP.cond rfl ?_ ?_<;>intro hc<;>(try simp only[hcs,R1,Sa,Sb] at hc))
|((first|((first|(with_reducible first|refine zR ?_|refine zQ ?_|refine zD ?_|refine zE ?_|refine zG ?_));intro K hK)|((first|refine zA ((ref_good_d_c d h hw).re (by rw[hg])) ?_ ?_ ?_ ?_ ?_|refine zA ((ref_named_c key hk).re (by rw[hn])) ?_ ?_ ?_ ?_ ?_|refine zA ((file_c d key h hg).re (by rw[fileI_no hm])) ?_ ?_ ?_ ?_ ?_);(focus exact rfl);(focus exact rfl);iterate 2 (focus((try simp(disch:=omega) only[go_sem,aa])<;>(try omega)<;>fail)))|((first|refine zN (bW d h) rfl ?_ ?_|refine zX ((ref_good_d_c d h hw).re (by rw[hg])) rfl ?_ ?_|refine zX ((ref_named_c key hk).re (by rw[hn])) rfl ?_ ?_|refine zX ((file_c d key h hg).re (by rw[fileI_no hm])) rfl ?_ ?_|refine zY (bW d h) ?_ ?_);(focus((try simp(disch:=omega) only[go_sem,aa])<;>(try omega)<;>fail)))|((first|(with_reducible refine aunder_i ?_ ?_<;>intro hg)|with_reducible intro hg)<;>(first|(exfalso;simp at hg;done)|(have hg':=hg;(try simp only[hcs,R1,Sa,Sb] at hg');(try simp only[hg])))))<;>(try simp(disch:=omega) only[go_sem,aa])<;>(repeat' with_reducible refine Su ?_ ?_)<;>(try(with_reducible refine hK _ ?_;clear hK K)))
|omega)
     exact zEe dfl
    ·have e:aD d.files key s=(if 1048576<s.length then(default,1) else(⟨d.files.insertIdx (place (d.files.map AFile.name) key) ⟨key,[],s⟩⟩,0)):=by
      unfold aD;rw[RI (by simp[hg]),RI (by simp[hn]),RI hm,RI hf]
     rw[e];have hil:=dD d.files (place (d.files.map AFile.name) key) (⟨key,[],[]⟩:AFile) hpl';have hil2:=dD d.files (place (d.files.map AFile.name) key) (⟨key,[],s⟩:AFile) hpl';refine zJ func147 ntmps147 results147 ?_;simp only[go_sem]
     (repeat' first
|(with_reducible refine AR.f ?_)
|refine bH (by decide) ?_
|(with_reducible refine AWP.cond rfl ?_ ?_<;>intro hc<;>(try simp only[hcs,R1,Sa,Sb] at hc))
|((first|((first|(with_reducible first|refine zR ?_|refine zQ ?_|refine zD ?_|refine zE ?_|refine zG ?_));intro K hK)|((first|refine zA ((ref_good_d_c d h hw).re (by rw[hg])) ?_ ?_ ?_ ?_ ?_|refine zA ((ref_named_c key hk).re (by rw[hn])) ?_ ?_ ?_ ?_ ?_|refine zA ((file_c d key h hg).re (by rw[fileI_no hm])) ?_ ?_ ?_ ?_ ?_);(focus exact rfl);(focus exact rfl);iterate 2 (focus((try simp(disch:=omega) only[go_sem,aa,AFile.rsnoc])<;>(try omega)<;>fail)))|((first|refine zN (bW d h) rfl ?_ ?_|refine zX ((ref_good_d_c d h hw).re (by rw[hg])) rfl ?_ ?_|refine zX ((ref_named_c key hk).re (by rw[hn])) rfl ?_ ?_|refine zX ((file_c d key h hg).re (by rw[fileI_no hm])) rfl ?_ ?_|refine zY (bW d h) ?_ ?_);(focus((try simp(disch:=omega) only[go_sem,aa,AFile.rsnoc])<;>(try omega)<;>fail)))|((first|(with_reducible refine aunder_i ?_ ?_<;>intro hg)|with_reducible intro hg)<;>(first|(exfalso;simp at hg;done)|(have hg':=hg;(try simp only[hcs,R1,Sa,Sb] at hg');(try simp only[hg])))))<;>(try simp(disch:=omega) only[go_sem,aa,AFile.rsnoc])<;>(repeat' with_reducible refine Su ?_ ?_)<;>(try(with_reducible refine hK _ ?_;clear hK K)))
|omega)
     have e8:((d.files.length+1:Nat):Int)-1=(d.files.length:Nat):=by omega
     have hrr:=bT hg;have hnm:∀ k,(d.files.map AFile.name).getD k []=(d.files.getD k default).name:=fun k=>cW AFile.name d.files k default
     refine W9 (ι:=Nat) (fun k=>k≤d.files.length∧∀ j,k≤j→j<d.files.length→key<(d.files.getD j default).name) (fun k=>k) [1,2,3,6] (fun k=>[(8,I k)]) (fun k=>[.cells [.osl 4 3 0 (d.files.length+1)],.cells [.d (.sc (.slice none 0 0))],.dead,.rows 3 [[.str key,.str [],.str []]],.rows 3 ((d.files.insertIdx k ⟨key,[],[]⟩).map AFile.row)]) d.files.length ?_ ?_ ?_
     ·exact⟨RP _,fun j h1 h2=>by omega⟩
     ·simp only[go_sem,NX,e8];exact zSm Yj
     intro k ⟨hkl,hk2⟩;have hik:=dD d.files k (⟨key,[],[]⟩:AFile) hkl;have hik2:=dD d.files k (⟨key,[],s⟩:AFile) hkl;simp only[go_sem]
     (repeat' first
|(with_reducible refine AR.f ?_)
|refine bH (by decide) ?_
|(with_reducible refine AWP.cond rfl ?_ ?_<;>intro hc<;>(try simp only[hcs,R1,Sa,Sb] at hc))
|((first|((first|refine zP (XS [0,1,2,3,4,6,7,8,9,10,11,12,13,14,15,16,17,18] (.fork 5 (XS [19,20,21] .done) 19 (XS [5,20,21] .done))) ?_|(with_reducible first|refine zR ?_|refine zQ ?_|refine zD ?_|refine zE ?_|refine zG ?_));intro K hK)|((first|(with_reducible refine aunder_i ?_ ?_<;>intro hg)|with_reducible intro hg)<;>(first|(exfalso;simp at hg;done)|(have hg':=hg;(try simp only[hcs,R1,Sa,Sb] at hg');(try simp only[hg])))))<;>(try simp(disch:=omega) only[go_sem,aa,AFile.rgetD,gu,ey,mR,AFile.rset,R3,az,Fe])<;>(repeat' with_reducible refine Su ?_ ?_)<;>(try(with_reducible refine hK _ ?_;clear hK K)))
|omega)
     iterate 2
      ·obtain⟨c0,c1,c2⟩:=hc
       rw[dK _ _ _ _ _ hkl (by omega)] at c1 c2;have e9:(k:Int)-1=((k-1:Nat):Int):=by omega
       have e10:(⟨((d.files.insertIdx k (⟨key,[],[]⟩:AFile)).getD (k-1) default).name,((d.files.insertIdx k (⟨key,[],[]⟩:AFile)).getD (k-1) default).safe,((d.files.insertIdx k (⟨key,[],[]⟩:AFile)).getD (k-1) default).tail⟩:AFile)=d.files.getD (k-1) default:=by rw[dK _ _ _ _ _ hkl (by omega)]
       refine⟨k-1,⟨by omega,fun j h1 h2=>?_⟩,by omega,?_⟩
       ·by_cases e:j=k-1
        ·subst e;exact gN c1 c2
        ·exact hk2 j (by omega) h2
       rw[e10,Kn _ _ _ _ hkl (by omega),e9];exact zSm Yj
     ·rename_i hc1
      have epl:=BL hg hm hkl hk2 hc1;rw[RJ (by omega)];exact zEe dfl
     ·rename_i hc1
      have epl:=BL hg hm hkl hk2 hc1;rw[RI (by omega),epl];exact zEe @qi
  ·have e:aD d.files key s=(default,2):=by unfold aD;rw[RI (by simp[hg]),RJ (by simpa using hn)]
   rw[e];rw[Tx] at hn;refine zJ func147 ntmps147 results147 ?_;simp only[go_sem]
   (repeat' first
|(with_reducible refine AR.f ?_)
|refine bH (by decide) ?_
|(with_reducible refine AWP.cond rfl ?_ ?_<;>intro hc<;>(try simp only[hcs,R1,Sa,Sb] at hc))
|((first|((first|(with_reducible first|refine zR ?_|refine zQ ?_|refine zD ?_|refine zE ?_|refine zG ?_));intro K hK)|((first|refine zA ((ref_good_d_c d h hw).re (by rw[hg])) ?_ ?_ ?_ ?_ ?_|refine zA ((ref_named_c key hk).re (by rw[hn])) ?_ ?_ ?_ ?_ ?_);(focus exact rfl);(focus exact rfl);iterate 2 (focus((try simp(disch:=omega) only[go_sem,aa])<;>(try omega)<;>fail)))|((first|refine zX ((ref_good_d_c d h hw).re (by rw[hg])) rfl ?_ ?_|refine zX ((ref_named_c key hk).re (by rw[hn])) rfl ?_ ?_);(focus((try simp(disch:=omega) only[go_sem,aa])<;>(try omega)<;>fail)))|((first|(with_reducible refine aunder_i ?_ ?_<;>intro hg)|with_reducible intro hg)<;>(first|(exfalso;simp at hg;done)|(have hg':=hg;(try simp only[hcs,R1,Sa,Sb] at hg');(try simp only[hg])))))<;>(try simp(disch:=omega) only[go_sem,aa])<;>(repeat' with_reducible refine Su ?_ ?_)<;>(try(with_reducible refine hK _ ?_;clear hK K)))
|omega)
   exact zEe dfl
 ·have e:aD d.files key s=(default,3):=by unfold aD;rw[RJ (by simpa using hg)]
  rw[e];rw[Tx] at hg;refine zJ func147 ntmps147 results147 ?_;simp only[go_sem]
  (repeat' first
|(with_reducible refine AR.f ?_)
|refine bH (by decide) ?_
|(with_reducible refine AWP.cond rfl ?_ ?_<;>intro hc<;>(try simp only[hcs,R1,Sa,Sb] at hc))
|((first|((first|(with_reducible first|refine zR ?_|refine zQ ?_|refine zD ?_|refine zE ?_|refine zG ?_));intro K hK)|((first|refine zA ((ref_good_d_c d h hw).re (by rw[hg])) ?_ ?_ ?_ ?_ ?_);(focus exact rfl);(focus exact rfl);iterate 2 (focus((try simp(disch:=omega) only[go_sem,aa])<;>(try omega)<;>fail)))|((first|refine zX ((ref_good_d_c d h hw).re (by rw[hg])) rfl ?_ ?_);(focus((try simp(disch:=omega) only[go_sem,aa])<;>(try omega)<;>fail)))|((first|(with_reducible refine aunder_i ?_ ?_<;>intro hg)|with_reducible intro hg)<;>(first|(exfalso;simp at hg;done)|(have hg':=hg;(try simp only[hcs,R1,Sa,Sb] at hg');(try simp only[hg])))))<;>(try simp(disch:=omega) only[go_sem,aa])<;>(repeat' with_reducible refine Su ?_ ?_)<;>(try(with_reducible refine hK _ ?_;clear hK K)))
|omega)
  exact zEe dfl
theorem hI{l:List AFile}{key s:List UInt8}:(aD l key s).1.files.length*48≤140737488351232:=by
 unfold aD;split
 ·decide
 ·rename_i hg
  have hl:=pn (l:=l) (by simpa using hg);split
  ·decide
  ·split
   ·split
    ·decide
    ·show(l.set _ _).length*48≤_;rw[R3];omega
   ·split
    ·decide
    ·split
     ·decide
     ·show(l.insertIdx _ _).length*48≤_;rw[dD _ _ _ iT];omega
def lO(t:ATxn):Bool:=decide (bd t.zxid)&&(decide (1≤t.session∧t.session≤2147483647)&&(decide (0≤t.version∧t.version≤2147483647)&&decide (0≤t.owner∧t.owner≤2147483647)))
def wc(t:ATxn):Bool:=
 if t.op≤2 then !decide (t.path=[])||(!decide (t.data=[])||(!decide (t.version=0)||!decide (t.owner=0)))
 else if t.op=3 then !br t.path||(decide (t.path=[47])||!decide (t.version=0))
 else if t.op=4 then !br t.path||(decide (t.path=[47])||(!decide (t.data=[])||(!decide (t.version=0)||!decide (t.owner=0))))
 else !br t.path||!decide (t.owner=0)
def aT(t:ATxn):Int:=if t.op<1∨5<t.op then 4 else if lO t=false then 3 else if 256<t.data.length then 1 else if wc t=true then 2 else 0
theorem ql{t:ATxn}(h:t.op<1∨5<t.op):aT t=4:=by unfold aT;rw[RJ h]
theorem ga{t:ATxn}(h:1≤t.op∧t.op≤5)(h2:¬ lO t=true):aT t=3:=by unfold aT;rw[RI (by omega),RJ (Tq h2)]
theorem oU{t:ATxn}(h:1≤t.op∧t.op≤5)(h2:lO t=true)(h3:256<t.data.length):aT t=1:=by unfold aT;rw[RI (by omega),RI (by rw[h2];decide),RJ h3]
theorem uT{t:ATxn}(h:1≤t.op∧t.op≤5)(h2:lO t=true)(h3:t.data.length≤256):aT t=if wc t=true then 2 else 0:=by unfold aT;rw[RI (by omega),RI (by rw[h2];decide),RI (by omega)]
theorem eF(t:ATxn):lO t=true↔bd t.zxid∧(1≤t.session∧t.session≤2147483647)∧(0≤t.version∧t.version≤2147483647)∧(0≤t.owner∧t.owner≤2147483647):=by unfold lO;simp only[RU,RN]
theorem ML{t:ATxn}(h:1≤t.op∧t.op≤5):wc t=true↔((t.op≤2∧(((¬t.path=[]∨¬t.data=[])∨¬t.version=0)∨¬t.owner=0))∨(3≤t.op∧(br t.path=false∨t.path=[47]∧¬t.op=5))∨((t.op=4∧((¬t.data=[]∨¬t.version=0)∨¬t.owner=0)∨t.op=3∧¬t.version=0)∨t.op=5∧¬t.owner=0)):=by
 have hop:t.op=1∨t.op=2∨t.op=3∨t.op=4∨t.op=5:=by omega
 rcases hop with e|e|e|e|e<;>simp[wc,e,or_assoc]
theorem sM(t:ATxn)(hp:okS t.path)(hd:okS t.data):ab prog [] 119 [t.av] (ret (I (aT t))):=by
 unfold okS at hd;refine zJ func119 ntmps119 results119 ?_;simp only[go_sem]
 (repeat' first
|(with_reducible refine AR.f ?_)
|refine bH (by decide) ?_
|(with_reducible refine AWP.cond rfl ?_ ?_<;>intro hc<;>(try simp only[hcs,R1,Sa,Sb] at hc))
|((first|((first|(with_reducible first|refine zR ?_));intro K hK)|((first|refine zA (good_c t.path hp) ?_ ?_ ?_ ?_ ?_);(focus exact rfl);(focus exact rfl);iterate 2 (focus((try simp(disch:=omega) only[go_sem,aa])<;>(try omega)<;>fail)))|((first|refine acallH_sc (zgood_c _) rfl rfl ?_ ?_ ?_|refine acallQ_sc (zgood_c _) rfl rfl ?_ ?_ ?_);iterate 2 (focus((try simp(disch:=omega) only[go_sem,aa])<;>(try omega)<;>fail)))|((first|refine zX (zgood_c _) rfl ?_ ?_|refine zX (good_c t.path hp) rfl ?_ ?_);(focus((try simp(disch:=omega) only[go_sem,aa])<;>(try omega)<;>fail)))|((first|(with_reducible refine aunder_i ?_ ?_<;>intro hg)|with_reducible intro hg)<;>(first|(exfalso;simp at hg;done)|(have hg':=hg;(try simp only[hcs,R1,Sa,Sb] at hg');(try simp only[hg])))))<;>(try simp(disch:=omega) only[go_sem,aa])<;>(repeat' with_reducible refine Su ?_ ?_)<;>(try(with_reducible refine hK _ ?_;clear hK K)))
|omega)
 ·rw[ql hc];(refine zF rfl ?_ ?_ ?_ ?_;(iterate 3 (focus((try simp(disch:=omega) only[go_sem,aa])<;>(try omega)<;>fail)));(try simp(disch:=omega) only[go_sem,aa,I,B,S,zj]))
 all_goals(have hop:1≤t.op∧t.op≤5:=by assumption)
 ·rw[ga hop]
  ·(refine zF rfl ?_ ?_ ?_ ?_;(iterate 3 (focus((try simp(disch:=omega) only[go_sem,aa])<;>(try omega)<;>fail)));(try simp(disch:=omega) only[go_sem,aa,I,B,S,zj]))
  rw[eF];rintro⟨h1,h2⟩;rcases hc with(((((c|c)|c)|c)|c)|c)|c
  ·exact c h1
  all_goals omega
 all_goals(have hn:(((((bd t.zxid∧1≤t.session)∧t.session≤2147483647)∧0≤t.version)∧t.version≤2147483647)∧0≤t.owner)∧t.owner≤2147483647:=by assumption)
 all_goals(have hnb:lO t=true:=(eF t).2 ⟨hn.1.1.1.1.1.1,by omega,by omega,by omega⟩)
 ·rw[oU hop hnb (by omega)];(refine zF rfl ?_ ?_ ?_ ?_;(iterate 3 (focus((try simp(disch:=omega) only[go_sem,aa])<;>(try omega)<;>fail)));(try simp(disch:=omega) only[go_sem,aa,I,B,S,zj]))
 all_goals rw[uT hop hnb (by omega)]
 ·rw[RJ ((ML hop).2 (.inl hc))];(refine zF rfl ?_ ?_ ?_ ?_;(iterate 3 (focus((try simp(disch:=omega) only[go_sem,aa])<;>(try omega)<;>fail)));(try simp(disch:=omega) only[go_sem,aa,I,B,S,zj]))
 ·rw[RJ ((ML hop).2 (.inr (.inl ⟨by simpa using hg,hc⟩)))];(refine zF rfl ?_ ?_ ?_ ?_;(iterate 3 (focus((try simp(disch:=omega) only[go_sem,aa])<;>(try omega)<;>fail)));(try simp(disch:=omega) only[go_sem,aa,I,B,S,zj]))
 ·rw[RJ ((ML hop).2 (.inr (.inr hc)))];(refine zF rfl ?_ ?_ ?_ ?_;(iterate 3 (focus((try simp(disch:=omega) only[go_sem,aa])<;>(try omega)<;>fail)));(try simp(disch:=omega) only[go_sem,aa,I,B,S,zj]))
 all_goals(rw[RI (fun hb=>by
  have hb:=(ML hop).1 hb;have hop:t.op=1∨t.op=2∨t.op=3∨t.op=4∨t.op=5:=by omega
  rcases hop with e|e|e|e|e<;>simp_all)];(refine zF rfl ?_ ?_ ?_ ?_;(iterate 3 (focus((try simp(disch:=omega) only[go_sem,aa])<;>(try omega)<;>fail)));(try simp(disch:=omega) only[go_sem,aa,I,B,S,zj])))
theorem sD(n lo:Int):ab prog [] 256 [I n,I lo] (ret (B (decide (lo≤n∧n<2147483648)))):=by
 refine zJ func256 ntmps256 results256 ?_;simp only[go_sem]
 (refine zW qw zn Yj (z1 ?_)<;>(repeat with_reducible intro hc))
 all_goals(refine zE2 Yj ?_;(try simp(disch:=omega) only[go_sem,aa,I,B,S,zj]))
 all_goals simp
theorem cZ(t:ATxn)(hz:okI t.zxid)(hp:t.path.length≤1048576)(hd:okS t.data):ab prog [] 219 [t.av] (ret (I (aT t))):=by
 unfold okS at hd
 by_cases hop:t.op<1∨5<t.op
 ·rw[ql hop]
  refine zJ func219 ntmps219 results219 ?_;simp only[go_sem]
  (refine zW qw zn Yj (z1 ?_)<;>(repeat with_reducible intro hc))
  all_goals first|omega|skip
  all_goals exact zEe Yj
 have hop':1≤t.op∧t.op≤5:=by omega
 by_cases h1:bd t.zxid
 case neg=>
  rw[ga hop' (fun h=>h1 ((eF t).1 h).1)];refine zJ func219 ntmps219 results219 ?_;simp only[go_sem]
  (refine zW qw (z1 ((ref_zgood_c _ hz).re (congrArg B (R0 h1)))) Yj (z1 ?_)<;>(repeat with_reducible intro hc))
  all_goals first|omega|skip
  all_goals exact zEe Yj
 by_cases h2:1≤t.session∧t.session<2147483648
 case neg=>
  rw[ga hop' (fun h=>by have:=(eF t).1 h;omega)];refine zJ func219 ntmps219 results219 ?_;simp only[go_sem]
  (refine zW qw (z2 ((ref_zgood_c _ hz).re (congrArg B (decide_eq_true h1))) ((sD t.session 1).re (congrArg B (R0 h2)))) Yj (z1 ?_)<;>(repeat with_reducible intro hc))
  all_goals first|omega|skip
  all_goals exact zEe Yj
 by_cases h3:0≤t.version∧t.version<2147483648
 case neg=>
  rw[ga hop' (fun h=>by have:=(eF t).1 h;omega)];refine zJ func219 ntmps219 results219 ?_;simp only[go_sem]
  (refine zW qw (z3 ((ref_zgood_c _ hz).re (congrArg B (decide_eq_true h1))) ((sD t.session 1).re (congrArg B (decide_eq_true h2))) ((sD t.version 0).re (congrArg B (R0 h3)))) Yj (z1 ?_)<;>(repeat with_reducible intro hc))
  all_goals first|omega|skip
  all_goals exact zEe Yj
 by_cases h4:0≤t.owner∧t.owner<2147483648
 case neg=>
  rw[ga hop' (fun h=>by have:=(eF t).1 h;omega)];refine zJ func219 ntmps219 results219 ?_;simp only[go_sem]
  (refine zW qw (z4 ((ref_zgood_c _ hz).re (congrArg B (decide_eq_true h1))) ((sD t.session 1).re (congrArg B (decide_eq_true h2))) ((sD t.version 0).re (congrArg B (decide_eq_true h3))) ((sD t.owner 0).re (congrArg B (R0 h4)))) Yj (z1 ?_)<;>(repeat with_reducible intro hc))
  all_goals first|omega|skip
  all_goals exact zEe Yj
 have hnb:lO t=true:=(eF t).2 ⟨h1,by omega,by omega,by omega⟩
 by_cases hlen:256<t.data.length
 ·rw[oU hop' hnb hlen]
  refine zJ func219 ntmps219 results219 ?_;simp only[go_sem]
  (refine zW qw (z4 ((ref_zgood_c _ hz).re (congrArg B (decide_eq_true h1))) ((sD t.session 1).re (congrArg B (decide_eq_true h2))) ((sD t.version 0).re (congrArg B (decide_eq_true h3))) ((sD t.owner 0).re (congrArg B (decide_eq_true h4)))) Yj (z1 ?_)<;>(repeat with_reducible intro hc))
  all_goals first|omega|skip
  all_goals exact zEe Yj
 rw[uT hop' hnb (by omega)];refine zJ func219 ntmps219 results219 ?_;simp only[go_sem]
 (refine zW qw (zc ((ref_zgood_c _ hz).re (congrArg B (decide_eq_true h1))) (z4 ((sD t.session 1).re (congrArg B (decide_eq_true h2))) ((sD t.version 0).re (congrArg B (decide_eq_true h3))) ((sD t.owner 0).re (congrArg B (decide_eq_true h4))) (bx t.path hp))) Yj (zc ?_ (zc ?_ (zc ?_ (zc ?_ (zc ?_ (zc ?_ (z4 ?_ ?_ ?_ ?_)))))))<;>(repeat with_reducible intro hc))
 all_goals first|omega|skip
 all_goals first
  |(rw[RJ (by simp_all[wc,or_assoc])];exact zEf trivial;done)
  |(rw[RI (by simp_all[wc,or_assoc])];exact zEf trivial;done)
  |trace_state
def t0:ATxn:=⟨0,0,0,[],[],0,0⟩
end Go.Proofs.YtjcooccnfkfjhaaGreatDoor
