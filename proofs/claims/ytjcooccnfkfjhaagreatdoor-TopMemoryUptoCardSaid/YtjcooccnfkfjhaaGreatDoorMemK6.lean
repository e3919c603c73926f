/- A part of what Mem leans on: texts of this claim, one behind the other. No condition. -/
import Derived.Lib.Strings
import Derived.Lib.Slices
import Derived.Lib.Walk
import Derived.Lib.Bytealg
import Derived.Sort.Walk0
import Derived.RangeFuncNested
import Derived.RangeFuncBound
import Derived.RangeFuncCalls
import Derived.RangeFuncLeaves
import Derived.Shelf.Abstract
import Derived.Shelf.RegionOpen
import Derived.WalkKit
import Derived.OwnWalkIn
import Derived.TacticsInMore
import Derived.LoopNIn
import Derived.LoopIn
import Derived.Laws.BitsAllLaws
import Derived.Laws.BitsLemmas
import Derived.IntWalk
import Derived.Lib.IndexLaws
import Derived.Lib.ItoaNum
import Derived.Test.YtjcooccnfkfjhaaGreatDoorMemK5
namespace Go.Proofs.YtjcooccnfkfjhaaGreatDoor
set_option linter.unusedVariables false
set_option linter.unusedSimpArgs false
open Go Go.RowKit
def cU (n:Int):List DV:=[.int .i64 n]
def srow (s:List UInt8):List DV:=[.str s]
theorem dW {α:Type} [Inhabited α] (f:α→List DV) (l:List α) (i:Nat) (z:List DV) (h:i<l.length):(l.map f).getD i z=f (l.getD i default):=by
 rw [List.getD_eq_getElem?_getD,List.getD_eq_getElem?_getD,List.getElem?_map,List.getElem?_eq_getElem h];rfl
theorem C5 (l:List Int) (i:Nat):(l.map cU).getD i [.int .i64 0]=cU (l.getD i default):=by
 rw [List.getD_eq_getElem?_getD,List.getD_eq_getElem?_getD,List.getElem?_map];cases l[i]?<;>rfl
theorem cD {α:Type} [Inhabited α] (l:List α) (k:Nat) (h:k<l.length):l.take (k+1)=l.take k++[l.getD k default]:=by
 rw [List.take_add_one,List.getElem?_eq_getElem h,List.getD_eq_getElem?_getD,List.getElem?_eq_getElem h];rfl
theorem bU {α:Type} [Inhabited α] (l:List α) (k:Nat) (h:k<l.length):l.getD k default∈l:=by
 rw [List.getD_eq_getElem?_getD,List.getElem?_eq_getElem h];exact List.getElem_mem _
theorem eh {α β:Type} (f:α→β) (l:List α):(l.map f).take l.length=l.map f:=List.take_of_length_le (by simp)
theorem bI {α:Type} (l:List α) (i:Nat) (x z:α) (h:i<l.length):(l.set i x).getD i z=x:=by
 rw [List.getD_eq_getElem?_getD,List.getElem?_set_self h];rfl
theorem aO {α β:Type} (f:α→β) (l:List α) (i:Nat) (x:α) (z:β) (h:i<l.length):((l.set i x).map f).getD i z=f x:=by
 rw [List.map_set];exact bI _ _ _ _ (by simpa using h)
theorem du {α β:Type} (f:α→β) (l:List α) (i:Nat) (x:α):((l.set i x).map f).take l.length=(l.set i x).map f:=List.take_of_length_le (by simp)
theorem jr {α β:Type} (f:α→β) (l:List α) (i:Nat) (x:α):(l.map f).insertIdx i (f x)=(l.insertIdx i x).map f:=by
 induction l generalizing i with
 |nil=>cases i<;>rfl
 | cons a l ih=>cases i with
   |zero=>rfl
   |succ i=>simp only [List.map_cons,List.insertIdx_succ_cons];rw [ih]
theorem fu {α:Type} {l:List α} (h:l.length=0):l=[]:=List.eq_nil_of_length_eq_zero h
structure ATxn where
 zxid:Int
 op:Int
 session:Int
 path:List UInt8
 data:List UInt8
 version:Int
 owner:Int
instance:Inhabited ATxn:=⟨⟨0,0,0,[],[],0,0⟩⟩
theorem ATxn.ext_iff (a b:ATxn):a=b↔a.zxid=b.zxid∧a.op=b.op∧a.session=b.session∧a.path=b.path∧a.data=b.data∧a.version=b.version∧a.owner=b.owner:=by
 cases a;cases b;simp
instance:DecidableEq ATxn:=fun a b=>decidable_of_iff _ (ATxn.ext_iff a b).symm
def ATxn.row (x:ATxn):List DV:=[.int .i64 x.zxid,.int .i64 x.op,.int .i64 x.session,.str x.path,.str x.data,.int .i64 x.version,.int .i64 x.owner]
def ATxn.av (x:ATxn):AV:=.agg [.d (.int .i64 x.zxid),.d (.int .i64 x.op),.d (.int .i64 x.session),.d (.str x.path),.d (.str x.data),.d (.int .i64 x.version),.d (.int .i64 x.owner)]
theorem ATxn.getD (l:List ATxn) (i:Nat):(l.map ATxn.row).getD i [.int .i64 0,.int .i64 0,.int .i64 0,.str [],.str [],.int .i64 0,.int .i64 0]=(l.getD i default).row:=by
 rw [List.getD_eq_getElem?_getD,List.getD_eq_getElem?_getD,List.getElem?_map];cases l[i]?<;>rfl
theorem ATxn.rgetD (l:List ATxn) (i:Nat) (z:List DV) (h:i<l.length):(l.map ATxn.row).getD i z=(l.getD i default).row:=dW ATxn.row l i z h
theorem ATxn.rsnoc (l:List ATxn) (qzxid:Int) (qop:Int) (qsession:Int) (qpath:List UInt8) (qdata:List UInt8) (qversion:Int) (qowner:Int):l.map ATxn.row++[[.int .i64 qzxid,.int .i64 qop,.int .i64 qsession,.str qpath,.str qdata,.int .i64 qversion,.int .i64 qowner]]=(l++[(⟨qzxid,qop,qsession,qpath,qdata,qversion,qowner⟩:ATxn)]).map ATxn.row:=by rw [List.map_append];rfl
structure AStat where
 czxid:Int
 mzxid:Int
 pzxid:Int
 version:Int
 cversion:Int
 owner:Int
 kids:Int
instance:Inhabited AStat:=⟨⟨0,0,0,0,0,0,0⟩⟩
theorem AStat.ext_iff (a b:AStat):a=b↔a.czxid=b.czxid∧a.mzxid=b.mzxid∧a.pzxid=b.pzxid∧a.version=b.version∧a.cversion=b.cversion∧a.owner=b.owner∧a.kids=b.kids:=by
 cases a;cases b;simp
instance:DecidableEq AStat:=fun a b=>decidable_of_iff _ (AStat.ext_iff a b).symm
def AStat.row (x:AStat):List DV:=[.int .i64 x.czxid,.int .i64 x.mzxid,.int .i64 x.pzxid,.int .i64 x.version,.int .i64 x.cversion,.int .i64 x.owner,.int .i64 x.kids]
def AStat.av (x:AStat):AV:=.agg [.d (.int .i64 x.czxid),.d (.int .i64 x.mzxid),.d (.int .i64 x.pzxid),.d (.int .i64 x.version),.d (.int .i64 x.cversion),.d (.int .i64 x.owner),.d (.int .i64 x.kids)]
structure ANode where
 path:List UInt8
 data:List UInt8
 stat:AStat
instance:Inhabited ANode:=⟨⟨[],[],default⟩⟩
theorem ANode.ext_iff (a b:ANode):a=b↔a.path=b.path∧a.data=b.data∧a.stat=b.stat:=by
 cases a;cases b;simp
instance:DecidableEq ANode:=fun a b=>decidable_of_iff _ (ANode.ext_iff a b).symm
def ANode.row (x:ANode):List DV:=[.str x.path,.str x.data,.int .i64 x.stat.czxid,.int .i64 x.stat.mzxid,.int .i64 x.stat.pzxid,.int .i64 x.stat.version,.int .i64 x.stat.cversion,.int .i64 x.stat.owner,.int .i64 x.stat.kids]
def ANode.av (x:ANode):AV:=.agg [.d (.str x.path),.d (.str x.data),.d (.int .i64 x.stat.czxid),.d (.int .i64 x.stat.mzxid),.d (.int .i64 x.stat.pzxid),.d (.int .i64 x.stat.version),.d (.int .i64 x.stat.cversion),.d (.int .i64 x.stat.owner),.d (.int .i64 x.stat.kids)]
theorem ANode.getD (l:List ANode) (i:Nat):(l.map ANode.row).getD i [.str [],.str [],.int .i64 0,.int .i64 0,.int .i64 0,.int .i64 0,.int .i64 0,.int .i64 0,.int .i64 0]=(l.getD i default).row:=by
 rw [List.getD_eq_getElem?_getD,List.getD_eq_getElem?_getD,List.getElem?_map];cases l[i]?<;>rfl
theorem ANode.rgetD (l:List ANode) (i:Nat) (z:List DV) (h:i<l.length):(l.map ANode.row).getD i z=(l.getD i default).row:=dW ANode.row l i z h
theorem ANode.rset (l:List ANode) (i:Nat) (qpath:List UInt8) (qdata:List UInt8) (qstat_czxid:Int) (qstat_mzxid:Int) (qstat_pzxid:Int) (qstat_version:Int) (qstat_cversion:Int) (qstat_owner:Int) (qstat_kids:Int):(l.map ANode.row).set i [.str qpath,.str qdata,.int .i64 qstat_czxid,.int .i64 qstat_mzxid,.int .i64 qstat_pzxid,.int .i64 qstat_version,.int .i64 qstat_cversion,.int .i64 qstat_owner,.int .i64 qstat_kids]=(l.set i (⟨qpath,qdata,⟨qstat_czxid,qstat_mzxid,qstat_pzxid,qstat_version,qstat_cversion,qstat_owner,qstat_kids⟩⟩:ANode)).map ANode.row:=by rw [List.map_set];rfl
theorem ANode.rins (l:List ANode) (i:Nat) (qpath:List UInt8) (qdata:List UInt8) (qstat_czxid:Int) (qstat_mzxid:Int) (qstat_pzxid:Int) (qstat_version:Int) (qstat_cversion:Int) (qstat_owner:Int) (qstat_kids:Int):(l.map ANode.row).insertIdx i [.str qpath,.str qdata,.int .i64 qstat_czxid,.int .i64 qstat_mzxid,.int .i64 qstat_pzxid,.int .i64 qstat_version,.int .i64 qstat_cversion,.int .i64 qstat_owner,.int .i64 qstat_kids]=(l.insertIdx i (⟨qpath,qdata,⟨qstat_czxid,qstat_mzxid,qstat_pzxid,qstat_version,qstat_cversion,qstat_owner,qstat_kids⟩⟩:ANode)).map ANode.row:=jr ANode.row l i (⟨qpath,qdata,⟨qstat_czxid,qstat_mzxid,qstat_pzxid,qstat_version,qstat_cversion,qstat_owner,qstat_kids⟩⟩:ANode)
structure AFile where
 name:List UInt8
 safe:List UInt8
 tail:List UInt8
instance:Inhabited AFile:=⟨⟨[],[],[]⟩⟩
theorem AFile.ext_iff (a b:AFile):a=b↔a.name=b.name∧a.safe=b.safe∧a.tail=b.tail:=by
 cases a;cases b;simp
instance:DecidableEq AFile:=fun a b=>decidable_of_iff _ (AFile.ext_iff a b).symm
def AFile.row (x:AFile):List DV:=[.str x.name,.str x.safe,.str x.tail]
def AFile.av (x:AFile):AV:=.agg [.d (.str x.name),.d (.str x.safe),.d (.str x.tail)]
theorem AFile.getD (l:List AFile) (i:Nat):(l.map AFile.row).getD i [.str [],.str [],.str []]=(l.getD i default).row:=by
 rw [List.getD_eq_getElem?_getD,List.getD_eq_getElem?_getD,List.getElem?_map];cases l[i]?<;>rfl
theorem AFile.rgetD (l:List AFile) (i:Nat) (z:List DV) (h:i<l.length):(l.map AFile.row).getD i z=(l.getD i default).row:=dW AFile.row l i z h
theorem AFile.rset (l:List AFile) (i:Nat) (qname:List UInt8) (qsafe:List UInt8) (qtail:List UInt8):(l.map AFile.row).set i [.str qname,.str qsafe,.str qtail]=(l.set i (⟨qname,qsafe,qtail⟩:AFile)).map AFile.row:=by rw [List.map_set];rfl
theorem AFile.rins (l:List AFile) (i:Nat) (qname:List UInt8) (qsafe:List UInt8) (qtail:List UInt8):(l.map AFile.row).insertIdx i [.str qname,.str qsafe,.str qtail]=(l.insertIdx i (⟨qname,qsafe,qtail⟩:AFile)).map AFile.row:=jr AFile.row l i (⟨qname,qsafe,qtail⟩:AFile)
structure AWatch where
 session:Int
 kind:Int
 path:List UInt8
instance:Inhabited AWatch:=⟨⟨0,0,[]⟩⟩
theorem AWatch.ext_iff (a b:AWatch):a=b↔a.session=b.session∧a.kind=b.kind∧a.path=b.path:=by
 cases a;cases b;simp
instance:DecidableEq AWatch:=fun a b=>decidable_of_iff _ (AWatch.ext_iff a b).symm
def AWatch.row (x:AWatch):List DV:=[.int .i64 x.session,.int .i64 x.kind,.str x.path]
def AWatch.av (x:AWatch):AV:=.agg [.d (.int .i64 x.session),.d (.int .i64 x.kind),.d (.str x.path)]
theorem AWatch.dec (a b:AWatch):(decide (a.session=b.session)&&(decide (a.kind=b.kind)&&decide (a.path=b.path)))=decide (a=b):=by
 rw [Bool.eq_iff_iff];simp only [Bool.and_eq_true,decide_eq_true_eq,AWatch.ext_iff,and_assoc]
theorem AWatch.getD (l:List AWatch) (i:Nat):(l.map AWatch.row).getD i [.int .i64 0,.int .i64 0,.str []]=(l.getD i default).row:=by
 rw [List.getD_eq_getElem?_getD,List.getD_eq_getElem?_getD,List.getElem?_map];cases l[i]?<;>rfl
theorem AWatch.rgetD (l:List AWatch) (i:Nat) (z:List DV) (h:i<l.length):(l.map AWatch.row).getD i z=(l.getD i default).row:=dW AWatch.row l i z h
theorem AWatch.rdrop (l:List AWatch) (k:Nat):List.drop 3 ((l.map AWatch.row).getD k [])=[]:=by
 rw [List.getD_eq_getElem?_getD,List.getElem?_map];cases l[k]?<;>rfl
attribute [go_sem] AWatch.rdrop
theorem AWatch.rsnoc (l:List AWatch) (qsession:Int) (qkind:Int) (qpath:List UInt8):l.map AWatch.row++[[.int .i64 qsession,.int .i64 qkind,.str qpath]]=(l++[(⟨qsession,qkind,qpath⟩:AWatch)]).map AWatch.row:=by rw [List.map_append];rfl
structure AEvent where
 kind:Int
 path:List UInt8
instance:Inhabited AEvent:=⟨⟨0,[]⟩⟩
theorem AEvent.ext_iff (a b:AEvent):a=b↔a.kind=b.kind∧a.path=b.path:=by
 cases a;cases b;simp
instance:DecidableEq AEvent:=fun a b=>decidable_of_iff _ (AEvent.ext_iff a b).symm
def AEvent.row (x:AEvent):List DV:=[.int .i64 x.kind,.str x.path]
def AEvent.av (x:AEvent):AV:=.agg [.d (.int .i64 x.kind),.d (.str x.path)]
theorem AEvent.getD (l:List AEvent) (i:Nat):(l.map AEvent.row).getD i [.int .i64 0,.str []]=(l.getD i default).row:=by
 rw [List.getD_eq_getElem?_getD,List.getD_eq_getElem?_getD,List.getElem?_map];cases l[i]?<;>rfl
theorem AEvent.rsnoc (l:List AEvent) (qkind:Int) (qpath:List UInt8):l.map AEvent.row++[[.int .i64 qkind,.str qpath]]=(l++[(⟨qkind,qpath⟩:AEvent)]).map AEvent.row:=by rw [List.map_append];rfl
structure ANote where
 session:Int
 event:AEvent
instance:Inhabited ANote:=⟨⟨0,default⟩⟩
theorem ANote.ext_iff (a b:ANote):a=b↔a.session=b.session∧a.event=b.event:=by
 cases a;cases b;simp
instance:DecidableEq ANote:=fun a b=>decidable_of_iff _ (ANote.ext_iff a b).symm
def ANote.row (x:ANote):List DV:=[.int .i64 x.session,.int .i64 x.event.kind,.str x.event.path]
def ANote.av (x:ANote):AV:=.agg [.d (.int .i64 x.session),.d (.int .i64 x.event.kind),.d (.str x.event.path)]
theorem ANote.getD (l:List ANote) (i:Nat):(l.map ANote.row).getD i [.int .i64 0,.int .i64 0,.str []]=(l.getD i default).row:=by
 rw [List.getD_eq_getElem?_getD,List.getD_eq_getElem?_getD,List.getElem?_map];cases l[i]?<;>rfl
theorem ANote.rgetD (l:List ANote) (i:Nat) (z:List DV) (h:i<l.length):(l.map ANote.row).getD i z=(l.getD i default).row:=dW ANote.row l i z h
structure AEntry where
 path:List UInt8
 data:List UInt8
 there:Bool
instance:Inhabited AEntry:=⟨⟨[],[],false⟩⟩
theorem AEntry.ext_iff (a b:AEntry):a=b↔a.path=b.path∧a.data=b.data∧a.there=b.there:=by
 cases a;cases b;simp
instance:DecidableEq AEntry:=fun a b=>decidable_of_iff _ (AEntry.ext_iff a b).symm
def AEntry.row (x:AEntry):List DV:=[.str x.path,.str x.data,.bool x.there]
def AEntry.av (x:AEntry):AV:=.agg [.d (.str x.path),.d (.str x.data),.d (.bool x.there)]
theorem AEntry.getD (l:List AEntry) (i:Nat):(l.map AEntry.row).getD i [.str [],.str [],.bool false]=(l.getD i default).row:=by
 rw [List.getD_eq_getElem?_getD,List.getD_eq_getElem?_getD,List.getElem?_map];cases l[i]?<;>rfl
theorem AEntry.rset (l:List AEntry) (i:Nat) (qpath:List UInt8) (qdata:List UInt8) (qthere:Bool):(l.map AEntry.row).set i [.str qpath,.str qdata,.bool qthere]=(l.set i (⟨qpath,qdata,qthere⟩:AEntry)).map AEntry.row:=by rw [List.map_set];rfl
theorem AEntry.rins (l:List AEntry) (i:Nat) (qpath:List UInt8) (qdata:List UInt8) (qthere:Bool):(l.map AEntry.row).insertIdx i [.str qpath,.str qdata,.bool qthere]=(l.insertIdx i (⟨qpath,qdata,qthere⟩:AEntry)).map AEntry.row:=jr AEntry.row l i (⟨qpath,qdata,qthere⟩:AEntry)
theorem AEntry.rdrop (l:List AEntry) (k:Nat):List.drop 3 ((l.map AEntry.row).getD k [])=[]:=by
 rw [List.getD_eq_getElem?_getD,List.getElem?_map];cases l[k]?<;>rfl
attribute [go_sem] AEntry.rdrop
structure ARequest where
 op:Int
 session:Int
 path:List UInt8
 data:List UInt8
 version:Int
 flags:Int
instance:Inhabited ARequest:=⟨⟨0,0,[],[],0,0⟩⟩
theorem ARequest.ext_iff (a b:ARequest):a=b↔a.op=b.op∧a.session=b.session∧a.path=b.path∧a.data=b.data∧a.version=b.version∧a.flags=b.flags:=by
 cases a;cases b;simp
instance:DecidableEq ARequest:=fun a b=>decidable_of_iff _ (ARequest.ext_iff a b).symm
def ARequest.row (x:ARequest):List DV:=[.int .i64 x.op,.int .i64 x.session,.str x.path,.str x.data,.int .i64 x.version,.int .i64 x.flags]
def ARequest.av (x:ARequest):AV:=.agg [.d (.int .i64 x.op),.d (.int .i64 x.session),.d (.str x.path),.d (.str x.data),.d (.int .i64 x.version),.d (.int .i64 x.flags)]
structure ATree where
 zxid:Int
 nodes:List (ANode)
 sessions:List (Int)
instance:Inhabited ATree:=⟨⟨0,[],[]⟩⟩
theorem ATree.ext_iff (a b:ATree):a=b↔a.zxid=b.zxid∧a.nodes=b.nodes∧a.sessions=b.sessions:=by
 cases a;cases b;simp
instance:DecidableEq ATree:=fun a b=>decidable_of_iff _ (ATree.ext_iff a b).symm
def ATree.row (x:ATree):List DV:=[.int .i64 x.zxid,.sl 9 (x.nodes.map ANode.row),.sl 1 (x.sessions.map cU)]
def ATree.av (x:ATree):AV:=.agg [.d (.int .i64 x.zxid),.d (.sl 9 (x.nodes.map ANode.row)),.d (.sl 1 (x.sessions.map cU))]
structure ADisk where
 files:List (AFile)
instance:Inhabited ADisk:=⟨⟨[]⟩⟩
theorem ADisk.ext_iff (a b:ADisk):a=b↔a.files=b.files:=by
 cases a;cases b;simp
instance:DecidableEq ADisk:=fun a b=>decidable_of_iff _ (ADisk.ext_iff a b).symm
def ADisk.row (x:ADisk):List DV:=[.sl 3 (x.files.map AFile.row)]
def ADisk.av (x:ADisk):AV:=.agg [.d (.sl 3 (x.files.map AFile.row))]
structure APeer where
 id:Int
 epoch:Int
 log:List (ATxn)
 done:Int
instance:Inhabited APeer:=⟨⟨0,0,[],0⟩⟩
theorem APeer.ext_iff (a b:APeer):a=b↔a.id=b.id∧a.epoch=b.epoch∧a.log=b.log∧a.done=b.done:=by
 cases a;cases b;simp
instance:DecidableEq APeer:=fun a b=>decidable_of_iff _ (APeer.ext_iff a b).symm
def APeer.row (x:APeer):List DV:=[.int .i64 x.id,.int .i64 x.epoch,.sl 7 (x.log.map ATxn.row),.int .i64 x.done]
def APeer.av (x:APeer):AV:=.agg [.d (.int .i64 x.id),.d (.int .i64 x.epoch),.d (.sl 7 (x.log.map ATxn.row)),.d (.int .i64 x.done)]
theorem APeer.rgetD (l:List APeer) (i:Nat) (z:List DV) (h:i<l.length):(l.map APeer.row).getD i z=(l.getD i default).row:=dW APeer.row l i z h
structure AServer where
 up:Bool
 disk:ADisk
 peer:APeer
 tree:ATree
 watches:List (AWatch)
instance:Inhabited AServer:=⟨⟨false,default,default,default,[]⟩⟩
theorem AServer.ext_iff (a b:AServer):a=b↔a.up=b.up∧a.disk=b.disk∧a.peer=b.peer∧a.tree=b.tree∧a.watches=b.watches:=by
 cases a;cases b;simp
instance:DecidableEq AServer:=fun a b=>decidable_of_iff _ (AServer.ext_iff a b).symm
def AServer.row (x:AServer):List DV:=[.bool x.up,.sl 3 (x.disk.files.map AFile.row),.int .i64 x.peer.id,.int .i64 x.peer.epoch,.sl 7 (x.peer.log.map ATxn.row),.int .i64 x.peer.done,.int .i64 x.tree.zxid,.sl 9 (x.tree.nodes.map ANode.row),.sl 1 (x.tree.sessions.map cU),.sl 3 (x.watches.map AWatch.row)]
def AServer.av (x:AServer):AV:=.agg [.d (.bool x.up),.d (.sl 3 (x.disk.files.map AFile.row)),.d (.int .i64 x.peer.id),.d (.int .i64 x.peer.epoch),.d (.sl 7 (x.peer.log.map ATxn.row)),.d (.int .i64 x.peer.done),.d (.int .i64 x.tree.zxid),.d (.sl 9 (x.tree.nodes.map ANode.row)),.d (.sl 1 (x.tree.sessions.map cU)),.d (.sl 3 (x.watches.map AWatch.row))]
structure AClient where
 session:Int
 seen:Int
 cache:List (AEntry)
instance:Inhabited AClient:=⟨⟨0,0,[]⟩⟩
theorem AClient.ext_iff (a b:AClient):a=b↔a.session=b.session∧a.seen=b.seen∧a.cache=b.cache:=by
 cases a;cases b;simp
instance:DecidableEq AClient:=fun a b=>decidable_of_iff _ (AClient.ext_iff a b).symm
def AClient.row (x:AClient):List DV:=[.int .i64 x.session,.int .i64 x.seen,.sl 3 (x.cache.map AEntry.row)]
def AClient.av (x:AClient):AV:=.agg [.d (.int .i64 x.session),.d (.int .i64 x.seen),.d (.sl 3 (x.cache.map AEntry.row))]
structure ADeed where
 kind:Int
 client:Int
 server:Int
 request:ARequest
 lost:Int
 slow:Int
 keep:Int
 watch:Bool
instance:Inhabited ADeed:=⟨⟨0,0,0,default,0,0,0,false⟩⟩
theorem ADeed.ext_iff (a b:ADeed):a=b↔a.kind=b.kind∧a.client=b.client∧a.server=b.server∧a.request=b.request∧a.lost=b.lost∧a.slow=b.slow∧a.keep=b.keep∧a.watch=b.watch:=by
 cases a;cases b;simp
instance:DecidableEq ADeed:=fun a b=>decidable_of_iff _ (ADeed.ext_iff a b).symm
def ADeed.row (x:ADeed):List DV:=[.int .i64 x.kind,.int .i64 x.client,.int .i64 x.server,.int .i64 x.request.op,.int .i64 x.request.session,.str x.request.path,.str x.request.data,.int .i64 x.request.version,.int .i64 x.request.flags,.int .i64 x.lost,.int .i64 x.slow,.int .i64 x.keep,.bool x.watch]
def ADeed.av (x:ADeed):AV:=.agg [.d (.int .i64 x.kind),.d (.int .i64 x.client),.d (.int .i64 x.server),.d (.int .i64 x.request.op),.d (.int .i64 x.request.session),.d (.str x.request.path),.d (.str x.request.data),.d (.int .i64 x.request.version),.d (.int .i64 x.request.flags),.d (.int .i64 x.lost),.d (.int .i64 x.slow),.d (.int .i64 x.keep),.d (.bool x.watch)]
theorem ADeed.getD (l:List ADeed) (i:Nat):(l.map ADeed.row).getD i [.int .i64 0,.int .i64 0,.int .i64 0,.int .i64 0,.int .i64 0,.str [],.str [],.int .i64 0,.int .i64 0,.int .i64 0,.int .i64 0,.int .i64 0,.bool false]=(l.getD i default).row:=by
 rw [List.getD_eq_getElem?_getD,List.getD_eq_getElem?_getD,List.getElem?_map];cases l[i]?<;>rfl
structure AReply where
 code:Int
 zxid:Int
 path:List UInt8
 data:List UInt8
 stat:AStat
 notes:List (ANote)
instance:Inhabited AReply:=⟨⟨0,0,[],[],default,[]⟩⟩
theorem AReply.ext_iff (a b:AReply):a=b↔a.code=b.code∧a.zxid=b.zxid∧a.path=b.path∧a.data=b.data∧a.stat=b.stat∧a.notes=b.notes:=by
 cases a;cases b;simp
instance:DecidableEq AReply:=fun a b=>decidable_of_iff _ (AReply.ext_iff a b).symm
def AReply.row (x:AReply):List DV:=[.int .i64 x.code,.int .i64 x.zxid,.str x.path,.str x.data,.int .i64 x.stat.czxid,.int .i64 x.stat.mzxid,.int .i64 x.stat.pzxid,.int .i64 x.stat.version,.int .i64 x.stat.cversion,.int .i64 x.stat.owner,.int .i64 x.stat.kids,.sl 3 (x.notes.map ANote.row)]
def AReply.av (x:AReply):AV:=.agg [.d (.int .i64 x.code),.d (.int .i64 x.zxid),.d (.str x.path),.d (.str x.data),.d (.int .i64 x.stat.czxid),.d (.int .i64 x.stat.mzxid),.d (.int .i64 x.stat.pzxid),.d (.int .i64 x.stat.version),.d (.int .i64 x.stat.cversion),.d (.int .i64 x.stat.owner),.d (.int .i64 x.stat.kids),.d (.sl 3 (x.notes.map ANote.row))]
def okS (s:List UInt8):Prop:=s.length≤140737488351232
theorem La {n:Int} (h:(Lit.int .i64 n).wf=true):okI n:=by
 simp only [Lit.wf,Bool.and_eq_true,decide_eq_true_eq] at h
 have h1:IntKind.i64.min=-9223372036854775808:=rfl
 have h2:IntKind.i64.max=9223372036854775807:=rfl
 rw [h1,h2] at h;exact h
theorem nj {α:Type} {f:α→List DV} {wf:α→Prop}:∀ {rows:List (List DV)},(∀ r,r∈rows→∃ x,r=f x∧wf x)→∃ l:List α,rows=l.map f∧∀ x,x∈l→wf x
 |[],_=>⟨[],rfl,by simp⟩
 | r::rows,h=>by
   obtain ⟨x,h1,h2⟩:=h r (by simp)
   obtain ⟨l,h3,h4⟩:=nj (rows:=rows) fun r hr=>h r (by simp [hr])
   exact ⟨x::l,by rw [h1,h3];rfl,fun y hy=>by rcases List.mem_cons.1 hy with rfl|hy;exact h2;exact h4 y hy⟩
def ATxn.wf (x:ATxn):Prop:=okI x.zxid∧okI x.op∧okI x.session∧okS x.path∧okS x.data∧okI x.version∧okI x.owner
def AStat.wf (x:AStat):Prop:=okI x.czxid∧okI x.mzxid∧okI x.pzxid∧okI x.version∧okI x.cversion∧okI x.owner∧okI x.kids
def ANode.wf (x:ANode):Prop:=okS x.path∧okS x.data∧x.stat.wf
def AFile.wf (x:AFile):Prop:=okS x.name∧okS x.safe∧okS x.tail
def AWatch.wf (x:AWatch):Prop:=okI x.session∧okI x.kind∧okS x.path
def AEvent.wf (x:AEvent):Prop:=okI x.kind∧okS x.path
def ANote.wf (x:ANote):Prop:=okI x.session∧x.event.wf
def AEntry.wf (x:AEntry):Prop:=okS x.path∧okS x.data∧True
def ARequest.wf (x:ARequest):Prop:=okI x.op∧okI x.session∧okS x.path∧okS x.data∧okI x.version∧okI x.flags
def ATree.wf (x:ATree):Prop:=okI x.zxid∧(x.nodes.length*88≤140737488351232∧∀ y:ANode,y∈x.nodes→y.wf)∧(x.sessions.length*8≤140737488351232∧∀ y:Int,y∈x.sessions→okI y)
def ADisk.wf (x:ADisk):Prop:=(x.files.length*48≤140737488351232∧∀ y:AFile,y∈x.files→y.wf)
def APeer.wf (x:APeer):Prop:=okI x.id∧okI x.epoch∧(x.log.length*72≤140737488351232∧∀ y:ATxn,y∈x.log→y.wf)∧okI x.done
def AServer.wf (x:AServer):Prop:=True∧x.disk.wf∧x.peer.wf∧x.tree.wf∧(x.watches.length*32≤140737488351232∧∀ y:AWatch,y∈x.watches→y.wf)
def AClient.wf (x:AClient):Prop:=okI x.session∧okI x.seen∧(x.cache.length*40≤140737488351232∧∀ y:AEntry,y∈x.cache→y.wf)
def ADeed.wf (x:ADeed):Prop:=okI x.kind∧okI x.client∧okI x.server∧x.request.wf∧okI x.lost∧okI x.slow∧okI x.keep∧True
def AReply.wf (x:AReply):Prop:=okI x.code∧okI x.zxid∧okS x.path∧okS x.data∧x.stat.wf∧(x.notes.length*32≤140737488351232∧∀ y:ANote,y∈x.notes→y.wf)
attribute [go_sem] eh cU srow aC C5 ATxn.row ATxn.av AStat.row AStat.av ANode.row ANode.av AFile.row AFile.av AWatch.row AWatch.av AEvent.row AEvent.av ANote.row ANote.av AEntry.row AEntry.av ARequest.row ARequest.av ATree.row ATree.av ADisk.row ADisk.av APeer.row APeer.av AServer.row AServer.av AClient.row AClient.av ADeed.row ADeed.av AReply.row AReply.av ATxn.getD ANode.getD AFile.getD AWatch.dec AWatch.getD AEvent.getD ANote.getD AEntry.getD ADeed.getD
attribute [go_sem] List.length_map List.length_take List.length_drop
theorem tA {m:Nat} {t:TypeId} {cs:List DV} {fs:List (Nat×Nat×TypeId)} (hk:(T t).kind=.struct fs) (h:dY T (m+1) t cs):kf (dY T m) fs cs:=by
 simp only [dY,hk] at h;exact h
theorem iv {m:Nat} {t:TypeId} {cs:List DV} (hk:(T t).kind=.int .i64) (h:dY T (m+1) t cs):∃ n,cs=[.int .i64 n]∧okI n:=by
 simp only [dY,hk] at h
 obtain ⟨n,rfl,h⟩:=h
 exact ⟨n,rfl,La h⟩
theorem Ek {m:Nat} {t:TypeId} {cs:List DV} (hk:(T t).kind=.str) (h:dY T (m+1) t cs):∃ n,cs=[.str n]∧okS n:=by
 simp only [dY,hk] at h
 exact h
theorem IK {m:Nat} {t:TypeId} {cs:List DV} (hk:(T t).kind=.bool) (h:dY T (m+1) t cs):∃ b,cs=[.bool b]:=by
 simp only [dY,hk] at h
 exact h
theorem Ma {α:Type} {f:α→List DV} {wf:α→Prop} {m:Nat} {t e:TypeId} {sz by_:Nat} {cs:List DV} (hk:(T t).kind=.slice e) (hs:(T e).size=sz) (hb:(T e).bytes=by_)
  (h1:∀ r,dY T m e r→∃ x,r=f x∧wf x) (h:dY T (m+1) t cs):∃ l:List α,cs=[.sl sz (l.map f)]∧l.length*by_≤140737488351232∧∀ x,x∈l→wf x:=by
 simp only [dY,hk,hs,hb] at h
 obtain ⟨rows,rfl,h2,_,h3⟩:=h
 obtain ⟨l,rfl,h4⟩:=nj fun r hr=>h1 r (h3 r hr)
 exact ⟨l,rfl,by simpa using h2,h4⟩
theorem rD {m:Nat} {cs:List DV} (h:dY T (m+2) 28 cs):∃ x:ARequest,cs=x.row∧x.wf:=by
 have h:=tA (m:=m+1) (by simp only [Lp,HW];rfl) h
 simp only [kf] at h
 obtain ⟨a0,b0,e0,h0,a1,b1,e1,h1,a2,b2,e2,h2,a3,b3,e3,h3,a4,b4,e4,h4,a5,b5,e5,h5,e⟩:=h
 subst e
 obtain ⟨x0,rfl,w0⟩:=iv (m:=m) (by simp only [T_3,ty3]) h0
 obtain ⟨x1,rfl,w1⟩:=iv (m:=m) (by simp only [T_3,ty3]) h1
 obtain ⟨x2,rfl,w2⟩:=Ek (m:=m) (by simp only [T_9,ty9]) h2
 obtain ⟨x3,rfl,w3⟩:=Ek (m:=m) (by simp only [T_9,ty9]) h3
 obtain ⟨x4,rfl,w4⟩:=iv (m:=m) (by simp only [T_3,ty3]) h4
 obtain ⟨x5,rfl,w5⟩:=iv (m:=m) (by simp only [T_3,ty3]) h5
 subst e5 e4 e3 e2 e1 e0
 exact ⟨⟨x0,x1,x2,x3,x4,x5⟩,rfl,⟨w0,w1,w2,w3,w4,w5⟩⟩
theorem vF {m:Nat} {cs:List DV} (h:dY T (m+3) 30 cs):∃ x:ADeed,cs=x.row∧x.wf:=by
 have h:=tA (m:=m+2) (by simp only [Jd,CJ];rfl) h
 simp only [kf] at h
 obtain ⟨a0,b0,e0,h0,a1,b1,e1,h1,a2,b2,e2,h2,a3,b3,e3,h3,a4,b4,e4,h4,a5,b5,e5,h5,a6,b6,e6,h6,a7,b7,e7,h7,e⟩:=h
 subst e
 obtain ⟨x0,rfl,w0⟩:=iv (m:=m+1) (by simp only [T_3,ty3]) h0
 obtain ⟨x1,rfl,w1⟩:=iv (m:=m+1) (by simp only [T_3,ty3]) h1
 obtain ⟨x2,rfl,w2⟩:=iv (m:=m+1) (by simp only [T_3,ty3]) h2
 obtain ⟨x3,rfl,w3⟩:=rD (m:=m) h3
 obtain ⟨x4,rfl,w4⟩:=iv (m:=m+1) (by simp only [T_3,ty3]) h4
 obtain ⟨x5,rfl,w5⟩:=iv (m:=m+1) (by simp only [T_3,ty3]) h5
 obtain ⟨x6,rfl,w6⟩:=iv (m:=m+1) (by simp only [T_3,ty3]) h6
 obtain ⟨x7,rfl⟩:=IK (m:=m+1) (by simp only [T_4,ty4]) h7
 subst e7 e6 e5 e4 e3 e2 e1 e0
 exact ⟨⟨x0,x1,x2,x3,x4,x5,x6,x7⟩,rfl,⟨w0,w1,w2,w3,w4,w5,w6,trivial⟩⟩
set_option maxRecDepth 100000
structure Zc (a b:Prop):Prop where
 h:a
 t:b
structure Zn:Prop where
structure Qw:Prop where
 q:True
structure Qd:Prop where
 q:True
 d:True
theorem qw:Qw:=⟨trivial⟩
theorem qs:Zn:=⟨⟩
theorem zc {a b:Prop} (h:a) (t:b):Zc a b:=⟨h,t⟩
theorem zn:Zn:=⟨⟩
theorem z1 {a:Prop} (h:a):Zc a Zn:=⟨h,zn⟩
theorem z2 {a b:Prop} (x:a) (y:b):Zc a (Zc b Zn):=⟨x,z1 y⟩
theorem z3 {a b c:Prop} (x:a) (y:b) (z:c):Zc a (Zc b (Zc c Zn)):=⟨x,z2 y z⟩
theorem z4 {a b c d:Prop} (x:a) (y:b) (z:c) (w:d):Zc a (Zc b (Zc c (Zc d Zn))):=⟨x,z3 y z w⟩
theorem zx {a b:Prop} (h:a) (t:b):a∧b:=⟨h,t⟩
structure Pls (l:List Plan):Prop where
theorem pls (l:List Plan):Pls l:=⟨⟩
theorem Pls.t {p:Plan} {l:List Plan} (_:Pls (p::l)):Pls l:=⟨⟩
structure Ho {α:Type} (C:α→Prop):Prop where
 o:∀ z,C z
theorem ho {α:Type} {C:α→Prop} (h:∀ z,C z):Ho C:=⟨h⟩
structure Ow (C:Prop):Prop where
 w:C
theorem ow {C:Prop} (h:C):Ow C:=⟨h⟩
structure Ac (m:List Nat) (C:Prop):Prop where
 a:C
theorem ac (m:List Nat) {C:Prop} (h:C):Ac m C:=⟨h⟩
structure Ad (m:List Nat) (C:Prop):Prop where
 d:C
theorem ad (m:List Nat) {C:Prop} (h:C):Ad m C:=⟨h⟩
structure Ic (g:FuncId) (fn:Func):Prop where
 i:Tryz.prog.funcs[g]?=some fn
theorem ic {g:FuncId} {fn:Func} (h:Tryz.prog.funcs[g]?=some fn):Ic g fn:=⟨h⟩
theorem sd {X G:Prop} (x:X) (k:X→G:=by
 intro hX
 (try simp (disch:=omega) only [go_sem,aa,hX])<;>(try omega)<;>fail):G:=k x
theorem sj {X G:Prop} (x:X) (k:X→G:=by
 intro hX
 (try simp (disch:=omega) only [inj,List.cons.injEq,and_self,List.nodup_cons,List.not_mem_nil,List.mem_cons,not_false_eq_true,List.nodup_nil,go_sem,aa,hX])<;>(try omega)<;>fail):G:=k x
theorem sk {X G:Prop} (x:X) (k:X→G:=by
 intro hX
 (try simp (disch:=omega) only [inj,List.cons.injEq,and_self,List.nodup_cons,List.not_mem_nil,List.mem_cons,not_false_eq_true,List.nodup_nil,go_sem,aa,hX])<;>(try omega)<;>(try decide)<;>fail):G:=k x
theorem zIn {g:FuncId} {fn:Func} (h:Ic g fn) {c:Code} {hp:List ABlk} {xs:List AV} {R:AV→List ABlk→Prop}
  (hA : AWP Tryz.prog c { np := hp.length, nt := fn.ntmps, env := fU 0 xs, hp := hp } (me T fn.results.toList R)) (hb : fn.body = some c := by exact rfl) (hn : (fn.name == "runtime.NumGoroutine") = false := by kernel_rfl) (hx : xs.length ≤ fn.ntmps := by (simp only [List.length_nil, List.length_cons, go_sem]; done)) : ab Tryz.prog hp g xs R := cm bQ h.i hb hn hx hA
theorem zPl {s:ASt} {Q:Exit→ASt→Prop} {id:Nat} {ops:Array Oper} {p:Plan} {l:List Plan} (_:Pls (p::l)) (hB:A1 ops p=true) (h:∀ K:ASt→Prop,(∀ s',Q .normal s'→K s')→cL Tryz.prog T ops K p s):AWP Tryz.prog (.region id ops true) s Q:=AWP.plan p mixed bQ hB h
theorem zB {G H:Prop} {P:Program} {hp:List ABlk} {g:FuncId} {xs ys:List AV} {x:AV} (c:ab P [] g ys (ret x)) [k:CK G P hp g xs x H] (d:bH hp xs) (e:cA ys) (h:H) (b:(aW x).isSome=true:=by exact rfl) (a:cI hp xs=ys:=by exact rfl):G:=zA c a b d e h
theorem zHh {α:Type} {P:Program} {np:Nat} {hp:List ABlk} {g:FuncId} {xs:List AV} {K:AV→List ABlk→Prop} {t:Tok K} {z:α} {ys:α→List AV} {x:α→AV} {u0:Value} (c:∀ z,ab P [] g (ys z) (ret (x z))) (hf:bH hp xs) (hn:cA (ys z)) (hK:K (x z) hp) (e:cI hp xs=ys z:=by exact rfl) (hs:aW (x z)=some u0:=by exact rfl):bZ P np hp g xs K t:=acallH_sc (c z) e hs hf hn hK
theorem zHq {α:Type} {P:Program} {hp:List ABlk} {g:FuncId} {xs:List AV} {K:AV→Prop} {t:Tok K} {z:α} {ys:α→List AV} {x:α→AV} {u0:Value} (c:∀ z,ab P [] g (ys z) (ret (x z))) (hf:bH hp xs) (hn:cA (ys z)) (hK:K (x z)) (e:cI hp xs=ys z:=by exact rfl) (hs:aW (x z)=some u0:=by exact rfl):lf P hp g xs K t:=acallQ_sc (c z) e hs hf hn hK
theorem zAt {m:List Nat} {P:Program} {np:Nat} {hp:List ABlk} {g:FuncId} {xs:List AV} {K:AV→List ABlk→Prop} {t:Tok K} {chp bl:List ABlk} {cargs:List AV} {x:AV} (c:Ac m (ab P chp g cargs (cY x bl)))
  (exs:renL (mAt m hp.length) cargs=xs) (h:chp.length=m.length∧m.Nodup∧(∀ i,i∈m→i<hp.length)∧inL m.length cargs∧ky (mAt m hp.length) m.length hp 0 chp)
  (hK:K (renV (br m hp.length) x) (bB (br m hp.length) hp m bl++dh (br m hp.length) (bl.drop m.length))):bZ P np hp g xs K t:=acallH_at m c.a exs h hK
theorem zAd {m:List Nat} {P:Program} {hp:List ABlk} {g:FuncId} {xs:List AV} {K:AV→List ABlk→Prop} {t:Tok K} {chp bl:List ABlk} {cargs:List AV} {x:AV} (c:Ad m (ab P chp g cargs (cY x bl)))
  (exs:renL (mAt m hp.length) cargs=xs) (h:chp.length=m.length∧m.Nodup∧(∀ i,i∈m→i<hp.length)∧inL m.length cargs∧ky (mAt m hp.length) m.length hp 0 chp)
  (hf:bE (bB (br m hp.length) hp m bl++dh (br m hp.length) (bl.drop m.length)) (renV (br m hp.length) x)∧bY (aY (bB (br m hp.length) hp m bl++dh (br m hp.length) (bl.drop m.length)) (renV (br m hp.length) x)))
  (hK:K (aY (bB (br m hp.length) hp m bl++dh (br m hp.length) (bl.drop m.length)) (renV (br m hp.length) x)) (killIds (dM (renV (br m hp.length) x)) (bB (br m hp.length) hp m bl++dh (br m hp.length) (bl.drop m.length)))):bZ P 0 hp g xs K t:=zZ m c.d exs h hf hK
theorem zq {s:ASt} {Q:Exit→ASt→Prop} {id:Nat} {l:List Oper} (_:True) (hB:(IE l.toArray&&Region.lexB .any l.toArray)=true) (h:∀ K:ASt→Prop,(∀ s',Q .normal s'→K s')→nh Tryz.prog T l.toArray K l s):AWP Tryz.prog (.region id l.toArray true) s Q:=zQ hB h
theorem zd {s:ASt} {Q:Exit→ASt→Prop} {id:Nat} {l:List Oper} (_:True) (hB:DJ l.toArray=true) (h:∀ K:ASt→Prop,(∀ s',Q .normal s'→K s')→gP Tryz.prog T l.toArray K l s):AWP Tryz.prog (.region id l.toArray true) s Q:=zD hB h
theorem ze {s:ASt} {Q:Exit→ASt→Prop} {id:Nat} {l:List Oper} (_:True) (hB:drawE l.toArray=true) (h:∀ K:ASt→Prop,(∀ s',Q .normal s'→K s')→gP Tryz.prog T l.toArray K (rh l) s):AWP Tryz.prog (.region id l.toArray true) s Q:=zE hB h
theorem zg {s:ASt} {Q:Exit→ASt→Prop} {id:Nat} {l:List Oper} (_:True) (hB:AB T l.toArray=true) (h:∀ K:ASt→Prop,(∀ s',Q .normal s'→K s')→kp Tryz.prog T l.toArray K (jv l) s):AWP Tryz.prog (.region id l.toArray true) s Q:=zG hB h
theorem zW {F C X A G:Prop} (f:F) (c:C) (x:X) (h:A) (k:F→C→X→A→G:=by
 intro hF hC hX hA
 try have c1:=hC.h
 try have hC:=hC.t
 try have c2:=hC.h
 try have hC:=hC.t
 try have c3:=hC.h
 try have hC:=hC.t
 try have c4:=hC.h
 try have hC:=hC.t
 try have c5:=hC.h
 try have hC:=hC.t
 try have c6:=hC.h
 try have hC:=hC.t
 try have c7:=hC.h
 try have hC:=hC.t
 try have c8:=hC.h
 try have hC:=hC.t
 try have c9:=hC.h
 try have hC:=hC.t
 try have c10:=hC.h
 try have hC:=hC.t
 try have c11:=hC.h
 try have hC:=hC.t
 try have c12:=hC.h
 try have hC:=hC.t
 (repeat' first
|(with_reducible refine AR.f ?_)
|refine ap (by decide) ?_
|(with_reducible refine AWP.cond rfl ?_ ?_<;>intro hcW<;>(try simp only [hcs,beq_iff_eq,ge_iff_le,gt_iff_lt] at hcW))
|(refine bM fun Kk hKk=>?_;(first|refine zIn c1 ?_|refine zIn c2 ?_|refine zIn c3 ?_|refine zIn c4 ?_|refine zIn c5 ?_|refine zIn c6 ?_|refine zIn c7 ?_|refine zIn c8 ?_|refine zIn c9 ?_|refine zIn c10 ?_|refine zIn c11 ?_|refine zIn c12 ?_);simp only [fU,List.length_nil,List.length_cons,Nat.reduceAdd,List.length_append,List.length_set,go_sem])
|((first
|((first|refine zPl c1 (by decide +kernel) ?_|refine zPl c1.t (by decide +kernel) ?_|refine zPl c1.t.t (by decide +kernel) ?_|refine zPl c1.t.t.t (by decide +kernel) ?_|refine zPl c1.t.t.t.t (by decide +kernel) ?_|refine zPl c1.t.t.t.t.t (by decide +kernel) ?_|refine zPl c1.t.t.t.t.t.t (by decide +kernel) ?_|refine zPl c1.t.t.t.t.t.t.t (by decide +kernel) ?_|(with_reducible first|refine zR ?_|refine zd hF.d (by decide +kernel) ?_|refine ze hF.d (by decide +kernel) ?_|refine zq hF.q (by decide +kernel) ?_|refine zd hF.q (by decide +kernel) ?_|refine ze hF.q (by decide +kernel) ?_|refine zg hF.q (by decide +kernel) ?_));intro K hK)
|(first|refine zB c1 (sd hX) (sd hX) ?_|refine zB c2 (sd hX) (sd hX) ?_|refine zB c3 (sd hX) (sd hX) ?_|refine zB c4 (sd hX) (sd hX) ?_|refine zB c5 (sd hX) (sd hX) ?_|refine zB c6 (sd hX) (sd hX) ?_|refine zB c7 (sd hX) (sd hX) ?_|refine zB c8 (sd hX) (sd hX) ?_|refine zB c9 (sd hX) (sd hX) ?_|refine zB c10 (sd hX) (sd hX) ?_|refine zB c11 (sd hX) (sd hX) ?_|refine zB c12 (sd hX) (sd hX) ?_)
|(first|refine zHh c1.o (sd hX) (sd hX) ?_|refine zHq c1.o (sd hX) (sd hX) ?_|refine zHh c2.o (sd hX) (sd hX) ?_|refine zHq c2.o (sd hX) (sd hX) ?_|refine zHh c3.o (sd hX) (sd hX) ?_|refine zHq c3.o (sd hX) (sd hX) ?_|refine zHh c4.o (sd hX) (sd hX) ?_|refine zHq c4.o (sd hX) (sd hX) ?_|refine zHh c5.o (sd hX) (sd hX) ?_|refine zHq c5.o (sd hX) (sd hX) ?_|refine zHh c6.o (sd hX) (sd hX) ?_|refine zHq c6.o (sd hX) (sd hX) ?_|refine zHh c7.o (sd hX) (sd hX) ?_|refine zHq c7.o (sd hX) (sd hX) ?_|refine zHh c8.o (sd hX) (sd hX) ?_|refine zHq c8.o (sd hX) (sd hX) ?_|refine zHh c9.o (sd hX) (sd hX) ?_|refine zHq c9.o (sd hX) (sd hX) ?_|refine zHh c10.o (sd hX) (sd hX) ?_|refine zHq c10.o (sd hX) (sd hX) ?_|refine zHh c11.o (sd hX) (sd hX) ?_|refine zHq c11.o (sd hX) (sd hX) ?_|refine zHh c12.o (sd hX) (sd hX) ?_|refine zHq c12.o (sd hX) (sd hX) ?_)
|(first|refine zN c1 rfl (sd hX) ?_|refine zN (c1.o _) rfl (sd hX) ?_|refine zN c2 rfl (sd hX) ?_|refine zN (c2.o _) rfl (sd hX) ?_|refine zN c3 rfl (sd hX) ?_|refine zN (c3.o _) rfl (sd hX) ?_|refine zN c4 rfl (sd hX) ?_|refine zN (c4.o _) rfl (sd hX) ?_|refine zN c5 rfl (sd hX) ?_|refine zN (c5.o _) rfl (sd hX) ?_|refine zN c6 rfl (sd hX) ?_|refine zN (c6.o _) rfl (sd hX) ?_|refine zN c7 rfl (sd hX) ?_|refine zN (c7.o _) rfl (sd hX) ?_|refine zN c8 rfl (sd hX) ?_|refine zN (c8.o _) rfl (sd hX) ?_|refine zN c9 rfl (sd hX) ?_|refine zN (c9.o _) rfl (sd hX) ?_|refine zN c10 rfl (sd hX) ?_|refine zN (c10.o _) rfl (sd hX) ?_|refine zN c11 rfl (sd hX) ?_|refine zN (c11.o _) rfl (sd hX) ?_|refine zN c12 rfl (sd hX) ?_|refine zN (c12.o _) rfl (sd hX) ?_)
|(first|refine zX c1 rfl (sd hX) ?_|refine zX (c1.o _) rfl (sd hX) ?_|refine zX c2 rfl (sd hX) ?_|refine zX (c2.o _) rfl (sd hX) ?_|refine zX c3 rfl (sd hX) ?_|refine zX (c3.o _) rfl (sd hX) ?_|refine zX c4 rfl (sd hX) ?_|refine zX (c4.o _) rfl (sd hX) ?_|refine zX c5 rfl (sd hX) ?_|refine zX (c5.o _) rfl (sd hX) ?_|refine zX c6 rfl (sd hX) ?_|refine zX (c6.o _) rfl (sd hX) ?_|refine zX c7 rfl (sd hX) ?_|refine zX (c7.o _) rfl (sd hX) ?_|refine zX c8 rfl (sd hX) ?_|refine zX (c8.o _) rfl (sd hX) ?_|refine zX c9 rfl (sd hX) ?_|refine zX (c9.o _) rfl (sd hX) ?_|refine zX c10 rfl (sd hX) ?_|refine zX (c10.o _) rfl (sd hX) ?_|refine zX c11 rfl (sd hX) ?_|refine zX (c11.o _) rfl (sd hX) ?_|refine zX c12 rfl (sd hX) ?_|refine zX (c12.o _) rfl (sd hX) ?_)
|(first|refine zY c1 (sd hX) ?_|refine zY (c1.o _) (sd hX) ?_|refine zY c2 (sd hX) ?_|refine zY (c2.o _) (sd hX) ?_|refine zY c3 (sd hX) ?_|refine zY (c3.o _) (sd hX) ?_|refine zY c4 (sd hX) ?_|refine zY (c4.o _) (sd hX) ?_|refine zY c5 (sd hX) ?_|refine zY (c5.o _) (sd hX) ?_|refine zY c6 (sd hX) ?_|refine zY (c6.o _) (sd hX) ?_|refine zY c7 (sd hX) ?_|refine zY (c7.o _) (sd hX) ?_|refine zY c8 (sd hX) ?_|refine zY (c8.o _) (sd hX) ?_|refine zY c9 (sd hX) ?_|refine zY (c9.o _) (sd hX) ?_|refine zY c10 (sd hX) ?_|refine zY (c10.o _) (sd hX) ?_|refine zY c11 (sd hX) ?_|refine zY (c11.o _) (sd hX) ?_|refine zY c12 (sd hX) ?_|refine zY (c12.o _) (sd hX) ?_)
|(first|refine acallH_own c1.w (sj hX) (sk hX) ?_|refine acallH_own c2.w (sj hX) (sk hX) ?_|refine acallH_own c3.w (sj hX) (sk hX) ?_|refine acallH_own c4.w (sj hX) (sk hX) ?_|refine acallH_own c5.w (sj hX) (sk hX) ?_|refine acallH_own c6.w (sj hX) (sk hX) ?_|refine acallH_own c7.w (sj hX) (sk hX) ?_|refine acallH_own c8.w (sj hX) (sk hX) ?_|refine acallH_own c9.w (sj hX) (sk hX) ?_|refine acallH_own c10.w (sj hX) (sk hX) ?_|refine acallH_own c11.w (sj hX) (sk hX) ?_|refine acallH_own c12.w (sj hX) (sk hX) ?_)
|(first|refine zAt c1 (sj hX) (sk hX) ?_|refine zAd c1 (sj hX) (sk hX) (sj hX) ?_|refine zAt c2 (sj hX) (sk hX) ?_|refine zAd c2 (sj hX) (sk hX) (sj hX) ?_|refine zAt c3 (sj hX) (sk hX) ?_|refine zAd c3 (sj hX) (sk hX) (sj hX) ?_|refine zAt c4 (sj hX) (sk hX) ?_|refine zAd c4 (sj hX) (sk hX) (sj hX) ?_|refine zAt c5 (sj hX) (sk hX) ?_|refine zAd c5 (sj hX) (sk hX) (sj hX) ?_|refine zAt c6 (sj hX) (sk hX) ?_|refine zAd c6 (sj hX) (sk hX) (sj hX) ?_|refine zAt c7 (sj hX) (sk hX) ?_|refine zAd c7 (sj hX) (sk hX) (sj hX) ?_|refine zAt c8 (sj hX) (sk hX) ?_|refine zAd c8 (sj hX) (sk hX) (sj hX) ?_|refine zAt c9 (sj hX) (sk hX) ?_|refine zAd c9 (sj hX) (sk hX) (sj hX) ?_|refine zAt c10 (sj hX) (sk hX) ?_|refine zAd c10 (sj hX) (sk hX) (sj hX) ?_|refine zAt c11 (sj hX) (sk hX) ?_|refine zAd c11 (sj hX) (sk hX) (sj hX) ?_|refine zAt c12 (sj hX) (sk hX) ?_|refine zAd c12 (sj hX) (sk hX) (sj hX) ?_)
|(refine aend_in (v:=?_) hKk (by first|exact .inl rfl|exact .inr rfl) ?_ ?_ ?_;rotate_left;exact sd hX;(focus ((try simp (disch:=omega) only [go_sem,aa,hX])<;>(first|done|exact rfl)));clear hKk Kk)
|((first|(with_reducible refine aunder_i ?_ ?_<;>intro hgW)|with_reducible intro hgW)<;>(first|(exfalso;simp at hgW;done)|(have hgX:=hgW;(try simp only [hcs,beq_iff_eq,ge_iff_le,gt_iff_lt] at hgX);(try simp only [hgW])))))<;>(try simp (disch:=omega) only [go_sem,aa,hX])<;>(repeat' with_reducible refine And.intro ?_ ?_)<;>(try (with_reducible refine hK _ ?_;clear hK K)))
|omega)
 all_goals (repeat revert hcW)
 all_goals (repeat revert hgX)
 all_goals (repeat revert hgW)
 all_goals (with_reducible first|exact hA.h|exact hA.t.h|exact hA.t.t.h|exact hA.t.t.t.h|exact hA.t.t.t.t.h|exact hA.t.t.t.t.t.h|exact hA.t.t.t.t.t.t.h|exact hA.t.t.t.t.t.t.t.h|exact hA.t.t.t.t.t.t.t.t.h|exact hA.t.t.t.t.t.t.t.t.t.h|exact hA.t.t.t.t.t.t.t.t.t.t.h|exact hA.t.t.t.t.t.t.t.t.t.t.t.h|exact hA.t.t.t.t.t.t.t.t.t.t.t.t.h|exact hA.t.t.t.t.t.t.t.t.t.t.t.t.t.h)):G:=k f c x h
theorem zEe {X G:Prop} (x:X) (k:X→G:=by
 intro hX
 (refine zF rfl ?_ ?_ ?_ ?_;(iterate 3 (focus ((try simp (disch:=omega) only [go_sem,aa,hX])<;>(try omega)<;>fail)));(try simp (disch:=omega) only [go_sem,aa,hX,I,B,S,zj]))):G:=k x
theorem zE2 {T:TypeId→TI} {s:ASt} {rs:List ResultVar} {R:AV} {e:Exit} [k:ER e] {X:Prop} (x:X) (hR:df (aY s.hp (cQ (aR T s rs).2)) R) (h0:s.np=0:=by exact rfl) (h1:X→(aR T s rs).1:=by
  intro hX;(try simp (disch:=omega) only [go_sem,aa,hX])<;>(try omega)<;>fail) (h2:X→bE s.hp (cQ (aR T s rs).2):=by
  intro hX;(try simp (disch:=omega) only [go_sem,aa,hX])<;>(try omega)<;>fail) (h3:X→bY (aY s.hp (cQ (aR T s rs).2)):=by
  intro hX;(try simp (disch:=omega) only [go_sem,aa,hX])<;>(try omega)<;>fail):me T rs (ret R) e s:=zF h0 (h1 x) (h2 x) (h3 x) hR
theorem zSm {X G:Prop} (x:X) (k:X→G:=by
 intro hX
 (refine aM.same ?_;simp (disch:=omega) only [go_sem,aa,Int.natCast_add,hX])):G:=k x
theorem zFr (m:List Nat) {X:Prop} (x:X) {np nt:Nat} {env env':List (Nat×AV)} {hp hp':List ABlk} (he:X→nx (mAt m hp.length) m.length env env':=by
  intro hX;simp (disch:=omega) only [go_sem,aa,Int.natCast_add,hX]<;>(try rfl)) (hh:X→ky (mAt m hp.length) m.length hp 0 hp':=by
  intro hX;simp (disch:=omega) only [go_sem,aa,Int.natCast_add,hX]<;>(try rfl)) (hl:Nat.beq hp'.length m.length=true:=by exact rfl) (hm:(m.all fun i=>Nat.blt i hp.length)=true:=by exact rfl) (hinj:decide m.Nodup=true:=by exact rfl) (hpre:((List.range np).all fun k=>m[k]?==some k)=true:=by exact rfl) :
  aM { np:=np,nt:=nt,env:=env,hp:=hp } { np:=np,nt:=nt,env:=env',hp:=hp' }:=zV m hl hm hinj hpre (he x) (hh x)
theorem dfl:(default:ATxn)=⟨0,0,0,[],[],0,0⟩∧(default:AStat)=⟨0,0,0,0,0,0,0⟩∧(default:ANode)=⟨[],[],⟨0,0,0,0,0,0,0⟩⟩∧(default:AFile)=⟨[],[],[]⟩∧(default:AWatch)=⟨0,0,[]⟩∧(default:AEvent)=⟨0,[]⟩∧(default:ANote)=⟨0,⟨0,[]⟩⟩∧(default:AEntry)=⟨[],[],false⟩∧(default:ARequest)=⟨0,0,[],[],0,0⟩∧(default:ATree)=⟨0,[],[]⟩∧(default:ADisk)=⟨[]⟩∧(default:APeer)=⟨0,0,[],0⟩∧(default:AServer)=⟨false,⟨[]⟩,⟨0,0,[],0⟩,⟨0,[],[]⟩,[]⟩∧(default:AClient)=⟨0,0,[]⟩∧(default:ADeed)=⟨0,0,0,⟨0,0,[],[],0,0⟩,0,0,0,false⟩∧(default:AReply)=⟨0,0,[],[],⟨0,0,0,0,0,0,0⟩,[]⟩:=⟨rfl,rfl,rfl,rfl,rfl,rfl,rfl,rfl,rfl,rfl,rfl,rfl,rfl,rfl,rfl,rfl⟩
theorem zJ {g:FuncId} {fn:Func} {c:Code} {nt:Nat} {rs:Array ResultVar} (hf:Tryz.prog.funcs[g]?=some fn) (hn:fn.ntmps=nt) (hr:fn.results=rs) {hp:List ABlk} {xs:List AV} {R:AV→List ABlk→Prop}
  (h : AWP Tryz.prog c { np := hp.length, nt := nt, env := fU 0 xs, hp := hp } (me T rs.toList R)) (hb : fn.body = some c := by exact rfl) (hk : (fn.name == "runtime.NumGoroutine") = false := by kernel_rfl) (hx : xs.length ≤ nt := by simp) : ab Tryz.prog hp g xs R := by
 subst hn hr
 exact cm bQ hf hb hk hx h
theorem SmallD.len {N:Nat} {l:List UInt8} (h:SmallD N (.str l)):l.length≤N:=by cases h;assumption
theorem SmallD.rows {N sz:Nat} {rs:List (List DV)} (h:SmallD N (.sl sz rs)):rs.length≤N∧∀ r,r∈rs→∀ c,c∈r→SmallD N c:=by cases h;exact ⟨by assumption,by assumption⟩
theorem rt {P:Program} {g:FuncId} {xs:List AV} {x:AV} {us:List Value} {u:Value} (hg:goFn P g) (hxs:fj xs=some us) (hx:aW x=some u)
  (h:∀ w:World,Calls P g us.toArray w fun e w'=>e=.returned u∧w'=w):ab P [] g xs (ret x):=by
 refine ⟨hg,fun E w vs hw hH hvs=>?_⟩
 have e:vs=us:=by
  obtain ⟨h1,h2⟩:=eO hxs
  refine List.ext_getElem? fun j=>?_
  by_cases hj:j<xs.length
  ·obtain ⟨u',hu,hs⟩:=h2 j _ (List.getElem?_eq_getElem hj)
   have hv:vs[j]?=some (vs[j]'(by rw [hvs.1];exact hj)):=List.getElem?_eq_getElem _
   rw [hv,hu,pH (hvs.2 j _ _ (List.getElem?_eq_getElem hj) hv) u' hs]
  ·rw [List.getElem?_eq_none (by rw [hvs.1];omega),List.getElem?_eq_none (by omega)]
 subst e
 refine (h w).mono fun e w' ⟨h1,h2⟩=>?_
 subst h2
 refine ⟨u,x,[],[],h1,⟨rfl,rfl⟩,?_,fun k p hk=>?_,ka x u hx⟩
 ·have h0:E.ρ0=[]:=List.eq_nil_of_length_eq_zero (by rw [hH.len];rfl)
  rw [h0] at hH;exact hH
 ·have h0:E.ρ0=[]:=List.eq_nil_of_length_eq_zero (by rw [hH.len];rfl)
  rw [h0] at hk;exact hk
set_option maxHeartbeats 1000000 in
theorem py (a b:ByteArray) (w:World) :
  Calls Tryz.prog 193 #[.string a,.string b] w fun e w'=>e=.returned (.int .i64 (Lib.compareBytes a.data.toList b.data.toList))∧w'=w:=by
 go_enter Tryz.func193,Tryz.ntmps193
 go_wp2
 rw [run_callFunc_extern Tryz.func246 (by kernel_rfl) (by kernel_rfl) (by kernel_rfl) (e:=Extern.BytealgCompare.compare) (by kernel_rfl),Lib.run_compareString]
 simp only [Result.andThen]
 rw [Oper.upon_value]
 go_wp2
 go_ret
 exact ⟨rfl,rfl⟩
theorem pB (a b:List UInt8):ab Tryz.prog [] 193 [S a,S b] (ret (I (Lib.compareBytes a b))):=
 rt ⟨_,Tryz.func193,by kernel_rfl,by kernel_rfl⟩ rfl rfl fun w=>py ⟨a.toArray⟩ ⟨b.toArray⟩ w
theorem nZ (a b:List UInt8):ab Tryz.prog [] 132 [S a,S b] (ret (I (Lib.compareBytes a b))):=by
 refine zJ Tryz.func132 Tryz.ntmps132 Tryz.results132 ?_;simp only [go_sem]
 (refine zW qw (z1 (pB _ _)) trivial (z1 ?_)<;>(repeat with_reducible intro hc))
 exact zEe trivial
def mY (a b:List UInt8):Int:=Lib.compareBytes a b
theorem uJ (a b:List UInt8):mY a b=0↔a=b:=by
 unfold mY
 induction a generalizing b with
 |nil=>cases b<;>simp [Lib.compareBytes]
 | cons x a ih=>
   cases b with
   |nil=>simp [Lib.compareBytes]
   | cons y b=>
     simp only [Lib.compareBytes]
     split
     ·rename_i h;simp;intro e;subst e;exact absurd h (by simp)
     ·split
      ·rename_i h;simp;intro e;subst e;exact absurd h (by simp)
      ·rename_i h1 h2
       have:x=y:=by
        have h1':¬ x.toNat<y.toNat:=by simpa [UInt8.lt_iff_toNat_lt] using h1
        have h2':¬ y.toNat<x.toNat:=by simpa [UInt8.lt_iff_toNat_lt] using h2
        exact UInt8.toNat_inj.1 (by omega)
       subst this
       rw [ih];simp
theorem I3 (a b:List UInt8):mY a b<0↔lH a b=true:=by
 unfold mY lH
 induction a generalizing b with
 |nil=>cases b<;>simp [Lib.compareBytes,Op.bytesLess]
 | cons x a ih=>
   cases b with
   |nil=>simp [Lib.compareBytes,Op.bytesLess]
   | cons y b=>
     simp only [Lib.compareBytes,Op.bytesLess]
     split
     ·rename_i h;simp [h]
     ·rename_i h1
      split
      ·rename_i h2
       have h2':¬ x=y:=fun e=>by subst e;exact absurd h2 (by simp)
       simp [h1,h2']
      ·rename_i h2
       have:x=y:=by
        have h1':¬ x.toNat<y.toNat:=by simpa [UInt8.lt_iff_toNat_lt] using h1
        have h2':¬ y.toNat<x.toNat:=by simpa [UInt8.lt_iff_toNat_lt] using h2
        exact UInt8.toNat_inj.1 (by omega)
       subst this
       simp [ih]
theorem kz (a b:List UInt8):lH a b=decide (a<b):=Go.Proofs.bytesLess_eq a b
theorem jd (a b:List UInt8):mY a b<0↔a<b:=by rw [I3,kz,decide_eq_true_eq]
theorem KY {a b:List UInt8} (h:¬ a<b) (h2:¬ b<a):a=b:=List.le_antisymm (List.not_lt.1 h2) (List.not_lt.1 h)
theorem tD {a b:List UInt8} (h:¬ a<b) (h2:a≠b):b<a:=Classical.byContradiction fun h3=>h2 (KY h h3)
def aV (ns:List (List UInt8)):Prop:=∀ k,k+1<ns.length→ns.getD k []<ns.getD (k+1) []
theorem bd {ns:List (List UInt8)} (h:aV ns) {i:Nat}:∀ {j:Nat},i<j→j<ns.length→ns.getD i []<ns.getD j []
 |0,h1,_=>by omega
 | j+1,h1,h2=>by
   by_cases e:i=j
   ·subst e;exact h i h2
   ·exact List.lt_trans (bd h (by omega) (by omega)) (h j h2)
def place (ns:List (List UInt8)) (key:List UInt8):Nat:=ns.findIdx fun x=>!decide (x<key)
theorem gM {ns:List (List UInt8)} {key:List UInt8} {i:Nat} (h0:i≤ns.length) (h1:∀ k,k<i→ns.getD k []<key) (h2:i<ns.length→¬ ns.getD i []<key):place ns key=i:=by
 unfold place
 by_cases e:i<ns.length
 ·rw [List.findIdx_eq e]
  have h3:=h2 e
  rw [List.getD_eq_getElem?_getD,List.getElem?_eq_getElem e] at h3
  refine ⟨by simpa using h3,fun j hj=>?_⟩
  have h4:=h1 j hj
  rw [List.getD_eq_getElem?_getD,List.getElem?_eq_getElem (by omega)] at h4
  simpa using h4
 ·have e2:i=ns.length:=by omega
  subst e2
  rw [List.findIdx_eq_length]
  intro x hx
  obtain ⟨j,hj,rfl⟩:=List.getElem_of_mem hx
  have h4:=h1 j hj
  rw [List.getD_eq_getElem?_getD,List.getElem?_eq_getElem hj] at h4
  simpa using h4
theorem cp {α:Type} (ns:List α) (d:α) {k:Nat} (h:k<ns.length):ns.getD k d∈ns:=by
 rw [List.getD_eq_getElem?_getD,List.getElem?_eq_getElem h];exact List.getElem_mem h
theorem bx {α:Type} (ns:List α) (d x:α):x∈ns↔∃ k,k<ns.length∧ns.getD k d=x:=by
 constructor
 ·intro h
  obtain ⟨j,hj,e⟩:=List.getElem_of_mem h
  exact ⟨j,hj,by rw [List.getD_eq_getElem?_getD,List.getElem?_eq_getElem hj];exact e⟩
 ·rintro ⟨k,h,rfl⟩;exact cp ns d h
theorem kW {ns:List (List UInt8)} {key:List UInt8} {i:Nat} (hr:aV ns) (h1:∀ k,k<i→ns.getD k []<key) (h2:i<ns.length→¬ ns.getD i []<key):key∈ns↔i<ns.length∧ns.getD i []=key:=by
 rw [bx ns []]
 constructor
 ·rintro ⟨k,hk,e⟩
  have a:¬ k<i:=fun hki=>by have:=h1 k hki;rw [e] at this;exact List.lt_irrefl _ this
  have b:¬ i<k:=fun hik=>by
   have:=bd hr hik hk
   rw [e] at this;exact h2 (by omega) this
  have c:i=k:=by omega
  subst c;exact ⟨hk,e⟩
 ·rintro ⟨h,e⟩;exact ⟨i,h,e⟩
theorem fI (ns:List (List UInt8)) (key:List UInt8):place ns key≤ns.length:=List.findIdx_le_length
theorem vP {ns:List (List UInt8)} {k:Nat} (hr:aV ns) (h:k<ns.length):place ns (ns.getD k [])=k:=
 gM (by omega) (fun j hj=>bd hr hj h) fun _=>List.lt_irrefl _
theorem ao {ns:List (List UInt8)} {key:List UInt8} (hr:aV ns) (h:key∈ns):place ns key<ns.length∧ns.getD (place ns key) []=key:=by
 obtain ⟨k,hk,e⟩:=(bx ns [] key).1 h
 subst e;rw [vP hr hk];exact ⟨hk,rfl⟩
theorem fM {α β:Type} (f:α→β) (l:List α) (k:Nat) (d:α):(l.map f).getD k (f d)=f (l.getD k d):=by
 simp only [List.getD_eq_getElem?_getD,List.getElem?_map];cases l[k]?<;>rfl
def okc (c:UInt8):Bool:=decide ((97≤c.toNat∧c.toNat≤122)∨(48≤c.toNat∧c.toNat≤57)∨c.toNat=45∨c.toNat=95)
def a8 (s:List UInt8):Bool:=s.all okc&&(!decide (s=[])&&decide ((s.length:Int)≤40))
theorem GY {α:Type} [Inhabited α] (p:α→Bool) (l:List α) (d:α):∀ k,k≤l.length→(∀ j,j<k→p (l.getD j d)=true)→(l.take k).all p=true:=by
 intro k hk h
 rw [List.all_eq_true]
 intro x hx
 rw [List.mem_take_iff_getElem] at hx
 obtain ⟨j,hj,rfl⟩:=hx
 have:=h j (by omega)
 rwa [List.getD_eq_getElem?_getD,List.getElem?_eq_getElem (by omega)] at this
theorem FC {α:Type} [Inhabited α] (p:α→Bool) (l:List α) (d:α) (h:∀ j,j<l.length→p (l.getD j d)=true):l.all p=true:=by
 have:=GY p l d l.length (Nat.le_refl _) h
 rwa [List.take_length] at this
theorem AI {α:Type} [Inhabited α] {p:α→Bool} {l:List α} {d:α} {k:Nat} (hk:k<l.length) (h:p (l.getD k d)=false):l.all p=false:=by
 rw [List.all_eq_false]
 refine ⟨l.getD k d,?_,by rw [h];simp⟩
 rw [List.getD_eq_getElem?_getD,List.getElem?_eq_getElem hk]
 exact List.getElem_mem hk
theorem ga (s:List UInt8) (h:okS s):ab Tryz.prog [] 81 [S s] (ret (B (a8 s))):=by
 unfold okS at h
 refine zJ Tryz.func81 Tryz.ntmps81 Tryz.results81 ?_;simp only [go_sem]
 (refine zW qw zn trivial (z1 ?_)<;>(repeat with_reducible intro hc))
 refine AWP.loopS (ι:=Nat) (fun k=>k≤s.length∧∀ j,j<k→okc (s.getD j 0)=true) (fun k=>s.length-k) [0] (fun k=>[(3,I k)]) 0 ?_ (by simp (disch:=omega) only [go_sem,aa,true_and]) ?_
 ·exact ⟨by omega,by omega⟩
 intro k ⟨hk,hk2⟩
 simp only [go_sem]
 (refine zW qw zn trivial (z3 ?_ ?_ ?_)<;>(repeat with_reducible intro hc))
 ·rename_i hl
  have e:s.all okc=false:=AI (d:=0) hl (by unfold okc;rw [decide_eq_false_iff_not];omega)
  exact zEe (zx @a8.eq_1 (zx @e @Bool.false_and))
 ·refine ⟨k+1,⟨by omega,fun j hj=>?_⟩,by omega,?_⟩
  ·by_cases e:j=k
   ·subst e;unfold okc;rw [decide_eq_true_eq];omega
   ·exact hk2 j (by omega)
  exact zSm trivial
 ·have e:s.all okc=true:=FC okc s 0 fun j hj=>hk2 j (by omega)
  exact zEe (zx @a8.eq_1 (zx @e @Bool.true_and))
def letters:List UInt8:=[97,98,99,100,101,102,103,104,105,106,107,108,109,110,111,112,113,114,115,116,117,118,119,120,121,122,48,49,50,51,52,53,54,55,56,57,45,95]
theorem u8g (l:List UInt8) (i:Nat) (h:i<l.length):(l.map aC).getD i []=aC (l.getD i 0):=dW aC l i [] h
theorem ext_indexByte {P : Program} {hp : List ABlk} {g : FuncId} {fn : Func} (hf : P.funcs[g]? = some fn) (hn : (fn.name == "runtime.NumGoroutine") = false) (hb : fn.body.isNone = true) (hx : Extern.findNext fn = none)
  (he:Extern.find fn=some Extern.BytealgIndexByte.indexByte) (s:List UInt8) (c:UInt8):un P hp g [S s,.d (.int .u8 c.toNat)] (I (Lib.indexByte s c)):=by
 intro E ρ w us hH hus
 refine ⟨.int .i64 (Lib.indexByte s c),.d _ _ (.int _ _),fun w' hbl=>?_⟩
 match us,hus with
 | [u,u'],hus=>
   have hu:=hus.2 0 _ u rfl rfl
   have hu':=hus.2 1 _ u' rfl rfl
   cases hu with|d _ _ hu=>cases hu with|str _=>
   cases hu' with|d _ _ hu'=>cases hu' with|int _ _=>
   rw [run_callFunc_extern hf hn hb hx he]
   have:=Lib.run_indexByteString (P:=P) ⟨s.toArray⟩ (c.toNat:Int) w'
   have e:((c.toNat:Int)).toNat.toUInt8=c:=by simp
   rw [e] at this
   show (Extern.BytealgIndexByte.indexByte #[.string ⟨s.toArray⟩,.int .u8 (c.toNat:Int)] |>.run P w').andThen _=_
   rw [this]
   rfl
theorem ur (s:List UInt8) (c:UInt8):ab Tryz.prog [] 266 [S s,.d (.int .u8 c.toNat)] (ret (I (Lib.indexByte s c))):=by
 refine zJ Tryz.func266 Tryz.ntmps266 Tryz.results266 ?_;simp only [go_sem]
 (repeat' first
|(with_reducible refine AR.f ?_)
|refine ap (by decide) ?_
|(with_reducible refine AWP.cond rfl ?_ ?_<;>intro hc<;>(try simp only [hcs,beq_iff_eq,ge_iff_le,gt_iff_lt] at hc))
|((first|((first|(with_reducible first|refine zR ?_|refine zQ (by decide +kernel) ?_|refine zD (by decide +kernel) ?_|refine zE (by decide +kernel) ?_|refine zG (by decide +kernel) ?_));intro K hK)|refine acallHK_ext (ext_indexByte Tryz.func272 (by kernel_rfl) (by kernel_rfl) (by kernel_rfl) (by kernel_rfl) s c) ?_|((first|(with_reducible refine aunder_i ?_ ?_<;>intro hg)|with_reducible intro hg)<;>(first|(exfalso;simp at hg;done)|(have hg':=hg;(try simp only [hcs,beq_iff_eq,ge_iff_le,gt_iff_lt] at hg');(try simp only [hg])))))<;>(try simp (disch:=omega) only [go_sem,aa])<;>(repeat' with_reducible refine And.intro ?_ ?_)<;>(try (with_reducible refine hK _ ?_;clear hK K)))
|omega)
 exact zEe trivial
theorem qv (s:List UInt8) (c:UInt8):ab Tryz.prog [] 251 [S s,S [c]] (ret (I (Lib.indexByte s c))):=by
 refine zJ Tryz.func251 Tryz.ntmps251 Tryz.results251 ?_;simp only [go_sem]
 (refine zW qw (z1 (ur s c)) trivial (z2 ?_ ?_)<;>(repeat with_reducible intro hc))
 ·(refine zE2 trivial ?_;(try simp (disch:=omega) only [go_sem,aa,I,B,S,zj]))
  subst hc;simp [Lib.indexByte]
 ·exact zEe trivial
theorem GM (s:List UInt8) (c:UInt8):ab Tryz.prog [] 249 [S s,S [c]] (ret (I (Lib.indexByte s c))):=by
 refine zJ Tryz.func249 Tryz.ntmps249 Tryz.results249 ?_;simp only [go_sem]
 (refine zW qw (z1 (qv s c)) trivial (z1 ?_)<;>(repeat with_reducible intro hc))
 exact zEe trivial
theorem vw (s p:List UInt8) (hp:okS p) (hs:okS s):ab Tryz.prog [] 194 [S s,S p] (ret (B (decide (p.length≤s.length∧s.take p.length=p)))):=by
 unfold okS at hp hs
 refine zJ Tryz.func194 Tryz.ntmps194 Tryz.results194 ?_;simp only [go_sem]
 (refine zW qw zn trivial (z1 ?_)<;>(repeat with_reducible intro hc))
 all_goals (refine zE2 trivial ?_;(try simp (disch:=omega) only [go_sem,aa,I,B,S,zj]))
 rw [Bool.eq_iff_iff];simp
theorem xe (s p:List UInt8) (hp:okS p) (hs:okS s):ab Tryz.prog [] 134 [S s,S p] (ret (B (decide (p.length≤s.length∧s.take p.length=p)))):=by
 refine zJ Tryz.func134 Tryz.ntmps134 Tryz.results134 ?_;simp only [go_sem]
 (refine zW qw (z1 (vw s p hp hs)) trivial (z1 ?_)<;>(repeat with_reducible intro hc))
 all_goals exact zEe trivial
theorem gD {P:Program} {g:FuncId} {xs:List AV} {x:AV} {us:List Value} {u:Value} (c:ab P [] g xs (ret x)) (hxs:fj xs=some us) (hx:aW x=some u) (w:World) (ht:d7 w) :
  Calls P g us.toArray w fun e w'=>e=.returned u∧Below w.heap.size w w':=by
 obtain ⟨h1,h2⟩:=eO hxs
 have hH:RepH (⟨w,fun _=>False,fun _=>False,[],by simp,by simp,ht,by simp⟩:Ent) [] [] w:=
  ⟨rfl,by simp,by simp,by simp,Fr.refl _ _⟩
 refine (c.2 ⟨w,fun _=>False,fun _=>False,[],by simp,by simp,ht,by simp⟩ w us rfl hH ⟨h1,fun j x' u' hx' hu'=>?_⟩).mono fun e w' ⟨u',v,hp',ρ',q1,q2,q3,q4,q5⟩=>?_
 ·obtain ⟨u2,q,hs⟩:=h2 j x' hx'
  rw [hu'] at q;injection q with q;subst q
  exact ka x' u' hs
 ·obtain ⟨rfl,rfl⟩:=q2
  exact ⟨by rw [q1,pH q5 u hx],q3.fr.os,q3.fr.tape,q3.fr.output,q3.fr.size,fun k hk=>q3.fr.block k hk (by simp)⟩
open Go Go.RowKit Go.Shelf
attribute [local go_sem] Oper.semAt_some
def AF (W:World) (b:Nat):Nat:=match W.cell? ⟨b,0,none⟩ with
 |some (.string s)=>s.size
 |_=>0
def bK:List UInt8→List (List UInt8)
 |[]=>[[]]
 | c::r=>if c=47 then []::bK r else match bK r with
   |p::ps=>(c::p)::ps
   |[]=>[[c]]
def cb (r:List UInt8):Bool:=(bK r).all a8
theorem BI (r:List UInt8):bK r≠[]:=by
 induction r with
 |nil=>simp [bK]
 | cons c r ih=>
   unfold bK
   split
   ·simp
   ·split<;>simp
theorem Ca (r:List UInt8):(Lib.indexByte r 47=-1∧bK r=[r])∨∃ i:Nat,Lib.indexByte r 47=(i:Int)∧i<r.length∧bK r=r.take i::bK (r.drop (i+1)):=by
 induction r with
 |nil=>exact .inl ⟨rfl,rfl⟩
 | cons c r ih=>
   by_cases h:c=47
   ·subst h
    exact .inr ⟨0,by simp [Lib.indexByte],by simp,by simp [bK]⟩
   ·rcases ih with ⟨e1,e2⟩|⟨i,e1,e2,e3⟩
    ·refine .inl ⟨by simp [Lib.indexByte,h,e1],by simp [bK,h,e2]⟩
    ·refine .inr ⟨i+1,?_,by simp;omega,by simp [bK,h,e3]⟩
     simp only [Lib.indexByte,e1]
     rw [if_neg (by simpa using h),if_neg (by simp)]
     omega
theorem wI (r:List UInt8) (W:World) (ht:d7 W):Calls Tryz.prog 249 #[aG r,aG [47]] W fun e W'=>e=.returned (.int .i64 (Lib.indexByte r 47))∧Below W.heap.size W W':=
 gD (GM r 47) rfl rfl W ht
set_option maxHeartbeats 2000000 in
theorem K7 (n l Bs Bp Bv:Nat) (J:List UInt8→World→Prop) (Jx:World→Prop)
  (hc:∀ r W,J r W→W.cell? ⟨Bs,0,none⟩=some (aG r)∧W.frozen? ⟨Bs,0,none⟩=false∧W.cell? ⟨Bp,0,none⟩=some (aG [47])∧W.cell? ⟨Bv,0,none⟩=some (.int .i64 0))
  (hs:∀ r r' W,J r W→J r' (W.setCell ⟨Bs,0,none⟩ (aG r'))) (hb:∀ r W W',J r W→Below W.heap.size W W'→J r W') (ht:∀ r W,J r W→d7 W)
  (hY:∀ r W p,J r W→p.length≤200→YieldAt Fence.wide (n-1) Tryz.prog l #[aG p] W (fun e W'=>(e=.returned (.bool true)∧a8 p=true∧J r W')∨(e=.returned (.bool false)∧a8 p=false∧Jx W')))
  (r0:List UInt8) (hr0:r0.length≤200) (W:World) (h0:J r0 W) :
  CallsIn Fence.wide n Tryz.prog 247 #[.func (.yield l) #[] #[],.pointer (some ⟨Bp,0,none⟩),.pointer (some ⟨Bs,0,none⟩),.pointer (some ⟨Bv,0,none⟩)] W fun e W'=>
   (∃ v,e=.returned v)∧((cb r0=true∧∃ r,J r W')∨(cb r0=false∧Jx W')):=by
 refine callsIn_of_wp Tryz.func247 rfl trivial ?_ rfl
 simp only [Tryz.ntmps247,List.size_toArray,List.length_cons,List.length_nil,Nat.reduceAdd,Nat.reduceSub,Array.replicate_succ,Array.replicate_zero,List.push_toArray,List.append_toArray,List.nil_append,List.cons_append]
 unfold aG at hc
 obtain ⟨h1,h2,h3,h4⟩:=hc _ _ h0
 gi_wp2
 gi_loopw [] (fun wr=>∃ r,J r wr∧r.length≤200∧cb r0=cb r) (fun wr=>AF wr Bs)
 case atStart=>exact ⟨r0,h0,hr0,rfl⟩
 case round=>
  obtain ⟨r,hJ,hrl,hal⟩:=hrel
  obtain ⟨q1,q2,q3,q4⟩:=hc _ _ hJ
  have hm0:AF wr Bs=r.length:=by unfold AF;rw [q1];simp [ByteArray.size]
  gi_wp2
  refine ⟨trivial,fun h=>by simp [Fence.wide] at h,(callsIn_wide.2 (show Calls _ _ #[.string ⟨r.toArray⟩,.string ⟨#[47]⟩] _ _ from wI r wr (ht _ _ hJ))).mono ?_⟩
  rintro e w' ⟨rfl,hbl⟩
  have hJ':=hb _ _ _ hJ hbl
  clear q1 q2 q3 q4
  obtain ⟨q1,q2,q3,q4⟩:=hc _ _ hJ'
  rcases Ca r with ⟨ei,es⟩|⟨i,ei,hil,es⟩
  ·rw [ei]
   have ea:cb r=a8 r:=by unfold cb;rw [es];simp
   obtain ⟨fn,tmps,assign,body,hy,hR⟩:=hY r w' r hJ' hrl
   unfold aG at hy
   gi_wp2
   refine ⟨fun h=>by simp [Fence.wide] at h,hR.mono ?_⟩
   rintro e W3 (⟨rfl,hn,hJ3⟩|⟨rfl,hn,hJx3⟩)
   ·gi_wp2
    go_end0
    exact ⟨⟨_,rfl⟩,.inl ⟨by rw [hal,ea,hn],r,hJ3⟩⟩
   ·gi_wp2
    go_end0
    exact ⟨⟨_,rfl⟩,.inr ⟨by rw [hal,ea,hn],hJx3⟩⟩
  ·rw [ei]
   have e0:aG (r.take i)=.string ((⟨r.toArray⟩:ByteArray).extract 0 i):=by unfold aG;rw [gU];simp
   have ea:cb r=(a8 (r.take i)&&cb (r.drop (i+1))):=by unfold cb;rw [es];simp
   obtain ⟨fn,tmps,assign,body,hy,hR⟩:=hY r w' (r.take i) hJ' (by rw [List.length_take];omega)
   rw [e0] at hy
   gi_wp2
   refine ⟨fun h=>by simp [Fence.wide] at h,hR.mono ?_⟩
   rintro e W3 (⟨rfl,hn,hJ3⟩|⟨rfl,hn,hJx3⟩)
   ·obtain ⟨t1,t2,t3,t4⟩:=hc _ _ hJ3
    gi_wp2
    have e2:Value.string ((⟨r.toArray⟩:ByteArray).extract (i+1) r.length)=aG (r.drop (i+1)):=by
     unfold aG;rw [gU,List.take_of_length_le (by simp)]
    have hJ4:=hs r (r.drop (i+1)) W3 hJ3
    rw [e2]
    refine ⟨⟨_,hJ4,by rw [List.length_drop];omega,by rw [hal,ea,hn];rfl⟩,?_⟩
    rw [hm0]
    unfold AF
    rw [(hc _ _ hJ4).1]
    simp [ByteArray.size];omega
   ·gi_wp2
    refine bodyPost_ret (results_none rfl _ _ _) rfl ?_
    exact ⟨⟨_,rfl⟩,.inr ⟨by rw [hal,ea,hn];rfl,hJx3⟩⟩
theorem xi (p:List UInt8) (h:p.length≤200) (W:World) (ht:d7 W):Calls Tryz.prog 81 #[.string ⟨p.toArray⟩] W fun e W'=>e=.returned (.bool (a8 p))∧Below W.heap.size W W':=
 gD (ga p (by unfold okS;omega)) rfl rfl W ht
theorem uI (p:List UInt8) (h:okS p) (W:World) (ht:d7 W):Calls Tryz.prog 134 #[.string ⟨p.toArray⟩,.string ⟨#[47]⟩] W fun e W'=>e=.returned (.bool (decide (1≤p.length∧p.take 1=[47])))∧Below W.heap.size W W':=
 gD (xe p [47] (by unfold okS;decide) h) rfl rfl W ht
theorem yS (s:List UInt8) (w:World):Calls Tryz.prog 135 #[.string ⟨s.toArray⟩,.string ⟨#[47]⟩] w fun e w'=>
  e = .returned (.func (.func 247) #[] #[.pointer (some ⟨w.heap.size+1,0,none⟩),.pointer (some ⟨w.heap.size,0,none⟩),.pointer (some ⟨w.heap.size+2,0,none⟩)])∧
    ∃ a b c,w'=((w.alloc (.cells #[.string ⟨s.toArray⟩] a)).alloc (.cells #[.string ⟨#[47]⟩] b)).alloc (.cells #[.int .i64 0] c):=by
 go_enter Tryz.func135,Tryz.ntmps135
 go_wp2
 go_ret
 exact ⟨rfl,_,_,_,rfl⟩
def bw (s:List UInt8):Bool:=decide (s=[47])||(decide (s.length≤200)&&(decide (1≤s.length∧s.take 1=[47])&&cb (s.drop 1)))
structure GJ (w:World) (B:Nat) (rec:Loop) (r:List UInt8) (W:World):Prop where
 below:Below w.heap.size w W
 res:W.cell? ⟨w.heap.size,0,none⟩=some (.bool false)
 resf:W.frozen? ⟨w.heap.size,0,none⟩=false
 s:W.cell? ⟨B,0,none⟩=some (aG r)
 sf:W.frozen? ⟨B,0,none⟩=false
 p:W.cell? ⟨B+1,0,none⟩=some (aG [47])
 v:W.cell? ⟨B+2,0,none⟩=some (.int .i64 0)
 d:W.heap[B+3]?=some (.deferred (some []))
 l:W.heap[B+4]?=some (.loop rec)
theorem fx {W:World} {k k':Nat} {v:Value} (h:k≠k'):(W.setCell ⟨k,0,none⟩ v).cell? ⟨k',0,none⟩=W.cell? ⟨k',0,none⟩:=by
 have:(⟨k,0,none⟩:Addr)≠⟨k',0,none⟩:=fun e=>h (by injection e)
 simp [World.cell?_setCell_other,this]
theorem uO {W:World} {k:Nat} {o:Obj} (h:W.heap[k]?=some o):k<W.heap.size:=(Array.getElem?_eq_some_iff.1 h).1
section
variable {w W W':World} {B:Nat} {rec:Loop} {r:List UInt8}
theorem GJ.write (hB:w.heap.size<B) (h:GJ w B rec r W) (r':List UInt8):GJ w B rec r' (W.setCell ⟨B,0,none⟩ (aG r')):=
 ⟨h.below.setCell (by simp only;omega) _,by rw [fx (by omega)];exact h.res,by rw [World.frozen?_setCell];exact h.resf,World.cell?_setCell_same' _ _ _ (by rw [h.s];rfl),by rw [World.frozen?_setCell];exact h.sf,
  by rw [fx (by omega)];exact h.p,by rw [fx (by omega)];exact h.v,by rw [Below.heap_setCell _ _ _ _ (by simp only;omega)];exact h.d,by rw [Below.heap_setCell _ _ _ _ (by simp only;omega)];exact h.l⟩
theorem GJ.mark (hB:w.heap.size<B) (h:GJ w B rec r W):GJ w B rec r (W.setCell ⟨w.heap.size,0,none⟩ (.bool false)):=
 ⟨h.below.setCell (Nat.le_refl _) _,World.cell?_setCell_same' _ _ _ (by rw [h.res];rfl),by rw [World.frozen?_setCell];exact h.resf,by rw [fx (by omega)];exact h.s,by rw [World.frozen?_setCell];exact h.sf,
  by rw [fx (by omega)];exact h.p,by rw [fx (by omega)];exact h.v,by rw [Below.heap_setCell _ _ _ _ (by simp only;omega)];exact h.d,by rw [Below.heap_setCell _ _ _ _ (by simp only;omega)];exact h.l⟩
theorem GJ.grow (hB:w.heap.size<B) (h:GJ w B rec r W) (hb:Below W.heap.size W W'):GJ w B rec r W':=by
 have hl:=uO h.l
 exact ⟨h.below.trans (hb.mono h.below.size),by rw [hb.cell (by simp only;omega)];exact h.res,by rw [hb.frozen (by simp only;omega)];exact h.resf,by rw [hb.cell (by simp only;omega)];exact h.s,by rw [hb.frozen (by simp only;omega)];exact h.sf,
  by rw [hb.cell (by simp only;omega)];exact h.p,by rw [hb.cell (by simp only;omega)];exact h.v,by rw [hb.block _ (by omega)];exact h.d,by rw [hb.block _ (by omega)];exact h.l⟩
theorem GJ.turn (hB:w.heap.size<B) (h:GJ w B rec r W) (rec':Loop):GJ w B rec' r (W.putObj (B+4) (.loop rec')):=by
 have hl:=uO h.l
 have hcell:∀ k,k≠B+4→(W.putObj (B+4) (.loop rec')).cell? ⟨k,0,none⟩=W.cell? ⟨k,0,none⟩:=fun k hk=>World.cell?_of_block (World.putObj_heap_other hk)
 have hfz:∀ k,k≠B+4→(W.putObj (B+4) (.loop rec')).frozen? ⟨k,0,none⟩=W.frozen? ⟨k,0,none⟩:=fun k hk=>World.frozen?_of_block (World.putObj_heap_other hk)
 exact ⟨h.below.trans ⟨rfl,rfl,rfl,by simp,fun k hk=>World.putObj_heap_other (by omega)⟩,by rw [hcell _ (by omega)];exact h.res,by rw [hfz _ (by omega)];exact h.resf,by rw [hcell _ (by omega)];exact h.s,by rw [hfz _ (by omega)];exact h.sf,
  by rw [hcell _ (by omega)];exact h.p,by rw [hcell _ (by omega)];exact h.v,by rw [World.putObj_heap_other (by omega)];exact h.d,World.putObj_heap_same hl⟩
end
theorem xY {assign body:Code} {Q:Exit→Act→World→Prop} {tm:Array Value} {pt:Tmp} {g:Operand} {w W0:World} {B:Nat} (a₁:Value→Act) (hB:w.heap.size<B) (htw:d7 w)
  (hg:Act.eval { tmps:=tm,defers:=[] } g=.func (.func 247) #[] #[.pointer (some ⟨B+1,0,none⟩),.pointer (some ⟨B,0,none⟩),.pointer (some ⟨B+2,0,none⟩)])
  (r0:List UInt8) (hr0:r0.length≤200) (hsz:W0.heap.size=B+3) (hJ0:∀ rec,GJ w B rec r0 ((W0.alloc (.deferred (some []))).alloc (.loop rec)))
  (hassign:∀ (l:Nat) (x:Value) (W:World) (K:Act→World→Prop),K (a₁ x) W→assign.wpIn (Fence.wide.inRound l) 7 Tryz.prog (Exit.then K (fun _ _ _=>False)) { tmps:=tm.setIfInBounds pt x,defers:=[] } W)
  (hbody:∀ (l:Nat) (x:List UInt8) (W:World),d7 W→x.length≤200→w.heap.size<W.heap.size→W.cell? ⟨w.heap.size,0,none⟩=some (.bool false)→W.frozen? ⟨w.heap.size,0,none⟩=false→
   body.wpIn (Fence.wide.inRound l) 7 Tryz.prog (fun e _ W'=>(e=.normal∧a8 x=true∧Below W.heap.size W W')∨(e=.ret∧a8 x=false∧∃ W2,Below W.heap.size W W2∧W'=W2.setCell ⟨w.heap.size,0,none⟩ (.bool false))) (a₁ (aG x)) W)
  (hdone:∀ (W:World) (rec:Loop) (r:List UInt8),cb r0=true→GJ w B rec r W→Q .normal { tmps:=tm,defers:=[{ target:=.collected (B+3),args:=#[] }] } W)
  (hstop:∀ (W:World) (rec:Loop) (r:List UInt8),cb r0=false→GJ w B rec r W→Code.ret.wpIn Fence.wide 9 Tryz.prog Q { tmps:=tm,defers:=[{ target:=.collected (B+3),args:=#[] }] } W) :
  (Code.rangeFunc g #[pt] assign body).wpIn Fence.wide 9 Tryz.prog Q { tmps:=tm,defers:=[] } W0:=by
 refine wpIn_rangeFunc ?_
 intro fn hfn
 obtain ⟨rec,hrec⟩:∃ rec:LoopState→Option Code→Loop,rec=fun st pe=>{ state:=st,pending:=pe,fn:=fn,tmps:=tm,params:=#[pt],assign:=assign,body:=body,defers:=B+3 }:=⟨_,rfl⟩
 have hr:∀ st pe,rec st pe={ state:=st,pending:=pe,fn:=fn,tmps:=tm,params:=#[pt],assign:=assign,body:=body,defers:=B+3 }:=fun st pe=>by rw [hrec]
 have hJ:=hJ0 (rec .ready none)
 obtain ⟨W1,hW1⟩:∃ W1,(W0.alloc (.deferred (some []))).alloc (.loop (rec .ready none))=W1:=⟨_,rfl⟩
 rw [hW1] at hJ
 refine ⟨B+4,[{ target:=.collected (B+3),args:=#[] }],W1,
  { target:=.fn (.func 247) #[.pointer (some ⟨B+1,0,none⟩),.pointer (some ⟨B,0,none⟩),.pointer (some ⟨B+2,0,none⟩)],args:=#[.func (.yield (B+4)) #[] #[]] },W1,247,
  #[.func (.yield (B+4)) #[] #[],.pointer (some ⟨B+1,0,none⟩),.pointer (some ⟨B,0,none⟩),.pointer (some ⟨B+2,0,none⟩)],W1,?_,?_,fun _ _=>trivial,?_,fun h=>by simp [Fence.wide] at h,?_⟩
 ·have:=run_enterLoop_outer (P:=Tryz.prog) (w:=W0) fn tm #[pt] assign body
  rw [hsz,show B+3+1=B+4 from rfl,←hr,hW1] at this
  exact this
 ·simp only [resolve,hg]
  simp [go_sem]
 ·simp [invoke,go_sem,enters_of Tryz.func247 (by kernel_rfl) rfl]
 ·refine (K7 8 (B+4) B (B+1) (B+2) (fun r W=>GJ w B (rec .ready none) r W) (fun W=>∃ r,GJ w B (rec .done (some .ret)) r W) (fun r W h=>⟨h.s,h.sf,h.p,h.v⟩)
   (fun r r' W h=>h.write hB r') (fun r W W' h hb=>h.grow hB hb) (fun r W h=>htw.below h.below) ?_ r0 hr0 W1 hJ).mono ?_
  ·intro r W x hj hx
   have hy:=run_yield (P:=Tryz.prog) (args:=#[aG x]) hj.l (by rw [hr];rfl)
   rw [hr] at hy
   have hy2:(Instr.yield (B+4) #[aG x]).run Tryz.prog W=.ok (.round (B+4) fn (tm.setIfInBounds pt (aG x)) assign body) W:=by rw [hy];simp
   refine ⟨fn,_,assign,body,hy2,roundIn_of_wpIn hfn ?_⟩
   refine hassign _ (aG x) W _ ?_
   refine ⟨_,run_beginRound hj.l (by rw [hr]),?_⟩
   have hj2:=hj.turn hB ({ rec .ready none with state:=.busy })
   have hl2:=uO hj2.l
   have hl3:=Nat.lt_trans (show w.heap.size<B+4 by omega) hl2
   refine wpIn_mono (hbody _ x _ (htw.below hj2.below) hx hl3 hj2.res hj2.resf) ?_
   rintro e a3 W3 (⟨rfl,hn,hb3⟩|⟨rfl,hn,W2,hb2,rfl⟩)
   ·have hj3:=hj2.grow hB hb3
    have:=run_endRound (P:=Tryz.prog) none hj3.l
    refine ⟨_,_,this,.inl ⟨rfl,hn,?_⟩⟩
    have hj4:=hj3.turn hB (rec .ready none)
    rw [hr] at hj4
    rw [hr]
    exact hj4
   ·have hj3:=(hj2.grow hB hb2).mark hB
    have:=run_endRound (P:=Tryz.prog) (some .ret) hj3.l
    refine ⟨_,_,this,.inr ⟨rfl,hn,r,?_⟩⟩
    have hj4:=hj3.turn hB (rec .done (some .ret))
    simp only [hr] at hj4 ⊢
    exact hj4
  ·rintro e W2 ⟨⟨v,rfl⟩,(⟨ha,r,hj⟩|⟨ha,r,hj⟩)⟩
   ·have:=run_endLoop (P:=Tryz.prog) hj.l (by rw [hr];simp)
    exact ⟨_,_,this,by rw [hr];exact hdone _ _ r ha (hj.turn hB _)⟩
   ·have:=run_endLoop (P:=Tryz.prog) hj.l (by rw [hr];simp)
    exact ⟨_,_,this,by rw [hr];exact hstop _ _ r ha (hj.turn hB _)⟩
theorem wY {w w':World} {r:List UInt8} (hb:Below w.heap.size w w') (hB:w.heap.size<w'.heap.size) (c1:w'.cell? ⟨w.heap.size,0,none⟩=some (.bool false)) (c2:w'.frozen? ⟨w.heap.size,0,none⟩=false) (ta tb tc:TypeId) (rec:Loop) :
  GJ w w'.heap.size rec r (((((w'.alloc (.cells #[.string ⟨r.toArray⟩] ta)).alloc (.cells #[.string ⟨#[47]⟩] tb)).alloc (.cells #[.int .i64 0] tc)).alloc (.deferred (some []))).alloc (.loop rec)):=by
 obtain ⟨W1,h1⟩:∃ W1,w'.alloc (.cells #[.string ⟨r.toArray⟩] ta)=W1:=⟨_,rfl⟩
 have a1:=World.alloc_heap_new w' (.cells #[.string ⟨r.toArray⟩] ta)
 have s1:W1.heap.size=w'.heap.size+1:=by rw [←h1,World.size_alloc]
 have k1:∀ k,k<w'.heap.size→W1.heap[k]?=w'.heap[k]?:=fun k hk=>by rw [←h1];exact Below.heap_alloc _ _ _ hk
 rw [h1] at a1 ⊢
 obtain ⟨W2,h2⟩:∃ W2,W1.alloc (.cells #[.string ⟨#[47]⟩] tb)=W2:=⟨_,rfl⟩
 have a2:=World.alloc_heap_new W1 (.cells #[.string ⟨#[47]⟩] tb)
 have s2:W2.heap.size=w'.heap.size+2:=by rw [←h2,World.size_alloc,s1]
 have k2:∀ k,k<W1.heap.size→W2.heap[k]?=W1.heap[k]?:=fun k hk=>by rw [←h2];exact Below.heap_alloc _ _ _ hk
 rw [h2,s1] at a2
 rw [h2]
 obtain ⟨W3,h3⟩:∃ W3,W2.alloc (.cells #[.int .i64 0] tc)=W3:=⟨_,rfl⟩
 have a3:=World.alloc_heap_new W2 (.cells #[.int .i64 0] tc)
 have s3:W3.heap.size=w'.heap.size+3:=by rw [←h3,World.size_alloc,s2]
 have k3:∀ k,k<W2.heap.size→W3.heap[k]?=W2.heap[k]?:=fun k hk=>by rw [←h3];exact Below.heap_alloc _ _ _ hk
 rw [h3,s2] at a3
 rw [h3]
 obtain ⟨W4,h4⟩:∃ W4,W3.alloc (.deferred (some []))=W4:=⟨_,rfl⟩
 have a4:=World.alloc_heap_new W3 (.deferred (some []))
 have s4:W4.heap.size=w'.heap.size+4:=by rw [←h4,World.size_alloc,s3]
 have k4:∀ k,k<W3.heap.size→W4.heap[k]?=W3.heap[k]?:=fun k hk=>by rw [←h4];exact Below.heap_alloc _ _ _ hk
 rw [h4,s3] at a4
 rw [h4]
 obtain ⟨W5,h5⟩:∃ W5,W4.alloc (.loop rec)=W5:=⟨_,rfl⟩
 have a5:=World.alloc_heap_new W4 (.loop rec)
 have s5:W5.heap.size=w'.heap.size+5:=by rw [←h5,World.size_alloc,s4]
 have k5:∀ k,k<W4.heap.size→W5.heap[k]?=W4.heap[k]?:=fun k hk=>by rw [←h5];exact Below.heap_alloc _ _ _ hk
 rw [h5,s4] at a5
 rw [h5]
 have hbb:Below w'.heap.size w' W5:=by
  rw [←h5,←h4,←h3,←h2,←h1]
  exact (((((Below.refl _ w').alloc (Nat.le_refl _) _).alloc (by simp) _).alloc (by simp;omega) _).alloc (by simp;omega) _).alloc (by simp;omega) _
 have hk:∀ k,k<w'.heap.size→W5.heap[k]?=w'.heap[k]?:=fun k hk=>hbb.block k hk
 have e0:W5.heap[w'.heap.size]?=some (.cells #[.string ⟨r.toArray⟩] ta):=by rw [k5 _ (by omega),k4 _ (by omega),k3 _ (by omega),k2 _ (by omega)];exact a1
 have e1:W5.heap[w'.heap.size+1]?=some (.cells #[.string ⟨#[47]⟩] tb):=by rw [k5 _ (by omega),k4 _ (by omega),k3 _ (by omega)];exact a2
 have e2:W5.heap[w'.heap.size+2]?=some (.cells #[.int .i64 0] tc):=by rw [k5 _ (by omega),k4 _ (by omega)];exact a3
 exact ⟨hb.trans (hbb.mono (by omega)),by rw [World.cell?_of_block (hk _ hB)];exact c1,by rw [World.frozen?_of_block (hk _ hB)];exact c2,
  by rw [aL e0];rfl,by rw [gj e0];rfl,by rw [aL e1];rfl,by rw [aL e2];rfl,by rw [k5 _ (by omega)];exact a4,a5⟩
theorem kv (tmps:Array Value) (W:World) (b:Nat) (v:Bool) (ht:tmps.getD 2 undef=.pointer (some ⟨b,0,none⟩)) (hc:W.cell? ⟨b,0,none⟩=some (.bool v)):(results Tryz.f78 tmps).run Tryz.prog W=.ok (.bool v) W:=by
 rw [rF,Tryz.results78]
 simp [lS,ht,go_sem,hc]
theorem wD (W:World) (v:Value) (t:TypeId):(W.alloc (.cells #[v] t)).cell? ⟨W.heap.size,0,none⟩=some v∧(W.alloc (.cells #[v] t)).frozen? ⟨W.heap.size,0,none⟩=false:=by
 have e:=World.alloc_heap_new W (.cells #[v] t)
 exact ⟨by rw [aL e];rfl,by rw [gj e];rfl⟩
set_option maxHeartbeats 4000000 in
theorem IV (s:List UInt8) (h:okS s) (w:World) (htw:d7 w):CallsIn Fence.wide 9 Tryz.prog 78 #[.string ⟨s.toArray⟩] w fun e w'=>e=.returned (.bool (bw s))∧Below w.heap.size w w':=by
 refine callsIn_of_wp_marks Tryz.func78 rfl trivial ?_ rfl
 simp only [Tryz.ntmps78,List.size_toArray,List.length_cons,List.length_nil,Nat.reduceAdd,Nat.reduceSub,Array.replicate_succ,Array.replicate_zero,List.push_toArray,List.append_toArray,List.nil_append,List.cons_append]
 have hA:=wD w (.bool false) 4
 have hB:=wD w (.bool true) 4
 have hbA:Below w.heap.size w (w.alloc (.cells #[.bool false] 4)):=(Below.refl _ w).alloc (Nat.le_refl _) _
 have hbB:Below w.heap.size w (w.alloc (.cells #[.bool true] 4)):=(Below.refl _ w).alloc (Nat.le_refl _) _
 by_cases h1:s=[47]
 ·subst h1
  gi_wp2
  exact ⟨_,kv _ _ w.heap.size true rfl hB.1,rfl,hbB⟩
 have g1:bw s=(decide (s.length≤200)&&(decide (1≤s.length∧s.take 1=[47])&&cb (s.drop 1))):=by unfold bw;rw [decide_eq_false h1,Bool.false_or]
 by_cases h2:200<s.length
 ·have g2:bw s=false:=by rw [g1,decide_eq_false (by omega),Bool.false_and]
  gi_wp2
  ·rename_i hx;exact absurd (by simpa using hx) h1
  ·refine ⟨trivial,?_⟩
   gi_wp2
   exact ⟨_,kv _ _ w.heap.size false rfl hA.1,by rw [g2],hbA⟩
 ·have g2:bw s=(decide (1≤s.length∧s.take 1=[47])&&cb (s.drop 1)):=by rw [g1,decide_eq_true (by omega),Bool.true_and]
  gi_wp2
  ·rename_i hx;exact absurd (by simpa using hx) h1
  refine ⟨trivial,(callsIn_wide.2 (uI s h _ (htw.below hbA))).mono ?_⟩
  rintro e w' ⟨rfl,hbl⟩
  have hbl':=hbA.trans (hbl.mono hbA.size)
  have c1:w'.cell? ⟨w.heap.size,0,none⟩=some (.bool false):=by rw [hbl.cell (by simp)];exact hA.1
  have c2:w'.frozen? ⟨w.heap.size,0,none⟩=false:=by rw [hbl.frozen (by simp)];exact hA.2
  have hszB:w.heap.size<w'.heap.size:=by have:=hbl.size;simp at this;omega
  by_cases h3:1≤s.length∧s.take 1=[47]
  ·have g3:bw s=cb s.tail:=by rw [g2,decide_eq_true h3,Bool.true_and,List.drop_one]
   rw [decide_eq_true h3]
   have e1:(⟨s.toArray⟩:ByteArray).extract 1 s.length=⟨s.tail.toArray⟩:=by rw [gU,List.take_of_length_le (by simp),List.drop_one]
   gi_wp2
   refine ⟨trivial,(callsIn_wide.2 (yS s.tail w')).mono ?_⟩
   rintro e w2 ⟨rfl,ta,tb,tc,rfl⟩
   gi_wp2
   refine xY (w:=w) (B:=w'.heap.size) (fun x=>{ tmps:=#[.string ⟨s.toArray⟩,undef,.pointer (some ⟨w.heap.size,0,none⟩),x,.string ⟨s.toArray⟩,.bool false,.string ⟨s.toArray⟩,.int .i64 s.length,.bool (decide (200<(s.length:Int))),.bool (decide (200<(s.length:Int))),.string ⟨s.toArray⟩,.bool true,.bool false,.bool (decide (200<(s.length:Int))),.string ⟨s.toArray⟩,.string ⟨s.tail.toArray⟩,.func (.func 247) #[] #[.pointer (some ⟨w'.heap.size+1,0,none⟩),.pointer (some ⟨w'.heap.size,0,none⟩),.pointer (some ⟨w'.heap.size+2,0,none⟩)],x,undef,undef,undef],defers:=[] })
    hszB htw rfl s.tail (by simp;omega) (by simp [World.size_alloc]) (fun rec=>wY hbl' hszB c1 c2 _ _ _ _) ?_ ?_ ?_ ?_
   ·intro l x W K hK
    gi_wp2
    exact hK
   ·intro l x W htW hx hlt q1 q2
    gi_wp2
    refine ⟨trivial,((callsIn_wide.2 (xi x hx W htW)).inRound l).mono ?_⟩
    rintro e w3 ⟨rfl,hb3⟩
    have u1:w3.cell? ⟨w.heap.size,0,none⟩=some (.bool false):=by rw [hb3.cell (by simp only;omega)];exact q1
    have u2:w3.frozen? ⟨w.heap.size,0,none⟩=false:=by rw [hb3.frozen (by simp only;omega)];exact q2
    by_cases hn:a8 x=true
    ·rw [hn]
     gi_wp2
    ·rw [Bool.not_eq_true] at hn
     rw [hn]
     gi_wp2
     exact ⟨w3,hb3,rfl⟩
   ·intro W rec r ha hj
    have r1:=hj.res
    have r2:=hj.resf
    gi_wp2
    refine ⟨by simp,.inl ⟨_,_,rfl,run_takeDeferred (ds:=[]) (by rw [Below.heap_setCell _ _ _ _ (by simp only;omega)];exact hj.d),?_⟩⟩
    refine ⟨_,kv _ _ w.heap.size true rfl ?_,by rw [g3,ha],?_⟩
    ·rw [World.cell?_of_block (World.putObj_heap_other (by simp only;omega))]
     exact World.cell?_setCell_same' _ _ _ (by rw [r1];rfl)
    ·exact (hj.below.setCell (by simp) _).trans ⟨rfl,rfl,rfl,by simp,fun k hk=>World.putObj_heap_other (by omega)⟩
   ·intro W rec r ha hj
    gi_wp2
    refine ⟨by simp,.inl ⟨_,_,rfl,run_takeDeferred (ds:=[]) hj.d,?_⟩⟩
    refine ⟨_,kv _ _ w.heap.size false rfl ?_,by rw [g3,ha],?_⟩
    ·rw [World.cell?_of_block (World.putObj_heap_other (by simp only;omega))]
     exact hj.res
    ·exact hj.below.trans ⟨rfl,rfl,rfl,by simp,fun k hk=>World.putObj_heap_other (by omega)⟩
  ·have g3:bw s=false:=by rw [g2,decide_eq_false h3,Bool.false_and]
   rw [decide_eq_false h3]
   gi_wp2
   exact ⟨_,kv _ _ w.heap.size false rfl (World.cell?_setCell_same' _ _ _ (by rw [c1];rfl)),by rw [g3],hbl'.setCell (by simp) _⟩
theorem kj {P:Program} {g:FuncId} {xs:List AV} {x:AV} {us:List Value} {u:Value} (hg:goFn P g) (hxs:fj xs=some us) (hx:aW x=some u)
  (h:∀ w:World,d7 w→Calls P g us.toArray w fun e w'=>e=.returned u∧Below w.heap.size w w'):ab P [] g xs (ret x):=by
 refine ⟨hg,fun E w vs hw hH hvs=>?_⟩
 have e:vs=us:=by
  obtain ⟨h1,h2⟩:=eO hxs
  refine List.ext_getElem? fun j=>?_
  by_cases hj:j<xs.length
  ·obtain ⟨u',hu,hs⟩:=h2 j _ (List.getElem?_eq_getElem hj)
   have hv:vs[j]?=some (vs[j]'(by rw [hvs.1];exact hj)):=List.getElem?_eq_getElem _
   rw [hv,hu,pH (hvs.2 j _ _ (List.getElem?_eq_getElem hj) hv) u' hs]
  ·rw [List.getElem?_eq_none (by rw [hvs.1];omega),List.getElem?_eq_none (by omega)]
 subst e
 refine (h w (hw▸E.hT)).mono fun e w' ⟨h1,h2⟩=>?_
 have h0:E.ρ0=[]:=List.eq_nil_of_length_eq_zero (by rw [hH.len];rfl)
 refine ⟨u,x,[],[],h1,⟨rfl,rfl⟩,?_,fun k p hk=>?_,ka x u hx⟩
 ·rw [h0] at hH;exact hH.below h2
 ·rw [h0] at hk;exact hk
theorem good_c (s:List UInt8) (h:okS s):ab Tryz.prog [] 78 [S s] (ret (B (bw s))):=
 kj ⟨_,Tryz.func78,by kernel_rfl,by kernel_rfl⟩ rfl rfl fun w ht=>callsIn_wide.1 (IV s h w ht)
def dig (n:Nat):UInt8:=UInt8.ofNat (48+n%10)
def uF (k n:Nat):List UInt8:=(List.range k).map fun i=>dig (n/10^(k-1-i))
theorem CO (n:Nat):(dig n).toNat=48+n%10:=by unfold dig;rw [UInt8.toNat_ofNat'];omega
theorem Ez (n:Nat):IntKind.u8.wrap (48+((n%10:Nat):Int))=((dig n).toNat:Int):=by
 rw [CO];simp [IntKind.wrap,IntKind.bits,IntKind.signed];omega
theorem KB (n:Nat):(n:Int).tmod 10=((n%10:Nat):Int):=by rw [Int.tmod_eq_emod_of_nonneg (by omega)];omega
theorem KP (n:Nat):(n:Int).tdiv 10=((n/10:Nat):Int):=by rw [Int.tdiv_eq_ediv_of_nonneg (by omega)];omega
theorem BN (b:UInt8):AA [[.int .u8 (b.toNat:Int)]]=True:=eq_true (rr [b])
theorem lr (n:Nat):((n:Int)-1).toNat=n-1:=by omega
-- @Wshort
def sy (e c:Int):Prop:=e<0∨2147483647<e∨c<0∨2147483647<c
instance (e c:Int):Decidable (sy e c):=by unfold sy;infer_instance
def mkZ (e c:Int):Int×Int:=if sy e c then (0,3) else (e*2147483648+c,0)
def two (p:Int×Int):AV:=.tup [I p.1,I p.2]
theorem iB (a:Nat) (ha:a<9223372036854775808):(BitVec.ofInt 64 (a:Int)).toNat=a:=by
 rw [BitVec.ofInt_natCast,BitVec.toNat_ofNat];exact Nat.mod_eq_of_lt (by omega)
theorem KH (e c:Nat) (he:e≤2147483647) (hc:c≤2147483647):bits .or .i64 ((e:Int)*2147483648) (c:Int)=(e:Int)*2147483648+c:=by
 have e1:((e:Int)*2147483648)=((e*2147483648:Nat):Int):=by omega
 have hx:e*2147483648 ||| c=e*2147483648+c:=by
  have h:=Nat.shiftLeft_add_eq_or_of_lt (i:=31) (b:=c) (by omega:c<2^31) e
  rw [Nat.shiftLeft_eq] at h
  exact h.symm
 rw [e1]
 show IntKind.i64.wrap ((BitVec.ofInt 64 ((e*2147483648:Nat):Int) ||| BitVec.ofInt 64 (c:Int)).toNat:Int)=_
 rw [BitVec.toNat_or,iB _ (by omega),iB c (by omega),hx,IntKind.wrap_i64]
 omega
theorem z6 (e c:Int):ab Tryz.prog [] 145 [I e,I c] (ret (two (mkZ e c))):=by
 refine zJ Tryz.func145 Tryz.ntmps145 Tryz.results145 ?_;simp only [go_sem]
 repeat' first
  |with_reducible refine AWP.seq ?_
  |with_reducible refine ll ?_
  |with_reducible refine ls ?_
  |with_reducible refine k9 ?_
  |with_reducible refine oI ?_
  |with_reducible refine oG ?_
  |with_reducible refine oD ?_
  |with_reducible refine ap (by decide) ?_
  |with_reducible refine AWP.skip ?_
  |with_reducible refine AWP.ret ?_
  |with_reducible refine AWP.exit ?_
  |with_reducible refine AWP.block ?_
  |(with_reducible refine AWP.cond rfl ?_ ?_<;>intro _)
  |(with_reducible refine AWP.region bQ ?_;intro K hK;simp only [go_sem,true_and];(repeat' with_reducible apply And.intro)<;>(try (with_reducible refine hK _ ?_;clear hK K)))
  |(with_reducible refine AWP.quiet mixed bQ (by kernel_rfl) ?_;intro K hK;simp only [go_sem,true_and];(repeat' with_reducible apply And.intro)<;>(try (with_reducible refine hK _ ?_;clear hK K)))
  |(intro hg;first|(exfalso;simp at hg;done)|((try simp only [hg,go_sem,true_and])<;>(repeat' with_reducible refine And.intro ?_ ?_)<;>(try (with_reducible refine hK _ ?_;clear hK K))))
  |omega
 all_goals try (refine ja ?_ rfl ?_ ?_ ?_ ?_;(focus (first|exact .inl rfl|exact .inr rfl));(focus (simp only [go_sem,two];first|done|omega));(focus (simp only [go_sem,two];done));(focus (simp only [go_sem,two];done));simp only [go_sem,two,I,B,S,AV.d.injEq,DV.int.injEq,DV.bool.injEq,DV.str.injEq,DV.sl.injEq,AV.tup.injEq,AV.agg.injEq,List.cons.injEq,and_true,true_and,and_self])
 ·rename_i h
  have hb:sy e c:=by unfold sy;simp only [Bool.or_eq_true,decide_eq_true_eq] at h;omega
  simp [mkZ,if_pos hb]
 ·rename_i h
  simp only [Bool.or_eq_false_iff,decide_eq_false_iff_not] at h
  have hb:¬ sy e c:=by unfold sy;omega
  obtain ⟨n,rfl⟩:=Int.eq_ofNat_of_zero_le (show 0≤e by omega)
  obtain ⟨m,rfl⟩:=Int.eq_ofNat_of_zero_le (show 0≤c by omega)
  rw [ve _ ⟨by omega,by omega⟩,KH n m (by omega) (by omega)]
  simp [mkZ,if_neg hb]
def bR (z:Int):Prop:=0≤z∧z<4611686018427387904
instance (z:Int):Decidable (bR z):=by unfold bR;infer_instance
def epZ (z:Int):Int:=if bR z then z/2147483648 else 0
def coZ (z:Int):Int:=if bR z then z%2147483648 else 0
theorem zgood_c (z:Int):ab Tryz.prog [] 77 [I z] (ret (B (decide (bR z)))):=by
 refine zJ Tryz.func77 Tryz.ntmps77 Tryz.results77 ?_;simp only [go_sem]
 repeat' first
  |with_reducible refine AWP.seq ?_
  |with_reducible refine ll ?_
  |with_reducible refine ls ?_
  |with_reducible refine k9 ?_
  |with_reducible refine oI ?_
  |with_reducible refine oG ?_
  |with_reducible refine oD ?_
  |with_reducible refine ap (by decide) ?_
  |with_reducible refine AWP.skip ?_
  |with_reducible refine AWP.ret ?_
  |with_reducible refine AWP.exit ?_
  |with_reducible refine AWP.block ?_
  |(with_reducible refine AWP.cond rfl ?_ ?_<;>intro _)
  |(with_reducible refine AWP.region bQ ?_;intro K hK;simp only [go_sem,true_and];(repeat' with_reducible apply And.intro)<;>(try (with_reducible refine hK _ ?_;clear hK K)))
  |(with_reducible refine AWP.quiet mixed bQ (by kernel_rfl) ?_;intro K hK;simp only [go_sem,true_and];(repeat' with_reducible apply And.intro)<;>(try (with_reducible refine hK _ ?_;clear hK K)))
  |(intro hg;first|(exfalso;simp at hg;done)|((try simp only [hg,go_sem,true_and])<;>(repeat' with_reducible refine And.intro ?_ ?_)<;>(try (with_reducible refine hK _ ?_;clear hK K))))
  |omega
 all_goals try (refine ja ?_ rfl ?_ ?_ ?_ ?_;(focus (first|exact .inl rfl|exact .inr rfl));(focus (simp only [go_sem,two];first|done|omega));(focus (simp only [go_sem,two];done));(focus (simp only [go_sem,two];done));simp only [go_sem,two,I,B,S,AV.d.injEq,DV.int.injEq,DV.bool.injEq,DV.str.injEq,DV.sl.injEq,AV.tup.injEq,AV.agg.injEq,List.cons.injEq,and_true,true_and,and_self])
 unfold bR;exact (Bool.decide_and _ _).symm
theorem epoch_c (z:Int):ab Tryz.prog [] 87 [I z] (ret (I (epZ z))):=by
 refine zJ Tryz.func87 Tryz.ntmps87 Tryz.results87 ?_;simp only [go_sem]
 repeat' first
  |with_reducible refine AWP.seq ?_
  |with_reducible refine ll ?_
  |with_reducible refine ls ?_
  |with_reducible refine k9 ?_
  |with_reducible refine oI ?_
  |with_reducible refine oG ?_
  |with_reducible refine oD ?_
  |with_reducible refine ap (by decide) ?_
  |with_reducible refine AWP.skip ?_
  |with_reducible refine AWP.ret ?_
  |with_reducible refine AWP.exit ?_
  |with_reducible refine AWP.block ?_
  |(with_reducible refine AWP.cond rfl ?_ ?_<;>intro _)
  |(with_reducible refine AWP.region bQ ?_;intro K hK;simp only [go_sem,true_and];(repeat' with_reducible apply And.intro)<;>(try (with_reducible refine hK _ ?_;clear hK K)))
  |(with_reducible refine AWP.quiet mixed bQ (by kernel_rfl) ?_;intro K hK;simp only [go_sem,true_and];(repeat' with_reducible apply And.intro)<;>(try (with_reducible refine hK _ ?_;clear hK K)))
  |(refine acallH_sc (zgood_c _) rfl rfl (by simp only [go_sem,true_and]) (by simp only [go_sem,true_and]) ?_<;>(try simp only [go_sem,true_and])<;>(repeat' with_reducible refine And.intro ?_ ?_)<;>(try (with_reducible refine hK _ ?_;clear hK K)))
  |(refine acallQ_sc (zgood_c _) rfl rfl (by simp only [go_sem,true_and]) (by simp only [go_sem,true_and]) ?_<;>(try simp only [go_sem,true_and])<;>(repeat' with_reducible refine And.intro ?_ ?_)<;>(try (with_reducible refine hK _ ?_;clear hK K)))
  |(refine lu (zgood_c _) rfl (by simp only [go_sem,true_and]) (by simp only [go_sem,true_and]) (by simp only [go_sem,true_and]) ?_<;>(try simp only [go_sem,true_and])<;>(repeat' with_reducible refine And.intro ?_ ?_)<;>(try (with_reducible refine hK _ ?_;clear hK K)))
  |(intro hg;first|(exfalso;simp at hg;done)|((try simp only [hg,go_sem,true_and])<;>(repeat' with_reducible refine And.intro ?_ ?_)<;>(try (with_reducible refine hK _ ?_;clear hK K))))
  |omega
 all_goals try (refine ja ?_ rfl ?_ ?_ ?_ ?_;(focus (first|exact .inl rfl|exact .inr rfl));(focus (simp only [go_sem,true_and];first|done|omega));(focus (simp only [go_sem,true_and];done));(focus (simp only [go_sem,true_and];done));simp only [go_sem,true_and,I,B,S,AV.d.injEq,DV.int.injEq,DV.bool.injEq,DV.str.injEq,DV.sl.injEq,AV.tup.injEq,AV.agg.injEq,List.cons.injEq,and_true,true_and,and_self])
 all_goals (rename_i h;simp at h;simp [epZ,h])
theorem Hl (z:Int) (h:bR z):bits .and .i64 z 2147483647=z%2147483648:=by
 unfold bR at h
 obtain ⟨n,rfl⟩:=Int.eq_ofNat_of_zero_le h.1
 show IntKind.i64.wrap ((BitVec.ofInt 64 (n:Int) &&& BitVec.ofInt 64 ((2147483647:Nat):Int)).toNat:Int)=_
 rw [BitVec.toNat_and,iB _ (by omega),iB _ (by omega),show (2147483647:Nat)=2^31-1 from rfl,Nat.and_two_pow_sub_one_eq_mod,IntKind.wrap_i64]
 omega
theorem pP (z:Int):ab Tryz.prog [] 225 [I z] (ret (I (coZ z))):=by
 refine zJ Tryz.func225 Tryz.ntmps225 Tryz.results225 ?_;simp only [go_sem]
 repeat' first
  |with_reducible refine AWP.seq ?_
  |with_reducible refine ll ?_
  |with_reducible refine ls ?_
  |with_reducible refine k9 ?_
  |with_reducible refine oI ?_
  |with_reducible refine oG ?_
  |with_reducible refine oD ?_
  |with_reducible refine ap (by decide) ?_
  |with_reducible refine AWP.skip ?_
  |with_reducible refine AWP.ret ?_
  |with_reducible refine AWP.exit ?_
  |with_reducible refine AWP.block ?_
  |(with_reducible refine AWP.cond rfl ?_ ?_<;>intro _)
  |(with_reducible refine AWP.region bQ ?_;intro K hK;simp only [go_sem,true_and];(repeat' with_reducible apply And.intro)<;>(try (with_reducible refine hK _ ?_;clear hK K)))
  |(with_reducible refine AWP.quiet mixed bQ (by kernel_rfl) ?_;intro K hK;simp only [go_sem,true_and];(repeat' with_reducible apply And.intro)<;>(try (with_reducible refine hK _ ?_;clear hK K)))
  |(refine acallH_sc (zgood_c _) rfl rfl (by simp only [go_sem,true_and]) (by simp only [go_sem,true_and]) ?_<;>(try simp only [go_sem,true_and])<;>(repeat' with_reducible refine And.intro ?_ ?_)<;>(try (with_reducible refine hK _ ?_;clear hK K)))
  |(refine acallQ_sc (zgood_c _) rfl rfl (by simp only [go_sem,true_and]) (by simp only [go_sem,true_and]) ?_<;>(try simp only [go_sem,true_and])<;>(repeat' with_reducible refine And.intro ?_ ?_)<;>(try (with_reducible refine hK _ ?_;clear hK K)))
  |(refine lu (zgood_c _) rfl (by simp only [go_sem,true_and]) (by simp only [go_sem,true_and]) (by simp only [go_sem,true_and]) ?_<;>(try simp only [go_sem,true_and])<;>(repeat' with_reducible refine And.intro ?_ ?_)<;>(try (with_reducible refine hK _ ?_;clear hK K)))
  |(intro hg;first|(exfalso;simp at hg;done)|((try simp only [hg,go_sem,true_and])<;>(repeat' with_reducible refine And.intro ?_ ?_)<;>(try (with_reducible refine hK _ ?_;clear hK K))))
  |omega
 all_goals try (refine ja ?_ rfl ?_ ?_ ?_ ?_;(focus (first|exact .inl rfl|exact .inr rfl));(focus (simp only [go_sem,true_and];first|done|omega));(focus (simp only [go_sem,true_and];done));(focus (simp only [go_sem,true_and];done));simp only [go_sem,true_and,I,B,S,AV.d.injEq,DV.int.injEq,DV.bool.injEq,DV.str.injEq,DV.sl.injEq,AV.tup.injEq,AV.agg.injEq,List.cons.injEq,and_true,true_and,and_self])
 ·rename_i h;simp at h;simp [coZ,h]
 ·rename_i h;simp at h;simp [coZ,h,Hl]
def lz (z:Int):Int×Int:=if bR z then (if z%2147483648=2147483647 then (0,6) else (z+1,0)) else (0,3)
theorem KO (z:Int):ab Tryz.prog [] 174 [I z] (ret (two (lz z))):=by
 refine zJ Tryz.func174 Tryz.ntmps174 Tryz.results174 ?_;simp only [go_sem]
 repeat' first
  |with_reducible refine AWP.seq ?_
  |with_reducible refine ll ?_
  |with_reducible refine ls ?_
  |with_reducible refine k9 ?_
  |with_reducible refine oI ?_
  |with_reducible refine oG ?_
  |with_reducible refine oD ?_
  |with_reducible refine ap (by decide) ?_
  |with_reducible refine AWP.skip ?_
  |with_reducible refine AWP.ret ?_
  |with_reducible refine AWP.exit ?_
  |with_reducible refine AWP.block ?_
  |(with_reducible refine AWP.cond rfl ?_ ?_<;>intro _)
  |(with_reducible refine AWP.region bQ ?_;intro K hK;simp only [go_sem,true_and];(repeat' with_reducible apply And.intro)<;>(try (with_reducible refine hK _ ?_;clear hK K)))
  |(with_reducible refine AWP.quiet mixed bQ (by kernel_rfl) ?_;intro K hK;simp only [go_sem,true_and];(repeat' with_reducible apply And.intro)<;>(try (with_reducible refine hK _ ?_;clear hK K)))
  |(refine acallH_sc (zgood_c _) rfl rfl (by simp only [go_sem,true_and]) (by simp only [go_sem,true_and]) ?_<;>(try simp only [go_sem,true_and])<;>(repeat' with_reducible refine And.intro ?_ ?_)<;>(try (with_reducible refine hK _ ?_;clear hK K)))
  |(refine acallQ_sc (zgood_c _) rfl rfl (by simp only [go_sem,true_and]) (by simp only [go_sem,true_and]) ?_<;>(try simp only [go_sem,true_and])<;>(repeat' with_reducible refine And.intro ?_ ?_)<;>(try (with_reducible refine hK _ ?_;clear hK K)))
  |(refine lu (zgood_c _) rfl (by simp only [go_sem,true_and]) (by simp only [go_sem,true_and]) (by simp only [go_sem,true_and]) ?_<;>(try simp only [go_sem,true_and])<;>(repeat' with_reducible refine And.intro ?_ ?_)<;>(try (with_reducible refine hK _ ?_;clear hK K)))
  |(refine acallH_sc (pP _) rfl rfl (by simp only [go_sem,true_and]) (by simp only [go_sem,true_and]) ?_<;>(try simp only [go_sem,true_and])<;>(repeat' with_reducible refine And.intro ?_ ?_)<;>(try (with_reducible refine hK _ ?_;clear hK K)))
  |(refine acallQ_sc (pP _) rfl rfl (by simp only [go_sem,true_and]) (by simp only [go_sem,true_and]) ?_<;>(try simp only [go_sem,true_and])<;>(repeat' with_reducible refine And.intro ?_ ?_)<;>(try (with_reducible refine hK _ ?_;clear hK K)))
  |(refine lu (pP _) rfl (by simp only [go_sem,true_and]) (by simp only [go_sem,true_and]) (by simp only [go_sem,true_and]) ?_<;>(try simp only [go_sem,true_and])<;>(repeat' with_reducible refine And.intro ?_ ?_)<;>(try (with_reducible refine hK _ ?_;clear hK K)))
  |(intro hg;first|(exfalso;simp at hg;done)|((try simp only [hg,go_sem,true_and])<;>(repeat' with_reducible refine And.intro ?_ ?_)<;>(try (with_reducible refine hK _ ?_;clear hK K))))
  |omega
 all_goals try (refine ja ?_ rfl ?_ ?_ ?_ ?_;(focus (first|exact .inl rfl|exact .inr rfl));(focus (simp only [go_sem,two];first|done|omega));(focus (simp only [go_sem,two];done));(focus (simp only [go_sem,two];done));simp only [go_sem,two,I,B,S,AV.d.injEq,DV.int.injEq,DV.bool.injEq,DV.str.injEq,DV.sl.injEq,AV.tup.injEq,AV.agg.injEq,List.cons.injEq,and_true,true_and,and_self])
 ·rename_i h;simp at h;simp [lz,h]
 ·rename_i h2 h;simp at h h2;simp [coZ,h2] at h;simp [lz,h,h2]
 ·rename_i h2 h;simp at h h2;simp [coZ,h2] at h;simp [lz,h,h2]
  unfold bR at h2
  exact ve _ ⟨by omega,by omega⟩
def iE (c:UInt8):Bool:=decide (48≤c.toNat∧c.toNat≤57)
def valS (t:List UInt8):Nat:=t.foldl (fun n c=>n*10+(c.toNat-48)) 0
theorem C8 (t:List UInt8) (k:Nat) (h:k<t.length):valS (t.take (k+1))=valS (t.take k)*10+((t.getD k 0).toNat-48):=by
 unfold valS
 have:t.take (k+1)=t.take k++[t.getD k 0]:=cD t k h
 rw [this,List.foldl_append];rfl
theorem Jy (t:List UInt8):t.all iE=true→valS t<10^t.length:=by
 have:∀ (t:List UInt8) (n:Nat),t.all iE=true→t.foldl (fun n c=>n*10+(c.toNat-48)) n<(n+1)*10^t.length:=by
  intro t
  induction t with
  |nil=>intro n _;simp
  | cons c t ih=>
    intro n h
    simp only [List.all_cons,Bool.and_eq_true] at h
    have hc:=h.1
    unfold iE at hc
    rw [decide_eq_true_eq] at hc
    have:=ih (n*10+(c.toNat-48)) h.2
    simp only [List.foldl_cons,List.length_cons,Nat.pow_succ]
    refine Nat.lt_of_lt_of_le this ?_
    have e:(n+1)*(10^t.length*10)=((n+1)*10)*10^t.length:=by rw [Nat.mul_comm (10^t.length) 10,Nat.mul_assoc]
    rw [e]
    exact Nat.mul_le_mul_right _ (by omega)
 intro h
 have:=this t 0 h
 simpa [valS] using this
def gB (t:List UInt8):Bool:=!decide (t=[])&&(decide (t.length≤10)&&(!(decide (1<t.length)&&decide (((t.getD 0 0).toNat:Int)=48))&&t.all iE))
def fW (t:List UInt8):Int×Bool:=if gB t=true then ((valS t:Nat),true) else (0,false)
def fZ (s:List UInt8) (c:UInt8):(List UInt8×List UInt8)×Bool:=if 0≤Lib.indexByte s c then ((s.take (Lib.indexByte s c).toNat,s.drop ((Lib.indexByte s c).toNat+1)),true) else ((s,[]),false)
theorem GA (s:List UInt8) (c:UInt8):Lib.indexByte s c<s.length:=by
 induction s with
 |nil=>simp [Lib.indexByte]
 | cons b s ih=>
   unfold Lib.indexByte
   split
   ·simp
   ·split<;>simp<;>omega
theorem ry {α:Type} (l:List α) (k:Nat):List.take (l.length-k) (List.drop k l)=List.drop k l:=List.take_of_length_le (by simp)
theorem Cb (n:Nat):((n:Int)+1).toNat=n+1:=by omega
theorem Ks (s:List UInt8) (c:UInt8) (hs:okS s):ab Tryz.prog [] 205 [S s,S [c]] (ret (.tup [S (fZ s c).1.1,S (fZ s c).1.2,B (fZ s c).2])):=by
 unfold okS at hs
 have hi:=GA s c
 by_cases h:0≤Lib.indexByte s c
 ·obtain ⟨n,hn⟩:=Int.eq_ofNat_of_zero_le h
  have e:fZ s c=((s.take n,s.drop (n+1)),true):=by unfold fZ;rw [if_pos h,hn];rfl
  rw [hn] at hi
  rw [e]
  refine zJ Tryz.func205 Tryz.ntmps205 Tryz.results205 ?_;simp only [go_sem]
  (refine zW qw (z1 ((qv s c).re (by rw [hn]))) (zx @Cb (zx @ry @Nat.sub_zero)) (z1 ?_)<;>(repeat with_reducible intro hc))
  exact zEe trivial
 ·have e:fZ s c=((s,[]),false):=by unfold fZ;rw [if_neg h]
  rw [e]
  have hi2:=Lib.indexByte_ge s c
  have hn:Lib.indexByte s c=-1:=by omega
  refine zJ Tryz.func205 Tryz.ntmps205 Tryz.results205 ?_;simp only [go_sem]
  (refine zW qw (z1 ((qv s c).re (by rw [hn]))) trivial (z1 ?_)<;>(repeat with_reducible intro hc))
  exact zEe trivial
theorem KQ (s:List UInt8) (c:UInt8) (hs:okS s):ab Tryz.prog [] 143 [S s,S [c]] (ret (.tup [S (fZ s c).1.1,S (fZ s c).1.2,B (fZ s c).2])):=by
 refine zJ Tryz.func143 Tryz.ntmps143 Tryz.results143 ?_;simp only [go_sem]
 (refine zW qw (z1 (Ks s c hs)) trivial (z1 ?_)<;>(repeat with_reducible intro hc))
 exact zEe trivial
theorem Hg (c:UInt8) (h:48≤c.toNat):IntKind.u8.wrap ((c.toNat:Int)-48)=((c.toNat-48:Nat):Int):=by
 have:=c.toNat_lt
 simp [IntKind.wrap,IntKind.bits,IntKind.signed];omega
theorem JA {t:List UInt8} (h:t.all iE=true) (hl:t.length≤10):valS t≤9999999999:=by
 have:=Jy t h
 have h2:10^t.length≤10^10:=Nat.pow_le_pow_right (by decide) hl
 omega
theorem Be (t:List UInt8) (ht:okS t):ab Tryz.prog [] 144 [S t] (ret (.tup [I (fW t).1,B (fW t).2])):=by
 unfold okS at ht
 refine zJ Tryz.func144 Tryz.ntmps144 Tryz.results144 ?_;simp only [go_sem]
 (refine zW qw zn trivial (z2 ?_ ?_)<;>(repeat with_reducible intro hc))
 ·have e:fW t=(0,false):=by
   unfold fW
   rw [if_neg]
   unfold gB
   rcases hc with (c|c)|c
   ·simp [c]
   ·rw [decide_eq_false (p:=t.length≤10) (by omega)];simp
   ·rw [decide_eq_true (p:=1<t.length) (by omega),decide_eq_true c.2];simp
  rw [e]
  exact zEe trivial
 have hsm:gB t=t.all iE:=by
  unfold gB
  rw [decide_eq_false hc.1.1,decide_eq_true (p:=t.length≤10) (by omega)]
  rcases hc.2 with c|c
  ·rw [decide_eq_false (p:=1<t.length) (by omega)];simp
  ·rw [decide_eq_false c];simp
 have hl10:t.length≤10:=by omega
 refine AWP.loopB (ι:=Nat) (fun k=>k≤t.length∧(t.take k).all iE=true) (fun k=>t.length-k) [25,26] (fun k=>[(27,I k),(4,I (valS (t.take k):Nat))]) (fun k=>[.bytes t]) 0 ?_ ?_ ?_
 ·exact ⟨by omega,rfl⟩
 ·simp only [go_sem];exact zSm (zx @valS.eq_1 @List.foldl_nil.{0,0})
 intro k ⟨hk,hk2⟩
 have hv:=JA hk2 (by simp;omega)
 simp only [go_sem]
 (refine zW qw zn @u8g (z3 ?_ ?_ ?_)<;>(repeat with_reducible intro hc))
 ·have e:fW t=(0,false):=by
   unfold fW
   rw [if_neg]
   rw [hsm,AI (d:=0) (by assumption) (by unfold iE;rw [decide_eq_false_iff_not];omega)]
   simp
  rw [e]
  exact zEe trivial
 ·have hcc:48≤(t.getD k 0).toNat:=by omega
  refine ⟨k+1,⟨by omega,?_⟩,by omega,?_⟩
  ·have:t.take (k+1)=t.take k++[t.getD k 0]:=cD t k (by assumption)
   rw [this,List.all_append,hk2]
   simp only [List.all_cons,List.all_nil,Bool.and_true,Bool.true_and]
   unfold iE;rw [decide_eq_true_eq];omega
  rw [C8 _ _ (by assumption)]
  exact zSm (zx (Hg _ hcc) @Int.natCast_mul)
 ·have e0:k=t.length:=by omega
  subst e0
  rw [List.take_length] at *
  have e:fW t=(((valS t:Nat):Int),true):=by unfold fW;rw [if_pos (by rw [hsm];exact hk2)]
  rw [e]
  exact zEe trivial
theorem A4 (s:List UInt8) (c:UInt8) (h:okS s):okS (fZ s c).1.1∧okS (fZ s c).1.2:=by
 unfold okS at *
 unfold fZ
 split
 ·simp only [List.length_take,List.length_drop];omega
 ·simp only [List.length_nil];omega
def jN (s:List UInt8):Int×Int:=if (fZ s 46).2=true∧gB (fZ s 46).1.1=true∧gB (fZ s 46).1.2=true then mkZ (valS (fZ s 46).1.1) (valS (fZ s 46).1.2) else (0,2)
theorem mU (t:List UInt8):(fW t).2=gB t:=by unfold fW;cases h:gB t<;>simp
theorem w9 {t:List UInt8} (h:gB t=true):(fW t).1=valS t:=by unfold fW;rw [if_pos h]
theorem Gt (s:List UInt8) (hs:okS s):ab Tryz.prog [] 86 [S s] (ret (.tup [I (jN s).1,I (jN s).2])):=by
 refine zJ Tryz.func86 Tryz.ntmps86 Tryz.results86 ?_;simp only [go_sem]
 (refine zW qw (z4 (KQ s 46 hs) (Be (fZ s 46).1.1 (A4 s 46 hs).1) (Be (fZ s 46).1.2 (A4 s 46 hs).2) (z6 _ _)) @two.eq_1 (z2 ?_ ?_)<;>(repeat with_reducible intro hc))
 ·rw [mU,mU] at hc
  have e:jN s=(0,2):=by
   unfold jN;rw [if_neg]
   rintro ⟨h1,h2,h3⟩
   rw [h1,h2,h3] at hc;simp at hc
  rw [e];exact zEe trivial
 ·rw [mU,mU] at hc
  have e:jN s=mkZ (valS (fZ s 46).1.1) (valS (fZ s 46).1.2):=by
   unfold jN;rw [if_pos ⟨hc.1.1,hc.1.2,hc.2⟩]
  rw [e,w9 hc.1.2,w9 hc.2];exact zEe trivial
/-! The plain law. -/
theorem getD_some {s:List UInt8} {k:Nat} {c:UInt8} (h:s[k]?=some c):k<s.length∧s.getD k 0=c:=by
 rw [List.getD_eq_getElem?_getD,h]
 exact ⟨(List.getElem?_eq_some_iff.1 h).1,rfl⟩
def fm (z:Int):List UInt8:=Lib.decDigits (z/2147483648).toNat++(46::Lib.decDigits (z%2147483648).toNat)
theorem mQ {k:Nat} (h:k<10):(UInt8.ofNat (48+k)).toNat=48+k:=by rw [UInt8.toNat_ofNat'];exact Nat.mod_eq_of_lt (by omega)
theorem gm {u:Nat} (h:u<10):Lib.decDigits u=[UInt8.ofNat (48+u)]:=by rw [Lib.decDigits,dif_pos h]
theorem na {u:Nat} (h:¬ u<10):Lib.decDigits u=Lib.decDigits (u/10)++[UInt8.ofNat (48+u%10)]:=by rw [Lib.decDigits,dif_neg h]
theorem Gg (u:Nat):Lib.decDigits u≠[]:=by
 by_cases h:u<10
 ·rw [gm h];simp
 ·rw [na h];simp
theorem Ax (u:Nat):∀ c,c∈Lib.decDigits u→iE c=true:=by
 induction u using Nat.strongRecOn with
 | _ u ih=>
   by_cases h:u<10
   ·rw [gm h]
    intro c hc
    rw [List.mem_singleton.1 hc];unfold iE;rw [mQ h];simp;omega
   ·rw [na h]
    intro c hc
    rcases List.mem_append.1 hc with hc|hc
    ·exact ih (u/10) (by omega) c hc
    ·rw [List.mem_singleton.1 hc];unfold iE;rw [mQ (Nat.mod_lt _ (by decide))];simp;omega
theorem yO (a:List UInt8) (c:UInt8):valS (a++[c])=valS a*10+(c.toNat-48):=by unfold valS;rw [List.foldl_append];rfl
theorem AX (u:Nat):valS (Lib.decDigits u)=u:=by
 induction u using Nat.strongRecOn with
 | _ u ih=>
   by_cases h:u<10
   ·rw [gm h];show 0*10+((UInt8.ofNat (48+u)).toNat-48)=u;rw [mQ h];omega
   ·rw [na h,yO,ih (u/10) (by omega),mQ (Nat.mod_lt _ (by decide))];omega
theorem D2 (u:Nat):u≠0→((Lib.decDigits u).getD 0 0).toNat≠48:=by
 induction u using Nat.strongRecOn with
 | _ u ih=>
   intro h0
   by_cases h:u<10
   ·rw [gm h];show (UInt8.ofNat (48+u)).toNat≠48;rw [mQ h];omega
   ·have:=ih (u/10) (by omega) (by omega)
    have hl:0<(Lib.decDigits (u/10)).length:=List.length_pos_iff.2 (Gg _)
    rw [na h,List.getD_eq_getElem?_getD,List.getElem?_append_left hl,←List.getD_eq_getElem?_getD]
    exact this
theorem ny (u:Nat):∀ k,u<10^(k+1)→(Lib.decDigits u).length≤k+1:=by
 induction u using Nat.strongRecOn with
 | _ u ih=>
   intro k hk
   by_cases h:u<10
   ·rw [gm h];simp
   ·rw [na h,List.length_append,List.length_singleton]
    rcases k with _|k
    ·simp at hk;omega
    ·have:=ih (u/10) (by omega) k (by rw [Nat.pow_succ] at hk;omega)
     omega
theorem rg {u:Nat} (h:u≤2147483647):gB (Lib.decDigits u)=true:=by
 have hl:=ny u 9 (by omega)
 unfold gB
 simp only [Bool.and_eq_true,Bool.not_eq_true',decide_eq_false_iff_not,decide_eq_true_eq,Bool.and_eq_false_iff,List.all_eq_true]
 refine ⟨Gg u,hl,?_,Ax u⟩
 by_cases h0:u=0
 ·subst h0;left;rw [gm (by decide)];simp
 ·right;have:=D2 u h0;omega
theorem G1 (a b:List UInt8) (h:∀ c,c∈a→c≠46):Lib.indexByte (a++46::b) 46=a.length:=by
 induction a with
 |nil=>simp [Lib.indexByte]
 | cons x a ih=>
   have hx:x≠46:=h x (List.mem_cons_self ..)
   have:=ih fun c hc=>h c (List.mem_cons_of_mem _ hc)
   simp only [List.cons_append,Lib.indexByte]
   rw [this]
   simp [hx]
   try omega
theorem GW (a b:List UInt8) (h:∀ c,c∈a→iE c=true):fZ (a++46::b) 46=((a,b),true):=by
 have hi:=G1 a b fun c hc e=>by subst e;exact absurd (h _ hc) (by decide)
 unfold fZ
 rw [hi,if_pos (by omega),Int.toNat_natCast,List.take_left' rfl]
 congr 2
 rw [show a++46::b=(a++[46])++b from by simp,List.drop_left' (by simp)]
theorem BF {z:Int} (h:bR z):jN (fm z)=(z,0):=by
 unfold bR at h
 have h1:(z/2147483648).toNat≤2147483647:=by omega
 have h2:(z%2147483648).toNat≤2147483647:=by omega
 unfold jN fm
 rw [GW _ _ (Ax _)]
 simp only
 rw [if_pos ⟨trivial,rg h1,rg h2⟩,AX,AX]
 unfold mkZ
 rw [if_neg (by unfold sy;omega)]
 congr 1
 omega
theorem tu {z:Int} (h:bR z):(fm z).length≤21:=by
 unfold bR at h
 have h1:=ny (z/2147483648).toNat 9 (by omega)
 have h2:=ny (z%2147483648).toNat 9 (by omega)
 unfold fm
 rw [List.length_append,List.length_cons];omega
end Go.Proofs.YtjcooccnfkfjhaaGreatDoor
