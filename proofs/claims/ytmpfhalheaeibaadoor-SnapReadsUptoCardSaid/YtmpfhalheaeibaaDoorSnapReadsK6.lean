/- A part of what SnapReads leans on: texts of this claim, one behind the other. No condition. -/
import Derived.Lib.Strings
import Derived.Lib.Slices
import Derived.Lib.Walk
import Derived.Lib.Bytealg
import Derived.Sort.Walk0
import Derived.RangeFuncNested
import Derived.RangeFuncBound
import Derived.RangeFuncCalls
import Derived.RangeFuncLeaves
import Derived.Shelf.Abstract
import Derived.Shelf.RegionOpen
import Derived.WalkKit
import Derived.OwnWalkIn
import Derived.TacticsInMore
import Derived.LoopNIn
import Derived.LoopIn
import Derived.Test.YtmpfhalheaeibaaDoorSnapReadsK5
namespace Go.Proofs.YtmpfhalheaeibaaDoor
set_option linter.unusedVariables false
set_option linter.unusedSimpArgs false
open Go Go.RowKit
def irow (n : Int) : List DV := [.int .i64 n]
def srow (s : List UInt8) : List DV := [.str s]
theorem getD_row {α : Type} [Inhabited α] (f : α → List DV) (l : List α) (i : Nat) (z : List DV) (h : i < l.length) : (l.map f).getD i z = f (l.getD i default) := by
  rw [List.getD_eq_getElem?_getD, List.getD_eq_getElem?_getD, List.getElem?_map, List.getElem?_eq_getElem h]; rfl
theorem irow_getD (l : List Int) (i : Nat) : (l.map irow).getD i [.int .i64 0] = irow (l.getD i default) := by
  rw [List.getD_eq_getElem?_getD, List.getD_eq_getElem?_getD, List.getElem?_map]; cases l[i]? <;> rfl
theorem srow_getD (l : List (List UInt8)) (i : Nat) : (l.map srow).getD i [.str []] = srow (l.getD i default) := by
  rw [List.getD_eq_getElem?_getD, List.getD_eq_getElem?_getD, List.getElem?_map]; cases l[i]? <;> rfl
theorem u8row_getD (l : List UInt8) (i : Nat) : (l.map u8row).getD i [.int .u8 0] = u8row (l.getD i 0) := by
  rw [List.getD_eq_getElem?_getD, List.getD_eq_getElem?_getD, List.getElem?_map]; cases l[i]? <;> rfl
theorem take_snoc {α : Type} [Inhabited α] (l : List α) (k : Nat) (h : k < l.length) : l.take (k + 1) = l.take k ++ [l.getD k default] := by
  rw [List.take_add_one, List.getElem?_eq_getElem h, List.getD_eq_getElem?_getD, List.getElem?_eq_getElem h]; rfl
theorem getD_mem {α : Type} [Inhabited α] (l : List α) (k : Nat) (h : k < l.length) : l.getD k default ∈ l := by
  rw [List.getD_eq_getElem?_getD, List.getElem?_eq_getElem h]; exact List.getElem_mem _
theorem zl {α β : Type} (f : α → β) (l : List α) : (l.map f).take l.length = l.map f := List.take_of_length_le (by simp)
structure ATxn where
  zxid : Int
  op : Int
  session : Int
  path : List UInt8
  data : List UInt8
  version : Int
  owner : Int
instance : Inhabited ATxn := ⟨⟨0, 0, 0, [], [], 0, 0⟩⟩
theorem ATxn.ext_iff (a b : ATxn) : a = b ↔ a.zxid = b.zxid ∧ a.op = b.op ∧ a.session = b.session ∧ a.path = b.path ∧ a.data = b.data ∧ a.version = b.version ∧ a.owner = b.owner := by
  cases a; cases b; simp
instance : DecidableEq ATxn := fun a b => decidable_of_iff _ (ATxn.ext_iff a b).symm
def ATxn.row (x : ATxn) : List DV := [.int .i64 x.zxid, .int .i64 x.op, .int .i64 x.session, .str x.path, .str x.data, .int .i64 x.version, .int .i64 x.owner]
def ATxn.av (x : ATxn) : AV := .agg [.d (.int .i64 x.zxid), .d (.int .i64 x.op), .d (.int .i64 x.session), .d (.str x.path), .d (.str x.data), .d (.int .i64 x.version), .d (.int .i64 x.owner)]
theorem ATxn.dec (a b : ATxn) : (decide (a.zxid = b.zxid) && (decide (a.op = b.op) && (decide (a.session = b.session) && (decide (a.path = b.path) && (decide (a.data = b.data) && (decide (a.version = b.version) && decide (a.owner = b.owner))))))) = decide (a = b) := by
  rw [Bool.eq_iff_iff]; simp only [Bool.and_eq_true, decide_eq_true_eq, ATxn.ext_iff, and_assoc]
theorem ATxn.getD (l : List ATxn) (i : Nat) : (l.map ATxn.row).getD i [.int .i64 0, .int .i64 0, .int .i64 0, .str [], .str [], .int .i64 0, .int .i64 0] = (l.getD i default).row := by
  rw [List.getD_eq_getElem?_getD, List.getD_eq_getElem?_getD, List.getElem?_map]; cases l[i]? <;> rfl
theorem ATxn.rdrop (l : List ATxn) (k : Nat) : List.drop 7 ((l.map ATxn.row).getD k []) = [] := by
  rw [List.getD_eq_getElem?_getD, List.getElem?_map]; cases l[k]? <;> rfl
attribute [go_sem] ATxn.rdrop
structure AStat where
  czxid : Int
  mzxid : Int
  pzxid : Int
  version : Int
  cversion : Int
  owner : Int
  kids : Int
instance : Inhabited AStat := ⟨⟨0, 0, 0, 0, 0, 0, 0⟩⟩
theorem AStat.ext_iff (a b : AStat) : a = b ↔ a.czxid = b.czxid ∧ a.mzxid = b.mzxid ∧ a.pzxid = b.pzxid ∧ a.version = b.version ∧ a.cversion = b.cversion ∧ a.owner = b.owner ∧ a.kids = b.kids := by
  cases a; cases b; simp
instance : DecidableEq AStat := fun a b => decidable_of_iff _ (AStat.ext_iff a b).symm
def AStat.row (x : AStat) : List DV := [.int .i64 x.czxid, .int .i64 x.mzxid, .int .i64 x.pzxid, .int .i64 x.version, .int .i64 x.cversion, .int .i64 x.owner, .int .i64 x.kids]
def AStat.av (x : AStat) : AV := .agg [.d (.int .i64 x.czxid), .d (.int .i64 x.mzxid), .d (.int .i64 x.pzxid), .d (.int .i64 x.version), .d (.int .i64 x.cversion), .d (.int .i64 x.owner), .d (.int .i64 x.kids)]
theorem AStat.dec (a b : AStat) : (decide (a.czxid = b.czxid) && (decide (a.mzxid = b.mzxid) && (decide (a.pzxid = b.pzxid) && (decide (a.version = b.version) && (decide (a.cversion = b.cversion) && (decide (a.owner = b.owner) && decide (a.kids = b.kids))))))) = decide (a = b) := by
  rw [Bool.eq_iff_iff]; simp only [Bool.and_eq_true, decide_eq_true_eq, AStat.ext_iff, and_assoc]
theorem AStat.getD (l : List AStat) (i : Nat) : (l.map AStat.row).getD i [.int .i64 0, .int .i64 0, .int .i64 0, .int .i64 0, .int .i64 0, .int .i64 0, .int .i64 0] = (l.getD i default).row := by
  rw [List.getD_eq_getElem?_getD, List.getD_eq_getElem?_getD, List.getElem?_map]; cases l[i]? <;> rfl
theorem AStat.rdrop (l : List AStat) (k : Nat) : List.drop 7 ((l.map AStat.row).getD k []) = [] := by
  rw [List.getD_eq_getElem?_getD, List.getElem?_map]; cases l[k]? <;> rfl
attribute [go_sem] AStat.rdrop
structure ANode where
  path : List UInt8
  data : List UInt8
  stat : AStat
instance : Inhabited ANode := ⟨⟨[], [], default⟩⟩
theorem ANode.ext_iff (a b : ANode) : a = b ↔ a.path = b.path ∧ a.data = b.data ∧ a.stat = b.stat := by
  cases a; cases b; simp
instance : DecidableEq ANode := fun a b => decidable_of_iff _ (ANode.ext_iff a b).symm
def ANode.row (x : ANode) : List DV := [.str x.path, .str x.data, .int .i64 x.stat.czxid, .int .i64 x.stat.mzxid, .int .i64 x.stat.pzxid, .int .i64 x.stat.version, .int .i64 x.stat.cversion, .int .i64 x.stat.owner, .int .i64 x.stat.kids]
def ANode.av (x : ANode) : AV := .agg [.d (.str x.path), .d (.str x.data), .d (.int .i64 x.stat.czxid), .d (.int .i64 x.stat.mzxid), .d (.int .i64 x.stat.pzxid), .d (.int .i64 x.stat.version), .d (.int .i64 x.stat.cversion), .d (.int .i64 x.stat.owner), .d (.int .i64 x.stat.kids)]
theorem ANode.dec (a b : ANode) : (decide (a.path = b.path) && (decide (a.data = b.data) && (decide (a.stat.czxid = b.stat.czxid) && (decide (a.stat.mzxid = b.stat.mzxid) && (decide (a.stat.pzxid = b.stat.pzxid) && (decide (a.stat.version = b.stat.version) && (decide (a.stat.cversion = b.stat.cversion) && (decide (a.stat.owner = b.stat.owner) && decide (a.stat.kids = b.stat.kids))))))))) = decide (a = b) := by
  rw [Bool.eq_iff_iff]; simp only [Bool.and_eq_true, decide_eq_true_eq, ANode.ext_iff, AStat.ext_iff, and_assoc]
theorem ANode.getD (l : List ANode) (i : Nat) : (l.map ANode.row).getD i [.str [], .str [], .int .i64 0, .int .i64 0, .int .i64 0, .int .i64 0, .int .i64 0, .int .i64 0, .int .i64 0] = (l.getD i default).row := by
  rw [List.getD_eq_getElem?_getD, List.getD_eq_getElem?_getD, List.getElem?_map]; cases l[i]? <;> rfl
theorem ANode.rdrop (l : List ANode) (k : Nat) : List.drop 9 ((l.map ANode.row).getD k []) = [] := by
  rw [List.getD_eq_getElem?_getD, List.getElem?_map]; cases l[k]? <;> rfl
attribute [go_sem] ANode.rdrop
structure AFile where
  name : List UInt8
  safe : List UInt8
  tail : List UInt8
instance : Inhabited AFile := ⟨⟨[], [], []⟩⟩
theorem AFile.ext_iff (a b : AFile) : a = b ↔ a.name = b.name ∧ a.safe = b.safe ∧ a.tail = b.tail := by
  cases a; cases b; simp
instance : DecidableEq AFile := fun a b => decidable_of_iff _ (AFile.ext_iff a b).symm
def AFile.row (x : AFile) : List DV := [.str x.name, .str x.safe, .str x.tail]
def AFile.av (x : AFile) : AV := .agg [.d (.str x.name), .d (.str x.safe), .d (.str x.tail)]
theorem AFile.dec (a b : AFile) : (decide (a.name = b.name) && (decide (a.safe = b.safe) && decide (a.tail = b.tail))) = decide (a = b) := by
  rw [Bool.eq_iff_iff]; simp only [Bool.and_eq_true, decide_eq_true_eq, AFile.ext_iff, and_assoc]
theorem AFile.getD (l : List AFile) (i : Nat) : (l.map AFile.row).getD i [.str [], .str [], .str []] = (l.getD i default).row := by
  rw [List.getD_eq_getElem?_getD, List.getD_eq_getElem?_getD, List.getElem?_map]; cases l[i]? <;> rfl
theorem AFile.rdrop (l : List AFile) (k : Nat) : List.drop 3 ((l.map AFile.row).getD k []) = [] := by
  rw [List.getD_eq_getElem?_getD, List.getElem?_map]; cases l[k]? <;> rfl
attribute [go_sem] AFile.rdrop
structure AWatch where
  session : Int
  kind : Int
  path : List UInt8
instance : Inhabited AWatch := ⟨⟨0, 0, []⟩⟩
theorem AWatch.ext_iff (a b : AWatch) : a = b ↔ a.session = b.session ∧ a.kind = b.kind ∧ a.path = b.path := by
  cases a; cases b; simp
instance : DecidableEq AWatch := fun a b => decidable_of_iff _ (AWatch.ext_iff a b).symm
def AWatch.row (x : AWatch) : List DV := [.int .i64 x.session, .int .i64 x.kind, .str x.path]
def AWatch.av (x : AWatch) : AV := .agg [.d (.int .i64 x.session), .d (.int .i64 x.kind), .d (.str x.path)]
theorem AWatch.dec (a b : AWatch) : (decide (a.session = b.session) && (decide (a.kind = b.kind) && decide (a.path = b.path))) = decide (a = b) := by
  rw [Bool.eq_iff_iff]; simp only [Bool.and_eq_true, decide_eq_true_eq, AWatch.ext_iff, and_assoc]
theorem AWatch.getD (l : List AWatch) (i : Nat) : (l.map AWatch.row).getD i [.int .i64 0, .int .i64 0, .str []] = (l.getD i default).row := by
  rw [List.getD_eq_getElem?_getD, List.getD_eq_getElem?_getD, List.getElem?_map]; cases l[i]? <;> rfl
theorem AWatch.rdrop (l : List AWatch) (k : Nat) : List.drop 3 ((l.map AWatch.row).getD k []) = [] := by
  rw [List.getD_eq_getElem?_getD, List.getElem?_map]; cases l[k]? <;> rfl
attribute [go_sem] AWatch.rdrop
structure AEvent where
  kind : Int
  path : List UInt8
instance : Inhabited AEvent := ⟨⟨0, []⟩⟩
theorem AEvent.ext_iff (a b : AEvent) : a = b ↔ a.kind = b.kind ∧ a.path = b.path := by
  cases a; cases b; simp
instance : DecidableEq AEvent := fun a b => decidable_of_iff _ (AEvent.ext_iff a b).symm
def AEvent.row (x : AEvent) : List DV := [.int .i64 x.kind, .str x.path]
def AEvent.av (x : AEvent) : AV := .agg [.d (.int .i64 x.kind), .d (.str x.path)]
theorem AEvent.dec (a b : AEvent) : (decide (a.kind = b.kind) && decide (a.path = b.path)) = decide (a = b) := by
  rw [Bool.eq_iff_iff]; simp only [Bool.and_eq_true, decide_eq_true_eq, AEvent.ext_iff, and_assoc]
theorem AEvent.getD (l : List AEvent) (i : Nat) : (l.map AEvent.row).getD i [.int .i64 0, .str []] = (l.getD i default).row := by
  rw [List.getD_eq_getElem?_getD, List.getD_eq_getElem?_getD, List.getElem?_map]; cases l[i]? <;> rfl
theorem AEvent.rdrop (l : List AEvent) (k : Nat) : List.drop 2 ((l.map AEvent.row).getD k []) = [] := by
  rw [List.getD_eq_getElem?_getD, List.getElem?_map]; cases l[k]? <;> rfl
attribute [go_sem] AEvent.rdrop
structure ANote where
  session : Int
  event : AEvent
instance : Inhabited ANote := ⟨⟨0, default⟩⟩
theorem ANote.ext_iff (a b : ANote) : a = b ↔ a.session = b.session ∧ a.event = b.event := by
  cases a; cases b; simp
instance : DecidableEq ANote := fun a b => decidable_of_iff _ (ANote.ext_iff a b).symm
def ANote.row (x : ANote) : List DV := [.int .i64 x.session, .int .i64 x.event.kind, .str x.event.path]
def ANote.av (x : ANote) : AV := .agg [.d (.int .i64 x.session), .d (.int .i64 x.event.kind), .d (.str x.event.path)]
theorem ANote.dec (a b : ANote) : (decide (a.session = b.session) && (decide (a.event.kind = b.event.kind) && decide (a.event.path = b.event.path))) = decide (a = b) := by
  rw [Bool.eq_iff_iff]; simp only [Bool.and_eq_true, decide_eq_true_eq, ANote.ext_iff, AEvent.ext_iff, and_assoc]
theorem ANote.getD (l : List ANote) (i : Nat) : (l.map ANote.row).getD i [.int .i64 0, .int .i64 0, .str []] = (l.getD i default).row := by
  rw [List.getD_eq_getElem?_getD, List.getD_eq_getElem?_getD, List.getElem?_map]; cases l[i]? <;> rfl
theorem ANote.rdrop (l : List ANote) (k : Nat) : List.drop 3 ((l.map ANote.row).getD k []) = [] := by
  rw [List.getD_eq_getElem?_getD, List.getElem?_map]; cases l[k]? <;> rfl
attribute [go_sem] ANote.rdrop
structure AEntry where
  path : List UInt8
  data : List UInt8
  there : Bool
instance : Inhabited AEntry := ⟨⟨[], [], false⟩⟩
theorem AEntry.ext_iff (a b : AEntry) : a = b ↔ a.path = b.path ∧ a.data = b.data ∧ a.there = b.there := by
  cases a; cases b; simp
instance : DecidableEq AEntry := fun a b => decidable_of_iff _ (AEntry.ext_iff a b).symm
def AEntry.row (x : AEntry) : List DV := [.str x.path, .str x.data, .bool x.there]
def AEntry.av (x : AEntry) : AV := .agg [.d (.str x.path), .d (.str x.data), .d (.bool x.there)]
theorem AEntry.dec (a b : AEntry) : (decide (a.path = b.path) && (decide (a.data = b.data) && decide (a.there = b.there))) = decide (a = b) := by
  rw [Bool.eq_iff_iff]; simp only [Bool.and_eq_true, decide_eq_true_eq, AEntry.ext_iff, and_assoc]
theorem AEntry.getD (l : List AEntry) (i : Nat) : (l.map AEntry.row).getD i [.str [], .str [], .bool false] = (l.getD i default).row := by
  rw [List.getD_eq_getElem?_getD, List.getD_eq_getElem?_getD, List.getElem?_map]; cases l[i]? <;> rfl
theorem AEntry.rdrop (l : List AEntry) (k : Nat) : List.drop 3 ((l.map AEntry.row).getD k []) = [] := by
  rw [List.getD_eq_getElem?_getD, List.getElem?_map]; cases l[k]? <;> rfl
attribute [go_sem] AEntry.rdrop
structure ARequest where
  op : Int
  session : Int
  path : List UInt8
  data : List UInt8
  version : Int
  flags : Int
instance : Inhabited ARequest := ⟨⟨0, 0, [], [], 0, 0⟩⟩
theorem ARequest.ext_iff (a b : ARequest) : a = b ↔ a.op = b.op ∧ a.session = b.session ∧ a.path = b.path ∧ a.data = b.data ∧ a.version = b.version ∧ a.flags = b.flags := by
  cases a; cases b; simp
instance : DecidableEq ARequest := fun a b => decidable_of_iff _ (ARequest.ext_iff a b).symm
def ARequest.row (x : ARequest) : List DV := [.int .i64 x.op, .int .i64 x.session, .str x.path, .str x.data, .int .i64 x.version, .int .i64 x.flags]
def ARequest.av (x : ARequest) : AV := .agg [.d (.int .i64 x.op), .d (.int .i64 x.session), .d (.str x.path), .d (.str x.data), .d (.int .i64 x.version), .d (.int .i64 x.flags)]
theorem ARequest.dec (a b : ARequest) : (decide (a.op = b.op) && (decide (a.session = b.session) && (decide (a.path = b.path) && (decide (a.data = b.data) && (decide (a.version = b.version) && decide (a.flags = b.flags)))))) = decide (a = b) := by
  rw [Bool.eq_iff_iff]; simp only [Bool.and_eq_true, decide_eq_true_eq, ARequest.ext_iff, and_assoc]
theorem ARequest.getD (l : List ARequest) (i : Nat) : (l.map ARequest.row).getD i [.int .i64 0, .int .i64 0, .str [], .str [], .int .i64 0, .int .i64 0] = (l.getD i default).row := by
  rw [List.getD_eq_getElem?_getD, List.getD_eq_getElem?_getD, List.getElem?_map]; cases l[i]? <;> rfl
theorem ARequest.rdrop (l : List ARequest) (k : Nat) : List.drop 6 ((l.map ARequest.row).getD k []) = [] := by
  rw [List.getD_eq_getElem?_getD, List.getElem?_map]; cases l[k]? <;> rfl
attribute [go_sem] ARequest.rdrop
structure ATree where
  zxid : Int
  nodes : List (ANode)
  sessions : List (Int)
instance : Inhabited ATree := ⟨⟨0, [], []⟩⟩
theorem ATree.ext_iff (a b : ATree) : a = b ↔ a.zxid = b.zxid ∧ a.nodes = b.nodes ∧ a.sessions = b.sessions := by
  cases a; cases b; simp
instance : DecidableEq ATree := fun a b => decidable_of_iff _ (ATree.ext_iff a b).symm
def ATree.row (x : ATree) : List DV := [.int .i64 x.zxid, .sl 9 (x.nodes.map ANode.row), .sl 1 (x.sessions.map irow)]
def ATree.av (x : ATree) : AV := .agg [.d (.int .i64 x.zxid), .d (.sl 9 (x.nodes.map ANode.row)), .d (.sl 1 (x.sessions.map irow))]
theorem ATree.rdrop (l : List ATree) (k : Nat) : List.drop 3 ((l.map ATree.row).getD k []) = [] := by
  rw [List.getD_eq_getElem?_getD, List.getElem?_map]; cases l[k]? <;> rfl
attribute [go_sem] ATree.rdrop
structure ADisk where
  files : List (AFile)
instance : Inhabited ADisk := ⟨⟨[]⟩⟩
theorem ADisk.ext_iff (a b : ADisk) : a = b ↔ a.files = b.files := by
  cases a; cases b; simp
instance : DecidableEq ADisk := fun a b => decidable_of_iff _ (ADisk.ext_iff a b).symm
def ADisk.row (x : ADisk) : List DV := [.sl 3 (x.files.map AFile.row)]
def ADisk.av (x : ADisk) : AV := .agg [.d (.sl 3 (x.files.map AFile.row))]
theorem ADisk.rdrop (l : List ADisk) (k : Nat) : List.drop 1 ((l.map ADisk.row).getD k []) = [] := by
  rw [List.getD_eq_getElem?_getD, List.getElem?_map]; cases l[k]? <;> rfl
attribute [go_sem] ADisk.rdrop
structure APeer where
  id : Int
  epoch : Int
  log : List (ATxn)
  done : Int
instance : Inhabited APeer := ⟨⟨0, 0, [], 0⟩⟩
theorem APeer.ext_iff (a b : APeer) : a = b ↔ a.id = b.id ∧ a.epoch = b.epoch ∧ a.log = b.log ∧ a.done = b.done := by
  cases a; cases b; simp
instance : DecidableEq APeer := fun a b => decidable_of_iff _ (APeer.ext_iff a b).symm
def APeer.row (x : APeer) : List DV := [.int .i64 x.id, .int .i64 x.epoch, .sl 7 (x.log.map ATxn.row), .int .i64 x.done]
def APeer.av (x : APeer) : AV := .agg [.d (.int .i64 x.id), .d (.int .i64 x.epoch), .d (.sl 7 (x.log.map ATxn.row)), .d (.int .i64 x.done)]
theorem APeer.rdrop (l : List APeer) (k : Nat) : List.drop 4 ((l.map APeer.row).getD k []) = [] := by
  rw [List.getD_eq_getElem?_getD, List.getElem?_map]; cases l[k]? <;> rfl
attribute [go_sem] APeer.rdrop
structure AServer where
  up : Bool
  disk : ADisk
  peer : APeer
  tree : ATree
  watches : List (AWatch)
instance : Inhabited AServer := ⟨⟨false, default, default, default, []⟩⟩
theorem AServer.ext_iff (a b : AServer) : a = b ↔ a.up = b.up ∧ a.disk = b.disk ∧ a.peer = b.peer ∧ a.tree = b.tree ∧ a.watches = b.watches := by
  cases a; cases b; simp
instance : DecidableEq AServer := fun a b => decidable_of_iff _ (AServer.ext_iff a b).symm
def AServer.row (x : AServer) : List DV := [.bool x.up, .sl 3 (x.disk.files.map AFile.row), .int .i64 x.peer.id, .int .i64 x.peer.epoch, .sl 7 (x.peer.log.map ATxn.row), .int .i64 x.peer.done, .int .i64 x.tree.zxid, .sl 9 (x.tree.nodes.map ANode.row), .sl 1 (x.tree.sessions.map irow), .sl 3 (x.watches.map AWatch.row)]
def AServer.av (x : AServer) : AV := .agg [.d (.bool x.up), .d (.sl 3 (x.disk.files.map AFile.row)), .d (.int .i64 x.peer.id), .d (.int .i64 x.peer.epoch), .d (.sl 7 (x.peer.log.map ATxn.row)), .d (.int .i64 x.peer.done), .d (.int .i64 x.tree.zxid), .d (.sl 9 (x.tree.nodes.map ANode.row)), .d (.sl 1 (x.tree.sessions.map irow)), .d (.sl 3 (x.watches.map AWatch.row))]
theorem AServer.rdrop (l : List AServer) (k : Nat) : List.drop 10 ((l.map AServer.row).getD k []) = [] := by
  rw [List.getD_eq_getElem?_getD, List.getElem?_map]; cases l[k]? <;> rfl
attribute [go_sem] AServer.rdrop
structure AClient where
  session : Int
  seen : Int
  cache : List (AEntry)
instance : Inhabited AClient := ⟨⟨0, 0, []⟩⟩
theorem AClient.ext_iff (a b : AClient) : a = b ↔ a.session = b.session ∧ a.seen = b.seen ∧ a.cache = b.cache := by
  cases a; cases b; simp
instance : DecidableEq AClient := fun a b => decidable_of_iff _ (AClient.ext_iff a b).symm
def AClient.row (x : AClient) : List DV := [.int .i64 x.session, .int .i64 x.seen, .sl 3 (x.cache.map AEntry.row)]
def AClient.av (x : AClient) : AV := .agg [.d (.int .i64 x.session), .d (.int .i64 x.seen), .d (.sl 3 (x.cache.map AEntry.row))]
theorem AClient.rdrop (l : List AClient) (k : Nat) : List.drop 3 ((l.map AClient.row).getD k []) = [] := by
  rw [List.getD_eq_getElem?_getD, List.getElem?_map]; cases l[k]? <;> rfl
attribute [go_sem] AClient.rdrop
structure ADeed where
  kind : Int
  client : Int
  server : Int
  request : ARequest
  lost : Int
  slow : Int
  keep : Int
  watch : Bool
instance : Inhabited ADeed := ⟨⟨0, 0, 0, default, 0, 0, 0, false⟩⟩
theorem ADeed.ext_iff (a b : ADeed) : a = b ↔ a.kind = b.kind ∧ a.client = b.client ∧ a.server = b.server ∧ a.request = b.request ∧ a.lost = b.lost ∧ a.slow = b.slow ∧ a.keep = b.keep ∧ a.watch = b.watch := by
  cases a; cases b; simp
instance : DecidableEq ADeed := fun a b => decidable_of_iff _ (ADeed.ext_iff a b).symm
def ADeed.row (x : ADeed) : List DV := [.int .i64 x.kind, .int .i64 x.client, .int .i64 x.server, .int .i64 x.request.op, .int .i64 x.request.session, .str x.request.path, .str x.request.data, .int .i64 x.request.version, .int .i64 x.request.flags, .int .i64 x.lost, .int .i64 x.slow, .int .i64 x.keep, .bool x.watch]
def ADeed.av (x : ADeed) : AV := .agg [.d (.int .i64 x.kind), .d (.int .i64 x.client), .d (.int .i64 x.server), .d (.int .i64 x.request.op), .d (.int .i64 x.request.session), .d (.str x.request.path), .d (.str x.request.data), .d (.int .i64 x.request.version), .d (.int .i64 x.request.flags), .d (.int .i64 x.lost), .d (.int .i64 x.slow), .d (.int .i64 x.keep), .d (.bool x.watch)]
theorem ADeed.dec (a b : ADeed) : (decide (a.kind = b.kind) && (decide (a.client = b.client) && (decide (a.server = b.server) && (decide (a.request.op = b.request.op) && (decide (a.request.session = b.request.session) && (decide (a.request.path = b.request.path) && (decide (a.request.data = b.request.data) && (decide (a.request.version = b.request.version) && (decide (a.request.flags = b.request.flags) && (decide (a.lost = b.lost) && (decide (a.slow = b.slow) && (decide (a.keep = b.keep) && decide (a.watch = b.watch))))))))))))) = decide (a = b) := by
  rw [Bool.eq_iff_iff]; simp only [Bool.and_eq_true, decide_eq_true_eq, ADeed.ext_iff, ARequest.ext_iff, and_assoc]
theorem ADeed.getD (l : List ADeed) (i : Nat) : (l.map ADeed.row).getD i [.int .i64 0, .int .i64 0, .int .i64 0, .int .i64 0, .int .i64 0, .str [], .str [], .int .i64 0, .int .i64 0, .int .i64 0, .int .i64 0, .int .i64 0, .bool false] = (l.getD i default).row := by
  rw [List.getD_eq_getElem?_getD, List.getD_eq_getElem?_getD, List.getElem?_map]; cases l[i]? <;> rfl
theorem ADeed.rdrop (l : List ADeed) (k : Nat) : List.drop 13 ((l.map ADeed.row).getD k []) = [] := by
  rw [List.getD_eq_getElem?_getD, List.getElem?_map]; cases l[k]? <;> rfl
attribute [go_sem] ADeed.rdrop
structure AReply where
  code : Int
  zxid : Int
  path : List UInt8
  data : List UInt8
  stat : AStat
  notes : List (ANote)
instance : Inhabited AReply := ⟨⟨0, 0, [], [], default, []⟩⟩
theorem AReply.ext_iff (a b : AReply) : a = b ↔ a.code = b.code ∧ a.zxid = b.zxid ∧ a.path = b.path ∧ a.data = b.data ∧ a.stat = b.stat ∧ a.notes = b.notes := by
  cases a; cases b; simp
instance : DecidableEq AReply := fun a b => decidable_of_iff _ (AReply.ext_iff a b).symm
def AReply.row (x : AReply) : List DV := [.int .i64 x.code, .int .i64 x.zxid, .str x.path, .str x.data, .int .i64 x.stat.czxid, .int .i64 x.stat.mzxid, .int .i64 x.stat.pzxid, .int .i64 x.stat.version, .int .i64 x.stat.cversion, .int .i64 x.stat.owner, .int .i64 x.stat.kids, .sl 3 (x.notes.map ANote.row)]
def AReply.av (x : AReply) : AV := .agg [.d (.int .i64 x.code), .d (.int .i64 x.zxid), .d (.str x.path), .d (.str x.data), .d (.int .i64 x.stat.czxid), .d (.int .i64 x.stat.mzxid), .d (.int .i64 x.stat.pzxid), .d (.int .i64 x.stat.version), .d (.int .i64 x.stat.cversion), .d (.int .i64 x.stat.owner), .d (.int .i64 x.stat.kids), .d (.sl 3 (x.notes.map ANote.row))]
theorem AReply.rdrop (l : List AReply) (k : Nat) : List.drop 12 ((l.map AReply.row).getD k []) = [] := by
  rw [List.getD_eq_getElem?_getD, List.getElem?_map]; cases l[k]? <;> rfl
attribute [go_sem] AReply.rdrop
def okS (s : List UInt8) : Prop := s.length ≤ 140737488351232
def ATxn.wf (x : ATxn) : Prop := okI x.zxid ∧ okI x.op ∧ okI x.session ∧ okS x.path ∧ okS x.data ∧ okI x.version ∧ okI x.owner
def AStat.wf (x : AStat) : Prop := okI x.czxid ∧ okI x.mzxid ∧ okI x.pzxid ∧ okI x.version ∧ okI x.cversion ∧ okI x.owner ∧ okI x.kids
def ANode.wf (x : ANode) : Prop := okS x.path ∧ okS x.data ∧ x.stat.wf
def AFile.wf (x : AFile) : Prop := okS x.name ∧ okS x.safe ∧ okS x.tail
def AWatch.wf (x : AWatch) : Prop := okI x.session ∧ okI x.kind ∧ okS x.path
def AEvent.wf (x : AEvent) : Prop := okI x.kind ∧ okS x.path
def ANote.wf (x : ANote) : Prop := okI x.session ∧ x.event.wf
def AEntry.wf (x : AEntry) : Prop := okS x.path ∧ okS x.data ∧ True
def ARequest.wf (x : ARequest) : Prop := okI x.op ∧ okI x.session ∧ okS x.path ∧ okS x.data ∧ okI x.version ∧ okI x.flags
def ATree.wf (x : ATree) : Prop := okI x.zxid ∧ (x.nodes.length * 88 ≤ 140737488351232 ∧ ∀ y : ANode, y ∈ x.nodes → y.wf) ∧ (x.sessions.length * 8 ≤ 140737488351232 ∧ ∀ y : Int, y ∈ x.sessions → okI y)
def ADisk.wf (x : ADisk) : Prop := (x.files.length * 48 ≤ 140737488351232 ∧ ∀ y : AFile, y ∈ x.files → y.wf)
def APeer.wf (x : APeer) : Prop := okI x.id ∧ okI x.epoch ∧ (x.log.length * 72 ≤ 140737488351232 ∧ ∀ y : ATxn, y ∈ x.log → y.wf) ∧ okI x.done
def AServer.wf (x : AServer) : Prop := True ∧ x.disk.wf ∧ x.peer.wf ∧ x.tree.wf ∧ (x.watches.length * 32 ≤ 140737488351232 ∧ ∀ y : AWatch, y ∈ x.watches → y.wf)
def AClient.wf (x : AClient) : Prop := okI x.session ∧ okI x.seen ∧ (x.cache.length * 40 ≤ 140737488351232 ∧ ∀ y : AEntry, y ∈ x.cache → y.wf)
def ADeed.wf (x : ADeed) : Prop := okI x.kind ∧ okI x.client ∧ okI x.server ∧ x.request.wf ∧ okI x.lost ∧ okI x.slow ∧ okI x.keep ∧ True
def AReply.wf (x : AReply) : Prop := okI x.code ∧ okI x.zxid ∧ okS x.path ∧ okS x.data ∧ x.stat.wf ∧ (x.notes.length * 32 ≤ 140737488351232 ∧ ∀ y : ANote, y ∈ x.notes → y.wf)
attribute [go_sem] zl irow srow u8row irow_getD srow_getD u8row_getD ATxn.row ATxn.av AStat.row AStat.av ANode.row ANode.av AFile.row AFile.av AWatch.row AWatch.av AEvent.row AEvent.av ANote.row ANote.av AEntry.row AEntry.av ARequest.row ARequest.av ATree.row ATree.av ADisk.row ADisk.av APeer.row APeer.av AServer.row AServer.av AClient.row AClient.av ADeed.row ADeed.av AReply.row AReply.av ATxn.dec ATxn.getD AStat.dec AStat.getD ANode.dec ANode.getD AFile.dec AFile.getD AWatch.dec AWatch.getD AEvent.dec AEvent.getD ANote.dec ANote.getD AEntry.dec AEntry.getD ARequest.dec ARequest.getD ADeed.dec ADeed.getD
attribute [go_sem] List.length_map List.length_take List.length_drop
end Go.Proofs.YtmpfhalheaeibaaDoor
namespace Go.Proofs.YtmpfhalheaeibaaDoor
set_option linter.unusedVariables false
set_option linter.unusedSimpArgs false
open Go
theorem acallH_at (m : List Nat) {P : Program} {np : Nat} {hp : List ABlk} {g : FuncId} {xs : List AV} {K : AV → List ABlk → Prop} {t : Tok K} {chp bl : List ABlk} {cargs : List AV} {x : AV} (c : acall P chp g cargs (outs x bl))
    (exs : renL (mAt m hp.length) cargs = xs) (h : chp.length = m.length ∧ m.Nodup ∧ (∀ i, i ∈ m → i < hp.length) ∧ inL m.length cargs ∧ hpLe (mAt m hp.length) m.length hp 0 chp)
    (hK : K (renV (renm m hp.length) x) (putAll (renm m hp.length) hp m bl ++ renBs (renm m hp.length) (bl.drop m.length))) : acallHK P np hp g xs K t := by
  have := acallH_ptr (hp := hp) (K := K) m c h.1 h.2.1 h.2.2.1 h.2.2.2.1 h.2.2.2.2 (fun v hp' hR => by
    obtain ⟨rfl, rfl⟩ := hR
    exact hK)
  rw [exs] at this
  exact acallHK_of this
end Go.Proofs.YtmpfhalheaeibaaDoor
namespace Go.Proofs.YtmpfhalheaeibaaDoor
set_option linter.unusedVariables false
set_option linter.unusedSimpArgs false
open Go Go.RowKit
class AR (G : Prop) (H : outParam Prop) : Prop where
  f : H → G
section
variable {P : Program} {s : ASt} {Q : Exit → ASt → Prop} {x y : Code} {N : ASt → Prop} {id i : Nat}
instance : AR (AWP P (.seq x y) s Q) (AWP P x s (thenA (fun s' => AWP P y s' Q) Q)) := ⟨AWP.seq⟩
instance : AR (thenA N Q .normal s) (N s) := ⟨thenA_n⟩
instance : AR (thenA N Q .ret s) (Q .ret s) := ⟨thenA_r⟩
instance : AR (thenA N Q (.exit i) s) (Q (.exit i) s) := ⟨thenA_e⟩
instance : AR (blkA id N Q .normal s) (N s) := ⟨blkA_n⟩
instance : AR (blkA id N Q .ret s) (Q .ret s) := ⟨blkA_r⟩
instance : AR (blkA id N Q (.exit id) s) (N s) := ⟨blkA_e⟩
instance : AR (AWP P .skip s Q) (Q .normal s) := ⟨AWP.skip⟩
instance : AR (AWP P .ret s Q) (Q .ret s) := ⟨AWP.ret⟩
instance : AR (AWP P (.exit i) s Q) (Q (.exit i) s) := ⟨AWP.exit⟩
instance : AR (AWP P (.block id x) s Q) (AWP P x s (blkA id (Q .normal) Q)) := ⟨AWP.block⟩
end
class CK (G : Prop) (P : outParam Program) (hp : outParam (List ABlk)) (g : outParam FuncId) (xs : outParam (List AV)) (x : AV) (H : outParam Prop) : Prop where
  sc : ∀ {ys : List AV} {u0 : Value}, acall P [] g ys (ret x) → frzL hp xs = ys → scalV x = some u0 → frzOks hp xs → noIds ys → H → G
  cx : ∀ {ys : List AV} {u0 : Value}, acall P [] g ys (ret x) → scalV x = some u0 → coeL (frzL hp xs) ys ∧ frzOks hp xs ∧ noIds (frzL hp xs) → H → G
section
variable {P : Program} {hp : List ABlk} {g : FuncId} {xs : List AV} {x : AV} {np : Nat}
instance {K : AV → List ABlk → Prop} {t : Tok K} : CK (acallHK P np hp g xs K t) P hp g xs x (K x hp) := ⟨fun c a b d e h => acallH_sc c a b d e h, fun c a b h => acallH_scx c a b h⟩
instance {K : AV → Prop} {t : Tok K} : CK (acallQK P hp g xs K t) P hp g xs x (K x) := ⟨fun c a b d e h => acallQ_sc c a b d e h, fun c a b h => acallQ_scx c a b h⟩
end
section
variable {G H : Prop} {P : Program} {hp : List ABlk} {g : FuncId} {xs ys : List AV} {x : AV} {u0 : Value}
theorem zA (c : acall P [] g ys (ret x)) [k : CK G P hp g xs x H] (a : frzL hp xs = ys) (b : (scalV x).isSome = true) (d : frzOks hp xs) (e : noIds ys) (h : H) : G := by
  obtain ⟨u, hu⟩ := Option.isSome_iff_exists.1 b
  exact k.sc c a hu d e h
theorem zX (c : acall P [] g ys (ret x)) [k : CK G P hp g xs x H] (b : scalV x = some u0) (d : coeL (frzL hp xs) ys ∧ frzOks hp xs ∧ noIds (frzL hp xs)) (h : H) : G := k.cx c b d h
end
section
variable {s : ASt} {Q : Exit → ASt → Prop} {id : Nat} {l : List Oper}
theorem zR (h : ∀ K : ASt → Prop, (∀ s', Q .normal s' → K s') → aops Tryd.prog T l.toArray K l s) : AWP Tryd.prog (.region id l.toArray false) s Q := AWP.region tabOk h
theorem zQ (hB : (calm l.toArray && Region.lexB .any l.toArray) = true) (h : ∀ K : ASt → Prop, (∀ s', Q .normal s' → K s') → aopsQ Tryd.prog T l.toArray K l s) : AWP Tryd.prog (.region id l.toArray true) s Q := AWP.quietC mixed tabOk hB h
theorem zD (hB : drawB l.toArray = true) (h : ∀ K : ASt → Prop, (∀ s', Q .normal s' → K s') → aopsD Tryd.prog T l.toArray K l s) : AWP Tryd.prog (.region id l.toArray true) s Q := AWP.draw mixed tabOk hB h
theorem zE (hB : drawE l.toArray = true) (h : ∀ K : ASt → Prop, (∀ s', Q .normal s' → K s') → aopsD Tryd.prog T l.toArray K (inOrd l) s) : AWP Tryd.prog (.region id l.toArray true) s Q := AWP.drawE mixed tabOk hB h
theorem zG (hB : growB T l.toArray = true) (h : ∀ K : ASt → Prop, (∀ s', Q .normal s' → K s') → aopsG Tryd.prog T l.toArray K (inOrdG l) s) : AWP Tryd.prog (.region id l.toArray true) s Q := AWP.drawG mixed tabOk hB h
theorem zP {ops : Array Oper} (p : Plan) (hB : planB ops p = true) (h : ∀ K : ASt → Prop, (∀ s', Q .normal s' → K s') → aplan Tryd.prog T ops K p s) : AWP Tryd.prog (.region id ops true) s Q := AWP.plan p mixed tabOk hB h
end
theorem zN {P : Program} {g : FuncId} {xs ys : List AV} {x : AV} {hp bl : List ABlk} {np : Nat} {K : AV → List ABlk → Prop} {t : Tok K} (c : acall P [] g ys (fun v h => v = x ∧ h = bl)) (e : xs = ys) (h : idsL xs = [] ∧ frzL hp xs = xs ∧ frzOks hp xs ∧ noIds xs)
    (hK : K (renV (renm [] hp.length) x) (hp ++ renBs (renm [] hp.length) bl)) : acallHK P np hp g xs K t := acallH_anyr c e h hK
class ER (e : Exit) : Prop where
  h : e = .ret ∨ e = .normal
instance : ER .ret := ⟨.inl rfl⟩
instance : ER .normal := ⟨.inr rfl⟩
theorem zF {T : TypeId → TI} {s : ASt} {rs : List ResultVar} {x : AV} {e : Exit} [k : ER e] (h0 : s.np = 0) (h1 : (aresL T s rs).1)
    (h2 : frzOk s.hp (tupOf (aresL T s rs).2)) (h3 : noId (frzV s.hp (tupOf (aresL T s rs).2))) (hR : coeV (frzV s.hp (tupOf (aresL T s rs).2)) x) : aend T rs (ret x) e s := aend_retc k.h h0 h1 h2 h3 hR
end Go.Proofs.YtmpfhalheaeibaaDoor
namespace Go.Proofs.YtmpfhalheaeibaaDoor
set_option linter.unusedVariables false
set_option linter.unusedSimpArgs false
open Go Go.RowKit
theorem ty_str {m : Nat} {t : TypeId} {cs : List DV} (hk : (T t).kind = .str) (h : typed T (m + 1) t cs) : ∃ n, cs = [.str n] ∧ okS n := by
  simp only [typed, hk] at h
  exact h
end Go.Proofs.YtmpfhalheaeibaaDoor
namespace Go.Proofs.YtmpfhalheaeibaaDoor
set_option linter.unusedVariables false
set_option linter.unusedSimpArgs false
open Go Go.RowKit
set_option maxRecDepth 100000
set_option linter.unusedSimpArgs false
theorem SmallD.len {N : Nat} {l : List UInt8} (h : SmallD N (.str l)) : l.length ≤ N := by cases h; assumption
theorem SmallD.rows {N sz : Nat} {rs : List (List DV)} (h : SmallD N (.sl sz rs)) : rs.length ≤ N ∧ ∀ r, r ∈ rs → ∀ c, c ∈ r → SmallD N c := by cases h; exact ⟨by assumption, by assumption⟩
theorem acall_of_calls {P : Program} {g : FuncId} {xs : List AV} {x : AV} {us : List Value} {u : Value} (hg : goFn P g) (hxs : scalL xs = some us) (hx : scalV x = some u)
    (h : ∀ w : World, Calls P g us.toArray w fun e w' => e = .returned u ∧ w' = w) : acall P [] g xs (ret x) := by
  refine ⟨hg, fun E w vs hw hH hvs => ?_⟩
  have e : vs = us := by
    obtain ⟨h1, h2⟩ := scalL_get hxs
    refine List.ext_getElem? fun j => ?_
    by_cases hj : j < xs.length
    · obtain ⟨u', hu, hs⟩ := h2 j _ (List.getElem?_eq_getElem hj)
      have hv : vs[j]? = some (vs[j]'(by rw [hvs.1]; exact hj)) := List.getElem?_eq_getElem _
      rw [hv, hu, scal_eq (hvs.2 j _ _ (List.getElem?_eq_getElem hj) hv) u' hs]
    · rw [List.getElem?_eq_none (by rw [hvs.1]; omega), List.getElem?_eq_none (by omega)]
  subst e
  refine (h w).mono fun e w' ⟨h1, h2⟩ => ?_
  subst h2
  refine ⟨u, x, [], [], h1, ⟨rfl, rfl⟩, ?_, fun k p hk => ?_, scal_rep x u hx⟩
  · have h0 : E.ρ0 = [] := List.eq_nil_of_length_eq_zero (by rw [hH.len]; rfl)
    rw [h0] at hH; exact hH
  · have h0 : E.ρ0 = [] := List.eq_nil_of_length_eq_zero (by rw [hH.len]; rfl)
    rw [h0] at hk; exact hk
set_option maxHeartbeats 1000000 in
theorem compareString_w (a b : ByteArray) (w : World) :
    Calls Tryd.prog 171 #[.string a, .string b] w fun e w' => e = .returned (.int .i64 (Lib.compareBytes a.data.toList b.data.toList)) ∧ w' = w := by
  go_enter Tryd.func171, Tryd.ntmps171
  go_wp2
  rw [run_callFunc_extern Tryd.func183 (by kernel_rfl) (by kernel_rfl) (by kernel_rfl) (e := Extern.BytealgCompare.compare) (by kernel_rfl), Lib.run_compareString]
  simp only [Result.andThen]
  rw [Oper.upon_value]
  go_wp2
  go_ret
  exact ⟨rfl, rfl⟩
theorem compareString_c (a b : List UInt8) : acall Tryd.prog [] 171 [S a, S b] (ret (I (Lib.compareBytes a b))) :=
  acall_of_calls ⟨_, Tryd.func171, by kernel_rfl, by kernel_rfl⟩ rfl rfl fun w => compareString_w ⟨a.toArray⟩ ⟨b.toArray⟩ w
theorem compare_c (a b : List UInt8) : acall Tryd.prog [] 144 [S a, S b] (ret (I (Lib.compareBytes a b))) := by
  refine zi tabOk Tryd.func144 rfl (by kernel_rfl) (by simp [Tryd.ntmps144]) ?_; simp only [Tryd.ntmps144, Tryd.results144, List.toList_toArray, apar, List.length_nil, List.length_cons, Nat.reduceAdd]
  (repeat' first
| (with_reducible refine AR.f ?_)
| refine zb (by decide) ?_
| (with_reducible refine AWP.cond rfl ?_ ?_ <;> intro hc <;> (try simp only [hcs, beq_iff_eq, ge_iff_le, gt_iff_lt] at hc))
| ((first | ((first | (with_reducible first | refine zR ?_ | refine zQ (by decide +kernel) ?_ | refine zD (by decide +kernel) ?_ | refine zE (by decide +kernel) ?_ | refine zG (by decide +kernel) ?_)); intro K hK) | ((first | refine acallH_sc (compareString_c _ _) rfl rfl ?_ ?_ ?_ | refine acallQ_sc (compareString_c _ _) rfl rfl ?_ ?_ ?_); iterate 2 (focus ((try simp (disch := omega) only [go_sem, wn]) <;> (try omega) <;> fail))) | ((first | refine zN (compareString_c _ _) rfl ?_ ?_); (focus ((try simp (disch := omega) only [go_sem, wn]) <;> (try omega) <;> fail))) | (first | ((first | refine zX (compareString_c _ _) rfl ?_ ?_ | refine zy (compareString_c _ _) ?_ ?_); (focus ((try simp (disch := omega) only [go_sem, wn]) <;> (try omega) <;> fail)))) | ((first | (with_reducible refine zu ?_ ?_ <;> intro hg) | with_reducible intro hg) <;> (first | (exfalso; simp at hg; done) | (have hg' := hg; (try simp only [hcs, beq_iff_eq, ge_iff_le, gt_iff_lt] at hg'); (try simp only [hg]))))) <;> (try simp (disch := omega) only [go_sem, wn]) <;> (repeat' with_reducible refine And.intro ?_ ?_) <;> (try (with_reducible refine hK _ ?_; clear hK K)))
| omega)
  (refine zF rfl ?_ ?_ ?_ ?_; (iterate 3 (focus ((try simp (disch := omega) only [go_sem, wn]) <;> (try omega) <;> fail))); (try simp (disch := omega) only [go_sem, wn, I, B, S, inj, List.cons.injEq, and_true, true_and, and_self]))
end Go.Proofs.YtmpfhalheaeibaaDoor
namespace Go.Proofs.YtmpfhalheaeibaaDoor
set_option linter.unusedVariables false
set_option linter.unusedSimpArgs false
open Go Go.RowKit
set_option linter.unusedSimpArgs false
theorem eq_of_getD {α : Type} [Inhabited α] {a b : List α} (h : a.length = b.length) (h2 : ∀ k, k < a.length → a.getD k default = b.getD k default) : a = b := by
  refine List.ext_getElem h fun k h1 h3 => ?_
  have := h2 k h1
  simpa [List.getD_eq_getElem?_getD, List.getElem?_eq_getElem h1, List.getElem?_eq_getElem h3] using this
def cmpB (a b : List UInt8) : Int := Lib.compareBytes a b
theorem cmpB_eq (a b : List UInt8) : cmpB a b = 0 ↔ a = b := by
  unfold cmpB
  induction a generalizing b with
  | nil => cases b <;> simp [Lib.compareBytes]
  | cons x a ih =>
    cases b with
    | nil => simp [Lib.compareBytes]
    | cons y b =>
      simp only [Lib.compareBytes]
      split
      · rename_i h; simp; intro e; subst e; exact absurd h (by simp)
      · split
        · rename_i h; simp; intro e; subst e; exact absurd h (by simp)
        · rename_i h1 h2
          have : x = y := by
            have h1' : ¬ x.toNat < y.toNat := by simpa [UInt8.lt_iff_toNat_lt] using h1
            have h2' : ¬ y.toNat < x.toNat := by simpa [UInt8.lt_iff_toNat_lt] using h2
            exact UInt8.toNat_inj.1 (by omega)
          subst this
          rw [ih]; simp
theorem cmpB_lt (a b : List UInt8) : cmpB a b < 0 ↔ strLt a b = true := by
  unfold cmpB strLt
  induction a generalizing b with
  | nil => cases b <;> simp [Lib.compareBytes, Op.bytesLess]
  | cons x a ih =>
    cases b with
    | nil => simp [Lib.compareBytes, Op.bytesLess]
    | cons y b =>
      simp only [Lib.compareBytes, Op.bytesLess]
      split
      · rename_i h; simp [h]
      · rename_i h1
        split
        · rename_i h2
          have h2' : ¬ x = y := fun e => by subst e; exact absurd h2 (by simp)
          simp [h1, h2']
        · rename_i h2
          have : x = y := by
            have h1' : ¬ x.toNat < y.toNat := by simpa [UInt8.lt_iff_toNat_lt] using h1
            have h2' : ¬ y.toNat < x.toNat := by simpa [UInt8.lt_iff_toNat_lt] using h2
            exact UInt8.toNat_inj.1 (by omega)
          subst this
          simp [ih]
theorem strLt_eq (a b : List UInt8) : strLt a b = decide (a < b) := Go.Proofs.bytesLess_eq a b
theorem cmpB_neg (a b : List UInt8) : cmpB a b < 0 ↔ a < b := by rw [cmpB_lt, strLt_eq, decide_eq_true_eq]
theorem lt_tri {a b : List UInt8} (h : ¬ a < b) (h2 : ¬ b < a) : a = b := List.le_antisymm (List.not_lt.1 h2) (List.not_lt.1 h)
theorem lt_of_not {a b : List UInt8} (h : ¬ a < b) (h2 : a ≠ b) : b < a := Classical.byContradiction fun h3 => h2 (lt_tri h h3)
def Rises (ns : List (List UInt8)) : Prop := ∀ k, k + 1 < ns.length → ns.getD k [] < ns.getD (k + 1) []
theorem rises_lt {ns : List (List UInt8)} (h : Rises ns) {i : Nat} : ∀ {j : Nat}, i < j → j < ns.length → ns.getD i [] < ns.getD j []
  | 0, h1, _ => by omega
  | j + 1, h1, h2 => by
    by_cases e : i = j
    · subst e; exact h i h2
    · exact List.lt_trans (rises_lt h (by omega) (by omega)) (h j h2)
def place (ns : List (List UInt8)) (key : List UInt8) : Nat := ns.findIdx fun x => !decide (x < key)
theorem place_eq {ns : List (List UInt8)} {key : List UInt8} {i : Nat} (h0 : i ≤ ns.length) (h1 : ∀ k, k < i → ns.getD k [] < key) (h2 : i < ns.length → ¬ ns.getD i [] < key) : place ns key = i := by
  unfold place
  by_cases e : i < ns.length
  · rw [List.findIdx_eq e]
    have h3 := h2 e
    rw [List.getD_eq_getElem?_getD, List.getElem?_eq_getElem e] at h3
    refine ⟨by simpa using h3, fun j hj => ?_⟩
    have h4 := h1 j hj
    rw [List.getD_eq_getElem?_getD, List.getElem?_eq_getElem (by omega)] at h4
    simpa using h4
  · have e2 : i = ns.length := by omega
    subst e2
    rw [List.findIdx_eq_length]
    intro x hx
    obtain ⟨j, hj, rfl⟩ := List.getElem_of_mem hx
    have h4 := h1 j hj
    rw [List.getD_eq_getElem?_getD, List.getElem?_eq_getElem hj] at h4
    simpa using h4
theorem mem_getD {α : Type} (ns : List α) (d : α) {k : Nat} (h : k < ns.length) : ns.getD k d ∈ ns := by
  rw [List.getD_eq_getElem?_getD, List.getElem?_eq_getElem h]; exact List.getElem_mem h
theorem mem_iff_getD {α : Type} (ns : List α) (d x : α) : x ∈ ns ↔ ∃ k, k < ns.length ∧ ns.getD k d = x := by
  constructor
  · intro h
    obtain ⟨j, hj, e⟩ := List.getElem_of_mem h
    exact ⟨j, hj, by rw [List.getD_eq_getElem?_getD, List.getElem?_eq_getElem hj]; exact e⟩
  · rintro ⟨k, h, rfl⟩; exact mem_getD ns d h
theorem place_at {ns : List (List UInt8)} {k : Nat} (hr : Rises ns) (h : k < ns.length) : place ns (ns.getD k []) = k :=
  place_eq (by omega) (fun j hj => rises_lt hr hj h) fun _ => List.lt_irrefl _
theorem zc {ns : List (List UInt8)} {key : List UInt8} (hr : Rises ns) (h : key ∈ ns) : place ns key < ns.length ∧ ns.getD (place ns key) [] = key := by
  obtain ⟨k, hk, e⟩ := (mem_iff_getD ns [] key).1 h
  subst e; rw [place_at hr hk]; exact ⟨hk, rfl⟩
theorem getD_map {α β : Type} (f : α → β) (l : List α) (k : Nat) (d : α) : (l.map f).getD k (f d) = f (l.getD k d) := by
  simp only [List.getD_eq_getElem?_getD, List.getElem?_map]; cases l[k]? <;> rfl
end Go.Proofs.YtmpfhalheaeibaaDoor
namespace Go.Proofs.YtmpfhalheaeibaaDoor
set_option linter.unusedVariables false
set_option linter.unusedSimpArgs false
open Go Go.RowKit
set_option maxRecDepth 100000
set_option linter.unusedSimpArgs false
theorem halfw (i j : Nat) (h : i + j < 9223372036854775808) : IntKind.i64.wrap (IntKind.u64.wrap ((i : Int) + j) / 2) = (((i + j) / 2 : Nat) : Int) := by
  have e : IntKind.u64.wrap ((i : Int) + j) = ((i + j : Nat) : Int) := by simp [IntKind.wrap, IntKind.bits, IntKind.signed]; omega
  rw [e]
  have e2 : (((i + j : Nat) : Int) / 2) = (((i + j) / 2 : Nat) : Int) := by omega
  rw [e2]; simp [IntKind.wrap, IntKind.bits, IntKind.signed]; omega
theorem treeCmp_c (f : ANode) (n : List UInt8) : acall Tryd.prog [] 143 [f.av, S n] (ret (I (cmpB f.path n))) := by
  refine zi tabOk Tryd.func143 rfl (by kernel_rfl) (by simp [Tryd.ntmps143]) ?_; simp only [Tryd.ntmps143, Tryd.results143, List.toList_toArray, apar, List.length_nil, List.length_cons, Nat.reduceAdd]
  (repeat' first
| (with_reducible refine AR.f ?_)
| refine zb (by decide) ?_
| (with_reducible refine AWP.cond rfl ?_ ?_ <;> intro hc <;> (try simp only [hcs, beq_iff_eq, ge_iff_le, gt_iff_lt] at hc))
| ((first | ((first | (with_reducible first | refine zR ?_ | refine zQ (by decide +kernel) ?_ | refine zD (by decide +kernel) ?_ | refine zE (by decide +kernel) ?_ | refine zG (by decide +kernel) ?_)); intro K hK) | ((first | refine acallH_sc (compare_c _ _) rfl rfl ?_ ?_ ?_ | refine acallQ_sc (compare_c _ _) rfl rfl ?_ ?_ ?_); iterate 2 (focus ((try simp (disch := omega) only [go_sem, wn]) <;> (try omega) <;> fail))) | ((first | refine zN (compare_c _ _) rfl ?_ ?_); (focus ((try simp (disch := omega) only [go_sem, wn]) <;> (try omega) <;> fail))) | (first | ((first | refine zX (compare_c _ _) rfl ?_ ?_ | refine zy (compare_c _ _) ?_ ?_); (focus ((try simp (disch := omega) only [go_sem, wn]) <;> (try omega) <;> fail)))) | ((first | (with_reducible refine zu ?_ ?_ <;> intro hg) | with_reducible intro hg) <;> (first | (exfalso; simp at hg; done) | (have hg' := hg; (try simp only [hcs, beq_iff_eq, ge_iff_le, gt_iff_lt] at hg'); (try simp only [hg]))))) <;> (try simp (disch := omega) only [go_sem, wn]) <;> (repeat' with_reducible refine And.intro ?_ ?_) <;> (try (with_reducible refine hK _ ?_; clear hK K)))
| omega)
  (refine zF rfl ?_ ?_ ?_ ?_; (iterate 3 (focus ((try simp (disch := omega) only [go_sem, wn, cmpB]) <;> (try omega) <;> fail))); (try simp (disch := omega) only [go_sem, wn, cmpB, I, B, S, inj, List.cons.injEq, and_true, true_and, and_self]))
end Go.Proofs.YtmpfhalheaeibaaDoor
namespace Go.Proofs.YtmpfhalheaeibaaDoor
set_option linter.unusedVariables false
set_option linter.unusedSimpArgs false
open Go Go.RowKit
set_option maxRecDepth 100000
set_option linter.unusedSimpArgs false
def bsI (lt : Nat → Bool) : Nat → Nat → Nat → Nat
  | 0, i, _ => i
  | f + 1, i, j => if i < j then (if lt ((i + j) / 2) = true then bsI lt f ((i + j) / 2 + 1) j else bsI lt f i ((i + j) / 2)) else i
def ltN (ns : List (List UInt8)) (key : List UInt8) (k : Nat) : Bool := decide (ns.getD k [] < key)
def bsN (ns : List (List UInt8)) (key : List UInt8) : Nat := bsI (ltN ns key) ns.length 0 ns.length
def foundN (ns : List (List UInt8)) (key : List UInt8) : Bool := decide (bsN ns key < ns.length ∧ ns.getD (bsN ns key) [] = key)
theorem bsI_end {lt : Nat → Bool} {f i : Nat} : bsI lt f i i = i := by
  cases f with
  | zero => rfl
  | succ f => rw [bsI, if_neg (by omega)]
theorem bsI_lo {lt : Nat → Bool} {f i j : Nat} (h : i < j) (h2 : lt ((i + j) / 2) = true) : bsI lt (f + 1) i j = bsI lt f ((i + j) / 2 + 1) j := by rw [bsI, if_pos h, if_pos h2]
theorem bsI_hi {lt : Nat → Bool} {f i j : Nat} (h : i < j) (h2 : ¬ lt ((i + j) / 2) = true) : bsI lt (f + 1) i j = bsI lt f i ((i + j) / 2) := by rw [bsI, if_pos h, if_neg h2]
theorem bsI_place {ns : List (List UInt8)} {key : List UInt8} (hr : Rises ns) : ∀ {f i j : Nat}, i ≤ j → j ≤ ns.length → j - i ≤ f → (∀ k, k < i → ns.getD k [] < key) → (j < ns.length → ¬ ns.getD j [] < key) → bsI (ltN ns key) f i j = place ns key
  | 0, i, j, h1, h2, h3, h4, h5 => by
    rw [bsI]
    rw [show j = i from by omega] at h5
    exact (place_eq (by omega) h4 h5).symm
  | f + 1, i, j, h1, h2, h3, h4, h5 => by
    by_cases h : i < j
    · by_cases hc : ltN ns key ((i + j) / 2) = true
      · rw [bsI_lo h hc]
        unfold ltN at hc
        rw [decide_eq_true_eq] at hc
        refine bsI_place hr (by omega) h2 (by omega) (fun k hk => ?_) h5
        by_cases e : k = (i + j) / 2
        · rw [e]; exact hc
        · exact List.lt_trans (rises_lt (j := (i + j) / 2) hr (by omega) (by omega)) hc
      · rw [bsI_hi h hc]
        unfold ltN at hc
        rw [decide_eq_true_eq] at hc
        exact bsI_place hr (by omega) (by omega) (by omega) h4 fun _ => hc
    · rw [show j = i from by omega] at h5 ⊢
      rw [bsI_end]
      exact (place_eq (by omega) h4 h5).symm
theorem bsN_rises {ns : List (List UInt8)} {key : List UInt8} (hr : Rises ns) : bsN ns key = place ns key :=
  bsI_place hr (Nat.zero_le _) (Nat.le_refl _) (by omega) (fun k hk => by omega) (fun h => by omega)
theorem foundN_rises {ns : List (List UInt8)} {key : List UInt8} (hr : Rises ns) : foundN ns key = decide (key ∈ ns) := by
  unfold foundN
  rw [bsN_rises hr, decide_eq_decide]
  constructor
  · rintro ⟨h1, h2⟩; rw [← h2]; exact mem_getD _ _ h1
  · exact zc hr
theorem foundN_mem {ns : List (List UInt8)} {key : List UInt8} (h : foundN ns key = true) : key ∈ ns := by
  unfold foundN at h
  rw [decide_eq_true_eq] at h
  have := mem_getD ns [] h.1
  rwa [h.2] at this
theorem bsNodeU_c (l : List ANode) (key : List UInt8) (h : l.length * 88 ≤ 140737488351232) :
    acall Tryd.prog [] 142 [.d (.sl 9 (l.map ANode.row)), S key, .d (.sc (.func (.func 143) #[] #[]))]
      (ret (.tup [I (bsN (l.map ANode.path) key), B (foundN (l.map ANode.path) key)])) := by
  have hn : ∀ k, (l.map ANode.path).getD k [] = (l.getD k default).path := fun k => getD_map ANode.path l k default
  refine zi tabOk Tryd.func142 rfl (by kernel_rfl) (by simp [Tryd.ntmps142]) ?_; simp only [Tryd.ntmps142, Tryd.results142, List.toList_toArray, apar, List.length_nil, List.length_cons, Nat.reduceAdd]
  (repeat' first
| (with_reducible refine AR.f ?_)
| refine zb (by decide) ?_
| (with_reducible refine AWP.cond rfl ?_ ?_ <;> intro hc <;> (try simp only [hcs, beq_iff_eq, ge_iff_le, gt_iff_lt] at hc))
| ((first | ((first | (with_reducible first | refine zR ?_ | refine zQ (by decide +kernel) ?_ | refine zD (by decide +kernel) ?_ | refine zE (by decide +kernel) ?_ | refine zG (by decide +kernel) ?_)); intro K hK) | ((first | (with_reducible refine zu ?_ ?_ <;> intro hg) | with_reducible intro hg) <;> (first | (exfalso; simp at hg; done) | (have hg' := hg; (try simp only [hcs, beq_iff_eq, ge_iff_le, gt_iff_lt] at hg'); (try simp only [hg]))))) <;> (try simp (disch := omega) only [go_sem, wn]) <;> (repeat' with_reducible refine And.intro ?_ ?_) <;> (try (with_reducible refine hK _ ?_; clear hK K)))
| omega)
  refine AWP.loopS (ι := Nat × Nat × Nat) (fun v => v.2.1 ≤ v.2.2 ∧ v.2.2 ≤ l.length ∧ v.2.2 - v.2.1 ≤ v.1 ∧ bsI (ltN (l.map ANode.path) key) v.1 v.2.1 v.2.2 = bsN (l.map ANode.path) key) (fun v => v.1) [0, 1, 2, 8] (fun v => [(9, I v.2.1), (10, I v.2.2)]) (l.length, 0, l.length) ?_ (by simp (disch := omega) only [go_sem, wn, true_and]) ?_
  · refine ⟨by simp, by simp, by simp, ?_⟩
    unfold bsN; simp only [List.length_map]
  intro ⟨f, i, j⟩ ⟨h1, h2, h3, h4⟩
  simp only at h1 h2 h3 h4
  simp only [go_sem]
  (repeat' first
| (with_reducible refine AR.f ?_)
| refine zb (by decide) ?_
| (with_reducible refine AWP.cond rfl ?_ ?_ <;> intro hc <;> (try simp only [hcs, beq_iff_eq, ge_iff_le, gt_iff_lt] at hc))
| ((first | ((first | (with_reducible first | refine zR ?_ | refine zQ (by decide +kernel) ?_ | refine zD (by decide +kernel) ?_ | refine zE (by decide +kernel) ?_ | refine zG (by decide +kernel) ?_)); intro K hK) | ((first | refine acallH_sc (treeCmp_c _ _) rfl rfl ?_ ?_ ?_ | refine acallQ_sc (treeCmp_c _ _) rfl rfl ?_ ?_ ?_); iterate 2 (focus ((try simp (disch := omega) only [go_sem, wn, halfw]) <;> (try omega) <;> fail))) | ((first | refine zN (treeCmp_c _ _) rfl ?_ ?_); (focus ((try simp (disch := omega) only [go_sem, wn, halfw]) <;> (try omega) <;> fail))) | (first | ((first | refine zX (treeCmp_c _ _) rfl ?_ ?_ | refine zy (treeCmp_c _ _) ?_ ?_); (focus ((try simp (disch := omega) only [go_sem, wn, halfw]) <;> (try omega) <;> fail)))) | ((first | (with_reducible refine zu ?_ ?_ <;> intro hg) | with_reducible intro hg) <;> (first | (exfalso; simp at hg; done) | (have hg' := hg; (try simp only [hcs, beq_iff_eq, ge_iff_le, gt_iff_lt] at hg'); (try simp only [hg]))))) <;> (try simp (disch := omega) only [go_sem, wn, halfw]) <;> (repeat' with_reducible refine And.intro ?_ ?_) <;> (try (with_reducible refine hK _ ?_; clear hK K)))
| omega)
  · rw [cmpB_neg] at hc
    obtain ⟨g, rfl⟩ : ∃ g, f = g + 1 := ⟨f - 1, by omega⟩
    have hlt : ltN (l.map ANode.path) key ((i + j) / 2) = true := by unfold ltN; rw [decide_eq_true_eq, hn]; exact hc
    rw [bsI_lo (by omega) hlt] at h4
    refine ⟨(g, (i + j) / 2 + 1, j), ⟨by simp only; omega, h2, by simp only; omega, h4⟩, by simp only; omega, ?_⟩
    (refine SImp.same ?_; simp (disch := omega) only [go_sem, wn, Int.natCast_add])
  · have hc2 : ¬ cmpB (l.getD ((i + j) / 2) default).path key < 0 := by omega
    rw [cmpB_neg, ← hn] at hc2
    obtain ⟨g, rfl⟩ : ∃ g, f = g + 1 := ⟨f - 1, by omega⟩
    have hlt : ¬ ltN (l.map ANode.path) key ((i + j) / 2) = true := by unfold ltN; rw [decide_eq_true_eq]; exact hc2
    rw [bsI_hi (by omega) hlt] at h4
    refine ⟨(g, i, (i + j) / 2), ⟨by simp only; omega, by simp only; omega, by simp only; omega, h4⟩, by simp only; omega, ?_⟩
    (refine SImp.same ?_; simp (disch := omega) only [go_sem, wn, Int.natCast_add])
  all_goals
    have e0 : i = j := by omega
    subst e0
    rw [bsI_end] at h4
    (refine zF rfl ?_ ?_ ?_ ?_; (iterate 3 (focus ((try simp (disch := omega) only [go_sem, wn, h4, foundN]) <;> (try omega) <;> fail))); (try simp (disch := omega) only [go_sem, wn, h4, foundN, I, B, S, inj, List.cons.injEq, and_true, true_and, and_self]))
    simp only [← h4, foundN, List.length_map, hn, cmpB_eq]
    simp at hg; simp; try omega
end Go.Proofs.YtmpfhalheaeibaaDoor
namespace Go.Proofs.YtmpfhalheaeibaaDoor
set_option linter.unusedVariables false
set_option linter.unusedSimpArgs false
open Go Go.RowKit
set_option maxRecDepth 100000
set_option linter.unusedSimpArgs false
def RisesI (l : List Int) : Prop := ∀ k, k + 1 < l.length → l.getD k default < l.getD (k + 1) default
theorem risesI_lt {l : List Int} (h : RisesI l) {i : Nat} : ∀ {j : Nat}, i < j → j < l.length → l.getD i default < l.getD j default
  | 0, h1, _ => by omega
  | j + 1, h1, h2 => by
    by_cases e : i = j
    · subst e; exact h i h2
    · exact Int.lt_trans (risesI_lt h (by omega) (by omega)) (h j h2)
def placeI (l : List Int) (key : Int) : Nat := l.findIdx fun x => !decide (x < key)
theorem placeI_eq {l : List Int} {key : Int} {i : Nat} (h0 : i ≤ l.length) (h1 : ∀ k, k < i → l.getD k default < key) (h2 : i < l.length → ¬ l.getD i default < key) : placeI l key = i := by
  unfold placeI
  by_cases e : i < l.length
  · rw [List.findIdx_eq e]
    have h3 := h2 e
    rw [List.getD_eq_getElem?_getD, List.getElem?_eq_getElem e] at h3
    refine ⟨by simpa using h3, fun j hj => ?_⟩
    have h4 := h1 j hj
    rw [List.getD_eq_getElem?_getD, List.getElem?_eq_getElem (by omega)] at h4
    simpa using h4
  · have e2 : i = l.length := by omega
    subst e2
    rw [List.findIdx_eq_length]
    intro x hx
    obtain ⟨j, hj, rfl⟩ := List.getElem_of_mem hx
    have h4 := h1 j hj
    rw [List.getD_eq_getElem?_getD, List.getElem?_eq_getElem hj] at h4
    simpa using h4
theorem foundI_iff {l : List Int} {key : Int} {i : Nat} (hr : RisesI l) (h1 : ∀ k, k < i → l.getD k default < key) (h2 : i < l.length → ¬ l.getD i default < key) : key ∈ l ↔ i < l.length ∧ l.getD i default = key := by
  rw [mem_iff_getD l default]
  constructor
  · rintro ⟨k, hk, e⟩
    have a : ¬ k < i := fun hki => by have := h1 k hki; omega
    have b : ¬ i < k := fun hik => by
      have := risesI_lt hr hik hk
      rw [e] at this; exact h2 (by omega) this
    have c : i = k := by omega
    subst c; exact ⟨hk, e⟩
  · rintro ⟨h, e⟩; exact ⟨i, h, e⟩
theorem bsInt_c (l : List Int) (key : Int) (h : l.length * 8 ≤ 140737488351232) (hr : RisesI l) :
    acall Tryd.prog [] 94 [.d (.sl 1 (l.map irow)), I key] (ret (.tup [I (placeI l key), B (decide (key ∈ l))])) := by
  refine zi tabOk Tryd.func94 rfl (by kernel_rfl) (by simp [Tryd.ntmps94]) ?_; simp only [Tryd.ntmps94, Tryd.results94, List.toList_toArray, apar, List.length_nil, List.length_cons, Nat.reduceAdd]
  (repeat' first
| (with_reducible refine AR.f ?_)
| refine zb (by decide) ?_
| (with_reducible refine AWP.cond rfl ?_ ?_ <;> intro hc <;> (try simp only [hcs, beq_iff_eq, ge_iff_le, gt_iff_lt] at hc))
| ((first | ((first | (with_reducible first | refine zR ?_ | refine zQ (by decide +kernel) ?_ | refine zD (by decide +kernel) ?_ | refine zE (by decide +kernel) ?_ | refine zG (by decide +kernel) ?_)); intro K hK) | ((first | (with_reducible refine zu ?_ ?_ <;> intro hg) | with_reducible intro hg) <;> (first | (exfalso; simp at hg; done) | (have hg' := hg; (try simp only [hcs, beq_iff_eq, ge_iff_le, gt_iff_lt] at hg'); (try simp only [hg]))))) <;> (try simp (disch := omega) only [go_sem, wn]) <;> (repeat' with_reducible refine And.intro ?_ ?_) <;> (try (with_reducible refine hK _ ?_; clear hK K)))
| omega)
  refine AWP.loopS (ι := Nat × Nat) (fun v => v.1 ≤ v.2 ∧ v.2 ≤ l.length ∧ (∀ k, k < v.1 → l.getD k default < key) ∧ (v.2 < l.length → ¬ l.getD v.2 default < key)) (fun v => v.2 - v.1) [0, 1, 6] (fun v => [(7, I v.1), (8, I v.2)]) (0, l.length) ?_ (by simp (disch := omega) only [go_sem, wn, true_and]) ?_
  · exact ⟨by simp, by simp, fun k hk => by simp at hk, fun k => by simp at k⟩
  intro ⟨i, j⟩ ⟨h1, h2, h3, h4⟩
  simp only at h1 h2 h3 h4
  simp only [go_sem]
  (repeat' first
| (with_reducible refine AR.f ?_)
| refine zb (by decide) ?_
| (with_reducible refine AWP.cond rfl ?_ ?_ <;> intro hc <;> (try simp only [hcs, beq_iff_eq, ge_iff_le, gt_iff_lt] at hc))
| (refine zh fun Kk hKk => (zi tabOk Tryd.func145 rfl (by kernel_rfl) (by simp [Tryd.ntmps145]) ?_); simp only [Tryd.ntmps145, Tryd.results145, List.toList_toArray, apar, List.length_nil, List.length_cons, Nat.reduceAdd, List.length_append, List.length_set, go_sem])
| (refine zh fun Kk hKk => (zi tabOk Tryd.func172 rfl (by kernel_rfl) (by simp [Tryd.ntmps172]) ?_); simp only [Tryd.ntmps172, Tryd.results172, List.toList_toArray, apar, List.length_nil, List.length_cons, Nat.reduceAdd, List.length_append, List.length_set, go_sem])
| (refine zh fun Kk hKk => (zi tabOk Tryd.func146 rfl (by kernel_rfl) (by simp [Tryd.ntmps146]) ?_); simp only [Tryd.ntmps146, Tryd.results146, List.toList_toArray, apar, List.length_nil, List.length_cons, Nat.reduceAdd, List.length_append, List.length_set, go_sem])
| ((first | ((first | (with_reducible first | refine zR ?_ | refine zQ (by decide +kernel) ?_ | refine zD (by decide +kernel) ?_ | refine zE (by decide +kernel) ?_ | refine zG (by decide +kernel) ?_)); intro K hK) | (refine zw (v := ?_) hKk (by first | exact .inl rfl | exact .inr rfl) ?_ ?_ ?_; rotate_left; (focus ((try simp (disch := omega) only [go_sem, wn, halfw]) <;> (try omega) <;> fail)); (focus ((try simp (disch := omega) only [go_sem, wn, halfw]) <;> (first | done | exact rfl))); clear hKk Kk) | ((first | (with_reducible refine zu ?_ ?_ <;> intro hg) | with_reducible intro hg) <;> (first | (exfalso; simp at hg; done) | (have hg' := hg; (try simp only [hcs, beq_iff_eq, ge_iff_le, gt_iff_lt] at hg'); (try simp only [hg]))))) <;> (try simp (disch := omega) only [go_sem, wn, halfw]) <;> (repeat' with_reducible refine And.intro ?_ ?_) <;> (try (with_reducible refine hK _ ?_; clear hK K)))
| omega)
  · refine ⟨((i + j) / 2 + 1, j), ⟨by simp only; omega, h2, fun k hk => ?_, h4⟩, by simp only; omega, ?_⟩
    · by_cases e : k = (i + j) / 2
      · rw [e]; exact hc
      · exact Int.lt_trans (risesI_lt (j := (i + j) / 2) hr (by simp only at hk; omega) (by omega)) hc
    (refine SImp.same ?_; simp (disch := omega) only [go_sem, wn, Int.natCast_add])
  · refine ⟨(i, (i + j) / 2), ⟨by simp only; omega, by simp only; omega, h3, fun _ => Int.not_lt.2 hc⟩, by simp only; omega, ?_⟩
    (refine SImp.same ?_; simp (disch := omega) only [go_sem, wn, Int.natCast_add])
  all_goals
    have e0 : i = j := by omega
    subst e0
    have e1 : placeI l key = i := placeI_eq (by omega) h3 h4
    have e2 : key ∈ l ↔ i < l.length ∧ l.getD i default = key := foundI_iff hr h3 h4
    (refine zF rfl ?_ ?_ ?_ ?_; (iterate 3 (focus ((try simp (disch := omega) only [go_sem, wn, e1]) <;> (try omega) <;> fail))); (try simp (disch := omega) only [go_sem, wn, e1, I, B, S, inj, List.cons.injEq, and_true, true_and, and_self]))
    simp only [e2]
    simp at hg; simp
end Go.Proofs.YtmpfhalheaeibaaDoor
namespace Go.Proofs.YtmpfhalheaeibaaDoor
set_option linter.unusedVariables false
set_option linter.unusedSimpArgs false
open Go Go.RowKit
set_option maxRecDepth 100000
set_option linter.unusedSimpArgs false
theorem ext_indexByte {P : Program} {hp : List ABlk} {g : FuncId} {fn : Func} (hf : P.funcs[g]? = some fn) (hn : (fn.name == "runtime.NumGoroutine") = false) (hb : fn.body.isNone = true) (hx : Extern.findNext fn = none)
    (he : Extern.find fn = some Extern.BytealgIndexByte.indexByte) (s : List UInt8) (c : UInt8) : aextQ P hp g [S s, .d (.int .u8 c.toNat)] (I (Lib.indexByte s c)) := by
  intro E ρ w us hH hus
  refine ⟨.int .i64 (Lib.indexByte s c), .d _ _ (.int _ _), fun w' hbl => ?_⟩
  match us, hus with
  | [u, u'], hus =>
    have hu := hus.2 0 _ u rfl rfl
    have hu' := hus.2 1 _ u' rfl rfl
    cases hu with | d _ _ hu => cases hu with | str _ =>
    cases hu' with | d _ _ hu' => cases hu' with | int _ _ =>
    rw [run_callFunc_extern hf hn hb hx he]
    have := Lib.run_indexByteString (P := P) ⟨s.toArray⟩ (c.toNat : Int) w'
    have e : ((c.toNat : Int)).toNat.toUInt8 = c := by simp
    rw [e] at this
    show (Extern.BytealgIndexByte.indexByte #[.string ⟨s.toArray⟩, .int .u8 (c.toNat : Int)] |>.run P w').andThen _ = _
    rw [this]
    rfl
theorem indexByteS_c (s : List UInt8) (c : UInt8) : acall Tryd.prog [] 194 [S s, .d (.int .u8 c.toNat)] (ret (I (Lib.indexByte s c))) := by
  refine zi tabOk Tryd.func194 rfl (by kernel_rfl) (by simp [Tryd.ntmps194]) ?_; simp only [Tryd.ntmps194, Tryd.results194, List.toList_toArray, apar, List.length_nil, List.length_cons, Nat.reduceAdd]
  (repeat' first
| (with_reducible refine AR.f ?_)
| refine zb (by decide) ?_
| (with_reducible refine AWP.cond rfl ?_ ?_ <;> intro hc <;> (try simp only [hcs, beq_iff_eq, ge_iff_le, gt_iff_lt] at hc))
| ((first | ((first | (with_reducible first | refine zR ?_ | refine zQ (by decide +kernel) ?_ | refine zD (by decide +kernel) ?_ | refine zE (by decide +kernel) ?_ | refine zG (by decide +kernel) ?_)); intro K hK) | refine acallHK_ext (ext_indexByte Tryd.func198 (by kernel_rfl) (by kernel_rfl) (by kernel_rfl) (by kernel_rfl) s c) ?_ | ((first | (with_reducible refine zu ?_ ?_ <;> intro hg) | with_reducible intro hg) <;> (first | (exfalso; simp at hg; done) | (have hg' := hg; (try simp only [hcs, beq_iff_eq, ge_iff_le, gt_iff_lt] at hg'); (try simp only [hg]))))) <;> (try simp (disch := omega) only [go_sem, wn]) <;> (repeat' with_reducible refine And.intro ?_ ?_) <;> (try (with_reducible refine hK _ ?_; clear hK K)))
| omega)
  (refine zF rfl ?_ ?_ ?_ ?_; (iterate 3 (focus ((try simp (disch := omega) only [go_sem, wn]) <;> (try omega) <;> fail))); (try simp (disch := omega) only [go_sem, wn, I, B, S, inj, List.cons.injEq, and_true, true_and, and_self]))
theorem indexL_c (s : List UInt8) (c : UInt8) : acall Tryd.prog [] 191 [S s, S [c]] (ret (I (Lib.indexByte s c))) := by
  refine zi tabOk Tryd.func191 rfl (by kernel_rfl) (by simp [Tryd.ntmps191]) ?_; simp only [Tryd.ntmps191, Tryd.results191, List.toList_toArray, apar, List.length_nil, List.length_cons, Nat.reduceAdd]
  (repeat' first
| (with_reducible refine AR.f ?_)
| refine zb (by decide) ?_
| (with_reducible refine AWP.cond rfl ?_ ?_ <;> intro hc <;> (try simp only [hcs, beq_iff_eq, ge_iff_le, gt_iff_lt] at hc))
| ((first | ((first | (with_reducible first | refine zR ?_ | refine zQ (by decide +kernel) ?_ | refine zD (by decide +kernel) ?_ | refine zE (by decide +kernel) ?_ | refine zG (by decide +kernel) ?_)); intro K hK) | ((first | refine zA (indexByteS_c s c) ?_ ?_ ?_ ?_ ?_); (focus exact rfl); (focus exact rfl); iterate 2 (focus ((try simp (disch := omega) only [go_sem, wn]) <;> (try omega) <;> fail))) | ((first | refine zN (indexByteS_c s c) rfl ?_ ?_); (focus ((try simp (disch := omega) only [go_sem, wn]) <;> (try omega) <;> fail))) | (first | ((first | refine zX (indexByteS_c s c) rfl ?_ ?_ | refine zy (indexByteS_c s c) ?_ ?_); (focus ((try simp (disch := omega) only [go_sem, wn]) <;> (try omega) <;> fail)))) | ((first | (with_reducible refine zu ?_ ?_ <;> intro hg) | with_reducible intro hg) <;> (first | (exfalso; simp at hg; done) | (have hg' := hg; (try simp only [hcs, beq_iff_eq, ge_iff_le, gt_iff_lt] at hg'); (try simp only [hg]))))) <;> (try simp (disch := omega) only [go_sem, wn]) <;> (repeat' with_reducible refine And.intro ?_ ?_) <;> (try (with_reducible refine hK _ ?_; clear hK K)))
| omega)
  · (refine zF rfl ?_ ?_ ?_ ?_; (iterate 3 (focus ((try simp (disch := omega) only [go_sem, wn]) <;> (try omega) <;> fail))); (try simp (disch := omega) only [go_sem, wn, I, B, S, inj, List.cons.injEq, and_true, true_and, and_self]))
    subst hc; simp [Lib.indexByte]
  · (refine zF rfl ?_ ?_ ?_ ?_; (iterate 3 (focus ((try simp (disch := omega) only [go_sem, wn]) <;> (try omega) <;> fail))); (try simp (disch := omega) only [go_sem, wn, I, B, S, inj, List.cons.injEq, and_true, true_and, and_self]))
theorem index1_c (s : List UInt8) (c : UInt8) : acall Tryd.prog [] 182 [S s, S [c]] (ret (I (Lib.indexByte s c))) := by
  refine zi tabOk Tryd.func182 rfl (by kernel_rfl) (by simp [Tryd.ntmps182]) ?_; simp only [Tryd.ntmps182, Tryd.results182, List.toList_toArray, apar, List.length_nil, List.length_cons, Nat.reduceAdd]
  (repeat' first
| (with_reducible refine AR.f ?_)
| refine zb (by decide) ?_
| (with_reducible refine AWP.cond rfl ?_ ?_ <;> intro hc <;> (try simp only [hcs, beq_iff_eq, ge_iff_le, gt_iff_lt] at hc))
| ((first | ((first | (with_reducible first | refine zR ?_ | refine zQ (by decide +kernel) ?_ | refine zD (by decide +kernel) ?_ | refine zE (by decide +kernel) ?_ | refine zG (by decide +kernel) ?_)); intro K hK) | ((first | refine zA (indexL_c s c) ?_ ?_ ?_ ?_ ?_); (focus exact rfl); (focus exact rfl); iterate 2 (focus ((try simp (disch := omega) only [go_sem, wn]) <;> (try omega) <;> fail))) | ((first | refine zN (indexL_c s c) rfl ?_ ?_); (focus ((try simp (disch := omega) only [go_sem, wn]) <;> (try omega) <;> fail))) | (first | ((first | refine zX (indexL_c s c) rfl ?_ ?_ | refine zy (indexL_c s c) ?_ ?_); (focus ((try simp (disch := omega) only [go_sem, wn]) <;> (try omega) <;> fail)))) | ((first | (with_reducible refine zu ?_ ?_ <;> intro hg) | with_reducible intro hg) <;> (first | (exfalso; simp at hg; done) | (have hg' := hg; (try simp only [hcs, beq_iff_eq, ge_iff_le, gt_iff_lt] at hg'); (try simp only [hg]))))) <;> (try simp (disch := omega) only [go_sem, wn]) <;> (repeat' with_reducible refine And.intro ?_ ?_) <;> (try (with_reducible refine hK _ ?_; clear hK K)))
| omega)
  (refine zF rfl ?_ ?_ ?_ ?_; (iterate 3 (focus ((try simp (disch := omega) only [go_sem, wn]) <;> (try omega) <;> fail))); (try simp (disch := omega) only [go_sem, wn, I, B, S, inj, List.cons.injEq, and_true, true_and, and_self]))
theorem hasPrefixL_c (s p : List UInt8) (hp : okS p) (hs : okS s) : acall Tryd.prog [] 168 [S s, S p] (ret (B (decide (p.length ≤ s.length ∧ s.take p.length = p)))) := by
  unfold okS at hp hs
  refine zi tabOk Tryd.func168 rfl (by kernel_rfl) (by simp [Tryd.ntmps168]) ?_; simp only [Tryd.ntmps168, Tryd.results168, List.toList_toArray, apar, List.length_nil, List.length_cons, Nat.reduceAdd]
  (repeat' first
| (with_reducible refine AR.f ?_)
| refine zb (by decide) ?_
| (with_reducible refine AWP.cond rfl ?_ ?_ <;> intro hc <;> (try simp only [hcs, beq_iff_eq, ge_iff_le, gt_iff_lt] at hc))
| ((first | ((first | (with_reducible first | refine zR ?_ | refine zQ (by decide +kernel) ?_ | refine zD (by decide +kernel) ?_ | refine zE (by decide +kernel) ?_ | refine zG (by decide +kernel) ?_)); intro K hK) | ((first | (with_reducible refine zu ?_ ?_ <;> intro hg) | with_reducible intro hg) <;> (first | (exfalso; simp at hg; done) | (have hg' := hg; (try simp only [hcs, beq_iff_eq, ge_iff_le, gt_iff_lt] at hg'); (try simp only [hg]))))) <;> (try simp (disch := omega) only [go_sem, wn]) <;> (repeat' with_reducible refine And.intro ?_ ?_) <;> (try (with_reducible refine hK _ ?_; clear hK K)))
| omega)
  all_goals (refine zF rfl ?_ ?_ ?_ ?_; (iterate 3 (focus ((try simp (disch := omega) only [go_sem, wn]) <;> (try omega) <;> fail))); (try simp (disch := omega) only [go_sem, wn, I, B, S, inj, List.cons.injEq, and_true, true_and, and_self]))
  rw [Bool.eq_iff_iff]; simp
theorem hasPrefix_c (s p : List UInt8) (hp : okS p) (hs : okS s) : acall Tryd.prog [] 139 [S s, S p] (ret (B (decide (p.length ≤ s.length ∧ s.take p.length = p)))) := by
  refine zi tabOk Tryd.func139 rfl (by kernel_rfl) (by simp [Tryd.ntmps139]) ?_; simp only [Tryd.ntmps139, Tryd.results139, List.toList_toArray, apar, List.length_nil, List.length_cons, Nat.reduceAdd]
  (repeat' first
| (with_reducible refine AR.f ?_)
| refine zb (by decide) ?_
| (with_reducible refine AWP.cond rfl ?_ ?_ <;> intro hc <;> (try simp only [hcs, beq_iff_eq, ge_iff_le, gt_iff_lt] at hc))
| ((first | ((first | (with_reducible first | refine zR ?_ | refine zQ (by decide +kernel) ?_ | refine zD (by decide +kernel) ?_ | refine zE (by decide +kernel) ?_ | refine zG (by decide +kernel) ?_)); intro K hK) | ((first | refine zA (hasPrefixL_c s p hp hs) ?_ ?_ ?_ ?_ ?_); (focus exact rfl); (focus exact rfl); iterate 2 (focus ((try simp (disch := omega) only [go_sem, wn]) <;> (try omega) <;> fail))) | ((first | refine zN (hasPrefixL_c s p hp hs) rfl ?_ ?_); (focus ((try simp (disch := omega) only [go_sem, wn]) <;> (try omega) <;> fail))) | (first | ((first | refine zX (hasPrefixL_c s p hp hs) rfl ?_ ?_ | refine zy (hasPrefixL_c s p hp hs) ?_ ?_); (focus ((try simp (disch := omega) only [go_sem, wn]) <;> (try omega) <;> fail)))) | ((first | (with_reducible refine zu ?_ ?_ <;> intro hg) | with_reducible intro hg) <;> (first | (exfalso; simp at hg; done) | (have hg' := hg; (try simp only [hcs, beq_iff_eq, ge_iff_le, gt_iff_lt] at hg'); (try simp only [hg]))))) <;> (try simp (disch := omega) only [go_sem, wn]) <;> (repeat' with_reducible refine And.intro ?_ ?_) <;> (try (with_reducible refine hK _ ?_; clear hK K)))
| omega)
  all_goals (refine zF rfl ?_ ?_ ?_ ?_; (iterate 3 (focus ((try simp (disch := omega) only [go_sem, wn]) <;> (try omega) <;> fail))); (try simp (disch := omega) only [go_sem, wn, I, B, S, inj, List.cons.injEq, and_true, true_and, and_self]))
theorem calls_of_acall {P : Program} {g : FuncId} {xs : List AV} {x : AV} {us : List Value} {u : Value} (c : acall P [] g xs (ret x)) (hxs : scalL xs = some us) (hx : scalV x = some u) (w : World) (ht : TabsAt w) :
    Calls P g us.toArray w fun e w' => e = .returned u ∧ Below w.heap.size w w' := by
  obtain ⟨h1, h2⟩ := scalL_get hxs
  have hH : RepH (⟨w, fun _ => False, fun _ => False, [], by simp, by simp, ht, by simp⟩ : Ent) [] [] w :=
    ⟨rfl, by simp, by simp, by simp, Fr.refl _ _⟩
  refine (c.2 ⟨w, fun _ => False, fun _ => False, [], by simp, by simp, ht, by simp⟩ w us rfl hH ⟨h1, fun j x' u' hx' hu' => ?_⟩).mono fun e w' ⟨u', v, hp', ρ', q1, q2, q3, q4, q5⟩ => ?_
  · obtain ⟨u2, q, hs⟩ := h2 j x' hx'
    rw [hu'] at q; injection q with q; subst q
    exact scal_rep x' u' hs
  · obtain ⟨rfl, rfl⟩ := q2
    exact ⟨by rw [q1, scal_eq q5 u hx], q3.fr.os, q3.fr.tape, q3.fr.output, q3.fr.size, fun k hk => q3.fr.block k hk (by simp)⟩
end Go.Proofs.YtmpfhalheaeibaaDoor
namespace Go.Proofs.YtmpfhalheaeibaaDoor
set_option linter.unusedVariables false
set_option linter.unusedSimpArgs false
open Go Go.RowKit
set_option maxRecDepth 100000
set_option linter.unusedSimpArgs false
def okc (c : UInt8) : Bool := decide ((97 ≤ c.toNat ∧ c.toNat ≤ 122) ∨ (48 ≤ c.toNat ∧ c.toNat ≤ 57) ∨ c.toNat = 45 ∨ c.toNat = 95)
def namedP (s : List UInt8) : Bool := s.all okc && (!decide (s = []) && decide ((s.length : Int) ≤ 40))
theorem all_take {α : Type} [Inhabited α] (p : α → Bool) (l : List α) (d : α) : ∀ k, k ≤ l.length → (∀ j, j < k → p (l.getD j d) = true) → (l.take k).all p = true := by
  intro k hk h
  rw [List.all_eq_true]
  intro x hx
  rw [List.mem_take_iff_getElem] at hx
  obtain ⟨j, hj, rfl⟩ := hx
  have := h j (by omega)
  rwa [List.getD_eq_getElem?_getD, List.getElem?_eq_getElem (by omega)] at this
theorem all_full {α : Type} [Inhabited α] (p : α → Bool) (l : List α) (d : α) (h : ∀ j, j < l.length → p (l.getD j d) = true) : l.all p = true := by
  have := all_take p l d l.length (Nat.le_refl _) h
  rwa [List.take_length] at this
theorem all_not {α : Type} [Inhabited α] {p : α → Bool} {l : List α} {d : α} {k : Nat} (hk : k < l.length) (h : p (l.getD k d) = false) : l.all p = false := by
  rw [List.all_eq_false]
  refine ⟨l.getD k d, ?_, by rw [h]; simp⟩
  rw [List.getD_eq_getElem?_getD, List.getElem?_eq_getElem hk]
  exact List.getElem_mem hk
theorem named_c (s : List UInt8) (h : okS s) : acall Tryd.prog [] 97 [S s] (ret (B (namedP s))) := by
  unfold okS at h
  refine zi tabOk Tryd.func97 rfl (by kernel_rfl) (by simp [Tryd.ntmps97]) ?_; simp only [Tryd.ntmps97, Tryd.results97, List.toList_toArray, apar, List.length_nil, List.length_cons, Nat.reduceAdd]
  (repeat' first
| (with_reducible refine AR.f ?_)
| refine zb (by decide) ?_
| (with_reducible refine AWP.cond rfl ?_ ?_ <;> intro hc <;> (try simp only [hcs, beq_iff_eq, ge_iff_le, gt_iff_lt] at hc))
| ((first | ((first | (with_reducible first | refine zR ?_ | refine zQ (by decide +kernel) ?_ | refine zD (by decide +kernel) ?_ | refine zE (by decide +kernel) ?_ | refine zG (by decide +kernel) ?_)); intro K hK) | ((first | (with_reducible refine zu ?_ ?_ <;> intro hg) | with_reducible intro hg) <;> (first | (exfalso; simp at hg; done) | (have hg' := hg; (try simp only [hcs, beq_iff_eq, ge_iff_le, gt_iff_lt] at hg'); (try simp only [hg]))))) <;> (try simp (disch := omega) only [go_sem, wn]) <;> (repeat' with_reducible refine And.intro ?_ ?_) <;> (try (with_reducible refine hK _ ?_; clear hK K)))
| omega)
  refine AWP.loopS (ι := Nat) (fun k => k ≤ s.length ∧ ∀ j, j < k → okc (s.getD j 0) = true) (fun k => s.length - k) [0] (fun k => [(3, I k)]) 0 ?_ (by simp (disch := omega) only [go_sem, wn, true_and]) ?_
  · exact ⟨by omega, by omega⟩
  intro k ⟨hk, hk2⟩
  simp only [go_sem]
  (repeat' first
| (with_reducible refine AR.f ?_)
| refine zb (by decide) ?_
| (with_reducible refine AWP.cond rfl ?_ ?_ <;> intro hc <;> (try simp only [hcs, beq_iff_eq, ge_iff_le, gt_iff_lt] at hc))
| ((first | ((first | (with_reducible first | refine zR ?_ | refine zQ (by decide +kernel) ?_ | refine zD (by decide +kernel) ?_ | refine zE (by decide +kernel) ?_ | refine zG (by decide +kernel) ?_)); intro K hK) | ((first | (with_reducible refine zu ?_ ?_ <;> intro hg) | with_reducible intro hg) <;> (first | (exfalso; simp at hg; done) | (have hg' := hg; (try simp only [hcs, beq_iff_eq, ge_iff_le, gt_iff_lt] at hg'); (try simp only [hg]))))) <;> (try simp (disch := omega) only [go_sem, wn]) <;> (repeat' with_reducible refine And.intro ?_ ?_) <;> (try (with_reducible refine hK _ ?_; clear hK K)))
| omega)
  · rename_i hl
    have e : s.all okc = false := all_not (d := 0) hl (by unfold okc; rw [decide_eq_false_iff_not]; omega)
    (refine zF rfl ?_ ?_ ?_ ?_; (iterate 3 (focus ((try simp (disch := omega) only [go_sem, wn, namedP, e, Bool.false_and]) <;> (try omega) <;> fail))); (try simp (disch := omega) only [go_sem, wn, namedP, e, Bool.false_and, I, B, S, inj, List.cons.injEq, and_true, true_and, and_self]))
  · refine ⟨k + 1, ⟨by omega, fun j hj => ?_⟩, by omega, ?_⟩
    · by_cases e : j = k
      · subst e; unfold okc; rw [decide_eq_true_eq]; omega
      · exact hk2 j (by omega)
    (refine SImp.same ?_; simp (disch := omega) only [go_sem, wn, Int.natCast_add])
  · have e : s.all okc = true := all_full okc s 0 fun j hj => hk2 j (by omega)
    (refine zF rfl ?_ ?_ ?_ ?_; (iterate 3 (focus ((try simp (disch := omega) only [go_sem, wn, namedP, e, Bool.true_and]) <;> (try omega) <;> fail))); (try simp (disch := omega) only [go_sem, wn, namedP, e, Bool.true_and, I, B, S, inj, List.cons.injEq, and_true, true_and, and_self]))
def letters : List UInt8 := [97, 98, 99, 100, 101, 102, 103, 104, 105, 106, 107, 108, 109, 110, 111, 112, 113, 114, 115, 116, 117, 118, 119, 120, 121, 122, 48, 49, 50, 51, 52, 53, 54, 55, 56, 57, 45, 95]
theorem okc_letters (c : UInt8) : okc c = letters.any (fun x => decide (c = x)) := by
  have h : ∀ n, n < 256 → okc (UInt8.ofNat n) = letters.any (fun x => decide (UInt8.ofNat n = x)) := by unfold okc letters; decide
  have := h c.toNat c.toNat_lt
  simpa using this
theorem any_take {α : Type} [Inhabited α] (p : α → Bool) (l : List α) (d : α) (k : Nat) (hk : k < l.length) : (l.take (k + 1)).any p = ((l.take k).any p || p (l.getD k d)) := by
  rw [List.getD_eq_getElem?_getD, List.getElem?_eq_getElem hk, List.take_add_one, List.getElem?_eq_getElem hk, List.any_append]; simp
theorem u8g (l : List UInt8) (i : Nat) (h : i < l.length) : (l.map u8row).getD i [] = u8row (l.getD i 0) := getD_row u8row l i [] h
theorem ref_named_c (s : List UInt8) (h : okS s) : acall Tryd.prog [] 99 [S s] (ret (B (namedP s))) := by
  unfold okS at h
  refine zi tabOk Tryd.func99 rfl (by kernel_rfl) (by simp [Tryd.ntmps99]) ?_; simp only [Tryd.ntmps99, Tryd.results99, List.toList_toArray, apar, List.length_nil, List.length_cons, Nat.reduceAdd]
  (repeat' first
| (with_reducible refine AR.f ?_)
| refine zb (by decide) ?_
| (with_reducible refine AWP.cond rfl ?_ ?_ <;> intro hc <;> (try simp only [hcs, beq_iff_eq, ge_iff_le, gt_iff_lt] at hc))
| ((first | ((first | (with_reducible first | refine zR ?_ | refine zQ (by decide +kernel) ?_ | refine zD (by decide +kernel) ?_ | refine zE (by decide +kernel) ?_ | refine zG (by decide +kernel) ?_)); intro K hK) | ((first | (with_reducible refine zu ?_ ?_ <;> intro hg) | with_reducible intro hg) <;> (first | (exfalso; simp at hg; done) | (have hg' := hg; (try simp only [hcs, beq_iff_eq, ge_iff_le, gt_iff_lt] at hg'); (try simp only [hg]))))) <;> (try simp (disch := omega) only [go_sem, wn]) <;> (repeat' with_reducible refine And.intro ?_ ?_) <;> (try (with_reducible refine hK _ ?_; clear hK K)))
| omega)
  refine AWP.loopB (ι := Nat) (fun k => k ≤ s.length ∧ ∀ j, j < k → okc (s.getD j 0) = true) (fun k => s.length - k) [0, 3, 10, 11] (fun k => [(12, I k)]) (fun k => [.bytes s]) 0 ?_ ?_ ?_
  · exact ⟨by omega, by omega⟩
  · simp only [go_sem]; (refine SImp.same ?_; simp (disch := omega) only [go_sem, wn, Int.natCast_add])
  intro k ⟨hk, hk2⟩
  have hL : letters.length = 38 := rfl
  simp only [go_sem]
  (repeat' first
| (with_reducible refine AR.f ?_)
| refine zb (by decide) ?_
| (with_reducible refine AWP.cond rfl ?_ ?_ <;> intro hc <;> (try simp only [hcs, beq_iff_eq, ge_iff_le, gt_iff_lt] at hc))
| ((first | ((first | (with_reducible first | refine zR ?_ | refine zQ (by decide +kernel) ?_ | refine zD (by decide +kernel) ?_ | refine zE (by decide +kernel) ?_ | refine zG (by decide +kernel) ?_)); intro K hK) | ((first | (with_reducible refine zu ?_ ?_ <;> intro hg) | with_reducible intro hg) <;> (first | (exfalso; simp at hg; done) | (have hg' := hg; (try simp only [hcs, beq_iff_eq, ge_iff_le, gt_iff_lt] at hg'); (try simp only [hg]))))) <;> (try simp (disch := omega) only [go_sem, wn, u8g]) <;> (repeat' with_reducible refine And.intro ?_ ?_) <;> (try (with_reducible refine hK _ ?_; clear hK K)))
| omega)
  · refine AWP.loopB (ι := Nat) (fun j => j ≤ 38) (fun j => 38 - j) [0, 3, 5, 10, 11, 12, 17, 18] (fun j => [(6, B ((letters.take j).any (fun x => decide (s.getD k 0 = x)))), (19, I j)]) (fun j => [.bytes s, .bytes letters]) 0 ?_ ?_ ?_
    · omega
    · simp only [go_sem, letters]; (refine SImp.same ?_; simp (disch := omega) only [go_sem, wn, Int.natCast_add, letters, List.take_zero, List.any_nil])
    intro j hj
    simp only [go_sem]
    (repeat' first
  | (with_reducible refine AR.f ?_)
  | refine zb (by decide) ?_
  | (with_reducible refine AWP.cond rfl ?_ ?_ <;> intro hc <;> (try simp only [hcs, beq_iff_eq, ge_iff_le, gt_iff_lt] at hc))
  | ((first | ((first | (with_reducible first | refine zR ?_ | refine zQ (by decide +kernel) ?_ | refine zD (by decide +kernel) ?_ | refine zE (by decide +kernel) ?_ | refine zG (by decide +kernel) ?_)); intro K hK) | ((first | (with_reducible refine zu ?_ ?_ <;> intro hg) | with_reducible intro hg) <;> (first | (exfalso; simp at hg; done) | (have hg' := hg; (try simp only [hcs, beq_iff_eq, ge_iff_le, gt_iff_lt] at hg'); (try simp only [hg]))))) <;> (try simp (disch := omega) only [go_sem, wn, u8g]) <;> (repeat' with_reducible refine And.intro ?_ ?_) <;> (try (with_reducible refine hK _ ?_; clear hK K)))
  | omega)
    · refine ⟨j + 1, by omega, by omega, ?_⟩
      have e1 : ((letters.take (j + 1)).any fun x => decide (s.getD k 0 = x)) = (((letters.take j).any fun x => decide (s.getD k 0 = x)) || decide (s.getD k 0 = letters.getD j 0)) := any_take _ letters 0 j (by omega)
      have e2 : ((((s.getD k 0).toNat : Int) = ((letters.getD j 0).toNat : Int))) = (s.getD k 0 = letters.getD j 0) := by
        rw [Int.natCast_inj, UInt8.toNat_inj]
      (refine SImp.same ?_; simp (disch := omega) only [go_sem, wn, Int.natCast_add, e1, e2])
    · have e0 : j = 38 := by omega
      subst e0
      have e : s.all okc = false := all_not (d := 0) (by assumption) (by rw [okc_letters]; exact hc)
      (refine zF rfl ?_ ?_ ?_ ?_; (iterate 3 (focus ((try simp (disch := omega) only [go_sem, wn, namedP, e, Bool.false_and]) <;> (try omega) <;> fail))); (try simp (disch := omega) only [go_sem, wn, namedP, e, Bool.false_and, I, B, S, inj, List.cons.injEq, and_true, true_and, and_self]))
    · have e0 : j = 38 := by omega
      subst e0
      refine ⟨k + 1, ⟨by omega, fun j hj => ?_⟩, by omega, ?_⟩
      · by_cases e : j = k
        · subst e; rw [okc_letters]; exact hc
        · exact hk2 j (by omega)
      (refine SImp.frame [0] rfl (by intro k hk; first | (simp at hk <;> (simp; omega)) | (simp only [List.mem_cons, List.not_mem_nil, or_false] at hk; simp only [List.length_cons, List.length_nil]; omega)) (by decide) (fun k hk => by first | omega | (rcases k with _ | _ | _ | _ | _ | _ | _ | _ | k <;> first | rfl | omega)) ?_ ?_ <;> simp (disch := omega) only [go_sem, wn, Int.natCast_add, true_and] <;> (try rfl))
  · have e : s.all okc = true := all_full okc s 0 fun j hj => hk2 j (by omega)
    (refine zF rfl ?_ ?_ ?_ ?_; (iterate 3 (focus ((try simp (disch := omega) only [go_sem, wn, namedP, e, Bool.true_and]) <;> (try omega) <;> fail))); (try simp (disch := omega) only [go_sem, wn, namedP, e, Bool.true_and, I, B, S, inj, List.cons.injEq, and_true, true_and, and_self]))
    cases s <;> simp <;> omega
end Go.Proofs.YtmpfhalheaeibaaDoor
namespace Go.Proofs.YtmpfhalheaeibaaDoor
set_option linter.unusedVariables false
set_option linter.unusedSimpArgs false
open Go Go.RowKit Go.Shelf
attribute [local go_sem] Oper.semAt_some
set_option maxRecDepth 100000
set_option linter.unusedSimpArgs false
def lenAt (W : World) (b : Nat) : Nat := match W.cell? ⟨b, 0, none⟩ with
  | some (.string s) => s.size
  | _ => 0
def splitB : List UInt8 → List (List UInt8)
  | [] => [[]]
  | c :: r => if c = 47 then [] :: splitB r else match splitB r with
    | p :: ps => (c :: p) :: ps
    | [] => [[c]]
def allNamed (r : List UInt8) : Bool := (splitB r).all namedP
theorem splitB_ne (r : List UInt8) : splitB r ≠ [] := by
  induction r with
  | nil => simp [splitB]
  | cons c r ih =>
    unfold splitB
    split
    · simp
    · split <;> simp
theorem idx_cases (r : List UInt8) : (Lib.indexByte r 47 = -1 ∧ splitB r = [r]) ∨ ∃ i : Nat, Lib.indexByte r 47 = (i : Int) ∧ i < r.length ∧ splitB r = r.take i :: splitB (r.drop (i + 1)) := by
  induction r with
  | nil => exact .inl ⟨rfl, rfl⟩
  | cons c r ih =>
    by_cases h : c = 47
    · subst h
      exact .inr ⟨0, by simp [Lib.indexByte], by simp, by simp [splitB]⟩
    · rcases ih with ⟨e1, e2⟩ | ⟨i, e1, e2, e3⟩
      · refine .inl ⟨by simp [Lib.indexByte, h, e1], by simp [splitB, h, e2]⟩
      · refine .inr ⟨i + 1, ?_, by simp; omega, by simp [splitB, h, e3]⟩
        simp only [Lib.indexByte, e1]
        rw [if_neg (by simpa using h), if_neg (by simp)]
        omega
theorem index_calls (r : List UInt8) (W : World) (ht : TabsAt W) : Calls Tryd.prog 182 #[mkStr r, mkStr [47]] W fun e W' => e = .returned (.int .i64 (Lib.indexByte r 47)) ∧ Below W.heap.size W W' :=
  calls_of_acall (index1_c r 47) rfl rfl W ht
set_option maxHeartbeats 2000000 in
theorem split1 (n l Bs Bp Bv : Nat) (J : List UInt8 → World → Prop) (Jx : World → Prop)
    (hc : ∀ r W, J r W → W.cell? ⟨Bs, 0, none⟩ = some (mkStr r) ∧ W.frozen? ⟨Bs, 0, none⟩ = false ∧ W.cell? ⟨Bp, 0, none⟩ = some (mkStr [47]) ∧ W.cell? ⟨Bv, 0, none⟩ = some (.int .i64 0))
    (hs : ∀ r r' W, J r W → J r' (W.setCell ⟨Bs, 0, none⟩ (mkStr r'))) (hb : ∀ r W W', J r W → Below W.heap.size W W' → J r W') (ht : ∀ r W, J r W → TabsAt W)
    (hY : ∀ r W p, J r W → p.length ≤ 200 → YieldAt Fence.wide (n - 1) Tryd.prog l #[mkStr p] W (fun e W' => (e = .returned (.bool true) ∧ namedP p = true ∧ J r W') ∨ (e = .returned (.bool false) ∧ namedP p = false ∧ Jx W')))
    (r0 : List UInt8) (hr0 : r0.length ≤ 200) (W : World) (h0 : J r0 W) :
    CallsIn Fence.wide n Tryd.prog 180 #[.func (.yield l) #[] #[], .pointer (some ⟨Bp, 0, none⟩), .pointer (some ⟨Bs, 0, none⟩), .pointer (some ⟨Bv, 0, none⟩)] W fun e W' =>
      (∃ v, e = .returned v) ∧ ((allNamed r0 = true ∧ ∃ r, J r W') ∨ (allNamed r0 = false ∧ Jx W')) := by
  refine callsIn_of_wp Tryd.func180 rfl trivial ?_ rfl
  simp only [Tryd.ntmps180, List.size_toArray, List.length_cons, List.length_nil, Nat.reduceAdd, Nat.reduceSub, Array.replicate_succ, Array.replicate_zero, List.push_toArray, List.append_toArray, List.nil_append, List.cons_append]
  unfold mkStr at hc
  obtain ⟨h1, h2, h3, h4⟩ := hc _ _ h0
  gi_wp2
  gi_loopw [] (fun wr => ∃ r, J r wr ∧ r.length ≤ 200 ∧ allNamed r0 = allNamed r) (fun wr => lenAt wr Bs)
  case atStart => exact ⟨r0, h0, hr0, rfl⟩
  case round =>
    obtain ⟨r, hJ, hrl, hal⟩ := hrel
    obtain ⟨q1, q2, q3, q4⟩ := hc _ _ hJ
    have hm0 : lenAt wr Bs = r.length := by unfold lenAt; rw [q1]; simp [ByteArray.size]
    gi_wp2
    refine ⟨trivial, fun h => by simp [Fence.wide] at h, (callsIn_wide.2 (show Calls _ _ #[.string ⟨r.toArray⟩, .string ⟨#[47]⟩] _ _ from index_calls r wr (ht _ _ hJ))).mono ?_⟩
    rintro e w' ⟨rfl, hbl⟩
    have hJ' := hb _ _ _ hJ hbl
    clear q1 q2 q3 q4
    obtain ⟨q1, q2, q3, q4⟩ := hc _ _ hJ'
    rcases idx_cases r with ⟨ei, es⟩ | ⟨i, ei, hil, es⟩
    · rw [ei]
      have ea : allNamed r = namedP r := by unfold allNamed; rw [es]; simp
      obtain ⟨fn, tmps, assign, body, hy, hR⟩ := hY r w' r hJ' hrl
      unfold mkStr at hy
      gi_wp2
      refine ⟨fun h => by simp [Fence.wide] at h, hR.mono ?_⟩
      rintro e W3 (⟨rfl, hn, hJ3⟩ | ⟨rfl, hn, hJx3⟩)
      · gi_wp2
        go_end0
        exact ⟨⟨_, rfl⟩, .inl ⟨by rw [hal, ea, hn], r, hJ3⟩⟩
      · gi_wp2
        go_end0
        exact ⟨⟨_, rfl⟩, .inr ⟨by rw [hal, ea, hn], hJx3⟩⟩
    · rw [ei]
      have e0 : mkStr (r.take i) = .string ((⟨r.toArray⟩ : ByteArray).extract 0 i) := by unfold mkStr; rw [mk_extract]; simp
      have ea : allNamed r = (namedP (r.take i) && allNamed (r.drop (i + 1))) := by unfold allNamed; rw [es]; simp
      obtain ⟨fn, tmps, assign, body, hy, hR⟩ := hY r w' (r.take i) hJ' (by rw [List.length_take]; omega)
      rw [e0] at hy
      gi_wp2
      refine ⟨fun h => by simp [Fence.wide] at h, hR.mono ?_⟩
      rintro e W3 (⟨rfl, hn, hJ3⟩ | ⟨rfl, hn, hJx3⟩)
      · obtain ⟨t1, t2, t3, t4⟩ := hc _ _ hJ3
        gi_wp2
        have e2 : Value.string ((⟨r.toArray⟩ : ByteArray).extract (i + 1) r.length) = mkStr (r.drop (i + 1)) := by
          unfold mkStr; rw [mk_extract, List.take_of_length_le (by simp)]
        have hJ4 := hs r (r.drop (i + 1)) W3 hJ3
        rw [e2]
        refine ⟨⟨_, hJ4, by rw [List.length_drop]; omega, by rw [hal, ea, hn]; rfl⟩, ?_⟩
        rw [hm0]
        unfold lenAt
        rw [(hc _ _ hJ4).1]
        simp [ByteArray.size]; omega
      · gi_wp2
        refine bodyPost_ret (results_none rfl _ _ _) rfl ?_
        exact ⟨⟨_, rfl⟩, .inr ⟨by rw [hal, ea, hn]; rfl, hJx3⟩⟩
theorem named_calls (p : List UInt8) (h : p.length ≤ 200) (W : World) (ht : TabsAt W) : Calls Tryd.prog 97 #[.string ⟨p.toArray⟩] W fun e W' => e = .returned (.bool (namedP p)) ∧ Below W.heap.size W W' :=
  calls_of_acall (named_c p (by unfold okS; omega)) rfl rfl W ht
theorem prefix_calls (p : List UInt8) (h : okS p) (W : World) (ht : TabsAt W) : Calls Tryd.prog 139 #[.string ⟨p.toArray⟩, .string ⟨#[47]⟩] W fun e W' => e = .returned (.bool (decide (1 ≤ p.length ∧ p.take 1 = [47]))) ∧ Below W.heap.size W W' :=
  calls_of_acall (hasPrefix_c p [47] (by unfold okS; decide) h) rfl rfl W ht
theorem splitSeq_w (s : List UInt8) (w : World) : Calls Tryd.prog 140 #[.string ⟨s.toArray⟩, .string ⟨#[47]⟩] w fun e w' =>
    e = .returned (.func (.func 180) #[] #[.pointer (some ⟨w.heap.size + 1, 0, none⟩), .pointer (some ⟨w.heap.size, 0, none⟩), .pointer (some ⟨w.heap.size + 2, 0, none⟩)]) ∧
      ∃ a b c, w' = ((w.alloc (.cells #[.string ⟨s.toArray⟩] a)).alloc (.cells #[.string ⟨#[47]⟩] b)).alloc (.cells #[.int .i64 0] c) := by
  go_enter Tryd.func140, Tryd.ntmps140
  go_wp2
  go_ret
  exact ⟨rfl, _, _, _, rfl⟩
def goodP (s : List UInt8) : Bool := decide (s = [47]) || (decide (s.length ≤ 200) && (decide (1 ≤ s.length ∧ s.take 1 = [47]) && allNamed (s.drop 1)))
structure GJ (w : World) (B : Nat) (rec : Loop) (r : List UInt8) (W : World) : Prop where
  below : Below w.heap.size w W
  res : W.cell? ⟨w.heap.size, 0, none⟩ = some (.bool false)
  resf : W.frozen? ⟨w.heap.size, 0, none⟩ = false
  s : W.cell? ⟨B, 0, none⟩ = some (mkStr r)
  sf : W.frozen? ⟨B, 0, none⟩ = false
  p : W.cell? ⟨B + 1, 0, none⟩ = some (mkStr [47])
  v : W.cell? ⟨B + 2, 0, none⟩ = some (.int .i64 0)
  d : W.heap[B + 3]? = some (.deferred (some []))
  l : W.heap[B + 4]? = some (.loop rec)
theorem cell_other {W : World} {k k' : Nat} {v : Value} (h : k ≠ k') : (W.setCell ⟨k, 0, none⟩ v).cell? ⟨k', 0, none⟩ = W.cell? ⟨k', 0, none⟩ := by
  have : (⟨k, 0, none⟩ : Addr) ≠ ⟨k', 0, none⟩ := fun e => h (by injection e)
  simp [World.cell?_setCell_other, this]
theorem heap_lt {W : World} {k : Nat} {o : Obj} (h : W.heap[k]? = some o) : k < W.heap.size := (Array.getElem?_eq_some_iff.1 h).1
section
variable {w W W' : World} {B : Nat} {rec : Loop} {r : List UInt8}
theorem GJ.write (hB : w.heap.size < B) (h : GJ w B rec r W) (r' : List UInt8) : GJ w B rec r' (W.setCell ⟨B, 0, none⟩ (mkStr r')) :=
  ⟨h.below.setCell (by simp only; omega) _, by rw [cell_other (by omega)]; exact h.res, by rw [World.frozen?_setCell]; exact h.resf, World.cell?_setCell_same' _ _ _ (by rw [h.s]; rfl), by rw [World.frozen?_setCell]; exact h.sf,
    by rw [cell_other (by omega)]; exact h.p, by rw [cell_other (by omega)]; exact h.v, by rw [Below.heap_setCell _ _ _ _ (by simp only; omega)]; exact h.d, by rw [Below.heap_setCell _ _ _ _ (by simp only; omega)]; exact h.l⟩
theorem GJ.mark (hB : w.heap.size < B) (h : GJ w B rec r W) : GJ w B rec r (W.setCell ⟨w.heap.size, 0, none⟩ (.bool false)) :=
  ⟨h.below.setCell (Nat.le_refl _) _, World.cell?_setCell_same' _ _ _ (by rw [h.res]; rfl), by rw [World.frozen?_setCell]; exact h.resf, by rw [cell_other (by omega)]; exact h.s, by rw [World.frozen?_setCell]; exact h.sf,
    by rw [cell_other (by omega)]; exact h.p, by rw [cell_other (by omega)]; exact h.v, by rw [Below.heap_setCell _ _ _ _ (by simp only; omega)]; exact h.d, by rw [Below.heap_setCell _ _ _ _ (by simp only; omega)]; exact h.l⟩
theorem GJ.grow (hB : w.heap.size < B) (h : GJ w B rec r W) (hb : Below W.heap.size W W') : GJ w B rec r W' := by
  have hl := heap_lt h.l
  exact ⟨h.below.trans (hb.mono h.below.size), by rw [hb.cell (by simp only; omega)]; exact h.res, by rw [hb.frozen (by simp only; omega)]; exact h.resf, by rw [hb.cell (by simp only; omega)]; exact h.s, by rw [hb.frozen (by simp only; omega)]; exact h.sf,
    by rw [hb.cell (by simp only; omega)]; exact h.p, by rw [hb.cell (by simp only; omega)]; exact h.v, by rw [hb.block _ (by omega)]; exact h.d, by rw [hb.block _ (by omega)]; exact h.l⟩
theorem GJ.turn (hB : w.heap.size < B) (h : GJ w B rec r W) (rec' : Loop) : GJ w B rec' r (W.putObj (B + 4) (.loop rec')) := by
  have hl := heap_lt h.l
  have hcell : ∀ k, k ≠ B + 4 → (W.putObj (B + 4) (.loop rec')).cell? ⟨k, 0, none⟩ = W.cell? ⟨k, 0, none⟩ := fun k hk => World.cell?_of_block (World.putObj_heap_other hk)
  have hfz : ∀ k, k ≠ B + 4 → (W.putObj (B + 4) (.loop rec')).frozen? ⟨k, 0, none⟩ = W.frozen? ⟨k, 0, none⟩ := fun k hk => World.frozen?_of_block (World.putObj_heap_other hk)
  exact ⟨h.below.trans ⟨rfl, rfl, rfl, by simp, fun k hk => World.putObj_heap_other (by omega)⟩, by rw [hcell _ (by omega)]; exact h.res, by rw [hfz _ (by omega)]; exact h.resf, by rw [hcell _ (by omega)]; exact h.s, by rw [hfz _ (by omega)]; exact h.sf,
    by rw [hcell _ (by omega)]; exact h.p, by rw [hcell _ (by omega)]; exact h.v, by rw [World.putObj_heap_other (by omega)]; exact h.d, World.putObj_heap_same hl⟩
end
theorem wpIn_split {assign body : Code} {Q : Exit → Act → World → Prop} {tm : Array Value} {pt : Tmp} {g : Operand} {w W0 : World} {B : Nat} (a₁ : Value → Act) (hB : w.heap.size < B) (htw : TabsAt w)
    (hg : Act.eval { tmps := tm, defers := [] } g = .func (.func 180) #[] #[.pointer (some ⟨B + 1, 0, none⟩), .pointer (some ⟨B, 0, none⟩), .pointer (some ⟨B + 2, 0, none⟩)])
    (r0 : List UInt8) (hr0 : r0.length ≤ 200) (hsz : W0.heap.size = B + 3) (hJ0 : ∀ rec, GJ w B rec r0 ((W0.alloc (.deferred (some []))).alloc (.loop rec)))
    (hassign : ∀ (l : Nat) (x : Value) (W : World) (K : Act → World → Prop), K (a₁ x) W → assign.wpIn (Fence.wide.inRound l) 7 Tryd.prog (Exit.then K (fun _ _ _ => False)) { tmps := tm.setIfInBounds pt x, defers := [] } W)
    (hbody : ∀ (l : Nat) (x : List UInt8) (W : World), TabsAt W → x.length ≤ 200 → w.heap.size < W.heap.size → W.cell? ⟨w.heap.size, 0, none⟩ = some (.bool false) → W.frozen? ⟨w.heap.size, 0, none⟩ = false →
      body.wpIn (Fence.wide.inRound l) 7 Tryd.prog (fun e _ W' => (e = .normal ∧ namedP x = true ∧ Below W.heap.size W W') ∨ (e = .ret ∧ namedP x = false ∧ ∃ W2, Below W.heap.size W W2 ∧ W' = W2.setCell ⟨w.heap.size, 0, none⟩ (.bool false))) (a₁ (mkStr x)) W)
    (hdone : ∀ (W : World) (rec : Loop) (r : List UInt8), allNamed r0 = true → GJ w B rec r W → Q .normal { tmps := tm, defers := [{ target := .collected (B + 3), args := #[] }] } W)
    (hstop : ∀ (W : World) (rec : Loop) (r : List UInt8), allNamed r0 = false → GJ w B rec r W → Code.ret.wpIn Fence.wide 9 Tryd.prog Q { tmps := tm, defers := [{ target := .collected (B + 3), args := #[] }] } W) :
    (Code.rangeFunc g #[pt] assign body).wpIn Fence.wide 9 Tryd.prog Q { tmps := tm, defers := [] } W0 := by
  refine wpIn_rangeFunc ?_
  intro fn hfn
  obtain ⟨rec, hrec⟩ : ∃ rec : LoopState → Option Code → Loop, rec = fun st pe => { state := st, pending := pe, fn := fn, tmps := tm, params := #[pt], assign := assign, body := body, defers := B + 3 } := ⟨_, rfl⟩
  have hr : ∀ st pe, rec st pe = { state := st, pending := pe, fn := fn, tmps := tm, params := #[pt], assign := assign, body := body, defers := B + 3 } := fun st pe => by rw [hrec]
  have hJ := hJ0 (rec .ready none)
  obtain ⟨W1, hW1⟩ : ∃ W1, (W0.alloc (.deferred (some []))).alloc (.loop (rec .ready none)) = W1 := ⟨_, rfl⟩
  rw [hW1] at hJ
  refine ⟨B + 4, [{ target := .collected (B + 3), args := #[] }], W1,
    { target := .fn (.func 180) #[.pointer (some ⟨B + 1, 0, none⟩), .pointer (some ⟨B, 0, none⟩), .pointer (some ⟨B + 2, 0, none⟩)], args := #[.func (.yield (B + 4)) #[] #[]] }, W1, 180,
    #[.func (.yield (B + 4)) #[] #[], .pointer (some ⟨B + 1, 0, none⟩), .pointer (some ⟨B, 0, none⟩), .pointer (some ⟨B + 2, 0, none⟩)], W1, ?_, ?_, fun _ _ => trivial, ?_, fun h => by simp [Fence.wide] at h, ?_⟩
  · have := run_enterLoop_outer (P := Tryd.prog) (w := W0) fn tm #[pt] assign body
    rw [hsz, show B + 3 + 1 = B + 4 from rfl, ← hr, hW1] at this
    exact this
  · simp only [resolve, hg]
    simp [go_sem]
  · simp [invoke, go_sem, enters_of Tryd.func180 (by kernel_rfl) rfl]
  · refine (split1 8 (B + 4) B (B + 1) (B + 2) (fun r W => GJ w B (rec .ready none) r W) (fun W => ∃ r, GJ w B (rec .done (some .ret)) r W) (fun r W h => ⟨h.s, h.sf, h.p, h.v⟩)
      (fun r r' W h => h.write hB r') (fun r W W' h hb => h.grow hB hb) (fun r W h => htw.below h.below) ?_ r0 hr0 W1 hJ).mono ?_
    · intro r W x hj hx
      have hy := run_yield (P := Tryd.prog) (args := #[mkStr x]) hj.l (by rw [hr]; rfl)
      rw [hr] at hy
      have hy2 : (Instr.yield (B + 4) #[mkStr x]).run Tryd.prog W = .ok (.round (B + 4) fn (tm.setIfInBounds pt (mkStr x)) assign body) W := by rw [hy]; simp
      refine ⟨fn, _, assign, body, hy2, roundIn_of_wpIn hfn ?_⟩
      refine hassign _ (mkStr x) W _ ?_
      refine ⟨_, run_beginRound hj.l (by rw [hr]), ?_⟩
      have hj2 := hj.turn hB ({ rec .ready none with state := .busy })
      have hl2 := heap_lt hj2.l
      have hl3 := Nat.lt_trans (show w.heap.size < B + 4 by omega) hl2
      refine wpIn_mono (hbody _ x _ (htw.below hj2.below) hx hl3 hj2.res hj2.resf) ?_
      rintro e a3 W3 (⟨rfl, hn, hb3⟩ | ⟨rfl, hn, W2, hb2, rfl⟩)
      · have hj3 := hj2.grow hB hb3
        have := run_endRound (P := Tryd.prog) none hj3.l
        refine ⟨_, _, this, .inl ⟨rfl, hn, ?_⟩⟩
        have hj4 := hj3.turn hB (rec .ready none)
        rw [hr] at hj4
        rw [hr]
        exact hj4
      · have hj3 := (hj2.grow hB hb2).mark hB
        have := run_endRound (P := Tryd.prog) (some .ret) hj3.l
        refine ⟨_, _, this, .inr ⟨rfl, hn, r, ?_⟩⟩
        have hj4 := hj3.turn hB (rec .done (some .ret))
        simp only [hr] at hj4 ⊢
        exact hj4
    · rintro e W2 ⟨⟨v, rfl⟩, (⟨ha, r, hj⟩ | ⟨ha, r, hj⟩)⟩
      · have := run_endLoop (P := Tryd.prog) hj.l (by rw [hr]; simp)
        exact ⟨_, _, this, by rw [hr]; exact hdone _ _ r ha (hj.turn hB _)⟩
      · have := run_endLoop (P := Tryd.prog) hj.l (by rw [hr]; simp)
        exact ⟨_, _, this, by rw [hr]; exact hstop _ _ r ha (hj.turn hB _)⟩
theorem three_cells {w w' : World} {r : List UInt8} (hb : Below w.heap.size w w') (hB : w.heap.size < w'.heap.size) (c1 : w'.cell? ⟨w.heap.size, 0, none⟩ = some (.bool false)) (c2 : w'.frozen? ⟨w.heap.size, 0, none⟩ = false) (ta tb tc : TypeId) (rec : Loop) :
    GJ w w'.heap.size rec r (((((w'.alloc (.cells #[.string ⟨r.toArray⟩] ta)).alloc (.cells #[.string ⟨#[47]⟩] tb)).alloc (.cells #[.int .i64 0] tc)).alloc (.deferred (some []))).alloc (.loop rec)) := by
  obtain ⟨W1, h1⟩ : ∃ W1, w'.alloc (.cells #[.string ⟨r.toArray⟩] ta) = W1 := ⟨_, rfl⟩
  have a1 := World.alloc_heap_new w' (.cells #[.string ⟨r.toArray⟩] ta)
  have s1 : W1.heap.size = w'.heap.size + 1 := by rw [← h1, World.size_alloc]
  have k1 : ∀ k, k < w'.heap.size → W1.heap[k]? = w'.heap[k]? := fun k hk => by rw [← h1]; exact Below.heap_alloc _ _ _ hk
  rw [h1] at a1 ⊢
  obtain ⟨W2, h2⟩ : ∃ W2, W1.alloc (.cells #[.string ⟨#[47]⟩] tb) = W2 := ⟨_, rfl⟩
  have a2 := World.alloc_heap_new W1 (.cells #[.string ⟨#[47]⟩] tb)
  have s2 : W2.heap.size = w'.heap.size + 2 := by rw [← h2, World.size_alloc, s1]
  have k2 : ∀ k, k < W1.heap.size → W2.heap[k]? = W1.heap[k]? := fun k hk => by rw [← h2]; exact Below.heap_alloc _ _ _ hk
  rw [h2, s1] at a2
  rw [h2]
  obtain ⟨W3, h3⟩ : ∃ W3, W2.alloc (.cells #[.int .i64 0] tc) = W3 := ⟨_, rfl⟩
  have a3 := World.alloc_heap_new W2 (.cells #[.int .i64 0] tc)
  have s3 : W3.heap.size = w'.heap.size + 3 := by rw [← h3, World.size_alloc, s2]
  have k3 : ∀ k, k < W2.heap.size → W3.heap[k]? = W2.heap[k]? := fun k hk => by rw [← h3]; exact Below.heap_alloc _ _ _ hk
  rw [h3, s2] at a3
  rw [h3]
  obtain ⟨W4, h4⟩ : ∃ W4, W3.alloc (.deferred (some [])) = W4 := ⟨_, rfl⟩
  have a4 := World.alloc_heap_new W3 (.deferred (some []))
  have s4 : W4.heap.size = w'.heap.size + 4 := by rw [← h4, World.size_alloc, s3]
  have k4 : ∀ k, k < W3.heap.size → W4.heap[k]? = W3.heap[k]? := fun k hk => by rw [← h4]; exact Below.heap_alloc _ _ _ hk
  rw [h4, s3] at a4
  rw [h4]
  obtain ⟨W5, h5⟩ : ∃ W5, W4.alloc (.loop rec) = W5 := ⟨_, rfl⟩
  have a5 := World.alloc_heap_new W4 (.loop rec)
  have s5 : W5.heap.size = w'.heap.size + 5 := by rw [← h5, World.size_alloc, s4]
  have k5 : ∀ k, k < W4.heap.size → W5.heap[k]? = W4.heap[k]? := fun k hk => by rw [← h5]; exact Below.heap_alloc _ _ _ hk
  rw [h5, s4] at a5
  rw [h5]
  have hbb : Below w'.heap.size w' W5 := by
    rw [← h5, ← h4, ← h3, ← h2, ← h1]
    exact (((((Below.refl _ w').alloc (Nat.le_refl _) _).alloc (by simp) _).alloc (by simp; omega) _).alloc (by simp; omega) _).alloc (by simp; omega) _
  have hk : ∀ k, k < w'.heap.size → W5.heap[k]? = w'.heap[k]? := fun k hk => hbb.block k hk
  have e0 : W5.heap[w'.heap.size]? = some (.cells #[.string ⟨r.toArray⟩] ta) := by rw [k5 _ (by omega), k4 _ (by omega), k3 _ (by omega), k2 _ (by omega)]; exact a1
  have e1 : W5.heap[w'.heap.size + 1]? = some (.cells #[.string ⟨#[47]⟩] tb) := by rw [k5 _ (by omega), k4 _ (by omega), k3 _ (by omega)]; exact a2
  have e2 : W5.heap[w'.heap.size + 2]? = some (.cells #[.int .i64 0] tc) := by rw [k5 _ (by omega), k4 _ (by omega)]; exact a3
  exact ⟨hb.trans (hbb.mono (by omega)), by rw [World.cell?_of_block (hk _ hB)]; exact c1, by rw [World.frozen?_of_block (hk _ hB)]; exact c2,
    by rw [cell_of_cells e0]; rfl, by rw [frozen_cells e0]; rfl, by rw [cell_of_cells e1]; rfl, by rw [cell_of_cells e2]; rfl, by rw [k5 _ (by omega)]; exact a4, a5⟩
theorem good_res (tmps : Array Value) (W : World) (b : Nat) (v : Bool) (ht : tmps.getD 2 undef = .pointer (some ⟨b, 0, none⟩)) (hc : W.cell? ⟨b, 0, none⟩ = some (.bool v)) : (results Tryd.f90 tmps).run Tryd.prog W = .ok (.bool v) W := by
  rw [results_eq, Tryd.results90]
  simp [resVar, ht, go_sem, hc]
theorem cell_new (W : World) (v : Value) (t : TypeId) : (W.alloc (.cells #[v] t)).cell? ⟨W.heap.size, 0, none⟩ = some v ∧ (W.alloc (.cells #[v] t)).frozen? ⟨W.heap.size, 0, none⟩ = false := by
  have e := World.alloc_heap_new W (.cells #[v] t)
  exact ⟨by rw [cell_of_cells e]; rfl, by rw [frozen_cells e]; rfl⟩
set_option maxHeartbeats 4000000 in
theorem good_in (s : List UInt8) (h : okS s) (w : World) (htw : TabsAt w) : CallsIn Fence.wide 9 Tryd.prog 90 #[.string ⟨s.toArray⟩] w fun e w' => e = .returned (.bool (goodP s)) ∧ Below w.heap.size w w' := by
  refine callsIn_of_wp_marks Tryd.func90 rfl trivial ?_ rfl
  simp only [Tryd.ntmps90, List.size_toArray, List.length_cons, List.length_nil, Nat.reduceAdd, Nat.reduceSub, Array.replicate_succ, Array.replicate_zero, List.push_toArray, List.append_toArray, List.nil_append, List.cons_append]
  have hA := cell_new w (.bool false) 4
  have hB := cell_new w (.bool true) 4
  have hbA : Below w.heap.size w (w.alloc (.cells #[.bool false] 4)) := (Below.refl _ w).alloc (Nat.le_refl _) _
  have hbB : Below w.heap.size w (w.alloc (.cells #[.bool true] 4)) := (Below.refl _ w).alloc (Nat.le_refl _) _
  by_cases h1 : s = [47]
  · subst h1
    gi_wp2
    exact ⟨_, good_res _ _ w.heap.size true rfl hB.1, rfl, hbB⟩
  have g1 : goodP s = (decide (s.length ≤ 200) && (decide (1 ≤ s.length ∧ s.take 1 = [47]) && allNamed (s.drop 1))) := by unfold goodP; rw [decide_eq_false h1, Bool.false_or]
  by_cases h2 : 200 < s.length
  · have g2 : goodP s = false := by rw [g1, decide_eq_false (by omega), Bool.false_and]
    gi_wp2
    · rename_i hx; exact absurd (by simpa using hx) h1
    · refine ⟨trivial, ?_⟩
      gi_wp2
      exact ⟨_, good_res _ _ w.heap.size false rfl hA.1, by rw [g2], hbA⟩
  · have g2 : goodP s = (decide (1 ≤ s.length ∧ s.take 1 = [47]) && allNamed (s.drop 1)) := by rw [g1, decide_eq_true (by omega), Bool.true_and]
    gi_wp2
    · rename_i hx; exact absurd (by simpa using hx) h1
    refine ⟨trivial, (callsIn_wide.2 (prefix_calls s h _ (htw.below hbA))).mono ?_⟩
    rintro e w' ⟨rfl, hbl⟩
    have hbl' := hbA.trans (hbl.mono hbA.size)
    have c1 : w'.cell? ⟨w.heap.size, 0, none⟩ = some (.bool false) := by rw [hbl.cell (by simp)]; exact hA.1
    have c2 : w'.frozen? ⟨w.heap.size, 0, none⟩ = false := by rw [hbl.frozen (by simp)]; exact hA.2
    have hszB : w.heap.size < w'.heap.size := by have := hbl.size; simp at this; omega
    by_cases h3 : 1 ≤ s.length ∧ s.take 1 = [47]
    · have g3 : goodP s = allNamed s.tail := by rw [g2, decide_eq_true h3, Bool.true_and, List.drop_one]
      rw [decide_eq_true h3]
      have e1 : (⟨s.toArray⟩ : ByteArray).extract 1 s.length = ⟨s.tail.toArray⟩ := by rw [mk_extract, List.take_of_length_le (by simp), List.drop_one]
      gi_wp2
      refine ⟨trivial, (callsIn_wide.2 (splitSeq_w s.tail w')).mono ?_⟩
      rintro e w2 ⟨rfl, ta, tb, tc, rfl⟩
      gi_wp2
      refine wpIn_split (w := w) (B := w'.heap.size) (fun x => { tmps := #[.string ⟨s.toArray⟩, undef, .pointer (some ⟨w.heap.size, 0, none⟩), x, .string ⟨s.toArray⟩, .bool false, .string ⟨s.toArray⟩, .int .i64 s.length, .bool (decide (200 < (s.length : Int))), .bool (decide (200 < (s.length : Int))), .string ⟨s.toArray⟩, .bool true, .bool false, .bool (decide (200 < (s.length : Int))), .string ⟨s.toArray⟩, .string ⟨s.tail.toArray⟩, .func (.func 180) #[] #[.pointer (some ⟨w'.heap.size + 1, 0, none⟩), .pointer (some ⟨w'.heap.size, 0, none⟩), .pointer (some ⟨w'.heap.size + 2, 0, none⟩)], x, undef, undef, undef], defers := [] })
        hszB htw rfl s.tail (by simp; omega) (by simp [World.size_alloc]) (fun rec => three_cells hbl' hszB c1 c2 _ _ _ _) ?_ ?_ ?_ ?_
      · intro l x W K hK
        gi_wp2
        exact hK
      · intro l x W htW hx hlt q1 q2
        gi_wp2
        refine ⟨trivial, ((callsIn_wide.2 (named_calls x hx W htW)).inRound l).mono ?_⟩
        rintro e w3 ⟨rfl, hb3⟩
        have u1 : w3.cell? ⟨w.heap.size, 0, none⟩ = some (.bool false) := by rw [hb3.cell (by simp only; omega)]; exact q1
        have u2 : w3.frozen? ⟨w.heap.size, 0, none⟩ = false := by rw [hb3.frozen (by simp only; omega)]; exact q2
        by_cases hn : namedP x = true
        · rw [hn]
          gi_wp2
        · rw [Bool.not_eq_true] at hn
          rw [hn]
          gi_wp2
          exact ⟨w3, hb3, rfl⟩
      · intro W rec r ha hj
        have r1 := hj.res
        have r2 := hj.resf
        gi_wp2
        refine ⟨by simp, .inl ⟨_, _, rfl, run_takeDeferred (ds := []) (by rw [Below.heap_setCell _ _ _ _ (by simp only; omega)]; exact hj.d), ?_⟩⟩
        refine ⟨_, good_res _ _ w.heap.size true rfl ?_, by rw [g3, ha], ?_⟩
        · rw [World.cell?_of_block (World.putObj_heap_other (by simp only; omega))]
          exact World.cell?_setCell_same' _ _ _ (by rw [r1]; rfl)
        · exact (hj.below.setCell (by simp) _).trans ⟨rfl, rfl, rfl, by simp, fun k hk => World.putObj_heap_other (by omega)⟩
      · intro W rec r ha hj
        gi_wp2
        refine ⟨by simp, .inl ⟨_, _, rfl, run_takeDeferred (ds := []) hj.d, ?_⟩⟩
        refine ⟨_, good_res _ _ w.heap.size false rfl ?_, by rw [g3, ha], ?_⟩
        · rw [World.cell?_of_block (World.putObj_heap_other (by simp only; omega))]
          exact hj.res
        · exact hj.below.trans ⟨rfl, rfl, rfl, by simp, fun k hk => World.putObj_heap_other (by omega)⟩
    · have g3 : goodP s = false := by rw [g2, decide_eq_false h3, Bool.false_and]
      rw [decide_eq_false h3]
      gi_wp2
      exact ⟨_, good_res _ _ w.heap.size false rfl (World.cell?_setCell_same' _ _ _ (by rw [c1]; rfl)), by rw [g3], hbl'.setCell (by simp) _⟩
theorem acall_of_below {P : Program} {g : FuncId} {xs : List AV} {x : AV} {us : List Value} {u : Value} (hg : goFn P g) (hxs : scalL xs = some us) (hx : scalV x = some u)
    (h : ∀ w : World, TabsAt w → Calls P g us.toArray w fun e w' => e = .returned u ∧ Below w.heap.size w w') : acall P [] g xs (ret x) := by
  refine ⟨hg, fun E w vs hw hH hvs => ?_⟩
  have e : vs = us := by
    obtain ⟨h1, h2⟩ := scalL_get hxs
    refine List.ext_getElem? fun j => ?_
    by_cases hj : j < xs.length
    · obtain ⟨u', hu, hs⟩ := h2 j _ (List.getElem?_eq_getElem hj)
      have hv : vs[j]? = some (vs[j]'(by rw [hvs.1]; exact hj)) := List.getElem?_eq_getElem _
      rw [hv, hu, scal_eq (hvs.2 j _ _ (List.getElem?_eq_getElem hj) hv) u' hs]
    · rw [List.getElem?_eq_none (by rw [hvs.1]; omega), List.getElem?_eq_none (by omega)]
  subst e
  refine (h w (hw ▸ E.hT)).mono fun e w' ⟨h1, h2⟩ => ?_
  have h0 : E.ρ0 = [] := List.eq_nil_of_length_eq_zero (by rw [hH.len]; rfl)
  refine ⟨u, x, [], [], h1, ⟨rfl, rfl⟩, ?_, fun k p hk => ?_, scal_rep x u hx⟩
  · rw [h0] at hH; exact hH.below h2
  · rw [h0] at hk; exact hk
theorem good_c (s : List UInt8) (h : okS s) : acall Tryd.prog [] 90 [S s] (ret (B (goodP s))) :=
  acall_of_below ⟨_, Tryd.func90, by kernel_rfl, by kernel_rfl⟩ rfl rfl fun w ht => callsIn_wide.1 (good_in s h w ht)
end Go.Proofs.YtmpfhalheaeibaaDoor
namespace Go.Proofs.YtmpfhalheaeibaaDoor
set_option linter.unusedVariables false
set_option linter.unusedSimpArgs false
open Go Go.RowKit
set_option maxRecDepth 100000
set_option linter.unusedSimpArgs false
theorem splitB_len (r : List UInt8) : 0 < (splitB r).length := by
  have := splitB_ne r
  exact List.length_pos_iff.2 this
theorem splitB_snoc (a : List UInt8) (c : UInt8) : splitB (a ++ [c]) = if c = 47 then splitB a ++ [[]] else (splitB a).set ((splitB a).length - 1) ((splitB a).getD ((splitB a).length - 1) [] ++ [c]) := by
  induction a with
  | nil => by_cases h : c = 47 <;> simp [splitB, h]
  | cons x a ih =>
    have hl := splitB_len a
    by_cases hx : x = 47
    · have e : splitB (x :: a ++ [c]) = [] :: splitB (a ++ [c]) := by simp [splitB, hx]
      have e2 : splitB (x :: a) = [] :: splitB a := by simp [splitB, hx]
      rw [e, e2, ih]
      by_cases h : c = 47
      · simp [h]
      · rw [if_neg h, if_neg h]
        obtain ⟨n, hn⟩ : ∃ n, (splitB a).length = n + 1 := ⟨_, (Nat.succ_pred_eq_of_pos hl).symm⟩
        simp [hn]
    · cases hp : splitB a with
      | nil => exact absurd hp (splitB_ne a)
      | cons p ps =>
        have e2 : splitB (x :: a) = (x :: p) :: ps := by simp [splitB, hx, hp]
        rw [hp] at ih
        have e : ∀ q qs, splitB (a ++ [c]) = q :: qs → splitB (x :: a ++ [c]) = (x :: q) :: qs := fun q qs hq => by
          show splitB (x :: (a ++ [c])) = _
          rw [splitB, if_neg hx, hq]
        by_cases h : c = 47
        · rw [if_pos h] at ih ⊢
          rw [e _ _ ih, e2]; rfl
        · rw [if_neg h] at ih ⊢
          cases ps with
          | nil => rw [e _ _ ih, e2]; rfl
          | cons q qs =>
            have ih2 : splitB (a ++ [c]) = p :: (q :: qs).set qs.length ((q :: qs).getD qs.length [] ++ [c]) := by rw [ih]; rfl
            rw [e _ _ ih2, e2]; rfl
theorem splitB_take (s : List UInt8) (k : Nat) (h : k < s.length) : splitB (s.take (k + 1)) = if s.getD k 0 = 47 then splitB (s.take k) ++ [[]] else (splitB (s.take k)).set ((splitB (s.take k)).length - 1) ((splitB (s.take k)).getD ((splitB (s.take k)).length - 1) [] ++ [s.getD k 0]) := by
  have : s.take (k + 1) = s.take k ++ [s.getD k 0] := take_snoc s k h
  rw [this, splitB_snoc]
theorem splitB_le (s : List UInt8) : (splitB s).length ≤ s.length + 1 := by
  induction s with
  | nil => simp [splitB]
  | cons c s ih =>
    unfold splitB
    split
    · simp; omega
    · split
      · rename_i e; rw [e] at ih; simp at ih ⊢; omega
      · simp
theorem splitB_nil : splitB [] = [[]] := rfl
theorem piece_le (s : List UInt8) : ∀ p, p ∈ splitB s → p.length ≤ s.length := by
  induction s with
  | nil => intro p hp; simp [splitB] at hp; simp [hp]
  | cons c s ih =>
    intro p hp
    unfold splitB at hp
    split at hp
    · rcases List.mem_cons.1 hp with rfl | hp
      · simp
      · have := ih p hp; simp; omega
    · split at hp
      · rename_i q qs e
        rcases List.mem_cons.1 hp with rfl | hp
        · have := ih q (by rw [e]; simp); simp; omega
        · have := ih p (by rw [e]; simp [hp]); simp; omega
      · simp at hp; subst hp; simp
theorem toNat_pr2 (n : Nat) : ((n : Int) - 1).toNat = n - 1 := by omega
theorem srow_rgetD (l : List (List UInt8)) (i : Nat) (z : List DV) (h : i < l.length) : (l.map srow).getD i z = srow (l.getD i []) := getD_row srow l i z h
theorem srow_rset (l : List (List UInt8)) (i : Nat) (x : List UInt8) : (l.map srow).set i [.str x] = (l.set i x).map srow := by rw [List.map_set]; rfl
theorem srow_rsnoc (l : List (List UInt8)) (x : List UInt8) : l.map srow ++ [[.str x]] = (l ++ [x]).map srow := by rw [List.map_append]; rfl
theorem okU8_one (b : UInt8) : okU8s [[.int .u8 (b.toNat : Int)]] = True := eq_true (okU8s_rows [b])
theorem u8_47 {b : UInt8} (h : (b.toNat : Int) = 47) : b = 47 := by
  have h2 : b.toNat = (47 : UInt8).toNat := by have : (47 : UInt8).toNat = 47 := rfl; omega
  exact UInt8.toNat_inj.1 h2
theorem take_drop_map (l : List (List UInt8)) : List.take (l.length - 1) (List.drop 1 (l.map srow)) = (l.drop 1).map srow := by
  rw [← List.map_drop]; exact List.take_of_length_le (by simp)
theorem steps_c (s : List UInt8) (h : s.length ≤ 1048576) : acall Tryd.prog [] 138 [S s] (ret (.d (.sl 1 ((splitB s).map srow)))) := by
  refine zi tabOk Tryd.func138 rfl (by kernel_rfl) (by simp [Tryd.ntmps138]) ?_; simp only [Tryd.ntmps138, Tryd.results138, List.toList_toArray, apar, List.length_nil, List.length_cons, Nat.reduceAdd]
  (repeat' first
| (with_reducible refine AR.f ?_)
| refine zb (by decide) ?_
| (with_reducible refine AWP.cond rfl ?_ ?_ <;> intro hc <;> (try simp only [hcs, beq_iff_eq, ge_iff_le, gt_iff_lt] at hc))
| ((first | ((first | (with_reducible first | refine zR ?_ | refine zQ (by decide +kernel) ?_ | refine zD (by decide +kernel) ?_ | refine zE (by decide +kernel) ?_ | refine zG (by decide +kernel) ?_)); intro K hK) | ((first | (with_reducible refine zu ?_ ?_ <;> intro hg) | with_reducible intro hg) <;> (first | (exfalso; simp at hg; done) | (have hg' := hg; (try simp only [hcs, beq_iff_eq, ge_iff_le, gt_iff_lt] at hg'); (try simp only [hg]))))) <;> (try simp (disch := omega) only [go_sem, wn]) <;> (repeat' with_reducible refine And.intro ?_ ?_) <;> (try (with_reducible refine hK _ ?_; clear hK K)))
| omega)
  refine AWP.loopB (ι := Nat) (fun k => k ≤ s.length) (fun k => s.length - k) [8, 9] (fun k => [(10, I k), (3, .osl 0 1 0 (splitB (s.take k)).length)]) (fun k => [.rows 1 ((splitB (s.take k)).map srow), .bytes s]) 0 ?_ ?_ ?_
  · omega
  · simp only [go_sem, splitB_nil, srow]; (refine SImp.same ?_; simp (disch := omega) only [go_sem, wn, Int.natCast_add, splitB_nil])
  intro k hk
  have hl := splitB_len (s.take k)
  have hle := splitB_le (s.take k)
  have htl : (s.take k).length = k := by simp; omega
  have hpl : ((splitB (s.take k)).getD ((splitB (s.take k)).length - 1) []).length ≤ k := by
    have := piece_le (s.take k) _ (mem_getD (splitB (s.take k)) [] (k := (splitB (s.take k)).length - 1) (by omega))
    omega
  simp only [go_sem]
  (repeat' first
| (with_reducible refine AR.f ?_)
| refine zb (by decide) ?_
| (with_reducible refine AWP.cond rfl ?_ ?_ <;> intro hc <;> (try simp only [hcs, beq_iff_eq, ge_iff_le, gt_iff_lt] at hc))
| ((first | ((first | refine zP (Plan.takes [0, 1, 2, 3, 4, 6] (.fork 5 (Plan.takes [7, 8, 9, 10, 11] .done) 7 (.fork 5 (Plan.takes [8, 9, 10, 11] .done) 8 (Plan.takes [5, 9, 10, 11] .done)))) (by decide +kernel) ?_ | (with_reducible first | refine zR ?_ | refine zQ (by decide +kernel) ?_ | refine zD (by decide +kernel) ?_ | refine zE (by decide +kernel) ?_ | refine zG (by decide +kernel) ?_)); intro K hK) | ((first | (with_reducible refine zu ?_ ?_ <;> intro hg) | with_reducible intro hg) <;> (first | (exfalso; simp at hg; done) | (have hg' := hg; (try simp only [hcs, beq_iff_eq, ge_iff_le, gt_iff_lt] at hg'); (try simp only [hg]))))) <;> (try simp (disch := omega) only [go_sem, wn, u8g, srow_rgetD, srow, srow_rset, srow_rsnoc, toNat_pr2, okU8_one, UInt8.ofNat_toNat]) <;> (repeat' with_reducible refine And.intro ?_ ?_) <;> (try (with_reducible refine hK _ ?_; clear hK K)))
| omega)
  · refine ⟨k + 1, by omega, by omega, ?_⟩
    rw [splitB_take _ _ (by assumption), if_pos (u8_47 hc)]
    (refine SImp.frame [3, 1] rfl (by intro k hk; first | (simp at hk <;> (simp; omega)) | (simp only [List.mem_cons, List.not_mem_nil, or_false] at hk; simp only [List.length_cons, List.length_nil]; omega)) (by decide) (fun k hk => by first | omega | (rcases k with _ | _ | _ | _ | _ | _ | _ | _ | k <;> first | rfl | omega)) ?_ ?_ <;> simp (disch := omega) only [go_sem, wn, Int.natCast_add, List.length_append] <;> (try rfl))
  iterate 3
    · refine ⟨k + 1, by omega, by omega, ?_⟩
      rw [splitB_take _ _ (by assumption), if_neg (fun e => hc (by rw [e]; rfl))]
      (refine SImp.frame [0, 1] rfl (by intro k hk; first | (simp at hk <;> (simp; omega)) | (simp only [List.mem_cons, List.not_mem_nil, or_false] at hk; simp only [List.length_cons, List.length_nil]; omega)) (by decide) (fun k hk => by first | omega | (rcases k with _ | _ | _ | _ | _ | _ | _ | _ | k <;> first | rfl | omega)) ?_ ?_ <;> simp (disch := omega) only [go_sem, wn, Int.natCast_add, List.length_set] <;> (try rfl))
  · have e : k = s.length := by omega
    subst e
    simp only [List.take_length]
    (refine zF rfl ?_ ?_ ?_ ?_; (iterate 3 (focus ((try simp (disch := omega) only [go_sem, wn]) <;> (try omega) <;> fail))); (try simp (disch := omega) only [go_sem, wn, I, B, S, inj, List.cons.injEq, and_true, true_and, and_self]))
def goodL (s : List UInt8) : Bool := decide (s = [47]) || (decide (s.length ≤ 200) && (decide ((splitB s).getD 0 [] = []) && (decide (2 ≤ (splitB s).length) && ((splitB s).drop 1).all namedP)))
theorem goodL_eq (s : List UInt8) : goodL s = goodP s := by
  unfold goodL goodP
  congr 2
  cases s with
  | nil => simp [splitB]
  | cons c r =>
    by_cases h : c = 47
    · subst h
      have := splitB_len r
      simp [splitB, allNamed]
      intro _; omega
    · have hn : ∃ p ps, splitB (c :: r) = (c :: p) :: ps := by
        cases hp : splitB r with
        | nil => exact absurd hp (splitB_ne r)
        | cons p ps => exact ⟨p, ps, by simp [splitB, h, hp]⟩
      obtain ⟨p, ps, e⟩ := hn
      rw [e]
      simp [h]
theorem ref_good_c (s : List UInt8) (h : s.length ≤ 1048576) : acall Tryd.prog [] 87 [S s] (ret (B (goodP s))) := by
  rw [← goodL_eq]
  have hl := splitB_len s
  refine zi tabOk Tryd.func87 rfl (by kernel_rfl) (by simp [Tryd.ntmps87]) ?_; simp only [Tryd.ntmps87, Tryd.results87, List.toList_toArray, apar, List.length_nil, List.length_cons, Nat.reduceAdd]
  (repeat' first
| (with_reducible refine AR.f ?_)
| refine zb (by decide) ?_
| (with_reducible refine AWP.cond rfl ?_ ?_ <;> intro hc <;> (try simp only [hcs, beq_iff_eq, ge_iff_le, gt_iff_lt] at hc))
| ((first | ((first | (with_reducible first | refine zR ?_ | refine zQ (by decide +kernel) ?_ | refine zD (by decide +kernel) ?_ | refine zE (by decide +kernel) ?_ | refine zG (by decide +kernel) ?_)); intro K hK) | ((first | refine zA (steps_c s h) ?_ ?_ ?_ ?_ ?_); (focus exact rfl); (focus exact rfl); iterate 2 (focus ((try simp (disch := omega) only [go_sem, wn, srow_rgetD, srow, take_drop_map, Nat.min_self]) <;> (try omega) <;> fail))) | ((first | refine zN (steps_c s h) rfl ?_ ?_); (focus ((try simp (disch := omega) only [go_sem, wn, srow_rgetD, srow, take_drop_map, Nat.min_self]) <;> (try omega) <;> fail))) | (first | ((first | refine zX (steps_c s h) rfl ?_ ?_ | refine zy (steps_c s h) ?_ ?_); (focus ((try simp (disch := omega) only [go_sem, wn, srow_rgetD, srow, take_drop_map, Nat.min_self]) <;> (try omega) <;> fail)))) | ((first | (with_reducible refine zu ?_ ?_ <;> intro hg) | with_reducible intro hg) <;> (first | (exfalso; simp at hg; done) | (have hg' := hg; (try simp only [hcs, beq_iff_eq, ge_iff_le, gt_iff_lt] at hg'); (try simp only [hg]))))) <;> (try simp (disch := omega) only [go_sem, wn, srow_rgetD, srow, take_drop_map, Nat.min_self]) <;> (repeat' with_reducible refine And.intro ?_ ?_) <;> (try (with_reducible refine hK _ ?_; clear hK K)))
| omega)
  · (refine zF rfl ?_ ?_ ?_ ?_; (iterate 3 (focus ((try simp (disch := omega) only [go_sem, wn]) <;> (try omega) <;> fail))); (try simp (disch := omega) only [go_sem, wn, I, B, S, inj, List.cons.injEq, and_true, true_and, and_self]))
    unfold goodL; rw [decide_eq_true hc, Bool.true_or]
  · (refine zF rfl ?_ ?_ ?_ ?_; (iterate 3 (focus ((try simp (disch := omega) only [go_sem, wn]) <;> (try omega) <;> fail))); (try simp (disch := omega) only [go_sem, wn, I, B, S, inj, List.cons.injEq, and_true, true_and, and_self]))
    unfold goodL
    rw [decide_eq_false (by assumption), Bool.false_or]
    rcases hc with (c | c) | c
    · rw [decide_eq_false (p := s.length ≤ 200) (by omega), Bool.false_and]
    · rw [decide_eq_false c, Bool.false_and, Bool.and_false]
    · rw [decide_eq_false (p := 2 ≤ (splitB s).length) (by omega), Bool.false_and, Bool.and_false, Bool.and_false]
  have g : goodL s = ((splitB s).drop 1).all namedP := by
    unfold goodL
    rw [decide_eq_false (by assumption), Bool.false_or, decide_eq_true (p := s.length ≤ 200) (by omega), decide_eq_true hc.1.2, decide_eq_true (p := 2 ≤ (splitB s).length) (by omega)]; rfl
  rw [g]
  have hml : ((splitB s).drop 1).length = (splitB s).length - 1 := by simp
  have hle := splitB_le s
  have hpl : ∀ p, p ∈ (splitB s).drop 1 → okS p := fun p hp => by
    have := piece_le s p (List.mem_of_mem_drop hp)
    unfold okS; omega
  generalize (splitB s).drop 1 = m at *
  refine AWP.loopS (ι := Nat) (fun k => k ≤ m.length ∧ ∀ j, j < k → namedP (m.getD j []) = true) (fun k => m.length - k) [25, 26] (fun k => [(27, I k)]) 0 ?_ (by simp (disch := omega) only [go_sem, wn, hml]) ?_
  · exact ⟨by omega, by omega⟩
  intro k ⟨hk, hk2⟩
  simp only [go_sem]
  have hpk : okS (m.getD k []) := by
    by_cases e : k < m.length
    · exact hpl _ (mem_getD m [] e)
    · rw [List.getD_eq_getElem?_getD, List.getElem?_eq_none (by omega)]; show okS []; unfold okS; decide
  (repeat' first
| (with_reducible refine AR.f ?_)
| refine zb (by decide) ?_
| (with_reducible refine AWP.cond rfl ?_ ?_ <;> intro hc <;> (try simp only [hcs, beq_iff_eq, ge_iff_le, gt_iff_lt] at hc))
| ((first | ((first | (with_reducible first | refine zR ?_ | refine zQ (by decide +kernel) ?_ | refine zD (by decide +kernel) ?_ | refine zE (by decide +kernel) ?_ | refine zG (by decide +kernel) ?_)); intro K hK) | ((first | refine acallH_sc (ref_named_c _ hpk) rfl rfl ?_ ?_ ?_ | refine acallQ_sc (ref_named_c _ hpk) rfl rfl ?_ ?_ ?_); iterate 2 (focus ((try simp (disch := omega) only [go_sem, wn, srow_rgetD, srow]) <;> (try omega) <;> fail))) | ((first | refine zN (ref_named_c _ hpk) rfl ?_ ?_); (focus ((try simp (disch := omega) only [go_sem, wn, srow_rgetD, srow]) <;> (try omega) <;> fail))) | (first | ((first | refine zX (ref_named_c _ hpk) rfl ?_ ?_ | refine zy (ref_named_c _ hpk) ?_ ?_); (focus ((try simp (disch := omega) only [go_sem, wn, srow_rgetD, srow]) <;> (try omega) <;> fail)))) | ((first | (with_reducible refine zu ?_ ?_ <;> intro hg) | with_reducible intro hg) <;> (first | (exfalso; simp at hg; done) | (have hg' := hg; (try simp only [hcs, beq_iff_eq, ge_iff_le, gt_iff_lt] at hg'); (try simp only [hg]))))) <;> (try simp (disch := omega) only [go_sem, wn, srow_rgetD, srow]) <;> (repeat' with_reducible refine And.intro ?_ ?_) <;> (try (with_reducible refine hK _ ?_; clear hK K)))
| omega)
  · (refine zF rfl ?_ ?_ ?_ ?_; (iterate 3 (focus ((try simp (disch := omega) only [go_sem, wn]) <;> (try omega) <;> fail))); (try simp (disch := omega) only [go_sem, wn, I, B, S, inj, List.cons.injEq, and_true, true_and, and_self]))
    symm; exact all_not (d := []) (by omega : k < m.length) hc
  · refine ⟨k + 1, ⟨by omega, fun j hj => ?_⟩, by omega, ?_⟩
    · by_cases e : j = k
      · subst e; exact hc
      · exact hk2 j (by omega)
    (refine SImp.same ?_; simp (disch := omega) only [go_sem, wn, Int.natCast_add])
  · (refine zF rfl ?_ ?_ ?_ ?_; (iterate 3 (focus ((try simp (disch := omega) only [go_sem, wn]) <;> (try omega) <;> fail))); (try simp (disch := omega) only [go_sem, wn, I, B, S, inj, List.cons.injEq, and_true, true_and, and_self]))
    symm; exact all_full namedP m [] fun j hj => hk2 j (by omega)
end Go.Proofs.YtmpfhalheaeibaaDoor
namespace Go.Proofs.YtmpfhalheaeibaaDoor
set_option linter.unusedVariables false
set_option linter.unusedSimpArgs false
open Go Go.RowKit
set_option maxRecDepth 100000
set_option linter.unusedSimpArgs false
end Go.Proofs.YtmpfhalheaeibaaDoor
namespace Go.Proofs.YtmpfhalheaeibaaDoor
set_option linter.unusedVariables false
set_option linter.unusedSimpArgs false
open Go Go.RowKit
set_option maxRecDepth 100000
set_option linter.unusedSimpArgs false
theorem goodP_len {s : List UInt8} (h : goodP s = true) : s.length ≤ 200 := by
  unfold goodP at h
  rw [Bool.or_eq_true, decide_eq_true_eq, Bool.and_eq_true, decide_eq_true_eq] at h
  rcases h with h | h
  · subst h; decide
  · exact h.1
theorem namedP_len {s : List UInt8} (h : namedP s = true) : s.length ≤ 40 := by
  unfold namedP at h
  rw [Bool.and_eq_true, Bool.and_eq_true, decide_eq_true_eq] at h
  have := h.2.2; omega
end Go.Proofs.YtmpfhalheaeibaaDoor
