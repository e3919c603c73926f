/- The structs of package api as plain data, cell by cell, and what a law's reader hands of them. No condition. -/
import Derived.Test.YtfnilhdofopoeabDoorTy
import Derived.Test.YtfnilhdofopoeabDoorAvIn
namespace Go.Proofs.YtfnilhdofopoeabDoor
set_option linter.unusedVariables false
set_option linter.unusedSimpArgs false
open Go Go.RowKit

def irow (n : Int) : List DV := [.int .i64 n]
def srow (s : List UInt8) : List DV := [.str s]

/-- An element of a list that is in its bounds. -/
theorem getD_row {α : Type} [Inhabited α] (f : α → List DV) (l : List α) (i : Nat) (z : List DV) (h : i < l.length) : (l.map f).getD i z = f (l.getD i default) := by
  rw [List.getD_eq_getElem?_getD, List.getD_eq_getElem?_getD, List.getElem?_map, List.getElem?_eq_getElem h]; rfl

theorem irow_getD (l : List Int) (i : Nat) : (l.map irow).getD i [.int .i64 0] = irow (l.getD i default) := by
  rw [List.getD_eq_getElem?_getD, List.getD_eq_getElem?_getD, List.getElem?_map]; cases l[i]? <;> rfl
theorem srow_getD (l : List (List UInt8)) (i : Nat) : (l.map srow).getD i [.str []] = srow (l.getD i default) := by
  rw [List.getD_eq_getElem?_getD, List.getD_eq_getElem?_getD, List.getElem?_map]; cases l[i]? <;> rfl
theorem u8row_getD (l : List UInt8) (i : Nat) : (l.map u8row).getD i [.int .u8 0] = u8row (l.getD i 0) := by
  rw [List.getD_eq_getElem?_getD, List.getD_eq_getElem?_getD, List.getElem?_map]; cases l[i]? <;> rfl

theorem take_snoc {α : Type} [Inhabited α] (l : List α) (k : Nat) (h : k < l.length) : l.take (k + 1) = l.take k ++ [l.getD k default] := by
  rw [List.take_add_one, List.getElem?_eq_getElem h, List.getD_eq_getElem?_getD, List.getElem?_eq_getElem h]; rfl
theorem getD_mem {α : Type} [Inhabited α] (l : List α) (k : Nat) (h : k < l.length) : l.getD k default ∈ l := by
  rw [List.getD_eq_getElem?_getD, List.getElem?_eq_getElem h]; exact List.getElem_mem _
theorem take_all {α : Type} (l : List α) (k : Nat) (h : l.length ≤ k) : l.take k = l := List.take_of_length_le h
theorem take_map_len {α β : Type} (f : α → β) (l : List α) : (l.map f).take l.length = l.map f := List.take_of_length_le (by simp)
theorem take_map_take {α β : Type} (f : α → β) (l : List α) (k : Nat) : ((l.take k).map f).take k = (l.take k).map f := List.take_of_length_le (by simp; omega)
theorem getD_set {α : Type} (l : List α) (i : Nat) (x z : α) (h : i < l.length) : (l.set i x).getD i z = x := by
  rw [List.getD_eq_getElem?_getD, List.getElem?_set_self h]; rfl
theorem getD_mapset {α β : Type} (f : α → β) (l : List α) (i : Nat) (x : α) (z : β) (h : i < l.length) : ((l.set i x).map f).getD i z = f x := by
  rw [List.map_set]; exact getD_set _ _ _ _ (by simpa using h)
theorem take_map_set {α β : Type} (f : α → β) (l : List α) (i : Nat) (x : α) : ((l.set i x).map f).take l.length = (l.set i x).map f := List.take_of_length_le (by simp)
theorem ins_map {α β : Type} (f : α → β) (l : List α) (i : Nat) (x : α) : (l.map f).insertIdx i (f x) = (l.insertIdx i x).map f := by
  induction l generalizing i with
  | nil => cases i <;> rfl
  | cons a l ih => cases i with
    | zero => rfl
    | succ i => simp only [List.map_cons, List.insertIdx_succ_cons]; rw [ih]
theorem nil_of_len {α : Type} {l : List α} (h : l.length = 0) : l = [] := List.eq_nil_of_length_eq_zero h

structure ATxn where
  zxid : Int
  op : Int
  session : Int
  path : List UInt8
  data : List UInt8
  version : Int
  owner : Int
instance : Inhabited ATxn := ⟨⟨0, 0, 0, [], [], 0, 0⟩⟩
theorem ATxn.ext_iff (a b : ATxn) : a = b ↔ a.zxid = b.zxid ∧ a.op = b.op ∧ a.session = b.session ∧ a.path = b.path ∧ a.data = b.data ∧ a.version = b.version ∧ a.owner = b.owner := by
  cases a; cases b; simp
instance : DecidableEq ATxn := fun a b => decidable_of_iff _ (ATxn.ext_iff a b).symm
def ATxn.row (x : ATxn) : List DV := [.int .i64 x.zxid, .int .i64 x.op, .int .i64 x.session, .str x.path, .str x.data, .int .i64 x.version, .int .i64 x.owner]
def ATxn.av (x : ATxn) : AV := .agg [.d (.int .i64 x.zxid), .d (.int .i64 x.op), .d (.int .i64 x.session), .d (.str x.path), .d (.str x.data), .d (.int .i64 x.version), .d (.int .i64 x.owner)]
theorem ATxn.dec (a b : ATxn) : (decide (a.zxid = b.zxid) && (decide (a.op = b.op) && (decide (a.session = b.session) && (decide (a.path = b.path) && (decide (a.data = b.data) && (decide (a.version = b.version) && decide (a.owner = b.owner))))))) = decide (a = b) := by
  rw [Bool.eq_iff_iff]; simp only [Bool.and_eq_true, decide_eq_true_eq, ATxn.ext_iff, and_assoc]
theorem ATxn.getD (l : List ATxn) (i : Nat) : (l.map ATxn.row).getD i [.int .i64 0, .int .i64 0, .int .i64 0, .str [], .str [], .int .i64 0, .int .i64 0] = (l.getD i default).row := by
  rw [List.getD_eq_getElem?_getD, List.getD_eq_getElem?_getD, List.getElem?_map]; cases l[i]? <;> rfl
theorem ATxn.rgetD (l : List ATxn) (i : Nat) (z : List DV) (h : i < l.length) : (l.map ATxn.row).getD i z = (l.getD i default).row := getD_row ATxn.row l i z h
theorem ATxn.rset (l : List ATxn) (i : Nat) (qzxid : Int) (qop : Int) (qsession : Int) (qpath : List UInt8) (qdata : List UInt8) (qversion : Int) (qowner : Int) : (l.map ATxn.row).set i [.int .i64 qzxid, .int .i64 qop, .int .i64 qsession, .str qpath, .str qdata, .int .i64 qversion, .int .i64 qowner] = (l.set i (⟨qzxid, qop, qsession, qpath, qdata, qversion, qowner⟩ : ATxn)).map ATxn.row := by rw [List.map_set]; rfl
theorem ATxn.rins (l : List ATxn) (i : Nat) (qzxid : Int) (qop : Int) (qsession : Int) (qpath : List UInt8) (qdata : List UInt8) (qversion : Int) (qowner : Int) : (l.map ATxn.row).insertIdx i [.int .i64 qzxid, .int .i64 qop, .int .i64 qsession, .str qpath, .str qdata, .int .i64 qversion, .int .i64 qowner] = (l.insertIdx i (⟨qzxid, qop, qsession, qpath, qdata, qversion, qowner⟩ : ATxn)).map ATxn.row := ins_map ATxn.row l i (⟨qzxid, qop, qsession, qpath, qdata, qversion, qowner⟩ : ATxn)
theorem ATxn.rdrop (l : List ATxn) (k : Nat) : List.drop 7 ((l.map ATxn.row).getD k []) = [] := by
  rw [List.getD_eq_getElem?_getD, List.getElem?_map]; cases l[k]? <;> rfl
attribute [go_sem] ATxn.rdrop
theorem ATxn.rsnoc (l : List ATxn) (qzxid : Int) (qop : Int) (qsession : Int) (qpath : List UInt8) (qdata : List UInt8) (qversion : Int) (qowner : Int) : l.map ATxn.row ++ [[.int .i64 qzxid, .int .i64 qop, .int .i64 qsession, .str qpath, .str qdata, .int .i64 qversion, .int .i64 qowner]] = (l ++ [(⟨qzxid, qop, qsession, qpath, qdata, qversion, qowner⟩ : ATxn)]).map ATxn.row := by rw [List.map_append]; rfl

structure AStat where
  czxid : Int
  mzxid : Int
  pzxid : Int
  version : Int
  cversion : Int
  owner : Int
  kids : Int
instance : Inhabited AStat := ⟨⟨0, 0, 0, 0, 0, 0, 0⟩⟩
theorem AStat.ext_iff (a b : AStat) : a = b ↔ a.czxid = b.czxid ∧ a.mzxid = b.mzxid ∧ a.pzxid = b.pzxid ∧ a.version = b.version ∧ a.cversion = b.cversion ∧ a.owner = b.owner ∧ a.kids = b.kids := by
  cases a; cases b; simp
instance : DecidableEq AStat := fun a b => decidable_of_iff _ (AStat.ext_iff a b).symm
def AStat.row (x : AStat) : List DV := [.int .i64 x.czxid, .int .i64 x.mzxid, .int .i64 x.pzxid, .int .i64 x.version, .int .i64 x.cversion, .int .i64 x.owner, .int .i64 x.kids]
def AStat.av (x : AStat) : AV := .agg [.d (.int .i64 x.czxid), .d (.int .i64 x.mzxid), .d (.int .i64 x.pzxid), .d (.int .i64 x.version), .d (.int .i64 x.cversion), .d (.int .i64 x.owner), .d (.int .i64 x.kids)]
theorem AStat.dec (a b : AStat) : (decide (a.czxid = b.czxid) && (decide (a.mzxid = b.mzxid) && (decide (a.pzxid = b.pzxid) && (decide (a.version = b.version) && (decide (a.cversion = b.cversion) && (decide (a.owner = b.owner) && decide (a.kids = b.kids))))))) = decide (a = b) := by
  rw [Bool.eq_iff_iff]; simp only [Bool.and_eq_true, decide_eq_true_eq, AStat.ext_iff, and_assoc]
theorem AStat.getD (l : List AStat) (i : Nat) : (l.map AStat.row).getD i [.int .i64 0, .int .i64 0, .int .i64 0, .int .i64 0, .int .i64 0, .int .i64 0, .int .i64 0] = (l.getD i default).row := by
  rw [List.getD_eq_getElem?_getD, List.getD_eq_getElem?_getD, List.getElem?_map]; cases l[i]? <;> rfl
theorem AStat.rgetD (l : List AStat) (i : Nat) (z : List DV) (h : i < l.length) : (l.map AStat.row).getD i z = (l.getD i default).row := getD_row AStat.row l i z h
theorem AStat.rset (l : List AStat) (i : Nat) (qczxid : Int) (qmzxid : Int) (qpzxid : Int) (qversion : Int) (qcversion : Int) (qowner : Int) (qkids : Int) : (l.map AStat.row).set i [.int .i64 qczxid, .int .i64 qmzxid, .int .i64 qpzxid, .int .i64 qversion, .int .i64 qcversion, .int .i64 qowner, .int .i64 qkids] = (l.set i (⟨qczxid, qmzxid, qpzxid, qversion, qcversion, qowner, qkids⟩ : AStat)).map AStat.row := by rw [List.map_set]; rfl
theorem AStat.rins (l : List AStat) (i : Nat) (qczxid : Int) (qmzxid : Int) (qpzxid : Int) (qversion : Int) (qcversion : Int) (qowner : Int) (qkids : Int) : (l.map AStat.row).insertIdx i [.int .i64 qczxid, .int .i64 qmzxid, .int .i64 qpzxid, .int .i64 qversion, .int .i64 qcversion, .int .i64 qowner, .int .i64 qkids] = (l.insertIdx i (⟨qczxid, qmzxid, qpzxid, qversion, qcversion, qowner, qkids⟩ : AStat)).map AStat.row := ins_map AStat.row l i (⟨qczxid, qmzxid, qpzxid, qversion, qcversion, qowner, qkids⟩ : AStat)
theorem AStat.rdrop (l : List AStat) (k : Nat) : List.drop 7 ((l.map AStat.row).getD k []) = [] := by
  rw [List.getD_eq_getElem?_getD, List.getElem?_map]; cases l[k]? <;> rfl
attribute [go_sem] AStat.rdrop
theorem AStat.rsnoc (l : List AStat) (qczxid : Int) (qmzxid : Int) (qpzxid : Int) (qversion : Int) (qcversion : Int) (qowner : Int) (qkids : Int) : l.map AStat.row ++ [[.int .i64 qczxid, .int .i64 qmzxid, .int .i64 qpzxid, .int .i64 qversion, .int .i64 qcversion, .int .i64 qowner, .int .i64 qkids]] = (l ++ [(⟨qczxid, qmzxid, qpzxid, qversion, qcversion, qowner, qkids⟩ : AStat)]).map AStat.row := by rw [List.map_append]; rfl

structure ANode where
  path : List UInt8
  data : List UInt8
  stat : AStat
instance : Inhabited ANode := ⟨⟨[], [], default⟩⟩
theorem ANode.ext_iff (a b : ANode) : a = b ↔ a.path = b.path ∧ a.data = b.data ∧ a.stat = b.stat := by
  cases a; cases b; simp
instance : DecidableEq ANode := fun a b => decidable_of_iff _ (ANode.ext_iff a b).symm
def ANode.row (x : ANode) : List DV := [.str x.path, .str x.data, .int .i64 x.stat.czxid, .int .i64 x.stat.mzxid, .int .i64 x.stat.pzxid, .int .i64 x.stat.version, .int .i64 x.stat.cversion, .int .i64 x.stat.owner, .int .i64 x.stat.kids]
def ANode.av (x : ANode) : AV := .agg [.d (.str x.path), .d (.str x.data), .d (.int .i64 x.stat.czxid), .d (.int .i64 x.stat.mzxid), .d (.int .i64 x.stat.pzxid), .d (.int .i64 x.stat.version), .d (.int .i64 x.stat.cversion), .d (.int .i64 x.stat.owner), .d (.int .i64 x.stat.kids)]
theorem ANode.dec (a b : ANode) : (decide (a.path = b.path) && (decide (a.data = b.data) && (decide (a.stat.czxid = b.stat.czxid) && (decide (a.stat.mzxid = b.stat.mzxid) && (decide (a.stat.pzxid = b.stat.pzxid) && (decide (a.stat.version = b.stat.version) && (decide (a.stat.cversion = b.stat.cversion) && (decide (a.stat.owner = b.stat.owner) && decide (a.stat.kids = b.stat.kids))))))))) = decide (a = b) := by
  rw [Bool.eq_iff_iff]; simp only [Bool.and_eq_true, decide_eq_true_eq, ANode.ext_iff, AStat.ext_iff, and_assoc]
theorem ANode.getD (l : List ANode) (i : Nat) : (l.map ANode.row).getD i [.str [], .str [], .int .i64 0, .int .i64 0, .int .i64 0, .int .i64 0, .int .i64 0, .int .i64 0, .int .i64 0] = (l.getD i default).row := by
  rw [List.getD_eq_getElem?_getD, List.getD_eq_getElem?_getD, List.getElem?_map]; cases l[i]? <;> rfl
theorem ANode.rgetD (l : List ANode) (i : Nat) (z : List DV) (h : i < l.length) : (l.map ANode.row).getD i z = (l.getD i default).row := getD_row ANode.row l i z h
theorem ANode.rset (l : List ANode) (i : Nat) (qpath : List UInt8) (qdata : List UInt8) (qstat_czxid : Int) (qstat_mzxid : Int) (qstat_pzxid : Int) (qstat_version : Int) (qstat_cversion : Int) (qstat_owner : Int) (qstat_kids : Int) : (l.map ANode.row).set i [.str qpath, .str qdata, .int .i64 qstat_czxid, .int .i64 qstat_mzxid, .int .i64 qstat_pzxid, .int .i64 qstat_version, .int .i64 qstat_cversion, .int .i64 qstat_owner, .int .i64 qstat_kids] = (l.set i (⟨qpath, qdata, ⟨qstat_czxid, qstat_mzxid, qstat_pzxid, qstat_version, qstat_cversion, qstat_owner, qstat_kids⟩⟩ : ANode)).map ANode.row := by rw [List.map_set]; rfl
theorem ANode.rins (l : List ANode) (i : Nat) (qpath : List UInt8) (qdata : List UInt8) (qstat_czxid : Int) (qstat_mzxid : Int) (qstat_pzxid : Int) (qstat_version : Int) (qstat_cversion : Int) (qstat_owner : Int) (qstat_kids : Int) : (l.map ANode.row).insertIdx i [.str qpath, .str qdata, .int .i64 qstat_czxid, .int .i64 qstat_mzxid, .int .i64 qstat_pzxid, .int .i64 qstat_version, .int .i64 qstat_cversion, .int .i64 qstat_owner, .int .i64 qstat_kids] = (l.insertIdx i (⟨qpath, qdata, ⟨qstat_czxid, qstat_mzxid, qstat_pzxid, qstat_version, qstat_cversion, qstat_owner, qstat_kids⟩⟩ : ANode)).map ANode.row := ins_map ANode.row l i (⟨qpath, qdata, ⟨qstat_czxid, qstat_mzxid, qstat_pzxid, qstat_version, qstat_cversion, qstat_owner, qstat_kids⟩⟩ : ANode)
theorem ANode.rdrop (l : List ANode) (k : Nat) : List.drop 9 ((l.map ANode.row).getD k []) = [] := by
  rw [List.getD_eq_getElem?_getD, List.getElem?_map]; cases l[k]? <;> rfl
attribute [go_sem] ANode.rdrop
theorem ANode.rsnoc (l : List ANode) (qpath : List UInt8) (qdata : List UInt8) (qstat_czxid : Int) (qstat_mzxid : Int) (qstat_pzxid : Int) (qstat_version : Int) (qstat_cversion : Int) (qstat_owner : Int) (qstat_kids : Int) : l.map ANode.row ++ [[.str qpath, .str qdata, .int .i64 qstat_czxid, .int .i64 qstat_mzxid, .int .i64 qstat_pzxid, .int .i64 qstat_version, .int .i64 qstat_cversion, .int .i64 qstat_owner, .int .i64 qstat_kids]] = (l ++ [(⟨qpath, qdata, ⟨qstat_czxid, qstat_mzxid, qstat_pzxid, qstat_version, qstat_cversion, qstat_owner, qstat_kids⟩⟩ : ANode)]).map ANode.row := by rw [List.map_append]; rfl

structure AFile where
  name : List UInt8
  safe : List UInt8
  tail : List UInt8
instance : Inhabited AFile := ⟨⟨[], [], []⟩⟩
theorem AFile.ext_iff (a b : AFile) : a = b ↔ a.name = b.name ∧ a.safe = b.safe ∧ a.tail = b.tail := by
  cases a; cases b; simp
instance : DecidableEq AFile := fun a b => decidable_of_iff _ (AFile.ext_iff a b).symm
def AFile.row (x : AFile) : List DV := [.str x.name, .str x.safe, .str x.tail]
def AFile.av (x : AFile) : AV := .agg [.d (.str x.name), .d (.str x.safe), .d (.str x.tail)]
theorem AFile.dec (a b : AFile) : (decide (a.name = b.name) && (decide (a.safe = b.safe) && decide (a.tail = b.tail))) = decide (a = b) := by
  rw [Bool.eq_iff_iff]; simp only [Bool.and_eq_true, decide_eq_true_eq, AFile.ext_iff, and_assoc]
theorem AFile.getD (l : List AFile) (i : Nat) : (l.map AFile.row).getD i [.str [], .str [], .str []] = (l.getD i default).row := by
  rw [List.getD_eq_getElem?_getD, List.getD_eq_getElem?_getD, List.getElem?_map]; cases l[i]? <;> rfl
theorem AFile.rgetD (l : List AFile) (i : Nat) (z : List DV) (h : i < l.length) : (l.map AFile.row).getD i z = (l.getD i default).row := getD_row AFile.row l i z h
theorem AFile.rset (l : List AFile) (i : Nat) (qname : List UInt8) (qsafe : List UInt8) (qtail : List UInt8) : (l.map AFile.row).set i [.str qname, .str qsafe, .str qtail] = (l.set i (⟨qname, qsafe, qtail⟩ : AFile)).map AFile.row := by rw [List.map_set]; rfl
theorem AFile.rins (l : List AFile) (i : Nat) (qname : List UInt8) (qsafe : List UInt8) (qtail : List UInt8) : (l.map AFile.row).insertIdx i [.str qname, .str qsafe, .str qtail] = (l.insertIdx i (⟨qname, qsafe, qtail⟩ : AFile)).map AFile.row := ins_map AFile.row l i (⟨qname, qsafe, qtail⟩ : AFile)
theorem AFile.rdrop (l : List AFile) (k : Nat) : List.drop 3 ((l.map AFile.row).getD k []) = [] := by
  rw [List.getD_eq_getElem?_getD, List.getElem?_map]; cases l[k]? <;> rfl
attribute [go_sem] AFile.rdrop
theorem AFile.rsnoc (l : List AFile) (qname : List UInt8) (qsafe : List UInt8) (qtail : List UInt8) : l.map AFile.row ++ [[.str qname, .str qsafe, .str qtail]] = (l ++ [(⟨qname, qsafe, qtail⟩ : AFile)]).map AFile.row := by rw [List.map_append]; rfl

structure AWatch where
  session : Int
  kind : Int
  path : List UInt8
instance : Inhabited AWatch := ⟨⟨0, 0, []⟩⟩
theorem AWatch.ext_iff (a b : AWatch) : a = b ↔ a.session = b.session ∧ a.kind = b.kind ∧ a.path = b.path := by
  cases a; cases b; simp
instance : DecidableEq AWatch := fun a b => decidable_of_iff _ (AWatch.ext_iff a b).symm
def AWatch.row (x : AWatch) : List DV := [.int .i64 x.session, .int .i64 x.kind, .str x.path]
def AWatch.av (x : AWatch) : AV := .agg [.d (.int .i64 x.session), .d (.int .i64 x.kind), .d (.str x.path)]
theorem AWatch.dec (a b : AWatch) : (decide (a.session = b.session) && (decide (a.kind = b.kind) && decide (a.path = b.path))) = decide (a = b) := by
  rw [Bool.eq_iff_iff]; simp only [Bool.and_eq_true, decide_eq_true_eq, AWatch.ext_iff, and_assoc]
theorem AWatch.getD (l : List AWatch) (i : Nat) : (l.map AWatch.row).getD i [.int .i64 0, .int .i64 0, .str []] = (l.getD i default).row := by
  rw [List.getD_eq_getElem?_getD, List.getD_eq_getElem?_getD, List.getElem?_map]; cases l[i]? <;> rfl
theorem AWatch.rgetD (l : List AWatch) (i : Nat) (z : List DV) (h : i < l.length) : (l.map AWatch.row).getD i z = (l.getD i default).row := getD_row AWatch.row l i z h
theorem AWatch.rset (l : List AWatch) (i : Nat) (qsession : Int) (qkind : Int) (qpath : List UInt8) : (l.map AWatch.row).set i [.int .i64 qsession, .int .i64 qkind, .str qpath] = (l.set i (⟨qsession, qkind, qpath⟩ : AWatch)).map AWatch.row := by rw [List.map_set]; rfl
theorem AWatch.rins (l : List AWatch) (i : Nat) (qsession : Int) (qkind : Int) (qpath : List UInt8) : (l.map AWatch.row).insertIdx i [.int .i64 qsession, .int .i64 qkind, .str qpath] = (l.insertIdx i (⟨qsession, qkind, qpath⟩ : AWatch)).map AWatch.row := ins_map AWatch.row l i (⟨qsession, qkind, qpath⟩ : AWatch)
theorem AWatch.rdrop (l : List AWatch) (k : Nat) : List.drop 3 ((l.map AWatch.row).getD k []) = [] := by
  rw [List.getD_eq_getElem?_getD, List.getElem?_map]; cases l[k]? <;> rfl
attribute [go_sem] AWatch.rdrop
theorem AWatch.rsnoc (l : List AWatch) (qsession : Int) (qkind : Int) (qpath : List UInt8) : l.map AWatch.row ++ [[.int .i64 qsession, .int .i64 qkind, .str qpath]] = (l ++ [(⟨qsession, qkind, qpath⟩ : AWatch)]).map AWatch.row := by rw [List.map_append]; rfl

structure AEvent where
  kind : Int
  path : List UInt8
instance : Inhabited AEvent := ⟨⟨0, []⟩⟩
theorem AEvent.ext_iff (a b : AEvent) : a = b ↔ a.kind = b.kind ∧ a.path = b.path := by
  cases a; cases b; simp
instance : DecidableEq AEvent := fun a b => decidable_of_iff _ (AEvent.ext_iff a b).symm
def AEvent.row (x : AEvent) : List DV := [.int .i64 x.kind, .str x.path]
def AEvent.av (x : AEvent) : AV := .agg [.d (.int .i64 x.kind), .d (.str x.path)]
theorem AEvent.dec (a b : AEvent) : (decide (a.kind = b.kind) && decide (a.path = b.path)) = decide (a = b) := by
  rw [Bool.eq_iff_iff]; simp only [Bool.and_eq_true, decide_eq_true_eq, AEvent.ext_iff, and_assoc]
theorem AEvent.getD (l : List AEvent) (i : Nat) : (l.map AEvent.row).getD i [.int .i64 0, .str []] = (l.getD i default).row := by
  rw [List.getD_eq_getElem?_getD, List.getD_eq_getElem?_getD, List.getElem?_map]; cases l[i]? <;> rfl
theorem AEvent.rgetD (l : List AEvent) (i : Nat) (z : List DV) (h : i < l.length) : (l.map AEvent.row).getD i z = (l.getD i default).row := getD_row AEvent.row l i z h
theorem AEvent.rset (l : List AEvent) (i : Nat) (qkind : Int) (qpath : List UInt8) : (l.map AEvent.row).set i [.int .i64 qkind, .str qpath] = (l.set i (⟨qkind, qpath⟩ : AEvent)).map AEvent.row := by rw [List.map_set]; rfl
theorem AEvent.rins (l : List AEvent) (i : Nat) (qkind : Int) (qpath : List UInt8) : (l.map AEvent.row).insertIdx i [.int .i64 qkind, .str qpath] = (l.insertIdx i (⟨qkind, qpath⟩ : AEvent)).map AEvent.row := ins_map AEvent.row l i (⟨qkind, qpath⟩ : AEvent)
theorem AEvent.rdrop (l : List AEvent) (k : Nat) : List.drop 2 ((l.map AEvent.row).getD k []) = [] := by
  rw [List.getD_eq_getElem?_getD, List.getElem?_map]; cases l[k]? <;> rfl
attribute [go_sem] AEvent.rdrop
theorem AEvent.rsnoc (l : List AEvent) (qkind : Int) (qpath : List UInt8) : l.map AEvent.row ++ [[.int .i64 qkind, .str qpath]] = (l ++ [(⟨qkind, qpath⟩ : AEvent)]).map AEvent.row := by rw [List.map_append]; rfl

structure ANote where
  session : Int
  event : AEvent
instance : Inhabited ANote := ⟨⟨0, default⟩⟩
theorem ANote.ext_iff (a b : ANote) : a = b ↔ a.session = b.session ∧ a.event = b.event := by
  cases a; cases b; simp
instance : DecidableEq ANote := fun a b => decidable_of_iff _ (ANote.ext_iff a b).symm
def ANote.row (x : ANote) : List DV := [.int .i64 x.session, .int .i64 x.event.kind, .str x.event.path]
def ANote.av (x : ANote) : AV := .agg [.d (.int .i64 x.session), .d (.int .i64 x.event.kind), .d (.str x.event.path)]
theorem ANote.dec (a b : ANote) : (decide (a.session = b.session) && (decide (a.event.kind = b.event.kind) && decide (a.event.path = b.event.path))) = decide (a = b) := by
  rw [Bool.eq_iff_iff]; simp only [Bool.and_eq_true, decide_eq_true_eq, ANote.ext_iff, AEvent.ext_iff, and_assoc]
theorem ANote.getD (l : List ANote) (i : Nat) : (l.map ANote.row).getD i [.int .i64 0, .int .i64 0, .str []] = (l.getD i default).row := by
  rw [List.getD_eq_getElem?_getD, List.getD_eq_getElem?_getD, List.getElem?_map]; cases l[i]? <;> rfl
theorem ANote.rgetD (l : List ANote) (i : Nat) (z : List DV) (h : i < l.length) : (l.map ANote.row).getD i z = (l.getD i default).row := getD_row ANote.row l i z h
theorem ANote.rset (l : List ANote) (i : Nat) (qsession : Int) (qevent_kind : Int) (qevent_path : List UInt8) : (l.map ANote.row).set i [.int .i64 qsession, .int .i64 qevent_kind, .str qevent_path] = (l.set i (⟨qsession, ⟨qevent_kind, qevent_path⟩⟩ : ANote)).map ANote.row := by rw [List.map_set]; rfl
theorem ANote.rins (l : List ANote) (i : Nat) (qsession : Int) (qevent_kind : Int) (qevent_path : List UInt8) : (l.map ANote.row).insertIdx i [.int .i64 qsession, .int .i64 qevent_kind, .str qevent_path] = (l.insertIdx i (⟨qsession, ⟨qevent_kind, qevent_path⟩⟩ : ANote)).map ANote.row := ins_map ANote.row l i (⟨qsession, ⟨qevent_kind, qevent_path⟩⟩ : ANote)
theorem ANote.rdrop (l : List ANote) (k : Nat) : List.drop 3 ((l.map ANote.row).getD k []) = [] := by
  rw [List.getD_eq_getElem?_getD, List.getElem?_map]; cases l[k]? <;> rfl
attribute [go_sem] ANote.rdrop
theorem ANote.rsnoc (l : List ANote) (qsession : Int) (qevent_kind : Int) (qevent_path : List UInt8) : l.map ANote.row ++ [[.int .i64 qsession, .int .i64 qevent_kind, .str qevent_path]] = (l ++ [(⟨qsession, ⟨qevent_kind, qevent_path⟩⟩ : ANote)]).map ANote.row := by rw [List.map_append]; rfl

structure AEntry where
  path : List UInt8
  data : List UInt8
  there : Bool
instance : Inhabited AEntry := ⟨⟨[], [], false⟩⟩
theorem AEntry.ext_iff (a b : AEntry) : a = b ↔ a.path = b.path ∧ a.data = b.data ∧ a.there = b.there := by
  cases a; cases b; simp
instance : DecidableEq AEntry := fun a b => decidable_of_iff _ (AEntry.ext_iff a b).symm
def AEntry.row (x : AEntry) : List DV := [.str x.path, .str x.data, .bool x.there]
def AEntry.av (x : AEntry) : AV := .agg [.d (.str x.path), .d (.str x.data), .d (.bool x.there)]
theorem AEntry.dec (a b : AEntry) : (decide (a.path = b.path) && (decide (a.data = b.data) && decide (a.there = b.there))) = decide (a = b) := by
  rw [Bool.eq_iff_iff]; simp only [Bool.and_eq_true, decide_eq_true_eq, AEntry.ext_iff, and_assoc]
theorem AEntry.getD (l : List AEntry) (i : Nat) : (l.map AEntry.row).getD i [.str [], .str [], .bool false] = (l.getD i default).row := by
  rw [List.getD_eq_getElem?_getD, List.getD_eq_getElem?_getD, List.getElem?_map]; cases l[i]? <;> rfl
theorem AEntry.rgetD (l : List AEntry) (i : Nat) (z : List DV) (h : i < l.length) : (l.map AEntry.row).getD i z = (l.getD i default).row := getD_row AEntry.row l i z h
theorem AEntry.rset (l : List AEntry) (i : Nat) (qpath : List UInt8) (qdata : List UInt8) (qthere : Bool) : (l.map AEntry.row).set i [.str qpath, .str qdata, .bool qthere] = (l.set i (⟨qpath, qdata, qthere⟩ : AEntry)).map AEntry.row := by rw [List.map_set]; rfl
theorem AEntry.rins (l : List AEntry) (i : Nat) (qpath : List UInt8) (qdata : List UInt8) (qthere : Bool) : (l.map AEntry.row).insertIdx i [.str qpath, .str qdata, .bool qthere] = (l.insertIdx i (⟨qpath, qdata, qthere⟩ : AEntry)).map AEntry.row := ins_map AEntry.row l i (⟨qpath, qdata, qthere⟩ : AEntry)
theorem AEntry.rdrop (l : List AEntry) (k : Nat) : List.drop 3 ((l.map AEntry.row).getD k []) = [] := by
  rw [List.getD_eq_getElem?_getD, List.getElem?_map]; cases l[k]? <;> rfl
attribute [go_sem] AEntry.rdrop
theorem AEntry.rsnoc (l : List AEntry) (qpath : List UInt8) (qdata : List UInt8) (qthere : Bool) : l.map AEntry.row ++ [[.str qpath, .str qdata, .bool qthere]] = (l ++ [(⟨qpath, qdata, qthere⟩ : AEntry)]).map AEntry.row := by rw [List.map_append]; rfl

structure ARequest where
  op : Int
  session : Int
  path : List UInt8
  data : List UInt8
  version : Int
  flags : Int
instance : Inhabited ARequest := ⟨⟨0, 0, [], [], 0, 0⟩⟩
theorem ARequest.ext_iff (a b : ARequest) : a = b ↔ a.op = b.op ∧ a.session = b.session ∧ a.path = b.path ∧ a.data = b.data ∧ a.version = b.version ∧ a.flags = b.flags := by
  cases a; cases b; simp
instance : DecidableEq ARequest := fun a b => decidable_of_iff _ (ARequest.ext_iff a b).symm
def ARequest.row (x : ARequest) : List DV := [.int .i64 x.op, .int .i64 x.session, .str x.path, .str x.data, .int .i64 x.version, .int .i64 x.flags]
def ARequest.av (x : ARequest) : AV := .agg [.d (.int .i64 x.op), .d (.int .i64 x.session), .d (.str x.path), .d (.str x.data), .d (.int .i64 x.version), .d (.int .i64 x.flags)]
theorem ARequest.dec (a b : ARequest) : (decide (a.op = b.op) && (decide (a.session = b.session) && (decide (a.path = b.path) && (decide (a.data = b.data) && (decide (a.version = b.version) && decide (a.flags = b.flags)))))) = decide (a = b) := by
  rw [Bool.eq_iff_iff]; simp only [Bool.and_eq_true, decide_eq_true_eq, ARequest.ext_iff, and_assoc]
theorem ARequest.getD (l : List ARequest) (i : Nat) : (l.map ARequest.row).getD i [.int .i64 0, .int .i64 0, .str [], .str [], .int .i64 0, .int .i64 0] = (l.getD i default).row := by
  rw [List.getD_eq_getElem?_getD, List.getD_eq_getElem?_getD, List.getElem?_map]; cases l[i]? <;> rfl
theorem ARequest.rgetD (l : List ARequest) (i : Nat) (z : List DV) (h : i < l.length) : (l.map ARequest.row).getD i z = (l.getD i default).row := getD_row ARequest.row l i z h
theorem ARequest.rset (l : List ARequest) (i : Nat) (qop : Int) (qsession : Int) (qpath : List UInt8) (qdata : List UInt8) (qversion : Int) (qflags : Int) : (l.map ARequest.row).set i [.int .i64 qop, .int .i64 qsession, .str qpath, .str qdata, .int .i64 qversion, .int .i64 qflags] = (l.set i (⟨qop, qsession, qpath, qdata, qversion, qflags⟩ : ARequest)).map ARequest.row := by rw [List.map_set]; rfl
theorem ARequest.rins (l : List ARequest) (i : Nat) (qop : Int) (qsession : Int) (qpath : List UInt8) (qdata : List UInt8) (qversion : Int) (qflags : Int) : (l.map ARequest.row).insertIdx i [.int .i64 qop, .int .i64 qsession, .str qpath, .str qdata, .int .i64 qversion, .int .i64 qflags] = (l.insertIdx i (⟨qop, qsession, qpath, qdata, qversion, qflags⟩ : ARequest)).map ARequest.row := ins_map ARequest.row l i (⟨qop, qsession, qpath, qdata, qversion, qflags⟩ : ARequest)
theorem ARequest.rdrop (l : List ARequest) (k : Nat) : List.drop 6 ((l.map ARequest.row).getD k []) = [] := by
  rw [List.getD_eq_getElem?_getD, List.getElem?_map]; cases l[k]? <;> rfl
attribute [go_sem] ARequest.rdrop
theorem ARequest.rsnoc (l : List ARequest) (qop : Int) (qsession : Int) (qpath : List UInt8) (qdata : List UInt8) (qversion : Int) (qflags : Int) : l.map ARequest.row ++ [[.int .i64 qop, .int .i64 qsession, .str qpath, .str qdata, .int .i64 qversion, .int .i64 qflags]] = (l ++ [(⟨qop, qsession, qpath, qdata, qversion, qflags⟩ : ARequest)]).map ARequest.row := by rw [List.map_append]; rfl

structure ATree where
  zxid : Int
  nodes : List (ANode)
  sessions : List (Int)
instance : Inhabited ATree := ⟨⟨0, [], []⟩⟩
theorem ATree.ext_iff (a b : ATree) : a = b ↔ a.zxid = b.zxid ∧ a.nodes = b.nodes ∧ a.sessions = b.sessions := by
  cases a; cases b; simp
instance : DecidableEq ATree := fun a b => decidable_of_iff _ (ATree.ext_iff a b).symm
def ATree.row (x : ATree) : List DV := [.int .i64 x.zxid, .sl 9 (x.nodes.map ANode.row), .sl 1 (x.sessions.map irow)]
def ATree.av (x : ATree) : AV := .agg [.d (.int .i64 x.zxid), .d (.sl 9 (x.nodes.map ANode.row)), .d (.sl 1 (x.sessions.map irow))]
theorem ATree.rgetD (l : List ATree) (i : Nat) (z : List DV) (h : i < l.length) : (l.map ATree.row).getD i z = (l.getD i default).row := getD_row ATree.row l i z h
theorem ATree.rset (l : List ATree) (i : Nat) (qzxid : Int) (qnodes : List (ANode)) (qsessions : List (Int)) : (l.map ATree.row).set i [.int .i64 qzxid, .sl 9 (qnodes.map ANode.row), .sl 1 (qsessions.map irow)] = (l.set i (⟨qzxid, qnodes, qsessions⟩ : ATree)).map ATree.row := by rw [List.map_set]; rfl
theorem ATree.rins (l : List ATree) (i : Nat) (qzxid : Int) (qnodes : List (ANode)) (qsessions : List (Int)) : (l.map ATree.row).insertIdx i [.int .i64 qzxid, .sl 9 (qnodes.map ANode.row), .sl 1 (qsessions.map irow)] = (l.insertIdx i (⟨qzxid, qnodes, qsessions⟩ : ATree)).map ATree.row := ins_map ATree.row l i (⟨qzxid, qnodes, qsessions⟩ : ATree)
theorem ATree.rdrop (l : List ATree) (k : Nat) : List.drop 3 ((l.map ATree.row).getD k []) = [] := by
  rw [List.getD_eq_getElem?_getD, List.getElem?_map]; cases l[k]? <;> rfl
attribute [go_sem] ATree.rdrop
theorem ATree.rsnoc (l : List ATree) (qzxid : Int) (qnodes : List (ANode)) (qsessions : List (Int)) : l.map ATree.row ++ [[.int .i64 qzxid, .sl 9 (qnodes.map ANode.row), .sl 1 (qsessions.map irow)]] = (l ++ [(⟨qzxid, qnodes, qsessions⟩ : ATree)]).map ATree.row := by rw [List.map_append]; rfl

structure ADisk where
  files : List (AFile)
instance : Inhabited ADisk := ⟨⟨[]⟩⟩
theorem ADisk.ext_iff (a b : ADisk) : a = b ↔ a.files = b.files := by
  cases a; cases b; simp
instance : DecidableEq ADisk := fun a b => decidable_of_iff _ (ADisk.ext_iff a b).symm
def ADisk.row (x : ADisk) : List DV := [.sl 3 (x.files.map AFile.row)]
def ADisk.av (x : ADisk) : AV := .agg [.d (.sl 3 (x.files.map AFile.row))]
theorem ADisk.rgetD (l : List ADisk) (i : Nat) (z : List DV) (h : i < l.length) : (l.map ADisk.row).getD i z = (l.getD i default).row := getD_row ADisk.row l i z h
theorem ADisk.rset (l : List ADisk) (i : Nat) (qfiles : List (AFile)) : (l.map ADisk.row).set i [.sl 3 (qfiles.map AFile.row)] = (l.set i (⟨qfiles⟩ : ADisk)).map ADisk.row := by rw [List.map_set]; rfl
theorem ADisk.rins (l : List ADisk) (i : Nat) (qfiles : List (AFile)) : (l.map ADisk.row).insertIdx i [.sl 3 (qfiles.map AFile.row)] = (l.insertIdx i (⟨qfiles⟩ : ADisk)).map ADisk.row := ins_map ADisk.row l i (⟨qfiles⟩ : ADisk)
theorem ADisk.rdrop (l : List ADisk) (k : Nat) : List.drop 1 ((l.map ADisk.row).getD k []) = [] := by
  rw [List.getD_eq_getElem?_getD, List.getElem?_map]; cases l[k]? <;> rfl
attribute [go_sem] ADisk.rdrop
theorem ADisk.rsnoc (l : List ADisk) (qfiles : List (AFile)) : l.map ADisk.row ++ [[.sl 3 (qfiles.map AFile.row)]] = (l ++ [(⟨qfiles⟩ : ADisk)]).map ADisk.row := by rw [List.map_append]; rfl

structure APeer where
  id : Int
  epoch : Int
  log : List (ATxn)
  done : Int
instance : Inhabited APeer := ⟨⟨0, 0, [], 0⟩⟩
theorem APeer.ext_iff (a b : APeer) : a = b ↔ a.id = b.id ∧ a.epoch = b.epoch ∧ a.log = b.log ∧ a.done = b.done := by
  cases a; cases b; simp
instance : DecidableEq APeer := fun a b => decidable_of_iff _ (APeer.ext_iff a b).symm
def APeer.row (x : APeer) : List DV := [.int .i64 x.id, .int .i64 x.epoch, .sl 7 (x.log.map ATxn.row), .int .i64 x.done]
def APeer.av (x : APeer) : AV := .agg [.d (.int .i64 x.id), .d (.int .i64 x.epoch), .d (.sl 7 (x.log.map ATxn.row)), .d (.int .i64 x.done)]
theorem APeer.rgetD (l : List APeer) (i : Nat) (z : List DV) (h : i < l.length) : (l.map APeer.row).getD i z = (l.getD i default).row := getD_row APeer.row l i z h
theorem APeer.rset (l : List APeer) (i : Nat) (qid : Int) (qepoch : Int) (qlog : List (ATxn)) (qdone : Int) : (l.map APeer.row).set i [.int .i64 qid, .int .i64 qepoch, .sl 7 (qlog.map ATxn.row), .int .i64 qdone] = (l.set i (⟨qid, qepoch, qlog, qdone⟩ : APeer)).map APeer.row := by rw [List.map_set]; rfl
theorem APeer.rins (l : List APeer) (i : Nat) (qid : Int) (qepoch : Int) (qlog : List (ATxn)) (qdone : Int) : (l.map APeer.row).insertIdx i [.int .i64 qid, .int .i64 qepoch, .sl 7 (qlog.map ATxn.row), .int .i64 qdone] = (l.insertIdx i (⟨qid, qepoch, qlog, qdone⟩ : APeer)).map APeer.row := ins_map APeer.row l i (⟨qid, qepoch, qlog, qdone⟩ : APeer)
theorem APeer.rdrop (l : List APeer) (k : Nat) : List.drop 4 ((l.map APeer.row).getD k []) = [] := by
  rw [List.getD_eq_getElem?_getD, List.getElem?_map]; cases l[k]? <;> rfl
attribute [go_sem] APeer.rdrop
theorem APeer.rsnoc (l : List APeer) (qid : Int) (qepoch : Int) (qlog : List (ATxn)) (qdone : Int) : l.map APeer.row ++ [[.int .i64 qid, .int .i64 qepoch, .sl 7 (qlog.map ATxn.row), .int .i64 qdone]] = (l ++ [(⟨qid, qepoch, qlog, qdone⟩ : APeer)]).map APeer.row := by rw [List.map_append]; rfl

structure AServer where
  up : Bool
  disk : ADisk
  peer : APeer
  tree : ATree
  watches : List (AWatch)
instance : Inhabited AServer := ⟨⟨false, default, default, default, []⟩⟩
theorem AServer.ext_iff (a b : AServer) : a = b ↔ a.up = b.up ∧ a.disk = b.disk ∧ a.peer = b.peer ∧ a.tree = b.tree ∧ a.watches = b.watches := by
  cases a; cases b; simp
instance : DecidableEq AServer := fun a b => decidable_of_iff _ (AServer.ext_iff a b).symm
def AServer.row (x : AServer) : List DV := [.bool x.up, .sl 3 (x.disk.files.map AFile.row), .int .i64 x.peer.id, .int .i64 x.peer.epoch, .sl 7 (x.peer.log.map ATxn.row), .int .i64 x.peer.done, .int .i64 x.tree.zxid, .sl 9 (x.tree.nodes.map ANode.row), .sl 1 (x.tree.sessions.map irow), .sl 3 (x.watches.map AWatch.row)]
def AServer.av (x : AServer) : AV := .agg [.d (.bool x.up), .d (.sl 3 (x.disk.files.map AFile.row)), .d (.int .i64 x.peer.id), .d (.int .i64 x.peer.epoch), .d (.sl 7 (x.peer.log.map ATxn.row)), .d (.int .i64 x.peer.done), .d (.int .i64 x.tree.zxid), .d (.sl 9 (x.tree.nodes.map ANode.row)), .d (.sl 1 (x.tree.sessions.map irow)), .d (.sl 3 (x.watches.map AWatch.row))]
theorem AServer.rgetD (l : List AServer) (i : Nat) (z : List DV) (h : i < l.length) : (l.map AServer.row).getD i z = (l.getD i default).row := getD_row AServer.row l i z h
theorem AServer.rset (l : List AServer) (i : Nat) (qup : Bool) (qdisk_files : List (AFile)) (qpeer_id : Int) (qpeer_epoch : Int) (qpeer_log : List (ATxn)) (qpeer_done : Int) (qtree_zxid : Int) (qtree_nodes : List (ANode)) (qtree_sessions : List (Int)) (qwatches : List (AWatch)) : (l.map AServer.row).set i [.bool qup, .sl 3 (qdisk_files.map AFile.row), .int .i64 qpeer_id, .int .i64 qpeer_epoch, .sl 7 (qpeer_log.map ATxn.row), .int .i64 qpeer_done, .int .i64 qtree_zxid, .sl 9 (qtree_nodes.map ANode.row), .sl 1 (qtree_sessions.map irow), .sl 3 (qwatches.map AWatch.row)] = (l.set i (⟨qup, ⟨qdisk_files⟩, ⟨qpeer_id, qpeer_epoch, qpeer_log, qpeer_done⟩, ⟨qtree_zxid, qtree_nodes, qtree_sessions⟩, qwatches⟩ : AServer)).map AServer.row := by rw [List.map_set]; rfl
theorem AServer.rins (l : List AServer) (i : Nat) (qup : Bool) (qdisk_files : List (AFile)) (qpeer_id : Int) (qpeer_epoch : Int) (qpeer_log : List (ATxn)) (qpeer_done : Int) (qtree_zxid : Int) (qtree_nodes : List (ANode)) (qtree_sessions : List (Int)) (qwatches : List (AWatch)) : (l.map AServer.row).insertIdx i [.bool qup, .sl 3 (qdisk_files.map AFile.row), .int .i64 qpeer_id, .int .i64 qpeer_epoch, .sl 7 (qpeer_log.map ATxn.row), .int .i64 qpeer_done, .int .i64 qtree_zxid, .sl 9 (qtree_nodes.map ANode.row), .sl 1 (qtree_sessions.map irow), .sl 3 (qwatches.map AWatch.row)] = (l.insertIdx i (⟨qup, ⟨qdisk_files⟩, ⟨qpeer_id, qpeer_epoch, qpeer_log, qpeer_done⟩, ⟨qtree_zxid, qtree_nodes, qtree_sessions⟩, qwatches⟩ : AServer)).map AServer.row := ins_map AServer.row l i (⟨qup, ⟨qdisk_files⟩, ⟨qpeer_id, qpeer_epoch, qpeer_log, qpeer_done⟩, ⟨qtree_zxid, qtree_nodes, qtree_sessions⟩, qwatches⟩ : AServer)
theorem AServer.rdrop (l : List AServer) (k : Nat) : List.drop 10 ((l.map AServer.row).getD k []) = [] := by
  rw [List.getD_eq_getElem?_getD, List.getElem?_map]; cases l[k]? <;> rfl
attribute [go_sem] AServer.rdrop
theorem AServer.rsnoc (l : List AServer) (qup : Bool) (qdisk_files : List (AFile)) (qpeer_id : Int) (qpeer_epoch : Int) (qpeer_log : List (ATxn)) (qpeer_done : Int) (qtree_zxid : Int) (qtree_nodes : List (ANode)) (qtree_sessions : List (Int)) (qwatches : List (AWatch)) : l.map AServer.row ++ [[.bool qup, .sl 3 (qdisk_files.map AFile.row), .int .i64 qpeer_id, .int .i64 qpeer_epoch, .sl 7 (qpeer_log.map ATxn.row), .int .i64 qpeer_done, .int .i64 qtree_zxid, .sl 9 (qtree_nodes.map ANode.row), .sl 1 (qtree_sessions.map irow), .sl 3 (qwatches.map AWatch.row)]] = (l ++ [(⟨qup, ⟨qdisk_files⟩, ⟨qpeer_id, qpeer_epoch, qpeer_log, qpeer_done⟩, ⟨qtree_zxid, qtree_nodes, qtree_sessions⟩, qwatches⟩ : AServer)]).map AServer.row := by rw [List.map_append]; rfl

structure AClient where
  session : Int
  seen : Int
  cache : List (AEntry)
instance : Inhabited AClient := ⟨⟨0, 0, []⟩⟩
theorem AClient.ext_iff (a b : AClient) : a = b ↔ a.session = b.session ∧ a.seen = b.seen ∧ a.cache = b.cache := by
  cases a; cases b; simp
instance : DecidableEq AClient := fun a b => decidable_of_iff _ (AClient.ext_iff a b).symm
def AClient.row (x : AClient) : List DV := [.int .i64 x.session, .int .i64 x.seen, .sl 3 (x.cache.map AEntry.row)]
def AClient.av (x : AClient) : AV := .agg [.d (.int .i64 x.session), .d (.int .i64 x.seen), .d (.sl 3 (x.cache.map AEntry.row))]
theorem AClient.rgetD (l : List AClient) (i : Nat) (z : List DV) (h : i < l.length) : (l.map AClient.row).getD i z = (l.getD i default).row := getD_row AClient.row l i z h
theorem AClient.rset (l : List AClient) (i : Nat) (qsession : Int) (qseen : Int) (qcache : List (AEntry)) : (l.map AClient.row).set i [.int .i64 qsession, .int .i64 qseen, .sl 3 (qcache.map AEntry.row)] = (l.set i (⟨qsession, qseen, qcache⟩ : AClient)).map AClient.row := by rw [List.map_set]; rfl
theorem AClient.rins (l : List AClient) (i : Nat) (qsession : Int) (qseen : Int) (qcache : List (AEntry)) : (l.map AClient.row).insertIdx i [.int .i64 qsession, .int .i64 qseen, .sl 3 (qcache.map AEntry.row)] = (l.insertIdx i (⟨qsession, qseen, qcache⟩ : AClient)).map AClient.row := ins_map AClient.row l i (⟨qsession, qseen, qcache⟩ : AClient)
theorem AClient.rdrop (l : List AClient) (k : Nat) : List.drop 3 ((l.map AClient.row).getD k []) = [] := by
  rw [List.getD_eq_getElem?_getD, List.getElem?_map]; cases l[k]? <;> rfl
attribute [go_sem] AClient.rdrop
theorem AClient.rsnoc (l : List AClient) (qsession : Int) (qseen : Int) (qcache : List (AEntry)) : l.map AClient.row ++ [[.int .i64 qsession, .int .i64 qseen, .sl 3 (qcache.map AEntry.row)]] = (l ++ [(⟨qsession, qseen, qcache⟩ : AClient)]).map AClient.row := by rw [List.map_append]; rfl

structure ADeed where
  kind : Int
  client : Int
  server : Int
  request : ARequest
  lost : Int
  slow : Int
  keep : Int
  watch : Bool
instance : Inhabited ADeed := ⟨⟨0, 0, 0, default, 0, 0, 0, false⟩⟩
theorem ADeed.ext_iff (a b : ADeed) : a = b ↔ a.kind = b.kind ∧ a.client = b.client ∧ a.server = b.server ∧ a.request = b.request ∧ a.lost = b.lost ∧ a.slow = b.slow ∧ a.keep = b.keep ∧ a.watch = b.watch := by
  cases a; cases b; simp
instance : DecidableEq ADeed := fun a b => decidable_of_iff _ (ADeed.ext_iff a b).symm
def ADeed.row (x : ADeed) : List DV := [.int .i64 x.kind, .int .i64 x.client, .int .i64 x.server, .int .i64 x.request.op, .int .i64 x.request.session, .str x.request.path, .str x.request.data, .int .i64 x.request.version, .int .i64 x.request.flags, .int .i64 x.lost, .int .i64 x.slow, .int .i64 x.keep, .bool x.watch]
def ADeed.av (x : ADeed) : AV := .agg [.d (.int .i64 x.kind), .d (.int .i64 x.client), .d (.int .i64 x.server), .d (.int .i64 x.request.op), .d (.int .i64 x.request.session), .d (.str x.request.path), .d (.str x.request.data), .d (.int .i64 x.request.version), .d (.int .i64 x.request.flags), .d (.int .i64 x.lost), .d (.int .i64 x.slow), .d (.int .i64 x.keep), .d (.bool x.watch)]
theorem ADeed.dec (a b : ADeed) : (decide (a.kind = b.kind) && (decide (a.client = b.client) && (decide (a.server = b.server) && (decide (a.request.op = b.request.op) && (decide (a.request.session = b.request.session) && (decide (a.request.path = b.request.path) && (decide (a.request.data = b.request.data) && (decide (a.request.version = b.request.version) && (decide (a.request.flags = b.request.flags) && (decide (a.lost = b.lost) && (decide (a.slow = b.slow) && (decide (a.keep = b.keep) && decide (a.watch = b.watch))))))))))))) = decide (a = b) := by
  rw [Bool.eq_iff_iff]; simp only [Bool.and_eq_true, decide_eq_true_eq, ADeed.ext_iff, ARequest.ext_iff, and_assoc]
theorem ADeed.getD (l : List ADeed) (i : Nat) : (l.map ADeed.row).getD i [.int .i64 0, .int .i64 0, .int .i64 0, .int .i64 0, .int .i64 0, .str [], .str [], .int .i64 0, .int .i64 0, .int .i64 0, .int .i64 0, .int .i64 0, .bool false] = (l.getD i default).row := by
  rw [List.getD_eq_getElem?_getD, List.getD_eq_getElem?_getD, List.getElem?_map]; cases l[i]? <;> rfl
theorem ADeed.rgetD (l : List ADeed) (i : Nat) (z : List DV) (h : i < l.length) : (l.map ADeed.row).getD i z = (l.getD i default).row := getD_row ADeed.row l i z h
theorem ADeed.rset (l : List ADeed) (i : Nat) (qkind : Int) (qclient : Int) (qserver : Int) (qrequest_op : Int) (qrequest_session : Int) (qrequest_path : List UInt8) (qrequest_data : List UInt8) (qrequest_version : Int) (qrequest_flags : Int) (qlost : Int) (qslow : Int) (qkeep : Int) (qwatch : Bool) : (l.map ADeed.row).set i [.int .i64 qkind, .int .i64 qclient, .int .i64 qserver, .int .i64 qrequest_op, .int .i64 qrequest_session, .str qrequest_path, .str qrequest_data, .int .i64 qrequest_version, .int .i64 qrequest_flags, .int .i64 qlost, .int .i64 qslow, .int .i64 qkeep, .bool qwatch] = (l.set i (⟨qkind, qclient, qserver, ⟨qrequest_op, qrequest_session, qrequest_path, qrequest_data, qrequest_version, qrequest_flags⟩, qlost, qslow, qkeep, qwatch⟩ : ADeed)).map ADeed.row := by rw [List.map_set]; rfl
theorem ADeed.rins (l : List ADeed) (i : Nat) (qkind : Int) (qclient : Int) (qserver : Int) (qrequest_op : Int) (qrequest_session : Int) (qrequest_path : List UInt8) (qrequest_data : List UInt8) (qrequest_version : Int) (qrequest_flags : Int) (qlost : Int) (qslow : Int) (qkeep : Int) (qwatch : Bool) : (l.map ADeed.row).insertIdx i [.int .i64 qkind, .int .i64 qclient, .int .i64 qserver, .int .i64 qrequest_op, .int .i64 qrequest_session, .str qrequest_path, .str qrequest_data, .int .i64 qrequest_version, .int .i64 qrequest_flags, .int .i64 qlost, .int .i64 qslow, .int .i64 qkeep, .bool qwatch] = (l.insertIdx i (⟨qkind, qclient, qserver, ⟨qrequest_op, qrequest_session, qrequest_path, qrequest_data, qrequest_version, qrequest_flags⟩, qlost, qslow, qkeep, qwatch⟩ : ADeed)).map ADeed.row := ins_map ADeed.row l i (⟨qkind, qclient, qserver, ⟨qrequest_op, qrequest_session, qrequest_path, qrequest_data, qrequest_version, qrequest_flags⟩, qlost, qslow, qkeep, qwatch⟩ : ADeed)
theorem ADeed.rdrop (l : List ADeed) (k : Nat) : List.drop 13 ((l.map ADeed.row).getD k []) = [] := by
  rw [List.getD_eq_getElem?_getD, List.getElem?_map]; cases l[k]? <;> rfl
attribute [go_sem] ADeed.rdrop
theorem ADeed.rsnoc (l : List ADeed) (qkind : Int) (qclient : Int) (qserver : Int) (qrequest_op : Int) (qrequest_session : Int) (qrequest_path : List UInt8) (qrequest_data : List UInt8) (qrequest_version : Int) (qrequest_flags : Int) (qlost : Int) (qslow : Int) (qkeep : Int) (qwatch : Bool) : l.map ADeed.row ++ [[.int .i64 qkind, .int .i64 qclient, .int .i64 qserver, .int .i64 qrequest_op, .int .i64 qrequest_session, .str qrequest_path, .str qrequest_data, .int .i64 qrequest_version, .int .i64 qrequest_flags, .int .i64 qlost, .int .i64 qslow, .int .i64 qkeep, .bool qwatch]] = (l ++ [(⟨qkind, qclient, qserver, ⟨qrequest_op, qrequest_session, qrequest_path, qrequest_data, qrequest_version, qrequest_flags⟩, qlost, qslow, qkeep, qwatch⟩ : ADeed)]).map ADeed.row := by rw [List.map_append]; rfl

structure AReply where
  code : Int
  zxid : Int
  path : List UInt8
  data : List UInt8
  stat : AStat
  notes : List (ANote)
instance : Inhabited AReply := ⟨⟨0, 0, [], [], default, []⟩⟩
theorem AReply.ext_iff (a b : AReply) : a = b ↔ a.code = b.code ∧ a.zxid = b.zxid ∧ a.path = b.path ∧ a.data = b.data ∧ a.stat = b.stat ∧ a.notes = b.notes := by
  cases a; cases b; simp
instance : DecidableEq AReply := fun a b => decidable_of_iff _ (AReply.ext_iff a b).symm
def AReply.row (x : AReply) : List DV := [.int .i64 x.code, .int .i64 x.zxid, .str x.path, .str x.data, .int .i64 x.stat.czxid, .int .i64 x.stat.mzxid, .int .i64 x.stat.pzxid, .int .i64 x.stat.version, .int .i64 x.stat.cversion, .int .i64 x.stat.owner, .int .i64 x.stat.kids, .sl 3 (x.notes.map ANote.row)]
def AReply.av (x : AReply) : AV := .agg [.d (.int .i64 x.code), .d (.int .i64 x.zxid), .d (.str x.path), .d (.str x.data), .d (.int .i64 x.stat.czxid), .d (.int .i64 x.stat.mzxid), .d (.int .i64 x.stat.pzxid), .d (.int .i64 x.stat.version), .d (.int .i64 x.stat.cversion), .d (.int .i64 x.stat.owner), .d (.int .i64 x.stat.kids), .d (.sl 3 (x.notes.map ANote.row))]
theorem AReply.rgetD (l : List AReply) (i : Nat) (z : List DV) (h : i < l.length) : (l.map AReply.row).getD i z = (l.getD i default).row := getD_row AReply.row l i z h
theorem AReply.rset (l : List AReply) (i : Nat) (qcode : Int) (qzxid : Int) (qpath : List UInt8) (qdata : List UInt8) (qstat_czxid : Int) (qstat_mzxid : Int) (qstat_pzxid : Int) (qstat_version : Int) (qstat_cversion : Int) (qstat_owner : Int) (qstat_kids : Int) (qnotes : List (ANote)) : (l.map AReply.row).set i [.int .i64 qcode, .int .i64 qzxid, .str qpath, .str qdata, .int .i64 qstat_czxid, .int .i64 qstat_mzxid, .int .i64 qstat_pzxid, .int .i64 qstat_version, .int .i64 qstat_cversion, .int .i64 qstat_owner, .int .i64 qstat_kids, .sl 3 (qnotes.map ANote.row)] = (l.set i (⟨qcode, qzxid, qpath, qdata, ⟨qstat_czxid, qstat_mzxid, qstat_pzxid, qstat_version, qstat_cversion, qstat_owner, qstat_kids⟩, qnotes⟩ : AReply)).map AReply.row := by rw [List.map_set]; rfl
theorem AReply.rins (l : List AReply) (i : Nat) (qcode : Int) (qzxid : Int) (qpath : List UInt8) (qdata : List UInt8) (qstat_czxid : Int) (qstat_mzxid : Int) (qstat_pzxid : Int) (qstat_version : Int) (qstat_cversion : Int) (qstat_owner : Int) (qstat_kids : Int) (qnotes : List (ANote)) : (l.map AReply.row).insertIdx i [.int .i64 qcode, .int .i64 qzxid, .str qpath, .str qdata, .int .i64 qstat_czxid, .int .i64 qstat_mzxid, .int .i64 qstat_pzxid, .int .i64 qstat_version, .int .i64 qstat_cversion, .int .i64 qstat_owner, .int .i64 qstat_kids, .sl 3 (qnotes.map ANote.row)] = (l.insertIdx i (⟨qcode, qzxid, qpath, qdata, ⟨qstat_czxid, qstat_mzxid, qstat_pzxid, qstat_version, qstat_cversion, qstat_owner, qstat_kids⟩, qnotes⟩ : AReply)).map AReply.row := ins_map AReply.row l i (⟨qcode, qzxid, qpath, qdata, ⟨qstat_czxid, qstat_mzxid, qstat_pzxid, qstat_version, qstat_cversion, qstat_owner, qstat_kids⟩, qnotes⟩ : AReply)
theorem AReply.rdrop (l : List AReply) (k : Nat) : List.drop 12 ((l.map AReply.row).getD k []) = [] := by
  rw [List.getD_eq_getElem?_getD, List.getElem?_map]; cases l[k]? <;> rfl
attribute [go_sem] AReply.rdrop
theorem AReply.rsnoc (l : List AReply) (qcode : Int) (qzxid : Int) (qpath : List UInt8) (qdata : List UInt8) (qstat_czxid : Int) (qstat_mzxid : Int) (qstat_pzxid : Int) (qstat_version : Int) (qstat_cversion : Int) (qstat_owner : Int) (qstat_kids : Int) (qnotes : List (ANote)) : l.map AReply.row ++ [[.int .i64 qcode, .int .i64 qzxid, .str qpath, .str qdata, .int .i64 qstat_czxid, .int .i64 qstat_mzxid, .int .i64 qstat_pzxid, .int .i64 qstat_version, .int .i64 qstat_cversion, .int .i64 qstat_owner, .int .i64 qstat_kids, .sl 3 (qnotes.map ANote.row)]] = (l ++ [(⟨qcode, qzxid, qpath, qdata, ⟨qstat_czxid, qstat_mzxid, qstat_pzxid, qstat_version, qstat_cversion, qstat_owner, qstat_kids⟩, qnotes⟩ : AReply)]).map AReply.row := by rw [List.map_append]; rfl

/-! ### What is typed -/
def okS (s : List UInt8) : Prop := s.length ≤ 140737488351232
theorem wf_okI {n : Int} (h : (Lit.int .i64 n).wf = true) : okI n := by
  simp only [Lit.wf, Bool.and_eq_true, decide_eq_true_eq] at h
  have h1 : IntKind.i64.min = -9223372036854775808 := rfl
  have h2 : IntKind.i64.max = 9223372036854775807 := rfl
  rw [h1, h2] at h; exact h
theorem list_of_rows {α : Type} {f : α → List DV} {wf : α → Prop} : ∀ {rows : List (List DV)}, (∀ r, r ∈ rows → ∃ x, r = f x ∧ wf x) → ∃ l : List α, rows = l.map f ∧ ∀ x, x ∈ l → wf x
  | [], _ => ⟨[], rfl, by simp⟩
  | r :: rows, h => by
    obtain ⟨x, h1, h2⟩ := h r (by simp)
    obtain ⟨l, h3, h4⟩ := list_of_rows (rows := rows) fun r hr => h r (by simp [hr])
    exact ⟨x :: l, by rw [h1, h3]; rfl, fun y hy => by rcases List.mem_cons.1 hy with rfl | hy; exact h2; exact h4 y hy⟩

def ATxn.wf (x : ATxn) : Prop := okI x.zxid ∧ okI x.op ∧ okI x.session ∧ okS x.path ∧ okS x.data ∧ okI x.version ∧ okI x.owner
def AStat.wf (x : AStat) : Prop := okI x.czxid ∧ okI x.mzxid ∧ okI x.pzxid ∧ okI x.version ∧ okI x.cversion ∧ okI x.owner ∧ okI x.kids
def ANode.wf (x : ANode) : Prop := okS x.path ∧ okS x.data ∧ x.stat.wf
def AFile.wf (x : AFile) : Prop := okS x.name ∧ okS x.safe ∧ okS x.tail
def AWatch.wf (x : AWatch) : Prop := okI x.session ∧ okI x.kind ∧ okS x.path
def AEvent.wf (x : AEvent) : Prop := okI x.kind ∧ okS x.path
def ANote.wf (x : ANote) : Prop := okI x.session ∧ x.event.wf
def AEntry.wf (x : AEntry) : Prop := okS x.path ∧ okS x.data ∧ True
def ARequest.wf (x : ARequest) : Prop := okI x.op ∧ okI x.session ∧ okS x.path ∧ okS x.data ∧ okI x.version ∧ okI x.flags
def ATree.wf (x : ATree) : Prop := okI x.zxid ∧ (x.nodes.length * 88 ≤ 140737488351232 ∧ ∀ y : ANode, y ∈ x.nodes → y.wf) ∧ (x.sessions.length * 8 ≤ 140737488351232 ∧ ∀ y : Int, y ∈ x.sessions → okI y)
def ADisk.wf (x : ADisk) : Prop := (x.files.length * 48 ≤ 140737488351232 ∧ ∀ y : AFile, y ∈ x.files → y.wf)
def APeer.wf (x : APeer) : Prop := okI x.id ∧ okI x.epoch ∧ (x.log.length * 72 ≤ 140737488351232 ∧ ∀ y : ATxn, y ∈ x.log → y.wf) ∧ okI x.done
def AServer.wf (x : AServer) : Prop := True ∧ x.disk.wf ∧ x.peer.wf ∧ x.tree.wf ∧ (x.watches.length * 32 ≤ 140737488351232 ∧ ∀ y : AWatch, y ∈ x.watches → y.wf)
def AClient.wf (x : AClient) : Prop := okI x.session ∧ okI x.seen ∧ (x.cache.length * 40 ≤ 140737488351232 ∧ ∀ y : AEntry, y ∈ x.cache → y.wf)
def ADeed.wf (x : ADeed) : Prop := okI x.kind ∧ okI x.client ∧ okI x.server ∧ x.request.wf ∧ okI x.lost ∧ okI x.slow ∧ okI x.keep ∧ True
def AReply.wf (x : AReply) : Prop := okI x.code ∧ okI x.zxid ∧ okS x.path ∧ okS x.data ∧ x.stat.wf ∧ (x.notes.length * 32 ≤ 140737488351232 ∧ ∀ y : ANote, y ∈ x.notes → y.wf)
attribute [go_sem] take_map_len irow srow u8row irow_getD srow_getD u8row_getD ATxn.row ATxn.av AStat.row AStat.av ANode.row ANode.av AFile.row AFile.av AWatch.row AWatch.av AEvent.row AEvent.av ANote.row ANote.av AEntry.row AEntry.av ARequest.row ARequest.av ATree.row ATree.av ADisk.row ADisk.av APeer.row APeer.av AServer.row AServer.av AClient.row AClient.av ADeed.row ADeed.av AReply.row AReply.av ATxn.dec ATxn.getD AStat.dec AStat.getD ANode.dec ANode.getD AFile.dec AFile.getD AWatch.dec AWatch.getD AEvent.dec AEvent.getD ANote.dec ANote.getD AEntry.dec AEntry.getD ARequest.dec ARequest.getD ADeed.dec ADeed.getD
attribute [go_sem] List.length_map List.length_take List.length_drop
end Go.Proofs.YtfnilhdofopoeabDoor
