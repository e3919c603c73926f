/- A part of what PrepMakes leans on: texts of this claim, one behind the other. No condition. -/
import Derived.Lib.Strings
import Derived.Lib.Slices
import Derived.Lib.Walk
import Derived.Lib.Bytealg
import Derived.Sort.Walk0
import Derived.Test.YtmpfhalheaeibaaDoorPrepMakesK5
namespace Go.Proofs.YtmpfhalheaeibaaDoor
set_option linter.unusedVariables false
set_option linter.unusedSimpArgs false
open Go Go.RowKit
def irow (n : Int) : List DV := [.int .i64 n]
def srow (s : List UInt8) : List DV := [.str s]
theorem getD_row {α : Type} [Inhabited α] (f : α → List DV) (l : List α) (i : Nat) (z : List DV) (h : i < l.length) : (l.map f).getD i z = f (l.getD i default) := by
  rw [List.getD_eq_getElem?_getD, List.getD_eq_getElem?_getD, List.getElem?_map, List.getElem?_eq_getElem h]; rfl
theorem irow_getD (l : List Int) (i : Nat) : (l.map irow).getD i [.int .i64 0] = irow (l.getD i default) := by
  rw [List.getD_eq_getElem?_getD, List.getD_eq_getElem?_getD, List.getElem?_map]; cases l[i]? <;> rfl
theorem srow_getD (l : List (List UInt8)) (i : Nat) : (l.map srow).getD i [.str []] = srow (l.getD i default) := by
  rw [List.getD_eq_getElem?_getD, List.getD_eq_getElem?_getD, List.getElem?_map]; cases l[i]? <;> rfl
theorem u8row_getD (l : List UInt8) (i : Nat) : (l.map u8row).getD i [.int .u8 0] = u8row (l.getD i 0) := by
  rw [List.getD_eq_getElem?_getD, List.getD_eq_getElem?_getD, List.getElem?_map]; cases l[i]? <;> rfl
theorem take_snoc {α : Type} [Inhabited α] (l : List α) (k : Nat) (h : k < l.length) : l.take (k + 1) = l.take k ++ [l.getD k default] := by
  rw [List.take_add_one, List.getElem?_eq_getElem h, List.getD_eq_getElem?_getD, List.getElem?_eq_getElem h]; rfl
theorem getD_mem {α : Type} [Inhabited α] (l : List α) (k : Nat) (h : k < l.length) : l.getD k default ∈ l := by
  rw [List.getD_eq_getElem?_getD, List.getElem?_eq_getElem h]; exact List.getElem_mem _
theorem zl {α β : Type} (f : α → β) (l : List α) : (l.map f).take l.length = l.map f := List.take_of_length_le (by simp)
theorem zg {α : Type} (l : List α) (i : Nat) (x z : α) (h : i < l.length) : (l.set i x).getD i z = x := by
  rw [List.getD_eq_getElem?_getD, List.getElem?_set_self h]; rfl
theorem zm {α β : Type} (f : α → β) (l : List α) (i : Nat) (x : α) (z : β) (h : i < l.length) : ((l.set i x).map f).getD i z = f x := by
  rw [List.map_set]; exact zg _ _ _ _ (by simpa using h)
theorem ins_map {α β : Type} (f : α → β) (l : List α) (i : Nat) (x : α) : (l.map f).insertIdx i (f x) = (l.insertIdx i x).map f := by
  induction l generalizing i with
  | nil => cases i <;> rfl
  | cons a l ih => cases i with
    | zero => rfl
    | succ i => simp only [List.map_cons, List.insertIdx_succ_cons]; rw [ih]
theorem nil_of_len {α : Type} {l : List α} (h : l.length = 0) : l = [] := List.eq_nil_of_length_eq_zero h
structure ATxn where
  zxid : Int
  op : Int
  session : Int
  path : List UInt8
  data : List UInt8
  version : Int
  owner : Int
instance : Inhabited ATxn := ⟨⟨0, 0, 0, [], [], 0, 0⟩⟩
theorem ATxn.ext_iff (a b : ATxn) : a = b ↔ a.zxid = b.zxid ∧ a.op = b.op ∧ a.session = b.session ∧ a.path = b.path ∧ a.data = b.data ∧ a.version = b.version ∧ a.owner = b.owner := by
  cases a; cases b; simp
instance : DecidableEq ATxn := fun a b => decidable_of_iff _ (ATxn.ext_iff a b).symm
def ATxn.row (x : ATxn) : List DV := [.int .i64 x.zxid, .int .i64 x.op, .int .i64 x.session, .str x.path, .str x.data, .int .i64 x.version, .int .i64 x.owner]
def ATxn.av (x : ATxn) : AV := .agg [.d (.int .i64 x.zxid), .d (.int .i64 x.op), .d (.int .i64 x.session), .d (.str x.path), .d (.str x.data), .d (.int .i64 x.version), .d (.int .i64 x.owner)]
theorem ATxn.dec (a b : ATxn) : (decide (a.zxid = b.zxid) && (decide (a.op = b.op) && (decide (a.session = b.session) && (decide (a.path = b.path) && (decide (a.data = b.data) && (decide (a.version = b.version) && decide (a.owner = b.owner))))))) = decide (a = b) := by
  rw [Bool.eq_iff_iff]; simp only [Bool.and_eq_true, decide_eq_true_eq, ATxn.ext_iff, and_assoc]
theorem ATxn.getD (l : List ATxn) (i : Nat) : (l.map ATxn.row).getD i [.int .i64 0, .int .i64 0, .int .i64 0, .str [], .str [], .int .i64 0, .int .i64 0] = (l.getD i default).row := by
  rw [List.getD_eq_getElem?_getD, List.getD_eq_getElem?_getD, List.getElem?_map]; cases l[i]? <;> rfl
theorem ATxn.rgetD (l : List ATxn) (i : Nat) (z : List DV) (h : i < l.length) : (l.map ATxn.row).getD i z = (l.getD i default).row := getD_row ATxn.row l i z h
theorem ATxn.rset (l : List ATxn) (i : Nat) (qzxid : Int) (qop : Int) (qsession : Int) (qpath : List UInt8) (qdata : List UInt8) (qversion : Int) (qowner : Int) : (l.map ATxn.row).set i [.int .i64 qzxid, .int .i64 qop, .int .i64 qsession, .str qpath, .str qdata, .int .i64 qversion, .int .i64 qowner] = (l.set i (⟨qzxid, qop, qsession, qpath, qdata, qversion, qowner⟩ : ATxn)).map ATxn.row := by rw [List.map_set]; rfl
theorem ATxn.rins (l : List ATxn) (i : Nat) (qzxid : Int) (qop : Int) (qsession : Int) (qpath : List UInt8) (qdata : List UInt8) (qversion : Int) (qowner : Int) : (l.map ATxn.row).insertIdx i [.int .i64 qzxid, .int .i64 qop, .int .i64 qsession, .str qpath, .str qdata, .int .i64 qversion, .int .i64 qowner] = (l.insertIdx i (⟨qzxid, qop, qsession, qpath, qdata, qversion, qowner⟩ : ATxn)).map ATxn.row := ins_map ATxn.row l i (⟨qzxid, qop, qsession, qpath, qdata, qversion, qowner⟩ : ATxn)
theorem ATxn.rdrop (l : List ATxn) (k : Nat) : List.drop 7 ((l.map ATxn.row).getD k []) = [] := by
  rw [List.getD_eq_getElem?_getD, List.getElem?_map]; cases l[k]? <;> rfl
attribute [go_sem] ATxn.rdrop
theorem ATxn.rsnoc (l : List ATxn) (qzxid : Int) (qop : Int) (qsession : Int) (qpath : List UInt8) (qdata : List UInt8) (qversion : Int) (qowner : Int) : l.map ATxn.row ++ [[.int .i64 qzxid, .int .i64 qop, .int .i64 qsession, .str qpath, .str qdata, .int .i64 qversion, .int .i64 qowner]] = (l ++ [(⟨qzxid, qop, qsession, qpath, qdata, qversion, qowner⟩ : ATxn)]).map ATxn.row := by rw [List.map_append]; rfl
structure AStat where
  czxid : Int
  mzxid : Int
  pzxid : Int
  version : Int
  cversion : Int
  owner : Int
  kids : Int
instance : Inhabited AStat := ⟨⟨0, 0, 0, 0, 0, 0, 0⟩⟩
theorem AStat.ext_iff (a b : AStat) : a = b ↔ a.czxid = b.czxid ∧ a.mzxid = b.mzxid ∧ a.pzxid = b.pzxid ∧ a.version = b.version ∧ a.cversion = b.cversion ∧ a.owner = b.owner ∧ a.kids = b.kids := by
  cases a; cases b; simp
instance : DecidableEq AStat := fun a b => decidable_of_iff _ (AStat.ext_iff a b).symm
def AStat.row (x : AStat) : List DV := [.int .i64 x.czxid, .int .i64 x.mzxid, .int .i64 x.pzxid, .int .i64 x.version, .int .i64 x.cversion, .int .i64 x.owner, .int .i64 x.kids]
def AStat.av (x : AStat) : AV := .agg [.d (.int .i64 x.czxid), .d (.int .i64 x.mzxid), .d (.int .i64 x.pzxid), .d (.int .i64 x.version), .d (.int .i64 x.cversion), .d (.int .i64 x.owner), .d (.int .i64 x.kids)]
theorem AStat.dec (a b : AStat) : (decide (a.czxid = b.czxid) && (decide (a.mzxid = b.mzxid) && (decide (a.pzxid = b.pzxid) && (decide (a.version = b.version) && (decide (a.cversion = b.cversion) && (decide (a.owner = b.owner) && decide (a.kids = b.kids))))))) = decide (a = b) := by
  rw [Bool.eq_iff_iff]; simp only [Bool.and_eq_true, decide_eq_true_eq, AStat.ext_iff, and_assoc]
theorem AStat.getD (l : List AStat) (i : Nat) : (l.map AStat.row).getD i [.int .i64 0, .int .i64 0, .int .i64 0, .int .i64 0, .int .i64 0, .int .i64 0, .int .i64 0] = (l.getD i default).row := by
  rw [List.getD_eq_getElem?_getD, List.getD_eq_getElem?_getD, List.getElem?_map]; cases l[i]? <;> rfl
theorem AStat.rgetD (l : List AStat) (i : Nat) (z : List DV) (h : i < l.length) : (l.map AStat.row).getD i z = (l.getD i default).row := getD_row AStat.row l i z h
theorem AStat.rset (l : List AStat) (i : Nat) (qczxid : Int) (qmzxid : Int) (qpzxid : Int) (qversion : Int) (qcversion : Int) (qowner : Int) (qkids : Int) : (l.map AStat.row).set i [.int .i64 qczxid, .int .i64 qmzxid, .int .i64 qpzxid, .int .i64 qversion, .int .i64 qcversion, .int .i64 qowner, .int .i64 qkids] = (l.set i (⟨qczxid, qmzxid, qpzxid, qversion, qcversion, qowner, qkids⟩ : AStat)).map AStat.row := by rw [List.map_set]; rfl
theorem AStat.rins (l : List AStat) (i : Nat) (qczxid : Int) (qmzxid : Int) (qpzxid : Int) (qversion : Int) (qcversion : Int) (qowner : Int) (qkids : Int) : (l.map AStat.row).insertIdx i [.int .i64 qczxid, .int .i64 qmzxid, .int .i64 qpzxid, .int .i64 qversion, .int .i64 qcversion, .int .i64 qowner, .int .i64 qkids] = (l.insertIdx i (⟨qczxid, qmzxid, qpzxid, qversion, qcversion, qowner, qkids⟩ : AStat)).map AStat.row := ins_map AStat.row l i (⟨qczxid, qmzxid, qpzxid, qversion, qcversion, qowner, qkids⟩ : AStat)
theorem AStat.rdrop (l : List AStat) (k : Nat) : List.drop 7 ((l.map AStat.row).getD k []) = [] := by
  rw [List.getD_eq_getElem?_getD, List.getElem?_map]; cases l[k]? <;> rfl
attribute [go_sem] AStat.rdrop
theorem AStat.rsnoc (l : List AStat) (qczxid : Int) (qmzxid : Int) (qpzxid : Int) (qversion : Int) (qcversion : Int) (qowner : Int) (qkids : Int) : l.map AStat.row ++ [[.int .i64 qczxid, .int .i64 qmzxid, .int .i64 qpzxid, .int .i64 qversion, .int .i64 qcversion, .int .i64 qowner, .int .i64 qkids]] = (l ++ [(⟨qczxid, qmzxid, qpzxid, qversion, qcversion, qowner, qkids⟩ : AStat)]).map AStat.row := by rw [List.map_append]; rfl
structure ANode where
  path : List UInt8
  data : List UInt8
  stat : AStat
instance : Inhabited ANode := ⟨⟨[], [], default⟩⟩
theorem ANode.ext_iff (a b : ANode) : a = b ↔ a.path = b.path ∧ a.data = b.data ∧ a.stat = b.stat := by
  cases a; cases b; simp
instance : DecidableEq ANode := fun a b => decidable_of_iff _ (ANode.ext_iff a b).symm
def ANode.row (x : ANode) : List DV := [.str x.path, .str x.data, .int .i64 x.stat.czxid, .int .i64 x.stat.mzxid, .int .i64 x.stat.pzxid, .int .i64 x.stat.version, .int .i64 x.stat.cversion, .int .i64 x.stat.owner, .int .i64 x.stat.kids]
def ANode.av (x : ANode) : AV := .agg [.d (.str x.path), .d (.str x.data), .d (.int .i64 x.stat.czxid), .d (.int .i64 x.stat.mzxid), .d (.int .i64 x.stat.pzxid), .d (.int .i64 x.stat.version), .d (.int .i64 x.stat.cversion), .d (.int .i64 x.stat.owner), .d (.int .i64 x.stat.kids)]
theorem ANode.dec (a b : ANode) : (decide (a.path = b.path) && (decide (a.data = b.data) && (decide (a.stat.czxid = b.stat.czxid) && (decide (a.stat.mzxid = b.stat.mzxid) && (decide (a.stat.pzxid = b.stat.pzxid) && (decide (a.stat.version = b.stat.version) && (decide (a.stat.cversion = b.stat.cversion) && (decide (a.stat.owner = b.stat.owner) && decide (a.stat.kids = b.stat.kids))))))))) = decide (a = b) := by
  rw [Bool.eq_iff_iff]; simp only [Bool.and_eq_true, decide_eq_true_eq, ANode.ext_iff, AStat.ext_iff, and_assoc]
theorem ANode.getD (l : List ANode) (i : Nat) : (l.map ANode.row).getD i [.str [], .str [], .int .i64 0, .int .i64 0, .int .i64 0, .int .i64 0, .int .i64 0, .int .i64 0, .int .i64 0] = (l.getD i default).row := by
  rw [List.getD_eq_getElem?_getD, List.getD_eq_getElem?_getD, List.getElem?_map]; cases l[i]? <;> rfl
theorem ANode.rgetD (l : List ANode) (i : Nat) (z : List DV) (h : i < l.length) : (l.map ANode.row).getD i z = (l.getD i default).row := getD_row ANode.row l i z h
theorem ANode.rset (l : List ANode) (i : Nat) (qpath : List UInt8) (qdata : List UInt8) (qstat_czxid : Int) (qstat_mzxid : Int) (qstat_pzxid : Int) (qstat_version : Int) (qstat_cversion : Int) (qstat_owner : Int) (qstat_kids : Int) : (l.map ANode.row).set i [.str qpath, .str qdata, .int .i64 qstat_czxid, .int .i64 qstat_mzxid, .int .i64 qstat_pzxid, .int .i64 qstat_version, .int .i64 qstat_cversion, .int .i64 qstat_owner, .int .i64 qstat_kids] = (l.set i (⟨qpath, qdata, ⟨qstat_czxid, qstat_mzxid, qstat_pzxid, qstat_version, qstat_cversion, qstat_owner, qstat_kids⟩⟩ : ANode)).map ANode.row := by rw [List.map_set]; rfl
theorem ANode.rins (l : List ANode) (i : Nat) (qpath : List UInt8) (qdata : List UInt8) (qstat_czxid : Int) (qstat_mzxid : Int) (qstat_pzxid : Int) (qstat_version : Int) (qstat_cversion : Int) (qstat_owner : Int) (qstat_kids : Int) : (l.map ANode.row).insertIdx i [.str qpath, .str qdata, .int .i64 qstat_czxid, .int .i64 qstat_mzxid, .int .i64 qstat_pzxid, .int .i64 qstat_version, .int .i64 qstat_cversion, .int .i64 qstat_owner, .int .i64 qstat_kids] = (l.insertIdx i (⟨qpath, qdata, ⟨qstat_czxid, qstat_mzxid, qstat_pzxid, qstat_version, qstat_cversion, qstat_owner, qstat_kids⟩⟩ : ANode)).map ANode.row := ins_map ANode.row l i (⟨qpath, qdata, ⟨qstat_czxid, qstat_mzxid, qstat_pzxid, qstat_version, qstat_cversion, qstat_owner, qstat_kids⟩⟩ : ANode)
theorem ANode.rdrop (l : List ANode) (k : Nat) : List.drop 9 ((l.map ANode.row).getD k []) = [] := by
  rw [List.getD_eq_getElem?_getD, List.getElem?_map]; cases l[k]? <;> rfl
attribute [go_sem] ANode.rdrop
theorem ANode.rsnoc (l : List ANode) (qpath : List UInt8) (qdata : List UInt8) (qstat_czxid : Int) (qstat_mzxid : Int) (qstat_pzxid : Int) (qstat_version : Int) (qstat_cversion : Int) (qstat_owner : Int) (qstat_kids : Int) : l.map ANode.row ++ [[.str qpath, .str qdata, .int .i64 qstat_czxid, .int .i64 qstat_mzxid, .int .i64 qstat_pzxid, .int .i64 qstat_version, .int .i64 qstat_cversion, .int .i64 qstat_owner, .int .i64 qstat_kids]] = (l ++ [(⟨qpath, qdata, ⟨qstat_czxid, qstat_mzxid, qstat_pzxid, qstat_version, qstat_cversion, qstat_owner, qstat_kids⟩⟩ : ANode)]).map ANode.row := by rw [List.map_append]; rfl
structure AFile where
  name : List UInt8
  safe : List UInt8
  tail : List UInt8
instance : Inhabited AFile := ⟨⟨[], [], []⟩⟩
theorem AFile.ext_iff (a b : AFile) : a = b ↔ a.name = b.name ∧ a.safe = b.safe ∧ a.tail = b.tail := by
  cases a; cases b; simp
instance : DecidableEq AFile := fun a b => decidable_of_iff _ (AFile.ext_iff a b).symm
def AFile.row (x : AFile) : List DV := [.str x.name, .str x.safe, .str x.tail]
def AFile.av (x : AFile) : AV := .agg [.d (.str x.name), .d (.str x.safe), .d (.str x.tail)]
theorem AFile.dec (a b : AFile) : (decide (a.name = b.name) && (decide (a.safe = b.safe) && decide (a.tail = b.tail))) = decide (a = b) := by
  rw [Bool.eq_iff_iff]; simp only [Bool.and_eq_true, decide_eq_true_eq, AFile.ext_iff, and_assoc]
theorem AFile.getD (l : List AFile) (i : Nat) : (l.map AFile.row).getD i [.str [], .str [], .str []] = (l.getD i default).row := by
  rw [List.getD_eq_getElem?_getD, List.getD_eq_getElem?_getD, List.getElem?_map]; cases l[i]? <;> rfl
theorem AFile.rgetD (l : List AFile) (i : Nat) (z : List DV) (h : i < l.length) : (l.map AFile.row).getD i z = (l.getD i default).row := getD_row AFile.row l i z h
theorem AFile.rset (l : List AFile) (i : Nat) (qname : List UInt8) (qsafe : List UInt8) (qtail : List UInt8) : (l.map AFile.row).set i [.str qname, .str qsafe, .str qtail] = (l.set i (⟨qname, qsafe, qtail⟩ : AFile)).map AFile.row := by rw [List.map_set]; rfl
theorem AFile.rins (l : List AFile) (i : Nat) (qname : List UInt8) (qsafe : List UInt8) (qtail : List UInt8) : (l.map AFile.row).insertIdx i [.str qname, .str qsafe, .str qtail] = (l.insertIdx i (⟨qname, qsafe, qtail⟩ : AFile)).map AFile.row := ins_map AFile.row l i (⟨qname, qsafe, qtail⟩ : AFile)
theorem AFile.rdrop (l : List AFile) (k : Nat) : List.drop 3 ((l.map AFile.row).getD k []) = [] := by
  rw [List.getD_eq_getElem?_getD, List.getElem?_map]; cases l[k]? <;> rfl
attribute [go_sem] AFile.rdrop
theorem AFile.rsnoc (l : List AFile) (qname : List UInt8) (qsafe : List UInt8) (qtail : List UInt8) : l.map AFile.row ++ [[.str qname, .str qsafe, .str qtail]] = (l ++ [(⟨qname, qsafe, qtail⟩ : AFile)]).map AFile.row := by rw [List.map_append]; rfl
structure AWatch where
  session : Int
  kind : Int
  path : List UInt8
instance : Inhabited AWatch := ⟨⟨0, 0, []⟩⟩
theorem AWatch.ext_iff (a b : AWatch) : a = b ↔ a.session = b.session ∧ a.kind = b.kind ∧ a.path = b.path := by
  cases a; cases b; simp
instance : DecidableEq AWatch := fun a b => decidable_of_iff _ (AWatch.ext_iff a b).symm
def AWatch.row (x : AWatch) : List DV := [.int .i64 x.session, .int .i64 x.kind, .str x.path]
def AWatch.av (x : AWatch) : AV := .agg [.d (.int .i64 x.session), .d (.int .i64 x.kind), .d (.str x.path)]
theorem AWatch.dec (a b : AWatch) : (decide (a.session = b.session) && (decide (a.kind = b.kind) && decide (a.path = b.path))) = decide (a = b) := by
  rw [Bool.eq_iff_iff]; simp only [Bool.and_eq_true, decide_eq_true_eq, AWatch.ext_iff, and_assoc]
theorem AWatch.getD (l : List AWatch) (i : Nat) : (l.map AWatch.row).getD i [.int .i64 0, .int .i64 0, .str []] = (l.getD i default).row := by
  rw [List.getD_eq_getElem?_getD, List.getD_eq_getElem?_getD, List.getElem?_map]; cases l[i]? <;> rfl
theorem AWatch.rgetD (l : List AWatch) (i : Nat) (z : List DV) (h : i < l.length) : (l.map AWatch.row).getD i z = (l.getD i default).row := getD_row AWatch.row l i z h
theorem AWatch.rset (l : List AWatch) (i : Nat) (qsession : Int) (qkind : Int) (qpath : List UInt8) : (l.map AWatch.row).set i [.int .i64 qsession, .int .i64 qkind, .str qpath] = (l.set i (⟨qsession, qkind, qpath⟩ : AWatch)).map AWatch.row := by rw [List.map_set]; rfl
theorem AWatch.rins (l : List AWatch) (i : Nat) (qsession : Int) (qkind : Int) (qpath : List UInt8) : (l.map AWatch.row).insertIdx i [.int .i64 qsession, .int .i64 qkind, .str qpath] = (l.insertIdx i (⟨qsession, qkind, qpath⟩ : AWatch)).map AWatch.row := ins_map AWatch.row l i (⟨qsession, qkind, qpath⟩ : AWatch)
theorem AWatch.rdrop (l : List AWatch) (k : Nat) : List.drop 3 ((l.map AWatch.row).getD k []) = [] := by
  rw [List.getD_eq_getElem?_getD, List.getElem?_map]; cases l[k]? <;> rfl
attribute [go_sem] AWatch.rdrop
theorem AWatch.rsnoc (l : List AWatch) (qsession : Int) (qkind : Int) (qpath : List UInt8) : l.map AWatch.row ++ [[.int .i64 qsession, .int .i64 qkind, .str qpath]] = (l ++ [(⟨qsession, qkind, qpath⟩ : AWatch)]).map AWatch.row := by rw [List.map_append]; rfl
structure AEvent where
  kind : Int
  path : List UInt8
instance : Inhabited AEvent := ⟨⟨0, []⟩⟩
theorem AEvent.ext_iff (a b : AEvent) : a = b ↔ a.kind = b.kind ∧ a.path = b.path := by
  cases a; cases b; simp
instance : DecidableEq AEvent := fun a b => decidable_of_iff _ (AEvent.ext_iff a b).symm
def AEvent.row (x : AEvent) : List DV := [.int .i64 x.kind, .str x.path]
def AEvent.av (x : AEvent) : AV := .agg [.d (.int .i64 x.kind), .d (.str x.path)]
theorem AEvent.dec (a b : AEvent) : (decide (a.kind = b.kind) && decide (a.path = b.path)) = decide (a = b) := by
  rw [Bool.eq_iff_iff]; simp only [Bool.and_eq_true, decide_eq_true_eq, AEvent.ext_iff, and_assoc]
theorem AEvent.getD (l : List AEvent) (i : Nat) : (l.map AEvent.row).getD i [.int .i64 0, .str []] = (l.getD i default).row := by
  rw [List.getD_eq_getElem?_getD, List.getD_eq_getElem?_getD, List.getElem?_map]; cases l[i]? <;> rfl
theorem AEvent.rgetD (l : List AEvent) (i : Nat) (z : List DV) (h : i < l.length) : (l.map AEvent.row).getD i z = (l.getD i default).row := getD_row AEvent.row l i z h
theorem AEvent.rset (l : List AEvent) (i : Nat) (qkind : Int) (qpath : List UInt8) : (l.map AEvent.row).set i [.int .i64 qkind, .str qpath] = (l.set i (⟨qkind, qpath⟩ : AEvent)).map AEvent.row := by rw [List.map_set]; rfl
theorem AEvent.rins (l : List AEvent) (i : Nat) (qkind : Int) (qpath : List UInt8) : (l.map AEvent.row).insertIdx i [.int .i64 qkind, .str qpath] = (l.insertIdx i (⟨qkind, qpath⟩ : AEvent)).map AEvent.row := ins_map AEvent.row l i (⟨qkind, qpath⟩ : AEvent)
theorem AEvent.rdrop (l : List AEvent) (k : Nat) : List.drop 2 ((l.map AEvent.row).getD k []) = [] := by
  rw [List.getD_eq_getElem?_getD, List.getElem?_map]; cases l[k]? <;> rfl
attribute [go_sem] AEvent.rdrop
theorem AEvent.rsnoc (l : List AEvent) (qkind : Int) (qpath : List UInt8) : l.map AEvent.row ++ [[.int .i64 qkind, .str qpath]] = (l ++ [(⟨qkind, qpath⟩ : AEvent)]).map AEvent.row := by rw [List.map_append]; rfl
structure ANote where
  session : Int
  event : AEvent
instance : Inhabited ANote := ⟨⟨0, default⟩⟩
theorem ANote.ext_iff (a b : ANote) : a = b ↔ a.session = b.session ∧ a.event = b.event := by
  cases a; cases b; simp
instance : DecidableEq ANote := fun a b => decidable_of_iff _ (ANote.ext_iff a b).symm
def ANote.row (x : ANote) : List DV := [.int .i64 x.session, .int .i64 x.event.kind, .str x.event.path]
def ANote.av (x : ANote) : AV := .agg [.d (.int .i64 x.session), .d (.int .i64 x.event.kind), .d (.str x.event.path)]
theorem ANote.dec (a b : ANote) : (decide (a.session = b.session) && (decide (a.event.kind = b.event.kind) && decide (a.event.path = b.event.path))) = decide (a = b) := by
  rw [Bool.eq_iff_iff]; simp only [Bool.and_eq_true, decide_eq_true_eq, ANote.ext_iff, AEvent.ext_iff, and_assoc]
theorem ANote.getD (l : List ANote) (i : Nat) : (l.map ANote.row).getD i [.int .i64 0, .int .i64 0, .str []] = (l.getD i default).row := by
  rw [List.getD_eq_getElem?_getD, List.getD_eq_getElem?_getD, List.getElem?_map]; cases l[i]? <;> rfl
theorem ANote.rgetD (l : List ANote) (i : Nat) (z : List DV) (h : i < l.length) : (l.map ANote.row).getD i z = (l.getD i default).row := getD_row ANote.row l i z h
theorem ANote.rset (l : List ANote) (i : Nat) (qsession : Int) (qevent_kind : Int) (qevent_path : List UInt8) : (l.map ANote.row).set i [.int .i64 qsession, .int .i64 qevent_kind, .str qevent_path] = (l.set i (⟨qsession, ⟨qevent_kind, qevent_path⟩⟩ : ANote)).map ANote.row := by rw [List.map_set]; rfl
theorem ANote.rins (l : List ANote) (i : Nat) (qsession : Int) (qevent_kind : Int) (qevent_path : List UInt8) : (l.map ANote.row).insertIdx i [.int .i64 qsession, .int .i64 qevent_kind, .str qevent_path] = (l.insertIdx i (⟨qsession, ⟨qevent_kind, qevent_path⟩⟩ : ANote)).map ANote.row := ins_map ANote.row l i (⟨qsession, ⟨qevent_kind, qevent_path⟩⟩ : ANote)
theorem ANote.rdrop (l : List ANote) (k : Nat) : List.drop 3 ((l.map ANote.row).getD k []) = [] := by
  rw [List.getD_eq_getElem?_getD, List.getElem?_map]; cases l[k]? <;> rfl
attribute [go_sem] ANote.rdrop
theorem ANote.rsnoc (l : List ANote) (qsession : Int) (qevent_kind : Int) (qevent_path : List UInt8) : l.map ANote.row ++ [[.int .i64 qsession, .int .i64 qevent_kind, .str qevent_path]] = (l ++ [(⟨qsession, ⟨qevent_kind, qevent_path⟩⟩ : ANote)]).map ANote.row := by rw [List.map_append]; rfl
structure AEntry where
  path : List UInt8
  data : List UInt8
  there : Bool
instance : Inhabited AEntry := ⟨⟨[], [], false⟩⟩
theorem AEntry.ext_iff (a b : AEntry) : a = b ↔ a.path = b.path ∧ a.data = b.data ∧ a.there = b.there := by
  cases a; cases b; simp
instance : DecidableEq AEntry := fun a b => decidable_of_iff _ (AEntry.ext_iff a b).symm
def AEntry.row (x : AEntry) : List DV := [.str x.path, .str x.data, .bool x.there]
def AEntry.av (x : AEntry) : AV := .agg [.d (.str x.path), .d (.str x.data), .d (.bool x.there)]
theorem AEntry.dec (a b : AEntry) : (decide (a.path = b.path) && (decide (a.data = b.data) && decide (a.there = b.there))) = decide (a = b) := by
  rw [Bool.eq_iff_iff]; simp only [Bool.and_eq_true, decide_eq_true_eq, AEntry.ext_iff, and_assoc]
theorem AEntry.getD (l : List AEntry) (i : Nat) : (l.map AEntry.row).getD i [.str [], .str [], .bool false] = (l.getD i default).row := by
  rw [List.getD_eq_getElem?_getD, List.getD_eq_getElem?_getD, List.getElem?_map]; cases l[i]? <;> rfl
theorem AEntry.rgetD (l : List AEntry) (i : Nat) (z : List DV) (h : i < l.length) : (l.map AEntry.row).getD i z = (l.getD i default).row := getD_row AEntry.row l i z h
theorem AEntry.rset (l : List AEntry) (i : Nat) (qpath : List UInt8) (qdata : List UInt8) (qthere : Bool) : (l.map AEntry.row).set i [.str qpath, .str qdata, .bool qthere] = (l.set i (⟨qpath, qdata, qthere⟩ : AEntry)).map AEntry.row := by rw [List.map_set]; rfl
theorem AEntry.rins (l : List AEntry) (i : Nat) (qpath : List UInt8) (qdata : List UInt8) (qthere : Bool) : (l.map AEntry.row).insertIdx i [.str qpath, .str qdata, .bool qthere] = (l.insertIdx i (⟨qpath, qdata, qthere⟩ : AEntry)).map AEntry.row := ins_map AEntry.row l i (⟨qpath, qdata, qthere⟩ : AEntry)
theorem AEntry.rdrop (l : List AEntry) (k : Nat) : List.drop 3 ((l.map AEntry.row).getD k []) = [] := by
  rw [List.getD_eq_getElem?_getD, List.getElem?_map]; cases l[k]? <;> rfl
attribute [go_sem] AEntry.rdrop
theorem AEntry.rsnoc (l : List AEntry) (qpath : List UInt8) (qdata : List UInt8) (qthere : Bool) : l.map AEntry.row ++ [[.str qpath, .str qdata, .bool qthere]] = (l ++ [(⟨qpath, qdata, qthere⟩ : AEntry)]).map AEntry.row := by rw [List.map_append]; rfl
structure ARequest where
  op : Int
  session : Int
  path : List UInt8
  data : List UInt8
  version : Int
  flags : Int
instance : Inhabited ARequest := ⟨⟨0, 0, [], [], 0, 0⟩⟩
theorem ARequest.ext_iff (a b : ARequest) : a = b ↔ a.op = b.op ∧ a.session = b.session ∧ a.path = b.path ∧ a.data = b.data ∧ a.version = b.version ∧ a.flags = b.flags := by
  cases a; cases b; simp
instance : DecidableEq ARequest := fun a b => decidable_of_iff _ (ARequest.ext_iff a b).symm
def ARequest.row (x : ARequest) : List DV := [.int .i64 x.op, .int .i64 x.session, .str x.path, .str x.data, .int .i64 x.version, .int .i64 x.flags]
def ARequest.av (x : ARequest) : AV := .agg [.d (.int .i64 x.op), .d (.int .i64 x.session), .d (.str x.path), .d (.str x.data), .d (.int .i64 x.version), .d (.int .i64 x.flags)]
theorem ARequest.dec (a b : ARequest) : (decide (a.op = b.op) && (decide (a.session = b.session) && (decide (a.path = b.path) && (decide (a.data = b.data) && (decide (a.version = b.version) && decide (a.flags = b.flags)))))) = decide (a = b) := by
  rw [Bool.eq_iff_iff]; simp only [Bool.and_eq_true, decide_eq_true_eq, ARequest.ext_iff, and_assoc]
theorem ARequest.getD (l : List ARequest) (i : Nat) : (l.map ARequest.row).getD i [.int .i64 0, .int .i64 0, .str [], .str [], .int .i64 0, .int .i64 0] = (l.getD i default).row := by
  rw [List.getD_eq_getElem?_getD, List.getD_eq_getElem?_getD, List.getElem?_map]; cases l[i]? <;> rfl
theorem ARequest.rgetD (l : List ARequest) (i : Nat) (z : List DV) (h : i < l.length) : (l.map ARequest.row).getD i z = (l.getD i default).row := getD_row ARequest.row l i z h
theorem ARequest.rset (l : List ARequest) (i : Nat) (qop : Int) (qsession : Int) (qpath : List UInt8) (qdata : List UInt8) (qversion : Int) (qflags : Int) : (l.map ARequest.row).set i [.int .i64 qop, .int .i64 qsession, .str qpath, .str qdata, .int .i64 qversion, .int .i64 qflags] = (l.set i (⟨qop, qsession, qpath, qdata, qversion, qflags⟩ : ARequest)).map ARequest.row := by rw [List.map_set]; rfl
theorem ARequest.rins (l : List ARequest) (i : Nat) (qop : Int) (qsession : Int) (qpath : List UInt8) (qdata : List UInt8) (qversion : Int) (qflags : Int) : (l.map ARequest.row).insertIdx i [.int .i64 qop, .int .i64 qsession, .str qpath, .str qdata, .int .i64 qversion, .int .i64 qflags] = (l.insertIdx i (⟨qop, qsession, qpath, qdata, qversion, qflags⟩ : ARequest)).map ARequest.row := ins_map ARequest.row l i (⟨qop, qsession, qpath, qdata, qversion, qflags⟩ : ARequest)
theorem ARequest.rdrop (l : List ARequest) (k : Nat) : List.drop 6 ((l.map ARequest.row).getD k []) = [] := by
  rw [List.getD_eq_getElem?_getD, List.getElem?_map]; cases l[k]? <;> rfl
attribute [go_sem] ARequest.rdrop
theorem ARequest.rsnoc (l : List ARequest) (qop : Int) (qsession : Int) (qpath : List UInt8) (qdata : List UInt8) (qversion : Int) (qflags : Int) : l.map ARequest.row ++ [[.int .i64 qop, .int .i64 qsession, .str qpath, .str qdata, .int .i64 qversion, .int .i64 qflags]] = (l ++ [(⟨qop, qsession, qpath, qdata, qversion, qflags⟩ : ARequest)]).map ARequest.row := by rw [List.map_append]; rfl
structure ATree where
  zxid : Int
  nodes : List (ANode)
  sessions : List (Int)
instance : Inhabited ATree := ⟨⟨0, [], []⟩⟩
theorem ATree.ext_iff (a b : ATree) : a = b ↔ a.zxid = b.zxid ∧ a.nodes = b.nodes ∧ a.sessions = b.sessions := by
  cases a; cases b; simp
instance : DecidableEq ATree := fun a b => decidable_of_iff _ (ATree.ext_iff a b).symm
def ATree.row (x : ATree) : List DV := [.int .i64 x.zxid, .sl 9 (x.nodes.map ANode.row), .sl 1 (x.sessions.map irow)]
def ATree.av (x : ATree) : AV := .agg [.d (.int .i64 x.zxid), .d (.sl 9 (x.nodes.map ANode.row)), .d (.sl 1 (x.sessions.map irow))]
theorem ATree.rgetD (l : List ATree) (i : Nat) (z : List DV) (h : i < l.length) : (l.map ATree.row).getD i z = (l.getD i default).row := getD_row ATree.row l i z h
theorem ATree.rset (l : List ATree) (i : Nat) (qzxid : Int) (qnodes : List (ANode)) (qsessions : List (Int)) : (l.map ATree.row).set i [.int .i64 qzxid, .sl 9 (qnodes.map ANode.row), .sl 1 (qsessions.map irow)] = (l.set i (⟨qzxid, qnodes, qsessions⟩ : ATree)).map ATree.row := by rw [List.map_set]; rfl
theorem ATree.rins (l : List ATree) (i : Nat) (qzxid : Int) (qnodes : List (ANode)) (qsessions : List (Int)) : (l.map ATree.row).insertIdx i [.int .i64 qzxid, .sl 9 (qnodes.map ANode.row), .sl 1 (qsessions.map irow)] = (l.insertIdx i (⟨qzxid, qnodes, qsessions⟩ : ATree)).map ATree.row := ins_map ATree.row l i (⟨qzxid, qnodes, qsessions⟩ : ATree)
theorem ATree.rdrop (l : List ATree) (k : Nat) : List.drop 3 ((l.map ATree.row).getD k []) = [] := by
  rw [List.getD_eq_getElem?_getD, List.getElem?_map]; cases l[k]? <;> rfl
attribute [go_sem] ATree.rdrop
theorem ATree.rsnoc (l : List ATree) (qzxid : Int) (qnodes : List (ANode)) (qsessions : List (Int)) : l.map ATree.row ++ [[.int .i64 qzxid, .sl 9 (qnodes.map ANode.row), .sl 1 (qsessions.map irow)]] = (l ++ [(⟨qzxid, qnodes, qsessions⟩ : ATree)]).map ATree.row := by rw [List.map_append]; rfl
structure ADisk where
  files : List (AFile)
instance : Inhabited ADisk := ⟨⟨[]⟩⟩
theorem ADisk.ext_iff (a b : ADisk) : a = b ↔ a.files = b.files := by
  cases a; cases b; simp
instance : DecidableEq ADisk := fun a b => decidable_of_iff _ (ADisk.ext_iff a b).symm
def ADisk.row (x : ADisk) : List DV := [.sl 3 (x.files.map AFile.row)]
def ADisk.av (x : ADisk) : AV := .agg [.d (.sl 3 (x.files.map AFile.row))]
theorem ADisk.rgetD (l : List ADisk) (i : Nat) (z : List DV) (h : i < l.length) : (l.map ADisk.row).getD i z = (l.getD i default).row := getD_row ADisk.row l i z h
theorem ADisk.rset (l : List ADisk) (i : Nat) (qfiles : List (AFile)) : (l.map ADisk.row).set i [.sl 3 (qfiles.map AFile.row)] = (l.set i (⟨qfiles⟩ : ADisk)).map ADisk.row := by rw [List.map_set]; rfl
theorem ADisk.rins (l : List ADisk) (i : Nat) (qfiles : List (AFile)) : (l.map ADisk.row).insertIdx i [.sl 3 (qfiles.map AFile.row)] = (l.insertIdx i (⟨qfiles⟩ : ADisk)).map ADisk.row := ins_map ADisk.row l i (⟨qfiles⟩ : ADisk)
theorem ADisk.rdrop (l : List ADisk) (k : Nat) : List.drop 1 ((l.map ADisk.row).getD k []) = [] := by
  rw [List.getD_eq_getElem?_getD, List.getElem?_map]; cases l[k]? <;> rfl
attribute [go_sem] ADisk.rdrop
theorem ADisk.rsnoc (l : List ADisk) (qfiles : List (AFile)) : l.map ADisk.row ++ [[.sl 3 (qfiles.map AFile.row)]] = (l ++ [(⟨qfiles⟩ : ADisk)]).map ADisk.row := by rw [List.map_append]; rfl
structure APeer where
  id : Int
  epoch : Int
  log : List (ATxn)
  done : Int
instance : Inhabited APeer := ⟨⟨0, 0, [], 0⟩⟩
theorem APeer.ext_iff (a b : APeer) : a = b ↔ a.id = b.id ∧ a.epoch = b.epoch ∧ a.log = b.log ∧ a.done = b.done := by
  cases a; cases b; simp
instance : DecidableEq APeer := fun a b => decidable_of_iff _ (APeer.ext_iff a b).symm
def APeer.row (x : APeer) : List DV := [.int .i64 x.id, .int .i64 x.epoch, .sl 7 (x.log.map ATxn.row), .int .i64 x.done]
def APeer.av (x : APeer) : AV := .agg [.d (.int .i64 x.id), .d (.int .i64 x.epoch), .d (.sl 7 (x.log.map ATxn.row)), .d (.int .i64 x.done)]
theorem APeer.rgetD (l : List APeer) (i : Nat) (z : List DV) (h : i < l.length) : (l.map APeer.row).getD i z = (l.getD i default).row := getD_row APeer.row l i z h
theorem APeer.rset (l : List APeer) (i : Nat) (qid : Int) (qepoch : Int) (qlog : List (ATxn)) (qdone : Int) : (l.map APeer.row).set i [.int .i64 qid, .int .i64 qepoch, .sl 7 (qlog.map ATxn.row), .int .i64 qdone] = (l.set i (⟨qid, qepoch, qlog, qdone⟩ : APeer)).map APeer.row := by rw [List.map_set]; rfl
theorem APeer.rins (l : List APeer) (i : Nat) (qid : Int) (qepoch : Int) (qlog : List (ATxn)) (qdone : Int) : (l.map APeer.row).insertIdx i [.int .i64 qid, .int .i64 qepoch, .sl 7 (qlog.map ATxn.row), .int .i64 qdone] = (l.insertIdx i (⟨qid, qepoch, qlog, qdone⟩ : APeer)).map APeer.row := ins_map APeer.row l i (⟨qid, qepoch, qlog, qdone⟩ : APeer)
theorem APeer.rdrop (l : List APeer) (k : Nat) : List.drop 4 ((l.map APeer.row).getD k []) = [] := by
  rw [List.getD_eq_getElem?_getD, List.getElem?_map]; cases l[k]? <;> rfl
attribute [go_sem] APeer.rdrop
theorem APeer.rsnoc (l : List APeer) (qid : Int) (qepoch : Int) (qlog : List (ATxn)) (qdone : Int) : l.map APeer.row ++ [[.int .i64 qid, .int .i64 qepoch, .sl 7 (qlog.map ATxn.row), .int .i64 qdone]] = (l ++ [(⟨qid, qepoch, qlog, qdone⟩ : APeer)]).map APeer.row := by rw [List.map_append]; rfl
structure AServer where
  up : Bool
  disk : ADisk
  peer : APeer
  tree : ATree
  watches : List (AWatch)
instance : Inhabited AServer := ⟨⟨false, default, default, default, []⟩⟩
theorem AServer.ext_iff (a b : AServer) : a = b ↔ a.up = b.up ∧ a.disk = b.disk ∧ a.peer = b.peer ∧ a.tree = b.tree ∧ a.watches = b.watches := by
  cases a; cases b; simp
instance : DecidableEq AServer := fun a b => decidable_of_iff _ (AServer.ext_iff a b).symm
def AServer.row (x : AServer) : List DV := [.bool x.up, .sl 3 (x.disk.files.map AFile.row), .int .i64 x.peer.id, .int .i64 x.peer.epoch, .sl 7 (x.peer.log.map ATxn.row), .int .i64 x.peer.done, .int .i64 x.tree.zxid, .sl 9 (x.tree.nodes.map ANode.row), .sl 1 (x.tree.sessions.map irow), .sl 3 (x.watches.map AWatch.row)]
def AServer.av (x : AServer) : AV := .agg [.d (.bool x.up), .d (.sl 3 (x.disk.files.map AFile.row)), .d (.int .i64 x.peer.id), .d (.int .i64 x.peer.epoch), .d (.sl 7 (x.peer.log.map ATxn.row)), .d (.int .i64 x.peer.done), .d (.int .i64 x.tree.zxid), .d (.sl 9 (x.tree.nodes.map ANode.row)), .d (.sl 1 (x.tree.sessions.map irow)), .d (.sl 3 (x.watches.map AWatch.row))]
theorem AServer.rgetD (l : List AServer) (i : Nat) (z : List DV) (h : i < l.length) : (l.map AServer.row).getD i z = (l.getD i default).row := getD_row AServer.row l i z h
theorem AServer.rset (l : List AServer) (i : Nat) (qup : Bool) (qdisk_files : List (AFile)) (qpeer_id : Int) (qpeer_epoch : Int) (qpeer_log : List (ATxn)) (qpeer_done : Int) (qtree_zxid : Int) (qtree_nodes : List (ANode)) (qtree_sessions : List (Int)) (qwatches : List (AWatch)) : (l.map AServer.row).set i [.bool qup, .sl 3 (qdisk_files.map AFile.row), .int .i64 qpeer_id, .int .i64 qpeer_epoch, .sl 7 (qpeer_log.map ATxn.row), .int .i64 qpeer_done, .int .i64 qtree_zxid, .sl 9 (qtree_nodes.map ANode.row), .sl 1 (qtree_sessions.map irow), .sl 3 (qwatches.map AWatch.row)] = (l.set i (⟨qup, ⟨qdisk_files⟩, ⟨qpeer_id, qpeer_epoch, qpeer_log, qpeer_done⟩, ⟨qtree_zxid, qtree_nodes, qtree_sessions⟩, qwatches⟩ : AServer)).map AServer.row := by rw [List.map_set]; rfl
theorem AServer.rins (l : List AServer) (i : Nat) (qup : Bool) (qdisk_files : List (AFile)) (qpeer_id : Int) (qpeer_epoch : Int) (qpeer_log : List (ATxn)) (qpeer_done : Int) (qtree_zxid : Int) (qtree_nodes : List (ANode)) (qtree_sessions : List (Int)) (qwatches : List (AWatch)) : (l.map AServer.row).insertIdx i [.bool qup, .sl 3 (qdisk_files.map AFile.row), .int .i64 qpeer_id, .int .i64 qpeer_epoch, .sl 7 (qpeer_log.map ATxn.row), .int .i64 qpeer_done, .int .i64 qtree_zxid, .sl 9 (qtree_nodes.map ANode.row), .sl 1 (qtree_sessions.map irow), .sl 3 (qwatches.map AWatch.row)] = (l.insertIdx i (⟨qup, ⟨qdisk_files⟩, ⟨qpeer_id, qpeer_epoch, qpeer_log, qpeer_done⟩, ⟨qtree_zxid, qtree_nodes, qtree_sessions⟩, qwatches⟩ : AServer)).map AServer.row := ins_map AServer.row l i (⟨qup, ⟨qdisk_files⟩, ⟨qpeer_id, qpeer_epoch, qpeer_log, qpeer_done⟩, ⟨qtree_zxid, qtree_nodes, qtree_sessions⟩, qwatches⟩ : AServer)
theorem AServer.rdrop (l : List AServer) (k : Nat) : List.drop 10 ((l.map AServer.row).getD k []) = [] := by
  rw [List.getD_eq_getElem?_getD, List.getElem?_map]; cases l[k]? <;> rfl
attribute [go_sem] AServer.rdrop
theorem AServer.rsnoc (l : List AServer) (qup : Bool) (qdisk_files : List (AFile)) (qpeer_id : Int) (qpeer_epoch : Int) (qpeer_log : List (ATxn)) (qpeer_done : Int) (qtree_zxid : Int) (qtree_nodes : List (ANode)) (qtree_sessions : List (Int)) (qwatches : List (AWatch)) : l.map AServer.row ++ [[.bool qup, .sl 3 (qdisk_files.map AFile.row), .int .i64 qpeer_id, .int .i64 qpeer_epoch, .sl 7 (qpeer_log.map ATxn.row), .int .i64 qpeer_done, .int .i64 qtree_zxid, .sl 9 (qtree_nodes.map ANode.row), .sl 1 (qtree_sessions.map irow), .sl 3 (qwatches.map AWatch.row)]] = (l ++ [(⟨qup, ⟨qdisk_files⟩, ⟨qpeer_id, qpeer_epoch, qpeer_log, qpeer_done⟩, ⟨qtree_zxid, qtree_nodes, qtree_sessions⟩, qwatches⟩ : AServer)]).map AServer.row := by rw [List.map_append]; rfl
structure AClient where
  session : Int
  seen : Int
  cache : List (AEntry)
instance : Inhabited AClient := ⟨⟨0, 0, []⟩⟩
theorem AClient.ext_iff (a b : AClient) : a = b ↔ a.session = b.session ∧ a.seen = b.seen ∧ a.cache = b.cache := by
  cases a; cases b; simp
instance : DecidableEq AClient := fun a b => decidable_of_iff _ (AClient.ext_iff a b).symm
def AClient.row (x : AClient) : List DV := [.int .i64 x.session, .int .i64 x.seen, .sl 3 (x.cache.map AEntry.row)]
def AClient.av (x : AClient) : AV := .agg [.d (.int .i64 x.session), .d (.int .i64 x.seen), .d (.sl 3 (x.cache.map AEntry.row))]
theorem AClient.rgetD (l : List AClient) (i : Nat) (z : List DV) (h : i < l.length) : (l.map AClient.row).getD i z = (l.getD i default).row := getD_row AClient.row l i z h
theorem AClient.rset (l : List AClient) (i : Nat) (qsession : Int) (qseen : Int) (qcache : List (AEntry)) : (l.map AClient.row).set i [.int .i64 qsession, .int .i64 qseen, .sl 3 (qcache.map AEntry.row)] = (l.set i (⟨qsession, qseen, qcache⟩ : AClient)).map AClient.row := by rw [List.map_set]; rfl
theorem AClient.rins (l : List AClient) (i : Nat) (qsession : Int) (qseen : Int) (qcache : List (AEntry)) : (l.map AClient.row).insertIdx i [.int .i64 qsession, .int .i64 qseen, .sl 3 (qcache.map AEntry.row)] = (l.insertIdx i (⟨qsession, qseen, qcache⟩ : AClient)).map AClient.row := ins_map AClient.row l i (⟨qsession, qseen, qcache⟩ : AClient)
theorem AClient.rdrop (l : List AClient) (k : Nat) : List.drop 3 ((l.map AClient.row).getD k []) = [] := by
  rw [List.getD_eq_getElem?_getD, List.getElem?_map]; cases l[k]? <;> rfl
attribute [go_sem] AClient.rdrop
theorem AClient.rsnoc (l : List AClient) (qsession : Int) (qseen : Int) (qcache : List (AEntry)) : l.map AClient.row ++ [[.int .i64 qsession, .int .i64 qseen, .sl 3 (qcache.map AEntry.row)]] = (l ++ [(⟨qsession, qseen, qcache⟩ : AClient)]).map AClient.row := by rw [List.map_append]; rfl
structure ADeed where
  kind : Int
  client : Int
  server : Int
  request : ARequest
  lost : Int
  slow : Int
  keep : Int
  watch : Bool
instance : Inhabited ADeed := ⟨⟨0, 0, 0, default, 0, 0, 0, false⟩⟩
theorem ADeed.ext_iff (a b : ADeed) : a = b ↔ a.kind = b.kind ∧ a.client = b.client ∧ a.server = b.server ∧ a.request = b.request ∧ a.lost = b.lost ∧ a.slow = b.slow ∧ a.keep = b.keep ∧ a.watch = b.watch := by
  cases a; cases b; simp
instance : DecidableEq ADeed := fun a b => decidable_of_iff _ (ADeed.ext_iff a b).symm
def ADeed.row (x : ADeed) : List DV := [.int .i64 x.kind, .int .i64 x.client, .int .i64 x.server, .int .i64 x.request.op, .int .i64 x.request.session, .str x.request.path, .str x.request.data, .int .i64 x.request.version, .int .i64 x.request.flags, .int .i64 x.lost, .int .i64 x.slow, .int .i64 x.keep, .bool x.watch]
def ADeed.av (x : ADeed) : AV := .agg [.d (.int .i64 x.kind), .d (.int .i64 x.client), .d (.int .i64 x.server), .d (.int .i64 x.request.op), .d (.int .i64 x.request.session), .d (.str x.request.path), .d (.str x.request.data), .d (.int .i64 x.request.version), .d (.int .i64 x.request.flags), .d (.int .i64 x.lost), .d (.int .i64 x.slow), .d (.int .i64 x.keep), .d (.bool x.watch)]
theorem ADeed.dec (a b : ADeed) : (decide (a.kind = b.kind) && (decide (a.client = b.client) && (decide (a.server = b.server) && (decide (a.request.op = b.request.op) && (decide (a.request.session = b.request.session) && (decide (a.request.path = b.request.path) && (decide (a.request.data = b.request.data) && (decide (a.request.version = b.request.version) && (decide (a.request.flags = b.request.flags) && (decide (a.lost = b.lost) && (decide (a.slow = b.slow) && (decide (a.keep = b.keep) && decide (a.watch = b.watch))))))))))))) = decide (a = b) := by
  rw [Bool.eq_iff_iff]; simp only [Bool.and_eq_true, decide_eq_true_eq, ADeed.ext_iff, ARequest.ext_iff, and_assoc]
theorem ADeed.getD (l : List ADeed) (i : Nat) : (l.map ADeed.row).getD i [.int .i64 0, .int .i64 0, .int .i64 0, .int .i64 0, .int .i64 0, .str [], .str [], .int .i64 0, .int .i64 0, .int .i64 0, .int .i64 0, .int .i64 0, .bool false] = (l.getD i default).row := by
  rw [List.getD_eq_getElem?_getD, List.getD_eq_getElem?_getD, List.getElem?_map]; cases l[i]? <;> rfl
theorem ADeed.rgetD (l : List ADeed) (i : Nat) (z : List DV) (h : i < l.length) : (l.map ADeed.row).getD i z = (l.getD i default).row := getD_row ADeed.row l i z h
theorem ADeed.rset (l : List ADeed) (i : Nat) (qkind : Int) (qclient : Int) (qserver : Int) (qrequest_op : Int) (qrequest_session : Int) (qrequest_path : List UInt8) (qrequest_data : List UInt8) (qrequest_version : Int) (qrequest_flags : Int) (qlost : Int) (qslow : Int) (qkeep : Int) (qwatch : Bool) : (l.map ADeed.row).set i [.int .i64 qkind, .int .i64 qclient, .int .i64 qserver, .int .i64 qrequest_op, .int .i64 qrequest_session, .str qrequest_path, .str qrequest_data, .int .i64 qrequest_version, .int .i64 qrequest_flags, .int .i64 qlost, .int .i64 qslow, .int .i64 qkeep, .bool qwatch] = (l.set i (⟨qkind, qclient, qserver, ⟨qrequest_op, qrequest_session, qrequest_path, qrequest_data, qrequest_version, qrequest_flags⟩, qlost, qslow, qkeep, qwatch⟩ : ADeed)).map ADeed.row := by rw [List.map_set]; rfl
theorem ADeed.rins (l : List ADeed) (i : Nat) (qkind : Int) (qclient : Int) (qserver : Int) (qrequest_op : Int) (qrequest_session : Int) (qrequest_path : List UInt8) (qrequest_data : List UInt8) (qrequest_version : Int) (qrequest_flags : Int) (qlost : Int) (qslow : Int) (qkeep : Int) (qwatch : Bool) : (l.map ADeed.row).insertIdx i [.int .i64 qkind, .int .i64 qclient, .int .i64 qserver, .int .i64 qrequest_op, .int .i64 qrequest_session, .str qrequest_path, .str qrequest_data, .int .i64 qrequest_version, .int .i64 qrequest_flags, .int .i64 qlost, .int .i64 qslow, .int .i64 qkeep, .bool qwatch] = (l.insertIdx i (⟨qkind, qclient, qserver, ⟨qrequest_op, qrequest_session, qrequest_path, qrequest_data, qrequest_version, qrequest_flags⟩, qlost, qslow, qkeep, qwatch⟩ : ADeed)).map ADeed.row := ins_map ADeed.row l i (⟨qkind, qclient, qserver, ⟨qrequest_op, qrequest_session, qrequest_path, qrequest_data, qrequest_version, qrequest_flags⟩, qlost, qslow, qkeep, qwatch⟩ : ADeed)
theorem ADeed.rdrop (l : List ADeed) (k : Nat) : List.drop 13 ((l.map ADeed.row).getD k []) = [] := by
  rw [List.getD_eq_getElem?_getD, List.getElem?_map]; cases l[k]? <;> rfl
attribute [go_sem] ADeed.rdrop
theorem ADeed.rsnoc (l : List ADeed) (qkind : Int) (qclient : Int) (qserver : Int) (qrequest_op : Int) (qrequest_session : Int) (qrequest_path : List UInt8) (qrequest_data : List UInt8) (qrequest_version : Int) (qrequest_flags : Int) (qlost : Int) (qslow : Int) (qkeep : Int) (qwatch : Bool) : l.map ADeed.row ++ [[.int .i64 qkind, .int .i64 qclient, .int .i64 qserver, .int .i64 qrequest_op, .int .i64 qrequest_session, .str qrequest_path, .str qrequest_data, .int .i64 qrequest_version, .int .i64 qrequest_flags, .int .i64 qlost, .int .i64 qslow, .int .i64 qkeep, .bool qwatch]] = (l ++ [(⟨qkind, qclient, qserver, ⟨qrequest_op, qrequest_session, qrequest_path, qrequest_data, qrequest_version, qrequest_flags⟩, qlost, qslow, qkeep, qwatch⟩ : ADeed)]).map ADeed.row := by rw [List.map_append]; rfl
structure AReply where
  code : Int
  zxid : Int
  path : List UInt8
  data : List UInt8
  stat : AStat
  notes : List (ANote)
instance : Inhabited AReply := ⟨⟨0, 0, [], [], default, []⟩⟩
theorem AReply.ext_iff (a b : AReply) : a = b ↔ a.code = b.code ∧ a.zxid = b.zxid ∧ a.path = b.path ∧ a.data = b.data ∧ a.stat = b.stat ∧ a.notes = b.notes := by
  cases a; cases b; simp
instance : DecidableEq AReply := fun a b => decidable_of_iff _ (AReply.ext_iff a b).symm
def AReply.row (x : AReply) : List DV := [.int .i64 x.code, .int .i64 x.zxid, .str x.path, .str x.data, .int .i64 x.stat.czxid, .int .i64 x.stat.mzxid, .int .i64 x.stat.pzxid, .int .i64 x.stat.version, .int .i64 x.stat.cversion, .int .i64 x.stat.owner, .int .i64 x.stat.kids, .sl 3 (x.notes.map ANote.row)]
def AReply.av (x : AReply) : AV := .agg [.d (.int .i64 x.code), .d (.int .i64 x.zxid), .d (.str x.path), .d (.str x.data), .d (.int .i64 x.stat.czxid), .d (.int .i64 x.stat.mzxid), .d (.int .i64 x.stat.pzxid), .d (.int .i64 x.stat.version), .d (.int .i64 x.stat.cversion), .d (.int .i64 x.stat.owner), .d (.int .i64 x.stat.kids), .d (.sl 3 (x.notes.map ANote.row))]
theorem AReply.rgetD (l : List AReply) (i : Nat) (z : List DV) (h : i < l.length) : (l.map AReply.row).getD i z = (l.getD i default).row := getD_row AReply.row l i z h
theorem AReply.rset (l : List AReply) (i : Nat) (qcode : Int) (qzxid : Int) (qpath : List UInt8) (qdata : List UInt8) (qstat_czxid : Int) (qstat_mzxid : Int) (qstat_pzxid : Int) (qstat_version : Int) (qstat_cversion : Int) (qstat_owner : Int) (qstat_kids : Int) (qnotes : List (ANote)) : (l.map AReply.row).set i [.int .i64 qcode, .int .i64 qzxid, .str qpath, .str qdata, .int .i64 qstat_czxid, .int .i64 qstat_mzxid, .int .i64 qstat_pzxid, .int .i64 qstat_version, .int .i64 qstat_cversion, .int .i64 qstat_owner, .int .i64 qstat_kids, .sl 3 (qnotes.map ANote.row)] = (l.set i (⟨qcode, qzxid, qpath, qdata, ⟨qstat_czxid, qstat_mzxid, qstat_pzxid, qstat_version, qstat_cversion, qstat_owner, qstat_kids⟩, qnotes⟩ : AReply)).map AReply.row := by rw [List.map_set]; rfl
theorem AReply.rins (l : List AReply) (i : Nat) (qcode : Int) (qzxid : Int) (qpath : List UInt8) (qdata : List UInt8) (qstat_czxid : Int) (qstat_mzxid : Int) (qstat_pzxid : Int) (qstat_version : Int) (qstat_cversion : Int) (qstat_owner : Int) (qstat_kids : Int) (qnotes : List (ANote)) : (l.map AReply.row).insertIdx i [.int .i64 qcode, .int .i64 qzxid, .str qpath, .str qdata, .int .i64 qstat_czxid, .int .i64 qstat_mzxid, .int .i64 qstat_pzxid, .int .i64 qstat_version, .int .i64 qstat_cversion, .int .i64 qstat_owner, .int .i64 qstat_kids, .sl 3 (qnotes.map ANote.row)] = (l.insertIdx i (⟨qcode, qzxid, qpath, qdata, ⟨qstat_czxid, qstat_mzxid, qstat_pzxid, qstat_version, qstat_cversion, qstat_owner, qstat_kids⟩, qnotes⟩ : AReply)).map AReply.row := ins_map AReply.row l i (⟨qcode, qzxid, qpath, qdata, ⟨qstat_czxid, qstat_mzxid, qstat_pzxid, qstat_version, qstat_cversion, qstat_owner, qstat_kids⟩, qnotes⟩ : AReply)
theorem AReply.rdrop (l : List AReply) (k : Nat) : List.drop 12 ((l.map AReply.row).getD k []) = [] := by
  rw [List.getD_eq_getElem?_getD, List.getElem?_map]; cases l[k]? <;> rfl
attribute [go_sem] AReply.rdrop
theorem AReply.rsnoc (l : List AReply) (qcode : Int) (qzxid : Int) (qpath : List UInt8) (qdata : List UInt8) (qstat_czxid : Int) (qstat_mzxid : Int) (qstat_pzxid : Int) (qstat_version : Int) (qstat_cversion : Int) (qstat_owner : Int) (qstat_kids : Int) (qnotes : List (ANote)) : l.map AReply.row ++ [[.int .i64 qcode, .int .i64 qzxid, .str qpath, .str qdata, .int .i64 qstat_czxid, .int .i64 qstat_mzxid, .int .i64 qstat_pzxid, .int .i64 qstat_version, .int .i64 qstat_cversion, .int .i64 qstat_owner, .int .i64 qstat_kids, .sl 3 (qnotes.map ANote.row)]] = (l ++ [(⟨qcode, qzxid, qpath, qdata, ⟨qstat_czxid, qstat_mzxid, qstat_pzxid, qstat_version, qstat_cversion, qstat_owner, qstat_kids⟩, qnotes⟩ : AReply)]).map AReply.row := by rw [List.map_append]; rfl
/-! ### What is typed -/
def okS (s : List UInt8) : Prop := s.length ≤ 140737488351232
theorem wf_okI {n : Int} (h : (Lit.int .i64 n).wf = true) : okI n := by
  simp only [Lit.wf, Bool.and_eq_true, decide_eq_true_eq] at h
  have h1 : IntKind.i64.min = -9223372036854775808 := rfl
  have h2 : IntKind.i64.max = 9223372036854775807 := rfl
  rw [h1, h2] at h; exact h
theorem list_of_rows {α : Type} {f : α → List DV} {wf : α → Prop} : ∀ {rows : List (List DV)}, (∀ r, r ∈ rows → ∃ x, r = f x ∧ wf x) → ∃ l : List α, rows = l.map f ∧ ∀ x, x ∈ l → wf x
  | [], _ => ⟨[], rfl, by simp⟩
  | r :: rows, h => by
    obtain ⟨x, h1, h2⟩ := h r (by simp)
    obtain ⟨l, h3, h4⟩ := list_of_rows (rows := rows) fun r hr => h r (by simp [hr])
    exact ⟨x :: l, by rw [h1, h3]; rfl, fun y hy => by rcases List.mem_cons.1 hy with rfl | hy; exact h2; exact h4 y hy⟩
def ATxn.wf (x : ATxn) : Prop := okI x.zxid ∧ okI x.op ∧ okI x.session ∧ okS x.path ∧ okS x.data ∧ okI x.version ∧ okI x.owner
def AStat.wf (x : AStat) : Prop := okI x.czxid ∧ okI x.mzxid ∧ okI x.pzxid ∧ okI x.version ∧ okI x.cversion ∧ okI x.owner ∧ okI x.kids
def ANode.wf (x : ANode) : Prop := okS x.path ∧ okS x.data ∧ x.stat.wf
def AFile.wf (x : AFile) : Prop := okS x.name ∧ okS x.safe ∧ okS x.tail
def AWatch.wf (x : AWatch) : Prop := okI x.session ∧ okI x.kind ∧ okS x.path
def AEvent.wf (x : AEvent) : Prop := okI x.kind ∧ okS x.path
def ANote.wf (x : ANote) : Prop := okI x.session ∧ x.event.wf
def AEntry.wf (x : AEntry) : Prop := okS x.path ∧ okS x.data ∧ True
def ARequest.wf (x : ARequest) : Prop := okI x.op ∧ okI x.session ∧ okS x.path ∧ okS x.data ∧ okI x.version ∧ okI x.flags
def ATree.wf (x : ATree) : Prop := okI x.zxid ∧ (x.nodes.length * 88 ≤ 140737488351232 ∧ ∀ y : ANode, y ∈ x.nodes → y.wf) ∧ (x.sessions.length * 8 ≤ 140737488351232 ∧ ∀ y : Int, y ∈ x.sessions → okI y)
def ADisk.wf (x : ADisk) : Prop := (x.files.length * 48 ≤ 140737488351232 ∧ ∀ y : AFile, y ∈ x.files → y.wf)
def APeer.wf (x : APeer) : Prop := okI x.id ∧ okI x.epoch ∧ (x.log.length * 72 ≤ 140737488351232 ∧ ∀ y : ATxn, y ∈ x.log → y.wf) ∧ okI x.done
def AServer.wf (x : AServer) : Prop := True ∧ x.disk.wf ∧ x.peer.wf ∧ x.tree.wf ∧ (x.watches.length * 32 ≤ 140737488351232 ∧ ∀ y : AWatch, y ∈ x.watches → y.wf)
def AClient.wf (x : AClient) : Prop := okI x.session ∧ okI x.seen ∧ (x.cache.length * 40 ≤ 140737488351232 ∧ ∀ y : AEntry, y ∈ x.cache → y.wf)
def ADeed.wf (x : ADeed) : Prop := okI x.kind ∧ okI x.client ∧ okI x.server ∧ x.request.wf ∧ okI x.lost ∧ okI x.slow ∧ okI x.keep ∧ True
def AReply.wf (x : AReply) : Prop := okI x.code ∧ okI x.zxid ∧ okS x.path ∧ okS x.data ∧ x.stat.wf ∧ (x.notes.length * 32 ≤ 140737488351232 ∧ ∀ y : ANote, y ∈ x.notes → y.wf)
attribute [go_sem] zl irow srow u8row irow_getD srow_getD u8row_getD ATxn.row ATxn.av AStat.row AStat.av ANode.row ANode.av AFile.row AFile.av AWatch.row AWatch.av AEvent.row AEvent.av ANote.row ANote.av AEntry.row AEntry.av ARequest.row ARequest.av ATree.row ATree.av ADisk.row ADisk.av APeer.row APeer.av AServer.row AServer.av AClient.row AClient.av ADeed.row ADeed.av AReply.row AReply.av ATxn.dec ATxn.getD AStat.dec AStat.getD ANode.dec ANode.getD AFile.dec AFile.getD AWatch.dec AWatch.getD AEvent.dec AEvent.getD ANote.dec ANote.getD AEntry.dec AEntry.getD ARequest.dec ARequest.getD ADeed.dec ADeed.getD
attribute [go_sem] List.length_map List.length_take List.length_drop
end Go.Proofs.YtmpfhalheaeibaaDoor
namespace Go.Proofs.YtmpfhalheaeibaaDoor
set_option linter.unusedVariables false
set_option linter.unusedSimpArgs false
open Go
theorem acallH_at (m : List Nat) {P : Program} {np : Nat} {hp : List ABlk} {g : FuncId} {xs : List AV} {K : AV → List ABlk → Prop} {t : Tok K} {chp bl : List ABlk} {cargs : List AV} {x : AV} (c : acall P chp g cargs (outs x bl))
    (exs : renL (mAt m hp.length) cargs = xs) (h : chp.length = m.length ∧ m.Nodup ∧ (∀ i, i ∈ m → i < hp.length) ∧ inL m.length cargs ∧ hpLe (mAt m hp.length) m.length hp 0 chp)
    (hK : K (renV (renm m hp.length) x) (putAll (renm m hp.length) hp m bl ++ renBs (renm m hp.length) (bl.drop m.length))) : acallHK P np hp g xs K t := by
  have := acallH_ptr (hp := hp) (K := K) m c h.1 h.2.1 h.2.2.1 h.2.2.2.1 h.2.2.2.2 (fun v hp' hR => by
    obtain ⟨rfl, rfl⟩ := hR
    exact hK)
  rw [exs] at this
  exact acallHK_of this
end Go.Proofs.YtmpfhalheaeibaaDoor
namespace Go.Proofs.YtmpfhalheaeibaaDoor
set_option linter.unusedVariables false
set_option linter.unusedSimpArgs false
open Go Go.RowKit
class AR (G : Prop) (H : outParam Prop) : Prop where
  f : H → G
section
variable {P : Program} {s : ASt} {Q : Exit → ASt → Prop} {x y : Code} {N : ASt → Prop} {id i : Nat}
instance : AR (AWP P (.seq x y) s Q) (AWP P x s (thenA (fun s' => AWP P y s' Q) Q)) := ⟨AWP.seq⟩
instance : AR (thenA N Q .normal s) (N s) := ⟨thenA_n⟩
instance : AR (thenA N Q .ret s) (Q .ret s) := ⟨thenA_r⟩
instance : AR (thenA N Q (.exit i) s) (Q (.exit i) s) := ⟨thenA_e⟩
instance : AR (blkA id N Q .normal s) (N s) := ⟨blkA_n⟩
instance : AR (blkA id N Q .ret s) (Q .ret s) := ⟨blkA_r⟩
instance : AR (blkA id N Q (.exit id) s) (N s) := ⟨blkA_e⟩
instance : AR (AWP P .skip s Q) (Q .normal s) := ⟨AWP.skip⟩
instance : AR (AWP P .ret s Q) (Q .ret s) := ⟨AWP.ret⟩
instance : AR (AWP P (.exit i) s Q) (Q (.exit i) s) := ⟨AWP.exit⟩
instance : AR (AWP P (.block id x) s Q) (AWP P x s (blkA id (Q .normal) Q)) := ⟨AWP.block⟩
end
class CK (G : Prop) (P : outParam Program) (hp : outParam (List ABlk)) (g : outParam FuncId) (xs : outParam (List AV)) (x : AV) (H : outParam Prop) : Prop where
  sc : ∀ {ys : List AV} {u0 : Value}, acall P [] g ys (ret x) → frzL hp xs = ys → scalV x = some u0 → frzOks hp xs → noIds ys → H → G
  cx : ∀ {ys : List AV} {u0 : Value}, acall P [] g ys (ret x) → scalV x = some u0 → coeL (frzL hp xs) ys ∧ frzOks hp xs ∧ noIds (frzL hp xs) → H → G
section
variable {P : Program} {hp : List ABlk} {g : FuncId} {xs : List AV} {x : AV} {np : Nat}
instance {K : AV → List ABlk → Prop} {t : Tok K} : CK (acallHK P np hp g xs K t) P hp g xs x (K x hp) := ⟨fun c a b d e h => acallH_sc c a b d e h, fun c a b h => acallH_scx c a b h⟩
instance {K : AV → Prop} {t : Tok K} : CK (acallQK P hp g xs K t) P hp g xs x (K x) := ⟨fun c a b d e h => acallQ_sc c a b d e h, fun c a b h => acallQ_scx c a b h⟩
end
section
variable {G H : Prop} {P : Program} {hp : List ABlk} {g : FuncId} {xs ys : List AV} {x : AV} {u0 : Value}
theorem zA (c : acall P [] g ys (ret x)) [k : CK G P hp g xs x H] (a : frzL hp xs = ys) (b : (scalV x).isSome = true) (d : frzOks hp xs) (e : noIds ys) (h : H) : G := by
  obtain ⟨u, hu⟩ := Option.isSome_iff_exists.1 b
  exact k.sc c a hu d e h
theorem zX (c : acall P [] g ys (ret x)) [k : CK G P hp g xs x H] (b : scalV x = some u0) (d : coeL (frzL hp xs) ys ∧ frzOks hp xs ∧ noIds (frzL hp xs)) (h : H) : G := k.cx c b d h
end
section
variable {s : ASt} {Q : Exit → ASt → Prop} {id : Nat} {l : List Oper}
theorem zR (h : ∀ K : ASt → Prop, (∀ s', Q .normal s' → K s') → aops Tryd.prog T l.toArray K l s) : AWP Tryd.prog (.region id l.toArray false) s Q := AWP.region tabOk h
theorem zQ (hB : (calm l.toArray && Region.lexB .any l.toArray) = true) (h : ∀ K : ASt → Prop, (∀ s', Q .normal s' → K s') → aopsQ Tryd.prog T l.toArray K l s) : AWP Tryd.prog (.region id l.toArray true) s Q := AWP.quietC mixed tabOk hB h
theorem zD (hB : drawB l.toArray = true) (h : ∀ K : ASt → Prop, (∀ s', Q .normal s' → K s') → aopsD Tryd.prog T l.toArray K l s) : AWP Tryd.prog (.region id l.toArray true) s Q := AWP.draw mixed tabOk hB h
theorem zE (hB : drawE l.toArray = true) (h : ∀ K : ASt → Prop, (∀ s', Q .normal s' → K s') → aopsD Tryd.prog T l.toArray K (inOrd l) s) : AWP Tryd.prog (.region id l.toArray true) s Q := AWP.drawE mixed tabOk hB h
theorem zG (hB : growB T l.toArray = true) (h : ∀ K : ASt → Prop, (∀ s', Q .normal s' → K s') → aopsG Tryd.prog T l.toArray K (inOrdG l) s) : AWP Tryd.prog (.region id l.toArray true) s Q := AWP.drawG mixed tabOk hB h
theorem zP {ops : Array Oper} (p : Plan) (hB : planB ops p = true) (h : ∀ K : ASt → Prop, (∀ s', Q .normal s' → K s') → aplan Tryd.prog T ops K p s) : AWP Tryd.prog (.region id ops true) s Q := AWP.plan p mixed tabOk hB h
end
theorem zN {P : Program} {g : FuncId} {xs ys : List AV} {x : AV} {hp bl : List ABlk} {np : Nat} {K : AV → List ABlk → Prop} {t : Tok K} (c : acall P [] g ys (fun v h => v = x ∧ h = bl)) (e : xs = ys) (h : idsL xs = [] ∧ frzL hp xs = xs ∧ frzOks hp xs ∧ noIds xs)
    (hK : K (renV (renm [] hp.length) x) (hp ++ renBs (renm [] hp.length) bl)) : acallHK P np hp g xs K t := acallH_anyr c e h hK
class ER (e : Exit) : Prop where
  h : e = .ret ∨ e = .normal
instance : ER .ret := ⟨.inl rfl⟩
instance : ER .normal := ⟨.inr rfl⟩
theorem zF {T : TypeId → TI} {s : ASt} {rs : List ResultVar} {x : AV} {e : Exit} [k : ER e] (h0 : s.np = 0) (h1 : (aresL T s rs).1)
    (h2 : frzOk s.hp (tupOf (aresL T s rs).2)) (h3 : noId (frzV s.hp (tupOf (aresL T s rs).2))) (hR : coeV (frzV s.hp (tupOf (aresL T s rs).2)) x) : aend T rs (ret x) e s := aend_retc k.h h0 h1 h2 h3 hR
end Go.Proofs.YtmpfhalheaeibaaDoor
namespace Go.Proofs.YtmpfhalheaeibaaDoor
set_option linter.unusedVariables false
set_option linter.unusedSimpArgs false
open Go Go.RowKit
theorem ty_struct {m : Nat} {t : TypeId} {cs : List DV} {fs : List (Nat × Nat × TypeId)} (hk : (T t).kind = .struct fs) (h : typed T (m + 1) t cs) : typedF (typed T m) fs cs := by
  simp only [typed, hk] at h; exact h
theorem ty_int {m : Nat} {t : TypeId} {cs : List DV} (hk : (T t).kind = .int .i64) (h : typed T (m + 1) t cs) : ∃ n, cs = [.int .i64 n] ∧ okI n := by
  simp only [typed, hk] at h
  obtain ⟨n, rfl, h⟩ := h
  exact ⟨n, rfl, wf_okI h⟩
theorem ty_str {m : Nat} {t : TypeId} {cs : List DV} (hk : (T t).kind = .str) (h : typed T (m + 1) t cs) : ∃ n, cs = [.str n] ∧ okS n := by
  simp only [typed, hk] at h
  exact h
theorem ty_sl {α : Type} {f : α → List DV} {wf : α → Prop} {m : Nat} {t e : TypeId} {sz by_ : Nat} {cs : List DV} (hk : (T t).kind = .slice e) (hs : (T e).size = sz) (hb : (T e).bytes = by_)
    (h1 : ∀ r, typed T m e r → ∃ x, r = f x ∧ wf x) (h : typed T (m + 1) t cs) : ∃ l : List α, cs = [.sl sz (l.map f)] ∧ l.length * by_ ≤ 140737488351232 ∧ ∀ x, x ∈ l → wf x := by
  simp only [typed, hk, hs, hb] at h
  obtain ⟨rows, rfl, h2, _, h3⟩ := h
  obtain ⟨l, rfl, h4⟩ := list_of_rows fun r hr => h1 r (h3 r hr)
  exact ⟨l, rfl, by simpa using h2, h4⟩
theorem AStat_typed {m : Nat} {cs : List DV} (h : typed T (m + 2) 55 cs) : ∃ x : AStat, cs = x.row ∧ x.wf := by
  have h := ty_struct (m := m + 1) (by simp only [T_55, ty55]; rfl) h
  simp only [typedF] at h
  obtain ⟨a0, b0, e0, h0, a1, b1, e1, h1, a2, b2, e2, h2, a3, b3, e3, h3, a4, b4, e4, h4, a5, b5, e5, h5, a6, b6, e6, h6, e⟩ := h
  subst e
  obtain ⟨x0, rfl, w0⟩ := ty_int (m := m) (by simp only [T_3, ty3]) h0
  obtain ⟨x1, rfl, w1⟩ := ty_int (m := m) (by simp only [T_3, ty3]) h1
  obtain ⟨x2, rfl, w2⟩ := ty_int (m := m) (by simp only [T_3, ty3]) h2
  obtain ⟨x3, rfl, w3⟩ := ty_int (m := m) (by simp only [T_3, ty3]) h3
  obtain ⟨x4, rfl, w4⟩ := ty_int (m := m) (by simp only [T_3, ty3]) h4
  obtain ⟨x5, rfl, w5⟩ := ty_int (m := m) (by simp only [T_3, ty3]) h5
  obtain ⟨x6, rfl, w6⟩ := ty_int (m := m) (by simp only [T_3, ty3]) h6
  subst e6 e5 e4 e3 e2 e1 e0
  exact ⟨⟨x0, x1, x2, x3, x4, x5, x6⟩, rfl, ⟨w0, w1, w2, w3, w4, w5, w6⟩⟩
theorem ANode_typed {m : Nat} {cs : List DV} (h : typed T (m + 3) 57 cs) : ∃ x : ANode, cs = x.row ∧ x.wf := by
  have h := ty_struct (m := m + 2) (by simp only [T_57, ty57]; rfl) h
  simp only [typedF] at h
  obtain ⟨a0, b0, e0, h0, a1, b1, e1, h1, a2, b2, e2, h2, e⟩ := h
  subst e
  obtain ⟨x0, rfl, w0⟩ := ty_str (m := m + 1) (by simp only [T_9, ty9]) h0
  obtain ⟨x1, rfl, w1⟩ := ty_str (m := m + 1) (by simp only [T_9, ty9]) h1
  obtain ⟨x2, rfl, w2⟩ := AStat_typed (m := m) h2
  subst e2 e1 e0
  exact ⟨⟨x0, x1, x2⟩, rfl, ⟨w0, w1, w2⟩⟩
theorem ARequest_typed {m : Nat} {cs : List DV} (h : typed T (m + 2) 81 cs) : ∃ x : ARequest, cs = x.row ∧ x.wf := by
  have h := ty_struct (m := m + 1) (by simp only [T_81, ty81]; rfl) h
  simp only [typedF] at h
  obtain ⟨a0, b0, e0, h0, a1, b1, e1, h1, a2, b2, e2, h2, a3, b3, e3, h3, a4, b4, e4, h4, a5, b5, e5, h5, e⟩ := h
  subst e
  obtain ⟨x0, rfl, w0⟩ := ty_int (m := m) (by simp only [T_3, ty3]) h0
  obtain ⟨x1, rfl, w1⟩ := ty_int (m := m) (by simp only [T_3, ty3]) h1
  obtain ⟨x2, rfl, w2⟩ := ty_str (m := m) (by simp only [T_9, ty9]) h2
  obtain ⟨x3, rfl, w3⟩ := ty_str (m := m) (by simp only [T_9, ty9]) h3
  obtain ⟨x4, rfl, w4⟩ := ty_int (m := m) (by simp only [T_3, ty3]) h4
  obtain ⟨x5, rfl, w5⟩ := ty_int (m := m) (by simp only [T_3, ty3]) h5
  subst e5 e4 e3 e2 e1 e0
  exact ⟨⟨x0, x1, x2, x3, x4, x5⟩, rfl, ⟨w0, w1, w2, w3, w4, w5⟩⟩
theorem ATree_typed {m : Nat} {cs : List DV} (h : typed T (m + 5) 44 cs) : ∃ x : ATree, cs = x.row ∧ x.wf := by
  have h := ty_struct (m := m + 4) (by simp only [T_44, ty44]; rfl) h
  simp only [typedF] at h
  obtain ⟨a0, b0, e0, h0, a1, b1, e1, h1, a2, b2, e2, h2, e⟩ := h
  subst e
  obtain ⟨x0, rfl, w0⟩ := ty_int (m := m + 3) (by simp only [T_3, ty3]) h0
  obtain ⟨x1, rfl, v1, w1⟩ := ty_sl (e := 57) (m := m + 3) (sz := 9) (by_ := 88) (by simp only [T_41, ty41]) (by simp only [T_57, ty57]) (by simp only [T_57, ty57]) (fun r hr => ANode_typed (m := m) hr) h1
  obtain ⟨x2, rfl, v2, w2⟩ := ty_sl (e := 3) (m := m + 3) (sz := 1) (by_ := 8) (by simp only [T_42, ty42]) (by simp only [T_3, ty3]) (by simp only [T_3, ty3]) (f := irow) (fun r hr => ty_int (m := m + 2) (by simp only [T_3, ty3]) hr) h2
  subst e2 e1 e0
  exact ⟨⟨x0, x1, x2⟩, rfl, ⟨w0, ⟨v1, w1⟩, ⟨v2, w2⟩⟩⟩
end Go.Proofs.YtmpfhalheaeibaaDoor
namespace Go.Proofs.YtmpfhalheaeibaaDoor
set_option linter.unusedVariables false
set_option linter.unusedSimpArgs false
open Go Go.RowKit
set_option maxRecDepth 100000
set_option linter.unusedSimpArgs false
theorem SmallD.len {N : Nat} {l : List UInt8} (h : SmallD N (.str l)) : l.length ≤ N := by cases h; assumption
theorem SmallD.rows {N sz : Nat} {rs : List (List DV)} (h : SmallD N (.sl sz rs)) : rs.length ≤ N ∧ ∀ r, r ∈ rs → ∀ c, c ∈ r → SmallD N c := by cases h; exact ⟨by assumption, by assumption⟩
theorem acall_of_calls {P : Program} {g : FuncId} {xs : List AV} {x : AV} {us : List Value} {u : Value} (hg : goFn P g) (hxs : scalL xs = some us) (hx : scalV x = some u)
    (h : ∀ w : World, Calls P g us.toArray w fun e w' => e = .returned u ∧ w' = w) : acall P [] g xs (ret x) := by
  refine ⟨hg, fun E w vs hw hH hvs => ?_⟩
  have e : vs = us := by
    obtain ⟨h1, h2⟩ := scalL_get hxs
    refine List.ext_getElem? fun j => ?_
    by_cases hj : j < xs.length
    · obtain ⟨u', hu, hs⟩ := h2 j _ (List.getElem?_eq_getElem hj)
      have hv : vs[j]? = some (vs[j]'(by rw [hvs.1]; exact hj)) := List.getElem?_eq_getElem _
      rw [hv, hu, scal_eq (hvs.2 j _ _ (List.getElem?_eq_getElem hj) hv) u' hs]
    · rw [List.getElem?_eq_none (by rw [hvs.1]; omega), List.getElem?_eq_none (by omega)]
  subst e
  refine (h w).mono fun e w' ⟨h1, h2⟩ => ?_
  subst h2
  refine ⟨u, x, [], [], h1, ⟨rfl, rfl⟩, ?_, fun k p hk => ?_, scal_rep x u hx⟩
  · have h0 : E.ρ0 = [] := List.eq_nil_of_length_eq_zero (by rw [hH.len]; rfl)
    rw [h0] at hH; exact hH
  · have h0 : E.ρ0 = [] := List.eq_nil_of_length_eq_zero (by rw [hH.len]; rfl)
    rw [h0] at hk; exact hk
set_option maxHeartbeats 1000000 in
theorem compareString_w (a b : ByteArray) (w : World) :
    Calls Tryd.prog 171 #[.string a, .string b] w fun e w' => e = .returned (.int .i64 (Lib.compareBytes a.data.toList b.data.toList)) ∧ w' = w := by
  go_enter Tryd.func171, Tryd.ntmps171
  go_wp2
  rw [run_callFunc_extern Tryd.func183 (by kernel_rfl) (by kernel_rfl) (by kernel_rfl) (e := Extern.BytealgCompare.compare) (by kernel_rfl), Lib.run_compareString]
  simp only [Result.andThen]
  rw [Oper.upon_value]
  go_wp2
  go_ret
  exact ⟨rfl, rfl⟩
theorem compareString_c (a b : List UInt8) : acall Tryd.prog [] 171 [S a, S b] (ret (I (Lib.compareBytes a b))) :=
  acall_of_calls ⟨_, Tryd.func171, by kernel_rfl, by kernel_rfl⟩ rfl rfl fun w => compareString_w ⟨a.toArray⟩ ⟨b.toArray⟩ w
theorem compare_c (a b : List UInt8) : acall Tryd.prog [] 144 [S a, S b] (ret (I (Lib.compareBytes a b))) := by
  refine zi tabOk Tryd.func144 rfl (by kernel_rfl) (by simp [Tryd.ntmps144]) ?_; simp only [Tryd.ntmps144, Tryd.results144, List.toList_toArray, apar, List.length_nil, List.length_cons, Nat.reduceAdd]
  (repeat' first
| (with_reducible refine AR.f ?_)
| refine zb (by decide) ?_
| (with_reducible refine AWP.cond rfl ?_ ?_ <;> intro hc <;> (try simp only [hcs, beq_iff_eq, ge_iff_le, gt_iff_lt] at hc))
| ((first | ((first | (with_reducible first | refine zR ?_ | refine zQ (by decide +kernel) ?_ | refine zD (by decide +kernel) ?_ | refine zE (by decide +kernel) ?_ | refine zG (by decide +kernel) ?_)); intro K hK) | ((first | refine acallH_sc (compareString_c _ _) rfl rfl ?_ ?_ ?_ | refine acallQ_sc (compareString_c _ _) rfl rfl ?_ ?_ ?_); iterate 2 (focus ((try simp (disch := omega) only [go_sem, wn]) <;> (try omega) <;> fail))) | ((first | refine zN (compareString_c _ _) rfl ?_ ?_); (focus ((try simp (disch := omega) only [go_sem, wn]) <;> (try omega) <;> fail))) | (first | ((first | refine zX (compareString_c _ _) rfl ?_ ?_ | refine zy (compareString_c _ _) ?_ ?_); (focus ((try simp (disch := omega) only [go_sem, wn]) <;> (try omega) <;> fail)))) | ((first | (with_reducible refine zu ?_ ?_ <;> intro hg) | with_reducible intro hg) <;> (first | (exfalso; simp at hg; done) | (have hg' := hg; (try simp only [hcs, beq_iff_eq, ge_iff_le, gt_iff_lt] at hg'); (try simp only [hg]))))) <;> (try simp (disch := omega) only [go_sem, wn]) <;> (repeat' with_reducible refine And.intro ?_ ?_) <;> (try (with_reducible refine hK _ ?_; clear hK K)))
| omega)
  (refine zF rfl ?_ ?_ ?_ ?_; (iterate 3 (focus ((try simp (disch := omega) only [go_sem, wn]) <;> (try omega) <;> fail))); (try simp (disch := omega) only [go_sem, wn, I, B, S, inj, List.cons.injEq, and_true, true_and, and_self]))
end Go.Proofs.YtmpfhalheaeibaaDoor
namespace Go.Proofs.YtmpfhalheaeibaaDoor
set_option linter.unusedVariables false
set_option linter.unusedSimpArgs false
open Go Go.RowKit
set_option linter.unusedSimpArgs false
def cmpB (a b : List UInt8) : Int := Lib.compareBytes a b
theorem cmpB_eq (a b : List UInt8) : cmpB a b = 0 ↔ a = b := by
  unfold cmpB
  induction a generalizing b with
  | nil => cases b <;> simp [Lib.compareBytes]
  | cons x a ih =>
    cases b with
    | nil => simp [Lib.compareBytes]
    | cons y b =>
      simp only [Lib.compareBytes]
      split
      · rename_i h; simp; intro e; subst e; exact absurd h (by simp)
      · split
        · rename_i h; simp; intro e; subst e; exact absurd h (by simp)
        · rename_i h1 h2
          have : x = y := by
            have h1' : ¬ x.toNat < y.toNat := by simpa [UInt8.lt_iff_toNat_lt] using h1
            have h2' : ¬ y.toNat < x.toNat := by simpa [UInt8.lt_iff_toNat_lt] using h2
            exact UInt8.toNat_inj.1 (by omega)
          subst this
          rw [ih]; simp
theorem cmpB_lt (a b : List UInt8) : cmpB a b < 0 ↔ strLt a b = true := by
  unfold cmpB strLt
  induction a generalizing b with
  | nil => cases b <;> simp [Lib.compareBytes, Op.bytesLess]
  | cons x a ih =>
    cases b with
    | nil => simp [Lib.compareBytes, Op.bytesLess]
    | cons y b =>
      simp only [Lib.compareBytes, Op.bytesLess]
      split
      · rename_i h; simp [h]
      · rename_i h1
        split
        · rename_i h2
          have h2' : ¬ x = y := fun e => by subst e; exact absurd h2 (by simp)
          simp [h1, h2']
        · rename_i h2
          have : x = y := by
            have h1' : ¬ x.toNat < y.toNat := by simpa [UInt8.lt_iff_toNat_lt] using h1
            have h2' : ¬ y.toNat < x.toNat := by simpa [UInt8.lt_iff_toNat_lt] using h2
            exact UInt8.toNat_inj.1 (by omega)
          subst this
          simp [ih]
theorem strLt_eq (a b : List UInt8) : strLt a b = decide (a < b) := Go.Proofs.bytesLess_eq a b
theorem cmpB_neg (a b : List UInt8) : cmpB a b < 0 ↔ a < b := by rw [cmpB_lt, strLt_eq, decide_eq_true_eq]
theorem lt_tri {a b : List UInt8} (h : ¬ a < b) (h2 : ¬ b < a) : a = b := List.le_antisymm (List.not_lt.1 h2) (List.not_lt.1 h)
theorem lt_of_not {a b : List UInt8} (h : ¬ a < b) (h2 : a ≠ b) : b < a := Classical.byContradiction fun h3 => h2 (lt_tri h h3)
def Rises (ns : List (List UInt8)) : Prop := ∀ k, k + 1 < ns.length → ns.getD k [] < ns.getD (k + 1) []
theorem rises_lt {ns : List (List UInt8)} (h : Rises ns) {i : Nat} : ∀ {j : Nat}, i < j → j < ns.length → ns.getD i [] < ns.getD j []
  | 0, h1, _ => by omega
  | j + 1, h1, h2 => by
    by_cases e : i = j
    · subst e; exact h i h2
    · exact List.lt_trans (rises_lt h (by omega) (by omega)) (h j h2)
def place (ns : List (List UInt8)) (key : List UInt8) : Nat := ns.findIdx fun x => !decide (x < key)
theorem place_eq {ns : List (List UInt8)} {key : List UInt8} {i : Nat} (h0 : i ≤ ns.length) (h1 : ∀ k, k < i → ns.getD k [] < key) (h2 : i < ns.length → ¬ ns.getD i [] < key) : place ns key = i := by
  unfold place
  by_cases e : i < ns.length
  · rw [List.findIdx_eq e]
    have h3 := h2 e
    rw [List.getD_eq_getElem?_getD, List.getElem?_eq_getElem e] at h3
    refine ⟨by simpa using h3, fun j hj => ?_⟩
    have h4 := h1 j hj
    rw [List.getD_eq_getElem?_getD, List.getElem?_eq_getElem (by omega)] at h4
    simpa using h4
  · have e2 : i = ns.length := by omega
    subst e2
    rw [List.findIdx_eq_length]
    intro x hx
    obtain ⟨j, hj, rfl⟩ := List.getElem_of_mem hx
    have h4 := h1 j hj
    rw [List.getD_eq_getElem?_getD, List.getElem?_eq_getElem hj] at h4
    simpa using h4
theorem mem_getD {α : Type} (ns : List α) (d : α) {k : Nat} (h : k < ns.length) : ns.getD k d ∈ ns := by
  rw [List.getD_eq_getElem?_getD, List.getElem?_eq_getElem h]; exact List.getElem_mem h
theorem mem_iff_getD {α : Type} (ns : List α) (d x : α) : x ∈ ns ↔ ∃ k, k < ns.length ∧ ns.getD k d = x := by
  constructor
  · intro h
    obtain ⟨j, hj, e⟩ := List.getElem_of_mem h
    exact ⟨j, hj, by rw [List.getD_eq_getElem?_getD, List.getElem?_eq_getElem hj]; exact e⟩
  · rintro ⟨k, h, rfl⟩; exact mem_getD ns d h
theorem place_le (ns : List (List UInt8)) (key : List UInt8) : place ns key ≤ ns.length := List.findIdx_le_length
theorem place_at {ns : List (List UInt8)} {k : Nat} (hr : Rises ns) (h : k < ns.length) : place ns (ns.getD k []) = k :=
  place_eq (by omega) (fun j hj => rises_lt hr hj h) fun _ => List.lt_irrefl _
theorem zc {ns : List (List UInt8)} {key : List UInt8} (hr : Rises ns) (h : key ∈ ns) : place ns key < ns.length ∧ ns.getD (place ns key) [] = key := by
  obtain ⟨k, hk, e⟩ := (mem_iff_getD ns [] key).1 h
  subst e; rw [place_at hr hk]; exact ⟨hk, rfl⟩
theorem getD_map {α β : Type} (f : α → β) (l : List α) (k : Nat) (d : α) : (l.map f).getD k (f d) = f (l.getD k d) := by
  simp only [List.getD_eq_getElem?_getD, List.getElem?_map]; cases l[k]? <;> rfl
end Go.Proofs.YtmpfhalheaeibaaDoor
namespace Go.Proofs.YtmpfhalheaeibaaDoor
set_option linter.unusedVariables false
set_option linter.unusedSimpArgs false
open Go Go.RowKit
set_option maxRecDepth 100000
set_option linter.unusedSimpArgs false
theorem halfw (i j : Nat) (h : i + j < 9223372036854775808) : IntKind.i64.wrap (IntKind.u64.wrap ((i : Int) + j) / 2) = (((i + j) / 2 : Nat) : Int) := by
  have e : IntKind.u64.wrap ((i : Int) + j) = ((i + j : Nat) : Int) := by simp [IntKind.wrap, IntKind.bits, IntKind.signed]; omega
  rw [e]
  have e2 : (((i + j : Nat) : Int) / 2) = (((i + j) / 2 : Nat) : Int) := by omega
  rw [e2]; simp [IntKind.wrap, IntKind.bits, IntKind.signed]; omega
theorem treeCmp_c (f : ANode) (n : List UInt8) : acall Tryd.prog [] 143 [f.av, S n] (ret (I (cmpB f.path n))) := by
  refine zi tabOk Tryd.func143 rfl (by kernel_rfl) (by simp [Tryd.ntmps143]) ?_; simp only [Tryd.ntmps143, Tryd.results143, List.toList_toArray, apar, List.length_nil, List.length_cons, Nat.reduceAdd]
  (repeat' first
| (with_reducible refine AR.f ?_)
| refine zb (by decide) ?_
| (with_reducible refine AWP.cond rfl ?_ ?_ <;> intro hc <;> (try simp only [hcs, beq_iff_eq, ge_iff_le, gt_iff_lt] at hc))
| ((first | ((first | (with_reducible first | refine zR ?_ | refine zQ (by decide +kernel) ?_ | refine zD (by decide +kernel) ?_ | refine zE (by decide +kernel) ?_ | refine zG (by decide +kernel) ?_)); intro K hK) | ((first | refine acallH_sc (compare_c _ _) rfl rfl ?_ ?_ ?_ | refine acallQ_sc (compare_c _ _) rfl rfl ?_ ?_ ?_); iterate 2 (focus ((try simp (disch := omega) only [go_sem, wn]) <;> (try omega) <;> fail))) | ((first | refine zN (compare_c _ _) rfl ?_ ?_); (focus ((try simp (disch := omega) only [go_sem, wn]) <;> (try omega) <;> fail))) | (first | ((first | refine zX (compare_c _ _) rfl ?_ ?_ | refine zy (compare_c _ _) ?_ ?_); (focus ((try simp (disch := omega) only [go_sem, wn]) <;> (try omega) <;> fail)))) | ((first | (with_reducible refine zu ?_ ?_ <;> intro hg) | with_reducible intro hg) <;> (first | (exfalso; simp at hg; done) | (have hg' := hg; (try simp only [hcs, beq_iff_eq, ge_iff_le, gt_iff_lt] at hg'); (try simp only [hg]))))) <;> (try simp (disch := omega) only [go_sem, wn]) <;> (repeat' with_reducible refine And.intro ?_ ?_) <;> (try (with_reducible refine hK _ ?_; clear hK K)))
| omega)
  (refine zF rfl ?_ ?_ ?_ ?_; (iterate 3 (focus ((try simp (disch := omega) only [go_sem, wn, cmpB]) <;> (try omega) <;> fail))); (try simp (disch := omega) only [go_sem, wn, cmpB, I, B, S, inj, List.cons.injEq, and_true, true_and, and_self]))
end Go.Proofs.YtmpfhalheaeibaaDoor
namespace Go.Proofs.YtmpfhalheaeibaaDoor
set_option linter.unusedVariables false
set_option linter.unusedSimpArgs false
open Go Go.RowKit
set_option maxRecDepth 100000
set_option linter.unusedSimpArgs false
def bsI (lt : Nat → Bool) : Nat → Nat → Nat → Nat
  | 0, i, _ => i
  | f + 1, i, j => if i < j then (if lt ((i + j) / 2) = true then bsI lt f ((i + j) / 2 + 1) j else bsI lt f i ((i + j) / 2)) else i
def ltN (ns : List (List UInt8)) (key : List UInt8) (k : Nat) : Bool := decide (ns.getD k [] < key)
def bsN (ns : List (List UInt8)) (key : List UInt8) : Nat := bsI (ltN ns key) ns.length 0 ns.length
def foundN (ns : List (List UInt8)) (key : List UInt8) : Bool := decide (bsN ns key < ns.length ∧ ns.getD (bsN ns key) [] = key)
theorem bsI_end {lt : Nat → Bool} {f i : Nat} : bsI lt f i i = i := by
  cases f with
  | zero => rfl
  | succ f => rw [bsI, if_neg (by omega)]
theorem bsI_lo {lt : Nat → Bool} {f i j : Nat} (h : i < j) (h2 : lt ((i + j) / 2) = true) : bsI lt (f + 1) i j = bsI lt f ((i + j) / 2 + 1) j := by rw [bsI, if_pos h, if_pos h2]
theorem bsI_hi {lt : Nat → Bool} {f i j : Nat} (h : i < j) (h2 : ¬ lt ((i + j) / 2) = true) : bsI lt (f + 1) i j = bsI lt f i ((i + j) / 2) := by rw [bsI, if_pos h, if_neg h2]
theorem bsI_place {ns : List (List UInt8)} {key : List UInt8} (hr : Rises ns) : ∀ {f i j : Nat}, i ≤ j → j ≤ ns.length → j - i ≤ f → (∀ k, k < i → ns.getD k [] < key) → (j < ns.length → ¬ ns.getD j [] < key) → bsI (ltN ns key) f i j = place ns key
  | 0, i, j, h1, h2, h3, h4, h5 => by
    rw [bsI]
    rw [show j = i from by omega] at h5
    exact (place_eq (by omega) h4 h5).symm
  | f + 1, i, j, h1, h2, h3, h4, h5 => by
    by_cases h : i < j
    · by_cases hc : ltN ns key ((i + j) / 2) = true
      · rw [bsI_lo h hc]
        unfold ltN at hc
        rw [decide_eq_true_eq] at hc
        refine bsI_place hr (by omega) h2 (by omega) (fun k hk => ?_) h5
        by_cases e : k = (i + j) / 2
        · rw [e]; exact hc
        · exact List.lt_trans (rises_lt (j := (i + j) / 2) hr (by omega) (by omega)) hc
      · rw [bsI_hi h hc]
        unfold ltN at hc
        rw [decide_eq_true_eq] at hc
        exact bsI_place hr (by omega) (by omega) (by omega) h4 fun _ => hc
    · rw [show j = i from by omega] at h5 ⊢
      rw [bsI_end]
      exact (place_eq (by omega) h4 h5).symm
theorem bsN_rises {ns : List (List UInt8)} {key : List UInt8} (hr : Rises ns) : bsN ns key = place ns key :=
  bsI_place hr (Nat.zero_le _) (Nat.le_refl _) (by omega) (fun k hk => by omega) (fun h => by omega)
theorem foundN_rises {ns : List (List UInt8)} {key : List UInt8} (hr : Rises ns) : foundN ns key = decide (key ∈ ns) := by
  unfold foundN
  rw [bsN_rises hr, decide_eq_decide]
  constructor
  · rintro ⟨h1, h2⟩; rw [← h2]; exact mem_getD _ _ h1
  · exact zc hr
theorem foundN_mem {ns : List (List UInt8)} {key : List UInt8} (h : foundN ns key = true) : key ∈ ns := by
  unfold foundN at h
  rw [decide_eq_true_eq] at h
  have := mem_getD ns [] h.1
  rwa [h.2] at this
theorem bsNodeU_c (l : List ANode) (key : List UInt8) (h : l.length * 88 ≤ 140737488351232) :
    acall Tryd.prog [] 142 [.d (.sl 9 (l.map ANode.row)), S key, .d (.sc (.func (.func 143) #[] #[]))]
      (ret (.tup [I (bsN (l.map ANode.path) key), B (foundN (l.map ANode.path) key)])) := by
  have hn : ∀ k, (l.map ANode.path).getD k [] = (l.getD k default).path := fun k => getD_map ANode.path l k default
  refine zi tabOk Tryd.func142 rfl (by kernel_rfl) (by simp [Tryd.ntmps142]) ?_; simp only [Tryd.ntmps142, Tryd.results142, List.toList_toArray, apar, List.length_nil, List.length_cons, Nat.reduceAdd]
  (repeat' first
| (with_reducible refine AR.f ?_)
| refine zb (by decide) ?_
| (with_reducible refine AWP.cond rfl ?_ ?_ <;> intro hc <;> (try simp only [hcs, beq_iff_eq, ge_iff_le, gt_iff_lt] at hc))
| ((first | ((first | (with_reducible first | refine zR ?_ | refine zQ (by decide +kernel) ?_ | refine zD (by decide +kernel) ?_ | refine zE (by decide +kernel) ?_ | refine zG (by decide +kernel) ?_)); intro K hK) | ((first | (with_reducible refine zu ?_ ?_ <;> intro hg) | with_reducible intro hg) <;> (first | (exfalso; simp at hg; done) | (have hg' := hg; (try simp only [hcs, beq_iff_eq, ge_iff_le, gt_iff_lt] at hg'); (try simp only [hg]))))) <;> (try simp (disch := omega) only [go_sem, wn]) <;> (repeat' with_reducible refine And.intro ?_ ?_) <;> (try (with_reducible refine hK _ ?_; clear hK K)))
| omega)
  refine AWP.loopS (ι := Nat × Nat × Nat) (fun v => v.2.1 ≤ v.2.2 ∧ v.2.2 ≤ l.length ∧ v.2.2 - v.2.1 ≤ v.1 ∧ bsI (ltN (l.map ANode.path) key) v.1 v.2.1 v.2.2 = bsN (l.map ANode.path) key) (fun v => v.1) [0, 1, 2, 8] (fun v => [(9, I v.2.1), (10, I v.2.2)]) (l.length, 0, l.length) ?_ (by simp (disch := omega) only [go_sem, wn, true_and]) ?_
  · refine ⟨by simp, by simp, by simp, ?_⟩
    unfold bsN; simp only [List.length_map]
  intro ⟨f, i, j⟩ ⟨h1, h2, h3, h4⟩
  simp only at h1 h2 h3 h4
  simp only [go_sem]
  (repeat' first
| (with_reducible refine AR.f ?_)
| refine zb (by decide) ?_
| (with_reducible refine AWP.cond rfl ?_ ?_ <;> intro hc <;> (try simp only [hcs, beq_iff_eq, ge_iff_le, gt_iff_lt] at hc))
| ((first | ((first | (with_reducible first | refine zR ?_ | refine zQ (by decide +kernel) ?_ | refine zD (by decide +kernel) ?_ | refine zE (by decide +kernel) ?_ | refine zG (by decide +kernel) ?_)); intro K hK) | ((first | refine acallH_sc (treeCmp_c _ _) rfl rfl ?_ ?_ ?_ | refine acallQ_sc (treeCmp_c _ _) rfl rfl ?_ ?_ ?_); iterate 2 (focus ((try simp (disch := omega) only [go_sem, wn, halfw]) <;> (try omega) <;> fail))) | ((first | refine zN (treeCmp_c _ _) rfl ?_ ?_); (focus ((try simp (disch := omega) only [go_sem, wn, halfw]) <;> (try omega) <;> fail))) | (first | ((first | refine zX (treeCmp_c _ _) rfl ?_ ?_ | refine zy (treeCmp_c _ _) ?_ ?_); (focus ((try simp (disch := omega) only [go_sem, wn, halfw]) <;> (try omega) <;> fail)))) | ((first | (with_reducible refine zu ?_ ?_ <;> intro hg) | with_reducible intro hg) <;> (first | (exfalso; simp at hg; done) | (have hg' := hg; (try simp only [hcs, beq_iff_eq, ge_iff_le, gt_iff_lt] at hg'); (try simp only [hg]))))) <;> (try simp (disch := omega) only [go_sem, wn, halfw]) <;> (repeat' with_reducible refine And.intro ?_ ?_) <;> (try (with_reducible refine hK _ ?_; clear hK K)))
| omega)
  · rw [cmpB_neg] at hc
    obtain ⟨g, rfl⟩ : ∃ g, f = g + 1 := ⟨f - 1, by omega⟩
    have hlt : ltN (l.map ANode.path) key ((i + j) / 2) = true := by unfold ltN; rw [decide_eq_true_eq, hn]; exact hc
    rw [bsI_lo (by omega) hlt] at h4
    refine ⟨(g, (i + j) / 2 + 1, j), ⟨by simp only; omega, h2, by simp only; omega, h4⟩, by simp only; omega, ?_⟩
    (refine SImp.same ?_; simp (disch := omega) only [go_sem, wn, Int.natCast_add])
  · have hc2 : ¬ cmpB (l.getD ((i + j) / 2) default).path key < 0 := by omega
    rw [cmpB_neg, ← hn] at hc2
    obtain ⟨g, rfl⟩ : ∃ g, f = g + 1 := ⟨f - 1, by omega⟩
    have hlt : ¬ ltN (l.map ANode.path) key ((i + j) / 2) = true := by unfold ltN; rw [decide_eq_true_eq]; exact hc2
    rw [bsI_hi (by omega) hlt] at h4
    refine ⟨(g, i, (i + j) / 2), ⟨by simp only; omega, by simp only; omega, by simp only; omega, h4⟩, by simp only; omega, ?_⟩
    (refine SImp.same ?_; simp (disch := omega) only [go_sem, wn, Int.natCast_add])
  all_goals
    have e0 : i = j := by omega
    subst e0
    rw [bsI_end] at h4
    (refine zF rfl ?_ ?_ ?_ ?_; (iterate 3 (focus ((try simp (disch := omega) only [go_sem, wn, h4, foundN]) <;> (try omega) <;> fail))); (try simp (disch := omega) only [go_sem, wn, h4, foundN, I, B, S, inj, List.cons.injEq, and_true, true_and, and_self]))
    simp only [← h4, foundN, List.length_map, hn, cmpB_eq]
    simp at hg; simp; try omega
end Go.Proofs.YtmpfhalheaeibaaDoor
namespace Go.Proofs.YtmpfhalheaeibaaDoor
set_option linter.unusedVariables false
set_option linter.unusedSimpArgs false
open Go Go.RowKit
set_option maxRecDepth 100000
set_option linter.unusedSimpArgs false
def RisesI (l : List Int) : Prop := ∀ k, k + 1 < l.length → l.getD k default < l.getD (k + 1) default
theorem risesI_lt {l : List Int} (h : RisesI l) {i : Nat} : ∀ {j : Nat}, i < j → j < l.length → l.getD i default < l.getD j default
  | 0, h1, _ => by omega
  | j + 1, h1, h2 => by
    by_cases e : i = j
    · subst e; exact h i h2
    · exact Int.lt_trans (risesI_lt h (by omega) (by omega)) (h j h2)
def placeI (l : List Int) (key : Int) : Nat := l.findIdx fun x => !decide (x < key)
theorem placeI_eq {l : List Int} {key : Int} {i : Nat} (h0 : i ≤ l.length) (h1 : ∀ k, k < i → l.getD k default < key) (h2 : i < l.length → ¬ l.getD i default < key) : placeI l key = i := by
  unfold placeI
  by_cases e : i < l.length
  · rw [List.findIdx_eq e]
    have h3 := h2 e
    rw [List.getD_eq_getElem?_getD, List.getElem?_eq_getElem e] at h3
    refine ⟨by simpa using h3, fun j hj => ?_⟩
    have h4 := h1 j hj
    rw [List.getD_eq_getElem?_getD, List.getElem?_eq_getElem (by omega)] at h4
    simpa using h4
  · have e2 : i = l.length := by omega
    subst e2
    rw [List.findIdx_eq_length]
    intro x hx
    obtain ⟨j, hj, rfl⟩ := List.getElem_of_mem hx
    have h4 := h1 j hj
    rw [List.getD_eq_getElem?_getD, List.getElem?_eq_getElem hj] at h4
    simpa using h4
theorem foundI_iff {l : List Int} {key : Int} {i : Nat} (hr : RisesI l) (h1 : ∀ k, k < i → l.getD k default < key) (h2 : i < l.length → ¬ l.getD i default < key) : key ∈ l ↔ i < l.length ∧ l.getD i default = key := by
  rw [mem_iff_getD l default]
  constructor
  · rintro ⟨k, hk, e⟩
    have a : ¬ k < i := fun hki => by have := h1 k hki; omega
    have b : ¬ i < k := fun hik => by
      have := risesI_lt hr hik hk
      rw [e] at this; exact h2 (by omega) this
    have c : i = k := by omega
    subst c; exact ⟨hk, e⟩
  · rintro ⟨h, e⟩; exact ⟨i, h, e⟩
theorem bsInt_c (l : List Int) (key : Int) (h : l.length * 8 ≤ 140737488351232) (hr : RisesI l) :
    acall Tryd.prog [] 94 [.d (.sl 1 (l.map irow)), I key] (ret (.tup [I (placeI l key), B (decide (key ∈ l))])) := by
  refine zi tabOk Tryd.func94 rfl (by kernel_rfl) (by simp [Tryd.ntmps94]) ?_; simp only [Tryd.ntmps94, Tryd.results94, List.toList_toArray, apar, List.length_nil, List.length_cons, Nat.reduceAdd]
  (repeat' first
| (with_reducible refine AR.f ?_)
| refine zb (by decide) ?_
| (with_reducible refine AWP.cond rfl ?_ ?_ <;> intro hc <;> (try simp only [hcs, beq_iff_eq, ge_iff_le, gt_iff_lt] at hc))
| ((first | ((first | (with_reducible first | refine zR ?_ | refine zQ (by decide +kernel) ?_ | refine zD (by decide +kernel) ?_ | refine zE (by decide +kernel) ?_ | refine zG (by decide +kernel) ?_)); intro K hK) | ((first | (with_reducible refine zu ?_ ?_ <;> intro hg) | with_reducible intro hg) <;> (first | (exfalso; simp at hg; done) | (have hg' := hg; (try simp only [hcs, beq_iff_eq, ge_iff_le, gt_iff_lt] at hg'); (try simp only [hg]))))) <;> (try simp (disch := omega) only [go_sem, wn]) <;> (repeat' with_reducible refine And.intro ?_ ?_) <;> (try (with_reducible refine hK _ ?_; clear hK K)))
| omega)
  refine AWP.loopS (ι := Nat × Nat) (fun v => v.1 ≤ v.2 ∧ v.2 ≤ l.length ∧ (∀ k, k < v.1 → l.getD k default < key) ∧ (v.2 < l.length → ¬ l.getD v.2 default < key)) (fun v => v.2 - v.1) [0, 1, 6] (fun v => [(7, I v.1), (8, I v.2)]) (0, l.length) ?_ (by simp (disch := omega) only [go_sem, wn, true_and]) ?_
  · exact ⟨by simp, by simp, fun k hk => by simp at hk, fun k => by simp at k⟩
  intro ⟨i, j⟩ ⟨h1, h2, h3, h4⟩
  simp only at h1 h2 h3 h4
  simp only [go_sem]
  (repeat' first
| (with_reducible refine AR.f ?_)
| refine zb (by decide) ?_
| (with_reducible refine AWP.cond rfl ?_ ?_ <;> intro hc <;> (try simp only [hcs, beq_iff_eq, ge_iff_le, gt_iff_lt] at hc))
| (refine zh fun Kk hKk => (zi tabOk Tryd.func145 rfl (by kernel_rfl) (by simp [Tryd.ntmps145]) ?_); simp only [Tryd.ntmps145, Tryd.results145, List.toList_toArray, apar, List.length_nil, List.length_cons, Nat.reduceAdd, List.length_append, List.length_set, go_sem])
| (refine zh fun Kk hKk => (zi tabOk Tryd.func172 rfl (by kernel_rfl) (by simp [Tryd.ntmps172]) ?_); simp only [Tryd.ntmps172, Tryd.results172, List.toList_toArray, apar, List.length_nil, List.length_cons, Nat.reduceAdd, List.length_append, List.length_set, go_sem])
| (refine zh fun Kk hKk => (zi tabOk Tryd.func146 rfl (by kernel_rfl) (by simp [Tryd.ntmps146]) ?_); simp only [Tryd.ntmps146, Tryd.results146, List.toList_toArray, apar, List.length_nil, List.length_cons, Nat.reduceAdd, List.length_append, List.length_set, go_sem])
| ((first | ((first | (with_reducible first | refine zR ?_ | refine zQ (by decide +kernel) ?_ | refine zD (by decide +kernel) ?_ | refine zE (by decide +kernel) ?_ | refine zG (by decide +kernel) ?_)); intro K hK) | (refine zw (v := ?_) hKk (by first | exact .inl rfl | exact .inr rfl) ?_ ?_ ?_; rotate_left; (focus ((try simp (disch := omega) only [go_sem, wn, halfw]) <;> (try omega) <;> fail)); (focus ((try simp (disch := omega) only [go_sem, wn, halfw]) <;> (first | done | exact rfl))); clear hKk Kk) | ((first | (with_reducible refine zu ?_ ?_ <;> intro hg) | with_reducible intro hg) <;> (first | (exfalso; simp at hg; done) | (have hg' := hg; (try simp only [hcs, beq_iff_eq, ge_iff_le, gt_iff_lt] at hg'); (try simp only [hg]))))) <;> (try simp (disch := omega) only [go_sem, wn, halfw]) <;> (repeat' with_reducible refine And.intro ?_ ?_) <;> (try (with_reducible refine hK _ ?_; clear hK K)))
| omega)
  · refine ⟨((i + j) / 2 + 1, j), ⟨by simp only; omega, h2, fun k hk => ?_, h4⟩, by simp only; omega, ?_⟩
    · by_cases e : k = (i + j) / 2
      · rw [e]; exact hc
      · exact Int.lt_trans (risesI_lt (j := (i + j) / 2) hr (by simp only at hk; omega) (by omega)) hc
    (refine SImp.same ?_; simp (disch := omega) only [go_sem, wn, Int.natCast_add])
  · refine ⟨(i, (i + j) / 2), ⟨by simp only; omega, by simp only; omega, h3, fun _ => Int.not_lt.2 hc⟩, by simp only; omega, ?_⟩
    (refine SImp.same ?_; simp (disch := omega) only [go_sem, wn, Int.natCast_add])
  all_goals
    have e0 : i = j := by omega
    subst e0
    have e1 : placeI l key = i := placeI_eq (by omega) h3 h4
    have e2 : key ∈ l ↔ i < l.length ∧ l.getD i default = key := foundI_iff hr h3 h4
    (refine zF rfl ?_ ?_ ?_ ?_; (iterate 3 (focus ((try simp (disch := omega) only [go_sem, wn, e1]) <;> (try omega) <;> fail))); (try simp (disch := omega) only [go_sem, wn, e1, I, B, S, inj, List.cons.injEq, and_true, true_and, and_self]))
    simp only [e2]
    simp at hg; simp
end Go.Proofs.YtmpfhalheaeibaaDoor
namespace Go.Proofs.YtmpfhalheaeibaaDoor
set_option linter.unusedVariables false
set_option linter.unusedSimpArgs false
open Go Go.RowKit
set_option maxRecDepth 100000
set_option linter.unusedSimpArgs false
theorem ext_indexByte {P : Program} {hp : List ABlk} {g : FuncId} {fn : Func} (hf : P.funcs[g]? = some fn) (hn : (fn.name == "runtime.NumGoroutine") = false) (hb : fn.body.isNone = true) (hx : Extern.findNext fn = none)
    (he : Extern.find fn = some Extern.BytealgIndexByte.indexByte) (s : List UInt8) (c : UInt8) : aextQ P hp g [S s, .d (.int .u8 c.toNat)] (I (Lib.indexByte s c)) := by
  intro E ρ w us hH hus
  refine ⟨.int .i64 (Lib.indexByte s c), .d _ _ (.int _ _), fun w' hbl => ?_⟩
  match us, hus with
  | [u, u'], hus =>
    have hu := hus.2 0 _ u rfl rfl
    have hu' := hus.2 1 _ u' rfl rfl
    cases hu with | d _ _ hu => cases hu with | str _ =>
    cases hu' with | d _ _ hu' => cases hu' with | int _ _ =>
    rw [run_callFunc_extern hf hn hb hx he]
    have := Lib.run_indexByteString (P := P) ⟨s.toArray⟩ (c.toNat : Int) w'
    have e : ((c.toNat : Int)).toNat.toUInt8 = c := by simp
    rw [e] at this
    show (Extern.BytealgIndexByte.indexByte #[.string ⟨s.toArray⟩, .int .u8 (c.toNat : Int)] |>.run P w').andThen _ = _
    rw [this]
    rfl
theorem indexByteS_c (s : List UInt8) (c : UInt8) : acall Tryd.prog [] 194 [S s, .d (.int .u8 c.toNat)] (ret (I (Lib.indexByte s c))) := by
  refine zi tabOk Tryd.func194 rfl (by kernel_rfl) (by simp [Tryd.ntmps194]) ?_; simp only [Tryd.ntmps194, Tryd.results194, List.toList_toArray, apar, List.length_nil, List.length_cons, Nat.reduceAdd]
  (repeat' first
| (with_reducible refine AR.f ?_)
| refine zb (by decide) ?_
| (with_reducible refine AWP.cond rfl ?_ ?_ <;> intro hc <;> (try simp only [hcs, beq_iff_eq, ge_iff_le, gt_iff_lt] at hc))
| ((first | ((first | (with_reducible first | refine zR ?_ | refine zQ (by decide +kernel) ?_ | refine zD (by decide +kernel) ?_ | refine zE (by decide +kernel) ?_ | refine zG (by decide +kernel) ?_)); intro K hK) | refine acallHK_ext (ext_indexByte Tryd.func198 (by kernel_rfl) (by kernel_rfl) (by kernel_rfl) (by kernel_rfl) s c) ?_ | ((first | (with_reducible refine zu ?_ ?_ <;> intro hg) | with_reducible intro hg) <;> (first | (exfalso; simp at hg; done) | (have hg' := hg; (try simp only [hcs, beq_iff_eq, ge_iff_le, gt_iff_lt] at hg'); (try simp only [hg]))))) <;> (try simp (disch := omega) only [go_sem, wn]) <;> (repeat' with_reducible refine And.intro ?_ ?_) <;> (try (with_reducible refine hK _ ?_; clear hK K)))
| omega)
  (refine zF rfl ?_ ?_ ?_ ?_; (iterate 3 (focus ((try simp (disch := omega) only [go_sem, wn]) <;> (try omega) <;> fail))); (try simp (disch := omega) only [go_sem, wn, I, B, S, inj, List.cons.injEq, and_true, true_and, and_self]))
theorem indexL_c (s : List UInt8) (c : UInt8) : acall Tryd.prog [] 191 [S s, S [c]] (ret (I (Lib.indexByte s c))) := by
  refine zi tabOk Tryd.func191 rfl (by kernel_rfl) (by simp [Tryd.ntmps191]) ?_; simp only [Tryd.ntmps191, Tryd.results191, List.toList_toArray, apar, List.length_nil, List.length_cons, Nat.reduceAdd]
  (repeat' first
| (with_reducible refine AR.f ?_)
| refine zb (by decide) ?_
| (with_reducible refine AWP.cond rfl ?_ ?_ <;> intro hc <;> (try simp only [hcs, beq_iff_eq, ge_iff_le, gt_iff_lt] at hc))
| ((first | ((first | (with_reducible first | refine zR ?_ | refine zQ (by decide +kernel) ?_ | refine zD (by decide +kernel) ?_ | refine zE (by decide +kernel) ?_ | refine zG (by decide +kernel) ?_)); intro K hK) | ((first | refine zA (indexByteS_c s c) ?_ ?_ ?_ ?_ ?_); (focus exact rfl); (focus exact rfl); iterate 2 (focus ((try simp (disch := omega) only [go_sem, wn]) <;> (try omega) <;> fail))) | ((first | refine zN (indexByteS_c s c) rfl ?_ ?_); (focus ((try simp (disch := omega) only [go_sem, wn]) <;> (try omega) <;> fail))) | (first | ((first | refine zX (indexByteS_c s c) rfl ?_ ?_ | refine zy (indexByteS_c s c) ?_ ?_); (focus ((try simp (disch := omega) only [go_sem, wn]) <;> (try omega) <;> fail)))) | ((first | (with_reducible refine zu ?_ ?_ <;> intro hg) | with_reducible intro hg) <;> (first | (exfalso; simp at hg; done) | (have hg' := hg; (try simp only [hcs, beq_iff_eq, ge_iff_le, gt_iff_lt] at hg'); (try simp only [hg]))))) <;> (try simp (disch := omega) only [go_sem, wn]) <;> (repeat' with_reducible refine And.intro ?_ ?_) <;> (try (with_reducible refine hK _ ?_; clear hK K)))
| omega)
  · (refine zF rfl ?_ ?_ ?_ ?_; (iterate 3 (focus ((try simp (disch := omega) only [go_sem, wn]) <;> (try omega) <;> fail))); (try simp (disch := omega) only [go_sem, wn, I, B, S, inj, List.cons.injEq, and_true, true_and, and_self]))
    subst hc; simp [Lib.indexByte]
  · (refine zF rfl ?_ ?_ ?_ ?_; (iterate 3 (focus ((try simp (disch := omega) only [go_sem, wn]) <;> (try omega) <;> fail))); (try simp (disch := omega) only [go_sem, wn, I, B, S, inj, List.cons.injEq, and_true, true_and, and_self]))
theorem index1_c (s : List UInt8) (c : UInt8) : acall Tryd.prog [] 182 [S s, S [c]] (ret (I (Lib.indexByte s c))) := by
  refine zi tabOk Tryd.func182 rfl (by kernel_rfl) (by simp [Tryd.ntmps182]) ?_; simp only [Tryd.ntmps182, Tryd.results182, List.toList_toArray, apar, List.length_nil, List.length_cons, Nat.reduceAdd]
  (repeat' first
| (with_reducible refine AR.f ?_)
| refine zb (by decide) ?_
| (with_reducible refine AWP.cond rfl ?_ ?_ <;> intro hc <;> (try simp only [hcs, beq_iff_eq, ge_iff_le, gt_iff_lt] at hc))
| ((first | ((first | (with_reducible first | refine zR ?_ | refine zQ (by decide +kernel) ?_ | refine zD (by decide +kernel) ?_ | refine zE (by decide +kernel) ?_ | refine zG (by decide +kernel) ?_)); intro K hK) | ((first | refine zA (indexL_c s c) ?_ ?_ ?_ ?_ ?_); (focus exact rfl); (focus exact rfl); iterate 2 (focus ((try simp (disch := omega) only [go_sem, wn]) <;> (try omega) <;> fail))) | ((first | refine zN (indexL_c s c) rfl ?_ ?_); (focus ((try simp (disch := omega) only [go_sem, wn]) <;> (try omega) <;> fail))) | (first | ((first | refine zX (indexL_c s c) rfl ?_ ?_ | refine zy (indexL_c s c) ?_ ?_); (focus ((try simp (disch := omega) only [go_sem, wn]) <;> (try omega) <;> fail)))) | ((first | (with_reducible refine zu ?_ ?_ <;> intro hg) | with_reducible intro hg) <;> (first | (exfalso; simp at hg; done) | (have hg' := hg; (try simp only [hcs, beq_iff_eq, ge_iff_le, gt_iff_lt] at hg'); (try simp only [hg]))))) <;> (try simp (disch := omega) only [go_sem, wn]) <;> (repeat' with_reducible refine And.intro ?_ ?_) <;> (try (with_reducible refine hK _ ?_; clear hK K)))
| omega)
  (refine zF rfl ?_ ?_ ?_ ?_; (iterate 3 (focus ((try simp (disch := omega) only [go_sem, wn]) <;> (try omega) <;> fail))); (try simp (disch := omega) only [go_sem, wn, I, B, S, inj, List.cons.injEq, and_true, true_and, and_self]))
theorem hasPrefixL_c (s p : List UInt8) (hp : okS p) (hs : okS s) : acall Tryd.prog [] 168 [S s, S p] (ret (B (decide (p.length ≤ s.length ∧ s.take p.length = p)))) := by
  unfold okS at hp hs
  refine zi tabOk Tryd.func168 rfl (by kernel_rfl) (by simp [Tryd.ntmps168]) ?_; simp only [Tryd.ntmps168, Tryd.results168, List.toList_toArray, apar, List.length_nil, List.length_cons, Nat.reduceAdd]
  (repeat' first
| (with_reducible refine AR.f ?_)
| refine zb (by decide) ?_
| (with_reducible refine AWP.cond rfl ?_ ?_ <;> intro hc <;> (try simp only [hcs, beq_iff_eq, ge_iff_le, gt_iff_lt] at hc))
| ((first | ((first | (with_reducible first | refine zR ?_ | refine zQ (by decide +kernel) ?_ | refine zD (by decide +kernel) ?_ | refine zE (by decide +kernel) ?_ | refine zG (by decide +kernel) ?_)); intro K hK) | ((first | (with_reducible refine zu ?_ ?_ <;> intro hg) | with_reducible intro hg) <;> (first | (exfalso; simp at hg; done) | (have hg' := hg; (try simp only [hcs, beq_iff_eq, ge_iff_le, gt_iff_lt] at hg'); (try simp only [hg]))))) <;> (try simp (disch := omega) only [go_sem, wn]) <;> (repeat' with_reducible refine And.intro ?_ ?_) <;> (try (with_reducible refine hK _ ?_; clear hK K)))
| omega)
  all_goals (refine zF rfl ?_ ?_ ?_ ?_; (iterate 3 (focus ((try simp (disch := omega) only [go_sem, wn]) <;> (try omega) <;> fail))); (try simp (disch := omega) only [go_sem, wn, I, B, S, inj, List.cons.injEq, and_true, true_and, and_self]))
  rw [Bool.eq_iff_iff]; simp
theorem hasPrefix_c (s p : List UInt8) (hp : okS p) (hs : okS s) : acall Tryd.prog [] 139 [S s, S p] (ret (B (decide (p.length ≤ s.length ∧ s.take p.length = p)))) := by
  refine zi tabOk Tryd.func139 rfl (by kernel_rfl) (by simp [Tryd.ntmps139]) ?_; simp only [Tryd.ntmps139, Tryd.results139, List.toList_toArray, apar, List.length_nil, List.length_cons, Nat.reduceAdd]
  (repeat' first
| (with_reducible refine AR.f ?_)
| refine zb (by decide) ?_
| (with_reducible refine AWP.cond rfl ?_ ?_ <;> intro hc <;> (try simp only [hcs, beq_iff_eq, ge_iff_le, gt_iff_lt] at hc))
| ((first | ((first | (with_reducible first | refine zR ?_ | refine zQ (by decide +kernel) ?_ | refine zD (by decide +kernel) ?_ | refine zE (by decide +kernel) ?_ | refine zG (by decide +kernel) ?_)); intro K hK) | ((first | refine zA (hasPrefixL_c s p hp hs) ?_ ?_ ?_ ?_ ?_); (focus exact rfl); (focus exact rfl); iterate 2 (focus ((try simp (disch := omega) only [go_sem, wn]) <;> (try omega) <;> fail))) | ((first | refine zN (hasPrefixL_c s p hp hs) rfl ?_ ?_); (focus ((try simp (disch := omega) only [go_sem, wn]) <;> (try omega) <;> fail))) | (first | ((first | refine zX (hasPrefixL_c s p hp hs) rfl ?_ ?_ | refine zy (hasPrefixL_c s p hp hs) ?_ ?_); (focus ((try simp (disch := omega) only [go_sem, wn]) <;> (try omega) <;> fail)))) | ((first | (with_reducible refine zu ?_ ?_ <;> intro hg) | with_reducible intro hg) <;> (first | (exfalso; simp at hg; done) | (have hg' := hg; (try simp only [hcs, beq_iff_eq, ge_iff_le, gt_iff_lt] at hg'); (try simp only [hg]))))) <;> (try simp (disch := omega) only [go_sem, wn]) <;> (repeat' with_reducible refine And.intro ?_ ?_) <;> (try (with_reducible refine hK _ ?_; clear hK K)))
| omega)
  all_goals (refine zF rfl ?_ ?_ ?_ ?_; (iterate 3 (focus ((try simp (disch := omega) only [go_sem, wn]) <;> (try omega) <;> fail))); (try simp (disch := omega) only [go_sem, wn, I, B, S, inj, List.cons.injEq, and_true, true_and, and_self]))
theorem calls_of_acall {P : Program} {g : FuncId} {xs : List AV} {x : AV} {us : List Value} {u : Value} (c : acall P [] g xs (ret x)) (hxs : scalL xs = some us) (hx : scalV x = some u) (w : World) (ht : TabsAt w) :
    Calls P g us.toArray w fun e w' => e = .returned u ∧ Below w.heap.size w w' := by
  obtain ⟨h1, h2⟩ := scalL_get hxs
  have hH : RepH (⟨w, fun _ => False, fun _ => False, [], by simp, by simp, ht, by simp⟩ : Ent) [] [] w :=
    ⟨rfl, by simp, by simp, by simp, Fr.refl _ _⟩
  refine (c.2 ⟨w, fun _ => False, fun _ => False, [], by simp, by simp, ht, by simp⟩ w us rfl hH ⟨h1, fun j x' u' hx' hu' => ?_⟩).mono fun e w' ⟨u', v, hp', ρ', q1, q2, q3, q4, q5⟩ => ?_
  · obtain ⟨u2, q, hs⟩ := h2 j x' hx'
    rw [hu'] at q; injection q with q; subst q
    exact scal_rep x' u' hs
  · obtain ⟨rfl, rfl⟩ := q2
    exact ⟨by rw [q1, scal_eq q5 u hx], q3.fr.os, q3.fr.tape, q3.fr.output, q3.fr.size, fun k hk => q3.fr.block k hk (by simp)⟩
end Go.Proofs.YtmpfhalheaeibaaDoor
namespace Go.Proofs.YtmpfhalheaeibaaDoor
set_option linter.unusedVariables false
set_option linter.unusedSimpArgs false
open Go Go.RowKit
set_option maxRecDepth 100000
set_option linter.unusedSimpArgs false
def okc (c : UInt8) : Bool := decide ((97 ≤ c.toNat ∧ c.toNat ≤ 122) ∨ (48 ≤ c.toNat ∧ c.toNat ≤ 57) ∨ c.toNat = 45 ∨ c.toNat = 95)
def namedP (s : List UInt8) : Bool := s.all okc && (!decide (s = []) && decide ((s.length : Int) ≤ 40))
theorem all_take {α : Type} [Inhabited α] (p : α → Bool) (l : List α) (d : α) : ∀ k, k ≤ l.length → (∀ j, j < k → p (l.getD j d) = true) → (l.take k).all p = true := by
  intro k hk h
  rw [List.all_eq_true]
  intro x hx
  rw [List.mem_take_iff_getElem] at hx
  obtain ⟨j, hj, rfl⟩ := hx
  have := h j (by omega)
  rwa [List.getD_eq_getElem?_getD, List.getElem?_eq_getElem (by omega)] at this
theorem all_full {α : Type} [Inhabited α] (p : α → Bool) (l : List α) (d : α) (h : ∀ j, j < l.length → p (l.getD j d) = true) : l.all p = true := by
  have := all_take p l d l.length (Nat.le_refl _) h
  rwa [List.take_length] at this
theorem all_not {α : Type} [Inhabited α] {p : α → Bool} {l : List α} {d : α} {k : Nat} (hk : k < l.length) (h : p (l.getD k d) = false) : l.all p = false := by
  rw [List.all_eq_false]
  refine ⟨l.getD k d, ?_, by rw [h]; simp⟩
  rw [List.getD_eq_getElem?_getD, List.getElem?_eq_getElem hk]
  exact List.getElem_mem hk
theorem named_c (s : List UInt8) (h : okS s) : acall Tryd.prog [] 97 [S s] (ret (B (namedP s))) := by
  unfold okS at h
  refine zi tabOk Tryd.func97 rfl (by kernel_rfl) (by simp [Tryd.ntmps97]) ?_; simp only [Tryd.ntmps97, Tryd.results97, List.toList_toArray, apar, List.length_nil, List.length_cons, Nat.reduceAdd]
  (repeat' first
| (with_reducible refine AR.f ?_)
| refine zb (by decide) ?_
| (with_reducible refine AWP.cond rfl ?_ ?_ <;> intro hc <;> (try simp only [hcs, beq_iff_eq, ge_iff_le, gt_iff_lt] at hc))
| ((first | ((first | (with_reducible first | refine zR ?_ | refine zQ (by decide +kernel) ?_ | refine zD (by decide +kernel) ?_ | refine zE (by decide +kernel) ?_ | refine zG (by decide +kernel) ?_)); intro K hK) | ((first | (with_reducible refine zu ?_ ?_ <;> intro hg) | with_reducible intro hg) <;> (first | (exfalso; simp at hg; done) | (have hg' := hg; (try simp only [hcs, beq_iff_eq, ge_iff_le, gt_iff_lt] at hg'); (try simp only [hg]))))) <;> (try simp (disch := omega) only [go_sem, wn]) <;> (repeat' with_reducible refine And.intro ?_ ?_) <;> (try (with_reducible refine hK _ ?_; clear hK K)))
| omega)
  refine AWP.loopS (ι := Nat) (fun k => k ≤ s.length ∧ ∀ j, j < k → okc (s.getD j 0) = true) (fun k => s.length - k) [0] (fun k => [(3, I k)]) 0 ?_ (by simp (disch := omega) only [go_sem, wn, true_and]) ?_
  · exact ⟨by omega, by omega⟩
  intro k ⟨hk, hk2⟩
  simp only [go_sem]
  (repeat' first
| (with_reducible refine AR.f ?_)
| refine zb (by decide) ?_
| (with_reducible refine AWP.cond rfl ?_ ?_ <;> intro hc <;> (try simp only [hcs, beq_iff_eq, ge_iff_le, gt_iff_lt] at hc))
| ((first | ((first | (with_reducible first | refine zR ?_ | refine zQ (by decide +kernel) ?_ | refine zD (by decide +kernel) ?_ | refine zE (by decide +kernel) ?_ | refine zG (by decide +kernel) ?_)); intro K hK) | ((first | (with_reducible refine zu ?_ ?_ <;> intro hg) | with_reducible intro hg) <;> (first | (exfalso; simp at hg; done) | (have hg' := hg; (try simp only [hcs, beq_iff_eq, ge_iff_le, gt_iff_lt] at hg'); (try simp only [hg]))))) <;> (try simp (disch := omega) only [go_sem, wn]) <;> (repeat' with_reducible refine And.intro ?_ ?_) <;> (try (with_reducible refine hK _ ?_; clear hK K)))
| omega)
  · rename_i hl
    have e : s.all okc = false := all_not (d := 0) hl (by unfold okc; rw [decide_eq_false_iff_not]; omega)
    (refine zF rfl ?_ ?_ ?_ ?_; (iterate 3 (focus ((try simp (disch := omega) only [go_sem, wn, namedP, e, Bool.false_and]) <;> (try omega) <;> fail))); (try simp (disch := omega) only [go_sem, wn, namedP, e, Bool.false_and, I, B, S, inj, List.cons.injEq, and_true, true_and, and_self]))
  · refine ⟨k + 1, ⟨by omega, fun j hj => ?_⟩, by omega, ?_⟩
    · by_cases e : j = k
      · subst e; unfold okc; rw [decide_eq_true_eq]; omega
      · exact hk2 j (by omega)
    (refine SImp.same ?_; simp (disch := omega) only [go_sem, wn, Int.natCast_add])
  · have e : s.all okc = true := all_full okc s 0 fun j hj => hk2 j (by omega)
    (refine zF rfl ?_ ?_ ?_ ?_; (iterate 3 (focus ((try simp (disch := omega) only [go_sem, wn, namedP, e, Bool.true_and]) <;> (try omega) <;> fail))); (try simp (disch := omega) only [go_sem, wn, namedP, e, Bool.true_and, I, B, S, inj, List.cons.injEq, and_true, true_and, and_self]))
def letters : List UInt8 := [97, 98, 99, 100, 101, 102, 103, 104, 105, 106, 107, 108, 109, 110, 111, 112, 113, 114, 115, 116, 117, 118, 119, 120, 121, 122, 48, 49, 50, 51, 52, 53, 54, 55, 56, 57, 45, 95]
theorem okc_letters (c : UInt8) : okc c = letters.any (fun x => decide (c = x)) := by
  have h : ∀ n, n < 256 → okc (UInt8.ofNat n) = letters.any (fun x => decide (UInt8.ofNat n = x)) := by unfold okc letters; decide
  have := h c.toNat c.toNat_lt
  simpa using this
theorem any_take {α : Type} [Inhabited α] (p : α → Bool) (l : List α) (d : α) (k : Nat) (hk : k < l.length) : (l.take (k + 1)).any p = ((l.take k).any p || p (l.getD k d)) := by
  rw [List.getD_eq_getElem?_getD, List.getElem?_eq_getElem hk, List.take_add_one, List.getElem?_eq_getElem hk, List.any_append]; simp
theorem u8g (l : List UInt8) (i : Nat) (h : i < l.length) : (l.map u8row).getD i [] = u8row (l.getD i 0) := getD_row u8row l i [] h
theorem ref_named_c (s : List UInt8) (h : okS s) : acall Tryd.prog [] 99 [S s] (ret (B (namedP s))) := by
  unfold okS at h
  refine zi tabOk Tryd.func99 rfl (by kernel_rfl) (by simp [Tryd.ntmps99]) ?_; simp only [Tryd.ntmps99, Tryd.results99, List.toList_toArray, apar, List.length_nil, List.length_cons, Nat.reduceAdd]
  (repeat' first
| (with_reducible refine AR.f ?_)
| refine zb (by decide) ?_
| (with_reducible refine AWP.cond rfl ?_ ?_ <;> intro hc <;> (try simp only [hcs, beq_iff_eq, ge_iff_le, gt_iff_lt] at hc))
| ((first | ((first | (with_reducible first | refine zR ?_ | refine zQ (by decide +kernel) ?_ | refine zD (by decide +kernel) ?_ | refine zE (by decide +kernel) ?_ | refine zG (by decide +kernel) ?_)); intro K hK) | ((first | (with_reducible refine zu ?_ ?_ <;> intro hg) | with_reducible intro hg) <;> (first | (exfalso; simp at hg; done) | (have hg' := hg; (try simp only [hcs, beq_iff_eq, ge_iff_le, gt_iff_lt] at hg'); (try simp only [hg]))))) <;> (try simp (disch := omega) only [go_sem, wn]) <;> (repeat' with_reducible refine And.intro ?_ ?_) <;> (try (with_reducible refine hK _ ?_; clear hK K)))
| omega)
  refine AWP.loopB (ι := Nat) (fun k => k ≤ s.length ∧ ∀ j, j < k → okc (s.getD j 0) = true) (fun k => s.length - k) [0, 3, 10, 11] (fun k => [(12, I k)]) (fun k => [.bytes s]) 0 ?_ ?_ ?_
  · exact ⟨by omega, by omega⟩
  · simp only [go_sem]; (refine SImp.same ?_; simp (disch := omega) only [go_sem, wn, Int.natCast_add])
  intro k ⟨hk, hk2⟩
  have hL : letters.length = 38 := rfl
  simp only [go_sem]
  (repeat' first
| (with_reducible refine AR.f ?_)
| refine zb (by decide) ?_
| (with_reducible refine AWP.cond rfl ?_ ?_ <;> intro hc <;> (try simp only [hcs, beq_iff_eq, ge_iff_le, gt_iff_lt] at hc))
| ((first | ((first | (with_reducible first | refine zR ?_ | refine zQ (by decide +kernel) ?_ | refine zD (by decide +kernel) ?_ | refine zE (by decide +kernel) ?_ | refine zG (by decide +kernel) ?_)); intro K hK) | ((first | (with_reducible refine zu ?_ ?_ <;> intro hg) | with_reducible intro hg) <;> (first | (exfalso; simp at hg; done) | (have hg' := hg; (try simp only [hcs, beq_iff_eq, ge_iff_le, gt_iff_lt] at hg'); (try simp only [hg]))))) <;> (try simp (disch := omega) only [go_sem, wn, u8g]) <;> (repeat' with_reducible refine And.intro ?_ ?_) <;> (try (with_reducible refine hK _ ?_; clear hK K)))
| omega)
  · refine AWP.loopB (ι := Nat) (fun j => j ≤ 38) (fun j => 38 - j) [0, 3, 5, 10, 11, 12, 17, 18] (fun j => [(6, B ((letters.take j).any (fun x => decide (s.getD k 0 = x)))), (19, I j)]) (fun j => [.bytes s, .bytes letters]) 0 ?_ ?_ ?_
    · omega
    · simp only [go_sem, letters]; (refine SImp.same ?_; simp (disch := omega) only [go_sem, wn, Int.natCast_add, letters, List.take_zero, List.any_nil])
    intro j hj
    simp only [go_sem]
    (repeat' first
  | (with_reducible refine AR.f ?_)
  | refine zb (by decide) ?_
  | (with_reducible refine AWP.cond rfl ?_ ?_ <;> intro hc <;> (try simp only [hcs, beq_iff_eq, ge_iff_le, gt_iff_lt] at hc))
  | ((first | ((first | (with_reducible first | refine zR ?_ | refine zQ (by decide +kernel) ?_ | refine zD (by decide +kernel) ?_ | refine zE (by decide +kernel) ?_ | refine zG (by decide +kernel) ?_)); intro K hK) | ((first | (with_reducible refine zu ?_ ?_ <;> intro hg) | with_reducible intro hg) <;> (first | (exfalso; simp at hg; done) | (have hg' := hg; (try simp only [hcs, beq_iff_eq, ge_iff_le, gt_iff_lt] at hg'); (try simp only [hg]))))) <;> (try simp (disch := omega) only [go_sem, wn, u8g]) <;> (repeat' with_reducible refine And.intro ?_ ?_) <;> (try (with_reducible refine hK _ ?_; clear hK K)))
  | omega)
    · refine ⟨j + 1, by omega, by omega, ?_⟩
      have e1 : ((letters.take (j + 1)).any fun x => decide (s.getD k 0 = x)) = (((letters.take j).any fun x => decide (s.getD k 0 = x)) || decide (s.getD k 0 = letters.getD j 0)) := any_take _ letters 0 j (by omega)
      have e2 : ((((s.getD k 0).toNat : Int) = ((letters.getD j 0).toNat : Int))) = (s.getD k 0 = letters.getD j 0) := by
        rw [Int.natCast_inj, UInt8.toNat_inj]
      (refine SImp.same ?_; simp (disch := omega) only [go_sem, wn, Int.natCast_add, e1, e2])
    · have e0 : j = 38 := by omega
      subst e0
      have e : s.all okc = false := all_not (d := 0) (by assumption) (by rw [okc_letters]; exact hc)
      (refine zF rfl ?_ ?_ ?_ ?_; (iterate 3 (focus ((try simp (disch := omega) only [go_sem, wn, namedP, e, Bool.false_and]) <;> (try omega) <;> fail))); (try simp (disch := omega) only [go_sem, wn, namedP, e, Bool.false_and, I, B, S, inj, List.cons.injEq, and_true, true_and, and_self]))
    · have e0 : j = 38 := by omega
      subst e0
      refine ⟨k + 1, ⟨by omega, fun j hj => ?_⟩, by omega, ?_⟩
      · by_cases e : j = k
        · subst e; rw [okc_letters]; exact hc
        · exact hk2 j (by omega)
      (refine SImp.frame [0] rfl (by intro k hk; first | (simp at hk <;> (simp; omega)) | (simp only [List.mem_cons, List.not_mem_nil, or_false] at hk; simp only [List.length_cons, List.length_nil]; omega)) (by decide) (fun k hk => by first | omega | (rcases k with _ | _ | _ | _ | _ | _ | _ | _ | k <;> first | rfl | omega)) ?_ ?_ <;> simp (disch := omega) only [go_sem, wn, Int.natCast_add, true_and] <;> (try rfl))
  · have e : s.all okc = true := all_full okc s 0 fun j hj => hk2 j (by omega)
    (refine zF rfl ?_ ?_ ?_ ?_; (iterate 3 (focus ((try simp (disch := omega) only [go_sem, wn, namedP, e, Bool.true_and]) <;> (try omega) <;> fail))); (try simp (disch := omega) only [go_sem, wn, namedP, e, Bool.true_and, I, B, S, inj, List.cons.injEq, and_true, true_and, and_self]))
    cases s <;> simp <;> omega
end Go.Proofs.YtmpfhalheaeibaaDoor
