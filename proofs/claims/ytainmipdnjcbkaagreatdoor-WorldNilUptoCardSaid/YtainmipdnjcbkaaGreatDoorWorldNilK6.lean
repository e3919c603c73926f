/- A part of what WorldNil leans on: texts of this claim, one behind the other. No condition. -/
import Derived.Lib.Overlaps
import Derived.Lib.Strings
import Derived.Lib.Slices
import Derived.Lib.Walk
import Derived.Lib.Bytealg
import Derived.RangeFuncNested
import Derived.RangeFuncBound
import Derived.RangeFuncCalls
import Derived.RangeFuncLeaves
import Derived.Shelf.Abstract
import Derived.Shelf.RegionOpen
import Derived.WalkKit
import Derived.OwnWalkIn
import Derived.TacticsInMore
import Derived.LoopNIn
import Derived.LoopIn
import Derived.Sort.Walk0
import Derived.Laws.BitsAllLaws
import Derived.Laws.BitsLemmas
import Derived.IntWalk
import Derived.Test.YtainmipdnjcbkaaGreatDoorWorldNilK5
namespace Go.Proofs.YtainmipdnjcbkaaGreatDoor
set_option linter.unusedVariables false
set_option linter.unusedSimpArgs false
open Go Go.RowKit
def inl (K : AV → List ABlk → Prop) : AV → List ABlk → Prop := K
section
variable {P : Program} {T : TypeId → TI} {np : Nat} {hp : List ABlk} {g : FuncId} {xs : List AV} {K : AV → List ABlk → Prop} {t : Tok K}
end
section
variable {P : Program} {T : TypeId → TI} {E : Ent} {ρ : List (Option (Nat × Nat))} {w : World} {np nt : Nat} {env : List (Nat × AV)} {hp : List ABlk} {c : Code} {Q : Exit → ASt → Prop}
theorem HStep.redo (h : RepH E ρ hp w) {k b m : Nat} {x x' : ABlk} (hx : hp[k]? = some x) (hd : x ≠ .dead) (hd' : x' ≠ .dead) (hk : ρ[k]? = some (some (b, m))) (hb0 : ∀ l, x ≠ .bytes l)
    (hb : ∀ us ty fz, w.heap[b]? = some (.cells us ty fz) → us.size = m → RepBlk ρ (okB E ρ hp w) w us x → RepBlk ρ (okB E ρ hp w) w us x') (hm : x.isObj = false := by rfl) (hm' : x'.isObj = false := by rfl) : HStep E ρ hp w ρ (hp.set k x') w := by
  obtain ⟨_, us, ty, fz, q2, q3, _, q5⟩ := h.blk k x b m hx hk ⟨hd, hm⟩
  have := HStep.set h hx hd hd' hk q2 (us' := us) rfl (fun l e => absurd e (hb0 l)) (hb us ty fz q2 q3 q5) hm hm'
  rwa [setB_self w b _ q2] at this
end
theorem acall.re {P : Program} {hp : List ABlk} {g : FuncId} {xs : List AV} {x y : AV} (c : acall P hp g xs (ret x)) (e : x = y) : acall P hp g xs (ret y) := e ▸ c
theorem AWP.quietC {P : Program} {T : TypeId → TI} {s : ASt} {Q : Exit → ASt → Prop} {id : Nat} {l : List Oper} (hm : P.follows .mixedOrders = true) (hT : TabOk P T) (hB : (calm l.toArray && Region.lexB .any l.toArray) = true) (h : ∀ K : ASt → Prop, (∀ s', Q .normal s' → K s') → aopsQ P T l.toArray K l s) :
    AWP P (.region id l.toArray true) s Q := by
  rw [Bool.and_eq_true] at hB
  exact AWP.quiet hm hT hB.2 h
theorem AOut.done {np : Nat} {hp bl : List ABlk} {v x : AV} (h1 : v = x) (h2 : hp = bl) : AOut np hp v (outs x bl) := by subst h1; subst h2; exact AOut.same ⟨rfl, rfl⟩
theorem osl_if0 (i k sz b : Nat) [Decidable (i = 0)] : (if i = 0 then AV.osl k sz 0 b else AV.osl k sz i (b - i)) = .osl k sz i (b - i) := by
  split
  · rename_i h; subst h; simp
  · rfl
theorem osl_if1 (i k sz off b : Nat) [Decidable (i = 0)] : (if i = 0 then AV.osl k sz off b else AV.osl k sz (off + i) (b - i)) = .osl k sz (off + i) (b - i) := by
  split
  · rename_i h; subst h; simp
  · rfl
section
variable {P : Program} {T : TypeId → TI} {np nt : Nat} {env : List (Nat × AV)} {hp : List ABlk} {c x y : Code} {Q : Exit → ASt → Prop} {s : ASt}
theorem AWP.meet (st : ASt) (h1 : AWP P x s (thenA (fun s' => SImp s' st) Q)) (h2 : AWP P y st Q) : AWP P x s (thenA (fun s' => AWP P y s' Q) Q) :=
  h1.mono fun e s' hq => by
    cases e with
    | normal => exact AWP.weaken hq h2
    | _ => exact hq
end
attribute [go_sem] amakeMap.eq_def amapSet.eq_def amapLook.eq_def isStrIntMap.eq_def osl_if0 osl_if1 Option.isSome_some Option.isSome_none inOrd inOrdG isEffQ.eq_def List.filter_cons List.filter_nil acap.eq_def aslOwnF.eq_def aslFull.eq_def srcApp.eq_def isIntK.eq_def appFull.eq_def aappendF.eq_def copyTo.eq_def copyCells.eq_def isSlK.eq_def acopy.eq_def clearTo.eq_def aclear.eq_def u8val.eq_def isU8.eq_def astoreX.eq_def
theorem hcs : (∀ (p : Prop) [Decidable p], (decide p = true) = p) ∧ (∀ (p : Prop) [Decidable p], (decide p = false) ↔ ¬ p) ∧ (∀ a b : Bool, ((a && b) = true) = (a = true ∧ b = true)) ∧ (∀ a b : Bool, ((a || b) = true) = (a = true ∨ b = true)) ∧
    (∀ a b : Bool, ((a || b) = false) ↔ (a = false ∧ b = false)) ∧ (∀ a b : Bool, ((a && b) = false) ↔ (a = false ∨ b = false)) ∧ (∀ b : Bool, ((!b) = true) = (b = false)) ∧ (∀ b : Bool, ((!b) = false) = (b = true)) ∧ ((true = false) = False) ∧ ((false = true) = False) ∧
    (∀ b : Bool, (¬ b = true) = (b = false)) ∧ (∀ b : Bool, (¬ b = false) = (b = true)) ∧ (∀ a b : Int, ¬ a < b ↔ b ≤ a) ∧ (∀ a b : Int, ¬ a ≤ b ↔ b < a) ∧ (∀ a b : Nat, ¬ a < b ↔ b ≤ a) ∧ (∀ a b : Nat, ¬ a ≤ b ↔ b < a) ∧
    (∀ a b : Nat, (a : Int) < (b : Int) ↔ a < b) ∧ (∀ a b : Nat, (a : Int) ≤ (b : Int) ↔ a ≤ b) ∧ (∀ a : Nat, (a : Int) = 0 ↔ a = 0) ∧ ((¬ True) = False) ∧ ((¬ False) = True) ∧ ((!true) = false) ∧ ((!false) = true) :=
  ⟨fun _ _ => decide_eq_true_eq, fun _ _ => decide_eq_false_iff_not, Bool.and_eq_true, Bool.or_eq_true, fun _ _ => Bool.or_eq_false_iff, fun _ _ => Bool.and_eq_false_iff, Bool.not_eq_true', Bool.not_eq_false', Bool.true_eq_false, Bool.false_eq_true,
    Bool.not_eq_true, Bool.not_eq_false, fun _ _ => Int.not_lt, fun _ _ => Int.not_le, fun _ _ => Nat.not_lt, fun _ _ => Nat.not_le, fun _ _ => Int.ofNat_lt, fun _ _ => Int.ofNat_le, fun _ => Int.natCast_eq_zero, not_true_eq_false, not_false_eq_true, Bool.not_true, Bool.not_false⟩
theorem inj : (∀ a b, (AV.d a = AV.d b) = (a = b)) ∧ (∀ k n k' n', (DV.int k n = DV.int k' n') = (k = k' ∧ n = n')) ∧ (∀ a b, (DV.bool a = DV.bool b) = (a = b)) ∧ (∀ a b, (DV.str a = DV.str b) = (a = b)) ∧ (∀ k n k' n', (DV.sl k n = DV.sl k' n') = (k = k' ∧ n = n')) ∧
    (∀ a b, (AV.tup a = AV.tup b) = (a = b)) ∧ (∀ a b, (AV.agg a = AV.agg b) = (a = b)) ∧ (∀ a b c d a' b' c' d', (AV.osl a b c d = AV.osl a' b' c' d') = (a = a' ∧ b = b' ∧ c = c' ∧ d = d')) ∧ (∀ a b a' b', (AV.ptr a b = AV.ptr a' b') = (a = a' ∧ b = b')) ∧
    (∀ a b c d a' b' c' d', (AV.rp a b c d = AV.rp a' b' c' d') = (a = a' ∧ b = b' ∧ c = c' ∧ d = d')) := by simp
end Go.Proofs.YtainmipdnjcbkaaGreatDoor
namespace Go.Proofs.YtainmipdnjcbkaaGreatDoor
set_option linter.unusedVariables false
set_option linter.unusedSimpArgs false
open Go Go.RowKit
def irow (n : Int) : List DV := [.int .i64 n]
def srow (s : List UInt8) : List DV := [.str s]
theorem getD_row {α : Type} [Inhabited α] (f : α → List DV) (l : List α) (i : Nat) (z : List DV) (h : i < l.length) : (l.map f).getD i z = f (l.getD i default) := by
  rw [List.getD_eq_getElem?_getD, List.getD_eq_getElem?_getD, List.getElem?_map, List.getElem?_eq_getElem h]; rfl
theorem irow_getD (l : List Int) (i : Nat) : (l.map irow).getD i [.int .i64 0] = irow (l.getD i default) := by
  rw [List.getD_eq_getElem?_getD, List.getD_eq_getElem?_getD, List.getElem?_map]; cases l[i]? <;> rfl
theorem srow_getD (l : List (List UInt8)) (i : Nat) : (l.map srow).getD i [.str []] = srow (l.getD i default) := by
  rw [List.getD_eq_getElem?_getD, List.getD_eq_getElem?_getD, List.getElem?_map]; cases l[i]? <;> rfl
theorem u8row_getD (l : List UInt8) (i : Nat) : (l.map u8row).getD i [.int .u8 0] = u8row (l.getD i 0) := by
  rw [List.getD_eq_getElem?_getD, List.getD_eq_getElem?_getD, List.getElem?_map]; cases l[i]? <;> rfl
theorem take_snoc {α : Type} [Inhabited α] (l : List α) (k : Nat) (h : k < l.length) : l.take (k + 1) = l.take k ++ [l.getD k default] := by
  rw [List.take_add_one, List.getElem?_eq_getElem h, List.getD_eq_getElem?_getD, List.getElem?_eq_getElem h]; rfl
theorem getD_mem {α : Type} [Inhabited α] (l : List α) (k : Nat) (h : k < l.length) : l.getD k default ∈ l := by
  rw [List.getD_eq_getElem?_getD, List.getElem?_eq_getElem h]; exact List.getElem_mem _
theorem zl {α β : Type} (f : α → β) (l : List α) : (l.map f).take l.length = l.map f := List.take_of_length_le (by simp)
theorem ins_map {α β : Type} (f : α → β) (l : List α) (i : Nat) (x : α) : (l.map f).insertIdx i (f x) = (l.insertIdx i x).map f := by
  induction l generalizing i with
  | nil => cases i <;> rfl
  | cons a l ih => cases i with
    | zero => rfl
    | succ i => simp only [List.map_cons, List.insertIdx_succ_cons]; rw [ih]
structure ATxn where
  zxid : Int
  op : Int
  session : Int
  path : List UInt8
  data : List UInt8
  version : Int
  owner : Int
instance : Inhabited ATxn := ⟨⟨0, 0, 0, [], [], 0, 0⟩⟩
theorem ATxn.ext_iff (a b : ATxn) : a = b ↔ a.zxid = b.zxid ∧ a.op = b.op ∧ a.session = b.session ∧ a.path = b.path ∧ a.data = b.data ∧ a.version = b.version ∧ a.owner = b.owner := by
  cases a; cases b; simp
instance : DecidableEq ATxn := fun a b => decidable_of_iff _ (ATxn.ext_iff a b).symm
def ATxn.row (x : ATxn) : List DV := [.int .i64 x.zxid, .int .i64 x.op, .int .i64 x.session, .str x.path, .str x.data, .int .i64 x.version, .int .i64 x.owner]
def ATxn.av (x : ATxn) : AV := .agg [.d (.int .i64 x.zxid), .d (.int .i64 x.op), .d (.int .i64 x.session), .d (.str x.path), .d (.str x.data), .d (.int .i64 x.version), .d (.int .i64 x.owner)]
theorem ATxn.dec (a b : ATxn) : (decide (a.zxid = b.zxid) && (decide (a.op = b.op) && (decide (a.session = b.session) && (decide (a.path = b.path) && (decide (a.data = b.data) && (decide (a.version = b.version) && decide (a.owner = b.owner))))))) = decide (a = b) := by
  rw [Bool.eq_iff_iff]; simp only [Bool.and_eq_true, decide_eq_true_eq, ATxn.ext_iff, and_assoc]
theorem ATxn.getD (l : List ATxn) (i : Nat) : (l.map ATxn.row).getD i [.int .i64 0, .int .i64 0, .int .i64 0, .str [], .str [], .int .i64 0, .int .i64 0] = (l.getD i default).row := by
  rw [List.getD_eq_getElem?_getD, List.getD_eq_getElem?_getD, List.getElem?_map]; cases l[i]? <;> rfl
theorem ATxn.rgetD (l : List ATxn) (i : Nat) (z : List DV) (h : i < l.length) : (l.map ATxn.row).getD i z = (l.getD i default).row := getD_row ATxn.row l i z h
theorem ATxn.rdrop (l : List ATxn) (k : Nat) : List.drop 7 ((l.map ATxn.row).getD k []) = [] := by
  rw [List.getD_eq_getElem?_getD, List.getElem?_map]; cases l[k]? <;> rfl
attribute [go_sem] ATxn.rdrop
structure AStat where
  czxid : Int
  mzxid : Int
  pzxid : Int
  version : Int
  cversion : Int
  owner : Int
  kids : Int
instance : Inhabited AStat := ⟨⟨0, 0, 0, 0, 0, 0, 0⟩⟩
theorem AStat.ext_iff (a b : AStat) : a = b ↔ a.czxid = b.czxid ∧ a.mzxid = b.mzxid ∧ a.pzxid = b.pzxid ∧ a.version = b.version ∧ a.cversion = b.cversion ∧ a.owner = b.owner ∧ a.kids = b.kids := by
  cases a; cases b; simp
instance : DecidableEq AStat := fun a b => decidable_of_iff _ (AStat.ext_iff a b).symm
def AStat.row (x : AStat) : List DV := [.int .i64 x.czxid, .int .i64 x.mzxid, .int .i64 x.pzxid, .int .i64 x.version, .int .i64 x.cversion, .int .i64 x.owner, .int .i64 x.kids]
def AStat.av (x : AStat) : AV := .agg [.d (.int .i64 x.czxid), .d (.int .i64 x.mzxid), .d (.int .i64 x.pzxid), .d (.int .i64 x.version), .d (.int .i64 x.cversion), .d (.int .i64 x.owner), .d (.int .i64 x.kids)]
theorem AStat.dec (a b : AStat) : (decide (a.czxid = b.czxid) && (decide (a.mzxid = b.mzxid) && (decide (a.pzxid = b.pzxid) && (decide (a.version = b.version) && (decide (a.cversion = b.cversion) && (decide (a.owner = b.owner) && decide (a.kids = b.kids))))))) = decide (a = b) := by
  rw [Bool.eq_iff_iff]; simp only [Bool.and_eq_true, decide_eq_true_eq, AStat.ext_iff, and_assoc]
theorem AStat.getD (l : List AStat) (i : Nat) : (l.map AStat.row).getD i [.int .i64 0, .int .i64 0, .int .i64 0, .int .i64 0, .int .i64 0, .int .i64 0, .int .i64 0] = (l.getD i default).row := by
  rw [List.getD_eq_getElem?_getD, List.getD_eq_getElem?_getD, List.getElem?_map]; cases l[i]? <;> rfl
theorem AStat.rgetD (l : List AStat) (i : Nat) (z : List DV) (h : i < l.length) : (l.map AStat.row).getD i z = (l.getD i default).row := getD_row AStat.row l i z h
theorem AStat.rdrop (l : List AStat) (k : Nat) : List.drop 7 ((l.map AStat.row).getD k []) = [] := by
  rw [List.getD_eq_getElem?_getD, List.getElem?_map]; cases l[k]? <;> rfl
attribute [go_sem] AStat.rdrop
structure ANode where
  path : List UInt8
  data : List UInt8
  stat : AStat
instance : Inhabited ANode := ⟨⟨[], [], default⟩⟩
theorem ANode.ext_iff (a b : ANode) : a = b ↔ a.path = b.path ∧ a.data = b.data ∧ a.stat = b.stat := by
  cases a; cases b; simp
instance : DecidableEq ANode := fun a b => decidable_of_iff _ (ANode.ext_iff a b).symm
def ANode.row (x : ANode) : List DV := [.str x.path, .str x.data, .int .i64 x.stat.czxid, .int .i64 x.stat.mzxid, .int .i64 x.stat.pzxid, .int .i64 x.stat.version, .int .i64 x.stat.cversion, .int .i64 x.stat.owner, .int .i64 x.stat.kids]
def ANode.av (x : ANode) : AV := .agg [.d (.str x.path), .d (.str x.data), .d (.int .i64 x.stat.czxid), .d (.int .i64 x.stat.mzxid), .d (.int .i64 x.stat.pzxid), .d (.int .i64 x.stat.version), .d (.int .i64 x.stat.cversion), .d (.int .i64 x.stat.owner), .d (.int .i64 x.stat.kids)]
theorem ANode.dec (a b : ANode) : (decide (a.path = b.path) && (decide (a.data = b.data) && (decide (a.stat.czxid = b.stat.czxid) && (decide (a.stat.mzxid = b.stat.mzxid) && (decide (a.stat.pzxid = b.stat.pzxid) && (decide (a.stat.version = b.stat.version) && (decide (a.stat.cversion = b.stat.cversion) && (decide (a.stat.owner = b.stat.owner) && decide (a.stat.kids = b.stat.kids))))))))) = decide (a = b) := by
  rw [Bool.eq_iff_iff]; simp only [Bool.and_eq_true, decide_eq_true_eq, ANode.ext_iff, AStat.ext_iff, and_assoc]
theorem ANode.getD (l : List ANode) (i : Nat) : (l.map ANode.row).getD i [.str [], .str [], .int .i64 0, .int .i64 0, .int .i64 0, .int .i64 0, .int .i64 0, .int .i64 0, .int .i64 0] = (l.getD i default).row := by
  rw [List.getD_eq_getElem?_getD, List.getD_eq_getElem?_getD, List.getElem?_map]; cases l[i]? <;> rfl
theorem ANode.rgetD (l : List ANode) (i : Nat) (z : List DV) (h : i < l.length) : (l.map ANode.row).getD i z = (l.getD i default).row := getD_row ANode.row l i z h
theorem ANode.rdrop (l : List ANode) (k : Nat) : List.drop 9 ((l.map ANode.row).getD k []) = [] := by
  rw [List.getD_eq_getElem?_getD, List.getElem?_map]; cases l[k]? <;> rfl
attribute [go_sem] ANode.rdrop
structure AFile where
  name : List UInt8
  safe : List UInt8
  tail : List UInt8
instance : Inhabited AFile := ⟨⟨[], [], []⟩⟩
theorem AFile.ext_iff (a b : AFile) : a = b ↔ a.name = b.name ∧ a.safe = b.safe ∧ a.tail = b.tail := by
  cases a; cases b; simp
instance : DecidableEq AFile := fun a b => decidable_of_iff _ (AFile.ext_iff a b).symm
def AFile.row (x : AFile) : List DV := [.str x.name, .str x.safe, .str x.tail]
def AFile.av (x : AFile) : AV := .agg [.d (.str x.name), .d (.str x.safe), .d (.str x.tail)]
theorem AFile.dec (a b : AFile) : (decide (a.name = b.name) && (decide (a.safe = b.safe) && decide (a.tail = b.tail))) = decide (a = b) := by
  rw [Bool.eq_iff_iff]; simp only [Bool.and_eq_true, decide_eq_true_eq, AFile.ext_iff, and_assoc]
theorem AFile.getD (l : List AFile) (i : Nat) : (l.map AFile.row).getD i [.str [], .str [], .str []] = (l.getD i default).row := by
  rw [List.getD_eq_getElem?_getD, List.getD_eq_getElem?_getD, List.getElem?_map]; cases l[i]? <;> rfl
theorem AFile.rgetD (l : List AFile) (i : Nat) (z : List DV) (h : i < l.length) : (l.map AFile.row).getD i z = (l.getD i default).row := getD_row AFile.row l i z h
theorem AFile.rdrop (l : List AFile) (k : Nat) : List.drop 3 ((l.map AFile.row).getD k []) = [] := by
  rw [List.getD_eq_getElem?_getD, List.getElem?_map]; cases l[k]? <;> rfl
attribute [go_sem] AFile.rdrop
structure AWatch where
  session : Int
  kind : Int
  path : List UInt8
instance : Inhabited AWatch := ⟨⟨0, 0, []⟩⟩
theorem AWatch.ext_iff (a b : AWatch) : a = b ↔ a.session = b.session ∧ a.kind = b.kind ∧ a.path = b.path := by
  cases a; cases b; simp
instance : DecidableEq AWatch := fun a b => decidable_of_iff _ (AWatch.ext_iff a b).symm
def AWatch.row (x : AWatch) : List DV := [.int .i64 x.session, .int .i64 x.kind, .str x.path]
def AWatch.av (x : AWatch) : AV := .agg [.d (.int .i64 x.session), .d (.int .i64 x.kind), .d (.str x.path)]
theorem AWatch.dec (a b : AWatch) : (decide (a.session = b.session) && (decide (a.kind = b.kind) && decide (a.path = b.path))) = decide (a = b) := by
  rw [Bool.eq_iff_iff]; simp only [Bool.and_eq_true, decide_eq_true_eq, AWatch.ext_iff, and_assoc]
theorem AWatch.getD (l : List AWatch) (i : Nat) : (l.map AWatch.row).getD i [.int .i64 0, .int .i64 0, .str []] = (l.getD i default).row := by
  rw [List.getD_eq_getElem?_getD, List.getD_eq_getElem?_getD, List.getElem?_map]; cases l[i]? <;> rfl
theorem AWatch.rgetD (l : List AWatch) (i : Nat) (z : List DV) (h : i < l.length) : (l.map AWatch.row).getD i z = (l.getD i default).row := getD_row AWatch.row l i z h
theorem AWatch.rdrop (l : List AWatch) (k : Nat) : List.drop 3 ((l.map AWatch.row).getD k []) = [] := by
  rw [List.getD_eq_getElem?_getD, List.getElem?_map]; cases l[k]? <;> rfl
attribute [go_sem] AWatch.rdrop
structure AEvent where
  kind : Int
  path : List UInt8
instance : Inhabited AEvent := ⟨⟨0, []⟩⟩
theorem AEvent.ext_iff (a b : AEvent) : a = b ↔ a.kind = b.kind ∧ a.path = b.path := by
  cases a; cases b; simp
instance : DecidableEq AEvent := fun a b => decidable_of_iff _ (AEvent.ext_iff a b).symm
def AEvent.row (x : AEvent) : List DV := [.int .i64 x.kind, .str x.path]
def AEvent.av (x : AEvent) : AV := .agg [.d (.int .i64 x.kind), .d (.str x.path)]
theorem AEvent.dec (a b : AEvent) : (decide (a.kind = b.kind) && decide (a.path = b.path)) = decide (a = b) := by
  rw [Bool.eq_iff_iff]; simp only [Bool.and_eq_true, decide_eq_true_eq, AEvent.ext_iff, and_assoc]
theorem AEvent.getD (l : List AEvent) (i : Nat) : (l.map AEvent.row).getD i [.int .i64 0, .str []] = (l.getD i default).row := by
  rw [List.getD_eq_getElem?_getD, List.getD_eq_getElem?_getD, List.getElem?_map]; cases l[i]? <;> rfl
theorem AEvent.rgetD (l : List AEvent) (i : Nat) (z : List DV) (h : i < l.length) : (l.map AEvent.row).getD i z = (l.getD i default).row := getD_row AEvent.row l i z h
theorem AEvent.rdrop (l : List AEvent) (k : Nat) : List.drop 2 ((l.map AEvent.row).getD k []) = [] := by
  rw [List.getD_eq_getElem?_getD, List.getElem?_map]; cases l[k]? <;> rfl
attribute [go_sem] AEvent.rdrop
structure ANote where
  session : Int
  event : AEvent
instance : Inhabited ANote := ⟨⟨0, default⟩⟩
theorem ANote.ext_iff (a b : ANote) : a = b ↔ a.session = b.session ∧ a.event = b.event := by
  cases a; cases b; simp
instance : DecidableEq ANote := fun a b => decidable_of_iff _ (ANote.ext_iff a b).symm
def ANote.row (x : ANote) : List DV := [.int .i64 x.session, .int .i64 x.event.kind, .str x.event.path]
def ANote.av (x : ANote) : AV := .agg [.d (.int .i64 x.session), .d (.int .i64 x.event.kind), .d (.str x.event.path)]
theorem ANote.dec (a b : ANote) : (decide (a.session = b.session) && (decide (a.event.kind = b.event.kind) && decide (a.event.path = b.event.path))) = decide (a = b) := by
  rw [Bool.eq_iff_iff]; simp only [Bool.and_eq_true, decide_eq_true_eq, ANote.ext_iff, AEvent.ext_iff, and_assoc]
theorem ANote.getD (l : List ANote) (i : Nat) : (l.map ANote.row).getD i [.int .i64 0, .int .i64 0, .str []] = (l.getD i default).row := by
  rw [List.getD_eq_getElem?_getD, List.getD_eq_getElem?_getD, List.getElem?_map]; cases l[i]? <;> rfl
theorem ANote.rgetD (l : List ANote) (i : Nat) (z : List DV) (h : i < l.length) : (l.map ANote.row).getD i z = (l.getD i default).row := getD_row ANote.row l i z h
theorem ANote.rdrop (l : List ANote) (k : Nat) : List.drop 3 ((l.map ANote.row).getD k []) = [] := by
  rw [List.getD_eq_getElem?_getD, List.getElem?_map]; cases l[k]? <;> rfl
attribute [go_sem] ANote.rdrop
structure AEntry where
  path : List UInt8
  data : List UInt8
  there : Bool
instance : Inhabited AEntry := ⟨⟨[], [], false⟩⟩
theorem AEntry.ext_iff (a b : AEntry) : a = b ↔ a.path = b.path ∧ a.data = b.data ∧ a.there = b.there := by
  cases a; cases b; simp
instance : DecidableEq AEntry := fun a b => decidable_of_iff _ (AEntry.ext_iff a b).symm
def AEntry.row (x : AEntry) : List DV := [.str x.path, .str x.data, .bool x.there]
def AEntry.av (x : AEntry) : AV := .agg [.d (.str x.path), .d (.str x.data), .d (.bool x.there)]
theorem AEntry.dec (a b : AEntry) : (decide (a.path = b.path) && (decide (a.data = b.data) && decide (a.there = b.there))) = decide (a = b) := by
  rw [Bool.eq_iff_iff]; simp only [Bool.and_eq_true, decide_eq_true_eq, AEntry.ext_iff, and_assoc]
theorem AEntry.getD (l : List AEntry) (i : Nat) : (l.map AEntry.row).getD i [.str [], .str [], .bool false] = (l.getD i default).row := by
  rw [List.getD_eq_getElem?_getD, List.getD_eq_getElem?_getD, List.getElem?_map]; cases l[i]? <;> rfl
theorem AEntry.rgetD (l : List AEntry) (i : Nat) (z : List DV) (h : i < l.length) : (l.map AEntry.row).getD i z = (l.getD i default).row := getD_row AEntry.row l i z h
theorem AEntry.rdrop (l : List AEntry) (k : Nat) : List.drop 3 ((l.map AEntry.row).getD k []) = [] := by
  rw [List.getD_eq_getElem?_getD, List.getElem?_map]; cases l[k]? <;> rfl
attribute [go_sem] AEntry.rdrop
structure ARequest where
  op : Int
  session : Int
  path : List UInt8
  data : List UInt8
  version : Int
  flags : Int
instance : Inhabited ARequest := ⟨⟨0, 0, [], [], 0, 0⟩⟩
theorem ARequest.ext_iff (a b : ARequest) : a = b ↔ a.op = b.op ∧ a.session = b.session ∧ a.path = b.path ∧ a.data = b.data ∧ a.version = b.version ∧ a.flags = b.flags := by
  cases a; cases b; simp
instance : DecidableEq ARequest := fun a b => decidable_of_iff _ (ARequest.ext_iff a b).symm
def ARequest.row (x : ARequest) : List DV := [.int .i64 x.op, .int .i64 x.session, .str x.path, .str x.data, .int .i64 x.version, .int .i64 x.flags]
def ARequest.av (x : ARequest) : AV := .agg [.d (.int .i64 x.op), .d (.int .i64 x.session), .d (.str x.path), .d (.str x.data), .d (.int .i64 x.version), .d (.int .i64 x.flags)]
theorem ARequest.dec (a b : ARequest) : (decide (a.op = b.op) && (decide (a.session = b.session) && (decide (a.path = b.path) && (decide (a.data = b.data) && (decide (a.version = b.version) && decide (a.flags = b.flags)))))) = decide (a = b) := by
  rw [Bool.eq_iff_iff]; simp only [Bool.and_eq_true, decide_eq_true_eq, ARequest.ext_iff, and_assoc]
theorem ARequest.getD (l : List ARequest) (i : Nat) : (l.map ARequest.row).getD i [.int .i64 0, .int .i64 0, .str [], .str [], .int .i64 0, .int .i64 0] = (l.getD i default).row := by
  rw [List.getD_eq_getElem?_getD, List.getD_eq_getElem?_getD, List.getElem?_map]; cases l[i]? <;> rfl
theorem ARequest.rgetD (l : List ARequest) (i : Nat) (z : List DV) (h : i < l.length) : (l.map ARequest.row).getD i z = (l.getD i default).row := getD_row ARequest.row l i z h
theorem ARequest.rdrop (l : List ARequest) (k : Nat) : List.drop 6 ((l.map ARequest.row).getD k []) = [] := by
  rw [List.getD_eq_getElem?_getD, List.getElem?_map]; cases l[k]? <;> rfl
attribute [go_sem] ARequest.rdrop
structure ATree where
  zxid : Int
  nodes : List (ANode)
  sessions : List (Int)
instance : Inhabited ATree := ⟨⟨0, [], []⟩⟩
theorem ATree.ext_iff (a b : ATree) : a = b ↔ a.zxid = b.zxid ∧ a.nodes = b.nodes ∧ a.sessions = b.sessions := by
  cases a; cases b; simp
instance : DecidableEq ATree := fun a b => decidable_of_iff _ (ATree.ext_iff a b).symm
def ATree.row (x : ATree) : List DV := [.int .i64 x.zxid, .sl 9 (x.nodes.map ANode.row), .sl 1 (x.sessions.map irow)]
def ATree.av (x : ATree) : AV := .agg [.d (.int .i64 x.zxid), .d (.sl 9 (x.nodes.map ANode.row)), .d (.sl 1 (x.sessions.map irow))]
theorem ATree.rgetD (l : List ATree) (i : Nat) (z : List DV) (h : i < l.length) : (l.map ATree.row).getD i z = (l.getD i default).row := getD_row ATree.row l i z h
theorem ATree.rdrop (l : List ATree) (k : Nat) : List.drop 3 ((l.map ATree.row).getD k []) = [] := by
  rw [List.getD_eq_getElem?_getD, List.getElem?_map]; cases l[k]? <;> rfl
attribute [go_sem] ATree.rdrop
structure ADisk where
  files : List (AFile)
instance : Inhabited ADisk := ⟨⟨[]⟩⟩
theorem ADisk.ext_iff (a b : ADisk) : a = b ↔ a.files = b.files := by
  cases a; cases b; simp
instance : DecidableEq ADisk := fun a b => decidable_of_iff _ (ADisk.ext_iff a b).symm
def ADisk.row (x : ADisk) : List DV := [.sl 3 (x.files.map AFile.row)]
def ADisk.av (x : ADisk) : AV := .agg [.d (.sl 3 (x.files.map AFile.row))]
theorem ADisk.rgetD (l : List ADisk) (i : Nat) (z : List DV) (h : i < l.length) : (l.map ADisk.row).getD i z = (l.getD i default).row := getD_row ADisk.row l i z h
theorem ADisk.rdrop (l : List ADisk) (k : Nat) : List.drop 1 ((l.map ADisk.row).getD k []) = [] := by
  rw [List.getD_eq_getElem?_getD, List.getElem?_map]; cases l[k]? <;> rfl
attribute [go_sem] ADisk.rdrop
structure APeer where
  id : Int
  epoch : Int
  log : List (ATxn)
  done : Int
instance : Inhabited APeer := ⟨⟨0, 0, [], 0⟩⟩
theorem APeer.ext_iff (a b : APeer) : a = b ↔ a.id = b.id ∧ a.epoch = b.epoch ∧ a.log = b.log ∧ a.done = b.done := by
  cases a; cases b; simp
instance : DecidableEq APeer := fun a b => decidable_of_iff _ (APeer.ext_iff a b).symm
def APeer.row (x : APeer) : List DV := [.int .i64 x.id, .int .i64 x.epoch, .sl 7 (x.log.map ATxn.row), .int .i64 x.done]
def APeer.av (x : APeer) : AV := .agg [.d (.int .i64 x.id), .d (.int .i64 x.epoch), .d (.sl 7 (x.log.map ATxn.row)), .d (.int .i64 x.done)]
theorem APeer.rgetD (l : List APeer) (i : Nat) (z : List DV) (h : i < l.length) : (l.map APeer.row).getD i z = (l.getD i default).row := getD_row APeer.row l i z h
theorem APeer.rdrop (l : List APeer) (k : Nat) : List.drop 4 ((l.map APeer.row).getD k []) = [] := by
  rw [List.getD_eq_getElem?_getD, List.getElem?_map]; cases l[k]? <;> rfl
attribute [go_sem] APeer.rdrop
structure AServer where
  up : Bool
  disk : ADisk
  peer : APeer
  tree : ATree
  watches : List (AWatch)
instance : Inhabited AServer := ⟨⟨false, default, default, default, []⟩⟩
theorem AServer.ext_iff (a b : AServer) : a = b ↔ a.up = b.up ∧ a.disk = b.disk ∧ a.peer = b.peer ∧ a.tree = b.tree ∧ a.watches = b.watches := by
  cases a; cases b; simp
instance : DecidableEq AServer := fun a b => decidable_of_iff _ (AServer.ext_iff a b).symm
def AServer.row (x : AServer) : List DV := [.bool x.up, .sl 3 (x.disk.files.map AFile.row), .int .i64 x.peer.id, .int .i64 x.peer.epoch, .sl 7 (x.peer.log.map ATxn.row), .int .i64 x.peer.done, .int .i64 x.tree.zxid, .sl 9 (x.tree.nodes.map ANode.row), .sl 1 (x.tree.sessions.map irow), .sl 3 (x.watches.map AWatch.row)]
def AServer.av (x : AServer) : AV := .agg [.d (.bool x.up), .d (.sl 3 (x.disk.files.map AFile.row)), .d (.int .i64 x.peer.id), .d (.int .i64 x.peer.epoch), .d (.sl 7 (x.peer.log.map ATxn.row)), .d (.int .i64 x.peer.done), .d (.int .i64 x.tree.zxid), .d (.sl 9 (x.tree.nodes.map ANode.row)), .d (.sl 1 (x.tree.sessions.map irow)), .d (.sl 3 (x.watches.map AWatch.row))]
theorem AServer.rgetD (l : List AServer) (i : Nat) (z : List DV) (h : i < l.length) : (l.map AServer.row).getD i z = (l.getD i default).row := getD_row AServer.row l i z h
theorem AServer.rdrop (l : List AServer) (k : Nat) : List.drop 10 ((l.map AServer.row).getD k []) = [] := by
  rw [List.getD_eq_getElem?_getD, List.getElem?_map]; cases l[k]? <;> rfl
attribute [go_sem] AServer.rdrop
structure AClient where
  session : Int
  seen : Int
  cache : List (AEntry)
instance : Inhabited AClient := ⟨⟨0, 0, []⟩⟩
theorem AClient.ext_iff (a b : AClient) : a = b ↔ a.session = b.session ∧ a.seen = b.seen ∧ a.cache = b.cache := by
  cases a; cases b; simp
instance : DecidableEq AClient := fun a b => decidable_of_iff _ (AClient.ext_iff a b).symm
def AClient.row (x : AClient) : List DV := [.int .i64 x.session, .int .i64 x.seen, .sl 3 (x.cache.map AEntry.row)]
def AClient.av (x : AClient) : AV := .agg [.d (.int .i64 x.session), .d (.int .i64 x.seen), .d (.sl 3 (x.cache.map AEntry.row))]
theorem AClient.rgetD (l : List AClient) (i : Nat) (z : List DV) (h : i < l.length) : (l.map AClient.row).getD i z = (l.getD i default).row := getD_row AClient.row l i z h
theorem AClient.rdrop (l : List AClient) (k : Nat) : List.drop 3 ((l.map AClient.row).getD k []) = [] := by
  rw [List.getD_eq_getElem?_getD, List.getElem?_map]; cases l[k]? <;> rfl
attribute [go_sem] AClient.rdrop
structure ADeed where
  kind : Int
  client : Int
  server : Int
  request : ARequest
  lost : Int
  slow : Int
  keep : Int
  watch : Bool
instance : Inhabited ADeed := ⟨⟨0, 0, 0, default, 0, 0, 0, false⟩⟩
theorem ADeed.ext_iff (a b : ADeed) : a = b ↔ a.kind = b.kind ∧ a.client = b.client ∧ a.server = b.server ∧ a.request = b.request ∧ a.lost = b.lost ∧ a.slow = b.slow ∧ a.keep = b.keep ∧ a.watch = b.watch := by
  cases a; cases b; simp
instance : DecidableEq ADeed := fun a b => decidable_of_iff _ (ADeed.ext_iff a b).symm
def ADeed.row (x : ADeed) : List DV := [.int .i64 x.kind, .int .i64 x.client, .int .i64 x.server, .int .i64 x.request.op, .int .i64 x.request.session, .str x.request.path, .str x.request.data, .int .i64 x.request.version, .int .i64 x.request.flags, .int .i64 x.lost, .int .i64 x.slow, .int .i64 x.keep, .bool x.watch]
def ADeed.av (x : ADeed) : AV := .agg [.d (.int .i64 x.kind), .d (.int .i64 x.client), .d (.int .i64 x.server), .d (.int .i64 x.request.op), .d (.int .i64 x.request.session), .d (.str x.request.path), .d (.str x.request.data), .d (.int .i64 x.request.version), .d (.int .i64 x.request.flags), .d (.int .i64 x.lost), .d (.int .i64 x.slow), .d (.int .i64 x.keep), .d (.bool x.watch)]
theorem ADeed.dec (a b : ADeed) : (decide (a.kind = b.kind) && (decide (a.client = b.client) && (decide (a.server = b.server) && (decide (a.request.op = b.request.op) && (decide (a.request.session = b.request.session) && (decide (a.request.path = b.request.path) && (decide (a.request.data = b.request.data) && (decide (a.request.version = b.request.version) && (decide (a.request.flags = b.request.flags) && (decide (a.lost = b.lost) && (decide (a.slow = b.slow) && (decide (a.keep = b.keep) && decide (a.watch = b.watch))))))))))))) = decide (a = b) := by
  rw [Bool.eq_iff_iff]; simp only [Bool.and_eq_true, decide_eq_true_eq, ADeed.ext_iff, ARequest.ext_iff, and_assoc]
theorem ADeed.getD (l : List ADeed) (i : Nat) : (l.map ADeed.row).getD i [.int .i64 0, .int .i64 0, .int .i64 0, .int .i64 0, .int .i64 0, .str [], .str [], .int .i64 0, .int .i64 0, .int .i64 0, .int .i64 0, .int .i64 0, .bool false] = (l.getD i default).row := by
  rw [List.getD_eq_getElem?_getD, List.getD_eq_getElem?_getD, List.getElem?_map]; cases l[i]? <;> rfl
theorem ADeed.rgetD (l : List ADeed) (i : Nat) (z : List DV) (h : i < l.length) : (l.map ADeed.row).getD i z = (l.getD i default).row := getD_row ADeed.row l i z h
theorem ADeed.rdrop (l : List ADeed) (k : Nat) : List.drop 13 ((l.map ADeed.row).getD k []) = [] := by
  rw [List.getD_eq_getElem?_getD, List.getElem?_map]; cases l[k]? <;> rfl
attribute [go_sem] ADeed.rdrop
structure AReply where
  code : Int
  zxid : Int
  path : List UInt8
  data : List UInt8
  stat : AStat
  notes : List (ANote)
instance : Inhabited AReply := ⟨⟨0, 0, [], [], default, []⟩⟩
theorem AReply.ext_iff (a b : AReply) : a = b ↔ a.code = b.code ∧ a.zxid = b.zxid ∧ a.path = b.path ∧ a.data = b.data ∧ a.stat = b.stat ∧ a.notes = b.notes := by
  cases a; cases b; simp
instance : DecidableEq AReply := fun a b => decidable_of_iff _ (AReply.ext_iff a b).symm
def AReply.row (x : AReply) : List DV := [.int .i64 x.code, .int .i64 x.zxid, .str x.path, .str x.data, .int .i64 x.stat.czxid, .int .i64 x.stat.mzxid, .int .i64 x.stat.pzxid, .int .i64 x.stat.version, .int .i64 x.stat.cversion, .int .i64 x.stat.owner, .int .i64 x.stat.kids, .sl 3 (x.notes.map ANote.row)]
def AReply.av (x : AReply) : AV := .agg [.d (.int .i64 x.code), .d (.int .i64 x.zxid), .d (.str x.path), .d (.str x.data), .d (.int .i64 x.stat.czxid), .d (.int .i64 x.stat.mzxid), .d (.int .i64 x.stat.pzxid), .d (.int .i64 x.stat.version), .d (.int .i64 x.stat.cversion), .d (.int .i64 x.stat.owner), .d (.int .i64 x.stat.kids), .d (.sl 3 (x.notes.map ANote.row))]
theorem AReply.rgetD (l : List AReply) (i : Nat) (z : List DV) (h : i < l.length) : (l.map AReply.row).getD i z = (l.getD i default).row := getD_row AReply.row l i z h
theorem AReply.rdrop (l : List AReply) (k : Nat) : List.drop 12 ((l.map AReply.row).getD k []) = [] := by
  rw [List.getD_eq_getElem?_getD, List.getElem?_map]; cases l[k]? <;> rfl
attribute [go_sem] AReply.rdrop
def okS (s : List UInt8) : Prop := s.length ≤ 140737488351232
theorem wf_okI {n : Int} (h : (Lit.int .i64 n).wf = true) : okI n := by
  simp only [Lit.wf, Bool.and_eq_true, decide_eq_true_eq] at h
  have h1 : IntKind.i64.min = -9223372036854775808 := rfl
  have h2 : IntKind.i64.max = 9223372036854775807 := rfl
  rw [h1, h2] at h; exact h
def ATxn.wf (x : ATxn) : Prop := okI x.zxid ∧ okI x.op ∧ okI x.session ∧ okS x.path ∧ okS x.data ∧ okI x.version ∧ okI x.owner
def AStat.wf (x : AStat) : Prop := okI x.czxid ∧ okI x.mzxid ∧ okI x.pzxid ∧ okI x.version ∧ okI x.cversion ∧ okI x.owner ∧ okI x.kids
def ANode.wf (x : ANode) : Prop := okS x.path ∧ okS x.data ∧ x.stat.wf
def AFile.wf (x : AFile) : Prop := okS x.name ∧ okS x.safe ∧ okS x.tail
def AWatch.wf (x : AWatch) : Prop := okI x.session ∧ okI x.kind ∧ okS x.path
def AEvent.wf (x : AEvent) : Prop := okI x.kind ∧ okS x.path
def ANote.wf (x : ANote) : Prop := okI x.session ∧ x.event.wf
def AEntry.wf (x : AEntry) : Prop := okS x.path ∧ okS x.data ∧ True
def ARequest.wf (x : ARequest) : Prop := okI x.op ∧ okI x.session ∧ okS x.path ∧ okS x.data ∧ okI x.version ∧ okI x.flags
def ATree.wf (x : ATree) : Prop := okI x.zxid ∧ (x.nodes.length * 88 ≤ 140737488351232 ∧ ∀ y : ANode, y ∈ x.nodes → y.wf) ∧ (x.sessions.length * 8 ≤ 140737488351232 ∧ ∀ y : Int, y ∈ x.sessions → okI y)
def ADisk.wf (x : ADisk) : Prop := (x.files.length * 48 ≤ 140737488351232 ∧ ∀ y : AFile, y ∈ x.files → y.wf)
def APeer.wf (x : APeer) : Prop := okI x.id ∧ okI x.epoch ∧ (x.log.length * 72 ≤ 140737488351232 ∧ ∀ y : ATxn, y ∈ x.log → y.wf) ∧ okI x.done
def AServer.wf (x : AServer) : Prop := True ∧ x.disk.wf ∧ x.peer.wf ∧ x.tree.wf ∧ (x.watches.length * 32 ≤ 140737488351232 ∧ ∀ y : AWatch, y ∈ x.watches → y.wf)
def AClient.wf (x : AClient) : Prop := okI x.session ∧ okI x.seen ∧ (x.cache.length * 40 ≤ 140737488351232 ∧ ∀ y : AEntry, y ∈ x.cache → y.wf)
def ADeed.wf (x : ADeed) : Prop := okI x.kind ∧ okI x.client ∧ okI x.server ∧ x.request.wf ∧ okI x.lost ∧ okI x.slow ∧ okI x.keep ∧ True
def AReply.wf (x : AReply) : Prop := okI x.code ∧ okI x.zxid ∧ okS x.path ∧ okS x.data ∧ x.stat.wf ∧ (x.notes.length * 32 ≤ 140737488351232 ∧ ∀ y : ANote, y ∈ x.notes → y.wf)
attribute [go_sem] zl irow srow u8row irow_getD srow_getD u8row_getD ATxn.row ATxn.av AStat.row AStat.av ANode.row ANode.av AFile.row AFile.av AWatch.row AWatch.av AEvent.row AEvent.av ANote.row ANote.av AEntry.row AEntry.av ARequest.row ARequest.av ATree.row ATree.av ADisk.row ADisk.av APeer.row APeer.av AServer.row AServer.av AClient.row AClient.av ADeed.row ADeed.av AReply.row AReply.av ATxn.dec ATxn.getD AStat.dec AStat.getD ANode.dec ANode.getD AFile.dec AFile.getD AWatch.dec AWatch.getD AEvent.dec AEvent.getD ANote.dec ANote.getD AEntry.dec AEntry.getD ARequest.dec ARequest.getD ADeed.dec ADeed.getD
attribute [go_sem] List.length_map List.length_take List.length_drop
end Go.Proofs.YtainmipdnjcbkaaGreatDoor
namespace Go.Proofs.YtainmipdnjcbkaaGreatDoor
set_option linter.unusedVariables false
set_option linter.unusedSimpArgs false
open Go
end Go.Proofs.YtainmipdnjcbkaaGreatDoor
namespace Go.Proofs.YtainmipdnjcbkaaGreatDoor
set_option linter.unusedVariables false
set_option linter.unusedSimpArgs false
open Go Go.RowKit
class AR (G : Prop) (H : outParam Prop) : Prop where
  f : H → G
section
variable {P : Program} {s : ASt} {Q : Exit → ASt → Prop} {x y : Code} {N : ASt → Prop} {id i : Nat}
instance : AR (AWP P (.seq x y) s Q) (AWP P x s (thenA (fun s' => AWP P y s' Q) Q)) := ⟨AWP.seq⟩
instance : AR (thenA N Q .normal s) (N s) := ⟨thenA_n⟩
instance : AR (thenA N Q .ret s) (Q .ret s) := ⟨thenA_r⟩
instance : AR (thenA N Q (.exit i) s) (Q (.exit i) s) := ⟨thenA_e⟩
instance : AR (blkA id N Q .normal s) (N s) := ⟨blkA_n⟩
instance : AR (blkA id N Q .ret s) (Q .ret s) := ⟨blkA_r⟩
instance : AR (blkA id N Q (.exit id) s) (N s) := ⟨blkA_e⟩
instance : AR (AWP P .skip s Q) (Q .normal s) := ⟨AWP.skip⟩
instance : AR (AWP P .ret s Q) (Q .ret s) := ⟨AWP.ret⟩
instance : AR (AWP P (.exit i) s Q) (Q (.exit i) s) := ⟨AWP.exit⟩
instance : AR (AWP P (.block id x) s Q) (AWP P x s (blkA id (Q .normal) Q)) := ⟨AWP.block⟩
end
class CK (G : Prop) (P : outParam Program) (hp : outParam (List ABlk)) (g : outParam FuncId) (xs : outParam (List AV)) (x : AV) (H : outParam Prop) : Prop where
  sc : ∀ {ys : List AV} {u0 : Value}, acall P [] g ys (ret x) → frzL hp xs = ys → scalV x = some u0 → frzOks hp xs → noIds ys → H → G
  cx : ∀ {ys : List AV} {u0 : Value}, acall P [] g ys (ret x) → scalV x = some u0 → coeL (frzL hp xs) ys ∧ frzOks hp xs ∧ noIds (frzL hp xs) → H → G
section
variable {P : Program} {hp : List ABlk} {g : FuncId} {xs : List AV} {x : AV} {np : Nat}
instance {K : AV → List ABlk → Prop} {t : Tok K} : CK (acallHK P np hp g xs K t) P hp g xs x (K x hp) := ⟨fun c a b d e h => acallH_sc c a b d e h, fun c a b h => acallH_scx c a b h⟩
instance {K : AV → Prop} {t : Tok K} : CK (acallQK P hp g xs K t) P hp g xs x (K x) := ⟨fun c a b d e h => acallQ_sc c a b d e h, fun c a b h => acallQ_scx c a b h⟩
end
section
variable {G H : Prop} {P : Program} {hp : List ABlk} {g : FuncId} {xs ys : List AV} {x : AV} {u0 : Value}
theorem zA (c : acall P [] g ys (ret x)) [k : CK G P hp g xs x H] (a : frzL hp xs = ys) (b : (scalV x).isSome = true) (d : frzOks hp xs) (e : noIds ys) (h : H) : G := by
  obtain ⟨u, hu⟩ := Option.isSome_iff_exists.1 b
  exact k.sc c a hu d e h
theorem zX (c : acall P [] g ys (ret x)) [k : CK G P hp g xs x H] (b : scalV x = some u0) (d : coeL (frzL hp xs) ys ∧ frzOks hp xs ∧ noIds (frzL hp xs)) (h : H) : G := k.cx c b d h
end
section
variable {s : ASt} {Q : Exit → ASt → Prop} {id : Nat} {l : List Oper}
theorem zR (h : ∀ K : ASt → Prop, (∀ s', Q .normal s' → K s') → aops Tryz.prog T l.toArray K l s) : AWP Tryz.prog (.region id l.toArray false) s Q := AWP.region tabOk h
theorem zQ (hB : (calm l.toArray && Region.lexB .any l.toArray) = true) (h : ∀ K : ASt → Prop, (∀ s', Q .normal s' → K s') → aopsQ Tryz.prog T l.toArray K l s) : AWP Tryz.prog (.region id l.toArray true) s Q := AWP.quietC mixed tabOk hB h
theorem zD (hB : drawB l.toArray = true) (h : ∀ K : ASt → Prop, (∀ s', Q .normal s' → K s') → aopsD Tryz.prog T l.toArray K l s) : AWP Tryz.prog (.region id l.toArray true) s Q := AWP.draw mixed tabOk hB h
theorem zE (hB : drawE l.toArray = true) (h : ∀ K : ASt → Prop, (∀ s', Q .normal s' → K s') → aopsD Tryz.prog T l.toArray K (inOrd l) s) : AWP Tryz.prog (.region id l.toArray true) s Q := AWP.drawE mixed tabOk hB h
theorem zG (hB : growB T l.toArray = true) (h : ∀ K : ASt → Prop, (∀ s', Q .normal s' → K s') → aopsG Tryz.prog T l.toArray K (inOrdG l) s) : AWP Tryz.prog (.region id l.toArray true) s Q := AWP.drawG mixed tabOk hB h
end
theorem zN {P : Program} {g : FuncId} {xs ys : List AV} {x : AV} {hp bl : List ABlk} {np : Nat} {K : AV → List ABlk → Prop} {t : Tok K} (c : acall P [] g ys (fun v h => v = x ∧ h = bl)) (e : xs = ys) (h : idsL xs = [] ∧ frzL hp xs = xs ∧ frzOks hp xs ∧ noIds xs)
    (hK : K (renV (renm [] hp.length) x) (hp ++ renBs (renm [] hp.length) bl)) : acallHK P np hp g xs K t := acallH_anyr c e h hK
class ER (e : Exit) : Prop where
  h : e = .ret ∨ e = .normal
instance : ER .ret := ⟨.inl rfl⟩
instance : ER .normal := ⟨.inr rfl⟩
theorem zF {T : TypeId → TI} {s : ASt} {rs : List ResultVar} {x : AV} {e : Exit} [k : ER e] (h0 : s.np = 0) (h1 : (aresL T s rs).1)
    (h2 : frzOk s.hp (tupOf (aresL T s rs).2)) (h3 : noId (frzV s.hp (tupOf (aresL T s rs).2))) (hR : coeV (frzV s.hp (tupOf (aresL T s rs).2)) x) : aend T rs (ret x) e s := aend_retc k.h h0 h1 h2 h3 hR
theorem zY {P : Program} {g : FuncId} {xs ys : List AV} {x : AV} {hp bl : List ABlk} {np : Nat} {K : AV → List ABlk → Prop} {t : Tok K} (c : acall P [] g ys (fun v h => v = x ∧ h = bl)) (h : (np = 0 ∨ idsL xs = []) ∧ coeL (frzL hp xs) ys ∧ frzOks hp xs ∧ noIds (frzL hp xs))
    (hK : K (renV (renm [] (killIds (idsL xs) hp).length) x) (killIds (idsL xs) hp ++ renBs (renm [] (killIds (idsL xs) hp).length) bl)) : acallHK P np hp g xs K t := zy c h hK
theorem zI {g : FuncId} {fn : Func} {c : Code} (hf : Tryz.prog.funcs[g]? = some fn) (hb : fn.body = some c) (hn : (fn.name == "runtime.NumGoroutine") = false)
    {hp : List ABlk} {xs : List AV} {R : AV → List ABlk → Prop} (hx : xs.length ≤ fn.ntmps)
    (h : AWP Tryz.prog c { np := hp.length, nt := fn.ntmps, env := apar 0 xs, hp := hp } (aend T fn.results.toList R)) : acall Tryz.prog hp g xs R := zi tabOk hf hb hn hx h
theorem zj : (∀ a b, (AV.d a = AV.d b) = (a = b)) ∧ (∀ k n k' n', (DV.int k n = DV.int k' n') = (k = k' ∧ n = n')) ∧ (∀ a b, (DV.bool a = DV.bool b) = (a = b)) ∧ (∀ a b, (DV.str a = DV.str b) = (a = b)) ∧ (∀ k n k' n', (DV.sl k n = DV.sl k' n') = (k = k' ∧ n = n')) ∧
    (∀ a b, (AV.tup a = AV.tup b) = (a = b)) ∧ (∀ a b, (AV.agg a = AV.agg b) = (a = b)) ∧ (∀ a b c d a' b' c' d', (AV.osl a b c d = AV.osl a' b' c' d') = (a = a' ∧ b = b' ∧ c = c' ∧ d = d')) ∧ (∀ a b a' b', (AV.ptr a b = AV.ptr a' b') = (a = a' ∧ b = b')) ∧
    (∀ a b c d a' b' c' d', (AV.rp a b c d = AV.rp a' b' c' d') = (a = a' ∧ b = b' ∧ c = c' ∧ d = d')) ∧ (∀ (a b : AV) l m, (a :: l = b :: m) = (a = b ∧ l = m)) ∧ (∀ (a b : DV) l m, (a :: l = b :: m) = (a = b ∧ l = m)) ∧ (∀ (a b : List DV) l m, (a :: l = b :: m) = (a = b ∧ l = m)) ∧ (∀ p : Prop, (p ∧ p) = p) := by simp
end Go.Proofs.YtainmipdnjcbkaaGreatDoor
namespace Go.Proofs.YtainmipdnjcbkaaGreatDoor
set_option linter.unusedVariables false
set_option linter.unusedSimpArgs false
open Go Go.RowKit
theorem ty_struct {m : Nat} {t : TypeId} {cs : List DV} {fs : List (Nat × Nat × TypeId)} (hk : (T t).kind = .struct fs) (h : typed T (m + 1) t cs) : typedF (typed T m) fs cs := by
  simp only [typed, hk] at h; exact h
theorem ty_int {m : Nat} {t : TypeId} {cs : List DV} (hk : (T t).kind = .int .i64) (h : typed T (m + 1) t cs) : ∃ n, cs = [.int .i64 n] ∧ okI n := by
  simp only [typed, hk] at h
  obtain ⟨n, rfl, h⟩ := h
  exact ⟨n, rfl, wf_okI h⟩
theorem ty_str {m : Nat} {t : TypeId} {cs : List DV} (hk : (T t).kind = .str) (h : typed T (m + 1) t cs) : ∃ n, cs = [.str n] ∧ okS n := by
  simp only [typed, hk] at h
  exact h
theorem ty_bool {m : Nat} {t : TypeId} {cs : List DV} (hk : (T t).kind = .bool) (h : typed T (m + 1) t cs) : ∃ b, cs = [.bool b] := by
  simp only [typed, hk] at h
  exact h
theorem ARequest_typed {m : Nat} {cs : List DV} (h : typed T (m + 2) 50 cs) : ∃ x : ARequest, cs = x.row ∧ x.wf := by
  have h := ty_struct (m := m + 1) (by simp only [T_50, ty50]; rfl) h
  simp only [typedF] at h
  obtain ⟨a0, b0, e0, h0, a1, b1, e1, h1, a2, b2, e2, h2, a3, b3, e3, h3, a4, b4, e4, h4, a5, b5, e5, h5, e⟩ := h
  subst e
  obtain ⟨x0, rfl, w0⟩ := ty_int (m := m) (by simp only [T_3, ty3]) h0
  obtain ⟨x1, rfl, w1⟩ := ty_int (m := m) (by simp only [T_3, ty3]) h1
  obtain ⟨x2, rfl, w2⟩ := ty_str (m := m) (by simp only [T_9, ty9]) h2
  obtain ⟨x3, rfl, w3⟩ := ty_str (m := m) (by simp only [T_9, ty9]) h3
  obtain ⟨x4, rfl, w4⟩ := ty_int (m := m) (by simp only [T_3, ty3]) h4
  obtain ⟨x5, rfl, w5⟩ := ty_int (m := m) (by simp only [T_3, ty3]) h5
  subst e5 e4 e3 e2 e1 e0
  exact ⟨⟨x0, x1, x2, x3, x4, x5⟩, rfl, ⟨w0, w1, w2, w3, w4, w5⟩⟩
theorem ADeed_typed {m : Nat} {cs : List DV} (h : typed T (m + 3) 52 cs) : ∃ x : ADeed, cs = x.row ∧ x.wf := by
  have h := ty_struct (m := m + 2) (by simp only [T_52, ty52]; rfl) h
  simp only [typedF] at h
  obtain ⟨a0, b0, e0, h0, a1, b1, e1, h1, a2, b2, e2, h2, a3, b3, e3, h3, a4, b4, e4, h4, a5, b5, e5, h5, a6, b6, e6, h6, a7, b7, e7, h7, e⟩ := h
  subst e
  obtain ⟨x0, rfl, w0⟩ := ty_int (m := m + 1) (by simp only [T_3, ty3]) h0
  obtain ⟨x1, rfl, w1⟩ := ty_int (m := m + 1) (by simp only [T_3, ty3]) h1
  obtain ⟨x2, rfl, w2⟩ := ty_int (m := m + 1) (by simp only [T_3, ty3]) h2
  obtain ⟨x3, rfl, w3⟩ := ARequest_typed (m := m) h3
  obtain ⟨x4, rfl, w4⟩ := ty_int (m := m + 1) (by simp only [T_3, ty3]) h4
  obtain ⟨x5, rfl, w5⟩ := ty_int (m := m + 1) (by simp only [T_3, ty3]) h5
  obtain ⟨x6, rfl, w6⟩ := ty_int (m := m + 1) (by simp only [T_3, ty3]) h6
  obtain ⟨x7, rfl⟩ := ty_bool (m := m + 1) (by simp only [T_4, ty4]) h7
  subst e7 e6 e5 e4 e3 e2 e1 e0
  exact ⟨⟨x0, x1, x2, x3, x4, x5, x6, x7⟩, rfl, ⟨w0, w1, w2, w3, w4, w5, w6, trivial⟩⟩
end Go.Proofs.YtainmipdnjcbkaaGreatDoor
namespace Go.Proofs.YtainmipdnjcbkaaGreatDoor
set_option linter.unusedVariables false
set_option linter.unusedSimpArgs false
open Go
theorem SImp.tail (k n : Nat) {np nt : Nat} {env : List (Nat × AV)} {hp : List ABlk} {sz : Nat} {rs : List (List DV)} (hk : hp[k]? = some (.rows sz rs)) :
    SImp { np := np, nt := nt, env := env, hp := hp } { np := np, nt := nt, env := env, hp := hp.set k (.rows sz (rs.take n)) } := by
  intro E ρ a w h
  have hl := h.heap.len
  simp only at hl
  have hkl : k < hp.length := (List.getElem?_eq_some_iff.1 hk).1
  obtain ⟨p, hkp⟩ : ∃ p, ρ[k]? = some p := ⟨ρ[k]'(by omega), List.getElem?_eq_getElem (by omega)⟩
  cases p with
  | none =>
    rcases h.heap.nil k _ hk hkp with e | ⟨sz', e⟩
    · cases e
    · injection e with e1 e2
      subst e2
      have e3 : hp.set k (.rows sz (List.take n [])) = hp := by
        apply List.ext_getElem?
        intro j
        rw [List.getElem?_set]
        split
        · rename_i e; subst e; rw [hk]; first | rfl | simp | (rw [if_pos hkl]; simp)
        · rfl
      rw [e3]
      exact ⟨ρ, h⟩
  | some bm =>
    obtain ⟨b, m⟩ := bm
    have hst := HStep.redo (x' := .rows sz (rs.take n)) h.heap hk (by simp) (by simp) hkp (by simp) fun us ty fz hw hm ⟨h1, h2, h3, h4⟩ => by
      refine ⟨h1, fun r hr => h2 r (List.mem_of_mem_take hr), Nat.le_trans (Nat.mul_le_mul_right _ (by rw [List.length_take]; omega)) h3, fun i r hi j c u hj hu => ?_⟩
      rw [List.getElem?_take] at hi
      split at hi
      · exact h4 i r hi j c u hj hu
      · cases hi
    exact ⟨_, h.step hst⟩
end Go.Proofs.YtainmipdnjcbkaaGreatDoor
namespace Go.Proofs.YtainmipdnjcbkaaGreatDoor
set_option linter.unusedVariables false
set_option linter.unusedSimpArgs false
open Go Go.RowKit
set_option maxRecDepth 100000
set_option linter.unusedSimpArgs false
end Go.Proofs.YtainmipdnjcbkaaGreatDoor
namespace Go.Proofs.YtainmipdnjcbkaaGreatDoor
set_option linter.unusedVariables false
set_option linter.unusedSimpArgs false
open Go Go.RowKit
set_option maxRecDepth 100000
set_option linter.unusedSimpArgs false
structure CW where
  s : Nat → AServer
  c : Nat → AClient
  leader : Int
  f : Nat → Bool
  n : Nat
  deeds : Int
namespace CW
def setS (v : CW) (i : Nat) (x : AServer) : CW := { v with s := fun j => if j = i then x else v.s j }
def setC (v : CW) (i : Nat) (x : AClient) : CW := { v with c := fun j => if j = i then x else v.c j }
def setF (v : CW) (i : Nat) (b : Bool) : CW := { v with f := fun j => if j = i then b else v.f j }
def setL (v : CW) (l : Int) : CW := { v with leader := l }
def setD (v : CW) (d : Int) : CW := { v with deeds := d }
def setN (v : CW) (n : Nat) : CW := { v with n := n }
def noF (v : CW) : CW := { v with f := fun _ => false }
end CW
def svC (s : AServer) : List AV := [.d (.bool s.up), .d (.sl 3 (s.disk.files.map AFile.row)), I s.peer.id, I s.peer.epoch, .d (.sl 7 (s.peer.log.map ATxn.row)), I s.peer.done, I s.tree.zxid, .d (.sl 9 (s.tree.nodes.map ANode.row)), .d (.sl 1 (s.tree.sessions.map irow)), .d (.sl 3 (s.watches.map AWatch.row))]
def clC (c : AClient) : List AV := [I c.session, I c.seen, .d (.sl 3 (c.cache.map AEntry.row))]
def wC (v : CW) (k : Nat) : List AV := svC (v.s 0) ++ (svC (v.s 1) ++ (svC (v.s 2) ++ (clC (v.c 0) ++ (clC (v.c 1) ++ (clC (v.c 2) ++ (clC (v.c 3) ++ (clC (v.c 4) ++ (clC (v.c 5) ++ (clC (v.c 6) ++ (clC (v.c 7) ++ (clC (v.c 8) ++ (clC (v.c 9) ++ (clC (v.c 10) ++ (clC (v.c 11) ++ (clC (v.c 12) ++ (clC (v.c 13) ++ (clC (v.c 14) ++ (clC (v.c 15) ++ [I v.leader, B (v.f 0), B (v.f 1), B (v.f 2), .osl k 7 0 v.n, I v.deeds]))))))))))))))))))
theorem wC_len (v : CW) (k : Nat) : (wC v k).length = 84 := by
  rfl
theorem cgL (v : CW) (k : Nat) : (wC v k).getD 78 .any = I v.leader := by
  rfl
theorem cgDe (v : CW) (k : Nat) : (wC v k).getD 83 .any = I v.deeds := by
  rfl
theorem cgN (v : CW) (k : Nat) : (wC v k).getD 82 .any = .osl k 7 0 v.n := by
  rfl
theorem cgF (v : CW) (k i : Nat) (h : i < 3) : (wC v k).getD (79 + i) .any = B (v.f i) := by
  rcases i with _ | _ | _ | i <;> first | rfl | omega
theorem cgUp (v : CW) (k i : Nat) (h : i < 3) : (wC v k).getD (i * 10) .any = B (v.s i).up := by
  rcases i with _ | _ | _ | i <;> first | rfl | omega
theorem cgDisk (v : CW) (k i : Nat) (h : i < 3) : ((wC v k).drop (i * 10 + 1)).take 1 = [.d (.sl 3 ((v.s i).disk.files.map AFile.row))] := by
  rcases i with _ | _ | _ | i <;> first | rfl | omega
theorem cgPeer (v : CW) (k i : Nat) (h : i < 3) : ((wC v k).drop (i * 10 + 2)).take 4 = [I (v.s i).peer.id, I (v.s i).peer.epoch, .d (.sl 7 ((v.s i).peer.log.map ATxn.row)), I (v.s i).peer.done] := by
  rcases i with _ | _ | _ | i <;> first | rfl | omega
theorem cgLog (v : CW) (k i : Nat) (h : i < 3) : (wC v k).getD (i * 10 + 4) .any = .d (.sl 7 ((v.s i).peer.log.map ATxn.row)) := by
  rcases i with _ | _ | _ | i <;> first | rfl | omega
theorem cgTree (v : CW) (k i : Nat) (h : i < 3) : ((wC v k).drop (i * 10 + 6)).take 3 = [I (v.s i).tree.zxid, .d (.sl 9 ((v.s i).tree.nodes.map ANode.row)), .d (.sl 1 ((v.s i).tree.sessions.map irow))] := by
  rcases i with _ | _ | _ | i <;> first | rfl | omega
theorem cgTz (v : CW) (k i : Nat) (h : i < 3) : (wC v k).getD (i * 10 + 6) .any = I (v.s i).tree.zxid := by
  rcases i with _ | _ | _ | i <;> first | rfl | omega
theorem cgWat (v : CW) (k i : Nat) (h : i < 3) : (wC v k).getD (i * 10 + 9) .any = .d (.sl 3 ((v.s i).watches.map AWatch.row)) := by
  rcases i with _ | _ | _ | i <;> first | rfl | omega
theorem cgSv (v : CW) (k i : Nat) (h : i < 3) : ((wC v k).drop (i * 10)).take 10 = [.d (.bool (v.s i).up), .d (.sl 3 ((v.s i).disk.files.map AFile.row)), I (v.s i).peer.id, I (v.s i).peer.epoch, .d (.sl 7 ((v.s i).peer.log.map ATxn.row)), I (v.s i).peer.done, I (v.s i).tree.zxid, .d (.sl 9 ((v.s i).tree.nodes.map ANode.row)), .d (.sl 1 ((v.s i).tree.sessions.map irow)), .d (.sl 3 ((v.s i).watches.map AWatch.row))] := by
  rcases i with _ | _ | _ | i <;> first | rfl | omega
theorem cgCl (v : CW) (k i : Nat) (h : i < 16) : ((wC v k).drop (30 + i * 3)).take 3 = [I (v.c i).session, I (v.c i).seen, .d (.sl 3 ((v.c i).cache.map AEntry.row))] := by
  rcases i with _ | _ | _ | _ | _ | _ | _ | _ | _ | _ | _ | _ | _ | _ | _ | _ | i <;> first | rfl | omega
theorem cgSes (v : CW) (k i : Nat) (h : i < 16) : (wC v k).getD (30 + i * 3) .any = I (v.c i).session := by
  rcases i with _ | _ | _ | _ | _ | _ | _ | _ | _ | _ | _ | _ | _ | _ | _ | _ | i <;> first | rfl | omega
theorem csL (v : CW) (k : Nat) : ∀ l : Int, (wC v k).set 78 (I l) = wC (v.setL l) k := by
  intro l; rfl
theorem csDe (v : CW) (k : Nat) : ∀ l : Int, (wC v k).set 83 (I l) = wC (v.setD l) k := by
  intro l; rfl
theorem csN (v : CW) (k : Nat) : ∀ q n : Nat, (wC v k).set 82 (.osl q 7 0 n) = wC (v.setN n) q := by
  intro q n; rfl
theorem csF (v : CW) (k i : Nat) (h : i < 3) : ∀ b : Bool, (wC v k).set (79 + i) (B b) = wC (v.setF i b) k := by
  intro b; rcases i with _ | _ | _ | i <;> first | rfl | omega
theorem csFs (v : CW) (k : Nat) : spl (wC v k) [B false, B false, B false] 79 = wC v.noF k := by
  rfl
theorem csWat (v : CW) (k i : Nat) (h : i < 3) : ∀ l : List AWatch, (wC v k).set (i * 10 + 9) (.d (.sl 3 (l.map AWatch.row))) = wC (v.setS i ⟨(v.s i).up, (v.s i).disk, (v.s i).peer, (v.s i).tree, l⟩) k := by
  intro l; rcases i with _ | _ | _ | i <;> first | rfl | omega
theorem csSv (v : CW) (k i : Nat) (h : i < 3) : ∀ x : AServer, spl (wC v k) (svC x) (i * 10) = wC (v.setS i x) k := by
  intro x; rcases i with _ | _ | _ | i <;> first | rfl | omega
theorem csCl (v : CW) (k i : Nat) (h : i < 16) : ∀ x : AClient, spl (wC v k) (clC x) (30 + i * 3) = wC (v.setC i x) k := by
  intro x; rcases i with _ | _ | _ | _ | _ | _ | _ | _ | _ | _ | _ | _ | _ | _ | _ | _ | i <;> first | rfl | omega
theorem cwS_same (v : CW) (i : Nat) (x : AServer) : (v.setS i x).s i = x := if_pos rfl
theorem cwC_same (v : CW) (i : Nat) (x : AClient) : (v.setC i x).c i = x := if_pos rfl
theorem cwF_same (v : CW) (i : Nat) (x : Bool) : (v.setF i x).f i = x := if_pos rfl
theorem cgSvA (v : CW) (k i : Nat) (h : i < 3) : List.take 10 (List.drop (i * 10) (List.take 30 (wC v k))) = [.d (.bool (v.s i).up), .d (.sl 3 ((v.s i).disk.files.map AFile.row)), I (v.s i).peer.id, I (v.s i).peer.epoch, .d (.sl 7 ((v.s i).peer.log.map ATxn.row)), I (v.s i).peer.done, I (v.s i).tree.zxid, .d (.sl 9 ((v.s i).tree.nodes.map ANode.row)), .d (.sl 1 ((v.s i).tree.sessions.map irow)), .d (.sl 3 ((v.s i).watches.map AWatch.row))] := by
  rcases i with _ | _ | _ | i <;> first | rfl | omega
theorem cwCl (v : CW) (k i : Nat) (h : i < 16) (a b : Int) (l : List AEntry) : (wC v k).take (30 + i * 3) ++ [.d (.int .i64 a), .d (.int .i64 b), .d (.sl 3 (l.map AEntry.row))] ++ (wC v k).drop (30 + i * 3 + 3) = wC (v.setC i ⟨a, b, l⟩) k := csCl v k i h ⟨a, b, l⟩
theorem cwSv (v : CW) (k i : Nat) (h : i < 3) (up : Bool) (d : List AFile) (id ep : Int) (log : List ATxn) (done tz : Int) (nd : List ANode) (se : List Int) (wt : List AWatch) : (wC v k).take (i * 10) ++ [.d (.bool up), .d (.sl 3 (d.map AFile.row)), .d (.int .i64 id), .d (.int .i64 ep), .d (.sl 7 (log.map ATxn.row)), .d (.int .i64 done), .d (.int .i64 tz), .d (.sl 9 (nd.map ANode.row)), .d (.sl 1 (se.map irow)), .d (.sl 3 (wt.map AWatch.row))] ++ (wC v k).drop (i * 10 + 10) = wC (v.setS i ⟨up, ⟨d⟩, ⟨id, ep, log, done⟩, ⟨tz, nd, se⟩, wt⟩) k := csSv v k i h ⟨up, ⟨d⟩, ⟨id, ep, log, done⟩, ⟨tz, nd, se⟩, wt⟩
theorem cwFs (v : CW) (k : Nat) : (wC v k).take 79 ++ [.d (.bool false), .d (.bool false), .d (.bool false)] ++ (wC v k).drop 82 = wC v.noF k := csFs v k
theorem cwS_c (v : CW) (i : Nat) (x : AServer) : (v.setS i x).c = v.c := rfl
theorem cwS_l (v : CW) (i : Nat) (x : AServer) : (v.setS i x).leader = v.leader := rfl
theorem cwS_f (v : CW) (i : Nat) (x : AServer) : (v.setS i x).f = v.f := rfl
theorem cwS_n (v : CW) (i : Nat) (x : AServer) : (v.setS i x).n = v.n := rfl
theorem cwF_s (v : CW) (i : Nat) (x : Bool) : (v.setF i x).s = v.s := rfl
theorem cwF_c (v : CW) (i : Nat) (x : Bool) : (v.setF i x).c = v.c := rfl
theorem cwF_l (v : CW) (i : Nat) (x : Bool) : (v.setF i x).leader = v.leader := rfl
theorem cwF_n (v : CW) (i : Nat) (x : Bool) : (v.setF i x).n = v.n := rfl
theorem cwC_s (v : CW) (i : Nat) (x : AClient) : (v.setC i x).s = v.s := rfl
theorem cwC_l (v : CW) (i : Nat) (x : AClient) : (v.setC i x).leader = v.leader := rfl
theorem cwC_f (v : CW) (i : Nat) (x : AClient) : (v.setC i x).f = v.f := rfl
theorem cwC_n (v : CW) (i : Nat) (x : AClient) : (v.setC i x).n = v.n := rfl
theorem cwL_s (v : CW) (x : Int) : (v.setL x).s = v.s := rfl
theorem cwL_c (v : CW) (x : Int) : (v.setL x).c = v.c := rfl
theorem cwL_n (v : CW) (x : Int) : (v.setL x).n = v.n := rfl
theorem cwL_l (v : CW) (x : Int) : (v.setL x).leader = x := rfl
theorem cwN_s (v : CW) (x : Nat) : (v.setN x).s = v.s := rfl
theorem cwN_c (v : CW) (x : Nat) : (v.setN x).c = v.c := rfl
theorem cwN_l (v : CW) (x : Nat) : (v.setN x).leader = v.leader := rfl
theorem cwN_n (v : CW) (x : Nat) : (v.setN x).n = x := rfl
theorem cwNoF_s (v : CW) : v.noF.s = v.s := rfl
theorem cwNoF_c (v : CW) : v.noF.c = v.c := rfl
theorem cwNoF_n (v : CW) : v.noF.n = v.n := rfl
theorem cwNoF_l (v : CW) : v.noF.leader = v.leader := rfl
attribute [go_sem] wC_len cgL cgDe cgN cgF cgUp cgDisk cgPeer cgLog cgTree cgTz cgWat cgSv cgCl cgSes csL csDe csN csF csWat cwCl cwSv cwFs cwS_same cwC_same cwF_same cwS_c cwS_l cwS_f cwS_n cwF_s cwF_c cwF_l cwF_n cwC_s cwC_l cwC_f cwC_n cwL_s cwL_c cwL_n cwL_l cwN_s cwN_c cwN_l cwN_n cwNoF_s cwNoF_c cwNoF_n cwNoF_l
attribute [go_sem] cgSvA Nat.add_zero Nat.mul_one
end Go.Proofs.YtainmipdnjcbkaaGreatDoor
namespace Go.Proofs.YtainmipdnjcbkaaGreatDoor
set_option linter.unusedVariables false
set_option linter.unusedSimpArgs false
open Go Go.RowKit
set_option maxRecDepth 100000
set_option linter.unusedSimpArgs false
theorem ren_wC (f : Nat → Nat) (v : CW) (k : Nat) : renL f (wC v k) = wC v (f k) := rfl
theorem in_wCe (n : Nat) (v : CW) (k : Nat) : inL n (wC v k) = (k < n) := by
  unfold wC svC clC
  simp only [List.cons_append, List.nil_append, inL, inV]
  simp only [and_true, true_and]
theorem ren_srv (f : Nat → Nat) (v : CW) (k : Nat) : renL f (List.take 30 (wC v k)) = List.take 30 (wC v k) := rfl
theorem in_srv (n : Nat) (v : CW) (k : Nat) : inL n (List.take 30 (wC v k)) = True := by
  refine eq_true ?_
  show inL n (svC (v.s 0) ++ (svC (v.s 1) ++ svC (v.s 2)))
  unfold svC
  simp only [List.cons_append, List.nil_append, inL, inV, and_self]
attribute [go_sem] ren_wC in_wCe ren_srv in_srv
end Go.Proofs.YtainmipdnjcbkaaGreatDoor
namespace Go.Proofs.YtainmipdnjcbkaaGreatDoor
set_option linter.unusedVariables false
set_option linter.unusedSimpArgs false
open Go Go.RowKit
set_option maxRecDepth 100000
set_option linter.unusedSimpArgs false
theorem SmallD.len {N : Nat} {l : List UInt8} (h : SmallD N (.str l)) : l.length ≤ N := by cases h; assumption
theorem SmallD.rows {N sz : Nat} {rs : List (List DV)} (h : SmallD N (.sl sz rs)) : rs.length ≤ N ∧ ∀ r, r ∈ rs → ∀ c, c ∈ r → SmallD N c := by cases h; exact ⟨by assumption, by assumption⟩
end Go.Proofs.YtainmipdnjcbkaaGreatDoor
namespace Go.Proofs.YtainmipdnjcbkaaGreatDoor
set_option linter.unusedVariables false
set_option linter.unusedSimpArgs false
open Go Go.RowKit
set_option maxRecDepth 100000
set_option linter.unusedSimpArgs false
end Go.Proofs.YtainmipdnjcbkaaGreatDoor
namespace Go.Proofs.YtainmipdnjcbkaaGreatDoor
set_option linter.unusedVariables false
set_option linter.unusedSimpArgs false
open Go Go.RowKit
set_option maxRecDepth 100000
set_option linter.unusedSimpArgs false
def okc (c : UInt8) : Bool := decide ((97 ≤ c.toNat ∧ c.toNat ≤ 122) ∨ (48 ≤ c.toNat ∧ c.toNat ≤ 57) ∨ c.toNat = 45 ∨ c.toNat = 95)
def namedP (s : List UInt8) : Bool := s.all okc && (!decide (s = []) && decide ((s.length : Int) ≤ 40))
def letters : List UInt8 := [97, 98, 99, 100, 101, 102, 103, 104, 105, 106, 107, 108, 109, 110, 111, 112, 113, 114, 115, 116, 117, 118, 119, 120, 121, 122, 48, 49, 50, 51, 52, 53, 54, 55, 56, 57, 45, 95]
end Go.Proofs.YtainmipdnjcbkaaGreatDoor
namespace Go.Proofs.YtainmipdnjcbkaaGreatDoor
set_option linter.unusedVariables false
set_option linter.unusedSimpArgs false
open Go Go.RowKit Go.Shelf
attribute [local go_sem] Oper.semAt_some
set_option maxRecDepth 100000
set_option linter.unusedSimpArgs false
def splitB : List UInt8 → List (List UInt8)
  | [] => [[]]
  | c :: r => if c = 47 then [] :: splitB r else match splitB r with
    | p :: ps => (c :: p) :: ps
    | [] => [[c]]
def allNamed (r : List UInt8) : Bool := (splitB r).all namedP
theorem splitB_ne (r : List UInt8) : splitB r ≠ [] := by
  induction r with
  | nil => simp [splitB]
  | cons c r ih =>
    unfold splitB
    split
    · simp
    · split <;> simp
def goodP (s : List UInt8) : Bool := decide (s = [47]) || (decide (s.length ≤ 200) && (decide (1 ≤ s.length ∧ s.take 1 = [47]) && allNamed (s.drop 1)))
structure GJ (w : World) (B : Nat) (rec : Loop) (r : List UInt8) (W : World) : Prop where
  below : Below w.heap.size w W
  res : W.cell? ⟨w.heap.size, 0, none⟩ = some (.bool false)
  resf : W.frozen? ⟨w.heap.size, 0, none⟩ = false
  s : W.cell? ⟨B, 0, none⟩ = some (mkStr r)
  sf : W.frozen? ⟨B, 0, none⟩ = false
  p : W.cell? ⟨B + 1, 0, none⟩ = some (mkStr [47])
  v : W.cell? ⟨B + 2, 0, none⟩ = some (.int .i64 0)
  d : W.heap[B + 3]? = some (.deferred (some []))
  l : W.heap[B + 4]? = some (.loop rec)
theorem heap_lt {W : World} {k : Nat} {o : Obj} (h : W.heap[k]? = some o) : k < W.heap.size := (Array.getElem?_eq_some_iff.1 h).1
section
variable {w W W' : World} {B : Nat} {rec : Loop} {r : List UInt8}
theorem GJ.grow (hB : w.heap.size < B) (h : GJ w B rec r W) (hb : Below W.heap.size W W') : GJ w B rec r W' := by
  have hl := heap_lt h.l
  exact ⟨h.below.trans (hb.mono h.below.size), by rw [hb.cell (by simp only; omega)]; exact h.res, by rw [hb.frozen (by simp only; omega)]; exact h.resf, by rw [hb.cell (by simp only; omega)]; exact h.s, by rw [hb.frozen (by simp only; omega)]; exact h.sf,
    by rw [hb.cell (by simp only; omega)]; exact h.p, by rw [hb.cell (by simp only; omega)]; exact h.v, by rw [hb.block _ (by omega)]; exact h.d, by rw [hb.block _ (by omega)]; exact h.l⟩
end
end Go.Proofs.YtainmipdnjcbkaaGreatDoor
namespace Go.Proofs.YtainmipdnjcbkaaGreatDoor
set_option linter.unusedVariables false
set_option linter.unusedSimpArgs false
open Go Go.RowKit
set_option linter.unusedSimpArgs false
theorem eq_of_getD {α : Type} [Inhabited α] {a b : List α} (h : a.length = b.length) (h2 : ∀ k, k < a.length → a.getD k default = b.getD k default) : a = b := by
  refine List.ext_getElem h fun k h1 h3 => ?_
  have := h2 k h1
  simpa [List.getD_eq_getElem?_getD, List.getElem?_eq_getElem h1, List.getElem?_eq_getElem h3] using this
theorem lt_tri {a b : List UInt8} (h : ¬ a < b) (h2 : ¬ b < a) : a = b := List.le_antisymm (List.not_lt.1 h2) (List.not_lt.1 h)
theorem lt_of_not {a b : List UInt8} (h : ¬ a < b) (h2 : a ≠ b) : b < a := Classical.byContradiction fun h3 => h2 (lt_tri h h3)
def Rises (ns : List (List UInt8)) : Prop := ∀ k, k + 1 < ns.length → ns.getD k [] < ns.getD (k + 1) []
theorem rises_lt {ns : List (List UInt8)} (h : Rises ns) {i : Nat} : ∀ {j : Nat}, i < j → j < ns.length → ns.getD i [] < ns.getD j []
  | 0, h1, _ => by omega
  | j + 1, h1, h2 => by
    by_cases e : i = j
    · subst e; exact h i h2
    · exact List.lt_trans (rises_lt h (by omega) (by omega)) (h j h2)
def place (ns : List (List UInt8)) (key : List UInt8) : Nat := ns.findIdx fun x => !decide (x < key)
theorem place_eq {ns : List (List UInt8)} {key : List UInt8} {i : Nat} (h0 : i ≤ ns.length) (h1 : ∀ k, k < i → ns.getD k [] < key) (h2 : i < ns.length → ¬ ns.getD i [] < key) : place ns key = i := by
  unfold place
  by_cases e : i < ns.length
  · rw [List.findIdx_eq e]
    have h3 := h2 e
    rw [List.getD_eq_getElem?_getD, List.getElem?_eq_getElem e] at h3
    refine ⟨by simpa using h3, fun j hj => ?_⟩
    have h4 := h1 j hj
    rw [List.getD_eq_getElem?_getD, List.getElem?_eq_getElem (by omega)] at h4
    simpa using h4
  · have e2 : i = ns.length := by omega
    subst e2
    rw [List.findIdx_eq_length]
    intro x hx
    obtain ⟨j, hj, rfl⟩ := List.getElem_of_mem hx
    have h4 := h1 j hj
    rw [List.getD_eq_getElem?_getD, List.getElem?_eq_getElem hj] at h4
    simpa using h4
theorem mem_getD {α : Type} (ns : List α) (d : α) {k : Nat} (h : k < ns.length) : ns.getD k d ∈ ns := by
  rw [List.getD_eq_getElem?_getD, List.getElem?_eq_getElem h]; exact List.getElem_mem h
theorem mem_iff_getD {α : Type} (ns : List α) (d x : α) : x ∈ ns ↔ ∃ k, k < ns.length ∧ ns.getD k d = x := by
  constructor
  · intro h
    obtain ⟨j, hj, e⟩ := List.getElem_of_mem h
    exact ⟨j, hj, by rw [List.getD_eq_getElem?_getD, List.getElem?_eq_getElem hj]; exact e⟩
  · rintro ⟨k, h, rfl⟩; exact mem_getD ns d h
theorem place_le (ns : List (List UInt8)) (key : List UInt8) : place ns key ≤ ns.length := List.findIdx_le_length
theorem place_at {ns : List (List UInt8)} {k : Nat} (hr : Rises ns) (h : k < ns.length) : place ns (ns.getD k []) = k :=
  place_eq (by omega) (fun j hj => rises_lt hr hj h) fun _ => List.lt_irrefl _
theorem zc {ns : List (List UInt8)} {key : List UInt8} (hr : Rises ns) (h : key ∈ ns) : place ns key < ns.length ∧ ns.getD (place ns key) [] = key := by
  obtain ⟨k, hk, e⟩ := (mem_iff_getD ns [] key).1 h
  subst e; rw [place_at hr hk]; exact ⟨hk, rfl⟩
theorem getD_map {α β : Type} (f : α → β) (l : List α) (k : Nat) (d : α) : (l.map f).getD k (f d) = f (l.getD k d) := by
  simp only [List.getD_eq_getElem?_getD, List.getElem?_map]; cases l[k]? <;> rfl
end Go.Proofs.YtainmipdnjcbkaaGreatDoor
namespace Go.Proofs.YtainmipdnjcbkaaGreatDoor
set_option linter.unusedVariables false
set_option linter.unusedSimpArgs false
open Go Go.RowKit
set_option maxRecDepth 100000
set_option linter.unusedSimpArgs false
end Go.Proofs.YtainmipdnjcbkaaGreatDoor
namespace Go.Proofs.YtainmipdnjcbkaaGreatDoor
set_option linter.unusedVariables false
set_option linter.unusedSimpArgs false
open Go Go.RowKit
set_option maxRecDepth 100000
set_option linter.unusedSimpArgs false
def badZ (e c : Int) : Prop := e < 0 ∨ 2147483647 < e ∨ c < 0 ∨ 2147483647 < c
instance (e c : Int) : Decidable (badZ e c) := by unfold badZ; infer_instance
def mkZ (e c : Int) : Int × Int := if badZ e c then (0, 3) else (e * 2147483648 + c, 0)
def goodZ (z : Int) : Prop := 0 ≤ z ∧ z < 4611686018427387904
instance (z : Int) : Decidable (goodZ z) := by unfold goodZ; infer_instance
def epZ (z : Int) : Int := if goodZ z then z / 2147483648 else 0
end Go.Proofs.YtainmipdnjcbkaaGreatDoor
namespace Go.Proofs.YtainmipdnjcbkaaGreatDoor
set_option linter.unusedVariables false
set_option linter.unusedSimpArgs false
open Go Go.RowKit
set_option maxRecDepth 100000
def numsB (t : ATxn) : Bool := decide (goodZ t.zxid) && (decide (1 ≤ t.session ∧ t.session ≤ 2147483647) && (decide (0 ≤ t.version ∧ t.version ≤ 2147483647) && decide (0 ≤ t.owner ∧ t.owner ≤ 2147483647)))
def badT (t : ATxn) : Bool :=
  if t.op ≤ 2 then !decide (t.path = []) || (!decide (t.data = []) || (!decide (t.version = 0) || !decide (t.owner = 0)))
  else if t.op = 3 then !goodP t.path || (decide (t.path = [47]) || !decide (t.version = 0))
  else if t.op = 4 then !goodP t.path || (decide (t.path = [47]) || (!decide (t.data = []) || (!decide (t.version = 0) || !decide (t.owner = 0))))
  else !goodP t.path || !decide (t.owner = 0)
def goodT (t : ATxn) : Int := if t.op < 1 ∨ 5 < t.op then 4 else if numsB t = false then 3 else if 256 < t.data.length then 1 else if badT t = true then 2 else 0
theorem goodT_op {t : ATxn} (h : t.op < 1 ∨ 5 < t.op) : goodT t = 4 := by unfold goodT; rw [if_pos h]
theorem goodT_num {t : ATxn} (h : 1 ≤ t.op ∧ t.op ≤ 5) (h2 : ¬ numsB t = true) : goodT t = 3 := by unfold goodT; rw [if_neg (by omega), if_pos (eq_false_of_ne_true h2)]
theorem goodT_long {t : ATxn} (h : 1 ≤ t.op ∧ t.op ≤ 5) (h2 : numsB t = true) (h3 : 256 < t.data.length) : goodT t = 1 := by unfold goodT; rw [if_neg (by omega), if_neg (by rw [h2]; decide), if_pos h3]
theorem goodT_ok {t : ATxn} (h : 1 ≤ t.op ∧ t.op ≤ 5) (h2 : numsB t = true) (h3 : t.data.length ≤ 256) : goodT t = if badT t = true then 2 else 0 := by unfold goodT; rw [if_neg (by omega), if_neg (by rw [h2]; decide), if_neg (by omega)]
theorem numsB_iff (t : ATxn) : numsB t = true ↔ goodZ t.zxid ∧ (1 ≤ t.session ∧ t.session ≤ 2147483647) ∧ (0 ≤ t.version ∧ t.version ≤ 2147483647) ∧ (0 ≤ t.owner ∧ t.owner ≤ 2147483647) := by
  unfold numsB; simp only [Bool.and_eq_true, decide_eq_true_eq]
end Go.Proofs.YtainmipdnjcbkaaGreatDoor
namespace Go.Proofs.YtainmipdnjcbkaaGreatDoor
set_option linter.unusedVariables false
set_option linter.unusedSimpArgs false
open Go Go.RowKit
set_option maxRecDepth 100000
set_option linter.unusedSimpArgs false
def stepN (c : Nat) : Nat := (c / 2) ^^^ (if c % 2 = 1 then 3988292384 else 0)
def stepsN : Nat → Nat → Nat
  | 0, c => c
  | k + 1, c => stepN (stepsN k c)
def byteN (c : Nat) (b : UInt8) : Nat := stepsN 8 (c ^^^ b.toNat)
def crcN (s : List UInt8) : Nat := s.foldl byteN 4294967295
def sumN (s : List UInt8) : Nat := 4294967295 - crcN s
def cl (l : List Nat) : List AV := l.map fun n : Nat => AV.d (.int .i64 (n : Int))
theorem sum_lt (s : List UInt8) : sumN s ≤ 4294967295 := Nat.sub_le _ _
end Go.Proofs.YtainmipdnjcbkaaGreatDoor
namespace Go.Proofs.YtainmipdnjcbkaaGreatDoor
set_option linter.unusedVariables false
set_option linter.unusedSimpArgs false
open Go Go.RowKit
set_option maxRecDepth 100000
structure Cur where
  t : List UInt8
  s : List UInt8
  bad : Bool
def curT (s : List UInt8) (b : Bool) (n : Nat) : Cur := if b = true ∨ s.length < n then ⟨[], s, true⟩ else ⟨s.take n, s.drop n, false⟩
def numW (l : List UInt8) : Int := l.foldl (fun v x => IntKind.i64.wrap (v * 256 + x.toNat)) 0
theorem wrap_i64e (n : Int) : IntKind.i64.wrap n = (n + 9223372036854775808) % 18446744073709551616 - 9223372036854775808 := by simp [IntKind.wrap, IntKind.bits, IntKind.signed]; omega
theorem numW_snoc (t : List UInt8) (k : Nat) (h : k < t.length) : numW (t.take (k + 1)) = IntKind.i64.wrap (numW (t.take k) * 256 + (t.getD k 0).toNat) := by
  unfold numW
  have : t.take (k + 1) = t.take k ++ [t.getD k 0] := take_snoc t k h
  rw [this, List.foldl_append]; rfl
def numN (l : List UInt8) : Nat := l.foldl (fun v x => v * 256 + x.toNat) 0
theorem numN_snoc (t : List UInt8) (k : Nat) (h : k < t.length) : numN (t.take (k + 1)) = numN (t.take k) * 256 + (t.getD k 0).toNat := by
  unfold numN
  have : t.take (k + 1) = t.take k ++ [t.getD k 0] := take_snoc t k h
  rw [this, List.foldl_append]; rfl
theorem numW_okI (l : List UInt8) : okI (numW l) := by
  rcases List.eq_nil_or_concat l with rfl | ⟨l, x, rfl⟩
  · unfold numW okI; decide
  · unfold numW okI
    rw [List.concat_eq_append, List.foldl_append]
    simp only [List.foldl_cons, List.foldl_nil]
    rw [wrap_i64e]; omega
def tz : ATxn := ⟨0, 0, 0, [], [], 0, 0⟩
def bP (b : List UInt8) : Nat := (b.getD 21 0).toNat
def bD (b : List UInt8) : Nat := numN ((b.drop (22 + bP b)).take 2)
def bodyT (b : List UInt8) : ATxn := ⟨numW (b.take 8), (b.getD 8 0).toNat, (numN ((b.drop 9).take 4) : Nat), (b.drop 22).take (bP b), b.drop (24 + bP b), (numN ((b.drop 13).take 4) : Nat), (numN ((b.drop 17).take 4) : Nat)⟩
def bodyOk (b : List UInt8) : Prop := b.length = 24 + bP b + bD b
def sN (s : List UInt8) : Nat := numN ((s.drop 1).take 2)
def sB (s : List UInt8) : List UInt8 := (s.drop 3).take (sN s)
instance (b : List UInt8) : Decidable (bodyOk b) := inferInstanceAs (Decidable (_ = _))
def noHead (s : List UInt8) : Prop := s.length < 3 ∨ s.getD 0 0 ≠ 84
def noRoom (s : List UInt8) : Prop := 1024 < sN s ∨ s.length < sN s + 7
def noSum (s : List UInt8) : Prop := numN ((s.drop (sN s + 3)).take 4) ≠ sumN (s.take (sN s + 3))
instance (s : List UInt8) : Decidable (noHead s) := inferInstanceAs (Decidable (_ ∨ _))
instance (s : List UInt8) : Decidable (noRoom s) := inferInstanceAs (Decidable (_ ∨ _))
instance (s : List UInt8) : Decidable (noSum s) := inferInstanceAs (Decidable (_ ≠ _))
def decT (s : List UInt8) : ATxn × Int × Int :=
  if noHead s then (tz, 0, 2)
  else if noRoom s then (tz, 0, 2)
  else if noSum s then (tz, 0, 5)
  else if ¬ bodyOk (sB s) then (tz, 0, 2)
  else if goodT (bodyT (sB s)) ≠ 0 then (tz, 0, goodT (bodyT (sB s)))
  else (bodyT (sB s), (sN s + 7 : Nat), 0)
theorem decT_a {s : List UInt8} (h : noHead s) : decT s = (tz, 0, 2) := by unfold decT; rw [if_pos h]
theorem decT_b {s : List UInt8} (h1 : ¬ noHead s) (h : noRoom s) : decT s = (tz, 0, 2) := by unfold decT; rw [if_neg h1, if_pos h]
theorem decT_c {s : List UInt8} (h1 : ¬ noHead s) (h2 : ¬ noRoom s) (h : noSum s) : decT s = (tz, 0, 5) := by unfold decT; rw [if_neg h1, if_neg h2, if_pos h]
theorem decT_d {s : List UInt8} (h1 : ¬ noHead s) (h2 : ¬ noRoom s) (h3 : ¬ noSum s) (h : ¬ bodyOk (sB s)) : decT s = (tz, 0, 2) := by unfold decT; rw [if_neg h1, if_neg h2, if_neg h3, if_pos h]
theorem decT_e {s : List UInt8} (h1 : ¬ noHead s) (h2 : ¬ noRoom s) (h3 : ¬ noSum s) (h4 : bodyOk (sB s)) (h : goodT (bodyT (sB s)) ≠ 0) : decT s = (tz, 0, goodT (bodyT (sB s))) := by
  unfold decT; rw [if_neg h1, if_neg h2, if_neg h3, if_neg (fun h => h h4), if_pos h]
theorem decT_f {s : List UInt8} (h1 : ¬ noHead s) (h2 : ¬ noRoom s) (h3 : ¬ noSum s) (h4 : bodyOk (sB s)) (h : goodT (bodyT (sB s)) = 0) : decT s = (bodyT (sB s), ((sN s + 7 : Nat) : Int), 0) := by
  unfold decT; rw [if_neg h1, if_neg h2, if_neg h3, if_neg (fun h => h h4), if_neg (fun h' => h' h)]
end Go.Proofs.YtainmipdnjcbkaaGreatDoor
namespace Go.Proofs.YtainmipdnjcbkaaGreatDoor
set_option linter.unusedVariables false
set_option linter.unusedSimpArgs false
open Go Go.RowKit
set_option maxRecDepth 100000
theorem curT_len (s : List UInt8) (b : Bool) (n : Nat) : (curT s b n).s.length ≤ s.length ∧ (curT s b n).t.length ≤ s.length ∧ (curT s b n).t.length ≤ n := by
  unfold curT; split <;> simp <;> omega
theorem curT_good {s : List UInt8} {b : Bool} {n : Nat} (h : (curT s b n).bad = false) : b = false ∧ n ≤ s.length ∧ (curT s b n).t = s.take n ∧ (curT s b n).s = s.drop n := by
  unfold curT at *
  split at h
  · cases h
  · rename_i hn
    rw [if_neg hn]
    exact ⟨by cases b <;> simp_all, by omega, rfl, rfl⟩
structure Dec where
  k1 : Cur
  k2 : Cur
  k3 : Cur
  k4 : Cur
  j1 : Cur
  j2 : Cur
  j3 : Cur
  j4 : Cur
  j5 : Cur
  j6 : Cur
  j7 : Cur
  j8 : Cur
  j9 : Cur
structure Reads (s : List UInt8) (d : Dec) : Prop where
  k1 : curT s false 1 = d.k1
  k2 : curT d.k1.s d.k1.bad 2 = d.k2
  k3 : curT d.k2.s d.k2.bad (numN d.k2.t) = d.k3
  k4 : curT d.k3.s d.k3.bad 4 = d.k4
  j1 : curT d.k3.t false 8 = d.j1
  j2 : curT d.j1.s d.j1.bad 1 = d.j2
  j3 : curT d.j2.s d.j2.bad 4 = d.j3
  j4 : curT d.j3.s d.j3.bad 4 = d.j4
  j5 : curT d.j4.s d.j4.bad 4 = d.j5
  j6 : curT d.j5.s d.j5.bad 1 = d.j6
  j7 : curT d.j6.s d.j6.bad (numN d.j6.t) = d.j7
  j8 : curT d.j7.s d.j7.bad 2 = d.j8
  j9 : curT d.j8.s d.j8.bad (numN d.j8.t) = d.j9
theorem reads (s : List UInt8) : ∃ d, Reads s d := by
  let k1 := curT s false 1
  let k2 := curT k1.s k1.bad 2
  let k3 := curT k2.s k2.bad (numN k2.t)
  let k4 := curT k3.s k3.bad 4
  let j1 := curT k3.t false 8
  let j2 := curT j1.s j1.bad 1
  let j3 := curT j2.s j2.bad 4
  let j4 := curT j3.s j3.bad 4
  let j5 := curT j4.s j4.bad 4
  let j6 := curT j5.s j5.bad 1
  let j7 := curT j6.s j6.bad (numN j6.t)
  let j8 := curT j7.s j7.bad 2
  let j9 := curT j8.s j8.bad (numN j8.t)
  exact ⟨⟨k1, k2, k3, k4, j1, j2, j3, j4, j5, j6, j7, j8, j9⟩, ⟨rfl, rfl, rfl, rfl, rfl, rfl, rfl, rfl, rfl, rfl, rfl, rfl, rfl⟩⟩
theorem gd {s : List UInt8} {b : Bool} {n : Nat} {k : Cur} (e : curT s b n = k) (h : k.bad = false) : b = false ∧ n ≤ s.length ∧ k.t = s.take n ∧ k.s = s.drop n := by
  subst e; exact curT_good h
theorem ln {s : List UInt8} {b : Bool} {n m : Nat} {k : Cur} (e : curT s b n = k) (h : s.length ≤ m) : k.s.length ≤ m ∧ k.t.length ≤ m ∧ k.t.length ≤ n := by
  subst e; have := curT_len s b n; omega
end Go.Proofs.YtainmipdnjcbkaaGreatDoor
namespace Go.Proofs.YtainmipdnjcbkaaGreatDoor
set_option linter.unusedVariables false
set_option linter.unusedSimpArgs false
open Go Go.RowKit
set_option maxRecDepth 100000
set_option linter.unusedSimpArgs false
end Go.Proofs.YtainmipdnjcbkaaGreatDoor
namespace Go.Proofs.YtainmipdnjcbkaaGreatDoor
set_option linter.unusedVariables false
set_option linter.unusedSimpArgs false
open Go Go.RowKit
set_option maxRecDepth 100000
set_option linter.unusedSimpArgs false
theorem goodP_len {s : List UInt8} (h : goodP s = true) : s.length ≤ 200 := by
  unfold goodP at h
  rw [Bool.or_eq_true, decide_eq_true_eq, Bool.and_eq_true, decide_eq_true_eq] at h
  rcases h with h | h
  · subst h; decide
  · exact h.1
end Go.Proofs.YtainmipdnjcbkaaGreatDoor
namespace Go.Proofs.YtainmipdnjcbkaaGreatDoor
set_option linter.unusedVariables false
set_option linter.unusedSimpArgs false
open Go Go.RowKit
set_option maxRecDepth 100000
set_option linter.unusedSimpArgs false
def byteAt (k : Nat) (v : Int) : UInt8 := UInt8.ofNat ((v / 2 ^ (8 * k)) % 256).toNat
def beB : Nat → Int → List UInt8
  | 0, _ => []
  | n + 1, v => byteAt n v :: beB n v
theorem beB_len (v : Int) : ∀ n, (beB n v).length = n
  | 0 => rfl
  | n + 1 => by rw [beB, List.length_cons, beB_len v n]
def b5 (t : ATxn) : List UInt8 := (beB 8 t.zxid ++ [byteAt 0 t.op]) ++ beB 4 t.session
def b6 (t : ATxn) : List UInt8 := (b5 t ++ beB 4 t.version) ++ beB 4 t.owner
def b7 (t : ATxn) : List UInt8 := (b6 t ++ [byteAt 0 t.path.length]) ++ t.path
def bodyB (t : ATxn) : List UInt8 := (b7 t ++ beB 2 t.data.length) ++ t.data
theorem b5_len (t : ATxn) : (b5 t).length = 13 := by simp [b5, beB_len]
theorem b6_len (t : ATxn) : (b6 t).length = 21 := by simp [b6, b5_len, beB_len]
theorem b7_len (t : ATxn) : (b7 t).length = 22 + t.path.length := by simp [b7, b6_len]; omega
theorem bodyB_len (t : ATxn) : (bodyB t).length = 24 + t.path.length + t.data.length := by simp [bodyB, b7_len, beB_len]; omega
def headB (t : ATxn) : List UInt8 := ([84] ++ beB 2 (bodyB t).length) ++ bodyB t
theorem headB_len (t : ATxn) : (headB t).length = 27 + t.path.length + t.data.length := by unfold headB; simp only [List.length_append, bodyB_len, beB_len, List.length_cons, List.length_nil]; omega
def encB (t : ATxn) : List UInt8 := headB t ++ beB 4 (sumN (headB t))
theorem goodT_small {t : ATxn} (h : goodT t = 0) : t.path.length ≤ 200 ∧ t.data.length ≤ 256 := by
  unfold goodT at h
  split at h
  · cases h
  split at h
  · cases h
  split at h
  · cases h
  split at h
  · cases h
  rename_i h1 h2 h3 h4
  refine ⟨?_, by omega⟩
  unfold badT at h4
  by_cases e2 : t.op ≤ 2
  · rw [if_pos e2] at h4; simp at h4; rw [h4.1]; simp
  rw [if_neg e2] at h4
  have : goodP t.path = true := by
    split at h4 <;> (try split at h4) <;> simp at h4 <;> exact h4.1
  exact goodP_len this
def encT (t : ATxn) : List UInt8 × Int := if goodT t = 0 then (encB t, 0) else ([], goodT t)
end Go.Proofs.YtainmipdnjcbkaaGreatDoor
namespace Go.Proofs.YtainmipdnjcbkaaGreatDoor
set_option linter.unusedVariables false
set_option linter.unusedSimpArgs false
open Go Go.RowKit
set_option maxRecDepth 100000
def lastZ (l : List ATxn) : Int := if l = [] then 0 else (l.getD (l.length - 1) default).zxid
theorem lastZ_nil : lastZ [] = 0 := rfl
theorem lastZ_pos {l : List ATxn} (h : 0 < l.length) : lastZ l = (l.getD (l.length - 1) default).zxid := by
  unfold lastZ; rw [if_neg (fun e => by rw [e] at h; exact absurd h (by decide))]
theorem lastZ_snoc (l : List ATxn) (t : ATxn) : lastZ (l ++ [t]) = t.zxid := by
  rw [lastZ_pos (by simp)]; simp
theorem sameLog_c (a b : List ATxn) (h : a.length * 72 ≤ 140737488351232) (h2 : b.length * 72 ≤ 140737488351232) : acall Tryz.prog [] 39 [.d (.sl 7 (a.map ATxn.row)), .d (.sl 7 (b.map ATxn.row))] (ret (B (decide (a = b)))) := by
  refine zI Tryz.func39 rfl (by kernel_rfl) (by simp [Tryz.ntmps39]) ?_; simp only [Tryz.ntmps39, Tryz.results39, go_sem]
  (repeat' first
| (with_reducible refine AR.f ?_)
| refine zb (by decide) ?_
| (with_reducible refine AWP.cond rfl ?_ ?_ <;> intro hc <;> (try simp only [hcs, beq_iff_eq, ge_iff_le, gt_iff_lt] at hc))
| ((first | ((first | (with_reducible first | refine zR ?_ | refine zQ (by decide +kernel) ?_ | refine zD (by decide +kernel) ?_ | refine zE (by decide +kernel) ?_ | refine zG (by decide +kernel) ?_)); intro K hK) | ((first | (with_reducible refine zu ?_ ?_ <;> intro hg) | with_reducible intro hg) <;> (first | (exfalso; simp at hg; done) | (have hg' := hg; (try simp only [hcs, beq_iff_eq, ge_iff_le, gt_iff_lt] at hg'); (try simp only [hg]))))) <;> (try simp (disch := omega) only [go_sem, wn]) <;> (repeat' with_reducible refine And.intro ?_ ?_) <;> (try (with_reducible refine hK _ ?_; clear hK K)))
| omega)
  · (refine zF rfl ?_ ?_ ?_ ?_; (iterate 3 (focus ((try simp (disch := omega) only [go_sem, wn]) <;> (try omega) <;> fail))); (try simp (disch := omega) only [go_sem, wn, I, B, S, zj]))
    symm; rw [decide_eq_false_iff_not]; intro e; subst e; simp at hc
  have h3 := hc
  refine AWP.loopS (ι := Nat) (fun k => k ≤ a.length ∧ ∀ j, j < k → a.getD j default = b.getD j default) (fun k => a.length - k) [0, 1, 12] (fun k => [(13, I k)]) 0 ?_ (by simp (disch := omega) only [go_sem, wn, true_and]) ?_
  · exact ⟨by omega, by omega⟩
  intro k ⟨hk, hk2⟩
  simp only [go_sem]
  (repeat' first
| (with_reducible refine AR.f ?_)
| refine zb (by decide) ?_
| (with_reducible refine AWP.cond rfl ?_ ?_ <;> intro hc <;> (try simp only [hcs, beq_iff_eq, ge_iff_le, gt_iff_lt] at hc))
| ((first | ((first | (with_reducible first | refine zR ?_ | refine zQ (by decide +kernel) ?_ | refine zD (by decide +kernel) ?_ | refine zE (by decide +kernel) ?_ | refine zG (by decide +kernel) ?_)); intro K hK) | ((first | (with_reducible refine zu ?_ ?_ <;> intro hg) | with_reducible intro hg) <;> (first | (exfalso; simp at hg; done) | (have hg' := hg; (try simp only [hcs, beq_iff_eq, ge_iff_le, gt_iff_lt] at hg'); (try simp only [hg]))))) <;> (try simp (disch := omega) only [go_sem, wn, ATxn.rgetD]) <;> (repeat' with_reducible refine And.intro ?_ ?_) <;> (try (with_reducible refine hK _ ?_; clear hK K)))
| omega)
  · (refine zF rfl ?_ ?_ ?_ ?_; (iterate 3 (focus ((try simp (disch := omega) only [go_sem, wn]) <;> (try omega) <;> fail))); (try simp (disch := omega) only [go_sem, wn, I, B, S, zj]))
    symm; rw [decide_eq_false_iff_not]; intro e; subst e; simp at hc
  · refine ⟨k + 1, ⟨by omega, fun j hj => ?_⟩, by omega, ?_⟩
    · by_cases e : j = k
      · subst e; exact hc
      · exact hk2 j (by omega)
    (refine SImp.same ?_; simp (disch := omega) only [go_sem, wn, Int.natCast_add])
  · (refine zF rfl ?_ ?_ ?_ ?_; (iterate 3 (focus ((try simp (disch := omega) only [go_sem, wn]) <;> (try omega) <;> fail))); (try simp (disch := omega) only [go_sem, wn, I, B, S, zj]))
    symm; rw [decide_eq_true_eq]
    exact eq_of_getD (by omega) fun j hj => hk2 j (by omega)
def scanG (s : List UInt8) : Nat → Nat → List ATxn → List ATxn × Nat
  | 0, at_, l => (l, at_)
  | f + 1, at_, l => if (decT (s.drop at_)).2.2 ≠ 0 ∨ (0 < l.length ∧ (decT (s.drop at_)).1.zxid ≤ lastZ l) then (l, at_) else scanG s f (at_ + (decT (s.drop at_)).2.1.toNat) (l ++ [(decT (s.drop at_)).1])
def scanT (s : List UInt8) : List ATxn × Nat := scanG s (s.length + 1) 0 []
theorem decT_cases (s : List UInt8) : ((decT s).2.2 ≠ 0 ∧ (decT s).2.1 = 0) ∨ ((decT s).2.2 = 0 ∧ (decT s).2.1 = ((sN s + 7 : Nat) : Int) ∧ sN s + 7 ≤ s.length ∧ sN s ≤ 1024 ∧ goodT (decT s).1 = 0) := by
  by_cases h1 : noHead s
  · rw [decT_a h1]; left; simp
  by_cases h2 : noRoom s
  · rw [decT_b h1 h2]; left; simp
  by_cases h3 : noSum s
  · rw [decT_c h1 h2 h3]; left; simp
  by_cases h4 : bodyOk (sB s)
  case neg => rw [decT_d h1 h2 h3 h4]; left; simp
  by_cases h5 : goodT (bodyT (sB s)) = 0
  · rw [decT_f h1 h2 h3 h4 h5]; right
    unfold noRoom at h2
    exact ⟨rfl, rfl, by omega, by omega, h5⟩
  · rw [decT_e h1 h2 h3 h4 h5]; left; exact ⟨h5, rfl⟩
theorem scanG_stop {s : List UInt8} {f at_ : Nat} {l : List ATxn} (h : (decT (s.drop at_)).2.2 ≠ 0 ∨ (0 < l.length ∧ (decT (s.drop at_)).1.zxid ≤ lastZ l)) : scanG s f at_ l = (l, at_) := by
  cases f with
  | zero => rfl
  | succ f => rw [scanG, if_pos h]
theorem scanG_next {s : List UInt8} {f at_ n : Nat} {l : List ATxn} (h1 : (decT (s.drop at_)).2.2 = 0) (h2 : ¬ (0 < l.length ∧ (decT (s.drop at_)).1.zxid ≤ lastZ l)) (hn : (decT (s.drop at_)).2.1 = (n : Int)) : scanG s (f + 1) at_ l = scanG s f (at_ + n) (l ++ [(decT (s.drop at_)).1]) := by
  rw [scanG, if_neg (by rintro (h | h); exact h h1; exact h2 h), hn]; rfl
def t1 : ATxn := ⟨1, 1, 1, [], [], 0, 0⟩
end Go.Proofs.YtainmipdnjcbkaaGreatDoor
namespace Go.Proofs.YtainmipdnjcbkaaGreatDoor
set_option linter.unusedVariables false
set_option linter.unusedSimpArgs false
open Go Go.RowKit
set_option maxRecDepth 100000
set_option linter.unusedSimpArgs false
end Go.Proofs.YtainmipdnjcbkaaGreatDoor
namespace Go.Proofs.YtainmipdnjcbkaaGreatDoor
set_option linter.unusedVariables false
set_option linter.unusedSimpArgs false
open Go Go.RowKit
set_option maxRecDepth 100000
set_option linter.unusedSimpArgs false
def mx (a b : Int) : Int := if a < b then b else a
def seeC (c : AClient) (z : Int) : AClient × Int := if z < c.seen then (default, 15) else ({ c with seen := z }, 0)
def normE (e : AEntry) : AEntry := if e.there = true then e else ⟨e.path, [], e.there⟩
def ckeepL (l : List AEntry) (e : AEntry) : List AEntry :=
  if e.path ∈ l.map AEntry.path then l.set (place (l.map AEntry.path) e.path) (normE e) else l.insertIdx (place (l.map AEntry.path) e.path) (normE e)
end Go.Proofs.YtainmipdnjcbkaaGreatDoor
namespace Go.Proofs.YtainmipdnjcbkaaGreatDoor
set_option linter.unusedVariables false
set_option linter.unusedSimpArgs false
open Go Go.RowKit
set_option maxRecDepth 100000
set_option linter.unusedSimpArgs false
theorem erase_eq {α : Type} (R : List α) (i : Nat) : R.eraseIdx i = R.take i ++ R.drop (i + 1) := List.eraseIdx_eq_take_drop_succ R i
theorem ins_eq {α : Type} (R : List α) (i : Nat) (x : α) (h : i ≤ R.length) : R.insertIdx i x = R.take i ++ x :: R.drop i := by
  induction R generalizing i with
  | nil => have : i = 0 := by simpa using h
           subst this; rfl
  | cons a R ih =>
    cases i with
    | zero => rfl
    | succ i => simp only [List.insertIdx_succ_cons, List.take_succ_cons, List.drop_succ_cons, List.cons_append]; rw [ih i (by simpa using h)]
theorem zr {α β : Type} (f : α → β) (l : List α) (i : Nat) : (l.map f).eraseIdx i = (l.eraseIdx i).map f := by rw [erase_eq, erase_eq, List.map_append, List.map_take, List.map_drop]
theorem erase_len {α : Type} (l : List α) (i : Nat) (h : i < l.length) : (l.eraseIdx i).length = l.length - 1 := List.length_eraseIdx_of_lt h
theorem getD_ins {α : Type} (l : List α) (i : Nat) (x z : α) (h : i ≤ l.length) : (l.insertIdx i x).getD i z = x := by
  rw [ins_eq _ _ _ h, List.getD_eq_getElem?_getD, List.getElem?_append_right (by rw [List.length_take]; omega)]
  have : i - (l.take i).length = 0 := by rw [List.length_take]; omega
  rw [this]; rfl
theorem ins_len {α : Type} (l : List α) (i : Nat) (x : α) (h : i ≤ l.length) : (l.insertIdx i x).length = l.length + 1 := by rw [ins_eq _ _ _ h]; simp; omega
theorem ins_get_lt {α : Type} (l : List α) (i k : Nat) (x z : α) (h : i ≤ l.length) (hk : k < i) : (l.insertIdx i x).getD k z = l.getD k z := by
  rw [ins_eq _ _ _ h, List.getD_eq_getElem?_getD, List.getElem?_append_left (by rw [List.length_take]; omega), List.getElem?_take_of_lt hk, List.getD_eq_getElem?_getD]
end Go.Proofs.YtainmipdnjcbkaaGreatDoor
namespace Go.Proofs.YtainmipdnjcbkaaGreatDoor
set_option linter.unusedVariables false
set_option linter.unusedSimpArgs false
open Go Go.RowKit
set_option maxRecDepth 100000
set_option linter.unusedSimpArgs false
def fileOk (f : AFile) : Prop := namedP f.name = true ∧ f.safe.length + f.tail.length ≤ 1048576
instance (f : AFile) : Decidable (fileOk f) := by unfold fileOk; infer_instance
def fileK (l : List AFile) (k : Nat) : Prop := fileOk (l.getD k default) ∧ (0 < k → (l.getD (k - 1) default).name < (l.getD k default).name)
instance (l : List AFile) (k : Nat) : Decidable (fileK l k) := by unfold fileK; infer_instance
def goodD (l : List AFile) : Bool := decide (l.length ≤ 16 ∧ ∀ k, k < l.length → fileK l k)
theorem goodD_rises {l : List AFile} (h : goodD l = true) : Rises (l.map AFile.name) := by
  intro k hk
  unfold goodD at h; rw [decide_eq_true_eq] at h
  have := (h.2 (k + 1) (by simpa using hk)).2 (by omega)
  have e : ∀ j, (l.map AFile.name).getD j [] = (l.getD j default).name := fun j => getD_map AFile.name l j default
  rw [e, e]
  simpa using this
theorem same_disk_c (a b : ADisk) (h : a.files.length * 48 ≤ 140737488351232) (h2 : b.files.length * 48 ≤ 140737488351232) : acall Tryz.prog [] 21 [a.av, b.av] (ret (B (decide (a = b)))) := by
  refine zI Tryz.func21 rfl (by kernel_rfl) (by simp [Tryz.ntmps21]) ?_; simp only [Tryz.ntmps21, Tryz.results21, go_sem]
  (repeat' first
| (with_reducible refine AR.f ?_)
| refine zb (by decide) ?_
| (with_reducible refine AWP.cond rfl ?_ ?_ <;> intro hc <;> (try simp only [hcs, beq_iff_eq, ge_iff_le, gt_iff_lt] at hc))
| ((first | ((first | (with_reducible first | refine zR ?_ | refine zQ (by decide +kernel) ?_ | refine zD (by decide +kernel) ?_ | refine zE (by decide +kernel) ?_ | refine zG (by decide +kernel) ?_)); intro K hK) | ((first | (with_reducible refine zu ?_ ?_ <;> intro hg) | with_reducible intro hg) <;> (first | (exfalso; simp at hg; done) | (have hg' := hg; (try simp only [hcs, beq_iff_eq, ge_iff_le, gt_iff_lt] at hg'); (try simp only [hg]))))) <;> (try simp (disch := omega) only [go_sem, wn]) <;> (repeat' with_reducible refine And.intro ?_ ?_) <;> (try (with_reducible refine hK _ ?_; clear hK K)))
| omega)
  · (refine zF rfl ?_ ?_ ?_ ?_; (iterate 3 (focus ((try simp (disch := omega) only [go_sem, wn]) <;> (try omega) <;> fail))); (try simp (disch := omega) only [go_sem, wn, I, B, S, zj]))
    symm; rw [decide_eq_false_iff_not]; intro e; subst e; simp at hc
  have h3 := hc
  refine AWP.loopS (ι := Nat) (fun k => k ≤ a.files.length ∧ ∀ j, j < k → a.files.getD j default = b.files.getD j default) (fun k => a.files.length - k) [2, 3, 15] (fun k => [(16, I k)]) 0 ?_ (by simp (disch := omega) only [go_sem, wn, true_and]) ?_
  · exact ⟨by omega, by omega⟩
  intro k ⟨hk, hk2⟩
  simp only [go_sem]
  (repeat' first
| (with_reducible refine AR.f ?_)
| refine zb (by decide) ?_
| (with_reducible refine AWP.cond rfl ?_ ?_ <;> intro hc <;> (try simp only [hcs, beq_iff_eq, ge_iff_le, gt_iff_lt] at hc))
| ((first | ((first | (with_reducible first | refine zR ?_ | refine zQ (by decide +kernel) ?_ | refine zD (by decide +kernel) ?_ | refine zE (by decide +kernel) ?_ | refine zG (by decide +kernel) ?_)); intro K hK) | ((first | (with_reducible refine zu ?_ ?_ <;> intro hg) | with_reducible intro hg) <;> (first | (exfalso; simp at hg; done) | (have hg' := hg; (try simp only [hcs, beq_iff_eq, ge_iff_le, gt_iff_lt] at hg'); (try simp only [hg]))))) <;> (try simp (disch := omega) only [go_sem, wn]) <;> (repeat' with_reducible refine And.intro ?_ ?_) <;> (try (with_reducible refine hK _ ?_; clear hK K)))
| omega)
  · (refine zF rfl ?_ ?_ ?_ ?_; (iterate 3 (focus ((try simp (disch := omega) only [go_sem, wn]) <;> (try omega) <;> fail))); (try simp (disch := omega) only [go_sem, wn, I, B, S, zj]))
    symm; rw [decide_eq_false_iff_not]; intro e; subst e; simp at hc
  · refine ⟨k + 1, ⟨by omega, fun j hj => ?_⟩, by omega, ?_⟩
    · by_cases e : j = k
      · subst e; exact hc
      · exact hk2 j (by omega)
    (refine SImp.same ?_; simp (disch := omega) only [go_sem, wn, Int.natCast_add])
  · (refine zF rfl ?_ ?_ ?_ ?_; (iterate 3 (focus ((try simp (disch := omega) only [go_sem, wn]) <;> (try omega) <;> fail))); (try simp (disch := omega) only [go_sem, wn, I, B, S, zj]))
    symm; rw [decide_eq_true_eq, ADisk.ext_iff]
    exact eq_of_getD (by omega) fun j hj => hk2 j (by omega)
def readD (l : List AFile) (key : List UInt8) : List UInt8 × Int :=
  if goodD l = false then ([], 3) else if key ∈ l.map AFile.name then ((l.getD (place (l.map AFile.name) key) default).safe ++ (l.getD (place (l.map AFile.name) key) default).tail, 0) else ([], 7)
def changeD (l : List AFile) (key : List UInt8) (F : AFile → AFile × Int) : ADisk × Int :=
  if goodD l = false then (default, 3) else if key ∈ l.map AFile.name then
    (if (F (l.getD (place (l.map AFile.name) key) default)).2 = 0 then (⟨l.set (place (l.map AFile.name) key) (F (l.getD (place (l.map AFile.name) key) default)).1⟩, 0) else (default, (F (l.getD (place (l.map AFile.name) key) default)).2)) else (default, 7)
def syncF (f : AFile) : AFile × Int := (⟨f.name, f.safe ++ f.tail, []⟩, 0)
def cutF (n : Int) (f : AFile) : AFile × Int := if n < 0 ∨ (f.safe.length : Int) + f.tail.length < n then (default, 3) else (⟨f.name, (f.safe ++ f.tail).take n.toNat, []⟩, 0)
theorem change_ok {l : List AFile} {key : List UInt8} {F : AFile → AFile × Int} (h : goodD l = true) (h2 : key ∈ l.map AFile.name) (h3 : (F (l.getD (place (l.map AFile.name) key) default)).2 = 0) :
    changeD l key F = (⟨l.set (place (l.map AFile.name) key) (F (l.getD (place (l.map AFile.name) key) default)).1⟩, 0) := by unfold changeD; rw [if_neg (by simp [h]), if_pos h2, if_pos h3]
end Go.Proofs.YtainmipdnjcbkaaGreatDoor
namespace Go.Proofs.YtainmipdnjcbkaaGreatDoor
set_option linter.unusedVariables false
set_option linter.unusedSimpArgs false
open Go Go.RowKit
set_option maxRecDepth 100000
set_option linter.unusedSimpArgs false
def writeD (l : List AFile) (key s : List UInt8) : ADisk × Int :=
  if goodD l = false then (default, 3) else if namedP key = false then (default, 2) else
    if key ∈ l.map AFile.name then
      (if 1048576 < (l.getD (place (l.map AFile.name) key) default).safe.length + (l.getD (place (l.map AFile.name) key) default).tail.length + s.length then (default, 1)
        else (⟨l.set (place (l.map AFile.name) key) ⟨(l.getD (place (l.map AFile.name) key) default).name, (l.getD (place (l.map AFile.name) key) default).safe, (l.getD (place (l.map AFile.name) key) default).tail ++ s⟩⟩, 0))
    else if 16 ≤ l.length then (default, 6) else if 1048576 < s.length then (default, 1) else (⟨l.insertIdx (place (l.map AFile.name) key) ⟨key, [], s⟩⟩, 0)
end Go.Proofs.YtainmipdnjcbkaaGreatDoor
namespace Go.Proofs.YtainmipdnjcbkaaGreatDoor
set_option linter.unusedVariables false
set_option linter.unusedSimpArgs false
open Go Go.RowKit
set_option maxRecDepth 100000
def logN : List UInt8 := [108, 111, 103]
def appendD (l : List AFile) (t : ATxn) (safe : Bool) : ADisk × Int :=
  if goodT t ≠ 0 then (default, goodT t)
  else if (writeD l logN (encT t).1).2 ≠ 0 ∨ safe = false then writeD l logN (encT t).1 else changeD (writeD l logN (encT t).1).1.files logN syncF
end Go.Proofs.YtainmipdnjcbkaaGreatDoor
namespace Go.Proofs.YtainmipdnjcbkaaGreatDoor
set_option linter.unusedVariables false
set_option linter.unusedSimpArgs false
open Go Go.RowKit
set_option maxRecDepth 100000
theorem numN_fold (l : List UInt8) : ∀ a : Nat, l.foldl (fun v (x : UInt8) => v * 256 + x.toNat) a = a * 256 ^ l.length + numN l := by
  induction l with
  | nil => intro a; simp [numN]
  | cons x l ih =>
    intro a
    unfold numN
    rw [List.foldl_cons, List.foldl_cons, ih, ih, List.length_cons, Nat.pow_succ]
    have : (a * 256 + x.toNat) * 256 ^ l.length = a * (256 ^ l.length * 256) + x.toNat * 256 ^ l.length := by rw [Nat.add_mul, Nat.mul_assoc, Nat.mul_comm 256 (256 ^ l.length)]
    rw [this, Nat.zero_mul, Nat.zero_add, Nat.add_assoc]
theorem numN_cons (x : UInt8) (l : List UInt8) : numN (x :: l) = x.toNat * 256 ^ l.length + numN l := by
  unfold numN
  rw [List.foldl_cons, numN_fold, Nat.zero_mul, Nat.zero_add]; rfl
theorem numN_bound : ∀ l : List UInt8, numN l < 256 ^ l.length
  | [] => by simp [numN]
  | x :: l => by
    have h := numN_bound l
    have hx := x.toNat_lt
    rw [numN_cons, List.length_cons, Nat.pow_succ]
    have : x.toNat * 256 ^ l.length ≤ 255 * 256 ^ l.length := Nat.mul_le_mul_right _ (by omega)
    omega
theorem pow8 (n : Nat) : (2 : Int) ^ (8 * n) = ((256 ^ n : Nat) : Int) := by
  rw [Int.pow_mul]; simp
theorem beB_numN : ∀ (l : List UInt8) (k : Int), beB l.length ((numN l : Int) + (256 ^ l.length : Nat) * k) = l
  | [], _ => rfl
  | x :: l, k => by
    have hb := numN_bound l
    have hx := x.toNat_lt
    rw [List.length_cons, beB]
    have e : ((numN (x :: l) : Nat) : Int) + ((256 ^ (l.length + 1) : Nat) : Int) * k = (numN l : Int) + ((256 ^ l.length : Nat) : Int) * (x.toNat + 256 * k) := by
      rw [numN_cons, Nat.pow_succ, Int.natCast_add, Int.natCast_mul, Int.natCast_mul, Int.mul_add, Int.mul_comm (x.toNat : Int), Int.mul_assoc]
      generalize ((256 ^ l.length : Nat) : Int) * _ = a
      simp only [Int.cast_ofNat_Int] at *
      omega
    rw [e, beB_numN l _]
    congr 1
    unfold byteAt
    rw [pow8, Int.add_mul_ediv_left _ _ (by have : 0 < 256 ^ l.length := Nat.pow_pos (by decide)
                                            omega), Int.ediv_eq_zero_of_lt (by omega) (by omega), Int.zero_add]
    rw [show ((x.toNat : Int) + 256 * k) % 256 = x.toNat from by omega, Int.toNat_natCast, UInt8.ofNat_toNat]
theorem beB_N (l : List UInt8) (n : Nat) (h : l.length = n) : beB n (numN l : Nat) = l := by
  subst h
  have := beB_numN l 0
  rwa [Int.mul_zero, Int.add_zero] at this
theorem numW_N (l : List UInt8) : ∃ k : Int, numW l = (numN l : Int) + 18446744073709551616 * k := by
  generalize hn : l.length = n
  induction n generalizing l with
  | zero => rw [List.length_eq_zero_iff.1 hn]; exact ⟨0, rfl⟩
  | succ n ih =>
    have e : l = l.take (n + 1) := by rw [← hn, List.take_length]
    obtain ⟨k, hk⟩ := ih (l.take n) (by rw [List.length_take]; omega)
    have h1 := numW_snoc l n (by omega)
    have h2 := numN_snoc l n (by omega)
    rw [← e] at h1 h2
    rw [h1, h2, hk, wrap_i64e]
    refine ⟨(((numN (l.take n) : Int) + 18446744073709551616 * k) * 256 + (l.getD n 0).toNat - (numN (l.take n) * 256 + (l.getD n 0).toNat : Nat) - 18446744073709551616 * ((((numN (l.take n) : Int) + 18446744073709551616 * k) * 256 + (l.getD n 0).toNat + 9223372036854775808) / 18446744073709551616)) / 18446744073709551616, ?_⟩
    omega
theorem beB_W (l : List UInt8) (h : l.length = 8) : beB 8 (numW l) = l := by
  obtain ⟨k, hk⟩ := numW_N l
  have := beB_numN l k
  rw [h] at this
  rw [hk]; exact this
theorem byteAt_one (x : UInt8) : byteAt 0 (x.toNat : Int) = x := by
  have h := x.toNat_lt
  unfold byteAt
  simp only [Nat.mul_zero, Int.pow_zero, Int.ediv_one]
  rw [show ((x.toNat : Int)) % 256 = x.toNat from by omega, Int.toNat_natCast, UInt8.ofNat_toNat]
theorem body_back {b : List UInt8} (h : bodyOk b) : bodyB (bodyT b) = b := by
  unfold bodyOk at h
  have l1 : (b.take 8).length = 8 := by rw [List.length_take]; omega
  have l2 : ((b.drop 9).take 4).length = 4 := by rw [List.length_take, List.length_drop]; omega
  have l3 : ((b.drop 13).take 4).length = 4 := by rw [List.length_take, List.length_drop]; omega
  have l4 : ((b.drop 17).take 4).length = 4 := by rw [List.length_take, List.length_drop]; omega
  have l5 : ((b.drop 22).take (bP b)).length = bP b := by rw [List.length_take, List.length_drop]; omega
  have l6 : ((b.drop (22 + bP b)).take 2).length = 2 := by rw [List.length_take, List.length_drop]; omega
  have l7 : (b.drop (24 + bP b)).length = bD b := by rw [List.length_drop]; omega
  unfold bodyB b7 b6 b5 bodyT
  simp only [l5, l7]
  rw [beB_W _ l1, beB_N _ 4 l2, beB_N _ 4 l3, beB_N _ 4 l4, byteAt_one]
  rw [show ((bP b : Nat) : Int) = ((b.getD 21 0).toNat : Int) from rfl, byteAt_one]
  rw [show bD b = numN ((b.drop (22 + bP b)).take 2) from rfl, beB_N _ 2 l6]
  have one (k : Nat) (hk : k < b.length) : [b.getD k 0] = (b.drop k).take 1 := by
    rw [List.drop_eq_getElem_cons hk, List.getD_eq_getElem?_getD, List.getElem?_eq_getElem hk]; rfl
  rw [one 8 (by omega), one 21 (by omega)]
  have j (m n k : Nat) (hk : m + n = k) : b.take m ++ (b.drop m).take n = b.take k := by subst hk; exact List.take_add.symm
  rw [j 8 1 9 rfl, j 9 4 13 rfl, j 13 4 17 rfl, j 17 4 21 rfl, j 21 1 22 rfl, j 22 (bP b) (22 + bP b) rfl, j (22 + bP b) 2 (24 + bP b) (by omega), List.take_append_drop]
theorem decT_yes {s : List UInt8} (h : (decT s).2.2 = 0) : ¬ noHead s ∧ ¬ noRoom s ∧ ¬ noSum s ∧ bodyOk (sB s) ∧ goodT (bodyT (sB s)) = 0 := by
  by_cases h1 : noHead s
  · rw [decT_a h1] at h; cases h
  by_cases h2 : noRoom s
  · rw [decT_b h1 h2] at h; cases h
  by_cases h3 : noSum s
  · rw [decT_c h1 h2 h3] at h; cases h
  by_cases h4 : bodyOk (sB s)
  case neg => rw [decT_d h1 h2 h3 h4] at h; cases h
  by_cases h5 : goodT (bodyT (sB s)) = 0
  · exact ⟨h1, h2, h3, h4, h5⟩
  · rw [decT_e h1 h2 h3 h4 h5] at h; exact absurd h h5
theorem enc_back {s : List UInt8} (h : (decT s).2.2 = 0) : encT (decT s).1 = (s.take (sN s + 7), 0) := by
  obtain ⟨h1, h2, h3, h4, h5⟩ := decT_yes h
  rw [decT_f h1 h2 h3 h4 h5]
  unfold noHead at h1
  unfold noRoom at h2
  unfold noSum at h3
  have h3' : numN ((s.drop (sN s + 3)).take 4) = sumN (s.take (sN s + 3)) := Classical.byContradiction h3
  have h84 : s.getD 0 0 = 84 := Classical.byContradiction fun e => h1 (.inr e)
  have hl : ((bodyB (bodyT (sB s))).length : Int) = (sN s : Nat) := by
    rw [body_back h4]; unfold sB; rw [List.length_take, List.length_drop]; omega
  have l2 : ((s.drop 1).take 2).length = 2 := by rw [List.length_take, List.length_drop]; omega
  have l4 : ((s.drop (sN s + 3)).take 4).length = 4 := by rw [List.length_take, List.length_drop]; omega
  have one : [(84 : UInt8)] = s.take 1 := by
    rw [← h84, List.getD_eq_getElem?_getD, List.getElem?_eq_getElem (by omega)]
    rcases s with _ | ⟨x, s⟩
    · simp at h1
    · rfl
  have j (m n k : Nat) (hk : m + n = k) : s.take m ++ (s.drop m).take n = s.take k := by subst hk; exact List.take_add.symm
  have hh : headB (bodyT (sB s)) = s.take (sN s + 3) := by
    unfold headB
    rw [hl, body_back h4, one, show sN s = numN ((s.drop 1).take 2) from rfl, beB_N _ 2 l2, j 1 2 3 rfl]
    exact j 3 _ _ (by rw [Nat.add_comm]; rfl)
  unfold encT
  rw [if_pos h5]
  unfold encB
  rw [hh, ← h3', beB_N _ 4 l4, j (sN s + 3) 4 (sN s + 7) rfl]
def encs (l : List ATxn) : List UInt8 := (l.map fun t => (encT t).1).flatten
theorem encs_nil : encs [] = [] := rfl
theorem encs_snoc (l : List ATxn) (t : ATxn) : encs (l ++ [t]) = encs l ++ (encT t).1 := by unfold encs; simp
def logOk (l : List ATxn) : Prop := (∀ k, k + 1 < l.length → (l.getD k default).zxid < (l.getD (k + 1) default).zxid) ∧ ∀ t, t ∈ l → goodT t = 0
theorem logOk_nil : logOk [] := ⟨fun k h => by simp at h, fun t h => by cases h⟩
theorem logOk_snoc {l : List ATxn} {t : ATxn} (h : logOk l) (hz : 0 < l.length → lastZ l < t.zxid) (ht : goodT t = 0) : logOk (l ++ [t]) := by
  have g1 : ∀ j, j < l.length → (l ++ [t]).getD j default = l.getD j default := fun j hj => by
    rw [List.getD_eq_getElem?_getD, List.getElem?_append_left hj, List.getD_eq_getElem?_getD]
  have g2 : (l ++ [t]).getD l.length default = t := by simp [List.getD_eq_getElem?_getD]
  refine ⟨fun k hk => ?_, fun x hx => ?_⟩
  · rw [List.length_append, List.length_singleton] at hk
    rw [g1 k (by omega)]
    by_cases e : k + 1 = l.length
    · rw [e, g2]
      have := hz (by omega)
      rw [lastZ_pos (by omega), show l.length - 1 = k from by omega] at this
      exact this
    · rw [g1 _ (by omega)]; exact h.1 k (by omega)
  · rcases List.mem_append.1 hx with h1 | h1
    · exact h.2 x h1
    · rw [List.mem_singleton.1 h1]; exact ht
theorem logOk_lt {l : List ATxn} (h : logOk l) {i : Nat} : ∀ {j : Nat}, i < j → j < l.length → (l.getD i default).zxid < (l.getD j default).zxid
  | 0, h1, _ => by omega
  | j + 1, h1, h2 => by
    by_cases e : i = j
    · subst e; exact h.1 i h2
    · exact Int.lt_trans (logOk_lt h (by omega) (by omega)) (h.1 j h2)
theorem scanG_ok (s : List UInt8) : ∀ (f at_ : Nat) (l : List ATxn), logOk l → encs l = s.take at_ → at_ ≤ s.length → logOk (scanG s f at_ l).1 ∧ encs (scanG s f at_ l).1 = s.take (scanG s f at_ l).2 ∧ (scanG s f at_ l).2 ≤ s.length
  | 0, at_, l, h1, h2, h3 => ⟨h1, h2, h3⟩
  | f + 1, at_, l, h1, h2, h3 => by
    by_cases hc : (decT (s.drop at_)).2.2 ≠ 0 ∨ (0 < l.length ∧ (decT (s.drop at_)).1.zxid ≤ lastZ l)
    · rw [scanG_stop hc]; exact ⟨h1, h2, h3⟩
    · have hz : (decT (s.drop at_)).2.2 = 0 := Classical.byContradiction fun h => hc (.inl h)
      have hr : ¬ (0 < l.length ∧ (decT (s.drop at_)).1.zxid ≤ lastZ l) := fun h => hc (.inr h)
      rcases decT_cases (s.drop at_) with ⟨c, _⟩ | ⟨_, c2, c3, _, c5⟩
      · exact absurd hz c
      rw [scanG_next hz hr c2]
      rw [List.length_drop] at c3
      refine scanG_ok s f _ _ (logOk_snoc h1 (fun h0 => ?_) c5) ?_ (by omega)
      · exact Int.not_le.1 fun h => hr ⟨h0, h⟩
      · rw [encs_snoc, h2, enc_back hz]; exact List.take_add.symm
theorem scanT_ok (s : List UInt8) : logOk (scanT s).1 ∧ encs (scanT s).1 = s.take (scanT s).2 ∧ (scanT s).2 ≤ s.length := scanG_ok s _ 0 [] logOk_nil rfl (Nat.zero_le _)
def keepL (l : List ATxn) (z : Int) : List ATxn := l.filter fun t => decide (t.zxid ≤ z)
theorem nm (l : List AFile) (k : Nat) : (l.map AFile.name).getD k [] = (l.getD k default).name := getD_map AFile.name l k default
theorem goodD_iff {l : List AFile} : goodD l = true ↔ l.length ≤ 16 ∧ ∀ k, k < l.length → fileK l k := by unfold goodD; rw [decide_eq_true_eq]
end Go.Proofs.YtainmipdnjcbkaaGreatDoor
namespace Go.Proofs.YtainmipdnjcbkaaGreatDoor
set_option linter.unusedVariables false
set_option linter.unusedSimpArgs false
open Go Go.RowKit
set_option maxRecDepth 100000
def recoverD (l : List AFile) : List ATxn × ADisk × Int :=
  if (readD l logN).2 = 7 then (if (writeD l logN []).2 = 0 then ([], (writeD l logN []).1, 0) else ([], default, (writeD l logN []).2))
  else if (readD l logN).2 = 0 then ((scanT (readD l logN).1).1, (changeD l logN (cutF (scanT (readD l logN).1).2)).1, 0)
  else ([], default, (readD l logN).2)
theorem read_zero {l : List AFile} {key : List UInt8} (h : (readD l key).2 = 0) : goodD l = true ∧ key ∈ l.map AFile.name ∧ (readD l key).1 = (l.getD (place (l.map AFile.name) key) default).safe ++ (l.getD (place (l.map AFile.name) key) default).tail := by
  unfold readD at h ⊢
  split at h
  · cases h
  · rename_i hg
    split at h
    · rename_i hm
      rw [if_neg hg, if_pos hm]
      exact ⟨by simpa using hg, hm, rfl⟩
    · cases h
theorem cut_ok {l : List AFile} {key : List UInt8} {n : Nat} (hg : goodD l = true) (hm : key ∈ l.map AFile.name) (hn : n ≤ ((l.getD (place (l.map AFile.name) key) default).safe ++ (l.getD (place (l.map AFile.name) key) default).tail).length) :
    changeD l key (cutF n) = (⟨l.set (place (l.map AFile.name) key) ⟨key, ((l.getD (place (l.map AFile.name) key) default).safe ++ (l.getD (place (l.map AFile.name) key) default).tail).take n, []⟩⟩, 0) := by
  have e : cutF n (l.getD (place (l.map AFile.name) key) default) = (⟨(l.getD (place (l.map AFile.name) key) default).name, ((l.getD (place (l.map AFile.name) key) default).safe ++ (l.getD (place (l.map AFile.name) key) default).tail).take n, []⟩, 0) := by
    rw [List.length_append] at hn
    unfold cutF; rw [if_neg (by omega), Int.toNat_natCast]
  rw [change_ok hg hm (by rw [e]), e]
  have := (zc (goodD_rises hg) hm).2
  rw [nm] at this
  simp only [this]
theorem cut_scan {l : List AFile} (h : (readD l logN).2 = 0) : (changeD l logN (cutF (scanT (readD l logN).1).2)) = (⟨l.set (place (l.map AFile.name) logN) ⟨logN, encs (scanT (readD l logN).1).1, []⟩⟩, 0) := by
  obtain ⟨a, b, c⟩ := read_zero h
  obtain ⟨d1, d2, d3⟩ := scanT_ok (readD l logN).1
  rw [cut_ok a b (by rw [← c]; exact d3), ← c, ← d2]
theorem logN_named : namedP logN = true := by decide
structure RecOk (l : List AFile) (r : List AFile) (L : List ATxn) : Prop where
  good : goodD r = true
  mem : logN ∈ r.map AFile.name
  file : r.getD (place (r.map AFile.name) logN) default = ⟨logN, encs L, []⟩
  ok : logOk L
  len : (encs L).length ≤ 1048576
  cnt : L.length ≤ 1048577
  wf : (∀ f, f ∈ l → f.wf) → ∀ f, f ∈ r → f.wf
theorem rec_d {l : List AFile} (h : ¬ (readD l logN).2 = 7) (h2 : (readD l logN).2 = 0) : recoverD l = ((scanT (readD l logN).1).1, (changeD l logN (cutF (scanT (readD l logN).1).2)).1, 0) := by unfold recoverD; rw [if_neg h, if_pos h2]
def keepD (l : List AFile) (z : Int) : ADisk × Int :=
  if (recoverD l).2.2 = 0 then (⟨(recoverD l).2.1.files.set (place ((recoverD l).2.1.files.map AFile.name) logN) ⟨logN, encs (keepL (recoverD l).1 z), []⟩⟩, 0) else (default, (recoverD l).2.2)
end Go.Proofs.YtainmipdnjcbkaaGreatDoor
namespace Go.Proofs.YtainmipdnjcbkaaGreatDoor
set_option linter.unusedVariables false
set_option linter.unusedSimpArgs false
open Go Go.RowKit
set_option maxRecDepth 100000
set_option linter.unusedSimpArgs false
theorem byteAt_nat (k n : Nat) : (byteAt k (n : Int)).toNat = n / 256 ^ k % 256 := by
  unfold byteAt
  rw [pow8]
  have e : ((n : Int) / ((256 ^ k : Nat) : Int) % 256).toNat = n / 256 ^ k % 256 := by
    rw [← Int.natCast_ediv, show (256 : Int) = ((256 : Nat) : Int) from rfl, ← Int.natCast_emod, Int.toNat_natCast]
  rw [e, UInt8.toNat_ofNat', Nat.mod_mod]
theorem numN_beB (n : Nat) : ∀ k, numN (beB k (n : Int)) = n % 256 ^ k
  | 0 => by rw [Nat.pow_zero, Nat.mod_one]; rfl
  | k + 1 => by
    rw [beB, numN_cons, beB_len, numN_beB n k, byteAt_nat, Nat.pow_succ, Nat.mod_mul, Nat.mul_comm (256 ^ k), Nat.add_comm]
theorem numN_beB_lt {n k : Nat} (h : n < 256 ^ k) : numN (beB k (n : Int)) = n := by rw [numN_beB, Nat.mod_eq_of_lt h]
theorem numW_beB {z : Int} (h0 : 0 ≤ z) (h : z < 9223372036854775808) : numW (beB 8 z) = z := by
  obtain ⟨n, rfl⟩ := Int.eq_ofNat_of_zero_le h0
  obtain ⟨k, hk⟩ := numW_N (beB 8 (n : Int))
  rw [numN_beB_lt (by omega)] at hk
  have := numW_okI (beB 8 (n : Int))
  unfold okI at this
  omega
theorem goodT_all {t : ATxn} (h : goodT t = 0) : (0 ≤ t.zxid ∧ t.zxid < 9223372036854775808) ∧ (1 ≤ t.op ∧ t.op ≤ 5) ∧ (1 ≤ t.session ∧ t.session ≤ 2147483647) ∧ (0 ≤ t.version ∧ t.version ≤ 2147483647) ∧ (0 ≤ t.owner ∧ t.owner ≤ 2147483647) ∧ t.path.length ≤ 200 ∧ t.data.length ≤ 256 := by
  obtain ⟨a, b⟩ := goodT_small h
  unfold goodT at h
  split at h
  · cases h
  split at h
  · cases h
  rename_i h1 h2
  have h3 := (numsB_iff t).1 (by simpa using h2)
  have hz := h3.1
  unfold goodZ at hz
  exact ⟨by omega, by omega, h3.2.1, h3.2.2.1, h3.2.2.2, a, b⟩
theorem mid {A B C s : List UInt8} (h : s = A ++ (B ++ C)) {n m : Nat} (hn : A.length = n) (hm : B.length = m) : (s.drop n).take m = B := by
  rw [h, List.drop_left' hn, List.take_left' hm]
theorem at1 {A C s : List UInt8} {x : UInt8} (h : s = A ++ (x :: C)) {n : Nat} (hn : A.length = n) : s.getD n 0 = x := by
  rw [h, List.getD_eq_getElem?_getD, List.getElem?_append_right (by omega), hn, Nat.sub_self]; rfl
theorem op_byte {z : Int} (h0 : 0 ≤ z) (h : z < 256) : ((byteAt 0 z).toNat : Int) = z := by
  obtain ⟨n, rfl⟩ := Int.eq_ofNat_of_zero_le h0
  rw [byteAt_nat, Nat.pow_zero, Nat.div_one, Nat.mod_eq_of_lt (by omega)]
theorem num_beB {z : Int} {k : Nat} (h0 : 0 ≤ z) (h : z < ((256 ^ k : Nat) : Int)) : ((numN (beB k z) : Nat) : Int) = z := by
  obtain ⟨n, rfl⟩ := Int.eq_ofNat_of_zero_le h0
  rw [numN_beB_lt (by omega)]
theorem enc_eq {t : ATxn} (h : goodT t = 0) : (encT t).1 = encB t := by unfold encT; rw [if_pos h]
theorem enc_len {t : ATxn} (h : goodT t = 0) : (encT t).1.length = 31 + t.path.length + t.data.length := by
  rw [enc_eq h, encB, List.length_append, headB_len, beB_len]; omega
theorem dec_enc {t : ATxn} (h : goodT t = 0) (more : List UInt8) : decT ((encT t).1 ++ more) = (t, (((encT t).1.length : Nat) : Int), 0) := by
  obtain ⟨⟨z0, z1⟩, ⟨p0, p1⟩, ⟨s0, s1⟩, ⟨v0, v1⟩, ⟨o0, o1⟩, lp, ld⟩ := goodT_all h
  rw [enc_len h, enc_eq h]
  have hb := bodyB_len t
  have hh := headB_len t
  -- the record's parts
  have e0 : encB t ++ more = 84 :: (beB 2 ((bodyB t).length : Int) ++ (bodyB t ++ (beB 4 (sumN (headB t)) ++ more))) := by
    unfold encB headB; simp only [List.append_assoc, List.cons_append, List.nil_append]
  have e1 : encB t ++ more = headB t ++ (beB 4 (sumN (headB t)) ++ more) := by unfold encB; rw [List.append_assoc]
  generalize hs : encB t ++ more = s at e0 e1 ⊢
  have hsl : s.length = 31 + t.path.length + t.data.length + more.length := by
    rw [e1]; simp only [List.length_append, hh, beB_len]; omega
  have hN : sN s = (bodyB t).length := by
    unfold sN
    rw [mid (n := 1) (m := 2) (A := [84]) (B := beB 2 ((bodyB t).length : Int)) e0 rfl (beB_len _ _), numN_beB_lt (by omega)]
  have h1 : ¬ noHead s := by
    unfold noHead; rw [e0]; rintro (h | h)
    · rw [← e0] at h; omega
    · exact h rfl
  have h2 : ¬ noRoom s := by unfold noRoom; rw [hN]; omega
  have hsum := sum_lt (headB t)
  have h3 : ¬ noSum s := by
    unfold noSum
    rw [hN, mid (A := headB t) (B := beB 4 (sumN (headB t))) (C := more) e1 (by omega) (beB_len _ _), numN_beB_lt (by omega), e1, List.take_left' (by omega)]
    exact fun h => h rfl
  have hB : sB s = bodyB t := by
    unfold sB
    rw [hN]
    exact mid (A := [84] ++ beB 2 ((bodyB t).length : Int)) (C := beB 4 (sumN (headB t)) ++ more) (by rw [e0]; simp only [List.append_assoc, List.cons_append, List.nil_append]) (by rw [List.length_append, beB_len]; rfl) rfl
  have hbt : bodyOk (bodyB t) ∧ bodyT (bodyB t) = t := by
    have b1 : bodyB t = b6 t ++ (byteAt 0 t.path.length :: (t.path ++ (beB 2 t.data.length ++ t.data))) := by unfold bodyB b7; simp only [List.append_assoc, List.cons_append, List.nil_append]
    have b2 : bodyB t = b7 t ++ (beB 2 t.data.length ++ t.data) := by unfold bodyB; simp only [List.append_assoc]
    have b3 : bodyB t = beB 8 t.zxid ++ (byteAt 0 t.op :: (beB 4 t.session ++ (beB 4 t.version ++ (beB 4 t.owner ++ (byteAt 0 t.path.length :: (t.path ++ (beB 2 t.data.length ++ t.data))))))) := by
      unfold bodyB b7 b6 b5; simp only [List.append_assoc, List.cons_append, List.nil_append]
    have b4 : bodyB t = (beB 8 t.zxid ++ [byteAt 0 t.op]) ++ (beB 4 t.session ++ (beB 4 t.version ++ (beB 4 t.owner ++ (byteAt 0 t.path.length :: (t.path ++ (beB 2 t.data.length ++ t.data)))))) := by
      rw [b3]; simp only [List.append_assoc, List.cons_append, List.nil_append]
    have b5' : bodyB t = b5 t ++ (beB 4 t.version ++ (beB 4 t.owner ++ (byteAt 0 t.path.length :: (t.path ++ (beB 2 t.data.length ++ t.data))))) := by
      unfold bodyB b7 b6; simp only [List.append_assoc, List.cons_append, List.nil_append]
    have b6' : bodyB t = (b5 t ++ beB 4 t.version) ++ (beB 4 t.owner ++ (byteAt 0 t.path.length :: (t.path ++ (beB 2 t.data.length ++ t.data)))) := by
      rw [b5']; simp only [List.append_assoc]
    have b7' : bodyB t = (b6 t ++ [byteAt 0 t.path.length]) ++ (t.path ++ (beB 2 t.data.length ++ t.data)) := by
      rw [b1]; simp only [List.append_assoc, List.cons_append, List.nil_append]
    have b8 : bodyB t = (b7 t ++ beB 2 t.data.length) ++ t.data := rfl
    have hP : bP (bodyB t) = t.path.length := by
      unfold bP; rw [at1 b1 (b6_len t), byteAt_nat, Nat.pow_zero, Nat.div_one, Nat.mod_eq_of_lt (by omega)]
    have hD : bD (bodyB t) = t.data.length := by
      unfold bD; rw [hP, mid b2 (b7_len t) (beB_len _ _), numN_beB_lt (by omega)]
    refine ⟨by unfold bodyOk; rw [hP, hD]; omega, ?_⟩
    unfold bodyT
    rw [hP, show (bodyB t).take 8 = beB 8 t.zxid from by rw [b3, List.take_left' (beB_len _ _)], numW_beB z0 z1, at1 b3 (beB_len _ _), op_byte (by omega) (by omega),
      mid b4 (by rw [List.length_append, beB_len]; rfl) (beB_len _ _), num_beB (by omega) (by omega), mid b5' (b5_len t) (beB_len _ _), num_beB v0 (by omega),
      mid b6' (by rw [List.length_append, b5_len, beB_len]) (beB_len _ _), num_beB o0 (by omega), mid b7' (by rw [List.length_append, b6_len]; rfl) rfl,
      show (bodyB t).drop (24 + t.path.length) = t.data from by rw [b8, List.drop_left' (by rw [List.length_append, b7_len, beB_len]; omega)]]
  rw [decT_f h1 h2 h3 (by rw [hB]; exact hbt.1) (by rw [hB, hbt.2]; exact h), hB, hbt.2, hN]
  congr 2
  omega
theorem encs_cons (t : ATxn) (l : List ATxn) : encs (t :: l) = (encT t).1 ++ encs l := by unfold encs; simp
theorem encs_app (a b : List ATxn) : encs (a ++ b) = encs a ++ encs b := by unfold encs; simp
theorem dec_nil : (decT []).2.2 ≠ 0 := by decide
theorem logOk_tail {t : ATxn} {l : List ATxn} (h : logOk (t :: l)) : logOk l := by
  refine ⟨fun k hk => ?_, fun x hx => h.2 x (List.mem_cons_of_mem _ hx)⟩
  have := h.1 (k + 1) (by simpa using hk)
  simpa using this
theorem scanG_more {s : List UInt8} {f at_ : Nat} {l : List ATxn} {t : ATxn} {more : List UInt8} (ht : goodT t = 0) (hz : 0 < l.length → lastZ l < t.zxid) (hd : s.drop at_ = (encT t).1 ++ more) :
    scanG s (f + 1) at_ l = scanG s f (at_ + (encT t).1.length) (l ++ [t]) := by
  have e := dec_enc ht more
  rw [scanG_next (n := (encT t).1.length) (by rw [hd, e]) (by rw [hd, e]; rintro ⟨h0, h1⟩; have := hz h0; simp only at h1; omega) (by rw [hd, e]), hd, e]
theorem scanG_log (s : List UInt8) : ∀ (r : List ATxn) (f at_ : Nat) (l : List ATxn) (rest : List UInt8), logOk r → (0 < l.length → 0 < r.length → lastZ l < (r.getD 0 default).zxid) → s.drop at_ = encs r ++ rest → (decT rest).2.2 ≠ 0 → r.length < f →
    scanG s f at_ l = (l ++ r, at_ + (encs r).length)
  | [], f, at_, l, rest, _, _, hd, hr, hf => by
    obtain ⟨f, rfl⟩ : ∃ g, f = g + 1 := ⟨f - 1, by simp at hf; omega⟩
    rw [encs_nil, List.nil_append] at hd
    rw [scanG_stop (.inl (by rw [hd]; exact hr)), List.append_nil, encs_nil]; rfl
  | t :: r, f, at_, l, rest, ho, hz, hd, hr, hf => by
    obtain ⟨f, rfl⟩ : ∃ g, f = g + 1 := ⟨f - 1, by simp at hf; omega⟩
    rw [encs_cons, List.append_assoc] at hd
    rw [scanG_more (ho.2 t (List.mem_cons_self ..)) (fun h0 => hz h0 (by simp)) hd]
    rw [scanG_log s r f _ (l ++ [t]) rest (logOk_tail ho) (fun _ h1 => ?_) (by rw [← List.drop_drop, hd, List.drop_left' rfl]) hr (by simp at hf; omega), encs_cons, List.length_append, List.append_assoc, Nat.add_assoc]
    · rfl
    · rw [lastZ_snoc]
      have := ho.1 0 (by simp; omega)
      simpa using this
theorem enc_pos {t : ATxn} (h : goodT t = 0) : 31 ≤ (encT t).1.length := by rw [enc_len h]; omega
theorem encs_ge {l : List ATxn} (h : ∀ t, t ∈ l → goodT t = 0) : l.length * 31 ≤ (encs l).length := by
  induction l with
  | nil => exact Nat.zero_le _
  | cons t l ih =>
    have h1 := enc_pos (h t (List.mem_cons_self ..))
    have h2 := ih fun x hx => h x (List.mem_cons_of_mem _ hx)
    rw [encs_cons, List.length_append, List.length_cons]; omega
theorem scan_log {l : List ATxn} (h : logOk l) {rest : List UInt8} (hr : (decT rest).2.2 ≠ 0) : scanT (encs l ++ rest) = (l, (encs l).length) := by
  have hl := encs_ge h.2
  unfold scanT
  rw [scanG_log _ l _ 0 [] rest h (fun h0 => absurd h0 (by decide)) rfl hr (by rw [List.length_append]; omega), List.nil_append, Nat.zero_add]
end Go.Proofs.YtainmipdnjcbkaaGreatDoor
namespace Go.Proofs.YtainmipdnjcbkaaGreatDoor
set_option linter.unusedVariables false
set_option linter.unusedSimpArgs false
open Go Go.RowKit
set_option maxRecDepth 100000
set_option linter.unusedSimpArgs false
def epN : List UInt8 := [101, 112, 111, 99, 104]
def mkD (e : Option (List UInt8)) (s t : List UInt8) : List AFile :=
  match e with
  | none => [⟨logN, s, t⟩]
  | some x => [⟨epN, x, []⟩, ⟨logN, s, t⟩]
def okD (e : Option (List UInt8)) (s t : List UInt8) : Prop := (∀ x, e = some x → x.length ≤ 1048576) ∧ s.length + t.length ≤ 1048576
theorem ep_named : namedP epN = true := by decide
theorem epN_lt : epN < logN := by decide
theorem mk_good {e : Option (List UInt8)} {s t : List UInt8} (h : okD e s t) : goodD (mkD e s t) = true := by
  rw [goodD_iff]
  obtain ⟨h1, h2⟩ := h
  cases e with
  | none =>
    refine ⟨by show 1 ≤ 16; decide, fun k hk => ?_⟩
    have hk0 : k = 0 := by have : k < 1 := hk; omega
    subst hk0
    exact ⟨⟨logN_named, h2⟩, fun h => absurd h (by decide)⟩
  | some x =>
    have h3 := h1 x rfl
    refine ⟨by show 2 ≤ 16; decide, fun k hk => ?_⟩
    have hk0 : k = 0 ∨ k = 1 := by have : k < 2 := hk; omega
    rcases hk0 with rfl | rfl
    · exact ⟨⟨ep_named, by show x.length + 0 ≤ _; omega⟩, fun h => absurd h (by decide)⟩
    · exact ⟨⟨logN_named, h2⟩, fun _ => epN_lt⟩
theorem place_log0 : place [logN] logN = 0 := by decide
theorem place_log1 : place [epN, logN] logN = 1 := by decide
theorem place_ep1 : place [epN, logN] epN = 0 := by decide
theorem mk_names0 (s t : List UInt8) : (mkD none s t).map AFile.name = [logN] := rfl
theorem mk_names1 (x s t : List UInt8) : (mkD (some x) s t).map AFile.name = [epN, logN] := rfl
theorem mk_mem (e : Option (List UInt8)) (s t : List UInt8) : logN ∈ (mkD e s t).map AFile.name := by
  cases e with
  | none => rw [mk_names0]; exact List.mem_singleton.2 rfl
  | some x => rw [mk_names1]; simp
theorem mk_get (e : Option (List UInt8)) (s t : List UInt8) : (mkD e s t).getD (place ((mkD e s t).map AFile.name) logN) default = ⟨logN, s, t⟩ := by
  cases e with
  | none => rw [mk_names0, place_log0]; rfl
  | some x => rw [mk_names1, place_log1]; rfl
theorem mk_set (e : Option (List UInt8)) (s t s2 t2 : List UInt8) : (mkD e s t).set (place ((mkD e s t).map AFile.name) logN) ⟨logN, s2, t2⟩ = mkD e s2 t2 := by
  cases e with
  | none => rw [mk_names0, place_log0]; rfl
  | some x => rw [mk_names1, place_log1]; rfl
theorem read_log {e : Option (List UInt8)} {s t : List UInt8} (h : okD e s t) : readD (mkD e s t) logN = (s ++ t, 0) := by
  unfold readD
  rw [if_neg (by rw [mk_good h]; decide), if_pos (mk_mem e s t), mk_get]
theorem read_ep1 {x s t : List UInt8} (h : okD (some x) s t) : readD (mkD (some x) s t) epN = (x, 0) := by
  unfold readD
  rw [if_neg (by rw [mk_good h]; decide), mk_names1, if_pos (by simp), place_ep1]
  show (x ++ [], (0 : Int)) = _
  rw [List.append_nil]
theorem read_ep0 {s t : List UInt8} (h : okD none s t) : readD (mkD none s t) epN = ([], 7) := by
  unfold readD
  rw [if_neg (by rw [mk_good h]; decide), mk_names0, if_neg (by decide)]
theorem write_log {e : Option (List UInt8)} {s t x : List UInt8} (h : okD e s t) (hx : s.length + t.length + x.length ≤ 1048576) : writeD (mkD e s t) logN x = (⟨mkD e s (t ++ x)⟩, 0) := by
  unfold writeD
  rw [if_neg (by rw [mk_good h]; decide), if_neg (by rw [logN_named]; decide), if_pos (mk_mem e s t), mk_get]
  simp only
  rw [if_neg (by omega), mk_set]
theorem change_log {e : Option (List UInt8)} {s t : List UInt8} (h : okD e s t) (F : AFile → AFile × Int) {s2 t2 : List UInt8} (hF : F ⟨logN, s, t⟩ = (⟨logN, s2, t2⟩, 0)) : changeD (mkD e s t) logN F = (⟨mkD e s2 t2⟩, 0) := by
  rw [change_ok (mk_good h) (mk_mem e s t) (by rw [mk_get, hF]), mk_get, hF, mk_set]
theorem append_mk {e : Option (List UInt8)} {s t : List UInt8} (h : okD e s t) {x : ATxn} (hx : goodT x = 0) (hl : s.length + t.length + (encT x).1.length ≤ 1048576) (safe : Bool) :
    appendD (mkD e s t) x safe = (⟨if safe then mkD e (s ++ (t ++ (encT x).1)) [] else mkD e s (t ++ (encT x).1)⟩, 0) := by
  unfold appendD
  rw [if_neg (by rw [hx]; decide), write_log h hl]
  cases safe with
  | false => rw [if_pos (.inr rfl)]; rfl
  | true =>
    rw [if_neg (by simp)]
    have h2 : okD e s (t ++ (encT x).1) := ⟨h.1, by rw [List.length_append]; omega⟩
    exact change_log h2 syncF rfl
theorem recover_mk {e : Option (List UInt8)} {s t : List UInt8} (h : okD e s t) : recoverD (mkD e s t) = ((scanT (s ++ t)).1, ⟨mkD e (encs (scanT (s ++ t)).1) []⟩, 0) := by
  have hr := read_log h
  rw [rec_d (by rw [hr]; exact (by decide : ¬ (0 : Int) = 7)) (by rw [hr]), cut_scan (by rw [hr]), hr, mk_set]
theorem scan_small (s : List UInt8) : (encs (scanT s).1).length ≤ s.length := by
  obtain ⟨_, h2, h3⟩ := scanT_ok s
  rw [h2, List.length_take]; omega
end Go.Proofs.YtainmipdnjcbkaaGreatDoor
namespace Go.Proofs.YtainmipdnjcbkaaGreatDoor
set_option linter.unusedVariables false
set_option linter.unusedSimpArgs false
open Go Go.RowKit
set_option maxRecDepth 100000
set_option linter.unusedSimpArgs false
end Go.Proofs.YtainmipdnjcbkaaGreatDoor
namespace Go.Proofs.YtainmipdnjcbkaaGreatDoor
set_option linter.unusedVariables false
set_option linter.unusedSimpArgs false
open Go Go.RowKit
set_option maxRecDepth 100000
set_option linter.unusedSimpArgs false
def RisesI (l : List Int) : Prop := ∀ k, k + 1 < l.length → l.getD k default < l.getD (k + 1) default
theorem risesI_lt {l : List Int} (h : RisesI l) {i : Nat} : ∀ {j : Nat}, i < j → j < l.length → l.getD i default < l.getD j default
  | 0, h1, _ => by omega
  | j + 1, h1, h2 => by
    by_cases e : i = j
    · subst e; exact h i h2
    · exact Int.lt_trans (risesI_lt h (by omega) (by omega)) (h j h2)
def placeI (l : List Int) (key : Int) : Nat := l.findIdx fun x => !decide (x < key)
theorem placeI_eq {l : List Int} {key : Int} {i : Nat} (h0 : i ≤ l.length) (h1 : ∀ k, k < i → l.getD k default < key) (h2 : i < l.length → ¬ l.getD i default < key) : placeI l key = i := by
  unfold placeI
  by_cases e : i < l.length
  · rw [List.findIdx_eq e]
    have h3 := h2 e
    rw [List.getD_eq_getElem?_getD, List.getElem?_eq_getElem e] at h3
    refine ⟨by simpa using h3, fun j hj => ?_⟩
    have h4 := h1 j hj
    rw [List.getD_eq_getElem?_getD, List.getElem?_eq_getElem (by omega)] at h4
    simpa using h4
  · have e2 : i = l.length := by omega
    subst e2
    rw [List.findIdx_eq_length]
    intro x hx
    obtain ⟨j, hj, rfl⟩ := List.getElem_of_mem hx
    have h4 := h1 j hj
    rw [List.getD_eq_getElem?_getD, List.getElem?_eq_getElem hj] at h4
    simpa using h4
end Go.Proofs.YtainmipdnjcbkaaGreatDoor
