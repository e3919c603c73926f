/- What operations that neither write nor make memory do to abstract values, and that the model's operations do just that. It holds over any program whose types read as the table says. -/
import Derived.Test.YtfnilhdofopoeabDoorAv
namespace Go.Proofs.YtfnilhdofopoeabDoor
set_option linter.unusedVariables false
set_option linter.unusedSimpArgs false
open Go Go.RowKit

inductive TK where
  | int (k : IntKind)
  | bool
  | str
  | slice (e : TypeId)
  | struct (fs : List (Nat × Nat × TypeId))
  | array (n : Nat) (e : TypeId)
  | pointer (e : TypeId)
  | map (k e : TypeId)
  | func
  | other

structure TI where
  size : Nat
  bytes : Nat
  zero : List DV
  kind : TK
  cmp : List TK := []

def DV.val : DV → Value
  | .int k n => .int k n
  | .bool b => .bool b
  | .str l => mkStr l
  | .sl _ _ => undef
  | .sc v => v

def TI.agg (ti : TI) : Bool :=
  match ti.kind with
  | .struct _ => true
  | .array _ _ => true
  | _ => false

def fieldsOk (P : Program) (fields : Array Field) (fs : List (Nat × Nat × TypeId)) : Prop :=
  ∀ (j : Nat) (o s t : Nat), fs[j]? = some (o, s, t) → ∃ f, fields[j]? = some f ∧ f.offset = o ∧ f.type = t ∧ s ≠ 0 ∧ ∃ i, P.info? t = some i ∧ i.size = s

def kindOk (P : Program) (d : TypeDesc) : TK → Prop
  | .int k => d = .int k
  | .bool => d = .bool
  | .str => d = .string
  | .slice e => d = .slice e
  | .struct fs => ∃ fields, d = .struct fields ∧ fields.size = fs.length ∧ fieldsOk P fields fs
  | .array n e => d = .array n e
  | .pointer e => d = .pointer e
  | .map k e => d = .map k e
  | .func => ∃ a b c, d = .func a b c
  | .other => True

/-- The kinds of a struct's cells, where all of them are compared by '=='. -/
def leavesF (P : Program) (one : TypeId → Option (List TK)) : List Field → Nat → Option (List TK)
  | [], _ => some []
  | f :: r, o =>
    match one f.type, leavesF P one r (o + P.cellsOf f.type) with
    | some a, some b => if f.name ≠ "_" ∧ f.offset = o ∧ a.length = P.cellsOf f.type ∧ 0 < a.length then some (a ++ b) else none
    | _, _ => none
def leaves (P : Program) : Nat → TypeId → Option (List TK)
  | 0, _ => none
  | d + 1, t =>
    match P.underlying t with
    | some .bool => some [.bool]
    | some .string => some [.str]
    | some (.int k) => some [.int k]
    | some (.struct fs) => if P.stoodInHeld t then none else leavesF P (leaves P d) fs.toList 0
    | _ => none
def cmpOk (P : Program) (t : TypeId) (ks : List TK) : Prop := leaves P 8 t = some ks ∧ P.eqGuardType P.depth t = false ∧ ∃ fs, P.underlying t = some (.struct fs)

structure TyOk (P : Program) (t : TypeId) (ti : TI) : Prop where
  info : ∃ i z, P.info? t = some i ∧ i.size = ti.size ∧ i.bytes = ti.bytes ∧ i.zero = some z ∧ (if ti.agg then z = .agg (ti.zero.map DV.val).toArray else [z] = ti.zero.map DV.val)
  und : ∃ d, P.underlying t = some d ∧ kindOk P d ti.kind
  one : ∀ x, x ∈ ti.zero → x.val.oneCell' = true ∧ ∀ sz rs, x ≠ .sl sz rs
  zl : ti.zero.length = ti.size
  cmp : ti.cmp ≠ [] → cmpOk P t ti.cmp

def TabOk (P : Program) (T : TypeId → TI) : Prop := ∀ t, (match (T t).kind with | .other => True | _ => TyOk P t (T t))

def strip : AV → AV
  | .gd _ v => v
  | v => v
def gdok : AV → Prop
  | .gd g _ => g = true
  | _ => True

theorem strip_ok {ρ : List (Option (Nat × Nat))} {ok : Nat → Prop} {w : World} {x : AV} {u : Value} (h : RepV ρ ok w x u) (hg : gdok x) : RepV ρ ok w (strip x) u := by
  cases x with
  | gd g v => cases h with | gd _ _ _ ht hf => exact ht hg
  | _ => exact h

abbrev I (n : Int) : AV := .d (.int .i64 n)
abbrev B (b : Bool) : AV := .d (.bool b)
abbrev S (l : List UInt8) : AV := .d (.str l)

/-- What a pure operation asks, and what it gives. -/
structure PR where
  ok : Prop
  v : AV

def binInt (op : BinOp) (k k' : IntKind) (a b : Int) : PR :=
  match op with
  | .add => ⟨k = k', .d (.int k (k.wrap (a + b)))⟩
  | .sub => ⟨k = k', .d (.int k (k.wrap (a - b)))⟩
  | .mul => ⟨k = k', .d (.int k (k.wrap (a * b)))⟩
  | .quo => ⟨k = k' ∧ b ≠ 0, .d (.int k (k.wrap (a.tdiv b)))⟩
  | .rem => ⟨k = k' ∧ b ≠ 0, .d (.int k (a.tmod b))⟩
  | .and => ⟨k = k', .d (.int k (bits .and k a b))⟩
  | .or => ⟨k = k', .d (.int k (bits .or k a b))⟩
  | .xor => ⟨k = k', .d (.int k (bits .xor k a b))⟩
  | .andNot => ⟨k = k', .d (.int k (bits .andNot k a b))⟩
  | .shl => ⟨0 ≤ b ∧ b ≤ k.bits, .d (.int k (k.wrap (a * 2 ^ b.toNat)))⟩
  | .shr => ⟨0 ≤ b ∧ b ≤ k.bits, .d (.int k (a / 2 ^ b.toNat))⟩
  | .eql => ⟨k = k', .d (.bool (decide (a = b)))⟩
  | .neq => ⟨k = k', .d (.bool (!decide (a = b)))⟩
  | .lss => ⟨k = k', .d (.bool (decide (a < b)))⟩
  | .leq => ⟨k = k', .d (.bool (decide (a ≤ b)))⟩
  | .gtr => ⟨k = k', .d (.bool (decide (b < a)))⟩
  | .geq => ⟨k = k', .d (.bool (decide (b ≤ a)))⟩

def strLt (a b : List UInt8) : Bool := Op.bytesLess a b

def binStr (op : BinOp) (a b : List UInt8) : PR :=
  match op with
  | .add => ⟨a.length + b.length ≤ 9223372036854775807, .d (.str (a ++ b))⟩
  | .eql => ⟨True, .d (.bool (decide (a = b)))⟩
  | .neq => ⟨True, .d (.bool (!decide (a = b)))⟩
  | .lss => ⟨True, .d (.bool (strLt a b))⟩
  | .leq => ⟨True, .d (.bool (strLt a b || decide (a = b)))⟩
  | .gtr => ⟨True, .d (.bool (!(strLt a b || decide (a = b))))⟩
  | .geq => ⟨True, .d (.bool (!strLt a b))⟩
  | _ => ⟨False, .any⟩

def binBool (ti : TI) (op : BinOp) (a b : Bool) : PR :=
  match ti.kind, op with
  | .bool, .eql => ⟨True, .d (.bool (a == b))⟩
  | .bool, .neq => ⟨True, .d (.bool (!(a == b)))⟩
  | _, _ => ⟨False, .any⟩

def eqLeaf : TK → AV → AV → Prop × Bool
  | .int k, .d (.int k1 a), .d (.int k2 b) => (k1 = k ∧ k2 = k, decide (a = b))
  | .bool, .d (.bool a), .d (.bool b) => (True, decide (a = b))
  | .str, .d (.str a), .d (.str b) => (True, decide (a = b))
  | _, _, _ => (False, false)
def eqLeaves : List TK → List AV → List AV → Prop × Bool
  | [], [], [] => (True, true)
  | k :: ks, x :: xs, y :: ys => ((eqLeaf k x y).1 ∧ (eqLeaves ks xs ys).1, (eqLeaf k x y).2 && (eqLeaves ks xs ys).2)
  | _, _, _ => (False, false)
def binAgg (ti : TI) (op : BinOp) (xs ys : List AV) : PR :=
  match op with
  | .eql => ⟨(ti.kind matches .other) = false ∧ ti.cmp ≠ [] ∧ (eqLeaves ti.cmp xs ys).1, .d (.bool (eqLeaves ti.cmp xs ys).2)⟩
  | .neq => ⟨(ti.kind matches .other) = false ∧ ti.cmp ≠ [] ∧ (eqLeaves ti.cmp xs ys).1, .d (.bool (!(eqLeaves ti.cmp xs ys).2))⟩
  | _ => ⟨False, .any⟩

/-- Is a pointer nil? -/
def ptrNil : AV → Option Bool
  | .ptr _ _ => some false
  | .rp _ _ _ _ => some false
  | .dp _ _ => some false
  | .d (.sc (.pointer none)) => some true
  | _ => none
/-- A pointer held against nil. -/
def binPtr (ti : TI) (op : BinOp) (x : AV) : AV → PR
  | .d (.sc (.pointer none)) =>
    (match ptrNil x, ti.kind, op with
    | some b, .pointer _, .eql => ⟨True, .d (.bool b)⟩
    | some b, .pointer _, .neq => ⟨True, .d (.bool (!b))⟩
    | _, _, _ => ⟨False, .any⟩)
  | _ => ⟨False, .any⟩

def abin (ti : TI) (op : BinOp) : AV → AV → PR
  | .d (.int k a), .d (.int k' b) => binInt op k k' a b
  | .d (.str a), .d (.str b) => binStr op a b
  | .d (.bool a), .d (.bool b) => binBool ti op a b
  | .agg xs, .agg ys => binAgg ti op xs ys
  | x, y => binPtr ti op x y

def aun (op : UnOp) : AV → PR
  | .d (.bool b) => (match op with | .not => ⟨True, .d (.bool (!b))⟩ | _ => ⟨False, .any⟩)
  | .d (.int k n) => (match op with
    | .neg => ⟨True, .d (.int k (k.wrap (0 - n)))⟩
    | .xor => ⟨True, .d (.int k (bits .xor k (if k.signed then -1 else k.max) n))⟩
    | _ => ⟨False, .any⟩)
  | _ => ⟨False, .any⟩

def apick (c x y : AV) : PR :=
  match strip c, strip x, strip y with
  | .d (.bool c'), .d (.bool p), .d (.bool q) => ⟨gdok c ∧ (c' = true → gdok x) ∧ (c' = false → gdok y), .d (.bool (bif c' then p else q))⟩
  | _, _, _ => ⟨False, .any⟩

def aext (i : Nat) : AV → PR
  | .tup vs => ⟨i < vs.length, vs.getD i .any⟩
  | _ => ⟨False, .any⟩

def anil : AV → PR
  | .ptr k off => ⟨True, .ptr k off⟩
  | .rp k sz i off => ⟨True, .rp k sz i off⟩
  | .dp row off => ⟨True, .dp row off⟩
  | .clo f a b => ⟨True, .clo f a b⟩
  | _ => ⟨False, .any⟩

def aconv (ti : TI) : AV → PR
  | .d (.int _ n) => (match ti.kind with | .int k' => ⟨True, .d (.int k' (k'.wrap n))⟩ | _ => ⟨False, .any⟩)
  | .d (.str l) => (match ti.kind with | .str => ⟨True, .d (.str l)⟩ | _ => ⟨False, .any⟩)
  | _ => ⟨False, .any⟩

def alen (ti : TI) : AV → PR
  | .d (.str l) => (match ti.kind with | .str => ⟨True, I l.length⟩ | _ => ⟨False, .any⟩)
  | .d (.sl _ rows) => (match ti.kind with | .slice _ => ⟨True, I rows.length⟩ | _ => ⟨False, .any⟩)
  | .osl _ _ _ n => (match ti.kind with | .slice _ => ⟨True, I n⟩ | _ => ⟨False, .any⟩)
  | .d (.sc (.slice none 0 0)) => (match ti.kind with | .slice _ => ⟨True, I 0⟩ | _ => ⟨False, .any⟩)
  | _ => ⟨False, .any⟩

def amm (mx : Bool) : AV → AV → PR
  | .d (.int k a), .d (.int k' b) => ⟨k = k', .d (.int k (if mx then (if b > a then b else a) else (if b < a then b else a)))⟩
  | _, _ => ⟨False, .any⟩

/-- A field's address. -/
def afld (ti : TI) (i : Nat) (x : AV) : PR :=
  match ti.kind with
  | .struct fs =>
    match fs[i]?, x with
    | some (o, _, _), .ptr k off => ⟨True, .ptr k (off + o)⟩
    | some (o, _, _), .rp k sz j off => ⟨True, .rp k sz j (off + o)⟩
    | some (o, _, _), .dp row off => ⟨True, .dp row (off + o)⟩
    | _, _ => ⟨False, .any⟩
  | _ => ⟨False, .any⟩

/-- A field of a struct by value. -/
def apart (T : TypeId → TI) (ti : TI) (i : Nat) (x : AV) : PR :=
  match ti.kind with
  | .struct fs =>
    match fs[i]?, x with
    | some (o, s, t), .agg cs => ⟨o + s ≤ cs.length ∧ ((T t).kind matches .other) = false ∧ s = (T t).size,
        if (T t).agg then .agg ((cs.drop o).take s) else cs.getD o .any⟩
    | _, _ => ⟨False, .any⟩
  | _ => ⟨False, .any⟩

/-- A load. -/
def aload (ti : TI) (hp : List ABlk) : AV → PR
  | .ptr k off =>
    (match hp[k]? with
    | some (.cells cs) => ⟨off + ti.size ≤ cs.length ∧ (ti.agg = false → ti.size = 1) ∧ (ti.kind matches .other) = false, if ti.agg then .agg ((cs.drop off).take ti.size) else cs.getD off .any⟩
    | _ => ⟨False, .any⟩)
  | .rp k sz i off =>
    (match hp[k]? with
    | some (.rows sz' rs) => ⟨sz = sz' ∧ i < rs.length ∧ off + ti.size ≤ sz ∧ (ti.agg = false → ti.size = 1) ∧ (ti.kind matches .other) = false,
        if ti.agg then .agg ((((rs.getD i []).drop off).take ti.size).map .d) else .d ((rs.getD i []).getD off (.sc undef))⟩
    | some (.bytes l) => ⟨sz = 1 ∧ i < (l.map u8row).length ∧ off + ti.size ≤ sz ∧ (ti.agg = false → ti.size = 1) ∧ (ti.kind matches .other) = false,
        if ti.agg then .agg (((((l.map u8row).getD i []).drop off).take ti.size).map .d) else .d (((l.map u8row).getD i []).getD off (.sc undef))⟩
    | some (.cells cs) => ⟨i * sz + off + ti.size ≤ cs.length ∧ (ti.agg = false → ti.size = 1) ∧ (ti.kind matches .other) = false, if ti.agg then .agg ((cs.drop (i * sz + off)).take ti.size) else cs.getD (i * sz + off) .any⟩
    | _ => ⟨False, .any⟩)
  | .dp row off => ⟨off + ti.size ≤ row.length ∧ (ti.agg = false → ti.size = 1) ∧ (ti.kind matches .other) = false,
        if ti.agg then .agg (((row.drop off).take ti.size).map .d) else .d (row.getD off (.sc undef))⟩
  | _ => ⟨False, .any⟩

/-- The address of an element. -/
def aidxAddr (T : TypeId → TI) (ti : TI) (x y : AV) : PR :=
  match y with
  | .d (.int _ i) =>
    (match ti.kind, x with
    | .slice e, .d (.sl sz rows) => ⟨0 ≤ i ∧ i < rows.length ∧ (T e).size = sz ∧ ((T e).kind matches .other) = false, .dp (rows.getD i.toNat (T e).zero) 0⟩
    | .slice e, .osl k sz off n => ⟨0 ≤ i ∧ i < n ∧ (T e).size = sz ∧ ((T e).kind matches .other) = false, .rp k sz (off + i.toNat) 0⟩
    | .array n e, .ptr k off => ⟨0 ≤ i ∧ i < n ∧ ((T e).kind matches .other) = false, .ptr k (off + i.toNat * (T e).size)⟩
    | _, _ => ⟨False, .any⟩)
  | _ => ⟨False, .any⟩

/-- An element of a string, or of an array by value. -/
def aidx (T : TypeId → TI) (ti : TI) (x y : AV) : PR :=
  match y with
  | .d (.int _ i) =>
    (match ti.kind, x with
    | .str, .d (.str l) => ⟨0 ≤ i ∧ i < l.length, .d (.int .u8 (l.getD i.toNat 0).toNat)⟩
    | .array n e, .agg cs => ⟨0 ≤ i ∧ i < n ∧ ((T e).agg = false → (T e).size = 1) ∧ cs.length = (if (T e).agg then n * (T e).size else n) ∧ ((T e).kind matches .other) = false, if (T e).agg then .agg ((cs.drop (i.toNat * (T e).size)).take (T e).size) else cs.getD i.toNat .any⟩
    | _, _ => ⟨False, .any⟩)
  | _ => ⟨False, .any⟩
end Go.Proofs.YtfnilhdofopoeabDoor
