/- The words of the abstract walk: abstract values, what they stand for in memory, and that this is kept when memory grows. It holds over any program; no condition. -/
import Derived.WalkKit
import Derived.Deep.Quiet
import Derived.KernelRfl
import Derived.Lib.ItoaNum
namespace Go.Proofs.YtfnilhdofopoeabDoor
set_option linter.unusedVariables false
set_option linter.unusedSimpArgs false
open Go Go.RowKit

/-- Pure data: one cell each. -/
inductive DV where
  | int (k : IntKind) (n : Int)
  | bool (b : Bool)
  | str (l : List UInt8)
  | sl (sz : Nat) (rows : List (List DV))
  | sc (v : Value)

def mkStr (l : List UInt8) : Value := .string ⟨l.toArray⟩

inductive RepD (ok : Nat → Prop) (w : World) : DV → Value → Prop
  | int (k : IntKind) (n : Int) : RepD ok w (.int k n) (.int k n)
  | bool (b : Bool) : RepD ok w (.bool b) (.bool b)
  | str (l : List UInt8) : RepD ok w (.str l) (mkStr l)
  | sc (v : Value) (h : v.oneCell' = true) : RepD ok w (.sc v) v
  | sc0 (A : Option Addr) : RepD ok w (.sc (.slice none 0 0)) (.slice A 0 0)
  | sl (sz : Nat) (rows : List (List DV)) (A : Option Addr) (cap : Nat) (u : Nat → Nat → Value)
      (hcap : rows.length ≤ cap) (hsz : ∀ r, r ∈ rows → r.length = sz)
      (hc : 0 < rows.length → ∃ b o, A = some ⟨b, o, none⟩ ∧ ok b ∧
        ∀ (i : Nat) (r : List DV), rows[i]? = some r → ∀ (j : Nat) (c : DV), r[j]? = some c → w.cell? ⟨b, o + (i * sz + j), none⟩ = some (u i j))
      (hr : ∀ (i : Nat) (r : List DV), rows[i]? = some r → ∀ (j : Nat) (c : DV), r[j]? = some c → RepD ok w c (u i j)) :
      RepD ok w (.sl sz rows) (.slice A rows.length cap)

theorem cell_of_same {w w' : World} {b o : Nat} (h : w'.heap[b]? = w.heap[b]?) : w'.cell? ⟨b, o, none⟩ = w.cell? ⟨b, o, none⟩ :=
  World.cell?_of_block (a := ⟨b, o, none⟩) h

theorem RepD.mono {ok ok' : Nat → Prop} {w w' : World} {x : DV} {v : Value} (h : RepD ok w x v)
    (hk : ∀ b, ok b → ok' b ∧ w'.heap[b]? = w.heap[b]?) : RepD ok' w' x v := by
  induction h with
  | int k n => exact .int k n
  | bool b => exact .bool b
  | str l => exact .str l
  | sc v h => exact .sc v h
  | sc0 A => exact .sc0 A
  | sl sz rows A cap u hcap hsz hc hr ih =>
    refine .sl sz rows A cap u hcap hsz (fun hp => ?_) ih
    obtain ⟨b, o, hA, hb, hcell⟩ := hc hp
    exact ⟨b, o, hA, (hk b hb).1, fun i r hi j c hj => (cell_of_same (hk b hb).2).trans (hcell i r hi j c hj)⟩

/-- Abstract values of slots and of the call's own cells. A block of the call's own is named by its place in a list. -/
inductive AV where
  | d (x : DV)
  | agg (cs : List AV)
  | tup (vs : List AV)
  | ptr (k off : Nat)
  | rp (k sz i off : Nat)
  | osl (k sz off n : Nat)
  | dp (row : List DV) (off : Nat)
  | clo (f : FuncId) (first caps : List AV)
  | mp (k : Nat)
  | gd (g : Bool) (v : AV)
  | any

inductive RepV (ρ : List (Option (Nat × Nat))) (ok : Nat → Prop) (w : World) : AV → Value → Prop
  | d (x : DV) (v : Value) (h : RepD ok w x v) : RepV ρ ok w (.d x) v
  | agg (cs : List AV) (us : List Value) (hl : us.length = cs.length) (h1 : ∀ u, u ∈ us → u.oneCell' = true)
      (hr : ∀ (j : Nat) (c : AV) (u : Value), cs[j]? = some c → us[j]? = some u → RepV ρ ok w c u) : RepV ρ ok w (.agg cs) (.agg us.toArray)
  | tup (cs : List AV) (us : List Value) (hl : us.length = cs.length)
      (hr : ∀ (j : Nat) (c : AV) (u : Value), cs[j]? = some c → us[j]? = some u → RepV ρ ok w c u) : RepV ρ ok w (.tup cs) (.tuple us.toArray)
  | ptr (k off b m : Nat) (h : ρ[k]? = some (some (b, m))) : RepV ρ ok w (.ptr k off) (.pointer (some ⟨b, off, none⟩))
  | rp (k sz i off b m : Nat) (h : ρ[k]? = some (some (b, m))) : RepV ρ ok w (.rp k sz i off) (.pointer (some ⟨b, i * sz + off, none⟩))
  | osl (k sz off n b m cap : Nat) (h : ρ[k]? = some (some (b, m))) (hm : (off + cap) * sz = m) (hn : n ≤ cap) :
      RepV ρ ok w (.osl k sz off n) (.slice (some ⟨b, off * sz, none⟩) n cap)
  | oslnil (k sz : Nat) (A : Option Addr) (h : ρ[k]? = some none) : RepV ρ ok w (.osl k sz 0 0) (.slice A 0 0)
  | dp (row : List DV) (off b o : Nat) (u : Nat → Value) (hb : ok b)
      (hc : ∀ (j : Nat) (c : DV), row[j]? = some c → w.cell? ⟨b, o + j, none⟩ = some (u j))
      (hr : ∀ (j : Nat) (c : DV), row[j]? = some c → RepD ok w c (u j)) : RepV ρ ok w (.dp row off) (.pointer (some ⟨b, o + off, none⟩))
  | clo (f : FuncId) (first caps : List AV) (us vs : List Value) (hl : us.length = first.length) (hl' : vs.length = caps.length)
      (hr : ∀ (j : Nat) (c : AV) (u : Value), first[j]? = some c → us[j]? = some u → RepV ρ ok w c u)
      (hr' : ∀ (j : Nat) (c : AV) (u : Value), caps[j]? = some c → vs[j]? = some u → RepV ρ ok w c u) :
      RepV ρ ok w (.clo f first caps) (.func (.func f) us.toArray vs.toArray)
  | mp (k b m : Nat) (h : ρ[k]? = some (some (b, m))) : RepV ρ ok w (.mp k) (.map (some b))
  | gd (g : Bool) (v : AV) (u : Value) (ht : g = true → RepV ρ ok w v u) (hf : g = false → u = undef) : RepV ρ ok w (.gd g v) u
  | any (u : Value) : RepV ρ ok w .any u

theorem sc_nil {ok : Nat → Prop} {w : World} {u : Value} (h : RepD ok w (.sc (.slice none 0 0)) u) : ∃ A, u = .slice A 0 0 := by
  cases h with
  | sc _ _ => exact ⟨none, rfl⟩
  | sc0 A => exact ⟨A, rfl⟩

theorem RepD.one {ok : Nat → Prop} {w : World} {x : DV} {v : Value} (h : RepD ok w x v) : v.oneCell' = true := by
  cases h <;> first | rfl | assumption

theorem RepV.mono {ρ ρ' : List (Option (Nat × Nat))} {ok ok' : Nat → Prop} {w w' : World} {x : AV} {v : Value} (h : RepV ρ ok w x v)
    (hρ : ∀ (k : Nat) (p : Option (Nat × Nat)), ρ[k]? = some p → ρ'[k]? = some p) (hk : ∀ b, ok b → ok' b ∧ w'.heap[b]? = w.heap[b]?) : RepV ρ' ok' w' x v := by
  induction h with
  | d x v h => exact .d x v (h.mono hk)
  | agg cs us hl h1 hr ih => exact .agg cs us hl h1 ih
  | tup cs us hl hr ih => exact .tup cs us hl ih
  | ptr k off b m h => exact .ptr k off b m (hρ _ _ h)
  | rp k sz i off b m h => exact .rp k sz i off b m (hρ _ _ h)
  | osl k sz off n b m cap h hm hn => exact .osl k sz off n b m cap (hρ _ _ h) hm hn
  | oslnil k sz A h => exact .oslnil k sz A (hρ _ _ h)
  | dp row off b o u hb hc hr =>
    exact .dp row off b o u (hk b hb).1 (fun j c hj => (cell_of_same (hk b hb).2).trans (hc j c hj)) fun j c hj => (hr j c hj).mono hk
  | clo f first caps us vs hl hl' hr hr' ih ih' => exact .clo f first caps us vs hl hl' ih ih'
  | mp k b m h => exact .mp k b m (hρ _ _ h)
  | gd g v u ht hf ih => exact .gd g v u ih hf
  | any u => exact .any u

def u8row (b : UInt8) : List DV := [.int .u8 b.toNat]

/-- The entries of a map from texts to integers, the oldest first. -/
def mentryG : Nat → List (List UInt8 × Int) → List MapEntry
  | _, [] => []
  | i, (k, v) :: r => ⟨mkStr k, .int .i64 v, i⟩ :: mentryG (i + 1) r
def mentry (l : List (List UInt8 × Int)) : List MapEntry := mentryG 0 l

/-- A block of the call's own. -/
inductive ABlk where
  | cells (cs : List AV)
  | rows (sz : Nat) (rs : List (List DV))
  | full (sz : Nat) (rs : List (List DV))
  | bytes (l : List UInt8)
  | map (es : List (List UInt8 × Int))
  | iter (k : Nat) (since : Nat) (seen : List Nat) (last : Nat)
  | dead

/-- A map or an iterator: an object that is no row of cells. -/
@[simp] def ABlk.isObj : ABlk → Bool
  | .map _ => true
  | .iter _ _ _ _ => true
  | _ => false

def RepBlk0 (ρ : List (Option (Nat × Nat))) (ok : Nat → Prop) (w : World) (us : Array Value) : ABlk → Prop
  | .cells cs => us.size = cs.length ∧ ∀ (j : Nat) (c : AV) (u : Value), cs[j]? = some c → us[j]? = some u → RepV ρ ok w c u
  | .rows sz rs => (∀ r, r ∈ rs → r.length = sz) ∧ rs.length * sz ≤ us.size ∧
      ∀ (i : Nat) (r : List DV), rs[i]? = some r → ∀ (j : Nat) (c : DV) (u : Value), r[j]? = some c → us[i * sz + j]? = some u → RepD ok w c u
  | .full sz rs => (∀ r, r ∈ rs → r.length = sz) ∧ rs.length * sz = us.size ∧
      ∀ (i : Nat) (r : List DV), rs[i]? = some r → ∀ (j : Nat) (c : DV) (u : Value), r[j]? = some c → us[i * sz + j]? = some u → RepD ok w c u
  | .bytes l => (∀ r, r ∈ l.map u8row → r.length = 1) ∧ (l.map u8row).length * 1 ≤ us.size ∧
      ∀ (i : Nat) (r : List DV), (l.map u8row)[i]? = some r → ∀ (j : Nat) (c : DV) (u : Value), r[j]? = some c → us[i * 1 + j]? = some u → RepD ok w c u
  | _ => True

def RepBlk (ρ : List (Option (Nat × Nat))) (ok : Nat → Prop) (w : World) (us : Array Value) (x : ABlk) : Prop := (∀ u, u ∈ us.toList → u.oneCell' = true) ∧ RepBlk0 ρ ok w us x

theorem RepBlk0.mono {ρ ρ' : List (Option (Nat × Nat))} {ok ok' : Nat → Prop} {w w' : World} {us : Array Value} {x : ABlk} (h : RepBlk0 ρ ok w us x)
    (hρ : ∀ (k : Nat) (p : Option (Nat × Nat)), ρ[k]? = some p → ρ'[k]? = some p) (hk : ∀ b, ok b → ok' b ∧ w'.heap[b]? = w.heap[b]?) : RepBlk0 ρ' ok' w' us x := by
  cases x with
  | cells cs => exact ⟨h.1, fun j c u hj hu => (h.2 j c u hj hu).mono hρ hk⟩
  | rows sz rs => exact ⟨h.1, h.2.1, fun i r hi j c u hj hu => (h.2.2 i r hi j c u hj hu).mono hk⟩
  | full sz rs => exact ⟨h.1, h.2.1, fun i r hi j c u hj hu => (h.2.2 i r hi j c u hj hu).mono hk⟩
  | bytes l => exact ⟨h.1, h.2.1, fun i r hi j c u hj hu => (h.2.2 i r hi j c u hj hu).mono hk⟩
  | map es => exact h
  | iter k a b c => exact h
  | dead => exact h

theorem RepBlk.mono {ρ ρ' : List (Option (Nat × Nat))} {ok ok' : Nat → Prop} {w w' : World} {us : Array Value} {x : ABlk} (h : RepBlk ρ ok w us x)
    (hρ : ∀ (k : Nat) (p : Option (Nat × Nat)), ρ[k]? = some p → ρ'[k]? = some p) (hk : ∀ b, ok b → ok' b ∧ w'.heap[b]? = w.heap[b]?) : RepBlk ρ' ok' w' us x :=
  ⟨h.1, h.2.mono hρ hk⟩

def Live (ρ : List (Option (Nat × Nat))) (hp : List ABlk) (b : Nat) : Prop := ∃ (k : Nat) (blk : ABlk) (m : Nat), hp[k]? = some blk ∧ blk ≠ ABlk.dead ∧ ρ[k]? = some (some (b, m))

/-- The variables that the rows list: block by block, what they hold. -/
def tabs : List (Nat × List Value) := [(0, Lib.pow10Tab.map fun z => Value.int .u64 z)]
def TabsAt (w : World) : Prop := ∀ p, p ∈ tabs → ∃ ty fz, w.heap[p.1]? = some (.cells p.2.toArray ty fz)

/-- What stands fast during a call: the world in which it began, the blocks that it may write, the blocks that hold what it was given. -/
structure Ent where
  w0 : World
  L0 : Nat → Prop
  S0 : Nat → Prop
  ρ0 : List (Option (Nat × Nat))
  hS : ∀ b, S0 b → b < w0.heap.size ∧ ¬ L0 b
  hL : ∀ b, L0 b → ∃ (k m : Nat), ρ0[k]? = some (some (b, m))
  hT : TabsAt w0
  hTL : ∀ p, p ∈ tabs → ¬ L0 p.1

def okB (E : Ent) (ρ : List (Option (Nat × Nat))) (hp : List ABlk) (w : World) (b : Nat) : Prop := (E.S0 b ∨ E.w0.heap.size ≤ b) ∧ b < w.heap.size ∧ ¬ Live ρ hp b

/-- All old blocks but those of 'L' are as they were. -/
structure Fr (L : Nat → Prop) (w w' : World) : Prop where
  os : w'.os = w.os
  tape : w'.tape = w.tape
  output : w'.output = w.output
  size : w.heap.size ≤ w'.heap.size
  block : ∀ b, b < w.heap.size → ¬ L b → w'.heap[b]? = w.heap[b]?

theorem Fr.refl (L : Nat → Prop) (w : World) : Fr L w w := ⟨rfl, rfl, rfl, Nat.le_refl _, fun _ _ _ => rfl⟩
theorem Fr.of_below {L : Nat → Prop} {w w1 w2 : World} (h : Fr L w w1) (h2 : Below w1.heap.size w1 w2) : Fr L w w2 :=
  ⟨h2.os.trans h.os, h2.tape.trans h.tape, h2.output.trans h.output, Nat.le_trans h.size h2.size, fun b hb hL => (h2.block b (Nat.lt_of_lt_of_le hb h.size)).trans (h.block b hb hL)⟩

def noFz (us : Array Value) (fz : Nat × Nat) : Prop := ∀ j, j < us.size → ¬ (fz.1 ≤ j ∧ j < fz.2)

/-- No mark of a text's bytes behind the last cell, but where a text was made into bytes. -/
def plain (x : ABlk) (us : Array Value) (fz : Nat × Nat) : Prop := (∃ l, x = .bytes l) ∨ ¬ (fz.1 ≤ us.size ∧ us.size < fz.2)

/-- What a block of the call's own is in memory. -/
def RepObj (ρ : List (Option (Nat × Nat))) (ok : Nat → Prop) (w : World) (m : Nat) (o : Obj) : ABlk → Prop
  | .map es => o = .map (mentry es).toArray es.length
  | .iter k since seen last => ∃ b m', ρ[k]? = some (some (b, m')) ∧ o = .mapIter (some b) since seen.toArray last
  | x => ∃ us ty fz, o = .cells us ty fz ∧ us.size = m ∧ (noFz us fz ∧ plain x us fz) ∧ RepBlk ρ ok w us x

theorem RepObj.cells {ρ : List (Option (Nat × Nat))} {ok : Nat → Prop} {w : World} {m : Nat} {o : Obj} {x : ABlk} (hm : x.isObj = false) :
    RepObj ρ ok w m o x ↔ ∃ us ty fz, o = .cells us ty fz ∧ us.size = m ∧ (noFz us fz ∧ plain x us fz) ∧ RepBlk ρ ok w us x := by
  cases x <;> first | exact Iff.rfl | simp at hm

theorem RepObj.mono {ρ ρ' : List (Option (Nat × Nat))} {ok ok' : Nat → Prop} {w w' : World} {m : Nat} {o : Obj} {x : ABlk} (h : RepObj ρ ok w m o x)
    (hρ : ∀ (k : Nat) (p : Option (Nat × Nat)), ρ[k]? = some p → ρ'[k]? = some p) (hk : ∀ b, ok b → ok' b ∧ w'.heap[b]? = w.heap[b]?) : RepObj ρ' ok' w' m o x := by
  by_cases hm : x.isObj = false
  · obtain ⟨us, ty, fz, h1, h2, h3, h4⟩ := (RepObj.cells hm).1 h
    exact (RepObj.cells hm).2 ⟨us, ty, fz, h1, h2, h3, h4.mono hρ hk⟩
  · cases x with
    | map es => exact h
    | iter k a b c => obtain ⟨b', m', h1, h2⟩ := h; exact ⟨b', m', hρ _ _ h1, h2⟩
    | _ => simp at hm

structure RepH (E : Ent) (ρ : List (Option (Nat × Nat))) (hp : List ABlk) (w : World) : Prop where
  len : ρ.length = hp.length
  obj : ∀ (k : Nat) (x : ABlk) (b m : Nat), hp[k]? = some x → ρ[k]? = some (some (b, m)) → x ≠ .dead →
    (E.L0 b ∨ E.w0.heap.size ≤ b) ∧ ∃ o, w.heap[b]? = some o ∧ RepObj ρ (okB E ρ hp w) w m o x
  nil : ∀ (k : Nat) (x : ABlk), hp[k]? = some x → ρ[k]? = some none → x = .dead ∨ ∃ sz, x = .rows sz []
  inj : ∀ (k k' : Nat) (x x' : ABlk) (b m m' : Nat), hp[k]? = some x → hp[k']? = some x' → x ≠ .dead → x' ≠ .dead → ρ[k]? = some (some (b, m)) → ρ[k']? = some (some (b, m')) → k = k'
  fr : Fr E.L0 E.w0 w

theorem lt_of_heap {w : World} {b : Nat} {o : Obj} (h : w.heap[b]? = some o) : b < w.heap.size := (Array.getElem?_eq_some_iff.1 h).1

theorem RepH.blk {E : Ent} {ρ : List (Option (Nat × Nat))} {hp : List ABlk} {w : World} (h : RepH E ρ hp w) (k : Nat) (x : ABlk) (b m : Nat) (hx : hp[k]? = some x) (hk : ρ[k]? = some (some (b, m))) (hd : x ≠ .dead ∧ x.isObj = false) :
    (E.L0 b ∨ E.w0.heap.size ≤ b) ∧ ∃ us ty fz, w.heap[b]? = some (.cells us ty fz) ∧ us.size = m ∧ (noFz us fz ∧ plain x us fz) ∧ RepBlk ρ (okB E ρ hp w) w us x := by
  obtain ⟨h1, o, h2, h3⟩ := h.obj k x b m hx hk hd.1
  obtain ⟨us, ty, fz, h4, h5⟩ := (RepObj.cells hd.2).1 h3
  exact ⟨h1, us, ty, fz, by rw [h2, h4], h5⟩

theorem RepH.live_lt {E : Ent} {ρ : List (Option (Nat × Nat))} {hp : List ABlk} {w : World} (h : RepH E ρ hp w) {b : Nat} (hb : Live ρ hp b) : b < w.heap.size := by
  obtain ⟨k, x, m, hx, hd, hk⟩ := hb
  obtain ⟨_, o, hw, _⟩ := h.obj k x b m hx hk hd
  exact lt_of_heap hw

/-- The world has got new blocks, and nothing that was there has turned. -/
theorem okB_below {E : Ent} {ρ : List (Option (Nat × Nat))} {hp : List ABlk} {w w' : World} (hb : Below w.heap.size w w') :
    ∀ b, okB E ρ hp w b → okB E ρ hp w' b ∧ w'.heap[b]? = w.heap[b]? :=
  fun b ⟨h1, h2, h3⟩ => ⟨⟨h1, Nat.lt_of_lt_of_le h2 hb.size, h3⟩, hb.block b h2⟩

theorem RepH.below {E : Ent} {ρ : List (Option (Nat × Nat))} {hp : List ABlk} {w w' : World} (h : RepH E ρ hp w) (hb : Below w.heap.size w w') : RepH E ρ hp w' := by
  refine ⟨h.len, fun k x b m hx hk hd => ?_, h.nil, h.inj, h.fr.of_below hb⟩
  obtain ⟨h1, o, hw, h2⟩ := h.obj k x b m hx hk hd
  exact ⟨h1, o, (hb.block b (lt_of_heap hw)).trans hw, h2.mono (fun _ _ hh => hh) (okB_below hb)⟩

theorem RepH.tabsAt {E : Ent} {ρ : List (Option (Nat × Nat))} {hp : List ABlk} {w : World} (h : RepH E ρ hp w) : TabsAt w := fun p hp' => by
  obtain ⟨ty, fz, h1⟩ := E.hT p hp'
  exact ⟨ty, fz, (h.fr.block p.1 (lt_of_heap h1) (E.hTL p hp')).trans h1⟩
theorem RepH.tabLive {E : Ent} {ρ : List (Option (Nat × Nat))} {hp : List ABlk} {w : World} (h : RepH E ρ hp w) {p : Nat × List Value} (hp' : p ∈ tabs) : ¬ Live ρ hp p.1 := by
  intro ⟨k, x, m, hx, hd, hk⟩
  obtain ⟨ty, fz, h1⟩ := E.hT p hp'
  rcases (h.obj k x p.1 m hx hk hd).1 with h2 | h2
  · exact E.hTL p hp' h2
  · have := lt_of_heap h1; omega
theorem TabsAt.below {w w' : World} (h : TabsAt w) (hb : Below w.heap.size w w') : TabsAt w' := fun p hp => by
  obtain ⟨ty, fz, h1⟩ := h p hp
  exact ⟨ty, fz, (hb.block p.1 (lt_of_heap h1)).trans h1⟩

/-- What is known: slots, and the call's own blocks. -/
structure ASt where
  np : Nat
  nt : Nat
  env : List (Nat × AV)
  hp : List ABlk

def aget : List (Nat × AV) → Nat → AV
  | [], _ => .any
  | (k, v) :: r, t => if k = t then v else aget r t

structure Rep (E : Ent) (s : ASt) (ρ : List (Option (Nat × Nat))) (a : Act) (w : World) : Prop where
  np : E.ρ0.length = s.np
  nodef : a.defers = []
  nt : a.tmps.size = s.nt
  env : ∀ t, RepV ρ (okB E ρ s.hp w) w (aget s.env t) (a.tmps.getD t undef)
  heap : RepH E ρ s.hp w
  pre : ∀ (k : Nat) (p : Option (Nat × Nat)), E.ρ0[k]? = some p → ρ[k]? = some p

theorem Rep.below {E : Ent} {s : ASt} {ρ : List (Option (Nat × Nat))} {a : Act} {w w' : World} (h : Rep E s ρ a w) (hb : Below w.heap.size w w') : Rep E s ρ a w' :=
  ⟨h.np, h.nodef, h.nt, fun t => (h.env t).mono (fun _ _ hh => hh) (okB_below hb), h.heap.below hb, h.pre⟩

def aput (env : List (Nat × AV)) (dst : Option Tmp) (v : AV) : List (Nat × AV) :=
  match dst with
  | none => env
  | some t => (t, v) :: env

def dstOk (nt : Nat) : Option Tmp → Prop
  | none => True
  | some t => t < nt

theorem Rep.put {E : Ent} {s : ASt} {ρ : List (Option (Nat × Nat))} {a : Act} {w : World} (h : Rep E s ρ a w) {dst : Option Tmp} {v : AV} {u : Value} (hd : dstOk s.nt dst)
    (hv : RepV ρ (okB E ρ s.hp w) w v u) : Rep E { s with env := aput s.env dst v } ρ (a.put dst u) w := by
  cases dst with
  | none => exact h
  | some t =>
    refine ⟨h.np, h.nodef, by simp [Act.put, h.nt], fun t' => ?_, h.heap, h.pre⟩
    have hlt : t < a.tmps.size := by rw [h.nt]; exact hd
    simp only [aput, aget, Act.put]
    by_cases e : t = t'
    · subst e
      simp only [if_true]
      have : (a.tmps.setIfInBounds t u).getD t undef = u := by simp [Array.getD, hlt]
      rw [this]; exact hv
    · simp only [e, if_false]
      have : (a.tmps.setIfInBounds t u).getD t' undef = a.tmps.getD t' undef := by
        simp only [Array.getD_eq_getD_getElem?, Array.getElem?_setIfInBounds_ne e]
      rw [this]; exact h.env t'
end Go.Proofs.YtfnilhdofopoeabDoor
