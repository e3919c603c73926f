/- A part of what WorldNil leans on: texts of this claim, one behind the other. No condition. -/
import Derived.WalkKit
import Derived.Deep.Quiet
import Derived.KernelRfl
import Derived.Lib.ItoaNum
import Derived.Laws.StructEq
namespace Go.Proofs.YtainmipdnjcbkaaGreatDoor
set_option linter.unusedVariables false
set_option linter.unusedSimpArgs false
open Go Go.RowKit
inductive DV where
  | int (k : IntKind) (n : Int)
  | bool (b : Bool)
  | str (l : List UInt8)
  | sl (sz : Nat) (rows : List (List DV))
  | sc (v : Value)
def mkStr (l : List UInt8) : Value := .string ⟨l.toArray⟩
inductive RepD (ok : Nat → Prop) (w : World) : DV → Value → Prop
  | int (k : IntKind) (n : Int) : RepD ok w (.int k n) (.int k n)
  | bool (b : Bool) : RepD ok w (.bool b) (.bool b)
  | str (l : List UInt8) : RepD ok w (.str l) (mkStr l)
  | sc (v : Value) (h : v.oneCell' = true) : RepD ok w (.sc v) v
  | sc0 (A : Option Addr) : RepD ok w (.sc (.slice none 0 0)) (.slice A 0 0)
  | sl (sz : Nat) (rows : List (List DV)) (A : Option Addr) (cap : Nat) (u : Nat → Nat → Value)
      (hcap : rows.length ≤ cap) (hsz : ∀ r, r ∈ rows → r.length = sz)
      (hc : 0 < rows.length → ∃ b o, A = some ⟨b, o, none⟩ ∧ ok b ∧
        ∀ (i : Nat) (r : List DV), rows[i]? = some r → ∀ (j : Nat) (c : DV), r[j]? = some c → w.cell? ⟨b, o + (i * sz + j), none⟩ = some (u i j))
      (hr : ∀ (i : Nat) (r : List DV), rows[i]? = some r → ∀ (j : Nat) (c : DV), r[j]? = some c → RepD ok w c (u i j)) :
      RepD ok w (.sl sz rows) (.slice A rows.length cap)
theorem cell_of_same {w w' : World} {b o : Nat} (h : w'.heap[b]? = w.heap[b]?) : w'.cell? ⟨b, o, none⟩ = w.cell? ⟨b, o, none⟩ :=
  World.cell?_of_block (a := ⟨b, o, none⟩) h
theorem RepD.mono {ok ok' : Nat → Prop} {w w' : World} {x : DV} {v : Value} (h : RepD ok w x v)
    (hk : ∀ b, ok b → ok' b ∧ w'.heap[b]? = w.heap[b]?) : RepD ok' w' x v := by
  induction h with
  | int k n => exact .int k n
  | bool b => exact .bool b
  | str l => exact .str l
  | sc v h => exact .sc v h
  | sc0 A => exact .sc0 A
  | sl sz rows A cap u hcap hsz hc hr ih =>
    refine .sl sz rows A cap u hcap hsz (fun hp => ?_) ih
    obtain ⟨b, o, hA, hb, hcell⟩ := hc hp
    exact ⟨b, o, hA, (hk b hb).1, fun i r hi j c hj => (cell_of_same (hk b hb).2).trans (hcell i r hi j c hj)⟩
inductive AV where
  | d (x : DV)
  | agg (cs : List AV)
  | tup (vs : List AV)
  | ptr (k off : Nat)
  | rp (k sz i off : Nat)
  | osl (k sz off n : Nat)
  | dp (row : List DV) (off : Nat)
  | clo (f : FuncId) (first caps : List AV)
  | mp (k : Nat)
  | gd (g : Bool) (v : AV)
  | any
inductive RepV (ρ : List (Option (Nat × Nat))) (ok : Nat → Prop) (w : World) : AV → Value → Prop
  | d (x : DV) (v : Value) (h : RepD ok w x v) : RepV ρ ok w (.d x) v
  | agg (cs : List AV) (us : List Value) (hl : us.length = cs.length) (h1 : ∀ u, u ∈ us → u.oneCell' = true)
      (hr : ∀ (j : Nat) (c : AV) (u : Value), cs[j]? = some c → us[j]? = some u → RepV ρ ok w c u) : RepV ρ ok w (.agg cs) (.agg us.toArray)
  | tup (cs : List AV) (us : List Value) (hl : us.length = cs.length)
      (hr : ∀ (j : Nat) (c : AV) (u : Value), cs[j]? = some c → us[j]? = some u → RepV ρ ok w c u) : RepV ρ ok w (.tup cs) (.tuple us.toArray)
  | ptr (k off b m : Nat) (h : ρ[k]? = some (some (b, m))) : RepV ρ ok w (.ptr k off) (.pointer (some ⟨b, off, none⟩))
  | rp (k sz i off b m : Nat) (h : ρ[k]? = some (some (b, m))) : RepV ρ ok w (.rp k sz i off) (.pointer (some ⟨b, i * sz + off, none⟩))
  | osl (k sz off n b m cap : Nat) (h : ρ[k]? = some (some (b, m))) (hm : (off + cap) * sz = m) (hn : n ≤ cap) :
      RepV ρ ok w (.osl k sz off n) (.slice (some ⟨b, off * sz, none⟩) n cap)
  | oslnil (k sz : Nat) (A : Option Addr) (h : ρ[k]? = some none) : RepV ρ ok w (.osl k sz 0 0) (.slice A 0 0)
  | dp (row : List DV) (off b o : Nat) (u : Nat → Value) (hb : ok b)
      (hc : ∀ (j : Nat) (c : DV), row[j]? = some c → w.cell? ⟨b, o + j, none⟩ = some (u j))
      (hr : ∀ (j : Nat) (c : DV), row[j]? = some c → RepD ok w c (u j)) : RepV ρ ok w (.dp row off) (.pointer (some ⟨b, o + off, none⟩))
  | clo (f : FuncId) (first caps : List AV) (us vs : List Value) (hl : us.length = first.length) (hl' : vs.length = caps.length)
      (hr : ∀ (j : Nat) (c : AV) (u : Value), first[j]? = some c → us[j]? = some u → RepV ρ ok w c u)
      (hr' : ∀ (j : Nat) (c : AV) (u : Value), caps[j]? = some c → vs[j]? = some u → RepV ρ ok w c u) :
      RepV ρ ok w (.clo f first caps) (.func (.func f) us.toArray vs.toArray)
  | mp (k b m : Nat) (h : ρ[k]? = some (some (b, m))) : RepV ρ ok w (.mp k) (.map (some b))
  | gd (g : Bool) (v : AV) (u : Value) (ht : g = true → RepV ρ ok w v u) (hf : g = false → u = undef) : RepV ρ ok w (.gd g v) u
  | any (u : Value) : RepV ρ ok w .any u
theorem sc_nil {ok : Nat → Prop} {w : World} {u : Value} (h : RepD ok w (.sc (.slice none 0 0)) u) : ∃ A, u = .slice A 0 0 := by
  cases h with
  | sc _ _ => exact ⟨none, rfl⟩
  | sc0 A => exact ⟨A, rfl⟩
theorem RepD.one {ok : Nat → Prop} {w : World} {x : DV} {v : Value} (h : RepD ok w x v) : v.oneCell' = true := by
  cases h <;> first | rfl | assumption
theorem RepV.mono {ρ ρ' : List (Option (Nat × Nat))} {ok ok' : Nat → Prop} {w w' : World} {x : AV} {v : Value} (h : RepV ρ ok w x v)
    (hρ : ∀ (k : Nat) (p : Option (Nat × Nat)), ρ[k]? = some p → ρ'[k]? = some p) (hk : ∀ b, ok b → ok' b ∧ w'.heap[b]? = w.heap[b]?) : RepV ρ' ok' w' x v := by
  induction h with
  | d x v h => exact .d x v (h.mono hk)
  | agg cs us hl h1 hr ih => exact .agg cs us hl h1 ih
  | tup cs us hl hr ih => exact .tup cs us hl ih
  | ptr k off b m h => exact .ptr k off b m (hρ _ _ h)
  | rp k sz i off b m h => exact .rp k sz i off b m (hρ _ _ h)
  | osl k sz off n b m cap h hm hn => exact .osl k sz off n b m cap (hρ _ _ h) hm hn
  | oslnil k sz A h => exact .oslnil k sz A (hρ _ _ h)
  | dp row off b o u hb hc hr =>
    exact .dp row off b o u (hk b hb).1 (fun j c hj => (cell_of_same (hk b hb).2).trans (hc j c hj)) fun j c hj => (hr j c hj).mono hk
  | clo f first caps us vs hl hl' hr hr' ih ih' => exact .clo f first caps us vs hl hl' ih ih'
  | mp k b m h => exact .mp k b m (hρ _ _ h)
  | gd g v u ht hf ih => exact .gd g v u ih hf
  | any u => exact .any u
def u8row (b : UInt8) : List DV := [.int .u8 b.toNat]
def mentryG : Nat → List (List UInt8 × Int) → List MapEntry
  | _, [] => []
  | i, (k, v) :: r => ⟨mkStr k, .int .i64 v, i⟩ :: mentryG (i + 1) r
def mentry (l : List (List UInt8 × Int)) : List MapEntry := mentryG 0 l
inductive ABlk where
  | cells (cs : List AV)
  | rows (sz : Nat) (rs : List (List DV))
  | full (sz : Nat) (rs : List (List DV))
  | bytes (l : List UInt8)
  | map (es : List (List UInt8 × Int))
  | iter (k : Nat) (since : Nat) (seen : List Nat) (last : Nat)
  | dead
@[simp] def ABlk.isObj : ABlk → Bool
  | .map _ => true
  | .iter _ _ _ _ => true
  | _ => false
def RepBlk0 (ρ : List (Option (Nat × Nat))) (ok : Nat → Prop) (w : World) (us : Array Value) : ABlk → Prop
  | .cells cs => us.size = cs.length ∧ ∀ (j : Nat) (c : AV) (u : Value), cs[j]? = some c → us[j]? = some u → RepV ρ ok w c u
  | .rows sz rs => (∀ r, r ∈ rs → r.length = sz) ∧ rs.length * sz ≤ us.size ∧
      ∀ (i : Nat) (r : List DV), rs[i]? = some r → ∀ (j : Nat) (c : DV) (u : Value), r[j]? = some c → us[i * sz + j]? = some u → RepD ok w c u
  | .full sz rs => (∀ r, r ∈ rs → r.length = sz) ∧ rs.length * sz = us.size ∧
      ∀ (i : Nat) (r : List DV), rs[i]? = some r → ∀ (j : Nat) (c : DV) (u : Value), r[j]? = some c → us[i * sz + j]? = some u → RepD ok w c u
  | .bytes l => (∀ r, r ∈ l.map u8row → r.length = 1) ∧ (l.map u8row).length * 1 ≤ us.size ∧
      ∀ (i : Nat) (r : List DV), (l.map u8row)[i]? = some r → ∀ (j : Nat) (c : DV) (u : Value), r[j]? = some c → us[i * 1 + j]? = some u → RepD ok w c u
  | _ => True
def RepBlk (ρ : List (Option (Nat × Nat))) (ok : Nat → Prop) (w : World) (us : Array Value) (x : ABlk) : Prop := (∀ u, u ∈ us.toList → u.oneCell' = true) ∧ RepBlk0 ρ ok w us x
theorem RepBlk0.mono {ρ ρ' : List (Option (Nat × Nat))} {ok ok' : Nat → Prop} {w w' : World} {us : Array Value} {x : ABlk} (h : RepBlk0 ρ ok w us x)
    (hρ : ∀ (k : Nat) (p : Option (Nat × Nat)), ρ[k]? = some p → ρ'[k]? = some p) (hk : ∀ b, ok b → ok' b ∧ w'.heap[b]? = w.heap[b]?) : RepBlk0 ρ' ok' w' us x := by
  cases x with
  | cells cs => exact ⟨h.1, fun j c u hj hu => (h.2 j c u hj hu).mono hρ hk⟩
  | rows sz rs => exact ⟨h.1, h.2.1, fun i r hi j c u hj hu => (h.2.2 i r hi j c u hj hu).mono hk⟩
  | full sz rs => exact ⟨h.1, h.2.1, fun i r hi j c u hj hu => (h.2.2 i r hi j c u hj hu).mono hk⟩
  | bytes l => exact ⟨h.1, h.2.1, fun i r hi j c u hj hu => (h.2.2 i r hi j c u hj hu).mono hk⟩
  | map es => exact h
  | iter k a b c => exact h
  | dead => exact h
theorem RepBlk.mono {ρ ρ' : List (Option (Nat × Nat))} {ok ok' : Nat → Prop} {w w' : World} {us : Array Value} {x : ABlk} (h : RepBlk ρ ok w us x)
    (hρ : ∀ (k : Nat) (p : Option (Nat × Nat)), ρ[k]? = some p → ρ'[k]? = some p) (hk : ∀ b, ok b → ok' b ∧ w'.heap[b]? = w.heap[b]?) : RepBlk ρ' ok' w' us x :=
  ⟨h.1, h.2.mono hρ hk⟩
def Live (ρ : List (Option (Nat × Nat))) (hp : List ABlk) (b : Nat) : Prop := ∃ (k : Nat) (blk : ABlk) (m : Nat), hp[k]? = some blk ∧ blk ≠ ABlk.dead ∧ ρ[k]? = some (some (b, m))
def tabs : List (Nat × List Value) := [(1, Lib.pow10Tab.map fun z => Value.int .u64 z)]
def TabsAt (w : World) : Prop := ∀ p, p ∈ tabs → ∃ ty fz, w.heap[p.1]? = some (.cells p.2.toArray ty fz)
structure Ent where
  w0 : World
  L0 : Nat → Prop
  S0 : Nat → Prop
  ρ0 : List (Option (Nat × Nat))
  hS : ∀ b, S0 b → b < w0.heap.size ∧ ¬ L0 b
  hL : ∀ b, L0 b → ∃ (k m : Nat), ρ0[k]? = some (some (b, m))
  hT : TabsAt w0
  hTL : ∀ p, p ∈ tabs → ¬ L0 p.1
def okB (E : Ent) (ρ : List (Option (Nat × Nat))) (hp : List ABlk) (w : World) (b : Nat) : Prop := (E.S0 b ∨ E.w0.heap.size ≤ b) ∧ b < w.heap.size ∧ ¬ Live ρ hp b
structure Fr (L : Nat → Prop) (w w' : World) : Prop where
  os : w'.os = w.os
  tape : w'.tape = w.tape
  output : w'.output = w.output
  size : w.heap.size ≤ w'.heap.size
  block : ∀ b, b < w.heap.size → ¬ L b → w'.heap[b]? = w.heap[b]?
theorem Fr.refl (L : Nat → Prop) (w : World) : Fr L w w := ⟨rfl, rfl, rfl, Nat.le_refl _, fun _ _ _ => rfl⟩
theorem Fr.of_below {L : Nat → Prop} {w w1 w2 : World} (h : Fr L w w1) (h2 : Below w1.heap.size w1 w2) : Fr L w w2 :=
  ⟨h2.os.trans h.os, h2.tape.trans h.tape, h2.output.trans h.output, Nat.le_trans h.size h2.size, fun b hb hL => (h2.block b (Nat.lt_of_lt_of_le hb h.size)).trans (h.block b hb hL)⟩
def noFz (us : Array Value) (fz : Nat × Nat) : Prop := ∀ j, j < us.size → ¬ (fz.1 ≤ j ∧ j < fz.2)
def plain (x : ABlk) (us : Array Value) (fz : Nat × Nat) : Prop := (∃ l, x = .bytes l) ∨ ¬ (fz.1 ≤ us.size ∧ us.size < fz.2)
def RepObj (ρ : List (Option (Nat × Nat))) (ok : Nat → Prop) (w : World) (m : Nat) (o : Obj) : ABlk → Prop
  | .map es => o = .map (mentry es).toArray es.length
  | .iter k since seen last => ∃ b m', ρ[k]? = some (some (b, m')) ∧ o = .mapIter (some b) since seen.toArray last
  | x => ∃ us ty fz, o = .cells us ty fz ∧ us.size = m ∧ (noFz us fz ∧ plain x us fz) ∧ RepBlk ρ ok w us x
theorem RepObj.cells {ρ : List (Option (Nat × Nat))} {ok : Nat → Prop} {w : World} {m : Nat} {o : Obj} {x : ABlk} (hm : x.isObj = false) :
    RepObj ρ ok w m o x ↔ ∃ us ty fz, o = .cells us ty fz ∧ us.size = m ∧ (noFz us fz ∧ plain x us fz) ∧ RepBlk ρ ok w us x := by
  cases x <;> first | exact Iff.rfl | simp at hm
theorem RepObj.mono {ρ ρ' : List (Option (Nat × Nat))} {ok ok' : Nat → Prop} {w w' : World} {m : Nat} {o : Obj} {x : ABlk} (h : RepObj ρ ok w m o x)
    (hρ : ∀ (k : Nat) (p : Option (Nat × Nat)), ρ[k]? = some p → ρ'[k]? = some p) (hk : ∀ b, ok b → ok' b ∧ w'.heap[b]? = w.heap[b]?) : RepObj ρ' ok' w' m o x := by
  by_cases hm : x.isObj = false
  · obtain ⟨us, ty, fz, h1, h2, h3, h4⟩ := (RepObj.cells hm).1 h
    exact (RepObj.cells hm).2 ⟨us, ty, fz, h1, h2, h3, h4.mono hρ hk⟩
  · cases x with
    | map es => exact h
    | iter k a b c => obtain ⟨b', m', h1, h2⟩ := h; exact ⟨b', m', hρ _ _ h1, h2⟩
    | _ => simp at hm
structure RepH (E : Ent) (ρ : List (Option (Nat × Nat))) (hp : List ABlk) (w : World) : Prop where
  len : ρ.length = hp.length
  obj : ∀ (k : Nat) (x : ABlk) (b m : Nat), hp[k]? = some x → ρ[k]? = some (some (b, m)) → x ≠ .dead →
    (E.L0 b ∨ E.w0.heap.size ≤ b) ∧ ∃ o, w.heap[b]? = some o ∧ RepObj ρ (okB E ρ hp w) w m o x
  nil : ∀ (k : Nat) (x : ABlk), hp[k]? = some x → ρ[k]? = some none → x = .dead ∨ ∃ sz, x = .rows sz []
  inj : ∀ (k k' : Nat) (x x' : ABlk) (b m m' : Nat), hp[k]? = some x → hp[k']? = some x' → x ≠ .dead → x' ≠ .dead → ρ[k]? = some (some (b, m)) → ρ[k']? = some (some (b, m')) → k = k'
  fr : Fr E.L0 E.w0 w
theorem lt_of_heap {w : World} {b : Nat} {o : Obj} (h : w.heap[b]? = some o) : b < w.heap.size := (Array.getElem?_eq_some_iff.1 h).1
theorem RepH.blk {E : Ent} {ρ : List (Option (Nat × Nat))} {hp : List ABlk} {w : World} (h : RepH E ρ hp w) (k : Nat) (x : ABlk) (b m : Nat) (hx : hp[k]? = some x) (hk : ρ[k]? = some (some (b, m))) (hd : x ≠ .dead ∧ x.isObj = false) :
    (E.L0 b ∨ E.w0.heap.size ≤ b) ∧ ∃ us ty fz, w.heap[b]? = some (.cells us ty fz) ∧ us.size = m ∧ (noFz us fz ∧ plain x us fz) ∧ RepBlk ρ (okB E ρ hp w) w us x := by
  obtain ⟨h1, o, h2, h3⟩ := h.obj k x b m hx hk hd.1
  obtain ⟨us, ty, fz, h4, h5⟩ := (RepObj.cells hd.2).1 h3
  exact ⟨h1, us, ty, fz, by rw [h2, h4], h5⟩
theorem RepH.live_lt {E : Ent} {ρ : List (Option (Nat × Nat))} {hp : List ABlk} {w : World} (h : RepH E ρ hp w) {b : Nat} (hb : Live ρ hp b) : b < w.heap.size := by
  obtain ⟨k, x, m, hx, hd, hk⟩ := hb
  obtain ⟨_, o, hw, _⟩ := h.obj k x b m hx hk hd
  exact lt_of_heap hw
theorem okB_below {E : Ent} {ρ : List (Option (Nat × Nat))} {hp : List ABlk} {w w' : World} (hb : Below w.heap.size w w') :
    ∀ b, okB E ρ hp w b → okB E ρ hp w' b ∧ w'.heap[b]? = w.heap[b]? :=
  fun b ⟨h1, h2, h3⟩ => ⟨⟨h1, Nat.lt_of_lt_of_le h2 hb.size, h3⟩, hb.block b h2⟩
theorem RepH.below {E : Ent} {ρ : List (Option (Nat × Nat))} {hp : List ABlk} {w w' : World} (h : RepH E ρ hp w) (hb : Below w.heap.size w w') : RepH E ρ hp w' := by
  refine ⟨h.len, fun k x b m hx hk hd => ?_, h.nil, h.inj, h.fr.of_below hb⟩
  obtain ⟨h1, o, hw, h2⟩ := h.obj k x b m hx hk hd
  exact ⟨h1, o, (hb.block b (lt_of_heap hw)).trans hw, h2.mono (fun _ _ hh => hh) (okB_below hb)⟩
theorem RepH.tabsAt {E : Ent} {ρ : List (Option (Nat × Nat))} {hp : List ABlk} {w : World} (h : RepH E ρ hp w) : TabsAt w := fun p hp' => by
  obtain ⟨ty, fz, h1⟩ := E.hT p hp'
  exact ⟨ty, fz, (h.fr.block p.1 (lt_of_heap h1) (E.hTL p hp')).trans h1⟩
theorem RepH.tabLive {E : Ent} {ρ : List (Option (Nat × Nat))} {hp : List ABlk} {w : World} (h : RepH E ρ hp w) {p : Nat × List Value} (hp' : p ∈ tabs) : ¬ Live ρ hp p.1 := by
  intro ⟨k, x, m, hx, hd, hk⟩
  obtain ⟨ty, fz, h1⟩ := E.hT p hp'
  rcases (h.obj k x p.1 m hx hk hd).1 with h2 | h2
  · exact E.hTL p hp' h2
  · have := lt_of_heap h1; omega
theorem TabsAt.below {w w' : World} (h : TabsAt w) (hb : Below w.heap.size w w') : TabsAt w' := fun p hp => by
  obtain ⟨ty, fz, h1⟩ := h p hp
  exact ⟨ty, fz, (hb.block p.1 (lt_of_heap h1)).trans h1⟩
structure ASt where
  np : Nat
  nt : Nat
  env : List (Nat × AV)
  hp : List ABlk
def aget : List (Nat × AV) → Nat → AV
  | [], _ => .any
  | (k, v) :: r, t => if k = t then v else aget r t
structure Rep (E : Ent) (s : ASt) (ρ : List (Option (Nat × Nat))) (a : Act) (w : World) : Prop where
  np : E.ρ0.length = s.np
  nodef : a.defers = []
  nt : a.tmps.size = s.nt
  env : ∀ t, RepV ρ (okB E ρ s.hp w) w (aget s.env t) (a.tmps.getD t undef)
  heap : RepH E ρ s.hp w
  pre : ∀ (k : Nat) (p : Option (Nat × Nat)), E.ρ0[k]? = some p → ρ[k]? = some p
theorem Rep.below {E : Ent} {s : ASt} {ρ : List (Option (Nat × Nat))} {a : Act} {w w' : World} (h : Rep E s ρ a w) (hb : Below w.heap.size w w') : Rep E s ρ a w' :=
  ⟨h.np, h.nodef, h.nt, fun t => (h.env t).mono (fun _ _ hh => hh) (okB_below hb), h.heap.below hb, h.pre⟩
def aput (env : List (Nat × AV)) (dst : Option Tmp) (v : AV) : List (Nat × AV) :=
  match dst with
  | none => env
  | some t => (t, v) :: env
def dstOk (nt : Nat) : Option Tmp → Prop
  | none => True
  | some t => t < nt
theorem Rep.put {E : Ent} {s : ASt} {ρ : List (Option (Nat × Nat))} {a : Act} {w : World} (h : Rep E s ρ a w) {dst : Option Tmp} {v : AV} {u : Value} (hd : dstOk s.nt dst)
    (hv : RepV ρ (okB E ρ s.hp w) w v u) : Rep E { s with env := aput s.env dst v } ρ (a.put dst u) w := by
  cases dst with
  | none => exact h
  | some t =>
    refine ⟨h.np, h.nodef, by simp [Act.put, h.nt], fun t' => ?_, h.heap, h.pre⟩
    have hlt : t < a.tmps.size := by rw [h.nt]; exact hd
    simp only [aput, aget, Act.put]
    by_cases e : t = t'
    · subst e
      simp only [if_true]
      have : (a.tmps.setIfInBounds t u).getD t undef = u := by simp [Array.getD, hlt]
      rw [this]; exact hv
    · simp only [e, if_false]
      have : (a.tmps.setIfInBounds t u).getD t' undef = a.tmps.getD t' undef := by
        simp only [Array.getD_eq_getD_getElem?, Array.getElem?_setIfInBounds_ne e]
      rw [this]; exact h.env t'
end Go.Proofs.YtainmipdnjcbkaaGreatDoor
namespace Go.Proofs.YtainmipdnjcbkaaGreatDoor
set_option linter.unusedVariables false
set_option linter.unusedSimpArgs false
open Go Go.RowKit
inductive TK where
  | int (k : IntKind)
  | bool
  | str
  | slice (e : TypeId)
  | struct (fs : List (Nat × Nat × TypeId))
  | array (n : Nat) (e : TypeId)
  | pointer (e : TypeId)
  | map (k e : TypeId)
  | func
  | other
structure TI where
  size : Nat
  bytes : Nat
  zero : List DV
  kind : TK
  cmp : List TK := []
def DV.val : DV → Value
  | .int k n => .int k n
  | .bool b => .bool b
  | .str l => mkStr l
  | .sl _ _ => undef
  | .sc v => v
def TI.agg (ti : TI) : Bool :=
  match ti.kind with
  | .struct _ => true
  | .array _ _ => true
  | _ => false
def fieldsOk (P : Program) (fields : Array Field) (fs : List (Nat × Nat × TypeId)) : Prop :=
  ∀ (j : Nat) (o s t : Nat), fs[j]? = some (o, s, t) → ∃ f, fields[j]? = some f ∧ f.offset = o ∧ f.type = t ∧ s ≠ 0 ∧ ∃ i, P.info? t = some i ∧ i.size = s
def kindOk (P : Program) (d : TypeDesc) : TK → Prop
  | .int k => d = .int k
  | .bool => d = .bool
  | .str => d = .string
  | .slice e => d = .slice e
  | .struct fs => ∃ fields, d = .struct fields ∧ fields.size = fs.length ∧ fieldsOk P fields fs
  | .array n e => d = .array n e
  | .pointer e => d = .pointer e
  | .map k e => d = .map k e
  | .func => ∃ a b c, d = .func a b c
  | .other => True
def leavesF (P : Program) (one : TypeId → Option (List TK)) : List Field → Nat → Option (List TK)
  | [], _ => some []
  | f :: r, o =>
    match one f.type, leavesF P one r (o + P.cellsOf f.type) with
    | some a, some b => if f.name ≠ "_" ∧ f.offset = o ∧ a.length = P.cellsOf f.type ∧ 0 < a.length then some (a ++ b) else none
    | _, _ => none
def leaves (P : Program) : Nat → TypeId → Option (List TK)
  | 0, _ => none
  | d + 1, t =>
    match P.underlying t with
    | some .bool => some [.bool]
    | some .string => some [.str]
    | some (.int k) => some [.int k]
    | some (.struct fs) => if P.stoodInHeld t then none else leavesF P (leaves P d) fs.toList 0
    | _ => none
def cmpOk (P : Program) (t : TypeId) (ks : List TK) : Prop := leaves P 8 t = some ks ∧ P.eqGuardType P.depth t = false ∧ ∃ fs, P.underlying t = some (.struct fs)
structure TyOk (P : Program) (t : TypeId) (ti : TI) : Prop where
  info : ∃ i z, P.info? t = some i ∧ i.size = ti.size ∧ i.bytes = ti.bytes ∧ i.zero = some z ∧ (if ti.agg then z = .agg (ti.zero.map DV.val).toArray else [z] = ti.zero.map DV.val)
  und : ∃ d, P.underlying t = some d ∧ kindOk P d ti.kind
  one : ∀ x, x ∈ ti.zero → x.val.oneCell' = true ∧ ∀ sz rs, x ≠ .sl sz rs
  zl : ti.zero.length = ti.size
  cmp : ti.cmp ≠ [] → cmpOk P t ti.cmp
def TabOk (P : Program) (T : TypeId → TI) : Prop := ∀ t, (match (T t).kind with | .other => True | _ => TyOk P t (T t))
def strip : AV → AV
  | .gd _ v => v
  | v => v
def gdok : AV → Prop
  | .gd g _ => g = true
  | _ => True
theorem strip_ok {ρ : List (Option (Nat × Nat))} {ok : Nat → Prop} {w : World} {x : AV} {u : Value} (h : RepV ρ ok w x u) (hg : gdok x) : RepV ρ ok w (strip x) u := by
  cases x with
  | gd g v => cases h with | gd _ _ _ ht hf => exact ht hg
  | _ => exact h
abbrev I (n : Int) : AV := .d (.int .i64 n)
abbrev B (b : Bool) : AV := .d (.bool b)
abbrev S (l : List UInt8) : AV := .d (.str l)
structure PR where
  ok : Prop
  v : AV
def binInt (op : BinOp) (k k' : IntKind) (a b : Int) : PR :=
  match op with
  | .add => ⟨k = k', .d (.int k (k.wrap (a + b)))⟩
  | .sub => ⟨k = k', .d (.int k (k.wrap (a - b)))⟩
  | .mul => ⟨k = k', .d (.int k (k.wrap (a * b)))⟩
  | .quo => ⟨k = k' ∧ b ≠ 0, .d (.int k (k.wrap (a.tdiv b)))⟩
  | .rem => ⟨k = k' ∧ b ≠ 0, .d (.int k (a.tmod b))⟩
  | .and => ⟨k = k', .d (.int k (bits .and k a b))⟩
  | .or => ⟨k = k', .d (.int k (bits .or k a b))⟩
  | .xor => ⟨k = k', .d (.int k (bits .xor k a b))⟩
  | .andNot => ⟨k = k', .d (.int k (bits .andNot k a b))⟩
  | .shl => ⟨0 ≤ b ∧ b ≤ k.bits, .d (.int k (k.wrap (a * 2 ^ b.toNat)))⟩
  | .shr => ⟨0 ≤ b ∧ b ≤ k.bits, .d (.int k (a / 2 ^ b.toNat))⟩
  | .eql => ⟨k = k', .d (.bool (decide (a = b)))⟩
  | .neq => ⟨k = k', .d (.bool (!decide (a = b)))⟩
  | .lss => ⟨k = k', .d (.bool (decide (a < b)))⟩
  | .leq => ⟨k = k', .d (.bool (decide (a ≤ b)))⟩
  | .gtr => ⟨k = k', .d (.bool (decide (b < a)))⟩
  | .geq => ⟨k = k', .d (.bool (decide (b ≤ a)))⟩
def strLt (a b : List UInt8) : Bool := Op.bytesLess a b
def binStr (op : BinOp) (a b : List UInt8) : PR :=
  match op with
  | .add => ⟨a.length + b.length ≤ 9223372036854775807, .d (.str (a ++ b))⟩
  | .eql => ⟨True, .d (.bool (decide (a = b)))⟩
  | .neq => ⟨True, .d (.bool (!decide (a = b)))⟩
  | .lss => ⟨True, .d (.bool (strLt a b))⟩
  | .leq => ⟨True, .d (.bool (strLt a b || decide (a = b)))⟩
  | .gtr => ⟨True, .d (.bool (!(strLt a b || decide (a = b))))⟩
  | .geq => ⟨True, .d (.bool (!strLt a b))⟩
  | _ => ⟨False, .any⟩
def binBool (ti : TI) (op : BinOp) (a b : Bool) : PR :=
  match ti.kind, op with
  | .bool, .eql => ⟨True, .d (.bool (a == b))⟩
  | .bool, .neq => ⟨True, .d (.bool (!(a == b)))⟩
  | _, _ => ⟨False, .any⟩
def eqLeaf : TK → AV → AV → Prop × Bool
  | .int k, .d (.int k1 a), .d (.int k2 b) => (k1 = k ∧ k2 = k, decide (a = b))
  | .bool, .d (.bool a), .d (.bool b) => (True, decide (a = b))
  | .str, .d (.str a), .d (.str b) => (True, decide (a = b))
  | _, _, _ => (False, false)
def eqLeaves : List TK → List AV → List AV → Prop × Bool
  | [], [], [] => (True, true)
  | k :: ks, x :: xs, y :: ys => ((eqLeaf k x y).1 ∧ (eqLeaves ks xs ys).1, (eqLeaf k x y).2 && (eqLeaves ks xs ys).2)
  | _, _, _ => (False, false)
def binAgg (ti : TI) (op : BinOp) (xs ys : List AV) : PR :=
  match op with
  | .eql => ⟨(ti.kind matches .other) = false ∧ ti.cmp ≠ [] ∧ (eqLeaves ti.cmp xs ys).1, .d (.bool (eqLeaves ti.cmp xs ys).2)⟩
  | .neq => ⟨(ti.kind matches .other) = false ∧ ti.cmp ≠ [] ∧ (eqLeaves ti.cmp xs ys).1, .d (.bool (!(eqLeaves ti.cmp xs ys).2))⟩
  | _ => ⟨False, .any⟩
def ptrNil : AV → Option Bool
  | .ptr _ _ => some false
  | .rp _ _ _ _ => some false
  | .dp _ _ => some false
  | .d (.sc (.pointer none)) => some true
  | _ => none
def binPtr (ti : TI) (op : BinOp) (x : AV) : AV → PR
  | .d (.sc (.pointer none)) =>
    (match ptrNil x, ti.kind, op with
    | some b, .pointer _, .eql => ⟨True, .d (.bool b)⟩
    | some b, .pointer _, .neq => ⟨True, .d (.bool (!b))⟩
    | _, _, _ => ⟨False, .any⟩)
  | _ => ⟨False, .any⟩
def abin (ti : TI) (op : BinOp) : AV → AV → PR
  | .d (.int k a), .d (.int k' b) => binInt op k k' a b
  | .d (.str a), .d (.str b) => binStr op a b
  | .d (.bool a), .d (.bool b) => binBool ti op a b
  | .agg xs, .agg ys => binAgg ti op xs ys
  | x, y => binPtr ti op x y
def aun (op : UnOp) : AV → PR
  | .d (.bool b) => (match op with | .not => ⟨True, .d (.bool (!b))⟩ | _ => ⟨False, .any⟩)
  | .d (.int k n) => (match op with
    | .neg => ⟨True, .d (.int k (k.wrap (0 - n)))⟩
    | .xor => ⟨True, .d (.int k (bits .xor k (if k.signed then -1 else k.max) n))⟩
    | _ => ⟨False, .any⟩)
  | _ => ⟨False, .any⟩
def apick (c x y : AV) : PR :=
  match strip c, strip x, strip y with
  | .d (.bool c'), .d (.bool p), .d (.bool q) => ⟨gdok c ∧ (c' = true → gdok x) ∧ (c' = false → gdok y), .d (.bool (bif c' then p else q))⟩
  | _, _, _ => ⟨False, .any⟩
def aext (i : Nat) : AV → PR
  | .tup vs => ⟨i < vs.length, vs.getD i .any⟩
  | _ => ⟨False, .any⟩
def anil : AV → PR
  | .ptr k off => ⟨True, .ptr k off⟩
  | .rp k sz i off => ⟨True, .rp k sz i off⟩
  | .dp row off => ⟨True, .dp row off⟩
  | .clo f a b => ⟨True, .clo f a b⟩
  | _ => ⟨False, .any⟩
def aconv (ti : TI) : AV → PR
  | .d (.int _ n) => (match ti.kind with | .int k' => ⟨True, .d (.int k' (k'.wrap n))⟩ | _ => ⟨False, .any⟩)
  | .d (.str l) => (match ti.kind with | .str => ⟨True, .d (.str l)⟩ | _ => ⟨False, .any⟩)
  | _ => ⟨False, .any⟩
def alen (ti : TI) : AV → PR
  | .d (.str l) => (match ti.kind with | .str => ⟨True, I l.length⟩ | _ => ⟨False, .any⟩)
  | .d (.sl _ rows) => (match ti.kind with | .slice _ => ⟨True, I rows.length⟩ | _ => ⟨False, .any⟩)
  | .osl _ _ _ n => (match ti.kind with | .slice _ => ⟨True, I n⟩ | _ => ⟨False, .any⟩)
  | .d (.sc (.slice none 0 0)) => (match ti.kind with | .slice _ => ⟨True, I 0⟩ | _ => ⟨False, .any⟩)
  | _ => ⟨False, .any⟩
def amm (mx : Bool) : AV → AV → PR
  | .d (.int k a), .d (.int k' b) => ⟨k = k', .d (.int k (if mx then (if b > a then b else a) else (if b < a then b else a)))⟩
  | _, _ => ⟨False, .any⟩
def afld (ti : TI) (i : Nat) (x : AV) : PR :=
  match ti.kind with
  | .struct fs =>
    match fs[i]?, x with
    | some (o, _, _), .ptr k off => ⟨True, .ptr k (off + o)⟩
    | some (o, _, _), .rp k sz j off => ⟨True, .rp k sz j (off + o)⟩
    | some (o, _, _), .dp row off => ⟨True, .dp row (off + o)⟩
    | _, _ => ⟨False, .any⟩
  | _ => ⟨False, .any⟩
def apart (T : TypeId → TI) (ti : TI) (i : Nat) (x : AV) : PR :=
  match ti.kind with
  | .struct fs =>
    match fs[i]?, x with
    | some (o, s, t), .agg cs => ⟨o + s ≤ cs.length ∧ ((T t).kind matches .other) = false ∧ s = (T t).size,
        if (T t).agg then .agg ((cs.drop o).take s) else cs.getD o .any⟩
    | _, _ => ⟨False, .any⟩
  | _ => ⟨False, .any⟩
def aload (ti : TI) (hp : List ABlk) : AV → PR
  | .ptr k off =>
    (match hp[k]? with
    | some (.cells cs) => ⟨off + ti.size ≤ cs.length ∧ (ti.agg = false → ti.size = 1) ∧ (ti.kind matches .other) = false, if ti.agg then .agg ((cs.drop off).take ti.size) else cs.getD off .any⟩
    | _ => ⟨False, .any⟩)
  | .rp k sz i off =>
    (match hp[k]? with
    | some (.rows sz' rs) => ⟨sz = sz' ∧ i < rs.length ∧ off + ti.size ≤ sz ∧ (ti.agg = false → ti.size = 1) ∧ (ti.kind matches .other) = false,
        if ti.agg then .agg ((((rs.getD i []).drop off).take ti.size).map .d) else .d ((rs.getD i []).getD off (.sc undef))⟩
    | some (.bytes l) => ⟨sz = 1 ∧ i < (l.map u8row).length ∧ off + ti.size ≤ sz ∧ (ti.agg = false → ti.size = 1) ∧ (ti.kind matches .other) = false,
        if ti.agg then .agg (((((l.map u8row).getD i []).drop off).take ti.size).map .d) else .d (((l.map u8row).getD i []).getD off (.sc undef))⟩
    | some (.cells cs) => ⟨i * sz + off + ti.size ≤ cs.length ∧ (ti.agg = false → ti.size = 1) ∧ (ti.kind matches .other) = false, if ti.agg then .agg ((cs.drop (i * sz + off)).take ti.size) else cs.getD (i * sz + off) .any⟩
    | _ => ⟨False, .any⟩)
  | .dp row off => ⟨off + ti.size ≤ row.length ∧ (ti.agg = false → ti.size = 1) ∧ (ti.kind matches .other) = false,
        if ti.agg then .agg (((row.drop off).take ti.size).map .d) else .d (row.getD off (.sc undef))⟩
  | _ => ⟨False, .any⟩
def aidxAddr (T : TypeId → TI) (ti : TI) (x y : AV) : PR :=
  match y with
  | .d (.int _ i) =>
    (match ti.kind, x with
    | .slice e, .d (.sl sz rows) => ⟨0 ≤ i ∧ i < rows.length ∧ (T e).size = sz ∧ ((T e).kind matches .other) = false, .dp (rows.getD i.toNat (T e).zero) 0⟩
    | .slice e, .osl k sz off n => ⟨0 ≤ i ∧ i < n ∧ (T e).size = sz ∧ ((T e).kind matches .other) = false, .rp k sz (off + i.toNat) 0⟩
    | .array n e, .ptr k off => ⟨0 ≤ i ∧ i < n ∧ ((T e).kind matches .other) = false, .ptr k (off + i.toNat * (T e).size)⟩
    | _, _ => ⟨False, .any⟩)
  | _ => ⟨False, .any⟩
def aidx (T : TypeId → TI) (ti : TI) (x y : AV) : PR :=
  match y with
  | .d (.int _ i) =>
    (match ti.kind, x with
    | .str, .d (.str l) => ⟨0 ≤ i ∧ i < l.length, .d (.int .u8 (l.getD i.toNat 0).toNat)⟩
    | .array n e, .agg cs => ⟨0 ≤ i ∧ i < n ∧ ((T e).agg = false → (T e).size = 1) ∧ cs.length = (if (T e).agg then n * (T e).size else n) ∧ ((T e).kind matches .other) = false, if (T e).agg then .agg ((cs.drop (i.toNat * (T e).size)).take (T e).size) else cs.getD i.toNat .any⟩
    | _, _ => ⟨False, .any⟩)
  | _ => ⟨False, .any⟩
end Go.Proofs.YtainmipdnjcbkaaGreatDoor
namespace Go.Proofs.YtainmipdnjcbkaaGreatDoor
set_option linter.unusedVariables false
set_option linter.unusedSimpArgs false
open Go Go.RowKit
def packV (P : Program) (t : TypeId) (us : List Value) : Value :=
  match P.underlying t with
  | some (.struct _) => .agg us.toArray
  | _ => us.headD undef
section
variable {P : Program} {ρ : List (Option (Nat × Nat))} {ok : Nat → Prop} {w : World}
def Reps (ρ : List (Option (Nat × Nat))) (ok : Nat → Prop) (w : World) (xs : List AV) (us : List Value) : Prop :=
  us.length = xs.length ∧ ∀ (j : Nat) (x : AV) (u : Value), xs[j]? = some x → us[j]? = some u → RepV ρ ok w x u
theorem eqLeaves_len : ∀ {ks : List TK} {xs ys : List AV}, (eqLeaves ks xs ys).1 → xs.length = ks.length ∧ ys.length = ks.length
  | [], [], [], _ => ⟨rfl, rfl⟩
  | _ :: ks, _ :: xs, _ :: ys, h => by
    have := eqLeaves_len (ks := ks) (xs := xs) (ys := ys) h.2
    simp [this.1, this.2]
  | [], [], _ :: _, h => by simp [eqLeaves] at h
  | [], _ :: _, _, h => by simp [eqLeaves] at h
  | _ :: _, [], _, h => by simp [eqLeaves] at h
  | _ :: _, _ :: _, [], h => by simp [eqLeaves] at h
theorem eqLeaves_append : ∀ (a b : List TK) (xs ys : List AV), (eqLeaves (a ++ b) xs ys).1 →
    (eqLeaves a (xs.take a.length) (ys.take a.length)).1 ∧ (eqLeaves b (xs.drop a.length) (ys.drop a.length)).1 ∧
    (eqLeaves (a ++ b) xs ys).2 = ((eqLeaves a (xs.take a.length) (ys.take a.length)).2 && (eqLeaves b (xs.drop a.length) (ys.drop a.length)).2)
  | [], b, xs, ys, h => by simpa [eqLeaves] using h
  | k :: a, b, x :: xs, y :: ys, h => by
    have ih := eqLeaves_append a b xs ys h.2
    refine ⟨⟨h.1, ih.1⟩, ih.2.1, ?_⟩
    have := ih.2.2
    simp only [List.cons_append, eqLeaves, List.length_cons, List.take_succ_cons, List.drop_succ_cons] at this ⊢
    rw [this, Bool.and_assoc]
  | _ :: _, _, [], _, h => by simp [eqLeaves] at h
  | _ :: _, _, _ :: _, [], h => by simp [eqLeaves] at h
theorem Reps.take {xs : List AV} {us : List Value} (h : Reps ρ ok w xs us) (n : Nat) : Reps ρ ok w (xs.take n) (us.take n) := by
  refine ⟨by simp [h.1], fun j x u hx hu => ?_⟩
  by_cases hj : j < n
  · rw [List.getElem?_take, if_pos hj] at hx hu
    exact h.2 j x u hx hu
  · rw [List.getElem?_take, if_neg hj] at hx
    cases hx
theorem Reps.drop {xs : List AV} {us : List Value} (h : Reps ρ ok w xs us) (n : Nat) : Reps ρ ok w (xs.drop n) (us.drop n) := by
  refine ⟨by simp [h.1], fun j x u hx hu => ?_⟩
  rw [List.getElem?_drop] at hx hu
  exact h.2 _ x u hx hu
theorem mkStr_beq (a b : List UInt8) : ((⟨a.toArray⟩ : ByteArray) == ⟨b.toArray⟩) = decide (a = b) := by
  show ((a.toArray : Array UInt8) == b.toArray) = _
  rw [Bool.eq_iff_iff]; simp
theorem cells_of_info {t : TypeId} {n : Nat} (h : P.cellsOf t = n) (hn : n ≠ 0) (w' : World) : (sizeOf t).run P w' = .ok n w' := by
  unfold Program.cellsOf at h
  cases hi : P.info? t with
  | none => simp [hi] at h; omega
  | some i => simp [hi] at h; simp [sizeOf, typeInfo, hi, h]
def flatTy (n : Nat) : TypeDesc → Prop
  | .struct _ => True
  | .array _ _ => False
  | _ => n = 1
theorem head_seg {us : List Value} {o : Nat} (h : o < us.length) : (List.take 1 (List.drop o us)).headD undef = us[o] := by
  rw [List.drop_eq_getElem_cons h]; rfl
theorem run_part_pack {t : TypeId} {d : TypeDesc} (hd : P.underlying t = some d) (ha : flatTy (P.cellsOf t) d) (hc : P.cellsOf t ≠ 0) (us : List Value) (o : Nat) (hl : o + P.cellsOf t ≤ us.length) (w' : World) :
    (part t us.toArray o).run P w' = .ok (packV P t ((us.drop o).take (P.cellsOf t))) w' := by
  cases d with
  | struct fs =>
    simp [part, isAgg, run_underlying hd, cells_of_info rfl hc, packV, hd, List.take_drop]
  | array n e => exact ha.elim
  | _ =>
    simp only [flatTy] at ha
    have hlt : o < us.length := by omega
    have hh := head_seg hlt
    simp only [packV, hd, ha]
    rw [hh]
    simp [part, isAgg, run_underlying hd, hlt]
theorem run_eqFields {m : Nat} (ih : ∀ (t : TypeId) (ks : List TK), leaves P m t = some ks → ∀ (xs ys : List AV) (us vs : List Value), Reps ρ ok w xs us → Reps ρ ok w ys vs → (eqLeaves ks xs ys).1 →
      ∀ (d : Nat) (w' : World), (Op.equalIn (d + m) t (packV P t us) (packV P t vs)).run P w' = .ok (eqLeaves ks xs ys).2 w') :
    ∀ (fs : List Field) (o : Nat) (ks : List TK), leavesF P (leaves P m) fs o = some ks → ∀ (xs ys : List AV) (us vs : List Value), Reps ρ ok w xs us → Reps ρ ok w ys vs → (eqLeaves ks (xs.drop o) (ys.drop o)).1 →
      ∀ (d : Nat) (w' : World), (Op.eqFields (d + m) us.toArray vs.toArray fs).run P w' = .ok (eqLeaves ks (xs.drop o) (ys.drop o)).2 w'
  | [], o, ks, h, xs, ys, us, vs, hu, hv, hk, d, w' => by
    simp [leavesF] at h
    subst h
    have := eqLeaves_len hk
    have e1 : xs.drop o = [] := List.eq_nil_of_length_eq_zero this.1
    have e2 : ys.drop o = [] := List.eq_nil_of_length_eq_zero this.2
    rw [e1, e2]
    simp [Op.eqFields, eqLeaves]
  | f :: fs, o, ks, h, xs, ys, us, vs, hu, hv, hk, d, w' => by
    simp only [leavesF] at h
    cases h1 : leaves P m f.type with
    | none => simp [h1] at h
    | some a =>
      cases h2 : leavesF P (leaves P m) fs (o + P.cellsOf f.type) with
      | none => simp [h1, h2] at h
      | some b =>
        simp only [h1, h2] at h
        split at h
        · rename_i hc
          obtain ⟨hn, ho, hl⟩ := hc
          injection h with h
          subst h
          obtain ⟨k1, k2, k3⟩ := eqLeaves_append a b _ _ hk
          have hlen := eqLeaves_len hk
          rw [List.drop_drop] at k2 k3
          rw [List.drop_drop] at k2 k3
          simp only [List.length_append] at hlen
          obtain ⟨hl, hpos⟩ := hl
          subst ho
          have hxl : f.offset + P.cellsOf f.type ≤ us.length := by
            have := hlen.1; rw [List.length_drop] at this
            have := hu.1
            omega
          have hyl : f.offset + P.cellsOf f.type ≤ vs.length := by
            have := hlen.2; rw [List.length_drop] at this
            have := hv.1
            omega
          have hdesc : ∃ dd, P.underlying f.type = some dd ∧ flatTy (P.cellsOf f.type) dd := by
            cases m with
            | zero => simp [leaves] at h1
            | succ m =>
              simp only [leaves] at h1
              split at h1
              · rename_i hu; injection h1 with h1; subst h1; exact ⟨_, hu, hl.symm⟩
              · rename_i hu; injection h1 with h1; subst h1; exact ⟨_, hu, hl.symm⟩
              · rename_i hu; injection h1 with h1; subst h1; exact ⟨_, hu, hl.symm⟩
              · rename_i hu; exact ⟨_, hu, trivial⟩
              · cases h1
          obtain ⟨dd, hdd, hdc⟩ := hdesc
          have p1 := run_part_pack hdd hdc (by omega) us f.offset hxl w'
          have p2 := run_part_pack hdd hdc (by omega) vs f.offset hyl w'
          rw [hl] at k1 k2 k3
          have q := ih f.type a h1 _ _ _ _ ((hu.drop f.offset).take (P.cellsOf f.type)) ((hv.drop f.offset).take (P.cellsOf f.type)) k1 d w'
          have r := run_eqFields ih fs (f.offset + P.cellsOf f.type) b h2 xs ys us vs hu hv k2 d w'
          rw [k3]
          simp only [Op.eqFields, if_pos hn, Sem.run_bind, p1, p2, q, Result.andThen_ok, Sem.run_ite]
          cases hb : (eqLeaves a (List.take (P.cellsOf f.type) (List.drop f.offset xs)) (List.take (P.cellsOf f.type) (List.drop f.offset ys))).2 with
          | true => simpa using r
          | false => simp
        · cases h
theorem eqLeaf_bool {x y : AV} (h : (eqLeaf .bool x y).1) : ∃ a b, x = .d (.bool a) ∧ y = .d (.bool b) := by
  unfold eqLeaf at h
  split at h <;> first | contradiction | exact ⟨_, _, rfl, rfl⟩ | exact h.elim
theorem eqLeaf_str {x y : AV} (h : (eqLeaf .str x y).1) : ∃ a b, x = .d (.str a) ∧ y = .d (.str b) := by
  unfold eqLeaf at h
  split at h <;> first | contradiction | exact ⟨_, _, rfl, rfl⟩ | exact h.elim
theorem eqLeaf_int {k : IntKind} {x y : AV} (h : (eqLeaf (.int k) x y).1) : ∃ a b, x = .d (.int k a) ∧ y = .d (.int k b) := by
  unfold eqLeaf at h
  split at h
  · rename_i k0 k1 a k2 b e
    injection e with e
    obtain ⟨rfl, rfl⟩ := h
    subst e
    exact ⟨_, _, rfl, rfl⟩
  all_goals first | contradiction | exact h.elim
theorem one_leaf {k : TK} {xs ys : List AV} {us vs : List Value} (hu : Reps ρ ok w xs us) (hv : Reps ρ ok w ys vs) (hk : (eqLeaves [k] xs ys).1) :
    ∃ x y u v, xs = [x] ∧ ys = [y] ∧ us = [u] ∧ vs = [v] ∧ RepV ρ ok w x u ∧ RepV ρ ok w y v ∧ (eqLeaf k x y).1 ∧ (eqLeaves [k] xs ys).2 = (eqLeaf k x y).2 := by
  obtain ⟨h1, h2⟩ := eqLeaves_len hk
  have h3 := hu.1
  have h4 := hv.1
  match xs, ys, us, vs, h1, h2, h3, h4 with
  | [x], [y], [u], [v], _, _, _, _ => exact ⟨x, y, u, v, rfl, rfl, rfl, rfl, hu.2 0 x u rfl rfl, hv.2 0 y v rfl rfl, hk.1, by simp [eqLeaves]⟩
theorem run_leaves : ∀ (m : Nat) (t : TypeId) (ks : List TK), leaves P m t = some ks → ∀ (xs ys : List AV) (us vs : List Value), Reps ρ ok w xs us → Reps ρ ok w ys vs → (eqLeaves ks xs ys).1 →
      ∀ (d : Nat) (w' : World), (Op.equalIn (d + m) t (packV P t us) (packV P t vs)).run P w' = .ok (eqLeaves ks xs ys).2 w'
  | 0, _, _, h, _, _, _, _, _, _, _, _, _ => by simp [leaves] at h
  | m + 1, t, ks, h, xs, ys, us, vs, hu, hv, hk, d, w' => by
    simp only [leaves] at h
    split at h
    · rename_i hd
      injection h with h
      subst h
      obtain ⟨x, y, u, v, rfl, rfl, rfl, rfl, hx, hy, hl, e⟩ := one_leaf hu hv hk
      rw [e]
      obtain ⟨a, b, rfl, rfl⟩ := eqLeaf_bool hl
      cases hx with | d _ _ hx => cases hx with | bool _ =>
      cases hy with | d _ _ hy => cases hy with | bool _ =>
      simp only [packV, hd, List.headD_cons]
      rw [show d + (m + 1) = (d + m) + 1 from rfl, run_equalIn_bool' w' (d + m) t a b hd]
      cases a <;> cases b <;> rfl
    · rename_i hd
      injection h with h
      subst h
      obtain ⟨x, y, u, v, rfl, rfl, rfl, rfl, hx, hy, hl, e⟩ := one_leaf hu hv hk
      rw [e]
      obtain ⟨a, b, rfl, rfl⟩ := eqLeaf_str hl
      cases hx with | d _ _ hx => cases hx with | str _ =>
      cases hy with | d _ _ hy => cases hy with | str _ =>
      simp only [packV, hd, List.headD_cons]
      have := mkStr_beq a b
      rw [show d + (m + 1) = (d + m) + 1 from rfl]
      simp [mkStr, Op.equalIn, run_underlying hd, this, eqLeaf]
    · rename_i k hd
      injection h with h
      subst h
      obtain ⟨x, y, u, v, rfl, rfl, rfl, rfl, hx, hy, hl, e⟩ := one_leaf hu hv hk
      rw [e]
      obtain ⟨a, b, rfl, rfl⟩ := eqLeaf_int hl
      cases hx with | d _ _ hx => cases hx with | int _ _ =>
      cases hy with | d _ _ hy => cases hy with | int _ _ =>
      simp only [packV, hd, List.headD_cons]
      rw [show d + (m + 1) = (d + m) + 1 from rfl, run_equalIn_int w' (d + m) t _ _ a b hd]
      simp only [eqLeaf]
      congr 1
    · rename_i fs hd
      split at h
      · cases h
      · rename_i hst
        have hf : P.fieldsOf t = fs := by simp [Program.fieldsOf, hd]
        have := run_eqFields (P := P) (ρ := ρ) (ok := ok) (w := w) (m := m) (fun t ks h => run_leaves m t ks h) fs.toList 0 ks h xs ys us vs hu hv (by simpa using hk) d w'
        simp only [packV, hd]
        rw [show d + (m + 1) = (d + m) + 1 from rfl, run_equalIn_struct w' (d + m) t _ _ (by rw [hf]; exact hd) (by simpa using hst), hf]
        simpa using this
    · cases h
end
end Go.Proofs.YtainmipdnjcbkaaGreatDoor
namespace Go.Proofs.YtainmipdnjcbkaaGreatDoor
set_option linter.unusedVariables false
set_option linter.unusedSimpArgs false
open Go Go.RowKit
section
variable {P : Program} {ρ : List (Option (Nat × Nat))} {ok : Nat → Prop} {w : World}
theorem mk_toList (l : List UInt8) : (⟨l.toArray⟩ : ByteArray).toList = l := by
  simp [ByteArray.toList_eq]
theorem mk_size (l : List UInt8) : (⟨l.toArray⟩ : ByteArray).size = l.length := rfl
theorem mk_append (a b : List UInt8) : (⟨a.toArray⟩ : ByteArray) ++ ⟨b.toArray⟩ = ⟨(a ++ b).toArray⟩ := by
  apply ByteArray.ext
  simp
theorem mk_extract (l : List UInt8) (a b : Nat) : (⟨l.toArray⟩ : ByteArray).extract a b = ⟨((l.drop a).take (b - a)).toArray⟩ := by
  apply ByteArray.ext
  simp [ByteArray.data_extract, List.extract_eq_take_drop]
theorem beq_int (a b : Int) : (a == b) = decide (a = b) := by
  by_cases h : a = b
  · subst h; simp
  · rw [decide_eq_false h]; simpa using h
theorem beq_str (a b : List UInt8) : (a == b) = decide (a = b) := by
  by_cases h : a = b
  · subst h; simp
  · rw [decide_eq_false h]; simpa using h
theorem run_binInt (op : BinOp) (t : TypeId) (k k' : IntKind) (a b : Int) (h : (binInt op k k' a b).ok) :
    ∃ u, RepV ρ ok w (binInt op k k' a b).v u ∧ ∀ w', (Go.binOp op t (.int k a) (.int k' b)).run P w' = .ok u w' := by
  cases op <;> simp only [binInt] at h ⊢
  case quo =>
    obtain ⟨rfl, hb⟩ := h
    exact ⟨_, .d _ _ (.int _ _), fun w' => by simp [Go.binOp, Op.intDiv, hb]⟩
  case rem =>
    obtain ⟨rfl, hb⟩ := h
    exact ⟨_, .d _ _ (.int _ _), fun w' => by simp [Go.binOp, Op.intDiv, hb]⟩
  case shl => exact ⟨_, .d _ _ (.int _ _), fun w' => by simp only [Go.binOp]; rw [shift_shl _ _ _ _ h.1 h.2]; rfl⟩
  case shr => exact ⟨_, .d _ _ (.int _ _), fun w' => by simp only [Go.binOp]; rw [shift_shr _ _ _ _ h.1 h.2]; rfl⟩
  all_goals subst h
  case eql => exact ⟨_, .d _ _ (.bool _), fun w' => by simp [Go.binOp, Op.intCmp, beq_int]⟩
  case neq => exact ⟨_, .d _ _ (.bool _), fun w' => by simp [Go.binOp, Op.intCmp, bne, beq_int]⟩
  case lss => exact ⟨_, .d _ _ (.bool _), fun w' => by simp [Go.binOp, Op.intCmp]⟩
  case leq => exact ⟨_, .d _ _ (.bool _), fun w' => by simp [Go.binOp, Op.intCmp]⟩
  case gtr => exact ⟨_, .d _ _ (.bool _), fun w' => by simp [Go.binOp, Op.intCmp]⟩
  case geq => exact ⟨_, .d _ _ (.bool _), fun w' => by simp [Go.binOp, Op.intCmp]⟩
  case add => exact ⟨_, .d _ _ (.int _ _), fun w' => by simp [Go.binOp, Op.intArith]⟩
  case sub => exact ⟨_, .d _ _ (.int _ _), fun w' => by simp [Go.binOp, Op.intArith]⟩
  case mul => exact ⟨_, .d _ _ (.int _ _), fun w' => by simp [Go.binOp, Op.intArith]⟩
  case and => exact ⟨_, .d _ _ (.int _ _), fun w' => by simp [Go.binOp, intBits_and]⟩
  case or => exact ⟨_, .d _ _ (.int _ _), fun w' => by simp [Go.binOp, intBits_or]⟩
  case xor => exact ⟨_, .d _ _ (.int _ _), fun w' => by simp [Go.binOp, intBits_xor]⟩
  case andNot => exact ⟨_, .d _ _ (.int _ _), fun w' => by simp [Go.binOp, intBits_andNot]⟩
theorem max_i64 : IntKind.max .i64 = 9223372036854775807 := by decide
theorem run_binStr (op : BinOp) (t : TypeId) (a b : List UInt8) (h : (binStr op a b).ok) :
    ∃ u, RepV ρ ok w (binStr op a b).v u ∧ ∀ w', (Go.binOp op t (mkStr a) (mkStr b)).run P w' = .ok u w' := by
  have e : ∀ x : List UInt8, (⟨x.toArray⟩ : ByteArray).toList = x := mk_toList
  cases op <;> simp only [binStr] at h ⊢
  case add =>
    refine ⟨_, .d _ _ (.str _), fun w' => ?_⟩
    have hs : ¬ ((((⟨a.toArray⟩ : ByteArray).size + (⟨b.toArray⟩ : ByteArray).size : Nat) : Int) > IntKind.i64.max) := by
      rw [max_i64, mk_size, mk_size]; omega
    simp only [mkStr, Go.binOp, Op.stringOp, if_neg hs, Sem.run_pure, mk_append]
  case eql => exact ⟨_, .d _ _ (.bool _), fun w' => by simp [mkStr, Go.binOp, Op.stringOp, e, beq_str]⟩
  case neq => exact ⟨_, .d _ _ (.bool _), fun w' => by simp [mkStr, Go.binOp, Op.stringOp, e, beq_str]⟩
  case lss => exact ⟨_, .d _ _ (.bool _), fun w' => by simp [mkStr, Go.binOp, Op.stringOp, e, strLt]⟩
  case leq => exact ⟨_, .d _ _ (.bool _), fun w' => by simp [mkStr, Go.binOp, Op.stringOp, e, strLt, beq_str]⟩
  case gtr => exact ⟨_, .d _ _ (.bool _), fun w' => by simp [mkStr, Go.binOp, Op.stringOp, e, strLt, beq_str]⟩
  case geq => exact ⟨_, .d _ _ (.bool _), fun w' => by simp [mkStr, Go.binOp, Op.stringOp, e, strLt]⟩
theorem run_eql_bool (t : TypeId) (a b : Bool) (ht : P.underlying t = some .bool) (w' : World) :
    (Op.equal t (.bool a) (.bool b)).run P w' = .ok (a == b) w' := by
  have h : ∀ d : Nat, (Op.equalIn (d + 1) t (.bool a) (.bool b)).run P w' = .ok (a == b) w' := fun d => by
    simp [Op.equalIn, run_underlying ht]
  simp only [Op.equal, Op.maxDepth]
  exact h 9999
theorem run_binBool (ti : TI) (op : BinOp) (t : TypeId) (a b : Bool) (ht : ti.kind = .bool → P.underlying t = some .bool) (h : (binBool ti op a b).ok) :
    ∃ u, RepV ρ ok w (binBool ti op a b).v u ∧ ∀ w', (Go.binOp op t (.bool a) (.bool b)).run P w' = .ok u w' := by
  revert h
  unfold binBool
  split
  · rename_i hk; intro _; exact ⟨_, .d _ _ (.bool _), fun w' => by simp [Go.binOp, run_eql_bool t a b (ht hk)]⟩
  · rename_i hk; intro _; exact ⟨_, .d _ _ (.bool _), fun w' => by simp [Go.binOp, run_eql_bool t a b (ht hk)]⟩
  · intro h; exact h.elim
theorem tab_und {T : TypeId → TI} (hT : TabOk P T) {t : TypeId} (hk : (T t).kind ≠ .other) : TyOk P t (T t) := by
  have := hT t
  cases e : (T t).kind <;> simp only [e] at this hk <;> first | exact this | exact absurd rfl hk
theorem und_bool {T : TypeId → TI} (hT : TabOk P T) {t : TypeId} (hk : (T t).kind = .bool) : P.underlying t = some .bool := by
  obtain ⟨d, hd, h⟩ := (tab_und hT (t := t) (by rw [hk]; simp)).und
  rw [hk] at h; rw [hd, h]
theorem und_str {T : TypeId → TI} (hT : TabOk P T) {t : TypeId} (hk : (T t).kind = .str) : P.underlying t = some .string := by
  obtain ⟨d, hd, h⟩ := (tab_und hT (t := t) (by rw [hk]; simp)).und
  rw [hk] at h; rw [hd, h]
theorem und_int {T : TypeId → TI} (hT : TabOk P T) {t : TypeId} {k : IntKind} (hk : (T t).kind = .int k) : P.underlying t = some (.int k) := by
  obtain ⟨d, hd, h⟩ := (tab_und hT (t := t) (by rw [hk]; simp)).und
  rw [hk] at h; rw [hd, h]
theorem und_slice {T : TypeId → TI} (hT : TabOk P T) {t e : TypeId} (hk : (T t).kind = .slice e) : P.underlying t = some (.slice e) := by
  obtain ⟨d, hd, h⟩ := (tab_und hT (t := t) (by rw [hk]; simp)).und
  rw [hk] at h; rw [hd, h]
theorem und_array {T : TypeId → TI} (hT : TabOk P T) {t e : TypeId} {n : Nat} (hk : (T t).kind = .array n e) : P.underlying t = some (.array n e) := by
  obtain ⟨d, hd, h⟩ := (tab_und hT (t := t) (by rw [hk]; simp)).und
  rw [hk] at h; rw [hd, h]
theorem und_struct {T : TypeId → TI} (hT : TabOk P T) {t : TypeId} {fs : List (Nat × Nat × TypeId)} (hk : (T t).kind = .struct fs) :
    ∃ fields, P.underlying t = some (.struct fields) ∧ fields.size = fs.length ∧ fieldsOk P fields fs := by
  obtain ⟨d, hd, h⟩ := (tab_und hT (t := t) (by rw [hk]; simp)).und
  rw [hk] at h
  obtain ⟨fields, rfl, h1, h2⟩ := h
  exact ⟨fields, hd, h1, h2⟩
theorem tab_info {T : TypeId → TI} (hT : TabOk P T) {t : TypeId} (hk : (T t).kind ≠ .other) :
    ∃ i, P.info? t = some i ∧ i.size = (T t).size ∧ i.bytes = (T t).bytes := by
  obtain ⟨i, z, h1, h2, h3, _⟩ := (tab_und hT hk).info
  exact ⟨i, h1, h2, h3⟩
theorem run_sizeOf_tab {T : TypeId → TI} (hT : TabOk P T) {t : TypeId} (hk : (T t).kind ≠ .other) (w' : World) : (sizeOf t).run P w' = .ok (T t).size w' := by
  obtain ⟨i, h1, h2, _⟩ := tab_info hT hk
  simp [sizeOf, typeInfo, h1, h2]
theorem run_isAgg_tab {T : TypeId → TI} (hT : TabOk P T) {t : TypeId} (hk : (T t).kind ≠ .other) (w' : World) : (isAgg t).run P w' = .ok (T t).agg w' := by
  obtain ⟨d, hd, h⟩ := (tab_und hT hk).und
  cases e : (T t).kind with
  | other => exact absurd e hk
  | struct fs =>
    rw [e] at h
    obtain ⟨fields, rfl, _⟩ := h
    simp [isAgg, run_underlying hd, TI.agg, e]
  | func =>
    rw [e] at h
    obtain ⟨_, _, _, rfl⟩ := h
    simp [isAgg, run_underlying hd, TI.agg, e]
  | _ => rw [e] at h; subst h; simp [isAgg, run_underlying hd, TI.agg, e]
theorem zf {k : TK} (h : (k matches .other) = false) : k ≠ .other := by
  intro e; subst e; simp at h
theorem und_pointer {T : TypeId → TI} (hT : TabOk P T) {t e : TypeId} (hk : (T t).kind = .pointer e) : P.underlying t = some (.pointer e) := by
  obtain ⟨d, hd, h⟩ := (tab_und hT (t := t) (by rw [hk]; simp)).und
  rw [hk] at h; rw [hd, h]
theorem rep_ptrNil {x : AV} {u : Value} (h : RepV ρ ok w x u) {b : Bool} (hb : ptrNil x = some b) : (b = true → u = .pointer none) ∧ (b = false → ∃ a, u = .pointer (some a)) := by
  unfold ptrNil at hb
  split at hb <;> cases hb
  · cases h with | ptr => exact ⟨(fun h => by cases h), fun _ => ⟨_, rfl⟩⟩
  · cases h with | rp => exact ⟨(fun h => by cases h), fun _ => ⟨_, rfl⟩⟩
  · cases h with | dp => exact ⟨(fun h => by cases h), fun _ => ⟨_, rfl⟩⟩
  · cases h with | d _ _ h => cases h with | sc _ _ => exact ⟨fun _ => rfl, (fun h => by cases h)⟩
theorem run_ptrNil {t e : TypeId} (ht : P.underlying t = some (.pointer e)) (p : Option Addr) (w' : World) :
    (Go.binOp .eql t (.pointer p) (.pointer none)).run P w' = .ok (.bool p.isNone) w' ∧ (Go.binOp .neq t (.pointer p) (.pointer none)).run P w' = .ok (.bool (!p.isNone)) w' := by
  have h : ∀ d : Nat, (Op.equalIn (d + 1) t (.pointer p) (.pointer none)).run P w' = .ok p.isNone w' := fun d => by
    cases p <;> simp [Op.equalIn, run_underlying ht]
  have h2 : (Op.equal t (.pointer p) (.pointer none)).run P w' = .ok p.isNone w' := h 9999
  constructor
  · simp [Go.binOp, h2]
  · simp [Go.binOp, h2]
theorem run_binPtr {T : TypeId → TI} (hT : TabOk P T) (op : BinOp) (t : TypeId) (x y : AV) (ux uy : Value) (hx : RepV ρ ok w x ux) (hy : RepV ρ ok w y uy) (h : (binPtr (T t) op x y).ok) :
    ∃ u, RepV ρ ok w (binPtr (T t) op x y).v u ∧ ∀ w', (Go.binOp op t ux uy).run P w' = .ok u w' ∧ ∀ ox oy, (eqGuard op t ox oy ux uy).run P w' = .ok () w' := by
  revert h
  unfold binPtr
  split
  · cases hy with | d _ _ hy => cases hy with | sc _ _ =>
    split
    · rename_i b e hb hk
      intro _
      obtain ⟨h1, h2⟩ := rep_ptrNil hx hb
      refine ⟨_, .d _ _ (.bool _), fun w' => ?_⟩
      cases b with
      | true => rw [h1 rfl]; exact ⟨(run_ptrNil (und_pointer hT hk) none w').1, fun ox oy => by simp [eqGuard]⟩
      | false => obtain ⟨a, e⟩ := h2 rfl; rw [e]; exact ⟨(run_ptrNil (und_pointer hT hk) (some a) w').1, fun ox oy => by simp [eqGuard]⟩
    · rename_i b e hb hk
      intro _
      obtain ⟨h1, h2⟩ := rep_ptrNil hx hb
      refine ⟨_, .d _ _ (.bool _), fun w' => ?_⟩
      cases b with
      | true => rw [h1 rfl]; exact ⟨(run_ptrNil (und_pointer hT hk) none w').2, fun ox oy => by simp [eqGuard]⟩
      | false => obtain ⟨a, e⟩ := h2 rfl; rw [e]; exact ⟨(run_ptrNil (und_pointer hT hk) (some a) w').2, fun ox oy => by simp [eqGuard]⟩
    · intro h; exact h.elim
  · intro h; exact h.elim
theorem run_abin {T : TypeId → TI} (hT : TabOk P T) (op : BinOp) (t : TypeId) (x y : AV) (ux uy : Value) (hx : RepV ρ ok w x ux) (hy : RepV ρ ok w y uy) (h : (abin (T t) op x y).ok) :
    ∃ u, RepV ρ ok w (abin (T t) op x y).v u ∧ ∀ w', (Go.binOp op t ux uy).run P w' = .ok u w' ∧ ∀ ox oy, (eqGuard op t ox oy ux uy).run P w' = .ok () w' := by
  revert h
  unfold abin
  split
  · intro h
    cases hx with | d _ _ hx => cases hx with | int k a =>
    cases hy with | d _ _ hy => cases hy with | int k' b =>
    obtain ⟨u, h1, h2⟩ := run_binInt (P := P) (ρ := ρ) (ok := ok) (w := w) op t _ _ _ _ h
    exact ⟨u, h1, fun w' => ⟨h2 w', fun ox oy => by cases op <;> simp [eqGuard]⟩⟩
  · intro h
    cases hx with | d _ _ hx => cases hx with | str a =>
    cases hy with | d _ _ hy => cases hy with | str b =>
    obtain ⟨u, h1, h2⟩ := run_binStr (P := P) (ρ := ρ) (ok := ok) (w := w) op t _ _ h
    exact ⟨u, h1, fun w' => ⟨h2 w', fun ox oy => by cases op <;> simp [eqGuard, mkStr]⟩⟩
  · intro h
    cases hx with | d _ _ hx => cases hx with | bool a =>
    cases hy with | d _ _ hy => cases hy with | bool b =>
    obtain ⟨u, h1, h2⟩ := run_binBool (P := P) (ρ := ρ) (ok := ok) (w := w) (T t) op t _ _ (fun hk => und_bool hT hk) h
    exact ⟨u, h1, fun w' => ⟨h2 w', fun ox oy => by cases op <;> simp [eqGuard]⟩⟩
  · rename_i xs ys
    cases hx with | agg _ us hul hu1 hur =>
    cases hy with | agg _ vs hvl hv1 hvr =>
    have main : ((T t).kind matches .other) = false → (T t).cmp ≠ [] → (eqLeaves (T t).cmp xs ys).1 → ∀ w', (Op.equalIn 10000 t (.agg us.toArray) (.agg vs.toArray)).run P w' = .ok (eqLeaves (T t).cmp xs ys).2 w' ∧ P.eqGuardType P.depth t = false := by
      intro hko hne hl w'
      have hty : TyOk P t (T t) := tab_und hT (by intro e; rw [e] at hko; simp at hko)
      obtain ⟨h1, h2, fs, hfs⟩ := hty.cmp hne
      have := run_leaves (P := P) (ρ := ρ) (ok := ok) (w := w) 8 t _ h1 xs ys us vs ⟨hul, hur⟩ ⟨hvl, hvr⟩ hl 9992 w'
      simp only [packV, hfs] at this
      exact ⟨this, h2⟩
    unfold binAgg
    split
    · intro ⟨hko, hne, hl⟩
      refine ⟨_, .d _ _ (.bool _), fun w' => ⟨?_, fun ox oy => ?_⟩⟩
      · rw [run_eql_struct, (main hko hne hl w').1]; rfl
      · exact run_eqGuard_agg w' .eql t ox oy _ _ (main hko hne hl w').2
    · intro ⟨hko, hne, hl⟩
      refine ⟨_, .d _ _ (.bool _), fun w' => ⟨?_, fun ox oy => ?_⟩⟩
      · rw [run_neq_struct, (main hko hne hl w').1]; rfl
      · exact run_eqGuard_agg w' .neq t ox oy _ _ (main hko hne hl w').2
    · intro h; exact h.elim
  · exact run_binPtr hT op t x y ux uy hx hy
theorem run_aun (op : UnOp) (x : AV) (ux : Value) (hx : RepV ρ ok w x ux) (h : (aun op x).ok) :
    ∃ u, RepV ρ ok w (aun op x).v u ∧ ∀ w', (Op.unary op ux).run P w' = .ok u w' := by
  revert h
  unfold aun
  split
  · cases hx with | d _ _ hx => cases hx with | bool b =>
    split
    · intro _; exact ⟨_, .d _ _ (.bool _), fun w' => by simp [Op.unary]⟩
    · intro h; exact h.elim
  · cases hx with | d _ _ hx => cases hx with | int k n =>
    split
    · intro _; exact ⟨_, .d _ _ (.int _ _), fun w' => by simp [Op.unary, Op.intArith]⟩
    · intro _; exact ⟨_, .d _ _ (.int _ _), fun w' => by simp [Op.unary, intBits_xor]⟩
    · intro h; exact h.elim
  · intro h; exact h.elim
theorem run_apick (c x y : AV) (uc ux uy : Value) (hc : RepV ρ ok w c uc) (hx : RepV ρ ok w x ux) (hy : RepV ρ ok w y uy) (h : (apick c x y).ok) :
    ∃ u, RepV ρ ok w (apick c x y).v u ∧ ∀ w', (do pure (Next.value (if ← asBool uc then ux else uy)) : Sem Next).run P w' = .ok (.value u) w' := by
  revert h
  unfold apick
  split
  · rename_i c' p q e1 e2 e3
    intro ⟨h1, h2, h3⟩
    have hc1 := strip_ok hc h1
    rw [e1] at hc1
    cases hc1 with | d _ _ hc1 =>
    cases hc1
    cases c' with
    | true =>
      have hx1 := strip_ok hx (h2 rfl)
      rw [e2] at hx1
      exact ⟨ux, hx1, fun w' => by simp [asBool]⟩
    | false =>
      have hy1 := strip_ok hy (h3 rfl)
      rw [e3] at hy1
      exact ⟨uy, hy1, fun w' => by simp [asBool]⟩
  · intro h; exact h.elim
theorem run_aext (i : Nat) (x : AV) (ux : Value) (hx : RepV ρ ok w x ux) (h : (aext i x).ok) :
    ∃ u, RepV ρ ok w (aext i x).v u ∧ ∀ w', (Instr.extract ux i).run P w' = .ok u w' := by
  revert h
  unfold aext
  split
  · rename_i vs
    intro h
    cases hx with | tup _ us hl hr =>
    have hi : i < us.length := by rw [hl]; exact h
    refine ⟨us[i], hr i _ _ ?_ (List.getElem?_eq_getElem hi), fun w' => by simp [Instr.extract, hi]⟩
    simp only [List.getD_eq_getElem?_getD, List.getElem?_eq_getElem h, Option.getD_some]
  · intro h; exact h.elim
theorem run_aconv {T : TypeId → TI} (hT : TabOk P T) (src dst : TypeId) (x : AV) (ux : Value) (hsrc : ∃ d, P.underlying src = some d) (hx : RepV ρ ok w x ux) (h : (aconv (T dst) x).ok) :
    ∃ u, RepV ρ ok w (aconv (T dst) x).v u ∧ ∀ w', (Go.convert src dst ux).run P w' = .ok u w' := by
  obtain ⟨ds, hs⟩ := hsrc
  revert h
  unfold aconv
  split
  · cases hx with | d _ _ hx => cases hx with | int k n =>
    split
    · rename_i k' hk
      intro _
      exact ⟨_, .d _ _ (.int _ _), fun w' => by simp [Go.convert, run_underlying hs, run_underlying (und_int hT hk), Conv.intToInt]⟩
    · intro h; exact h.elim
  · cases hx with | d _ _ hx => cases hx with | str l =>
    split
    · rename_i hk
      intro _
      exact ⟨_, .d _ _ (.str _), fun w' => by simp [Go.convert, run_underlying hs, run_underlying (und_str hT hk), mkStr]⟩
    · intro h; exact h.elim
  · intro h; exact h.elim
theorem run_alen {T : TypeId → TI} (hT : TabOk P T) (t ty : TypeId) (x : AV) (ux : Value) (hx : RepV ρ ok w x ux) (h : (alen (T t) x).ok) :
    ∃ u, RepV ρ ok w (alen (T t) x).v u ∧ ∀ w', (Builtin.len_ #[t] ty #[ux]).run P w' = .ok u w' := by
  revert h
  unfold alen
  split
  · cases hx with | d _ _ hx => cases hx with | str l =>
    split
    · rename_i hk
      intro _
      exact ⟨_, .d _ _ (.int _ _), fun w' => by simp [Builtin.len_, run_underlying (und_str hT hk), mkStr, mk_size, goInt]⟩
    · intro h; exact h.elim
  · cases hx with | d _ _ hx => cases hx with | sl sz rows A cap u hcap hsz hc hr =>
    split
    · rename_i hk
      intro _
      exact ⟨_, .d _ _ (.int _ _), fun w' => by simp [Builtin.len_, run_underlying (und_slice hT hk), goInt]⟩
    · intro h; exact h.elim
  · split
    · rename_i hk
      intro _
      cases hx with
      | osl k sz off n b m cap h hm hn => exact ⟨_, .d _ _ (.int _ _), fun w' => by simp [Builtin.len_, run_underlying (und_slice hT hk), goInt]⟩
      | oslnil k sz A h => exact ⟨_, .d _ _ (.int _ _), fun w' => by simp [Builtin.len_, run_underlying (und_slice hT hk), goInt]⟩
    · intro h; exact h.elim
  · cases hx with | d _ _ hx =>
    obtain ⟨A, rfl⟩ := sc_nil hx
    split
    · rename_i hk
      intro _
      exact ⟨_, .d _ _ (.int _ _), fun w' => by simp [Builtin.len_, run_underlying (und_slice hT hk), goInt]⟩
    · intro h; exact h.elim
  · intro h; exact h.elim
theorem run_amm (mx : Bool) (x y : AV) (ux uy : Value) (hx : RepV ρ ok w x ux) (hy : RepV ρ ok w y uy) (h : (amm mx x y).ok) :
    ∃ u, RepV ρ ok w (amm mx x y).v u ∧ ∀ w', (if mx then Builtin.max2 ux uy else Builtin.min2 ux uy : Sem Value).run P w' = .ok u w' := by
  revert h
  unfold amm
  split
  · cases hx with | d _ _ hx => cases hx with | int k a =>
    cases hy with | d _ _ hy => cases hy with | int k' b =>
    intro h
    refine ⟨_, .d _ _ (.int _ _), fun w' => ?_⟩
    cases mx <;> simp [Builtin.max2, Builtin.min2]
  · intro h; exact h.elim
end
end Go.Proofs.YtainmipdnjcbkaaGreatDoor
namespace Go.Proofs.YtainmipdnjcbkaaGreatDoor
set_option linter.unusedVariables false
set_option linter.unusedSimpArgs false
open Go Go.RowKit
section
variable {P : Program} {ρ : List (Option (Nat × Nat))} {ok : Nat → Prop} {w : World}
theorem load_seg (w' : World) (b o : Nat) (us : List Value) (h : ∀ (j : Nat) (u : Value), us[j]? = some u → w'.cell? ⟨b, o + j, none⟩ = some u) :
    (loadCells ⟨b, o, none⟩ us.length).run P w' = .ok us.toArray w' :=
  run_loadCells_list (P := P) w' ⟨b, o, none⟩ us fun j v hj => by rw [Addr.add_lit]; exact h j v hj
theorem run_loadVar_seg {T : TypeId → TI} (hT : TabOk P T) (t : TypeId) (hk : (T t).kind ≠ .other) (w' : World) (b o : Nat) (us : List Value) (hl : us.length = (T t).size)
    (h1 : (T t).agg = false → (T t).size = 1) (h : ∀ (j : Nat) (u : Value), us[j]? = some u → w'.cell? ⟨b, o + j, none⟩ = some u) :
    (loadVar t ⟨b, o, none⟩).run P w' = .ok (if (T t).agg then .agg us.toArray else us.getD 0 undef) w' := by
  unfold loadVar
  cases e : (T t).agg with
  | true => simp [run_isAgg_tab hT hk, e, run_sizeOf_tab hT hk, ← hl, load_seg w' b o us h]
  | false =>
    have hs := h1 e
    have : ∃ u, us = [u] := by
      match us, (hl.trans hs : us.length = 1) with
      | [u], _ => exact ⟨u, rfl⟩
    obtain ⟨u, rfl⟩ := this
    have h0 := h 0 u rfl
    rw [Nat.add_zero] at h0
    simp [run_isAgg_tab hT hk, e, h0]
theorem cell_of_cells {w : World} {b o : Nat} {us : Array Value} {ty : TypeId} {fz : Nat × Nat} (h : w.heap[b]? = some (.cells us ty fz)) : w.cell? ⟨b, o, none⟩ = us[o]? := by
  simp [World.cell?, h]
theorem zv {α : Type} (l : List α) (o n j : Nat) (x : α) (h : ((l.drop o).take n)[j]? = some x) : l[o + j]? = some x ∧ j < n := by
  rw [List.getElem?_take] at h
  split at h
  · rename_i hj
    rw [List.getElem?_drop] at h
    exact ⟨h, hj⟩
  · cases h
theorem length_seg {α : Type} (l : List α) (o n : Nat) (h : o + n ≤ l.length) : ((l.drop o).take n).length = n := by
  simp only [List.length_take, List.length_drop]; omega
theorem mem_seg {α : Type} {l : List α} {a n : Nat} {x : α} (h : x ∈ (l.drop a).take n) : x ∈ l := List.mem_of_mem_drop (List.mem_of_mem_take h)
theorem getD_of_lt {α : Type} (l : List α) (i : Nat) (x : α) (h : i < l.length) : l[i]? = some (l.getD i x) := by
  simp [List.getD_eq_getElem?_getD, List.getElem?_eq_getElem h]
def Blks (ρ : List (Option (Nat × Nat))) (ok : Nat → Prop) (w : World) (hp : List ABlk) : Prop :=
  (∀ (k : Nat) (x : ABlk) (b m : Nat), hp[k]? = some x → ρ[k]? = some (some (b, m)) → x ≠ .dead ∧ x.isObj = false → ∃ us ty fz, w.heap[b]? = some (.cells us ty fz) ∧ us.size = m ∧ RepBlk ρ ok w us x) ∧ ∀ (k sz : Nat) (rs : List (List DV)), hp[k]? = some (.full sz rs) → ρ[k]? ≠ some none
theorem run_aload_ptr {T : TypeId → TI} (hT : TabOk P T) (hlt : ∀ b, ok b → b < w.heap.size) {hp : List ABlk} (hB : Blks ρ ok w hp) (t : TypeId) {k off b m : Nat} {cs : List AV} (hcs : hp[k]? = some (.cells cs)) (hk : ρ[k]? = some (some (b, m)))
    (h1 : off + (T t).size ≤ cs.length) (h2 : (T t).agg = false → (T t).size = 1) (h3 : ((T t).kind matches .other) = false) :
    ∃ u, RepV ρ ok w (if (T t).agg then .agg ((cs.drop off).take (T t).size) else cs.getD off .any) u ∧ ∀ w', Below w.heap.size w w' → (Instr.loadAt t (.pointer (some ⟨b, off, none⟩))).run P w' = .ok u w' := by
  obtain ⟨us, ty, fz, hw, hm, hone, hl, hr⟩ := hB.1 k _ b m hcs hk (by simp)
  have hko := zf h3
  have hlen : ((us.toList.drop off).take (T t).size).length = (T t).size := length_seg _ _ _ (by simp [hl, h1])
  have hrun : ∀ w', Below w.heap.size w w' → (loadVar t ⟨b, off, none⟩).run P w' = .ok (if (T t).agg then .agg ((us.toList.drop off).take (T t).size).toArray else ((us.toList.drop off).take (T t).size).getD 0 undef) w' := fun w' hb =>
    run_loadVar_seg hT t hko w' b off _ hlen h2 fun j u hj => by
      have := (zv _ _ _ _ _ hj).1
      rw [cell_of_same (hb.block b (lt_of_heap hw)), cell_of_cells hw]
      simpa using this
  refine ⟨_, ?_, fun w' hb => by simp only [Instr.loadAt, Instr.sureAddr, Sem.run_bind, Sem.run_pure, Result.andThen_ok]; exact hrun w' hb⟩
  cases e : (T t).agg with
  | true =>
    simp only [if_true]
    refine .agg _ _ (by rw [hlen, length_seg _ _ _ h1]) (fun u hu => hone u (mem_seg hu)) fun j c u hc hu => ?_
    have a1 := (zv _ _ _ _ _ hc).1
    have a2 := (zv _ _ _ _ _ hu).1
    exact hr _ _ _ a1 (by simpa using a2)
  | false =>
    have hs := h2 e
    have ho : off < us.size := by omega
    have e1 : ((us.toList.drop off).take (T t).size).getD 0 undef = us[off] := by
      rw [hs]; simp [List.getD_eq_getElem?_getD, List.getElem?_drop, ho]
    simp only [Bool.false_eq_true, if_false, e1]
    exact hr off _ _ (getD_of_lt _ _ _ (by omega)) (by simp [ho])
theorem run_aload {T : TypeId → TI} (hT : TabOk P T) (hlt : ∀ b, ok b → b < w.heap.size) {hp : List ABlk} (hB : Blks ρ ok w hp) (t : TypeId) (x : AV) (ux : Value) (hx : RepV ρ ok w x ux)
    (h : (aload (T t) hp x).ok) :
    ∃ u, RepV ρ ok w (aload (T t) hp x).v u ∧ ∀ w', Below w.heap.size w w' → (Instr.loadAt t ux).run P w' = .ok u w' := by
  revert h
  unfold aload
  split
  · -- a pointer into a block of cells
    rename_i k off
    split
    · rename_i cs hcs
      intro ⟨h1, h2, h3⟩
      cases hx with | ptr _ _ b m hk =>
      exact run_aload_ptr hT hlt hB t hcs hk h1 h2 h3
    · intro h; exact h.elim
  · -- a pointer into a row
    rename_i k sz i off
    split
    · rename_i sz' rs hcs
      intro ⟨h0, hi, h1, h2, h3⟩
      subst h0
      cases hx with | rp _ _ _ _ b m hk =>
      obtain ⟨us, ty, fz, hw, hm, hone, hsz, hl, hr⟩ := hB.1 k _ b m hcs hk (by simp)
      have hko := zf h3
      have hrow := getD_of_lt rs i [] hi
      have hrl : (rs.getD i []).length = sz := hsz _ (List.mem_of_getElem? hrow)
      have hfit : i * sz + off + (T t).size ≤ us.size := by
        have : (i + 1) * sz ≤ rs.length * sz := Nat.mul_le_mul_right _ hi
        rw [Nat.add_mul] at this
        omega
      have hlen : ((us.toList.drop (i * sz + off)).take (T t).size).length = (T t).size := length_seg _ _ _ (by simpa using hfit)
      have hrun : ∀ w', Below w.heap.size w w' → (loadVar t ⟨b, i * sz + off, none⟩).run P w' = .ok (if (T t).agg then .agg ((us.toList.drop (i * sz + off)).take (T t).size).toArray else ((us.toList.drop (i * sz + off)).take (T t).size).getD 0 undef) w' := fun w' hb =>
        run_loadVar_seg hT t hko w' b (i * sz + off) _ hlen h2 fun j u hj => by
          have := (zv _ _ _ _ _ hj).1
          rw [cell_of_same (hb.block b (lt_of_heap hw)), cell_of_cells hw]
          simpa using this
      refine ⟨_, ?_, fun w' hb => by simp only [Instr.loadAt, Instr.sureAddr, Sem.run_bind, Sem.run_pure, Result.andThen_ok]; exact hrun w' hb⟩
      cases e : (T t).agg with
      | true =>
        simp only [if_true]
        refine .agg _ _ (by rw [hlen, List.length_map, length_seg _ _ _ (by rw [hrl]; exact h1)]) (fun u hu => hone u (mem_seg hu)) fun j c u hc hu => ?_
        rw [List.getElem?_map] at hc
        obtain ⟨c', hc', rfl⟩ := Option.map_eq_some_iff.1 hc
        have a1 := (zv _ _ _ _ _ hc').1
        have a2 := (zv _ _ _ _ _ hu).1
        exact .d _ _ (hr i _ hrow (off + j) _ _ a1 (by simpa [Nat.add_assoc] using a2))
      | false =>
        have hs := h2 e
        have ho : i * sz + off < us.size := by omega
        have e1 : ((us.toList.drop (i * sz + off)).take (T t).size).getD 0 undef = us[i * sz + off] := by
          rw [hs]; simp [List.getD_eq_getElem?_getD, List.getElem?_drop, ho]
        simp only [Bool.false_eq_true, if_false, e1]
        exact .d _ _ (hr i _ hrow off _ _ (getD_of_lt _ _ _ (by omega)) (by simp [ho]))
    · rename_i l hcs
      generalize hrs : l.map u8row = rs at *
      intro ⟨h0, hi, h1, h2, h3⟩
      cases hx with | rp _ _ _ _ b m hk =>
      obtain ⟨us, ty, fz, hw, hm, hone, hsz, hl, hr⟩ := hB.1 k _ b m hcs hk (by simp)
      rw [hrs] at hsz hl hr; rw [← h0] at hsz hl hr
      have hko := zf h3
      have hrow := getD_of_lt rs i [] hi
      have hrl : (rs.getD i []).length = sz := hsz _ (List.mem_of_getElem? hrow)
      have hfit : i * sz + off + (T t).size ≤ us.size := by
        have : (i + 1) * sz ≤ rs.length * sz := Nat.mul_le_mul_right _ hi
        rw [Nat.add_mul] at this
        omega
      have hlen : ((us.toList.drop (i * sz + off)).take (T t).size).length = (T t).size := length_seg _ _ _ (by simpa using hfit)
      have hrun : ∀ w', Below w.heap.size w w' → (loadVar t ⟨b, i * sz + off, none⟩).run P w' = .ok (if (T t).agg then .agg ((us.toList.drop (i * sz + off)).take (T t).size).toArray else ((us.toList.drop (i * sz + off)).take (T t).size).getD 0 undef) w' := fun w' hb =>
        run_loadVar_seg hT t hko w' b (i * sz + off) _ hlen h2 fun j u hj => by
          have := (zv _ _ _ _ _ hj).1
          rw [cell_of_same (hb.block b (lt_of_heap hw)), cell_of_cells hw]
          simpa using this
      refine ⟨_, ?_, fun w' hb => by simp only [Instr.loadAt, Instr.sureAddr, Sem.run_bind, Sem.run_pure, Result.andThen_ok]; exact hrun w' hb⟩
      cases e : (T t).agg with
      | true =>
        simp only [if_true]
        refine .agg _ _ (by rw [hlen, List.length_map, length_seg _ _ _ (by rw [hrl]; exact h1)]) (fun u hu => hone u (mem_seg hu)) fun j c u hc hu => ?_
        rw [List.getElem?_map] at hc
        obtain ⟨c', hc', rfl⟩ := Option.map_eq_some_iff.1 hc
        have a1 := (zv _ _ _ _ _ hc').1
        have a2 := (zv _ _ _ _ _ hu).1
        exact .d _ _ (hr i _ hrow (off + j) _ _ a1 (by simpa [Nat.add_assoc] using a2))
      | false =>
        have hs := h2 e
        have ho : i * sz + off < us.size := by omega
        have e1 : ((us.toList.drop (i * sz + off)).take (T t).size).getD 0 undef = us[i * sz + off] := by
          rw [hs]; simp [List.getD_eq_getElem?_getD, List.getElem?_drop, ho]
        simp only [Bool.false_eq_true, if_false, e1]
        exact .d _ _ (hr i _ hrow off _ _ (getD_of_lt _ _ _ (by omega)) (by simp [ho]))
    · rename_i cs hcs
      intro ⟨h1, h2, h3⟩
      cases hx with | rp _ _ _ _ b m hk =>
      exact run_aload_ptr hT hlt hB t hcs hk h1 h2 h3
    · intro h; exact h.elim
  · rename_i row off
    intro ⟨h1, h2, h3⟩
    cases hx with | dp _ _ b o u hb hc hr =>
    have hko := zf h3
    have hlen : (((List.range row.length).map u |>.drop off).take (T t).size).length = (T t).size := length_seg _ _ _ (by simpa using h1)
    have hcell : ∀ j v, (((List.range row.length).map u |>.drop off).take (T t).size)[j]? = some v → v = u (off + j) ∧ off + j < row.length := fun j v hj => by
      have := (zv _ _ _ _ _ hj).1
      rw [List.getElem?_map] at this
      obtain ⟨q, hq, rfl⟩ := Option.map_eq_some_iff.1 this
      obtain ⟨hq1, hq2⟩ := List.getElem?_eq_some_iff.1 hq
      simp at hq1 hq2
      exact ⟨by rw [← hq2], hq1⟩
    have hrun : ∀ w', Below w.heap.size w w' → (loadVar t ⟨b, o + off, none⟩).run P w' = .ok (if (T t).agg then .agg (((List.range row.length).map u |>.drop off).take (T t).size).toArray else (((List.range row.length).map u |>.drop off).take (T t).size).getD 0 undef) w' := fun w' hbl =>
      run_loadVar_seg hT t hko w' b (o + off) _ hlen h2 fun j v hj => by
        obtain ⟨rfl, hjl⟩ := hcell j v hj
        rw [cell_of_same (hbl.block b (hlt b hb)), Nat.add_assoc]
        exact hc (off + j) _ (List.getElem?_eq_getElem hjl)
    refine ⟨_, ?_, fun w' hbl => by simp only [Instr.loadAt, Instr.sureAddr, Sem.run_bind, Sem.run_pure, Result.andThen_ok]; exact hrun w' hbl⟩
    cases e : (T t).agg with
    | true =>
      simp only [if_true]
      refine .agg _ _ (by rw [hlen, List.length_map, length_seg _ _ _ h1]) (fun v hv => ?_) fun j c v hcj hu => ?_
      · obtain ⟨j, hj⟩ := List.mem_iff_getElem?.1 hv
        obtain ⟨rfl, hjl⟩ := hcell j v hj
        exact (hr (off + j) _ (List.getElem?_eq_getElem hjl)).one
      rw [List.getElem?_map] at hcj
      obtain ⟨c', hc', rfl⟩ := Option.map_eq_some_iff.1 hcj
      have a1 := (zv _ _ _ _ _ hc').1
      obtain ⟨rfl, _⟩ := hcell j v hu
      exact .d _ _ (hr _ _ a1)
    | false =>
      have hs := h2 e
      have ho : off < row.length := by omega
      have e1 : (((List.range row.length).map u |>.drop off).take (T t).size).getD 0 undef = u off := by
        rw [hs]; simp [List.getD_eq_getElem?_getD, List.getElem?_drop, ho]
      simp only [Bool.false_eq_true, if_false, e1]
      exact .d _ _ (hr off _ (getD_of_lt _ _ _ ho))
  · intro h; exact h.elim
theorem run_fieldPlace {b o : Nat} {f : Field} {i : TypeInfo} (hi : P.info? f.type = some i) (hs : i.size ≠ 0) (w' : World) :
    (fieldPlace ⟨b, o, none⟩ f).run P w' = .ok ⟨b, o + f.offset, none⟩ w' := by
  simp [fieldPlace, sizeOf, typeInfo, hi, hs, Addr.add_lit]
theorem run_afld {T : TypeId → TI} (hT : TabOk P T) (t : TypeId) (i : Nat) (x : AV) (ux : Value) (hx : RepV ρ ok w x ux) (h : (afld (T t) i x).ok) :
    ∃ u, RepV ρ ok w (afld (T t) i x).v u ∧ ∀ w', (Instr.fieldAt t ux i).run P w' = .ok u w' := by
  revert h
  unfold afld
  split
  · rename_i fs hk
    obtain ⟨fields, hu, hfs, hf⟩ := und_struct hT hk
    split
    · rename_i o s ft k off hi
      intro _
      obtain ⟨f, hf1, hf2, hf3, hs, j, hj1, hj2⟩ := hf i o s ft hi
      cases hx with | ptr _ _ b m hk =>
      exact ⟨_, .ptr k (off + o) b m hk, fun w' => by simp [Instr.fieldAt, run_underlying hu, hf1, Instr.sureAddr, run_fieldPlace (hf3 ▸ hj1) (hj2 ▸ hs), hf2]⟩
    · rename_i o s ft k sz j off hi
      intro _
      obtain ⟨f, hf1, hf2, hf3, hs, q, hj1, hj2⟩ := hf i o s ft hi
      cases hx with | rp _ _ _ _ b m hk =>
      exact ⟨_, .rp k sz j (off + o) b m hk, fun w' => by simp [Instr.fieldAt, run_underlying hu, hf1, Instr.sureAddr, run_fieldPlace (hf3 ▸ hj1) (hj2 ▸ hs), hf2, Nat.add_assoc]⟩
    · rename_i o s ft row off hi
      intro _
      obtain ⟨f, hf1, hf2, hf3, hs, j, hj1, hj2⟩ := hf i o s ft hi
      cases hx with | dp _ _ b o' u hb hc hr =>
      exact ⟨_, .dp row (off + o) b o' u hb hc hr, fun w' => by simp [Instr.fieldAt, run_underlying hu, hf1, Instr.sureAddr, run_fieldPlace (hf3 ▸ hj1) (hj2 ▸ hs), hf2, Nat.add_assoc]⟩
    · intro h; exact h.elim
  · intro h; exact h.elim
theorem run_part {T : TypeId → TI} (hT : TabOk P T) (t : TypeId) (hk : (T t).kind ≠ .other) (us : List Value) (o : Nat) (cs : List AV) (hl : us.length = cs.length) (hfit : o + (T t).size ≤ cs.length)
    (h1 : (T t).agg = false → (T t).size = 1) (hone : ∀ u, u ∈ us → u.oneCell' = true)
    (hr : ∀ (j : Nat) (c : AV) (u : Value), cs[j]? = some c → us[j]? = some u → RepV ρ ok w c u) :
    ∃ u, RepV ρ ok w (if (T t).agg then .agg ((cs.drop o).take (T t).size) else cs.getD o .any) u ∧ ∀ w', (part t us.toArray o).run P w' = .ok u w' := by
  cases e : (T t).agg with
  | true =>
    refine ⟨.agg ((us.drop o).take (T t).size).toArray, ?_, fun w' => ?_⟩
    · simp only [if_true]
      refine .agg _ _ (by rw [length_seg _ _ _ (by omega), length_seg _ _ _ (by omega)]) (fun u hu => hone u (mem_seg hu)) fun j c u hc hu => ?_
      exact hr _ _ _ (zv _ _ _ _ _ hc).1 (zv _ _ _ _ _ hu).1
    · simp [part, run_isAgg_tab hT hk, e, run_sizeOf_tab hT hk, List.extract_eq_take_drop]
  | false =>
    have hs := h1 e
    have ho : o < us.length := by omega
    refine ⟨us[o], ?_, fun w' => ?_⟩
    · simp only [Bool.false_eq_true, if_false]
      exact hr o _ _ (getD_of_lt _ _ _ (by omega)) (List.getElem?_eq_getElem ho)
    · simp [part, run_isAgg_tab hT hk, e, ho]
theorem run_apart {T : TypeId → TI} (hT : TabOk P T) (t : TypeId) (i : Nat) (x : AV) (ux : Value) (hx : RepV ρ ok w x ux) (h : (apart T (T t) i x).ok)
    (h1 : ∀ t, (T t).kind ≠ .other → (T t).agg = false → (T t).size = 1) :
    ∃ u, RepV ρ ok w (apart T (T t) i x).v u ∧ ∀ w', (Instr.field t ux i).run P w' = .ok u w' := by
  revert h
  unfold apart
  split
  · rename_i fs hk
    obtain ⟨fields, hu, hfs, hf⟩ := und_struct hT hk
    split
    · rename_i o s ft cs hi
      intro ⟨hfit, hko, hst⟩
      have hko := zf hko
      obtain ⟨f, hf1, hf2, hf3, hs, j, hj1, hj2⟩ := hf i o s ft hi
      cases hx with | agg _ us hl hone hr =>
      subst hst
      obtain ⟨u, hu1, hu2⟩ := run_part hT ft hko us o cs hl hfit (h1 ft hko) hone hr
      exact ⟨u, hu1, fun w' => by simp [Instr.field, run_underlying hu, hf1, asAgg, hf2, hf3, hu2]⟩
    · intro h; exact h.elim
  · intro h; exact h.elim
theorem run_aidxAddr {T : TypeId → TI} (hT : TabOk P T) (t : TypeId) (x y : AV) (ux uy : Value) (hx : RepV ρ ok w x ux) (hy : RepV ρ ok w y uy) (h : (aidxAddr T (T t) x y).ok) :
    ∃ u, RepV ρ ok w (aidxAddr T (T t) x y).v u ∧ ∀ w', (Instr.indexAt t ux uy).run P w' = .ok u w' := by
  revert h
  unfold aidxAddr
  split
  · rename_i kk i
    cases hy with | d _ _ hy => cases hy with | int _ _ =>
    split
    · rename_i e sz rows hk
      intro ⟨h0, hi, hs, hko⟩
      have hko := zf hko
      cases hx with | d _ _ hx => cases hx with | sl _ _ A cap u hcap hsz hc hr =>
      have hi' : i.toNat < rows.length := by omega
      obtain ⟨b, o, rfl, hb, hcell⟩ := hc (by omega)
      have hrow := getD_of_lt rows i.toNat (T e).zero hi'
      refine ⟨.pointer (some ⟨b, o + i.toNat * sz + 0, none⟩), .dp _ 0 b (o + i.toNat * sz) (u i.toNat) hb (fun j c hj => ?_) (fun j c hj => hr _ _ hrow j c hj), fun w' => ?_⟩
      · have := hcell _ _ hrow j c hj
        rwa [Nat.add_assoc]
      · simp [Instr.indexAt, asIntOf, run_underlying (und_slice hT hk), h0, hi, run_sizeOf_tab hT hko, hs, Addr.add_lit]
    · rename_i e k sz off n hk
      intro ⟨h0, hi, hs, hko⟩
      have hko := zf hko
      cases hx with
      | oslnil _ _ _ h => simp at hi; omega
      | osl _ _ _ _ b m cap hkk hm hn =>
      refine ⟨.pointer (some ⟨b, (off + i.toNat) * sz + 0, none⟩), .rp k sz _ 0 b m hkk, fun w' => ?_⟩
      simp [Instr.indexAt, asIntOf, run_underlying (und_slice hT hk), h0, hi, run_sizeOf_tab hT hko, hs, Addr.add_lit, Nat.add_mul]
    · rename_i n e k off hk
      intro ⟨h0, hi, hko⟩
      have hko := zf hko
      cases hx with | ptr _ _ b m hkk =>
      refine ⟨_, .ptr k (off + i.toNat * (T e).size) b m hkk, fun w' => ?_⟩
      simp [Instr.indexAt, asIntOf, run_underlying (und_array hT hk), h0, hi, run_sizeOf_tab hT hko, Instr.sureAddr, Addr.add_lit]
    · intro h; exact h.elim
  · intro h; exact h.elim
theorem run_aidx {T : TypeId → TI} (hT : TabOk P T) (t : TypeId) (x y : AV) (ux uy : Value) (hx : RepV ρ ok w x ux) (hy : RepV ρ ok w y uy) (h : (aidx T (T t) x y).ok) :
    ∃ u, RepV ρ ok w (aidx T (T t) x y).v u ∧ ∀ w', (Instr.index t ux uy).run P w' = .ok u w' := by
  revert h
  unfold aidx
  split
  · rename_i kk i
    cases hy with | d _ _ hy => cases hy with | int _ _ =>
    split
    · rename_i l hk
      intro ⟨h0, hi⟩
      cases hx with | d _ _ hx => cases hx with | str _ =>
      have hi' : i.toNat < l.length := by omega
      have e1 : (⟨l.toArray⟩ : ByteArray)[i.toNat]? = some l[i.toNat] := by
        rw [getElem?_pos _ _ (by rw [mk_size]; exact hi')]
        rfl
      refine ⟨_, .d _ _ (.int _ _), fun w' => ?_⟩
      simp [Instr.index, asIntOf, run_underlying (und_str hT hk), h0, mkStr, e1, List.getD_eq_getElem?_getD, List.getElem?_eq_getElem hi']
    · rename_i n e cs hk
      intro ⟨h0, hi, h1, hl', hko⟩
      have hko := zf hko
      cases hx with | agg _ us hl hone hr =>
      have hi' : i.toNat < n := by omega
      cases ha : (T e).agg with
      | true =>
        rw [ha] at hl'
        simp only [if_true] at hl'
        have hfit : i.toNat * (T e).size + (T e).size ≤ cs.length := by
          rw [hl', ← Nat.succ_mul]; exact Nat.mul_le_mul_right _ hi'
        obtain ⟨u, hu1, hu2⟩ := run_part hT e hko us (i.toNat * (T e).size) cs hl hfit h1 hone hr
        rw [ha] at hu1
        simp only [if_true] at hu1 ⊢
        exact ⟨u, hu1, fun w' => by simp [Instr.index, asIntOf, run_underlying (und_array hT hk), h0, hi, run_sizeOf_tab hT hko, hu2]⟩
      | false =>
        have hs := h1 ha
        rw [ha] at hl'
        simp only [Bool.false_eq_true, if_false] at hl'
        obtain ⟨u, hu1, hu2⟩ := run_part hT e hko us i.toNat cs hl (by omega) (fun _ => hs) hone hr
        rw [ha] at hu1
        simp only [Bool.false_eq_true, if_false] at hu1 ⊢
        exact ⟨u, hu1, fun w' => by simp [Instr.index, asIntOf, run_underlying (und_array hT hk), h0, hi, run_sizeOf_tab hT hko, hs, hu2]⟩
    · intro h; exact h.elim
  · intro h; exact h.elim
end
end Go.Proofs.YtainmipdnjcbkaaGreatDoor
namespace Go.Proofs.YtainmipdnjcbkaaGreatDoor
set_option linter.unusedVariables false
set_option linter.unusedSimpArgs false
open Go Go.RowKit
def abnd (d : Int) : Option AV → Int
  | some (.d (.int _ i)) => i
  | _ => d
def abndOk : Option AV → Prop
  | none => True
  | some (.d (.int _ _)) => True
  | _ => False
def aslStr (l : List UInt8) (lo hi mx : Option AV) (a b : Int) : PR :=
  ⟨mx = none ∧ abndOk lo ∧ abndOk hi ∧ 0 ≤ a ∧ a ≤ b ∧ b ≤ l.length, .d (.str ((l.drop a.toNat).take (b.toNat - a.toNat)))⟩
def aslSl (te : TI) (sz : Nat) (rows : List (List DV)) (lo hi mx : Option AV) (a b m : Int) : PR :=
  ⟨abndOk lo ∧ abndOk hi ∧ abndOk mx ∧ (mx = none ∨ hi ≠ none) ∧ 0 ≤ a ∧ a ≤ b ∧ b ≤ m ∧ m ≤ rows.length ∧ te.size = sz ∧ (te.kind matches .other) = false, if mx.isSome = true ∧ m = 0 then .d (.sc (.slice none 0 0)) else .d (.sl sz ((rows.drop a.toNat).take (b.toNat - a.toNat)))⟩
def aslOwn (te : TI) (k sz off n : Nat) (lo hi mx : Option AV) (a b m : Int) : PR :=
  ⟨abndOk lo ∧ abndOk hi ∧ abndOk mx ∧ (mx = none ∨ hi ≠ none) ∧ 0 ≤ a ∧ a ≤ b ∧ b ≤ m ∧ m ≤ n ∧ te.size = sz ∧ (te.kind matches .other) = false,
      if mx.isSome = true then .any else if a.toNat = 0 then .osl k sz off b.toNat else if a.toNat < m.toNat then .osl k sz (off + a.toNat) (b.toNat - a.toNat) else .d (.sl sz [])⟩
def aslFull (te : TI) (k sz off N : Nat) (lo hi mx : Option AV) (a b m : Int) : PR :=
  ⟨abndOk lo ∧ abndOk hi ∧ abndOk mx ∧ (mx = none ∨ hi ≠ none) ∧ 0 ≤ a ∧ a ≤ b ∧ b ≤ m ∧ m ≤ (N : Int) - off ∧ off ≤ N ∧ 0 < sz ∧ te.size = sz ∧ (te.kind matches .other) = false,
      if mx.isSome = true then .any else if a.toNat = 0 then .osl k sz off b.toNat else if a.toNat < N - off then .osl k sz (off + a.toNat) (b.toNat - a.toNat) else .d (.sl sz [])⟩
def aslOwnF (te : TI) (hp : List ABlk) (k sz off n : Nat) (lo hi mx : Option AV) : PR :=
  match hp[k]? with
  | some (.full sz' rs) => ⟨sz = sz' ∧ (aslFull te k sz off rs.length lo hi mx (abnd 0 lo) (abnd n hi) (abnd ((rs.length : Int) - off) mx)).ok, (aslFull te k sz off rs.length lo hi mx (abnd 0 lo) (abnd n hi) (abnd ((rs.length : Int) - off) mx)).v⟩
  | _ => aslOwn te k sz off n lo hi mx (abnd 0 lo) (abnd n hi) (abnd n mx)
def aslArr (te : TI) (n k : Nat) (blk : Option ABlk) (lo hi mx : Option AV) (a b : Int) : PR :=
  match blk with
  | some (.cells cs) => ⟨mx = none ∧ abndOk lo ∧ abndOk hi ∧ 0 ≤ a ∧ a ≤ b ∧ b ≤ n ∧ a < n ∧ cs.length = n * te.size ∧ (te.kind matches .other) = false, .osl k te.size a.toNat (b.toNat - a.toNat)⟩
  | _ => ⟨False, .any⟩
def aslice (T : TypeId → TI) (ti : TI) (hp : List ABlk) (x : AV) (lo hi mx : Option AV) : PR :=
  match ti.kind, x with
  | .str, .d (.str l) => aslStr l lo hi mx (abnd 0 lo) (abnd l.length hi)
  | .slice e, .d (.sl sz rows) => aslSl (T e) sz rows lo hi mx (abnd 0 lo) (abnd rows.length hi) (abnd rows.length mx)
  | .slice e, .osl k sz off n => aslOwnF (T e) hp k sz off n lo hi mx
  | .array n e, .ptr k 0 => aslArr (T e) n k hp[k]? lo hi mx (abnd 0 lo) (abnd n hi)
  | _, _ => ⟨False, .any⟩
def acells : AV → List AV
  | .agg cs => cs
  | v => [v]
def isTup : AV → Bool
  | .tup _ => true
  | .gd _ _ => true
  | .any => true
  | _ => false
def fillA (place : Nat → Option (Nat × Nat)) : List (Nat × AV) → List AV → Prop × List AV
  | [], cs => (True, cs)
  | (i, v) :: rest, cs =>
    match place i with
    | none => (False, cs)
    | some (off, size) =>
      let r := fillA place rest (cs.take off ++ acells v ++ cs.drop (off + (acells v).length))
      ((acells v).length = size ∧ off + (acells v).length ≤ cs.length ∧ (isTup v = false) ∧ r.1, r.2)
def abuild (T : TypeId → TI) (ti : TI) (parts : List (Nat × AV)) : PR :=
  match ti.kind with
  | .struct fs =>
    let r := fillA (fun i => (fs[i]?).map fun f => (f.1, f.2.1)) parts (ti.zero.map .d)
    ⟨r.1, .agg r.2⟩
  | .array _ e =>
    let r := fillA (fun i => some (i * (T e).size, (T e).size)) parts (ti.zero.map .d)
    ⟨r.1 ∧ ((T e).kind matches .other) = false, .agg r.2⟩
  | _ => ⟨False, .any⟩
section
variable {P : Program} {ρ : List (Option (Nat × Nat))} {ok : Nat → Prop} {w : World}
def RepO (ρ : List (Option (Nat × Nat))) (ok : Nat → Prop) (w : World) : Option AV → Option Value → Prop
  | none, none => True
  | some x, some u => RepV ρ ok w x u
  | _, _ => False
theorem run_sliceBound {y : Nat} {code : BoundsCode} {k : IntKind} {i : Int} (h : 0 ≤ i ∧ i ≤ y) (w' : World) : (Instr.sliceBound (.int k i) y code).run P w' = .ok i.toNat w' := by
  simp [Instr.sliceBound, asIntOf, h]
theorem bnd_val {x : Option AV} {u : Option Value} (h : RepO ρ ok w x u) (hk : abndOk x) : (x = none ∧ u = none) ∨ ∃ k i, x = some (.d (.int k i)) ∧ u = some (.int k i) := by
  match x, u, h with
  | none, none, _ => exact .inl ⟨rfl, rfl⟩
  | some x, some u, h =>
    right
    unfold abndOk at hk
    split at hk
    · rename_i e; cases e
    · rename_i k i e
      injection e with e
      subst e
      cases h with | d _ _ h => cases h with | int k i => exact ⟨k, i, rfl, rfl⟩
    · exact hk.elim
theorem run_sliceBounds {isSlice : Bool} {len cap : Nat} {lo hi mx : Option AV} {ulo uhi umx : Option Value} (h1 : RepO ρ ok w lo ulo) (h2 : RepO ρ ok w hi uhi) (h3 : RepO ρ ok w mx umx)
    (k1 : abndOk lo) (k2 : abndOk hi) (k3 : abndOk mx) (hm : mx = none ∨ hi ≠ none) (dm : Int) (hdm : mx = none → dm = cap) (hm2 : abnd dm mx ≤ cap)
    (h0 : 0 ≤ abnd 0 lo) (hab : abnd 0 lo ≤ abnd len hi) (hbm : abnd len hi ≤ abnd dm mx) (w' : World) :
    (Instr.sliceBounds isSlice len cap ulo uhi umx).run P w' = .ok ((abnd 0 lo).toNat, (abnd len hi).toNat, (abnd dm mx).toNat) w' := by
  rcases bnd_val h3 k3 with ⟨rfl, rfl⟩ | ⟨km, im, rfl, rfl⟩
  · have := hdm rfl
    subst this
    rcases bnd_val h2 k2 with ⟨rfl, rfl⟩ | ⟨kh, ih, rfl, rfl⟩
    · rcases bnd_val h1 k1 with ⟨rfl, rfl⟩ | ⟨kl, il, rfl, rfl⟩
      · simp [Instr.sliceBounds, abnd]
      · simp only [abnd] at *
        simp [Instr.sliceBounds, run_sliceBound (P := P) (w' := w') (i := il) (y := len) ⟨h0, hab⟩]
    · simp only [abnd] at hbm hab
      have hh := run_sliceBound (P := P) (w' := w') (k := kh) (i := ih) (y := cap) (code := if isSlice then .sliceAcap else .sliceAlen) ⟨Int.le_trans h0 hab, hbm⟩
      have ec : ((ih.toNat : Nat) : Int) = ih := Int.toNat_of_nonneg (Int.le_trans h0 hab)
      rcases bnd_val h1 k1 with ⟨rfl, rfl⟩ | ⟨kl, il, rfl, rfl⟩
      · simp [Instr.sliceBounds, abnd, hh]
      · simp only [abnd] at *
        simp [Instr.sliceBounds, hh, run_sliceBound (P := P) (w' := w') (i := il) (y := ih.toNat) ⟨h0, by rw [ec]; exact hab⟩]
  · rcases bnd_val h2 k2 with ⟨rfl, rfl⟩ | ⟨kh, ih, rfl, rfl⟩
    · rcases hm with hm | hm
      · cases hm
      · exact absurd rfl hm
    · simp only [abnd] at hbm hab hm2
      have hm' := run_sliceBound (P := P) (w' := w') (k := km) (i := im) (y := cap) (code := if isSlice then .slice3Acap else .slice3Alen) ⟨Int.le_trans (Int.le_trans h0 hab) hbm, hm2⟩
      have em : ((im.toNat : Nat) : Int) = im := Int.toNat_of_nonneg (Int.le_trans (Int.le_trans h0 hab) hbm)
      have hh := run_sliceBound (P := P) (w' := w') (k := kh) (i := ih) (y := im.toNat) (code := .slice3B) ⟨Int.le_trans h0 hab, by rw [em]; exact hbm⟩
      have ec : ((ih.toNat : Nat) : Int) = ih := Int.toNat_of_nonneg (Int.le_trans h0 hab)
      rcases bnd_val h1 k1 with ⟨rfl, rfl⟩ | ⟨kl, il, rfl, rfl⟩
      · simp [Instr.sliceBounds, abnd, hh, hm']
      · simp only [abnd] at *
        simp [Instr.sliceBounds, hh, hm', run_sliceBound (P := P) (w' := w') (i := il) (y := ih.toNat) ⟨h0, by rw [ec]; exact hab⟩]
theorem run_aslice {T : TypeId → TI} (hT : TabOk P T) {hp : List ABlk} (hB : Blks ρ ok w hp) (t : TypeId) (x : AV) (ux : Value) (lo hi mx : Option AV) (ulo uhi umx : Option Value)
    (hx : RepV ρ ok w x ux) (h1 : RepO ρ ok w lo ulo) (h2 : RepO ρ ok w hi uhi) (h3 : RepO ρ ok w mx umx) (h : (aslice T (T t) hp x lo hi mx).ok) :
    ∃ u, RepV ρ ok w (aslice T (T t) hp x lo hi mx).v u ∧ ∀ w', (Instr.sliceAt t ux ulo uhi umx).run P w' = .ok u w' := by
  revert h
  unfold aslice
  split
  · rename_i l hk
    intro ⟨hmx, k1, k2, h0, hab, hb⟩
    subst hmx
    cases hx with | d _ _ hx => cases hx with | str _ =>
    refine ⟨_, .d _ _ (.str _), fun w' => ?_⟩
    have hs := run_sliceBounds (P := P) (isSlice := false) (len := l.length) (cap := l.length) h1 h2 h3 k1 k2 trivial (.inl rfl) l.length (fun _ => rfl) (by simp [abnd]) h0 hab (by simpa [abnd] using hb) w'
    cases umx with
    | some _ => exact h3.elim
    | none =>
      simp [Instr.sliceAt, Instr.slice, run_underlying (und_str hT hk), mkStr, mk_size, hs, mk_extract]
  · rename_i e sz rows hk
    intro ⟨k1, k2, k3, hm, h0, hab, hbm, hmr, hs, hko⟩
    have hko := zf hko
    cases hx with | d _ _ hx => cases hx with | sl _ _ A cap u hcap hsz hc hr =>
    have hmc : ∃ dm, (mx = none → dm = (cap : Int)) ∧ abnd dm mx ≤ cap ∧ abnd rows.length hi ≤ abnd dm mx := by
      rcases bnd_val h3 k3 with ⟨rfl, rfl⟩ | ⟨km, im, rfl, rfl⟩
      · refine ⟨cap, fun _ => rfl, Int.le_refl _, ?_⟩
        simp only [abnd] at *
        omega
      · refine ⟨0, (fun hh => by cases hh), ?_, hbm⟩
        simp only [abnd] at *
        omega
    obtain ⟨dm, hdm1, hdm2, hdm3⟩ := hmc
    have hb := fun w' => run_sliceBounds (P := P) (isSlice := true) (len := rows.length) (cap := cap) h1 h2 h3 k1 k2 k3 hm dm hdm1 hdm2 h0 hab hdm3 w'
    have hmn : mx.isSome = true → abnd dm mx = abnd rows.length mx := by
      rcases bnd_val h3 k3 with ⟨rfl, rfl⟩ | ⟨km, im, rfl, rfl⟩
      · intro h; cases h
      · intro _; rfl
    generalize abnd 0 lo = a at *
    generalize abnd rows.length hi = b at *
    generalize abnd rows.length mx = mn at *
    generalize abnd dm mx = m at *
    have hlen : ((rows.drop a.toNat).take (b.toNat - a.toNat)).length = b.toNat - a.toNat := length_seg _ _ _ (by omega)
    refine ⟨.slice (if m.toNat = a.toNat then A else A.map (·.add (a.toNat * sz))) (b.toNat - a.toNat) (m.toNat - a.toNat), ?_, fun w' => ?_⟩
    · simp only [aslSl]
      split
      · rename_i h00
        have e1 := h00.2
        have e3 : m = mn := hmn h00.1
        have ea : a.toNat = 0 := by omega
        have eb : b.toNat = 0 := by omega
        have em : m.toNat = 0 := by omega
        rw [ea, eb, em]
        exact .d _ _ (.sc0 _)
      · generalize hL : (rows.drop a.toNat).take (b.toNat - a.toNat) = L at hlen ⊢
        rw [← hlen]
        refine .d _ _ (.sl sz L _ _ (fun i j => u (a.toNat + i) j) (by rw [hlen]; omega) (fun r hr' => hsz r (by subst hL; exact mem_seg hr')) (fun hp => ?_) fun i r hi' j c hj => ?_)
        · rw [hlen] at hp
          obtain ⟨bb, o, rfl, hbb, hcell⟩ := hc (by omega)
          refine ⟨bb, o + a.toNat * sz, ?_, hbb, fun i r hi' j c hj => ?_⟩
          · rw [if_neg (by omega)]; simp [Addr.add_lit]
          · subst hL
            have := hcell _ r (zv _ _ _ _ _ hi').1 j c hj
            rw [Nat.add_mul] at this
            rw [← this]
            congr 2
            omega
        · subst hL; exact hr _ r (zv _ _ _ _ _ hi').1 j c hj
    · simp [Instr.sliceAt, Instr.slice, run_underlying (und_slice hT hk), hb w', run_sizeOf_tab hT hko, hs]
  · rename_i e k sz off n hk
    by_cases hF : ∃ sz' rs, hp[k]? = some (.full sz' rs)
    · obtain ⟨sz', rs, hcs⟩ := hF
      simp only [aslOwnF, hcs]
      intro ⟨hss, k1, k2, k3, hm, h0, hab, hbm, hmN, hoN, hpos, hs, hko⟩
      subst hss
      have hko := zf hko
      cases hx with
      | oslnil _ _ A hkk => exact absurd hkk (hB.2 k _ _ hcs)
      | osl _ _ _ _ bb m' cap hkk hm' hn =>
      obtain ⟨us, ty, fz, hw, hmm, hone, hrl, hsz, hr⟩ := hB.1 k _ bb m' hcs hkk (by simp)
      have hcap : cap = rs.length - off := by
        rw [← hm'] at hmm
        rw [hmm] at hsz
        have := Nat.eq_of_mul_eq_mul_right hpos hsz
        omega
      have hdm : ((rs.length : Int) - off) = (cap : Int) := by omega
      rw [hdm] at hbm hmN ⊢
      have hNc : rs.length - off = cap := hcap.symm
      have hb := fun w' => run_sliceBounds (P := P) (isSlice := true) (len := n) (cap := cap) h1 h2 h3 k1 k2 k3 hm (cap : Int) (fun _ => rfl) hmN h0 hab hbm w'
      have hm4 : ¬ mx.isSome = true → (abnd (cap : Int) mx).toNat = cap := by
        rcases bnd_val h3 k3 with ⟨rfl, rfl⟩ | ⟨km, im, rfl, rfl⟩
        · intro _; simp only [abnd]; omega
        · intro h; simp at h
      generalize abnd 0 lo = a at *
      generalize abnd n hi = b at *
      generalize abnd (cap : Int) mx = mm at *
      refine ⟨.slice (if mm.toNat = a.toNat then some ⟨bb, off * sz, none⟩ else some ⟨bb, off * sz + a.toNat * sz, none⟩) (b.toNat - a.toNat) (mm.toNat - a.toNat), ?_, fun w' => ?_⟩
      · simp only [aslFull]
        by_cases hmx : mx.isSome = true
        · rw [if_pos hmx]; exact .any _
        rw [if_neg hmx, hm4 hmx, hNc]
        have hm5 := hm4 hmx
        by_cases ha : a.toNat = 0
        · rw [if_pos ha, ha]
          have : (if cap = 0 then some (⟨bb, off * sz, none⟩ : Addr) else some ⟨bb, off * sz + 0 * sz, none⟩) = some ⟨bb, off * sz, none⟩ := by simp
          rw [this]
          exact .osl k sz off _ bb m' _ hkk (by rw [Nat.sub_zero]; exact hm') (by omega)
        · rw [if_neg ha]
          by_cases han : a.toNat < cap
          · rw [if_pos han, if_neg (by omega), ← Nat.add_mul]
            exact .osl k sz (off + a.toNat) _ bb m' (cap - a.toNat) hkk (by rw [Nat.add_assoc, ← hm']; congr 1; omega) (by omega)
          · rw [if_neg han]
            have : b.toNat - a.toNat = ([] : List (List DV)).length := by simp; omega
            rw [this]
            exact .d _ _ (.sl sz [] _ _ (fun _ _ => undef) (by simp) (by simp) (by simp) (by simp))
      · simp [Instr.sliceAt, Instr.slice, run_underlying (und_slice hT hk), hb w', run_sizeOf_tab hT hko, hs, Addr.add_lit]
    have hEq : aslOwnF (T e) hp k sz off n lo hi mx = aslOwn (T e) k sz off n lo hi mx (abnd 0 lo) (abnd n hi) (abnd n mx) := by
      unfold aslOwnF
      split
      · rename_i sz' rs hcs; exact absurd ⟨_, _, hcs⟩ hF
      · rfl
    rw [hEq]
    intro ⟨k1, k2, k3, hm, h0, hab, hbm, hmr, hs, hko⟩
    have hko := zf hko
    cases hx with
    | oslnil _ _ A hkk =>
      have hmc : ∃ dm : Int, (mx = none → dm = ((0 : Nat) : Int)) ∧ abnd dm mx ≤ (0 : Nat) ∧ abnd (0 : Nat) hi ≤ abnd dm mx := by
        rcases bnd_val h3 k3 with ⟨rfl, rfl⟩ | ⟨km, im, rfl, rfl⟩
        · refine ⟨0, fun _ => rfl, Int.le_refl _, ?_⟩
          simp only [abnd] at *
          omega
        · refine ⟨0, (fun hh => by cases hh), ?_, hbm⟩
          simp only [abnd] at *
          omega
      obtain ⟨dm, hdm1, hdm2, hdm3⟩ := hmc
      have hb := fun w' => run_sliceBounds (P := P) (isSlice := true) (len := 0) (cap := 0) h1 h2 h3 k1 k2 k3 hm dm hdm1 hdm2 h0 hab hdm3 w'
      generalize abnd 0 lo = a at *
      generalize abnd (0 : Nat) hi = b at *
      generalize abnd dm mx = m at *
      have ea : a.toNat = 0 := by omega
      have eb : b.toNat = 0 := by omega
      have em : m.toNat = 0 := by omega
      refine ⟨.slice A 0 0, ?_, fun w' => ?_⟩
      · simp only [aslOwn, ea, eb, if_true]
        split
        · exact .any _
        · exact .oslnil k sz A hkk
      · have := hb w'
        rw [ea, eb, em] at this
        simp [Instr.sliceAt, Instr.slice, run_underlying (und_slice hT hk), this, run_sizeOf_tab hT hko]
    | osl _ _ _ _ bb m' cap hkk hm' hn =>
    have hmc : ∃ dm, (mx = none → dm = (cap : Int)) ∧ abnd dm mx ≤ cap ∧ abnd n hi ≤ abnd dm mx := by
      rcases bnd_val h3 k3 with ⟨rfl, rfl⟩ | ⟨km, im, rfl, rfl⟩
      · refine ⟨cap, fun _ => rfl, Int.le_refl _, ?_⟩
        simp only [abnd] at *
        omega
      · refine ⟨0, (fun hh => by cases hh), ?_, hbm⟩
        simp only [abnd] at *
        omega
    obtain ⟨dm, hdm1, hdm2, hdm3⟩ := hmc
    have hb := fun w' => run_sliceBounds (P := P) (isSlice := true) (len := n) (cap := cap) h1 h2 h3 k1 k2 k3 hm dm hdm1 hdm2 h0 hab hdm3 w'
    have hmn : abnd n mx ≤ abnd dm mx := by
      rcases bnd_val h3 k3 with ⟨rfl, rfl⟩ | ⟨km, im, rfl, rfl⟩
      · simp only [abnd, hdm1 rfl]; omega
      · simp only [abnd]; exact Int.le_refl _
    have hdm4 : ¬ mx.isSome = true → abnd dm mx = (cap : Int) := by
      rcases bnd_val h3 k3 with ⟨rfl, rfl⟩ | ⟨km, im, rfl, rfl⟩
      · intro _; simp only [abnd]; exact hdm1 rfl
      · intro h; simp at h
    generalize abnd 0 lo = a at *
    generalize abnd n hi = b at *
    generalize abnd n mx = mn at *
    generalize abnd dm mx = m at *
    refine ⟨.slice (if m.toNat = a.toNat then some ⟨bb, off * sz, none⟩ else some ⟨bb, off * sz + a.toNat * sz, none⟩) (b.toNat - a.toNat) (m.toNat - a.toNat), ?_, fun w' => ?_⟩
    · have hmc' : m.toNat ≤ cap := by omega
      have hbm' : b ≤ m := by omega
      simp only [aslOwn]
      by_cases hmx : mx.isSome = true
      · rw [if_pos hmx]; exact .any _
      rw [if_neg hmx]
      have hmcap : m.toNat = cap := by have := hdm4 hmx; omega
      have hmn2 : mn ≤ m := hmn
      clear hmn
      subst hmcap
      by_cases ha : a.toNat = 0
      · rw [if_pos ha, ha]
        have : (if m.toNat = 0 then some (⟨bb, off * sz, none⟩ : Addr) else some ⟨bb, off * sz + 0 * sz, none⟩) = some ⟨bb, off * sz, none⟩ := by simp
        rw [this]
        exact .osl k sz off _ bb m' _ hkk (by simpa using hm') (by omega)
      · rw [if_neg ha]
        by_cases han : a.toNat < mn.toNat
        · rw [if_pos han, if_neg (by omega), ← Nat.add_mul]
          exact .osl k sz (off + a.toNat) _ bb m' (m.toNat - a.toNat) hkk (by rw [Nat.add_assoc, ← hm']; congr 1; omega) (by omega)
        · rw [if_neg han]
          have : b.toNat - a.toNat = ([] : List (List DV)).length := by simp; omega
          rw [this]
          exact .d _ _ (.sl sz [] _ _ (fun _ _ => undef) (by simp) (by simp) (by simp) (by simp))
    · simp [Instr.sliceAt, Instr.slice, run_underlying (und_slice hT hk), hb w', run_sizeOf_tab hT hko, hs, Addr.add_lit]
  · rename_i n e k hk
    unfold aslArr
    split
    · rename_i cs hcs
      intro ⟨hmx, k1, k2, h0, hab, hbn, han, hcl, hko⟩
      subst hmx
      have hko := zf hko
      cases hx with | ptr _ _ bb m' hkk =>
      obtain ⟨us, ty, fz, hw, hm, hone, hl, hr⟩ := hB.1 k _ bb m' hcs hkk (by simp)
      have hb := fun w' => run_sliceBounds (P := P) (isSlice := false) (len := n) (cap := n) h1 h2 h3 k1 k2 trivial (.inl rfl) n (fun _ => rfl) (by simp [abnd]) h0 hab (by simpa [abnd] using hbn) w'
      cases umx with
      | some _ => exact h3.elim
      | none =>
        generalize abnd 0 lo = a at *
        generalize abnd n hi = b at *
        simp only [abnd, Int.toNat_natCast] at hb
        refine ⟨.slice (some ⟨bb, a.toNat * (T e).size, none⟩) (b.toNat - a.toNat) (n - a.toNat), .osl k (T e).size a.toNat _ bb m' (n - a.toNat) hkk ?_ (by omega), fun w' => ?_⟩
        · rw [← hm, hl, hcl]; congr 1; omega
        · have hne : ¬ n = a.toNat := by omega
          simp [Instr.sliceAt, run_underlying (und_array hT hk), Instr.sureAddr, hb w', run_sizeOf_tab hT hko, hne, Addr.add_lit]
    · intro h; exact h.elim
  · intro h; exact h.elim
theorem getElem?_splice {α : Type} (l news : List α) (off : Nat) (h : off + news.length ≤ l.length) (j : Nat) :
    (l.take off ++ news ++ l.drop (off + news.length))[j]? = if off ≤ j ∧ j < off + news.length then news[j - off]? else l[j]? := by
  have h1 : (l.take off).length = off := by simp; omega
  by_cases hj : j < off
  · rw [if_neg (by omega), List.append_assoc, List.getElem?_append_left (by omega), List.getElem?_take, if_pos hj]
  · by_cases hj2 : j < off + news.length
    · rw [if_pos (by omega), List.getElem?_append_left (by simp; omega), List.getElem?_append_right (by omega), h1]
    · rw [if_neg (by omega), List.getElem?_append_right (by simp; omega), List.getElem?_drop]
      congr 1
      simp
      omega
theorem length_splice {α : Type} (l news : List α) (off : Nat) (h : off + news.length ≤ l.length) : (l.take off ++ news ++ l.drop (off + news.length)).length = l.length := by
  simp; omega
theorem foldl_set (off : Nat) : ∀ (vs : List Value) (i : Nat) (cur : Array Value), off + i + vs.length ≤ cur.size →
    (vs.zipIdx i).foldl (fun cs (x : Value × Nat) => cs.setIfInBounds (off + x.2) x.1) cur = (cur.toList.take (off + i) ++ vs ++ cur.toList.drop (off + i + vs.length)).toArray
  | [], i, cur, _ => by simp
  | v :: rest, i, cur, h => by
    simp only [List.zipIdx_cons, List.foldl_cons]
    simp only [List.length_cons] at h
    rw [foldl_set off rest (i + 1) (cur.setIfInBounds (off + i) v) (by simp; omega)]
    congr 1
    apply List.ext_getElem?
    intro j
    have hl := getElem?_splice cur.toList (v :: rest) (off + i) (by simp; omega) j
    have hr := getElem?_splice (cur.setIfInBounds (off + i) v).toList rest (off + (i + 1)) (by simp; omega) j
    rw [hl, hr]
    simp only [List.length_cons, Array.toList_setIfInBounds, List.getElem?_set, Array.length_toList]
    by_cases h1 : off + (i + 1) ≤ j ∧ j < off + (i + 1) + rest.length
    · rw [if_pos h1, if_pos (by omega)]
      rw [show j - (off + i) = (j - (off + (i + 1))) + 1 from by omega]
      simp
    · rw [if_neg h1]
      by_cases h2 : off + i = j
      · rw [if_pos h2, if_pos (by omega), if_pos (by omega)]
        rw [show j - (off + i) = 0 from by omega]
        simp
      · rw [if_neg h2, if_neg (by omega)]
theorem acells_ok {v : AV} {u : Value} (h : RepV ρ ok w v u) (ht : isTup v = false) : u.cells.toList.length = (acells v).length ∧ (∀ x, x ∈ u.cells.toList → x.oneCell' = true) ∧
    ∀ (j : Nat) (c : AV) (x : Value), (acells v)[j]? = some c → u.cells.toList[j]? = some x → RepV ρ ok w c x := by
  have one : ∀ (v : AV) (u : Value), RepV ρ ok w v u → u.cells = #[u] → acells v = [v] → u.oneCell' = true → u.cells.toList.length = (acells v).length ∧ (∀ x, x ∈ u.cells.toList → x.oneCell' = true) ∧
      ∀ (j : Nat) (c : AV) (x : Value), (acells v)[j]? = some c → u.cells.toList[j]? = some x → RepV ρ ok w c x := by
    intro v u h h1 h2 h3
    rw [h1, h2]
    refine ⟨rfl, by simpa using h3, fun j c x hc hx => ?_⟩
    match j with
    | 0 => simp at hc hx; subst hc; subst hx; exact h
    | j + 1 => simp at hc
  cases v with
  | agg cs => cases h with | agg _ us hl h1 hr => exact ⟨by simpa [Value.cells, acells] using hl, by simpa [Value.cells] using h1, by simpa [Value.cells, acells] using hr⟩
  | tup _ => simp [isTup] at ht
  | any => simp [isTup] at ht
  | gd _ _ => simp [isTup] at ht
  | d x =>
    have hd := h
    cases hd with | d _ _ hd =>
    have ho := hd.one
    refine one _ _ h ?_ rfl ho
    cases u <;> first | rfl | simp [Value.oneCell'] at ho
  | ptr _ _ => have hd := h; cases hd; exact one _ _ h rfl rfl rfl
  | rp _ _ _ _ => have hd := h; cases hd; exact one _ _ h rfl rfl rfl
  | osl _ _ _ _ => have hd := h; cases hd <;> exact one _ _ h rfl rfl rfl
  | dp _ _ => have hd := h; cases hd; exact one _ _ h rfl rfl rfl
  | clo _ _ _ => have hd := h; cases hd; exact one _ _ h rfl rfl rfl
  | mp _ => have hd := h; cases hd; exact one _ _ h rfl rfl rfl
theorem run_fillA {place : Nat → Option (Nat × Nat)} : ∀ (parts : List (Nat × AV)) (vparts : List (Nat × Value)) (cs : List AV) (us : Array Value),
    (vparts.length = parts.length) → (∀ (j : Nat) (x : Nat × AV) (y : Nat × Value), parts[j]? = some x → vparts[j]? = some y → y.1 = x.1 ∧ RepV ρ ok w x.2 y.2) →
    us.size = cs.length → (∀ u, u ∈ us.toList → u.oneCell' = true) → (∀ (j : Nat) (c : AV) (u : Value), cs[j]? = some c → us[j]? = some u → RepV ρ ok w c u) →
    (fillA place parts cs).1 → ∃ us', Instr.fill place us vparts = some us' ∧ us'.size = (fillA place parts cs).2.length ∧ (∀ u, u ∈ us'.toList → u.oneCell' = true) ∧
      ∀ (j : Nat) (c : AV) (u : Value), (fillA place parts cs).2[j]? = some c → us'[j]? = some u → RepV ρ ok w c u
  | [], vparts, cs, us, hl, _, hsz, hone, hr, _ => by
    have : vparts = [] := by simpa using hl
    subst this
    exact ⟨us, rfl, hsz, hone, hr⟩
  | (i, v) :: rest, vparts, cs, us, hl, hp, hsz, hone, hr, hok => by
    match vparts, hl with
    | (i', u) :: vrest, hl =>
      obtain ⟨hi, hv⟩ := hp 0 _ _ rfl rfl
      simp only at hi hv
      subst hi
      simp only [fillA] at hok ⊢
      cases hpl : place i' with
      | none => simp [hpl] at hok
      | some q =>
        obtain ⟨off, size⟩ := q
        simp only [hpl] at hok ⊢
        obtain ⟨h1, h2, h3, h4⟩ := hok
        obtain ⟨hc1, hc2, hc3⟩ := acells_ok hv h3
        have hcs : u.cells.size = (acells v).length := by rw [← Array.length_toList]; exact hc1
        have hul : us.toList.length = cs.length := by simpa using hsz
        have hfold := foldl_set off u.cells.toList 0 us (by simp only [Nat.add_zero, Array.length_toList]; omega)
        simp only [Nat.add_zero] at hfold
        have hz : (u.cells.zipIdx.foldl (fun cs (x : Value × Nat) => cs.setIfInBounds (off + x.2) x.1) us) = (us.toList.take off ++ u.cells.toList ++ us.toList.drop (off + u.cells.toList.length)).toArray := by
          rw [← hfold, ← Array.foldl_toList]
          simp
        have ih := run_fillA (place := place) rest vrest (cs.take off ++ acells v ++ cs.drop (off + (acells v).length)) (us.toList.take off ++ u.cells.toList ++ us.toList.drop (off + u.cells.toList.length)).toArray
          (by simpa using hl) (fun j x y hx hy => hp (j + 1) x y (by simpa using hx) (by simpa using hy))
          (by rw [List.size_toArray, length_splice _ _ _ (by rw [hc1, hul]; exact h2), length_splice _ _ _ h2]; simpa using hsz)
          (by
            intro x hx
            simp only [List.mem_append] at hx
            rcases hx with (hx | hx) | hx
            · exact hone x (List.mem_of_mem_take hx)
            · exact hc2 x hx
            · exact hone x (List.mem_of_mem_drop hx))
          (by
            intro j c x hc hx
            rw [getElem?_splice _ _ _ h2] at hc
            simp only [List.getElem?_toArray] at hx
            rw [getElem?_splice _ _ _ (by rw [hc1, hul]; exact h2), hc1] at hx
            split at hc
            · rename_i hj; rw [if_pos hj] at hx; exact hc3 _ _ _ hc hx
            · rename_i hj; rw [if_neg hj] at hx; exact hr _ _ _ hc (by simpa using hx)) h4
        obtain ⟨us', e1, e2, e3, e4⟩ := ih
        refine ⟨us', ?_, e2, e3, e4⟩
        have hng : ¬ (u.cells.size ≠ size ∨ us.size < off + u.cells.size) := by omega
        simp only [Instr.fill, hpl]
        rw [← e1, ← hz]
        simp [hng]
theorem run_zero {T : TypeId → TI} (hT : TabOk P T) {t : TypeId} (hk : (T t).kind ≠ .other) :
    ∃ z, (∀ w', (zeroValue t).run P w' = .ok z w') ∧ z.cells.toList = (T t).zero.map DV.val ∧ (if (T t).agg then z = .agg ((T t).zero.map DV.val).toArray else [z] = (T t).zero.map DV.val) := by
  obtain ⟨i, z, h1, h2, h3, h4, h5⟩ := (tab_und hT hk).info
  refine ⟨z, fun w' => by simp [zeroValue, typeInfo, h1, h4], ?_, h5⟩
  cases e : (T t).agg with
  | true => rw [e] at h5; simp only [if_true] at h5; subst h5; simp [Value.cells]
  | false =>
    rw [e] at h5; simp only [Bool.false_eq_true, if_false] at h5
    have hone := (tab_und hT hk).one
    rw [← h5]
    have : z.oneCell' = true := by
      match hz : (T t).zero, h5 with
      | [x], h5 =>
        have := hone x (by rw [hz]; simp)
        simp at h5
        rw [h5]; exact this.1
      | [], h5 => simp at h5
      | _ :: _ :: _, h5 => simp at h5
    cases z <;> first | rfl | simp [Value.oneCell'] at this
theorem rep_val {x : DV} (h1 : x.val.oneCell' = true) (h2 : ∀ sz rs, x ≠ .sl sz rs) : RepD ok w x x.val := by
  cases x with
  | int k n => exact .int k n
  | bool b => exact .bool b
  | str l => exact .str l
  | sl sz rs => exact absurd rfl (h2 sz rs)
  | sc v => exact .sc v h1
theorem zero_rep {T : TypeId → TI} (hT : TabOk P T) {t : TypeId} (hk : (T t).kind ≠ .other) (j : Nat) (c : AV) (u : Value) (hc : ((T t).zero.map AV.d)[j]? = some c)
    (hu : ((T t).zero.map DV.val)[j]? = some u) : RepV ρ ok w c u := by
  rw [List.getElem?_map] at hc hu
  obtain ⟨x, hx, rfl⟩ := Option.map_eq_some_iff.1 hc
  rw [hx] at hu
  simp at hu
  subst hu
  have := (tab_und hT hk).one x (List.mem_of_getElem? hx)
  exact .d _ _ (rep_val this.1 this.2)
theorem zero_one {T : TypeId → TI} (hT : TabOk P T) {t : TypeId} (hk : (T t).kind ≠ .other) (u : Value) (hu : u ∈ (T t).zero.map DV.val) : u.oneCell' = true := by
  obtain ⟨x, hx, rfl⟩ := List.mem_map.1 hu
  exact ((tab_und hT hk).one x hx).1
theorem run_mapM_places {fields : Array Field} {fs : List (Nat × Nat × TypeId)} (hl : fields.size = fs.length) (hf : fieldsOk P fields fs) (w' : World) :
    (fields.mapM fun f => do pure (f.offset, ← sizeOf f.type) : Sem (Array (Nat × Nat))).run P w' = .ok (fs.map fun f => (f.1, f.2.1)).toArray w' := by
  have key : ∀ (l : List Field) (gs : List (Nat × Nat × TypeId)) , l.length = gs.length →
      (∀ (j : Nat) (o s t : Nat), gs[j]? = some (o, s, t) → ∃ f, l[j]? = some f ∧ f.offset = o ∧ f.type = t ∧ s ≠ 0 ∧ ∃ i, P.info? t = some i ∧ i.size = s) →
      (l.mapM (fun f => do pure (f.offset, ← sizeOf f.type) : Field → Sem (Nat × Nat))).run P w' = .ok (gs.map fun f => (f.1, f.2.1)) w' := by
    intro l
    induction l with
    | nil => intro gs hl _; have : gs = [] := by simpa using hl.symm
             subst this; simp
    | cons f l ih =>
      intro gs hl hf
      match gs, hl with
      | (o, s, t) :: gs, hl =>
        obtain ⟨f', h1, h2, h3, h4, i, h5, h6⟩ := hf 0 o s t rfl
        simp at h1
        subst h1
        have := ih gs (by simpa using hl) (fun j o s t hj => by
          obtain ⟨f'', q1, q2⟩ := hf (j + 1) o s t (by simpa using hj)
          exact ⟨f'', by simpa using q1, q2⟩)
        simp [List.mapM_cons, sizeOf, typeInfo, h3, h5, h2, h6] at this ⊢
        rw [this]
        rfl
  have := key fields.toList fs (by simpa using hl) (fun j o s t hj => by
    obtain ⟨f, q1, q2⟩ := hf j o s t hj
    exact ⟨f, by simpa using q1, q2⟩)
  rw [Array.mapM_eq_mapM_toList]
  simp only [Sem.run_map, this, Result.andThen_ok]
theorem run_abuild {T : TypeId → TI} (hT : TabOk P T) (t : TypeId) (parts : List (Nat × AV)) (vparts : List (Nat × Value)) (hl : vparts.length = parts.length)
    (hp : ∀ (j : Nat) (x : Nat × AV) (y : Nat × Value), parts[j]? = some x → vparts[j]? = some y → y.1 = x.1 ∧ RepV ρ ok w x.2 y.2) (h : (abuild T (T t) parts).ok) :
    ∃ u, RepV ρ ok w (abuild T (T t) parts).v u ∧ ∀ w', (Instr.build t vparts.toArray).run P w' = .ok u w' := by
  revert h
  unfold abuild
  split
  · rename_i fs hk
    intro h
    have hko : (T t).kind ≠ .other := by rw [hk]; simp
    obtain ⟨fields, hu, hfs, hf⟩ := und_struct hT hk
    obtain ⟨z, hz1, hz2, hz3⟩ := run_zero hT hko
    obtain ⟨us', e1, e2, e3, e4⟩ := run_fillA (ρ := ρ) (ok := ok) (w := w) (place := fun i => (fs[i]?).map fun f => (f.1, f.2.1)) parts vparts ((T t).zero.map .d) z.cells hl hp
      (by rw [← Array.length_toList, hz2]; simp) (fun u hu => zero_one hT hko u (hz2 ▸ hu)) (fun j c u hc hu' => zero_rep hT hko j c u hc (by rw [← hz2]; simpa using hu')) h
    refine ⟨.agg us', ?_, fun w' => ?_⟩
    · have := RepV.agg (ρ := ρ) (ok := ok) (w := w) _ us'.toList (by simpa using e2) e3 (fun j c u hc hu => e4 j c u hc (by simpa using hu))
      simpa using this
    · have hm := run_mapM_places (P := P) hfs hf w'
      simp only [bind_pure_comp] at hm
      simp [Instr.build, hz1, run_underlying hu, hm, e1]
  · rename_i n e hk
    intro ⟨h, hke⟩
    have hke := zf hke
    have hko : (T t).kind ≠ .other := by rw [hk]; simp
    obtain ⟨z, hz1, hz2, hz3⟩ := run_zero hT hko
    obtain ⟨us', e1, e2, e3, e4⟩ := run_fillA (ρ := ρ) (ok := ok) (w := w) (place := fun i => some (i * (T e).size, (T e).size)) parts vparts ((T t).zero.map .d) z.cells hl hp
      (by rw [← Array.length_toList, hz2]; simp) (fun u hu => zero_one hT hko u (hz2 ▸ hu)) (fun j c u hc hu' => zero_rep hT hko j c u hc (by rw [← hz2]; simpa using hu')) h
    refine ⟨.agg us', ?_, fun w' => ?_⟩
    · have := RepV.agg (ρ := ρ) (ok := ok) (w := w) _ us'.toList (by simpa using e2) e3 (fun j c u hc hu => e4 j c u hc (by simpa using hu))
      simpa using this
    · simp [Instr.build, hz1, run_underlying (und_array hT hk), run_sizeOf_tab hT hke, e1]
  · intro h; exact h.elim
end
end Go.Proofs.YtainmipdnjcbkaaGreatDoor
namespace Go.Proofs.YtainmipdnjcbkaaGreatDoor
set_option linter.unusedVariables false
set_option linter.unusedSimpArgs false
open Go Go.RowKit
def g1 (x : AV) (f : AV → PR) : PR := ⟨gdok x ∧ (f (strip x)).ok, (f (strip x)).v⟩
def g2 (x y : AV) (f : AV → AV → PR) : PR := ⟨gdok x ∧ gdok y ∧ (f (strip x) (strip y)).ok, (f (strip x) (strip y)).v⟩
def gdoks : List AV → Prop
  | [] => True
  | x :: r => gdok x ∧ gdoks r
def gdokO : Option AV → Prop
  | none => True
  | some x => gdok x
def acap (ti : TI) (hp : List ABlk) : AV → PR
  | .osl k sz off _ =>
    (match ti.kind, hp[k]? with
    | .slice _, some (.full sz' rs) => ⟨sz = sz' ∧ 0 < sz ∧ off ≤ rs.length, I ((rs.length - off : Nat) : Int)⟩
    | _, _ => ⟨False, .any⟩)
  | _ => ⟨False, .any⟩
def abuiltin (T : TypeId → TI) (b : Builtin) (ts : List TypeId) (xs : List AV) : PR :=
  match b, ts, xs with
  | .len, [t], [x] => g1 x (alen (T t))
  | .min, _, [x, y] => g2 x y (amm false)
  | .max, _, [x, y] => g2 x y (amm true)
  | .max, _, [x, y, z] => ⟨(g2 x y (amm true)).ok ∧ (g2 (g2 x y (amm true)).v z (amm true)).ok, (g2 (g2 x y (amm true)).v z (amm true)).v⟩
  | _, _, _ => ⟨False, .any⟩
def apure (T : TypeId → TI) (hp : List ABlk) (vl : Operand → AV) : Op → PR
  | .move x => ⟨gdok (vl x), strip (vl x)⟩
  | .assign x => ⟨gdok (vl x), strip (vl x)⟩
  | .pick c a b => apick (vl c) (vl a) (vl b)
  | .load t x => g1 (vl x) (aload (T t) hp)
  | .nilCheck x => g1 (vl x) anil
  | .binOp op t x y _ => g2 (vl x) (vl y) (abin (T t) op)
  | .unOp op _ x => g1 (vl x) (aun op)
  | .convert src dst x => ⟨((T src).kind matches .other) = false ∧ (g1 (vl x) (aconv (T dst))).ok, (g1 (vl x) (aconv (T dst))).v⟩
  | .slice t x lo hi mx => ⟨gdok (vl x) ∧ gdokO (lo.map vl) ∧ gdokO (hi.map vl) ∧ gdokO (mx.map vl) ∧
      (aslice T (T t) hp (strip (vl x)) (lo.map fun y => strip (vl y)) (hi.map fun y => strip (vl y)) (mx.map fun y => strip (vl y))).ok,
      (aslice T (T t) hp (strip (vl x)) (lo.map fun y => strip (vl y)) (hi.map fun y => strip (vl y)) (mx.map fun y => strip (vl y))).v⟩
  | .fieldAddr t x i => g1 (vl x) (afld (T t) i)
  | .field t x i => g1 (vl x) (apart T (T t) i)
  | .indexAddr t x i => g2 (vl x) (vl i) (aidxAddr T (T t))
  | .index t x i => g2 (vl x) (vl i) (aidx T (T t))
  | .extract x i => g1 (vl x) (aext i)
  | .build t parts => ⟨gdoks (parts.toList.map fun p => vl p.2) ∧ (abuild T (T t) (parts.toList.map fun p => (p.1, strip (vl p.2)))).ok, (abuild T (T t) (parts.toList.map fun p => (p.1, strip (vl p.2)))).v⟩
  | .makeFunc (.func f) first caps => ⟨gdoks (first.toList.map vl) ∧ gdoks (caps.toList.map vl), .clo f (first.toList.map fun x => strip (vl x)) (caps.toList.map fun x => strip (vl x))⟩
  | .call { callee := .builtin .cap, args, argTypes } => (match args.toList, argTypes.toList with | [x], [t] => g1 (vl x) (acap (T t) hp) | _, _ => ⟨False, .any⟩)
  | .call { callee := .builtin b, args, argTypes } => abuiltin T b argTypes.toList (args.toList.map vl)
  | _ => ⟨False, .any⟩
section
variable {P : Program} {ρ : List (Option (Nat × Nat))} {ok : Nat → Prop} {w : World}
theorem run_acap {T : TypeId → TI} (hT : TabOk P T) {hp : List ABlk} (hB : Blks ρ ok w hp) (t ty : TypeId) (x : AV) (ux : Value) (hx : RepV ρ ok w x ux) (h : (acap (T t) hp x).ok) :
    ∃ u, RepV ρ ok w (acap (T t) hp x).v u ∧ ∀ w', (Builtin.cap_ #[t] ty #[ux]).run P w' = .ok u w' := by
  revert h
  unfold acap
  split
  · rename_i k sz off n
    split
    · rename_i e sz' rs hk hcs
      intro ⟨h1, h2, h3⟩
      subst h1
      cases hx with
      | oslnil _ _ A hkk => exact absurd hkk (hB.2 k _ _ hcs)
      | osl _ _ _ _ b m cap hkk hm hn =>
        obtain ⟨us, ty', fz, hw, hum, hone, hrl, hsz, hr⟩ := hB.1 k _ b m hcs hkk (by simp)
        have hcap : cap = rs.length - off := by
          rw [← hm] at hum
          rw [hum] at hsz
          have := Nat.eq_of_mul_eq_mul_right h2 hsz
          omega
        subst hcap
        exact ⟨_, .d _ _ (.int _ _), fun w' => by simp [Builtin.cap_, run_underlying (und_slice hT hk), goInt]⟩
    · intro h; exact h.elim
  · intro h; exact h.elim
theorem gdoks_get : ∀ {l : List AV} {j : Nat} {x : AV}, gdoks l → l[j]? = some x → gdok x
  | y :: r, 0, x, h, hx => by simp at hx; subst hx; exact h.1
  | y :: r, j + 1, x, h, hx => gdoks_get h.2 (by simpa using hx)
theorem size_one {T : TypeId → TI} (hT : TabOk P T) {t : TypeId} (hk : (T t).kind ≠ .other) (ha : (T t).agg = false) : (T t).size = 1 := by
  have h := tab_und hT hk
  obtain ⟨i, z, _, _, _, _, h5⟩ := h.info
  rw [ha] at h5
  simp only [Bool.false_eq_true, if_false] at h5
  have := congrArg List.length h5
  simp only [List.length_map, List.length_cons, List.length_nil] at this
  rw [← h.zl]; omega
theorem repO_map {vl : Operand → AV} {a : Act} (hv : ∀ x, RepV ρ ok w (vl x) (a.eval x)) {x : Option Operand} (h : gdokO (x.map vl)) :
    RepO ρ ok w (x.map fun y => strip (vl y)) (x.map a.eval) := by
  cases x with
  | none => trivial
  | some y => exact strip_ok (hv y) h
theorem run_abuiltin {T : TypeId → TI} (hT : TabOk P T) (b : Builtin) (ts : List TypeId) (ty : TypeId) (cs : Array Bool) (xs : List AV) (us : List Value) (hl : us.length = xs.length)
    (hr : ∀ (j : Nat) (x : AV) (u : Value), xs[j]? = some x → us[j]? = some u → RepV ρ ok w x u) (h : (abuiltin T b ts xs).ok) :
    ∃ u, RepV ρ ok w (abuiltin T b ts xs).v u ∧ ∀ w', (Go.builtin b ts.toArray ty cs us.toArray).run P w' = .ok (.value u) w' := by
  revert h
  unfold abuiltin
  split
  · rename_i t x
    match us, hl with
    | [ux], _ =>
      intro ⟨hg, hok⟩
      obtain ⟨u, h1, h2⟩ := run_alen (P := P) hT t ty (strip x) ux (strip_ok (hr 0 _ _ rfl rfl) hg) hok
      exact ⟨u, h1, fun w' => by simp [Go.builtin, h2]⟩
  · rename_i x y
    match us, hl with
    | [ux, uy], _ =>
      intro ⟨hg, hg', hok⟩
      obtain ⟨u, h1, h2⟩ := run_amm (P := P) false (strip x) (strip y) ux uy (strip_ok (hr 0 _ _ rfl rfl) hg) (strip_ok (hr 1 _ _ rfl rfl) hg') hok
      simp only [Bool.false_eq_true, if_false] at h2
      exact ⟨u, h1, fun w' => by simp [Go.builtin, Builtin.min_, List.foldlM, h2]⟩
  · rename_i x y
    match us, hl with
    | [ux, uy], _ =>
      intro ⟨hg, hg', hok⟩
      obtain ⟨u, h1, h2⟩ := run_amm (P := P) true (strip x) (strip y) ux uy (strip_ok (hr 0 _ _ rfl rfl) hg) (strip_ok (hr 1 _ _ rfl rfl) hg') hok
      simp only [if_true] at h2
      exact ⟨u, h1, fun w' => by simp [Go.builtin, Builtin.max_, List.foldlM, h2]⟩
  · rename_i x y z
    match us, hl with
    | [ux, uy, uz], _ =>
      intro ⟨⟨hg, hg', hok⟩, hg1, hg2, hok2⟩
      obtain ⟨u, h1, h2⟩ := run_amm (P := P) true (strip x) (strip y) ux uy (strip_ok (hr 0 _ _ rfl rfl) hg) (strip_ok (hr 1 _ _ rfl rfl) hg') hok
      obtain ⟨u', h1', h2'⟩ := run_amm (P := P) true (strip (g2 x y (amm true)).v) (strip z) u uz (strip_ok h1 hg1) (strip_ok (hr 2 _ _ rfl rfl) hg2) hok2
      simp only [if_true] at h2 h2'
      exact ⟨u', h1', fun w' => by simp [Go.builtin, Builtin.max_, List.foldlM, h2, h2']⟩
  · intro h; exact h.elim
def isLoad : Op → Bool
  | .load .. => true
  | _ => false
theorem apure_sound {T : TypeId → TI} (hT : TabOk P T) {hp : List ABlk} (hlt : ∀ b, ok b → b < w.heap.size) (hB : Blks ρ ok w hp) {vl : Operand → AV} {a : Act}
    (hv : ∀ x, RepV ρ ok w (vl x) (a.eval x)) (o : Oper) (h : (apure T hp vl o.op).ok) :
    ∃ u, RepV ρ ok w (apure T hp vl o.op).v u ∧ ∀ w', (isLoad o.op = true → Below w.heap.size w w') → (execOp a.eval o).run P w' = .ok (.value u) w' := by
  obtain ⟨dst, op, ty, pos, after, guard⟩ := o
  revert h
  simp only
  unfold apure
  split
  · rename_i x; intro h; exact ⟨_, strip_ok (hv x) h, fun w' _ => by simp [execOp]⟩
  · rename_i x; intro h; exact ⟨_, strip_ok (hv x) h, fun w' _ => by simp [execOp]⟩
  · rename_i c x y; intro h
    obtain ⟨u, h1, h2⟩ := run_apick (P := P) _ _ _ _ _ _ (hv c) (hv x) (hv y) h
    exact ⟨u, h1, fun w' _ => h2 w'⟩
  · rename_i t x; intro ⟨hg, h⟩
    obtain ⟨u, h1, h2⟩ := run_aload hT hlt hB t _ _ (strip_ok (hv x) hg) h
    exact ⟨u, h1, fun w' hb => by simp [execOp, h2 w' (hb rfl)]⟩
  · rename_i x; intro ⟨hg, h⟩
    have hx := strip_ok (hv x) hg
    revert h
    simp only [g1]
    unfold anil
    split
    · rename_i e; rw [e] at hx; intro _; generalize hu : a.eval x = ux at *; cases hx with | ptr _ _ b m h => exact ⟨_, .ptr _ _ b m h, fun w' _ => by simp [execOp, hu]⟩
    · rename_i e; rw [e] at hx; intro _; generalize hu : a.eval x = ux at *; cases hx with | rp _ _ _ _ b m h => exact ⟨_, .rp _ _ _ _ b m h, fun w' _ => by simp [execOp, hu]⟩
    · rename_i e; rw [e] at hx; intro _; generalize hu : a.eval x = ux at *; cases hx with | dp _ _ b o' q hb hc hr => exact ⟨_, .dp _ _ b o' q hb hc hr, fun w' _ => by simp [execOp, hu]⟩
    · rename_i e; rw [e] at hx; intro _; generalize hu : a.eval x = ux at *; cases hx with | clo _ _ _ us vs hl hl' hr hr' => exact ⟨_, .clo _ _ _ us vs hl hl' hr hr', fun w' _ => by simp [execOp, hu]⟩
    · intro h; exact h.elim
  · rename_i op t x y ty'; intro ⟨hg, hg', h⟩
    obtain ⟨u, h1, h2⟩ := run_abin (P := P) hT op t _ _ _ _ (strip_ok (hv x) hg) (strip_ok (hv y) hg') h
    exact ⟨u, h1, fun w' _ => by simp [execOp, (h2 w').1, (h2 w').2]⟩
  · rename_i op t x; intro ⟨hg, h⟩
    obtain ⟨u, h1, h2⟩ := run_aun (P := P) op _ _ (strip_ok (hv x) hg) h
    exact ⟨u, h1, fun w' _ => by simp [execOp, h2 w']⟩
  · rename_i src dst' x; intro ⟨hs, hg, h⟩
    obtain ⟨d, hd, _⟩ := (tab_und hT (zf hs)).und
    obtain ⟨u, h1, h2⟩ := run_aconv (P := P) hT src dst' _ _ ⟨d, hd⟩ (strip_ok (hv x) hg) h
    exact ⟨u, h1, fun w' _ => by simp [execOp, h2 w']⟩
  · rename_i t x lo hi mx; intro ⟨hg, hg1, hg2, hg3, h⟩
    obtain ⟨u, h1, h2⟩ := run_aslice (P := P) hT hB t _ _ _ _ _ _ _ _ (strip_ok (hv x) hg) (repO_map hv hg1) (repO_map hv hg2) (repO_map hv hg3) h
    exact ⟨u, h1, fun w' _ => by simp [execOp, h2 w']⟩
  · rename_i t x i; intro ⟨hg, h⟩
    obtain ⟨u, h1, h2⟩ := run_afld (P := P) hT t i _ _ (strip_ok (hv x) hg) h
    exact ⟨u, h1, fun w' _ => by simp [execOp, h2 w']⟩
  · rename_i t x i; intro ⟨hg, h⟩
    obtain ⟨u, h1, h2⟩ := run_apart (P := P) hT t i _ _ (strip_ok (hv x) hg) h (fun t hk ha => size_one hT hk ha)
    exact ⟨u, h1, fun w' _ => by simp [execOp, h2 w']⟩
  · rename_i t x i; intro ⟨hg, hg', h⟩
    obtain ⟨u, h1, h2⟩ := run_aidxAddr (P := P) hT t _ _ _ _ (strip_ok (hv x) hg) (strip_ok (hv i) hg') h
    exact ⟨u, h1, fun w' _ => by simp [execOp, h2 w']⟩
  · rename_i t x i; intro ⟨hg, hg', h⟩
    obtain ⟨u, h1, h2⟩ := run_aidx (P := P) hT t _ _ _ _ (strip_ok (hv x) hg) (strip_ok (hv i) hg') h
    exact ⟨u, h1, fun w' _ => by simp [execOp, h2 w']⟩
  · rename_i x i; intro ⟨hg, h⟩
    obtain ⟨u, h1, h2⟩ := run_aext (P := P) i _ _ (strip_ok (hv x) hg) h
    exact ⟨u, h1, fun w' _ => by simp [execOp, h2 w']⟩
  · rename_i t parts; intro ⟨hg, h⟩
    obtain ⟨u, h1, h2⟩ := run_abuild (P := P) (ρ := ρ) (ok := ok) (w := w) hT t (parts.toList.map fun p => (p.1, strip (vl p.2))) (parts.toList.map fun p => (p.1, a.eval p.2)) (by simp)
      (fun j x y hx hy => by
        rw [List.getElem?_map] at hx hy
        obtain ⟨q, hq, rfl⟩ := Option.map_eq_some_iff.1 hx
        rw [hq] at hy
        simp at hy
        subst hy
        exact ⟨rfl, strip_ok (hv q.2) (gdoks_get hg (j := j) (by rw [List.getElem?_map, hq]; rfl))⟩) h
    refine ⟨u, h1, fun w' _ => ?_⟩
    have e : (parts.toList.map fun p => (p.1, a.eval p.2)).toArray = parts.map fun (i, x) => (i, a.eval x) := by
      apply Array.ext'; simp
    have := h2 w'
    rw [e] at this
    simp [execOp, this]
  · rename_i f first caps; intro ⟨hg, hg'⟩
    refine ⟨.func (.func f) (first.map a.eval) (caps.map a.eval), ?_, fun w' _ => by simp [execOp, Instr.makeFunc]⟩
    have := RepV.clo (ρ := ρ) (ok := ok) (w := w) f (first.toList.map fun x => strip (vl x)) (caps.toList.map fun x => strip (vl x)) (first.toList.map a.eval) (caps.toList.map a.eval) (by simp) (by simp)
      (fun j c u hc hu => by
        rw [List.getElem?_map] at hc hu
        obtain ⟨q, hq, rfl⟩ := Option.map_eq_some_iff.1 hc
        rw [hq] at hu; simp at hu; subst hu
        exact strip_ok (hv q) (gdoks_get hg (j := j) (by rw [List.getElem?_map, hq]; rfl)))
      (fun j c u hc hu => by
        rw [List.getElem?_map] at hc hu
        obtain ⟨q, hq, rfl⟩ := Option.map_eq_some_iff.1 hc
        rw [hq] at hu; simp at hu; subst hu
        exact strip_ok (hv q) (gdoks_get hg' (j := j) (by rw [List.getElem?_map, hq]; rfl)))
    have e1 : (first.toList.map a.eval).toArray = first.map a.eval := by apply Array.ext'; simp
    have e2 : (caps.toList.map a.eval).toArray = caps.map a.eval := by apply Array.ext'; simp
    rwa [e1, e2] at this
  · rename_i args argTypes; intro h
    split at h
    · rename_i x t hx ht
      have ea : args = #[x] := by apply Array.ext'; simpa using hx
      have et : argTypes = #[t] := by apply Array.ext'; simpa using ht
      subst ea; subst et
      obtain ⟨hg, h⟩ := h
      obtain ⟨u, h1, h2⟩ := run_acap (P := P) hT hB t ty _ _ (strip_ok (hv x) hg) h
      exact ⟨u, h1, fun w' _ => by simp [execOp, resolve, invoke, Go.builtin, h2 w']⟩
    · exact h.elim
  · rename_i b args argTypes _; intro h
    obtain ⟨u, h1, h2⟩ := run_abuiltin (P := P) (ρ := ρ) (ok := ok) (w := w) hT b argTypes.toList ty (args.map fun | .const _ => true | _ => false) (args.toList.map vl) (args.toList.map a.eval) (by simp)
      (fun j x u hx hu => by
        rw [List.getElem?_map] at hx hu
        obtain ⟨q, hq, rfl⟩ := Option.map_eq_some_iff.1 hx
        rw [hq] at hu; simp at hu; subst hu
        exact hv q) h
    refine ⟨u, h1, fun w' _ => ?_⟩
    have e1 : (args.toList.map a.eval).toArray = args.map a.eval := by apply Array.ext'; simp
    have e2 : argTypes.toList.toArray = argTypes := by simp
    have := h2 w'
    rw [e1, e2] at this
    simp only [execOp, resolve, invoke, Sem.run_bind, Sem.run_pure, Result.andThen_ok]
    exact this
  · intro h; exact h.elim
end
end Go.Proofs.YtainmipdnjcbkaaGreatDoor
