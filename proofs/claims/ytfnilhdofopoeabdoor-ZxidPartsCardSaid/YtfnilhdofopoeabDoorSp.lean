/- The pieces of a text between slashes, as strings.SplitSeq gives them to a loop; path.Good. No condition. -/
import Derived.RangeFuncNested
import Derived.RangeFuncBound
import Derived.RangeFuncCalls
import Derived.RangeFuncLeaves
import Derived.Shelf.Abstract
import Derived.Shelf.RegionOpen
import Derived.WalkKit
import Derived.OwnWalkIn
import Derived.TacticsInMore
import Derived.LoopNIn
import Derived.LoopIn
import Derived.Test.YtfnilhdofopoeabDoorIx
import Derived.Test.YtfnilhdofopoeabDoorPn
namespace Go.Proofs.YtfnilhdofopoeabDoor
set_option linter.unusedVariables false
set_option linter.unusedSimpArgs false
open Go Go.RowKit Go.Shelf
attribute [local go_sem] Oper.semAt_some
set_option maxRecDepth 100000
set_option linter.unusedSimpArgs false

def lenAt (W : World) (b : Nat) : Nat := match W.cell? ⟨b, 0, none⟩ with
  | some (.string s) => s.size
  | _ => 0
def splitB : List UInt8 → List (List UInt8)
  | [] => [[]]
  | c :: r => if c = 47 then [] :: splitB r else match splitB r with
    | p :: ps => (c :: p) :: ps
    | [] => [[c]]
def allNamed (r : List UInt8) : Bool := (splitB r).all namedP
theorem splitB_ne (r : List UInt8) : splitB r ≠ [] := by
  induction r with
  | nil => simp [splitB]
  | cons c r ih =>
    unfold splitB
    split
    · simp
    · split <;> simp
theorem idx_cases (r : List UInt8) : (Lib.indexByte r 47 = -1 ∧ splitB r = [r]) ∨ ∃ i : Nat, Lib.indexByte r 47 = (i : Int) ∧ i < r.length ∧ splitB r = r.take i :: splitB (r.drop (i + 1)) := by
  induction r with
  | nil => exact .inl ⟨rfl, rfl⟩
  | cons c r ih =>
    by_cases h : c = 47
    · subst h
      exact .inr ⟨0, by simp [Lib.indexByte], by simp, by simp [splitB]⟩
    · rcases ih with ⟨e1, e2⟩ | ⟨i, e1, e2, e3⟩
      · refine .inl ⟨by simp [Lib.indexByte, h, e1], by simp [splitB, h, e2]⟩
      · refine .inr ⟨i + 1, ?_, by simp; omega, by simp [splitB, h, e3]⟩
        simp only [Lib.indexByte, e1]
        rw [if_neg (by simpa using h), if_neg (by simp)]
        omega
def goodP (s : List UInt8) : Bool := decide (s = [47]) || (decide (s.length ≤ 200) && (decide (1 ≤ s.length ∧ s.take 1 = [47]) && allNamed (s.drop 1)))

/-- What lies in the world while the loop of path.Good runs, the text 'r' being what is left. -/
structure GJ (w : World) (B : Nat) (rec : Loop) (r : List UInt8) (W : World) : Prop where
  below : Below w.heap.size w W
  res : W.cell? ⟨w.heap.size, 0, none⟩ = some (.bool false)
  resf : W.frozen? ⟨w.heap.size, 0, none⟩ = false
  s : W.cell? ⟨B, 0, none⟩ = some (mkStr r)
  sf : W.frozen? ⟨B, 0, none⟩ = false
  p : W.cell? ⟨B + 1, 0, none⟩ = some (mkStr [47])
  v : W.cell? ⟨B + 2, 0, none⟩ = some (.int .i64 0)
  d : W.heap[B + 3]? = some (.deferred (some []))
  l : W.heap[B + 4]? = some (.loop rec)
theorem cell_other {W : World} {k k' : Nat} {v : Value} (h : k ≠ k') : (W.setCell ⟨k, 0, none⟩ v).cell? ⟨k', 0, none⟩ = W.cell? ⟨k', 0, none⟩ := by
  have : (⟨k, 0, none⟩ : Addr) ≠ ⟨k', 0, none⟩ := fun e => h (by injection e)
  simp [World.cell?_setCell_other, this]
theorem heap_lt {W : World} {k : Nat} {o : Obj} (h : W.heap[k]? = some o) : k < W.heap.size := (Array.getElem?_eq_some_iff.1 h).1
section
variable {w W W' : World} {B : Nat} {rec : Loop} {r : List UInt8}
theorem GJ.write (hB : w.heap.size < B) (h : GJ w B rec r W) (r' : List UInt8) : GJ w B rec r' (W.setCell ⟨B, 0, none⟩ (mkStr r')) :=
  ⟨h.below.setCell (by simp only; omega) _, by rw [cell_other (by omega)]; exact h.res, by rw [World.frozen?_setCell]; exact h.resf, World.cell?_setCell_same' _ _ _ (by rw [h.s]; rfl), by rw [World.frozen?_setCell]; exact h.sf,
    by rw [cell_other (by omega)]; exact h.p, by rw [cell_other (by omega)]; exact h.v, by rw [Below.heap_setCell _ _ _ _ (by simp only; omega)]; exact h.d, by rw [Below.heap_setCell _ _ _ _ (by simp only; omega)]; exact h.l⟩
theorem GJ.mark (hB : w.heap.size < B) (h : GJ w B rec r W) : GJ w B rec r (W.setCell ⟨w.heap.size, 0, none⟩ (.bool false)) :=
  ⟨h.below.setCell (Nat.le_refl _) _, World.cell?_setCell_same' _ _ _ (by rw [h.res]; rfl), by rw [World.frozen?_setCell]; exact h.resf, by rw [cell_other (by omega)]; exact h.s, by rw [World.frozen?_setCell]; exact h.sf,
    by rw [cell_other (by omega)]; exact h.p, by rw [cell_other (by omega)]; exact h.v, by rw [Below.heap_setCell _ _ _ _ (by simp only; omega)]; exact h.d, by rw [Below.heap_setCell _ _ _ _ (by simp only; omega)]; exact h.l⟩
theorem GJ.grow (hB : w.heap.size < B) (h : GJ w B rec r W) (hb : Below W.heap.size W W') : GJ w B rec r W' := by
  have hl := heap_lt h.l
  exact ⟨h.below.trans (hb.mono h.below.size), by rw [hb.cell (by simp only; omega)]; exact h.res, by rw [hb.frozen (by simp only; omega)]; exact h.resf, by rw [hb.cell (by simp only; omega)]; exact h.s, by rw [hb.frozen (by simp only; omega)]; exact h.sf,
    by rw [hb.cell (by simp only; omega)]; exact h.p, by rw [hb.cell (by simp only; omega)]; exact h.v, by rw [hb.block _ (by omega)]; exact h.d, by rw [hb.block _ (by omega)]; exact h.l⟩
theorem GJ.turn (hB : w.heap.size < B) (h : GJ w B rec r W) (rec' : Loop) : GJ w B rec' r (W.putObj (B + 4) (.loop rec')) := by
  have hl := heap_lt h.l
  have hcell : ∀ k, k ≠ B + 4 → (W.putObj (B + 4) (.loop rec')).cell? ⟨k, 0, none⟩ = W.cell? ⟨k, 0, none⟩ := fun k hk => World.cell?_of_block (World.putObj_heap_other hk)
  have hfz : ∀ k, k ≠ B + 4 → (W.putObj (B + 4) (.loop rec')).frozen? ⟨k, 0, none⟩ = W.frozen? ⟨k, 0, none⟩ := fun k hk => World.frozen?_of_block (World.putObj_heap_other hk)
  exact ⟨h.below.trans ⟨rfl, rfl, rfl, by simp, fun k hk => World.putObj_heap_other (by omega)⟩, by rw [hcell _ (by omega)]; exact h.res, by rw [hfz _ (by omega)]; exact h.resf, by rw [hcell _ (by omega)]; exact h.s, by rw [hfz _ (by omega)]; exact h.sf,
    by rw [hcell _ (by omega)]; exact h.p, by rw [hcell _ (by omega)]; exact h.v, by rw [World.putObj_heap_other (by omega)]; exact h.d, World.putObj_heap_same hl⟩
end

theorem three_cells {w w' : World} {r : List UInt8} (hb : Below w.heap.size w w') (hB : w.heap.size < w'.heap.size) (c1 : w'.cell? ⟨w.heap.size, 0, none⟩ = some (.bool false)) (c2 : w'.frozen? ⟨w.heap.size, 0, none⟩ = false) (ta tb tc : TypeId) (rec : Loop) :
    GJ w w'.heap.size rec r (((((w'.alloc (.cells #[.string ⟨r.toArray⟩] ta)).alloc (.cells #[.string ⟨#[47]⟩] tb)).alloc (.cells #[.int .i64 0] tc)).alloc (.deferred (some []))).alloc (.loop rec)) := by
  obtain ⟨W1, h1⟩ : ∃ W1, w'.alloc (.cells #[.string ⟨r.toArray⟩] ta) = W1 := ⟨_, rfl⟩
  have a1 := World.alloc_heap_new w' (.cells #[.string ⟨r.toArray⟩] ta)
  have s1 : W1.heap.size = w'.heap.size + 1 := by rw [← h1, World.size_alloc]
  have k1 : ∀ k, k < w'.heap.size → W1.heap[k]? = w'.heap[k]? := fun k hk => by rw [← h1]; exact Below.heap_alloc _ _ _ hk
  rw [h1] at a1 ⊢
  obtain ⟨W2, h2⟩ : ∃ W2, W1.alloc (.cells #[.string ⟨#[47]⟩] tb) = W2 := ⟨_, rfl⟩
  have a2 := World.alloc_heap_new W1 (.cells #[.string ⟨#[47]⟩] tb)
  have s2 : W2.heap.size = w'.heap.size + 2 := by rw [← h2, World.size_alloc, s1]
  have k2 : ∀ k, k < W1.heap.size → W2.heap[k]? = W1.heap[k]? := fun k hk => by rw [← h2]; exact Below.heap_alloc _ _ _ hk
  rw [h2, s1] at a2
  rw [h2]
  obtain ⟨W3, h3⟩ : ∃ W3, W2.alloc (.cells #[.int .i64 0] tc) = W3 := ⟨_, rfl⟩
  have a3 := World.alloc_heap_new W2 (.cells #[.int .i64 0] tc)
  have s3 : W3.heap.size = w'.heap.size + 3 := by rw [← h3, World.size_alloc, s2]
  have k3 : ∀ k, k < W2.heap.size → W3.heap[k]? = W2.heap[k]? := fun k hk => by rw [← h3]; exact Below.heap_alloc _ _ _ hk
  rw [h3, s2] at a3
  rw [h3]
  obtain ⟨W4, h4⟩ : ∃ W4, W3.alloc (.deferred (some [])) = W4 := ⟨_, rfl⟩
  have a4 := World.alloc_heap_new W3 (.deferred (some []))
  have s4 : W4.heap.size = w'.heap.size + 4 := by rw [← h4, World.size_alloc, s3]
  have k4 : ∀ k, k < W3.heap.size → W4.heap[k]? = W3.heap[k]? := fun k hk => by rw [← h4]; exact Below.heap_alloc _ _ _ hk
  rw [h4, s3] at a4
  rw [h4]
  obtain ⟨W5, h5⟩ : ∃ W5, W4.alloc (.loop rec) = W5 := ⟨_, rfl⟩
  have a5 := World.alloc_heap_new W4 (.loop rec)
  have s5 : W5.heap.size = w'.heap.size + 5 := by rw [← h5, World.size_alloc, s4]
  have k5 : ∀ k, k < W4.heap.size → W5.heap[k]? = W4.heap[k]? := fun k hk => by rw [← h5]; exact Below.heap_alloc _ _ _ hk
  rw [h5, s4] at a5
  rw [h5]
  have hbb : Below w'.heap.size w' W5 := by
    rw [← h5, ← h4, ← h3, ← h2, ← h1]
    exact (((((Below.refl _ w').alloc (Nat.le_refl _) _).alloc (by simp) _).alloc (by simp; omega) _).alloc (by simp; omega) _).alloc (by simp; omega) _
  have hk : ∀ k, k < w'.heap.size → W5.heap[k]? = w'.heap[k]? := fun k hk => hbb.block k hk
  have e0 : W5.heap[w'.heap.size]? = some (.cells #[.string ⟨r.toArray⟩] ta) := by rw [k5 _ (by omega), k4 _ (by omega), k3 _ (by omega), k2 _ (by omega)]; exact a1
  have e1 : W5.heap[w'.heap.size + 1]? = some (.cells #[.string ⟨#[47]⟩] tb) := by rw [k5 _ (by omega), k4 _ (by omega), k3 _ (by omega)]; exact a2
  have e2 : W5.heap[w'.heap.size + 2]? = some (.cells #[.int .i64 0] tc) := by rw [k5 _ (by omega), k4 _ (by omega)]; exact a3
  exact ⟨hb.trans (hbb.mono (by omega)), by rw [World.cell?_of_block (hk _ hB)]; exact c1, by rw [World.frozen?_of_block (hk _ hB)]; exact c2,
    by rw [cell_of_cells e0]; rfl, by rw [frozen_cells e0]; rfl, by rw [cell_of_cells e1]; rfl, by rw [cell_of_cells e2]; rfl, by rw [k5 _ (by omega)]; exact a4, a5⟩
theorem cell_new (W : World) (v : Value) (t : TypeId) : (W.alloc (.cells #[v] t)).cell? ⟨W.heap.size, 0, none⟩ = some v ∧ (W.alloc (.cells #[v] t)).frozen? ⟨W.heap.size, 0, none⟩ = false := by
  have e := World.alloc_heap_new W (.cells #[v] t)
  exact ⟨by rw [cell_of_cells e]; rfl, by rw [frozen_cells e]; rfl⟩
/-- A contract of the model's own form, for a function of scalars that may leave new blocks. -/
theorem acall_of_below {P : Program} {g : FuncId} {xs : List AV} {x : AV} {us : List Value} {u : Value} (hg : goFn P g) (hxs : scalL xs = some us) (hx : scalV x = some u)
    (h : ∀ w : World, TabsAt w → Calls P g us.toArray w fun e w' => e = .returned u ∧ Below w.heap.size w w') : acall P [] g xs (ret x) := by
  refine ⟨hg, fun E w vs hw hH hvs => ?_⟩
  have e : vs = us := by
    obtain ⟨h1, h2⟩ := scalL_get hxs
    refine List.ext_getElem? fun j => ?_
    by_cases hj : j < xs.length
    · obtain ⟨u', hu, hs⟩ := h2 j _ (List.getElem?_eq_getElem hj)
      have hv : vs[j]? = some (vs[j]'(by rw [hvs.1]; exact hj)) := List.getElem?_eq_getElem _
      rw [hv, hu, scal_eq (hvs.2 j _ _ (List.getElem?_eq_getElem hj) hv) u' hs]
    · rw [List.getElem?_eq_none (by rw [hvs.1]; omega), List.getElem?_eq_none (by omega)]
  subst e
  refine (h w (hw ▸ E.hT)).mono fun e w' ⟨h1, h2⟩ => ?_
  have h0 : E.ρ0 = [] := List.eq_nil_of_length_eq_zero (by rw [hH.len]; rfl)
  refine ⟨u, x, [], [], h1, ⟨rfl, rfl⟩, ?_, fun k p hk => ?_, scal_rep x u hx⟩
  · rw [h0] at hH; exact hH.below h2
  · rw [h0] at hk; exact hk
end Go.Proofs.YtfnilhdofopoeabDoor
