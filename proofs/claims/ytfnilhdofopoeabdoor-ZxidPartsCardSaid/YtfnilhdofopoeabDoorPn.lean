/- Contracts of path.Named and its reference. No condition. -/
import Derived.Test.YtfnilhdofopoeabDoorLb
namespace Go.Proofs.YtfnilhdofopoeabDoor
set_option linter.unusedVariables false
set_option linter.unusedSimpArgs false
open Go Go.RowKit
set_option maxRecDepth 100000
set_option linter.unusedSimpArgs false

def okc (c : UInt8) : Bool := decide ((97 ≤ c.toNat ∧ c.toNat ≤ 122) ∨ (48 ≤ c.toNat ∧ c.toNat ≤ 57) ∨ c.toNat = 45 ∨ c.toNat = 95)
def namedP (s : List UInt8) : Bool := s.all okc && (!decide (s = []) && decide ((s.length : Int) ≤ 40))
theorem all_take {α : Type} [Inhabited α] (p : α → Bool) (l : List α) (d : α) : ∀ k, k ≤ l.length → (∀ j, j < k → p (l.getD j d) = true) → (l.take k).all p = true := by
  intro k hk h
  rw [List.all_eq_true]
  intro x hx
  rw [List.mem_take_iff_getElem] at hx
  obtain ⟨j, hj, rfl⟩ := hx
  have := h j (by omega)
  rwa [List.getD_eq_getElem?_getD, List.getElem?_eq_getElem (by omega)] at this
theorem all_full {α : Type} [Inhabited α] (p : α → Bool) (l : List α) (d : α) (h : ∀ j, j < l.length → p (l.getD j d) = true) : l.all p = true := by
  have := all_take p l d l.length (Nat.le_refl _) h
  rwa [List.take_length] at this
theorem all_not {α : Type} [Inhabited α] {p : α → Bool} {l : List α} {d : α} {k : Nat} (hk : k < l.length) (h : p (l.getD k d) = false) : l.all p = false := by
  rw [List.all_eq_false]
  refine ⟨l.getD k d, ?_, by rw [h]; simp⟩
  rw [List.getD_eq_getElem?_getD, List.getElem?_eq_getElem hk]
  exact List.getElem_mem hk

def letters : List UInt8 := [97, 98, 99, 100, 101, 102, 103, 104, 105, 106, 107, 108, 109, 110, 111, 112, 113, 114, 115, 116, 117, 118, 119, 120, 121, 122, 48, 49, 50, 51, 52, 53, 54, 55, 56, 57, 45, 95]
theorem okc_letters (c : UInt8) : okc c = letters.any (fun x => decide (c = x)) := by
  have h : ∀ n, n < 256 → okc (UInt8.ofNat n) = letters.any (fun x => decide (UInt8.ofNat n = x)) := by unfold okc letters; decide
  have := h c.toNat c.toNat_lt
  simpa using this
theorem any_take {α : Type} [Inhabited α] (p : α → Bool) (l : List α) (d : α) (k : Nat) (hk : k < l.length) : (l.take (k + 1)).any p = ((l.take k).any p || p (l.getD k d)) := by
  rw [List.getD_eq_getElem?_getD, List.getElem?_eq_getElem hk, List.take_add_one, List.getElem?_eq_getElem hk, List.any_append]; simp
theorem u8g (l : List UInt8) (i : Nat) (h : i < l.length) : (l.map u8row).getD i [] = u8row (l.getD i 0) := getD_row u8row l i [] h
end Go.Proofs.YtfnilhdofopoeabDoor
