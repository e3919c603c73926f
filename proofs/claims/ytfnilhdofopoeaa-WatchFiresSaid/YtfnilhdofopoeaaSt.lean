/- The order of texts, and a search by halves in a list that rises by it: plain facts. No condition. -/
import Derived.Test.YtfnilhdofopoeaaMt
import Derived.Lib.Bytealg
import Derived.Sort.Walk0
namespace Go.Proofs.Ytfnilhdofopoeaa
set_option linter.unusedVariables false
set_option linter.unusedSimpArgs false
open Go Go.RowKit
set_option linter.unusedSimpArgs false

theorem eq_of_getD {α : Type} [Inhabited α] {a b : List α} (h : a.length = b.length) (h2 : ∀ k, k < a.length → a.getD k default = b.getD k default) : a = b := by
  refine List.ext_getElem h fun k h1 h3 => ?_
  have := h2 k h1
  simpa [List.getD_eq_getElem?_getD, List.getElem?_eq_getElem h1, List.getElem?_eq_getElem h3] using this

def cmpB (a b : List UInt8) : Int := Lib.compareBytes a b
theorem cmpB_eq (a b : List UInt8) : cmpB a b = 0 ↔ a = b := by
  unfold cmpB
  induction a generalizing b with
  | nil => cases b <;> simp [Lib.compareBytes]
  | cons x a ih =>
    cases b with
    | nil => simp [Lib.compareBytes]
    | cons y b =>
      simp only [Lib.compareBytes]
      split
      · rename_i h; simp; intro e; subst e; exact absurd h (by simp)
      · split
        · rename_i h; simp; intro e; subst e; exact absurd h (by simp)
        · rename_i h1 h2
          have : x = y := by
            have h1' : ¬ x.toNat < y.toNat := by simpa [UInt8.lt_iff_toNat_lt] using h1
            have h2' : ¬ y.toNat < x.toNat := by simpa [UInt8.lt_iff_toNat_lt] using h2
            exact UInt8.toNat_inj.1 (by omega)
          subst this
          rw [ih]; simp
theorem cmpB_lt (a b : List UInt8) : cmpB a b < 0 ↔ strLt a b = true := by
  unfold cmpB strLt
  induction a generalizing b with
  | nil => cases b <;> simp [Lib.compareBytes, Op.bytesLess]
  | cons x a ih =>
    cases b with
    | nil => simp [Lib.compareBytes, Op.bytesLess]
    | cons y b =>
      simp only [Lib.compareBytes, Op.bytesLess]
      split
      · rename_i h; simp [h]
      · rename_i h1
        split
        · rename_i h2
          have h2' : ¬ x = y := fun e => by subst e; exact absurd h2 (by simp)
          simp [h1, h2']
        · rename_i h2
          have : x = y := by
            have h1' : ¬ x.toNat < y.toNat := by simpa [UInt8.lt_iff_toNat_lt] using h1
            have h2' : ¬ y.toNat < x.toNat := by simpa [UInt8.lt_iff_toNat_lt] using h2
            exact UInt8.toNat_inj.1 (by omega)
          subst this
          simp [ih]
theorem strLt_eq (a b : List UInt8) : strLt a b = decide (a < b) := Go.Proofs.bytesLess_eq a b
theorem cmpB_neg (a b : List UInt8) : cmpB a b < 0 ↔ a < b := by rw [cmpB_lt, strLt_eq, decide_eq_true_eq]
theorem lt_tri {a b : List UInt8} (h : ¬ a < b) (h2 : ¬ b < a) : a = b := List.le_antisymm (List.not_lt.1 h2) (List.not_lt.1 h)
theorem lt_of_not {a b : List UInt8} (h : ¬ a < b) (h2 : a ≠ b) : b < a := Classical.byContradiction fun h3 => h2 (lt_tri h h3)

/-- A list of texts that rises. -/
def Rises (ns : List (List UInt8)) : Prop := ∀ k, k + 1 < ns.length → ns.getD k [] < ns.getD (k + 1) []
theorem rises_lt {ns : List (List UInt8)} (h : Rises ns) {i : Nat} : ∀ {j : Nat}, i < j → j < ns.length → ns.getD i [] < ns.getD j []
  | 0, h1, _ => by omega
  | j + 1, h1, h2 => by
    by_cases e : i = j
    · subst e; exact h i h2
    · exact List.lt_trans (rises_lt h (by omega) (by omega)) (h j h2)
/-- Where a text stands in a list that rises, or would. -/
def place (ns : List (List UInt8)) (key : List UInt8) : Nat := ns.findIdx fun x => !decide (x < key)
theorem place_eq {ns : List (List UInt8)} {key : List UInt8} {i : Nat} (h0 : i ≤ ns.length) (h1 : ∀ k, k < i → ns.getD k [] < key) (h2 : i < ns.length → ¬ ns.getD i [] < key) : place ns key = i := by
  unfold place
  by_cases e : i < ns.length
  · rw [List.findIdx_eq e]
    have h3 := h2 e
    rw [List.getD_eq_getElem?_getD, List.getElem?_eq_getElem e] at h3
    refine ⟨by simpa using h3, fun j hj => ?_⟩
    have h4 := h1 j hj
    rw [List.getD_eq_getElem?_getD, List.getElem?_eq_getElem (by omega)] at h4
    simpa using h4
  · have e2 : i = ns.length := by omega
    subst e2
    rw [List.findIdx_eq_length]
    intro x hx
    obtain ⟨j, hj, rfl⟩ := List.getElem_of_mem hx
    have h4 := h1 j hj
    rw [List.getD_eq_getElem?_getD, List.getElem?_eq_getElem hj] at h4
    simpa using h4
theorem mem_getD {α : Type} (ns : List α) (d : α) {k : Nat} (h : k < ns.length) : ns.getD k d ∈ ns := by
  rw [List.getD_eq_getElem?_getD, List.getElem?_eq_getElem h]; exact List.getElem_mem h
theorem mem_iff_getD {α : Type} (ns : List α) (d x : α) : x ∈ ns ↔ ∃ k, k < ns.length ∧ ns.getD k d = x := by
  constructor
  · intro h
    obtain ⟨j, hj, e⟩ := List.getElem_of_mem h
    exact ⟨j, hj, by rw [List.getD_eq_getElem?_getD, List.getElem?_eq_getElem hj]; exact e⟩
  · rintro ⟨k, h, rfl⟩; exact mem_getD ns d h
theorem found_iff {ns : List (List UInt8)} {key : List UInt8} {i : Nat} (hr : Rises ns) (h1 : ∀ k, k < i → ns.getD k [] < key) (h2 : i < ns.length → ¬ ns.getD i [] < key) : key ∈ ns ↔ i < ns.length ∧ ns.getD i [] = key := by
  rw [mem_iff_getD ns []]
  constructor
  · rintro ⟨k, hk, e⟩
    have a : ¬ k < i := fun hki => by have := h1 k hki; rw [e] at this; exact List.lt_irrefl _ this
    have b : ¬ i < k := fun hik => by
      have := rises_lt hr hik hk
      rw [e] at this; exact h2 (by omega) this
    have c : i = k := by omega
    subst c; exact ⟨hk, e⟩
  · rintro ⟨h, e⟩; exact ⟨i, h, e⟩
theorem place_le (ns : List (List UInt8)) (key : List UInt8) : place ns key ≤ ns.length := List.findIdx_le_length
theorem place_at {ns : List (List UInt8)} {k : Nat} (hr : Rises ns) (h : k < ns.length) : place ns (ns.getD k []) = k :=
  place_eq (by omega) (fun j hj => rises_lt hr hj h) fun _ => List.lt_irrefl _
theorem place_found {ns : List (List UInt8)} {key : List UInt8} (hr : Rises ns) (h : key ∈ ns) : place ns key < ns.length ∧ ns.getD (place ns key) [] = key := by
  obtain ⟨k, hk, e⟩ := (mem_iff_getD ns [] key).1 h
  subst e; rw [place_at hr hk]; exact ⟨hk, rfl⟩
theorem getD_map {α β : Type} (f : α → β) (l : List α) (k : Nat) (d : α) : (l.map f).getD k (f d) = f (l.getD k d) := by
  simp only [List.getD_eq_getElem?_getD, List.getElem?_map]; cases l[k]? <;> rfl
end Go.Proofs.Ytfnilhdofopoeaa
