/- Contracts of functions of Go's library that the program reaches and that end in a function without a body: comparing texts, finding a byte. No condition. -/
import Derived.Test.YtfnilhdofopoeabDoorMt
import Derived.Lib.Strings
import Derived.Lib.Slices
import Derived.Lib.Walk
import Derived.Lib.Bytealg
namespace Go.Proofs.YtfnilhdofopoeabDoor
set_option linter.unusedVariables false
set_option linter.unusedSimpArgs false
open Go Go.RowKit
set_option maxRecDepth 100000
set_option linter.unusedSimpArgs false

theorem SmallD.len {N : Nat} {l : List UInt8} (h : SmallD N (.str l)) : l.length ≤ N := by cases h; assumption
theorem SmallD.rows {N sz : Nat} {rs : List (List DV)} (h : SmallD N (.sl sz rs)) : rs.length ≤ N ∧ ∀ r, r ∈ rs → ∀ c, c ∈ r → SmallD N c := by cases h; exact ⟨by assumption, by assumption⟩
/-- A contract of the model's own form, for a function of scalars. -/
theorem acall_of_calls {P : Program} {g : FuncId} {xs : List AV} {x : AV} {us : List Value} {u : Value} (hg : goFn P g) (hxs : scalL xs = some us) (hx : scalV x = some u)
    (h : ∀ w : World, Calls P g us.toArray w fun e w' => e = .returned u ∧ w' = w) : acall P [] g xs (ret x) := by
  refine ⟨hg, fun E w vs hw hH hvs => ?_⟩
  have e : vs = us := by
    obtain ⟨h1, h2⟩ := scalL_get hxs
    refine List.ext_getElem? fun j => ?_
    by_cases hj : j < xs.length
    · obtain ⟨u', hu, hs⟩ := h2 j _ (List.getElem?_eq_getElem hj)
      have hv : vs[j]? = some (vs[j]'(by rw [hvs.1]; exact hj)) := List.getElem?_eq_getElem _
      rw [hv, hu, scal_eq (hvs.2 j _ _ (List.getElem?_eq_getElem hj) hv) u' hs]
    · rw [List.getElem?_eq_none (by rw [hvs.1]; omega), List.getElem?_eq_none (by omega)]
  subst e
  refine (h w).mono fun e w' ⟨h1, h2⟩ => ?_
  subst h2
  refine ⟨u, x, [], [], h1, ⟨rfl, rfl⟩, ?_, fun k p hk => ?_, scal_rep x u hx⟩
  · have h0 : E.ρ0 = [] := List.eq_nil_of_length_eq_zero (by rw [hH.len]; rfl)
    rw [h0] at hH; exact hH
  · have h0 : E.ρ0 = [] := List.eq_nil_of_length_eq_zero (by rw [hH.len]; rfl)
    rw [h0] at hk; exact hk

end Go.Proofs.YtfnilhdofopoeabDoor
