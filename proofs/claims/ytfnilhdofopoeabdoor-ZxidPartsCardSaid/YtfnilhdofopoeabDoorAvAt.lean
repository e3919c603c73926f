/- The library's calls that are handed pointers to the caller's own blocks. No condition. -/
import Derived.Test.YtfnilhdofopoeabDoorAvIn
namespace Go.Proofs.YtfnilhdofopoeabDoor
set_option linter.unusedVariables false
set_option linter.unusedSimpArgs false
open Go

/-- A call that is handed the caller's own blocks m, and gives them back as they are then. -/
theorem acallH_at (m : List Nat) {P : Program} {np : Nat} {hp : List ABlk} {g : FuncId} {xs : List AV} {K : AV → List ABlk → Prop} {t : Tok K} {chp bl : List ABlk} {cargs : List AV} {x : AV} (c : acall P chp g cargs (outs x bl))
    (exs : renL (mAt m hp.length) cargs = xs) (h : chp.length = m.length ∧ m.Nodup ∧ (∀ i, i ∈ m → i < hp.length) ∧ inL m.length cargs ∧ hpLe (mAt m hp.length) m.length hp 0 chp)
    (hK : K (renV (renm m hp.length) x) (putAll (renm m hp.length) hp m bl ++ renBs (renm m hp.length) (bl.drop m.length))) : acallHK P np hp g xs K t := by
  have := acallH_ptr (hp := hp) (K := K) m c h.1 h.2.1 h.2.2.1 h.2.2.2.1 h.2.2.2.2 (fun v hp' hR => by
    obtain ⟨rfl, rfl⟩ := hR
    exact hK)
  rw [exs] at this
  exact acallHK_of this
end Go.Proofs.YtfnilhdofopoeabDoor
