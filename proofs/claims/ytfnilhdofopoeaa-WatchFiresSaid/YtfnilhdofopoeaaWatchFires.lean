/- For all watches and events, package watch fires exactly the notes that the document says, and keeps exactly the watches. No condition. -/
import Derived.Test.YtfnilhdofopoeaaWg
import Derived.Test.YtfnilhdofopoeaaAvLaw
import Derived.Test.YtfnilhdofopoeaaRows
namespace Go.Proofs.Ytfnilhdofopoeaa.watchFires
open Go Go.RowKit Go.ChangeShapes Go.WideShapes Go.ChangeAt

theorem own : ownKnob Try.prog.godebug = none := by kernel_rfl

set_option maxRecDepth 100000 in
theorem lifted (os : Os) (started : os.Started) (H : Type) (enc : TypeId × Value → H) :
    ReturnsInHanded {} Try.checked os 3 .any (Rows.watchFiresSpec.pre6 enc Try.prog Try.f3 Rows.watchFiresRow.domain false) (Rows.watchFiresSpec.post enc Try.prog Try.f3 false true false false) := by
  refine returnsInHanded_of_change_sized (C := Try.checked) own started (by kernel_rfl) Try.func3
    (ChangeSpec.witness6 (enc := enc) (C := Try.checked) false ⟨#[], #[.slice none 0 0, .slice none 0 0], []⟩ 8 (by kernel_rfl) (by kernel_rfl) (by kernel_rfl) (by kernel_rfl)) ?_
  intro W base args ds gs before hval hW _ hwt _
  exact law_mid tabOk (by kernel_rfl) (m := 6) (by kernel_rfl) (by kernel_rfl) rfl Try.underlying4 rfl (fun ds h => by match ds, h with | [_, _], _ => rfl) watchFires_c (fun p hp => by simp [tabs] at hp) hval hW hwt

theorem over : Rows.watchFiresRow.holds Try.pinned (OpenSpec.ofChange Rows.watchFiresSpec) :=
  OpenClaim.holds_of_wide 3 Try.f3 rfl rfl rfl rfl rfl rfl rfl ⟨rfl, rfl, rfl, rfl, rfl⟩ rfl rfl rfl rfl rfl (by kernel_rfl) Try.func3 (by kernel_rfl)
    (of_decide_eq_true (by kernel_rfl)) (by unfold Func.isWrapper; first | (rw [if_pos (by decide +kernel)]; kernel_rfl) | (rw [if_neg (by decide +kernel)]; exact ⟨rfl, rfl⟩))
    (fun os started H enc _ => lifted os started H enc)

/-- The statement. -/
theorem proved : Rows.WatchFiresSaid :=
  over
#print axioms proved
end Go.Proofs.Ytfnilhdofopoeaa.watchFires
