/- Keep, Look and Tell of package client answer exactly what the document's functions answer, for every list of entries and notes. No condition. -/
import Derived.Test.YtecbkeddfjalcaaCk
import Derived.Test.YtecbkeddfjalcaaAvLaw
import Derived.Test.YtecbkeddfjalcaaRows
namespace Go.Proofs.Ytecbkeddfjalcaa.clientKeeps
open Go Go.RowKit Go.ChangeShapes Go.WideShapes Go.ChangeAt

theorem own : ownKnob Try.prog.godebug = none := by kernel_rfl

set_option maxRecDepth 100000 in
theorem lifted (os : Os) (started : os.Started) (H : Type) (enc : TypeId × Value → H) :
    ReturnsInHanded {} Try.checked os 4 .any (Rows.clientKeepsSpec.pre6 enc Try.prog Try.f4 Rows.clientKeepsRow.domain false) (Rows.clientKeepsSpec.post enc Try.prog Try.f4 false true false false) := by
  refine returnsInHanded_of_change_sized (C := Try.checked) own started (by kernel_rfl) Try.func4
    (ChangeSpec.witness6 (enc := enc) (C := Try.checked) false ⟨#[], #[.slice none 0 0, .string ⟨#[]⟩, .slice none 0 0], []⟩ 8 (by kernel_rfl) (by kernel_rfl) (by kernel_rfl) (by kernel_rfl)) ?_
  intro W base args ds gs before hval hW _ hwt _
  exact law_mid tabOk (by kernel_rfl) (m := 6) (by kernel_rfl) (by kernel_rfl) rfl Try.underlying4 rfl (fun ds h => by match ds, h with | [_, _, _], _ => rfl) clientKeeps_c hval hW hwt

theorem over : Rows.clientKeepsRow.holds Try.pinned (OpenSpec.ofChange Rows.clientKeepsSpec) :=
  OpenClaim.holds_of_wide 4 Try.f4 rfl rfl rfl rfl rfl rfl rfl ⟨rfl, rfl, rfl, rfl, rfl⟩ rfl rfl rfl rfl rfl (by kernel_rfl) Try.func4 (by kernel_rfl)
    (of_decide_eq_true (by kernel_rfl)) (by unfold Func.isWrapper; first | (rw [if_pos (by decide +kernel)]; kernel_rfl) | (rw [if_neg (by decide +kernel)]; exact ⟨rfl, rfl⟩))
    (fun os started H enc _ => lifted os started H enc)

/-- The statement. -/
theorem proved : Rows.ClientKeepsSaid :=
  over
#print axioms proved
end Go.Proofs.Ytecbkeddfjalcaa.clientKeeps
