/- For every text, Sum of package wire is exactly what the document's Sum is. No condition. -/
import Derived.Test.YtplgghpnijmllaaWs
import Derived.Test.YtplgghpnijmllaaAvLaw
import Derived.Test.YtplgghpnijmllaaRows
namespace Go.Proofs.Ytplgghpnijmllaa.wireSums
open Go Go.RowKit Go.ChangeShapes Go.WideShapes Go.ChangeAt

theorem own : ownKnob Try.prog.godebug = none := by kernel_rfl

set_option maxRecDepth 100000 in
theorem lifted (os : Os) (started : os.Started) (H : Type) (enc : TypeId × Value → H) :
    ReturnsInHanded {} Try.checked os 5 .any (Rows.wireSumsSpec.pre6 enc Try.prog Try.f5 Rows.wireSumsRow.domain false) (Rows.wireSumsSpec.post enc Try.prog Try.f5 false true false false) := by
  refine returnsInHanded_of_change_sized (C := Try.checked) own started (by kernel_rfl) Try.func5
    (ChangeSpec.witness6 (enc := enc) (C := Try.checked) false ⟨#[], #[.string ⟨#[]⟩], []⟩ 8 (by kernel_rfl) (by kernel_rfl) (by kernel_rfl) (by kernel_rfl)) ?_
  intro W base args ds gs before hval hW _ hwt _
  exact law_mid tabOk (by kernel_rfl) (m := 6) (by kernel_rfl) (by kernel_rfl) rfl Try.underlying4 rfl (fun ds h => by match ds, h with | [_], _ => rfl) wireSums_c hval hW hwt

theorem over : Rows.wireSumsRow.holds Try.pinned (OpenSpec.ofChange Rows.wireSumsSpec) :=
  OpenClaim.holds_of_wide 5 Try.f5 rfl rfl rfl rfl rfl rfl rfl ⟨rfl, rfl, rfl, rfl, rfl⟩ rfl rfl rfl rfl rfl (by kernel_rfl) Try.func5 (by kernel_rfl)
    (of_decide_eq_true (by kernel_rfl)) (by unfold Func.isWrapper; first | (rw [if_pos (by decide +kernel)]; kernel_rfl) | (rw [if_neg (by decide +kernel)]; exact ⟨rfl, rfl⟩))
    (fun os started H enc _ => lifted os started H enc)

/-- The statement. -/
theorem proved : Rows.WireSumsSaid :=
  over
#print axioms proved
end Go.Proofs.Ytplgghpnijmllaa.wireSums
