/- For every text, Read answers the document's two numbers. No condition. -/
import Derived.Test.YtplgghpnijmllaaZr
import Derived.Test.YtplgghpnijmllaaAvLaw
import Derived.Test.YtplgghpnijmllaaRows
namespace Go.Proofs.Ytplgghpnijmllaa.zxidReads
open Go Go.RowKit Go.ChangeShapes Go.WideShapes Go.ChangeAt

theorem own : ownKnob Try.prog.godebug = none := by kernel_rfl

set_option maxRecDepth 100000 in
theorem lifted (os : Os) (started : os.Started) (H : Type) (enc : TypeId × Value → H) :
    ReturnsInHanded {} Try.checked os 14 .any (Rows.zxidReadsSpec.pre6 enc Try.prog Try.f14 Rows.zxidReadsRow.domain false) (Rows.zxidReadsSpec.post enc Try.prog Try.f14 false true false false) := by
  refine returnsInHanded_of_change_sized (C := Try.checked) own started (by kernel_rfl) Try.func14
    (ChangeSpec.witness6 (enc := enc) (C := Try.checked) false ⟨#[], #[.string ⟨#[]⟩], []⟩ 8 (by kernel_rfl) (by kernel_rfl) (by kernel_rfl) (by kernel_rfl)) ?_
  intro W base args ds gs before hval hW _ hwt _
  exact law_mid tabOk (by kernel_rfl) (m := 6) (by kernel_rfl) (by kernel_rfl) rfl Try.underlying4 rfl (fun ds h => by match ds, h with | [_], _ => rfl) zxidReads_c hval hW hwt

theorem over : Rows.zxidReadsRow.holds Try.pinned (OpenSpec.ofChange Rows.zxidReadsSpec) :=
  OpenClaim.holds_of_wide 14 Try.f14 rfl rfl rfl rfl rfl rfl rfl ⟨rfl, rfl, rfl, rfl, rfl⟩ rfl rfl rfl rfl rfl (by kernel_rfl) Try.func14 (by kernel_rfl)
    (of_decide_eq_true (by kernel_rfl)) (by unfold Func.isWrapper; first | (rw [if_pos (by decide +kernel)]; kernel_rfl) | (rw [if_neg (by decide +kernel)]; exact ⟨rfl, rfl⟩))
    (fun os started H enc _ => lifted os started H enc)

/-- The statement. -/
theorem proved : Rows.ZxidReadsSaid :=
  over
#print axioms proved
end Go.Proofs.Ytplgghpnijmllaa.zxidReads
