/- The law of a number's parts and its text. No condition. -/
import Derived.Test.YtfnilhdofopoeabDoorZt
namespace Go.Proofs.YtfnilhdofopoeabDoor
set_option linter.unusedVariables false
set_option linter.unusedSimpArgs false
open Go Go.RowKit
set_option maxRecDepth 100000
set_option linter.unusedSimpArgs false

set_option maxHeartbeats 8000000 in
theorem zxidParts_w (z : Int) (hz : okI z) : acall Tryd.prog [] 3 [I z] (ret (B true)) := by
  have h1 := text_z_c z
  have h2 := ref_text_z_c z hz
  have h3 := zgood_c z
  have h4 := ref_zgood_c z hz
  have h5 := epoch_c z
  have h6 := ref_epoch_c z hz
  have h7 := count_c z
  have h8 := ref_count_c z hz
  have h9 := (count_c 5).re (congrArg I (show coZ 5 = 5 by decide))
  generalize textZ z = q at h1 h2
  obtain ⟨a, e⟩ := q
  simp only at h1 h2
  refine zI Tryd.func3 rfl (by kernel_rfl) (by simp [Tryd.ntmps3]) ?_; simp only [Tryd.ntmps3, Tryd.results3, go_sem]
  (repeat' first
| (with_reducible refine AR.f ?_)
| refine blkA_x (by decide) ?_
| (with_reducible refine AWP.cond rfl ?_ ?_ <;> intro hc <;> (try simp only [hcs, beq_iff_eq, ge_iff_le, gt_iff_lt] at hc))
| ((first | ((first | (with_reducible first | refine zR ?_ | refine zQ (by decide +kernel) ?_ | refine zD (by decide +kernel) ?_ | refine zE (by decide +kernel) ?_ | refine zG (by decide +kernel) ?_)); intro K hK) | ((first | refine zA h1 ?_ ?_ ?_ ?_ ?_ | refine zA h2 ?_ ?_ ?_ ?_ ?_ | refine zA h3 ?_ ?_ ?_ ?_ ?_ | refine zA h4 ?_ ?_ ?_ ?_ ?_ | refine zA h5 ?_ ?_ ?_ ?_ ?_ | refine zA h6 ?_ ?_ ?_ ?_ ?_ | refine zA h9 ?_ ?_ ?_ ?_ ?_ | refine zA h7 ?_ ?_ ?_ ?_ ?_ | refine zA h8 ?_ ?_ ?_ ?_ ?_); (focus exact rfl); (focus exact rfl); iterate 2 (focus ((try simp (disch := omega) only [go_sem, wrap_n]) <;> (try omega) <;> fail))) | ((first | refine zX h1 rfl ?_ ?_ | refine zX h2 rfl ?_ ?_ | refine zX h3 rfl ?_ ?_ | refine zX h4 rfl ?_ ?_ | refine zX h5 rfl ?_ ?_ | refine zX h6 rfl ?_ ?_ | refine zX h8 rfl ?_ ?_); (focus ((try simp (disch := omega) only [go_sem, wrap_n]) <;> (try omega) <;> fail))) | ((first | refine zX h9 rfl ?_ ?_); (focus ((try simp (disch := omega) only [go_sem, wrap_n]) <;> (try omega) <;> fail))) | ((first | refine zX h7 rfl ?_ ?_); (focus ((try simp (disch := omega) only [go_sem, wrap_n]) <;> (try omega) <;> fail))) | ((first | (with_reducible refine aunder_i ?_ ?_ <;> intro hg) | with_reducible intro hg) <;> (first | (exfalso; simp at hg; done) | (have hg' := hg; (try simp only [hcs, beq_iff_eq, ge_iff_le, gt_iff_lt] at hg'); (try simp only [hg]))))) <;> (try simp (disch := omega) only [go_sem, wrap_n]) <;> (repeat' with_reducible refine And.intro ?_ ?_) <;> (try (with_reducible refine hK _ ?_; clear hK K)))
| omega)
  all_goals first | (exfalso; simp_all; done) | skip
  all_goals (refine zF rfl ?_ ?_ ?_ ?_; (iterate 3 (focus ((try simp (disch := omega) only [go_sem, wrap_n]) <;> (try omega) <;> fail))); (try simp (disch := omega) only [go_sem, wrap_n, I, B, S, zj]))
theorem zxidParts_c (dss : List (List DV)) (h : typeds T 6 Tryd.f3.params.toList dss) : acall Tryd.prog [] 3 (aargs T Tryd.f3.params.toList dss) (fun v _ => v = B true) := by
  rw [Tryd.params3] at h ⊢
  simp only [List.toList_toArray, typeds] at h
  obtain ⟨c0, d0, rfl, h0, rfl⟩ := h
  obtain ⟨z, rfl, w_z⟩ := ty_int (m := 5) (by simp only [T_3, ty3]) h0
  simp only [List.toList_toArray, aargs, aarg, TI.agg_mk, T_3, ty3]
  exact (zxidParts_w z w_z).mono fun _ _ h => h.1
end Go.Proofs.YtfnilhdofopoeabDoor
