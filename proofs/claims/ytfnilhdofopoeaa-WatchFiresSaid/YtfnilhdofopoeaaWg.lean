/- The law of watches that fire. No condition. -/
import Derived.Test.YtfnilhdofopoeaaWf
namespace Go.Proofs.Ytfnilhdofopoeaa
set_option linter.unusedVariables false
set_option linter.unusedSimpArgs false
open Go Go.RowKit
set_option maxRecDepth 100000
set_option linter.unusedSimpArgs false

theorem fire_one : fireW [⟨1, 1, [47]⟩] [⟨3, [47]⟩] = ([⟨1, ⟨3, [47]⟩⟩], []) := by decide +kernel
set_option maxHeartbeats 8000000 in
theorem watchFires_w (l : List AWatch) (es : List AEvent) (h : l.length * 32 ≤ 140737488351232) (he : es.length * 24 ≤ 140737488351232) : acall Try.prog [] 3 [.d (.sl 3 (l.map AWatch.row)), .d (.sl 2 (es.map AEvent.row))] (ret (B true)) := by
  have h0 := watches_c l h
  have h1 := fire_c l es h he
  have h2 := ref_fire_c l es h he
  have h3 := (fire_c [⟨1, 1, [47]⟩] [⟨3, [47]⟩] (by decide) (by decide)).re (congrArg (fun q : List ANote × List AWatch => AV.tup [.d (.sl 3 (q.1.map ANote.row)), .d (.sl 3 (q.2.map AWatch.row))]) fire_one)
  have hl := fire_len l es
  have h4 := (same_notes_c (fireW l es).1 (fireW l es).1 (by omega) (by omega)).re (congrArg B (decide_eq_true rfl))
  have h5 := (same_watches_c (fireW l es).2 (fireW l es).2 (by omega) (by omega)).re (congrArg B (decide_eq_true rfl))
  generalize fireW l es = q at h1 h2 h4 h5
  obtain ⟨a, p⟩ := q
  simp only at h1 h2 h4 h5
  refine zI Try.func3 rfl (by kernel_rfl) (by simp [Try.ntmps3]) ?_; simp only [Try.ntmps3, Try.results3, go_sem]
  (repeat' first
| (with_reducible refine AR.f ?_)
| refine blkA_x (by decide) ?_
| (with_reducible refine AWP.cond rfl ?_ ?_ <;> intro hc <;> (try simp only [hcs, beq_iff_eq, ge_iff_le, gt_iff_lt] at hc))
| ((first | ((first | (with_reducible first | refine zR ?_ | refine zQ (by decide +kernel) ?_ | refine zD (by decide +kernel) ?_ | refine zE (by decide +kernel) ?_ | refine zG (by decide +kernel) ?_)); intro K hK) | ((first | refine zA h1 ?_ ?_ ?_ ?_ ?_ | refine zA h2 ?_ ?_ ?_ ?_ ?_ | refine zA h3 ?_ ?_ ?_ ?_ ?_ | refine zA h4 ?_ ?_ ?_ ?_ ?_ | refine zA h5 ?_ ?_ ?_ ?_ ?_); (focus exact rfl); (focus exact rfl); iterate 2 (focus ((try simp (disch := omega) only [go_sem, wrap_n]) <;> (try omega) <;> fail))) | ((first | refine zN h0 rfl ?_ ?_ | refine zN h1 rfl ?_ ?_ | refine zN h2 rfl ?_ ?_ | refine zN h3 rfl ?_ ?_ | refine zY h0 ?_ ?_ | refine zX h2 rfl ?_ ?_ | refine zY h2 ?_ ?_ | refine zX h4 rfl ?_ ?_ | refine zX h5 rfl ?_ ?_); (focus ((try simp (disch := omega) only [go_sem, wrap_n]) <;> (try omega) <;> fail))) | ((first | refine zX h1 rfl ?_ ?_ | refine zY h1 ?_ ?_); (focus ((try simp (disch := omega) only [go_sem, wrap_n]) <;> (try omega) <;> fail))) | ((first | refine zX h3 rfl ?_ ?_ | refine zY h3 ?_ ?_); (focus ((try simp (disch := omega) only [go_sem, wrap_n]) <;> (try omega) <;> fail))) | ((first | (with_reducible refine aunder_i ?_ ?_ <;> intro hg) | with_reducible intro hg) <;> (first | (exfalso; simp at hg; done) | (have hg' := hg; (try simp only [hcs, beq_iff_eq, ge_iff_le, gt_iff_lt] at hg'); (try simp only [hg]))))) <;> (try simp (disch := omega) only [go_sem, wrap_n]) <;> (repeat' with_reducible refine And.intro ?_ ?_) <;> (try (with_reducible refine hK _ ?_; clear hK K)))
| omega)
  all_goals (refine zF rfl ?_ ?_ ?_ ?_; (iterate 3 (focus ((try simp (disch := omega) only [go_sem, wrap_n]) <;> (try omega) <;> fail))); (try simp (disch := omega) only [go_sem, wrap_n, I, B, S, zj]))
theorem watchFires_c (dss : List (List DV)) (h : typeds T 6 Try.f3.params.toList dss) : acall Try.prog [] 3 (aargs T Try.f3.params.toList dss) (fun v _ => v = B true) := by
  rw [Try.params3] at h ⊢
  simp only [List.toList_toArray, typeds] at h
  obtain ⟨c0, d0, rfl, h0, c1, d1, rfl, h1, rfl⟩ := h
  obtain ⟨l, rfl, v_l, w_l⟩ := ty_sl (m := 5) (e := 29) (sz := 3) (by_ := 32) (f := AWatch.row) (wf := AWatch.wf) (by simp only [T_22, ty22]) (by simp only [T_29, ty29]) (by simp only [T_29, ty29]) (fun r hr => AWatch_typed (m := 3) hr) h0
  obtain ⟨events, rfl, v_events, w_events⟩ := ty_sl (m := 5) (e := 31) (sz := 2) (by_ := 24) (f := AEvent.row) (wf := AEvent.wf) (by simp only [T_23, ty23]) (by simp only [T_31, ty31]) (by simp only [T_31, ty31]) (fun r hr => AEvent_typed (m := 3) hr) h1
  simp only [List.toList_toArray, aargs, aarg, TI.agg_mk, T_22, ty22, T_23, ty23]
  exact (watchFires_w l events v_l v_events).mono fun _ _ h => h.1
end Go.Proofs.Ytfnilhdofopoeaa
