/- Contracts of recipe.Ready and its reference, and the law. No condition. -/
import Derived.Test.YtmpfhalheaeibaaDoorTl
import Derived.Test.YtmpfhalheaeibaaDoorRc
namespace Go.Proofs.YtmpfhalheaeibaaDoor
set_option linter.unusedVariables false
set_option linter.unusedSimpArgs false
open Go Go.RowKit
set_option maxRecDepth 100000
set_option linter.unusedSimpArgs false

def readyT (t : ATree) (dir : List UInt8) (many : Int) : Bool × Int := if many < 0 ∨ 64 < many then (false, 3) else if (kidsT t dir).2 = 0 then (decide (many ≤ ((kidsT t dir).1.length : Int)), 0) else (false, (kidsT t dir).2)
theorem ready_c (t : ATree) (dir : List UInt8) (many : Int) (hw : t.wf) (hr : Rises (pathsT t)) : acall Tryd.prog [] 43 [t.av, S dir, I many] (ret (.tup [B (readyT t dir many).1, I (readyT t dir many).2])) := by
  refine acall_of tabOk Tryd.func43 rfl (by kernel_rfl) (by simp [Tryd.ntmps43]) ?_; simp only [Tryd.ntmps43, Tryd.results43, List.toList_toArray, apar, List.length_nil, List.length_cons, Nat.reduceAdd]
  repeat' first
    | (with_reducible first | refine AWP.seq ?_ | refine thenA_n ?_ | refine thenA_r ?_ | refine thenA_e ?_ | refine blkA_n ?_ | refine blkA_r ?_ | refine blkA_e ?_ | refine blkA_x (by decide) ?_ | refine AWP.skip ?_ | refine AWP.ret ?_ | refine AWP.exit ?_ | refine AWP.block ?_)
    | (with_reducible refine AWP.cond rfl ?_ ?_ <;> intro hc <;> (try simp only [hcs, beq_iff_eq, ge_iff_le, gt_iff_lt] at hc))
    | ((first
      | (with_reducible first | refine AWP.region tabOk ?_ | refine AWP.quietC mixed tabOk (by decide +kernel) ?_ | refine AWP.draw mixed tabOk (by decide +kernel) ?_ | refine AWP.drawE mixed tabOk (by decide +kernel) ?_ | refine AWP.drawG mixed tabOk (by decide +kernel) ?_); intro K hK
      | ((first | refine acallH_sc (kids_c t dir hw hr) rfl rfl ?_ ?_ ?_ | refine acallQ_sc (kids_c t dir hw hr) rfl rfl ?_ ?_ ?_); iterate 2 (focus ((try simp (disch := omega) only [go_sem, wrap_n]) <;> (try omega) <;> fail)))
      | ((first | refine acallH_anyr (kids_c t dir hw hr) rfl ?_ ?_); (focus ((try simp (disch := omega) only [go_sem, wrap_n]) <;> (try omega) <;> fail)))
      | ((first | refine acallH_scx (kids_c t dir hw hr) rfl ?_ ?_ | refine acallQ_scx (kids_c t dir hw hr) rfl ?_ ?_ | refine acallH_anyx (kids_c t dir hw hr) ?_ ?_); (focus ((try simp (disch := omega) only [go_sem, wrap_n]) <;> (try omega) <;> fail)))); ((try simp (disch := omega) only [go_sem, wrap_n]) <;> (repeat' with_reducible refine And.intro ?_ ?_) <;> (try (with_reducible refine hK _ ?_; clear hK K))))
    | ((first | (with_reducible refine aunder_i ?_ ?_ <;> intro hg) | with_reducible intro hg) <;> (first | (exfalso; simp at hg; done) | (have hg' := hg; (try simp only [hcs, beq_iff_eq, ge_iff_le, gt_iff_lt] at hg'); ((try simp (disch := omega) only [hg, go_sem, wrap_n]) <;> (repeat' with_reducible refine And.intro ?_ ?_) <;> (try (with_reducible refine hK _ ?_; clear hK K))))))
                                                            | omega
  · unfold readyT; rw [if_pos (by assumption)]; (refine aend_retc ?_ rfl ?_ ?_ ?_ ?_; (focus (first | exact .inl rfl | exact .inr rfl)); (iterate 3 (focus ((try simp (disch := omega) only [go_sem, wrap_n]) <;> (try omega) <;> fail))); (try simp (disch := omega) only [go_sem, wrap_n, I, B, S, inj, List.cons.injEq, and_true, true_and, and_self]))
  · unfold readyT; rw [if_neg (by omega), if_neg (by assumption)]; (refine aend_retc ?_ rfl ?_ ?_ ?_ ?_; (focus (first | exact .inl rfl | exact .inr rfl)); (iterate 3 (focus ((try simp (disch := omega) only [go_sem, wrap_n]) <;> (try omega) <;> fail))); (try simp (disch := omega) only [go_sem, wrap_n, I, B, S, inj, List.cons.injEq, and_true, true_and, and_self]))
  · unfold readyT; rw [if_neg (by omega), if_pos (by assumption)]; (refine aend_retc ?_ rfl ?_ ?_ ?_ ?_; (focus (first | exact .inl rfl | exact .inr rfl)); (iterate 3 (focus ((try simp (disch := omega) only [go_sem, wrap_n]) <;> (try omega) <;> fail))); (try simp (disch := omega) only [go_sem, wrap_n, I, B, S, inj, List.cons.injEq, and_true, true_and, and_self]))
theorem ref_ready_c (t : ATree) (dir : List UInt8) (many : Int) (hw : t.wf) (hp : ∀ x, x ∈ t.nodes → x.path.length ≤ 1048576) (hr : Rises (pathsT t)) : acall Tryd.prog [] 44 [t.av, S dir, I many] (ret (.tup [B (readyT t dir many).1, I (readyT t dir many).2])) := by
  refine acall_of tabOk Tryd.func44 rfl (by kernel_rfl) (by simp [Tryd.ntmps44]) ?_; simp only [Tryd.ntmps44, Tryd.results44, List.toList_toArray, apar, List.length_nil, List.length_cons, Nat.reduceAdd]
  repeat' first
    | (with_reducible first | refine AWP.seq ?_ | refine thenA_n ?_ | refine thenA_r ?_ | refine thenA_e ?_ | refine blkA_n ?_ | refine blkA_r ?_ | refine blkA_e ?_ | refine blkA_x (by decide) ?_ | refine AWP.skip ?_ | refine AWP.ret ?_ | refine AWP.exit ?_ | refine AWP.block ?_)
    | (with_reducible refine AWP.cond rfl ?_ ?_ <;> intro hc <;> (try simp only [hcs, beq_iff_eq, ge_iff_le, gt_iff_lt] at hc))
    | ((first
      | (with_reducible first | refine AWP.region tabOk ?_ | refine AWP.quietC mixed tabOk (by decide +kernel) ?_ | refine AWP.draw mixed tabOk (by decide +kernel) ?_ | refine AWP.drawE mixed tabOk (by decide +kernel) ?_ | refine AWP.drawG mixed tabOk (by decide +kernel) ?_); intro K hK
      | ((first | refine acallH_sc (kidsOf_c t dir hw hp hr) rfl rfl ?_ ?_ ?_ | refine acallQ_sc (kidsOf_c t dir hw hp hr) rfl rfl ?_ ?_ ?_); iterate 2 (focus ((try simp (disch := omega) only [go_sem, wrap_n]) <;> (try omega) <;> fail)))
      | ((first | refine acallH_anyr (kidsOf_c t dir hw hp hr) rfl ?_ ?_); (focus ((try simp (disch := omega) only [go_sem, wrap_n]) <;> (try omega) <;> fail)))
      | ((first | refine acallH_scx (kidsOf_c t dir hw hp hr) rfl ?_ ?_ | refine acallQ_scx (kidsOf_c t dir hw hp hr) rfl ?_ ?_ | refine acallH_anyx (kidsOf_c t dir hw hp hr) ?_ ?_); (focus ((try simp (disch := omega) only [go_sem, wrap_n]) <;> (try omega) <;> fail)))); ((try simp (disch := omega) only [go_sem, wrap_n]) <;> (repeat' with_reducible refine And.intro ?_ ?_) <;> (try (with_reducible refine hK _ ?_; clear hK K))))
    | ((first | (with_reducible refine aunder_i ?_ ?_ <;> intro hg) | with_reducible intro hg) <;> (first | (exfalso; simp at hg; done) | (have hg' := hg; (try simp only [hcs, beq_iff_eq, ge_iff_le, gt_iff_lt] at hg'); ((try simp (disch := omega) only [hg, go_sem, wrap_n]) <;> (repeat' with_reducible refine And.intro ?_ ?_) <;> (try (with_reducible refine hK _ ?_; clear hK K))))))
                                                            | omega
  · unfold readyT; rw [if_pos (by assumption)]; (refine aend_retc ?_ rfl ?_ ?_ ?_ ?_; (focus (first | exact .inl rfl | exact .inr rfl)); (iterate 3 (focus ((try simp (disch := omega) only [go_sem, wrap_n]) <;> (try omega) <;> fail))); (try simp (disch := omega) only [go_sem, wrap_n, I, B, S, inj, List.cons.injEq, and_true, true_and, and_self]))
  · unfold readyT; rw [if_neg (by omega)]
    by_cases h0 : (kidsT t dir).2 = 0
    · rw [if_pos h0, h0]; (refine aend_retc ?_ rfl ?_ ?_ ?_ ?_; (focus (first | exact .inl rfl | exact .inr rfl)); (iterate 3 (focus ((try simp (disch := omega) only [go_sem, wrap_n]) <;> (try omega) <;> fail))); (try simp (disch := omega) only [go_sem, wrap_n, I, B, S, inj, List.cons.injEq, and_true, true_and, and_self]))
    · rw [if_neg h0]; (refine aend_retc ?_ rfl ?_ ?_ ?_ ?_; (focus (first | exact .inl rfl | exact .inr rfl)); (iterate 3 (focus ((try simp (disch := omega) only [go_sem, wrap_n]) <;> (try omega) <;> fail))); (try simp (disch := omega) only [go_sem, wrap_n, I, B, S, inj, List.cons.injEq, and_true, true_and, and_self]))
      simp [h0]
set_option maxHeartbeats 4000000 in
theorem recipeReady_w (t : ATree) (dir : List UInt8) (many : Int) (hw : t.wf) (hp : ∀ x, x ∈ t.nodes → x.path.length ≤ 1048576) : acall Tryd.prog [] 8 [t.av, S dir, I many] (ret (B true)) := by
  by_cases hg : goodTr t = true
  · have hr := good_rises hg
    refine acall_of tabOk Tryd.func8 rfl (by kernel_rfl) (by simp [Tryd.ntmps8]) ?_; simp only [Tryd.ntmps8, Tryd.results8, List.toList_toArray, apar, List.length_nil, List.length_cons, Nat.reduceAdd]
    repeat' first
      | (with_reducible first | refine AWP.seq ?_ | refine thenA_n ?_ | refine thenA_r ?_ | refine thenA_e ?_ | refine blkA_n ?_ | refine blkA_r ?_ | refine blkA_e ?_ | refine blkA_x (by decide) ?_ | refine AWP.skip ?_ | refine AWP.ret ?_ | refine AWP.exit ?_ | refine AWP.block ?_)
      | (with_reducible refine AWP.cond rfl ?_ ?_ <;> intro hc <;> (try simp only [hcs, beq_iff_eq, ge_iff_le, gt_iff_lt] at hc))
      | ((first
        | (with_reducible first | refine AWP.region tabOk ?_ | refine AWP.quietC mixed tabOk (by decide +kernel) ?_ | refine AWP.draw mixed tabOk (by decide +kernel) ?_ | refine AWP.drawE mixed tabOk (by decide +kernel) ?_ | refine AWP.drawG mixed tabOk (by decide +kernel) ?_); intro K hK
        | ((first | refine acallH_sc ((ref_tgood_c t hw hp).re (congrArg B hg)) rfl rfl ?_ ?_ ?_ | refine acallQ_sc ((ref_tgood_c t hw hp).re (congrArg B hg)) rfl rfl ?_ ?_ ?_ | refine acallH_sc (copyT_c t hw) rfl rfl ?_ ?_ ?_ | refine acallQ_sc (copyT_c t hw) rfl rfl ?_ ?_ ?_ | refine acallH_sc (ready_c t dir many hw hr) rfl rfl ?_ ?_ ?_ | refine acallQ_sc (ready_c t dir many hw hr) rfl rfl ?_ ?_ ?_ | refine acallH_sc (ref_ready_c t dir many hw hp hr) rfl rfl ?_ ?_ ?_ | refine acallQ_sc (ref_ready_c t dir many hw hp hr) rfl rfl ?_ ?_ ?_ | refine acallH_sc (locks_c) rfl rfl ?_ ?_ ?_ | refine acallQ_sc (locks_c) rfl rfl ?_ ?_ ?_); iterate 2 (focus ((try simp (disch := omega) only [go_sem, wrap_n]) <;> (try omega) <;> fail)))
        | ((first | refine acallH_anyr ((ref_tgood_c t hw hp).re (congrArg B hg)) rfl ?_ ?_ | refine acallH_anyr (copyT_c t hw) rfl ?_ ?_ | refine acallH_anyr (ready_c t dir many hw hr) rfl ?_ ?_ | refine acallH_anyr (ref_ready_c t dir many hw hp hr) rfl ?_ ?_ | refine acallH_anyr (locks_c) rfl ?_ ?_); (focus ((try simp (disch := omega) only [go_sem, wrap_n]) <;> (try omega) <;> fail)))
        | ((first | refine acallH_scx ((ref_tgood_c t hw hp).re (congrArg B hg)) rfl ?_ ?_ | refine acallQ_scx ((ref_tgood_c t hw hp).re (congrArg B hg)) rfl ?_ ?_ | refine acallH_anyx ((ref_tgood_c t hw hp).re (congrArg B hg)) ?_ ?_); (focus ((try simp (disch := omega) only [go_sem, wrap_n]) <;> (try omega) <;> fail)))
        | ((first | refine acallH_scx (copyT_c t hw) rfl ?_ ?_ | refine acallQ_scx (copyT_c t hw) rfl ?_ ?_ | refine acallH_anyx (copyT_c t hw) ?_ ?_); (focus ((try simp (disch := omega) only [go_sem, wrap_n]) <;> (try omega) <;> fail)))
        | ((first | refine acallH_scx (ready_c t dir many hw hr) rfl ?_ ?_ | refine acallQ_scx (ready_c t dir many hw hr) rfl ?_ ?_ | refine acallH_anyx (ready_c t dir many hw hr) ?_ ?_); (focus ((try simp (disch := omega) only [go_sem, wrap_n]) <;> (try omega) <;> fail)))
        | ((first | refine acallH_scx (ref_ready_c t dir many hw hp hr) rfl ?_ ?_ | refine acallQ_scx (ref_ready_c t dir many hw hp hr) rfl ?_ ?_ | refine acallH_anyx (ref_ready_c t dir many hw hp hr) ?_ ?_); (focus ((try simp (disch := omega) only [go_sem, wrap_n]) <;> (try omega) <;> fail)))
        | ((first | refine acallH_scx (locks_c) rfl ?_ ?_ | refine acallQ_scx (locks_c) rfl ?_ ?_ | refine acallH_anyx (locks_c) ?_ ?_); (focus ((try simp (disch := omega) only [go_sem, wrap_n]) <;> (try omega) <;> fail)))); ((try simp (disch := omega) only [go_sem, wrap_n]) <;> (repeat' with_reducible refine And.intro ?_ ?_) <;> (try (with_reducible refine hK _ ?_; clear hK K))))
      | ((first | (with_reducible refine aunder_i ?_ ?_ <;> intro hg) | with_reducible intro hg) <;> (first | (exfalso; simp at hg; done) | (have hg' := hg; (try simp only [hcs, beq_iff_eq, ge_iff_le, gt_iff_lt] at hg'); ((try simp (disch := omega) only [hg, go_sem, wrap_n]) <;> (repeat' with_reducible refine And.intro ?_ ?_) <;> (try (with_reducible refine hK _ ?_; clear hK K))))))
                                                              | omega
    all_goals (refine aend_retc ?_ rfl ?_ ?_ ?_ ?_; (focus (first | exact .inl rfl | exact .inr rfl)); (iterate 3 (focus ((try simp (disch := omega) only [go_sem, wrap_n]) <;> (try omega) <;> fail))); (try simp (disch := omega) only [go_sem, wrap_n, I, B, S, inj, List.cons.injEq, and_true, true_and, and_self]))
  · have hg2 : goodTr t = false := by simpa using hg
    refine acall_of tabOk Tryd.func8 rfl (by kernel_rfl) (by simp [Tryd.ntmps8]) ?_; simp only [Tryd.ntmps8, Tryd.results8, List.toList_toArray, apar, List.length_nil, List.length_cons, Nat.reduceAdd]
    repeat' first
      | (with_reducible first | refine AWP.seq ?_ | refine thenA_n ?_ | refine thenA_r ?_ | refine thenA_e ?_ | refine blkA_n ?_ | refine blkA_r ?_ | refine blkA_e ?_ | refine blkA_x (by decide) ?_ | refine AWP.skip ?_ | refine AWP.ret ?_ | refine AWP.exit ?_ | refine AWP.block ?_)
      | (with_reducible refine AWP.cond rfl ?_ ?_ <;> intro hc <;> (try simp only [hcs, beq_iff_eq, ge_iff_le, gt_iff_lt] at hc))
      | ((first
        | (with_reducible first | refine AWP.region tabOk ?_ | refine AWP.quietC mixed tabOk (by decide +kernel) ?_ | refine AWP.draw mixed tabOk (by decide +kernel) ?_ | refine AWP.drawE mixed tabOk (by decide +kernel) ?_ | refine AWP.drawG mixed tabOk (by decide +kernel) ?_); intro K hK
        | ((first | refine acallH_sc ((ref_tgood_c t hw hp).re (congrArg B hg2)) rfl rfl ?_ ?_ ?_ | refine acallQ_sc ((ref_tgood_c t hw hp).re (congrArg B hg2)) rfl rfl ?_ ?_ ?_ | refine acallH_sc (locks_c) rfl rfl ?_ ?_ ?_ | refine acallQ_sc (locks_c) rfl rfl ?_ ?_ ?_); iterate 2 (focus ((try simp (disch := omega) only [go_sem, wrap_n]) <;> (try omega) <;> fail)))
        | ((first | refine acallH_anyr ((ref_tgood_c t hw hp).re (congrArg B hg2)) rfl ?_ ?_ | refine acallH_anyr (locks_c) rfl ?_ ?_); (focus ((try simp (disch := omega) only [go_sem, wrap_n]) <;> (try omega) <;> fail)))
        | ((first | refine acallH_scx ((ref_tgood_c t hw hp).re (congrArg B hg2)) rfl ?_ ?_ | refine acallQ_scx ((ref_tgood_c t hw hp).re (congrArg B hg2)) rfl ?_ ?_ | refine acallH_anyx ((ref_tgood_c t hw hp).re (congrArg B hg2)) ?_ ?_); (focus ((try simp (disch := omega) only [go_sem, wrap_n]) <;> (try omega) <;> fail)))
        | ((first | refine acallH_scx (locks_c) rfl ?_ ?_ | refine acallQ_scx (locks_c) rfl ?_ ?_ | refine acallH_anyx (locks_c) ?_ ?_); (focus ((try simp (disch := omega) only [go_sem, wrap_n]) <;> (try omega) <;> fail)))); ((try simp (disch := omega) only [go_sem, wrap_n]) <;> (repeat' with_reducible refine And.intro ?_ ?_) <;> (try (with_reducible refine hK _ ?_; clear hK K))))
      | ((first | (with_reducible refine aunder_i ?_ ?_ <;> intro hg) | with_reducible intro hg) <;> (first | (exfalso; simp at hg; done) | (have hg' := hg; (try simp only [hcs, beq_iff_eq, ge_iff_le, gt_iff_lt] at hg'); ((try simp (disch := omega) only [hg, go_sem, wrap_n]) <;> (repeat' with_reducible refine And.intro ?_ ?_) <;> (try (with_reducible refine hK _ ?_; clear hK K))))))
                                                              | omega
    all_goals (refine aend_retc ?_ rfl ?_ ?_ ?_ ?_; (focus (first | exact .inl rfl | exact .inr rfl)); (iterate 3 (focus ((try simp (disch := omega) only [go_sem, wrap_n]) <;> (try omega) <;> fail))); (try simp (disch := omega) only [go_sem, wrap_n, I, B, S, inj, List.cons.injEq, and_true, true_and, and_self]))
theorem recipeReady_u (dss : List (List DV)) (h : typeds T 6 Tryd.f8.params.toList dss) (hs : ∀ cs, cs ∈ dss → ∀ c, c ∈ cs → SmallD 1048576 c) : acall Tryd.prog [] 8 (aargs T Tryd.f8.params.toList dss) (fun v _ => v = B true) := by
  rw [Tryd.params8] at h ⊢
  simp only [List.toList_toArray, typeds] at h
  obtain ⟨c0, d0, rfl, h0, c1, d1, rfl, h1, c2, d2, rfl, h2, rfl⟩ := h
  have s0 := hs c0 (by simp)
  have s1 := hs c1 (by simp)
  have s2 := hs c2 (by simp)
  obtain ⟨t, rfl, w_t⟩ := ATree_typed (m := 1) h0
  obtain ⟨dir, rfl, w_dir⟩ := ty_str (m := 5) (by simp only [T_9, ty9]) h1
  obtain ⟨many, rfl, w_many⟩ := ty_int (m := 5) (by simp only [T_3, ty3]) h2
  have u_t := s0
  have u_dir := (s1 _ (List.mem_singleton.2 rfl)).len
  have u_many := s2
  simp only [List.toList_toArray, aargs, aarg, TI.agg_mk, T_3, ty3, T_9, ty9, T_44, ty44]
  exact (recipeReady_w t dir many w_t (fun x hx => tree_small u_t hx)).mono fun _ _ h => h.1
end Go.Proofs.YtmpfhalheaeibaaDoor
