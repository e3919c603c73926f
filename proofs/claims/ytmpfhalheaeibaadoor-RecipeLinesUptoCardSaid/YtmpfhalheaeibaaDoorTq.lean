/- Contracts of the references of looking into trees. No condition. -/
import Derived.Test.YtmpfhalheaeibaaDoorTg
namespace Go.Proofs.YtmpfhalheaeibaaDoor
set_option linter.unusedVariables false
set_option linter.unusedSimpArgs false
open Go Go.RowKit
set_option maxRecDepth 100000
set_option linter.unusedSimpArgs false

theorem has_c (l : List Int) (x : Int) (h : l.length * 8 ≤ 140737488351232) : acall Tryd.prog [] 95 [.d (.sl 1 (l.map irow)), I x] (ret (B (decide (x ∈ l)))) := by
  refine acall_of tabOk Tryd.func95 rfl (by kernel_rfl) (by simp [Tryd.ntmps95]) ?_; simp only [Tryd.ntmps95, Tryd.results95, List.toList_toArray, apar, List.length_nil, List.length_cons, Nat.reduceAdd]
  repeat' first
    | (with_reducible first | refine AWP.seq ?_ | refine thenA_n ?_ | refine thenA_r ?_ | refine thenA_e ?_ | refine blkA_n ?_ | refine blkA_r ?_ | refine blkA_e ?_ | refine blkA_x (by decide) ?_ | refine AWP.skip ?_ | refine AWP.ret ?_ | refine AWP.exit ?_ | refine AWP.block ?_)
    | (with_reducible refine AWP.cond rfl ?_ ?_ <;> intro hc <;> (try simp only [hcs, beq_iff_eq, ge_iff_le, gt_iff_lt] at hc))
    | ((first
      | (with_reducible first | refine AWP.region tabOk ?_ | refine AWP.quietC mixed tabOk (by decide +kernel) ?_ | refine AWP.draw mixed tabOk (by decide +kernel) ?_ | refine AWP.drawE mixed tabOk (by decide +kernel) ?_ | refine AWP.drawG mixed tabOk (by decide +kernel) ?_); intro K hK); ((try simp (disch := omega) only [go_sem, wrap_n]) <;> (repeat' with_reducible refine And.intro ?_ ?_) <;> (try (with_reducible refine hK _ ?_; clear hK K))))
    | ((first | (with_reducible refine aunder_i ?_ ?_ <;> intro hg) | with_reducible intro hg) <;> (first | (exfalso; simp at hg; done) | (have hg' := hg; (try simp only [hcs, beq_iff_eq, ge_iff_le, gt_iff_lt] at hg'); ((try simp (disch := omega) only [hg, go_sem, wrap_n]) <;> (repeat' with_reducible refine And.intro ?_ ?_) <;> (try (with_reducible refine hK _ ?_; clear hK K))))))
                                                            | omega
  refine AWP.loopS (ι := Nat) (fun k => k ≤ l.length ∧ ∀ j, j < k → l.getD j default ≠ x) (fun k => l.length - k) [1, 7, 8] (fun k => [(9, I k)]) 0 ?_ (by simp (disch := omega) only [go_sem, wrap_n, true_and]) ?_
  · exact ⟨by omega, fun j hj => by omega⟩
  intro k ⟨hk, hk2⟩
  simp only [go_sem]
  repeat' first
    | (with_reducible first | refine AWP.seq ?_ | refine thenA_n ?_ | refine thenA_r ?_ | refine thenA_e ?_ | refine blkA_n ?_ | refine blkA_r ?_ | refine blkA_e ?_ | refine blkA_x (by decide) ?_ | refine AWP.skip ?_ | refine AWP.ret ?_ | refine AWP.exit ?_ | refine AWP.block ?_)
    | (with_reducible refine AWP.cond rfl ?_ ?_ <;> intro hc <;> (try simp only [hcs, beq_iff_eq, ge_iff_le, gt_iff_lt] at hc))
    | ((first
      | (with_reducible first | refine AWP.region tabOk ?_ | refine AWP.quietC mixed tabOk (by decide +kernel) ?_ | refine AWP.draw mixed tabOk (by decide +kernel) ?_ | refine AWP.drawE mixed tabOk (by decide +kernel) ?_ | refine AWP.drawG mixed tabOk (by decide +kernel) ?_); intro K hK); ((try simp (disch := omega) only [go_sem, wrap_n]) <;> (repeat' with_reducible refine And.intro ?_ ?_) <;> (try (with_reducible refine hK _ ?_; clear hK K))))
    | ((first | (with_reducible refine aunder_i ?_ ?_ <;> intro hg) | with_reducible intro hg) <;> (first | (exfalso; simp at hg; done) | (have hg' := hg; (try simp only [hcs, beq_iff_eq, ge_iff_le, gt_iff_lt] at hg'); ((try simp (disch := omega) only [hg, go_sem, wrap_n]) <;> (repeat' with_reducible refine And.intro ?_ ?_) <;> (try (with_reducible refine hK _ ?_; clear hK K))))))
                                                            | omega
  · (refine aend_retc ?_ rfl ?_ ?_ ?_ ?_; (focus (first | exact .inl rfl | exact .inr rfl)); (iterate 3 (focus ((try simp (disch := omega) only [go_sem, wrap_n]) <;> (try omega) <;> fail))); (try simp (disch := omega) only [go_sem, wrap_n, I, B, S, inj, List.cons.injEq, and_true, true_and, and_self]))
    symm; rw [decide_eq_true_eq, mem_iff_getD l default]
    exact ⟨k, by omega, by simp only [*]⟩
  · refine ⟨k + 1, ⟨by omega, fun j hj => ?_⟩, by omega, ?_⟩
    · by_cases e : j = k
      · subst e; exact fun e2 => hc (by simp only [*])
      · exact hk2 j (by omega)
    (refine SImp.same ?_; simp (disch := omega) only [go_sem, wrap_n, Int.natCast_add])
  · (refine aend_retc ?_ rfl ?_ ?_ ?_ ?_; (focus (first | exact .inl rfl | exact .inr rfl)); (iterate 3 (focus ((try simp (disch := omega) only [go_sem, wrap_n]) <;> (try omega) <;> fail))); (try simp (disch := omega) only [go_sem, wrap_n, I, B, S, inj, List.cons.injEq, and_true, true_and, and_self]))
    symm; rw [decide_eq_false_iff_not, mem_iff_getD l default]
    rintro ⟨j, hj, e⟩
    exact hk2 j (by omega) e
theorem isOpen_c (t : ATree) (s : Int) (h : t.sessions.length * 8 ≤ 140737488351232) : acall Tryd.prog [] 41 [t.av, I s] (ret (B (decide (s ∈ t.sessions)))) := by
  refine acall_of tabOk Tryd.func41 rfl (by kernel_rfl) (by simp [Tryd.ntmps41]) ?_; simp only [Tryd.ntmps41, Tryd.results41, List.toList_toArray, apar, List.length_nil, List.length_cons, Nat.reduceAdd]
  repeat' first
    | (with_reducible first | refine AWP.seq ?_ | refine thenA_n ?_ | refine thenA_r ?_ | refine thenA_e ?_ | refine blkA_n ?_ | refine blkA_r ?_ | refine blkA_e ?_ | refine blkA_x (by decide) ?_ | refine AWP.skip ?_ | refine AWP.ret ?_ | refine AWP.exit ?_ | refine AWP.block ?_)
    | (with_reducible refine AWP.cond rfl ?_ ?_ <;> intro hc <;> (try simp only [hcs, beq_iff_eq, ge_iff_le, gt_iff_lt] at hc))
    | ((first
      | (with_reducible first | refine AWP.region tabOk ?_ | refine AWP.quietC mixed tabOk (by decide +kernel) ?_ | refine AWP.draw mixed tabOk (by decide +kernel) ?_ | refine AWP.drawE mixed tabOk (by decide +kernel) ?_ | refine AWP.drawG mixed tabOk (by decide +kernel) ?_); intro K hK
      | ((first | refine acallH_sc (has_c t.sessions s h) rfl rfl ?_ ?_ ?_ | refine acallQ_sc (has_c t.sessions s h) rfl rfl ?_ ?_ ?_); iterate 2 (focus ((try simp (disch := omega) only [go_sem, wrap_n]) <;> (try omega) <;> fail)))
      | ((first | refine acallH_anyr (has_c t.sessions s h) rfl ?_ ?_); (focus ((try simp (disch := omega) only [go_sem, wrap_n]) <;> (try omega) <;> fail)))
      | ((first | refine acallH_scx (has_c t.sessions s h) rfl ?_ ?_ | refine acallQ_scx (has_c t.sessions s h) rfl ?_ ?_ | refine acallH_anyx (has_c t.sessions s h) ?_ ?_); (focus ((try simp (disch := omega) only [go_sem, wrap_n]) <;> (try omega) <;> fail)))); ((try simp (disch := omega) only [go_sem, wrap_n]) <;> (repeat' with_reducible refine And.intro ?_ ?_) <;> (try (with_reducible refine hK _ ?_; clear hK K))))
    | ((first | (with_reducible refine aunder_i ?_ ?_ <;> intro hg) | with_reducible intro hg) <;> (first | (exfalso; simp at hg; done) | (have hg' := hg; (try simp only [hcs, beq_iff_eq, ge_iff_le, gt_iff_lt] at hg'); ((try simp (disch := omega) only [hg, go_sem, wrap_n]) <;> (repeat' with_reducible refine And.intro ?_ ?_) <;> (try (with_reducible refine hK _ ?_; clear hK K))))))
                                                            | omega
  (refine aend_retc ?_ rfl ?_ ?_ ?_ ?_; (focus (first | exact .inl rfl | exact .inr rfl)); (iterate 3 (focus ((try simp (disch := omega) only [go_sem, wrap_n]) <;> (try omega) <;> fail))); (try simp (disch := omega) only [go_sem, wrap_n, I, B, S, inj, List.cons.injEq, and_true, true_and, and_self]))
def nodeI (t : ATree) (p : List UInt8) : Int := if p ∈ pathsT t then (place (pathsT t) p : Nat) else -1
theorem nodeI_yes {t : ATree} {p : List UInt8} (h : p ∈ pathsT t) : nodeI t p = (place (pathsT t) p : Nat) := by unfold nodeI; rw [if_pos h]
theorem nodeI_no {t : ATree} {p : List UInt8} (h : ¬ p ∈ pathsT t) : nodeI t p = -1 := by unfold nodeI; rw [if_neg h]
theorem nodeI_c (t : ATree) (p : List UInt8) (h : t.nodes.length * 88 ≤ 140737488351232) (hr : Rises (pathsT t)) : acall Tryd.prog [] 93 [t.av, S p] (ret (I (nodeI t p))) := by
  refine acall_of tabOk Tryd.func93 rfl (by kernel_rfl) (by simp [Tryd.ntmps93]) ?_; simp only [Tryd.ntmps93, Tryd.results93, List.toList_toArray, apar, List.length_nil, List.length_cons, Nat.reduceAdd]
  repeat' first
    | (with_reducible first | refine AWP.seq ?_ | refine thenA_n ?_ | refine thenA_r ?_ | refine thenA_e ?_ | refine blkA_n ?_ | refine blkA_r ?_ | refine blkA_e ?_ | refine blkA_x (by decide) ?_ | refine AWP.skip ?_ | refine AWP.ret ?_ | refine AWP.exit ?_ | refine AWP.block ?_)
    | (with_reducible refine AWP.cond rfl ?_ ?_ <;> intro hc <;> (try simp only [hcs, beq_iff_eq, ge_iff_le, gt_iff_lt] at hc))
    | ((first
      | (with_reducible first | refine AWP.region tabOk ?_ | refine AWP.quietC mixed tabOk (by decide +kernel) ?_ | refine AWP.draw mixed tabOk (by decide +kernel) ?_ | refine AWP.drawE mixed tabOk (by decide +kernel) ?_ | refine AWP.drawG mixed tabOk (by decide +kernel) ?_); intro K hK); ((try simp (disch := omega) only [go_sem, wrap_n]) <;> (repeat' with_reducible refine And.intro ?_ ?_) <;> (try (with_reducible refine hK _ ?_; clear hK K))))
    | ((first | (with_reducible refine aunder_i ?_ ?_ <;> intro hg) | with_reducible intro hg) <;> (first | (exfalso; simp at hg; done) | (have hg' := hg; (try simp only [hcs, beq_iff_eq, ge_iff_le, gt_iff_lt] at hg'); ((try simp (disch := omega) only [hg, go_sem, wrap_n]) <;> (repeat' with_reducible refine And.intro ?_ ?_) <;> (try (with_reducible refine hK _ ?_; clear hK K))))))
                                                            | omega
  refine AWP.loopS (ι := Nat) (fun k => k ≤ t.nodes.length ∧ ∀ j, j < k → (t.nodes.getD j default).path ≠ p) (fun k => t.nodes.length - k) [1, 8, 9] (fun k => [(10, I k)]) 0 ?_ (by simp (disch := omega) only [go_sem, wrap_n, true_and]) ?_
  · exact ⟨by omega, fun j hj => by omega⟩
  intro k ⟨hk, hk2⟩
  simp only [go_sem]
  repeat' first
    | (with_reducible first | refine AWP.seq ?_ | refine thenA_n ?_ | refine thenA_r ?_ | refine thenA_e ?_ | refine blkA_n ?_ | refine blkA_r ?_ | refine blkA_e ?_ | refine blkA_x (by decide) ?_ | refine AWP.skip ?_ | refine AWP.ret ?_ | refine AWP.exit ?_ | refine AWP.block ?_)
    | (with_reducible refine AWP.cond rfl ?_ ?_ <;> intro hc <;> (try simp only [hcs, beq_iff_eq, ge_iff_le, gt_iff_lt] at hc))
    | ((first
      | (with_reducible first | refine AWP.region tabOk ?_ | refine AWP.quietC mixed tabOk (by decide +kernel) ?_ | refine AWP.draw mixed tabOk (by decide +kernel) ?_ | refine AWP.drawE mixed tabOk (by decide +kernel) ?_ | refine AWP.drawG mixed tabOk (by decide +kernel) ?_); intro K hK); ((try simp (disch := omega) only [go_sem, wrap_n]) <;> (repeat' with_reducible refine And.intro ?_ ?_) <;> (try (with_reducible refine hK _ ?_; clear hK K))))
    | ((first | (with_reducible refine aunder_i ?_ ?_ <;> intro hg) | with_reducible intro hg) <;> (first | (exfalso; simp at hg; done) | (have hg' := hg; (try simp only [hcs, beq_iff_eq, ge_iff_le, gt_iff_lt] at hg'); ((try simp (disch := omega) only [hg, go_sem, wrap_n]) <;> (repeat' with_reducible refine And.intro ?_ ?_) <;> (try (with_reducible refine hK _ ?_; clear hK K))))))
                                                            | omega
  · (refine aend_retc ?_ rfl ?_ ?_ ?_ ?_; (focus (first | exact .inl rfl | exact .inr rfl)); (iterate 3 (focus ((try simp (disch := omega) only [go_sem, wrap_n]) <;> (try omega) <;> fail))); (try simp (disch := omega) only [go_sem, wrap_n, I, B, S, inj, List.cons.injEq, and_true, true_and, and_self]))
    have hl : k < (pathsT t).length := by rw [pathsT_len]; omega
    have e := place_at hr hl
    rw [pathsT_get] at e
    unfold nd at e
    rw [hc] at e
    have hm : p ∈ pathsT t := (mem_iff_getD _ [] p).2 ⟨k, hl, by rw [pathsT_get]; exact hc⟩
    rw [nodeI_yes hm, e]
  · refine ⟨k + 1, ⟨by omega, fun j hj => ?_⟩, by omega, ?_⟩
    · by_cases e : j = k
      · subst e; exact hc
      · exact hk2 j (by omega)
    (refine SImp.frame [0] rfl (by intro k hk; first | (simp at hk <;> (simp; omega)) | (simp only [List.mem_cons, List.not_mem_nil, or_false] at hk; simp only [List.length_cons, List.length_nil]; omega)) (by decide) (fun k hk => by first | omega | (rcases k with _ | _ | _ | _ | k <;> first | rfl | omega)) ?_ ?_ <;> simp (disch := omega) only [go_sem, wrap_n, Int.natCast_add, true_and] <;> (try rfl))
  · (refine aend_retc ?_ rfl ?_ ?_ ?_ ?_; (focus (first | exact .inl rfl | exact .inr rfl)); (iterate 3 (focus ((try simp (disch := omega) only [go_sem, wrap_n]) <;> (try omega) <;> fail))); (try simp (disch := omega) only [go_sem, wrap_n, I, B, S, inj, List.cons.injEq, and_true, true_and, and_self]))
    rw [nodeI_no]
    rw [mem_iff_getD _ []]
    rintro ⟨j, hj, e⟩
    rw [pathsT_get] at e
    rw [pathsT_len] at hj
    exact hk2 j (by omega) e
theorem getN_c (t : ATree) (p : List UInt8) (h : t.nodes.length * 88 ≤ 140737488351232) (hr : Rises (pathsT t)) : acall Tryd.prog [] 36 [t.av, S p] (ret (.tup [(getT t p).1.av, I (getT t p).2])) := by
  by_cases hm : p ∈ pathsT t
  · have hp := (place_found hr hm).1
    rw [pathsT_len] at hp
    unfold getT
    rw [if_pos hm]
    refine acall_of tabOk Tryd.func36 rfl (by kernel_rfl) (by simp [Tryd.ntmps36]) ?_; simp only [Tryd.ntmps36, Tryd.results36, List.toList_toArray, apar, List.length_nil, List.length_cons, Nat.reduceAdd]
    repeat' first
      | (with_reducible first | refine AWP.seq ?_ | refine thenA_n ?_ | refine thenA_r ?_ | refine thenA_e ?_ | refine blkA_n ?_ | refine blkA_r ?_ | refine blkA_e ?_ | refine blkA_x (by decide) ?_ | refine AWP.skip ?_ | refine AWP.ret ?_ | refine AWP.exit ?_ | refine AWP.block ?_)
      | (with_reducible refine AWP.cond rfl ?_ ?_ <;> intro hc <;> (try simp only [hcs, beq_iff_eq, ge_iff_le, gt_iff_lt] at hc))
      | ((first
        | (with_reducible first | refine AWP.region tabOk ?_ | refine AWP.quietC mixed tabOk (by decide +kernel) ?_ | refine AWP.draw mixed tabOk (by decide +kernel) ?_ | refine AWP.drawE mixed tabOk (by decide +kernel) ?_ | refine AWP.drawG mixed tabOk (by decide +kernel) ?_); intro K hK
        | ((first | refine acallH_sc ((nodeI_c t p h hr).re (by rw [nodeI_yes hm])) rfl rfl ?_ ?_ ?_ | refine acallQ_sc ((nodeI_c t p h hr).re (by rw [nodeI_yes hm])) rfl rfl ?_ ?_ ?_); iterate 2 (focus ((try simp (disch := omega) only [go_sem, wrap_n]) <;> (try omega) <;> fail)))
        | ((first | refine acallH_anyr ((nodeI_c t p h hr).re (by rw [nodeI_yes hm])) rfl ?_ ?_); (focus ((try simp (disch := omega) only [go_sem, wrap_n]) <;> (try omega) <;> fail)))
        | ((first | refine acallH_scx ((nodeI_c t p h hr).re (by rw [nodeI_yes hm])) rfl ?_ ?_ | refine acallQ_scx ((nodeI_c t p h hr).re (by rw [nodeI_yes hm])) rfl ?_ ?_ | refine acallH_anyx ((nodeI_c t p h hr).re (by rw [nodeI_yes hm])) ?_ ?_); (focus ((try simp (disch := omega) only [go_sem, wrap_n]) <;> (try omega) <;> fail)))); ((try simp (disch := omega) only [go_sem, wrap_n]) <;> (repeat' with_reducible refine And.intro ?_ ?_) <;> (try (with_reducible refine hK _ ?_; clear hK K))))
      | ((first | (with_reducible refine aunder_i ?_ ?_ <;> intro hg) | with_reducible intro hg) <;> (first | (exfalso; simp at hg; done) | (have hg' := hg; (try simp only [hcs, beq_iff_eq, ge_iff_le, gt_iff_lt] at hg'); ((try simp (disch := omega) only [hg, go_sem, wrap_n]) <;> (repeat' with_reducible refine And.intro ?_ ?_) <;> (try (with_reducible refine hK _ ?_; clear hK K))))))
                                                              | omega
    all_goals first | omega | skip
    (refine aend_retc ?_ rfl ?_ ?_ ?_ ?_; (focus (first | exact .inl rfl | exact .inr rfl)); (iterate 3 (focus ((try simp (disch := omega) only [go_sem, wrap_n, nd]) <;> (try omega) <;> fail))); (try simp (disch := omega) only [go_sem, wrap_n, nd, I, B, S, inj, List.cons.injEq, and_true, true_and, and_self]))
  · unfold getT
    rw [if_neg hm]
    refine acall_of tabOk Tryd.func36 rfl (by kernel_rfl) (by simp [Tryd.ntmps36]) ?_; simp only [Tryd.ntmps36, Tryd.results36, List.toList_toArray, apar, List.length_nil, List.length_cons, Nat.reduceAdd]
    repeat' first
      | (with_reducible first | refine AWP.seq ?_ | refine thenA_n ?_ | refine thenA_r ?_ | refine thenA_e ?_ | refine blkA_n ?_ | refine blkA_r ?_ | refine blkA_e ?_ | refine blkA_x (by decide) ?_ | refine AWP.skip ?_ | refine AWP.ret ?_ | refine AWP.exit ?_ | refine AWP.block ?_)
      | (with_reducible refine AWP.cond rfl ?_ ?_ <;> intro hc <;> (try simp only [hcs, beq_iff_eq, ge_iff_le, gt_iff_lt] at hc))
      | ((first
        | (with_reducible first | refine AWP.region tabOk ?_ | refine AWP.quietC mixed tabOk (by decide +kernel) ?_ | refine AWP.draw mixed tabOk (by decide +kernel) ?_ | refine AWP.drawE mixed tabOk (by decide +kernel) ?_ | refine AWP.drawG mixed tabOk (by decide +kernel) ?_); intro K hK
        | ((first | refine acallH_sc ((nodeI_c t p h hr).re (by rw [nodeI_no hm])) rfl rfl ?_ ?_ ?_ | refine acallQ_sc ((nodeI_c t p h hr).re (by rw [nodeI_no hm])) rfl rfl ?_ ?_ ?_); iterate 2 (focus ((try simp (disch := omega) only [go_sem, wrap_n]) <;> (try omega) <;> fail)))
        | ((first | refine acallH_anyr ((nodeI_c t p h hr).re (by rw [nodeI_no hm])) rfl ?_ ?_); (focus ((try simp (disch := omega) only [go_sem, wrap_n]) <;> (try omega) <;> fail)))
        | ((first | refine acallH_scx ((nodeI_c t p h hr).re (by rw [nodeI_no hm])) rfl ?_ ?_ | refine acallQ_scx ((nodeI_c t p h hr).re (by rw [nodeI_no hm])) rfl ?_ ?_ | refine acallH_anyx ((nodeI_c t p h hr).re (by rw [nodeI_no hm])) ?_ ?_); (focus ((try simp (disch := omega) only [go_sem, wrap_n]) <;> (try omega) <;> fail)))); ((try simp (disch := omega) only [go_sem, wrap_n]) <;> (repeat' with_reducible refine And.intro ?_ ?_) <;> (try (with_reducible refine hK _ ?_; clear hK K))))
      | ((first | (with_reducible refine aunder_i ?_ ?_ <;> intro hg) | with_reducible intro hg) <;> (first | (exfalso; simp at hg; done) | (have hg' := hg; (try simp only [hcs, beq_iff_eq, ge_iff_le, gt_iff_lt] at hg'); ((try simp (disch := omega) only [hg, go_sem, wrap_n]) <;> (repeat' with_reducible refine And.intro ?_ ?_) <;> (try (with_reducible refine hK _ ?_; clear hK K))))))
                                                              | omega
    all_goals first | omega | skip
    (refine aend_retc ?_ rfl ?_ ?_ ?_ ?_; (focus (first | exact .inl rfl | exact .inr rfl)); (iterate 3 (focus ((try simp (disch := omega) only [go_sem, wrap_n, default]) <;> (try omega) <;> fail))); (try simp (disch := omega) only [go_sem, wrap_n, default, I, B, S, inj, List.cons.injEq, and_true, true_and, and_self]))
theorem path_small {t : ATree} (hp : ∀ x, x ∈ t.nodes → x.path.length ≤ 1048576) (k : Nat) : (t.nodes.getD k default).path.length ≤ 1048576 := by
  by_cases e : k < t.nodes.length
  · exact hp _ (getD_mem t.nodes k e)
  · rw [List.getD_eq_getElem?_getD, List.getElem?_eq_none (by omega)]; exact Nat.zero_le _
theorem kidsOf_c (t : ATree) (p : List UInt8) (hw : t.wf) (hp : ∀ x, x ∈ t.nodes → x.path.length ≤ 1048576) (hr : Rises (pathsT t)) : acall Tryd.prog [] 38 [t.av, S p] (ret (.tup [.d (.sl 1 ((kidsT t p).1.map srow)), I (kidsT t p).2])) := by
  have h := hw.2.1.1
  by_cases hm : p ∈ pathsT t
  · unfold kidsT
    rw [if_pos hm]
    refine acall_of tabOk Tryd.func38 rfl (by kernel_rfl) (by simp [Tryd.ntmps38]) ?_; simp only [Tryd.ntmps38, Tryd.results38, List.toList_toArray, apar, List.length_nil, List.length_cons, Nat.reduceAdd]
    repeat' first
      | (with_reducible first | refine AWP.seq ?_ | refine thenA_n ?_ | refine thenA_r ?_ | refine thenA_e ?_ | refine blkA_n ?_ | refine blkA_r ?_ | refine blkA_e ?_ | refine blkA_x (by decide) ?_ | refine AWP.skip ?_ | refine AWP.ret ?_ | refine AWP.exit ?_ | refine AWP.block ?_)
      | (with_reducible refine AWP.cond rfl ?_ ?_ <;> intro hc <;> (try simp only [hcs, beq_iff_eq, ge_iff_le, gt_iff_lt] at hc))
      | ((first
        | (with_reducible first | refine AWP.region tabOk ?_ | refine AWP.quietC mixed tabOk (by decide +kernel) ?_ | refine AWP.draw mixed tabOk (by decide +kernel) ?_ | refine AWP.drawE mixed tabOk (by decide +kernel) ?_ | refine AWP.drawG mixed tabOk (by decide +kernel) ?_); intro K hK
        | ((first | refine acallH_sc ((nodeI_c t p h hr).re (by rw [nodeI_yes hm])) rfl rfl ?_ ?_ ?_ | refine acallQ_sc ((nodeI_c t p h hr).re (by rw [nodeI_yes hm])) rfl rfl ?_ ?_ ?_); iterate 2 (focus ((try simp (disch := omega) only [go_sem, wrap_n]) <;> (try omega) <;> fail)))
        | ((first | refine acallH_anyr ((nodeI_c t p h hr).re (by rw [nodeI_yes hm])) rfl ?_ ?_); (focus ((try simp (disch := omega) only [go_sem, wrap_n]) <;> (try omega) <;> fail)))
        | ((first | refine acallH_scx ((nodeI_c t p h hr).re (by rw [nodeI_yes hm])) rfl ?_ ?_ | refine acallQ_scx ((nodeI_c t p h hr).re (by rw [nodeI_yes hm])) rfl ?_ ?_ | refine acallH_anyx ((nodeI_c t p h hr).re (by rw [nodeI_yes hm])) ?_ ?_); (focus ((try simp (disch := omega) only [go_sem, wrap_n]) <;> (try omega) <;> fail)))); ((try simp (disch := omega) only [go_sem, wrap_n]) <;> (repeat' with_reducible refine And.intro ?_ ?_) <;> (try (with_reducible refine hK _ ?_; clear hK K))))
      | ((first | (with_reducible refine aunder_i ?_ ?_ <;> intro hg) | with_reducible intro hg) <;> (first | (exfalso; simp at hg; done) | (have hg' := hg; (try simp only [hcs, beq_iff_eq, ge_iff_le, gt_iff_lt] at hg'); ((try simp (disch := omega) only [hg, go_sem, wrap_n]) <;> (repeat' with_reducible refine And.intro ?_ ?_) <;> (try (with_reducible refine hK _ ?_; clear hK K))))))
                                                              | omega
    refine AWP.weaken (SImp.nilOwn 6 1 rfl) ?_
    simp only [go_sem]
    refine AWP.loopB (ι := Nat) (fun k => k ≤ t.nodes.length) (fun k => t.nodes.length - k) [1, 17, 18] (fun k => [(19, I k), (6, .osl 1 1 0 (kidsL t p k).length)]) (fun k => [.cells [.d (.int .i64 t.zxid), .d (.sl 9 (t.nodes.map ANode.row)), .d (.sl 1 (t.sessions.map irow))], .rows 1 ((kidsL t p k).map srow)]) 0 ?_ ?_ ?_
    · omega
    · simp only [go_sem, kidsL_zero]; (refine SImp.same ?_; simp (disch := omega) only [go_sem, wrap_n, Int.natCast_add])
    intro k hk
    have hpk := path_small hp k
    have hkl := kidsL_le t p k
    simp only [go_sem]
    repeat' first
      | (with_reducible first | refine AWP.seq ?_ | refine thenA_n ?_ | refine thenA_r ?_ | refine thenA_e ?_ | refine blkA_n ?_ | refine blkA_r ?_ | refine blkA_e ?_ | refine blkA_x (by decide) ?_ | refine AWP.skip ?_ | refine AWP.ret ?_ | refine AWP.exit ?_ | refine AWP.block ?_)
      | (with_reducible refine AWP.cond rfl ?_ ?_ <;> intro hc <;> (try simp only [hcs, beq_iff_eq, ge_iff_le, gt_iff_lt] at hc))
      | ((first
        | (with_reducible first | refine AWP.region tabOk ?_ | refine AWP.quietC mixed tabOk (by decide +kernel) ?_ | refine AWP.draw mixed tabOk (by decide +kernel) ?_ | refine AWP.drawE mixed tabOk (by decide +kernel) ?_ | refine AWP.drawG mixed tabOk (by decide +kernel) ?_); intro K hK
        | ((first | refine acallH_sc (ref_split_c _ hpk) rfl rfl ?_ ?_ ?_ | refine acallQ_sc (ref_split_c _ hpk) rfl rfl ?_ ?_ ?_); iterate 2 (focus ((try simp (disch := omega) only [go_sem, wrap_n, srow_rsnoc, take_map_len]) <;> (try omega) <;> fail)))
        | ((first | refine acallH_anyr (ref_split_c _ hpk) rfl ?_ ?_); (focus ((try simp (disch := omega) only [go_sem, wrap_n, srow_rsnoc, take_map_len]) <;> (try omega) <;> fail)))
        | ((first | refine acallH_scx (ref_split_c _ hpk) rfl ?_ ?_ | refine acallQ_scx (ref_split_c _ hpk) rfl ?_ ?_ | refine acallH_anyx (ref_split_c _ hpk) ?_ ?_); (focus ((try simp (disch := omega) only [go_sem, wrap_n, srow_rsnoc, take_map_len]) <;> (try omega) <;> fail)))); ((try simp (disch := omega) only [go_sem, wrap_n, srow_rsnoc, take_map_len]) <;> (repeat' with_reducible refine And.intro ?_ ?_) <;> (try (with_reducible refine hK _ ?_; clear hK K))))
      | ((first | (with_reducible refine aunder_i ?_ ?_ <;> intro hg) | with_reducible intro hg) <;> (first | (exfalso; simp at hg; done) | (have hg' := hg; (try simp only [hcs, beq_iff_eq, ge_iff_le, gt_iff_lt] at hg'); ((try simp (disch := omega) only [hg, go_sem, wrap_n, srow_rsnoc, take_map_len]) <;> (repeat' with_reducible refine And.intro ?_ ?_) <;> (try (with_reducible refine hK _ ?_; clear hK K))))))
                                                              | omega
    · refine ⟨k + 1, by omega, by omega, ?_⟩
      rw [kidsL_succ t p k (by assumption), if_pos hc]
      (refine SImp.frame [0, 4] rfl (by intro k hk; first | (simp at hk <;> (simp; omega)) | (simp only [List.mem_cons, List.not_mem_nil, or_false] at hk; simp only [List.length_cons, List.length_nil]; omega)) (by decide) (fun k hk => by first | omega | (rcases k with _ | _ | _ | _ | k <;> first | rfl | omega)) ?_ ?_ <;> simp (disch := omega) only [go_sem, wrap_n, Int.natCast_add, List.length_append] <;> (try rfl))
    · refine ⟨k + 1, by omega, by omega, ?_⟩
      have hc2 : ¬ ((splitP (t.nodes.getD k default).path).2 = 0 ∧ (splitP (t.nodes.getD k default).path).1.1 = p) := by
        rintro ⟨e1, e2⟩
        rcases hc with h | h
        · exact h e1
        · exact h e2
      rw [kidsL_succ t p k (by assumption), if_neg hc2]
      (refine SImp.frame [0, 1] rfl (by intro k hk; first | (simp at hk <;> (simp; omega)) | (simp only [List.mem_cons, List.not_mem_nil, or_false] at hk; simp only [List.length_cons, List.length_nil]; omega)) (by decide) (fun k hk => by first | omega | (rcases k with _ | _ | _ | _ | k <;> first | rfl | omega)) ?_ ?_ <;> simp (disch := omega) only [go_sem, wrap_n, Int.natCast_add, true_and] <;> (try rfl))
    · rw [show k = t.nodes.length from by omega]
      (refine aend_retc ?_ rfl ?_ ?_ ?_ ?_; (focus (first | exact .inl rfl | exact .inr rfl)); (iterate 3 (focus ((try simp (disch := omega) only [go_sem, wrap_n]) <;> (try omega) <;> fail))); (try simp (disch := omega) only [go_sem, wrap_n, I, B, S, inj, List.cons.injEq, and_true, true_and, and_self]))
  · unfold kidsT
    rw [if_neg hm]
    refine acall_of tabOk Tryd.func38 rfl (by kernel_rfl) (by simp [Tryd.ntmps38]) ?_; simp only [Tryd.ntmps38, Tryd.results38, List.toList_toArray, apar, List.length_nil, List.length_cons, Nat.reduceAdd]
    repeat' first
      | (with_reducible first | refine AWP.seq ?_ | refine thenA_n ?_ | refine thenA_r ?_ | refine thenA_e ?_ | refine blkA_n ?_ | refine blkA_r ?_ | refine blkA_e ?_ | refine blkA_x (by decide) ?_ | refine AWP.skip ?_ | refine AWP.ret ?_ | refine AWP.exit ?_ | refine AWP.block ?_)
      | (with_reducible refine AWP.cond rfl ?_ ?_ <;> intro hc <;> (try simp only [hcs, beq_iff_eq, ge_iff_le, gt_iff_lt] at hc))
      | ((first
        | (with_reducible first | refine AWP.region tabOk ?_ | refine AWP.quietC mixed tabOk (by decide +kernel) ?_ | refine AWP.draw mixed tabOk (by decide +kernel) ?_ | refine AWP.drawE mixed tabOk (by decide +kernel) ?_ | refine AWP.drawG mixed tabOk (by decide +kernel) ?_); intro K hK
        | ((first | refine acallH_sc ((nodeI_c t p h hr).re (by rw [nodeI_no hm])) rfl rfl ?_ ?_ ?_ | refine acallQ_sc ((nodeI_c t p h hr).re (by rw [nodeI_no hm])) rfl rfl ?_ ?_ ?_); iterate 2 (focus ((try simp (disch := omega) only [go_sem, wrap_n]) <;> (try omega) <;> fail)))
        | ((first | refine acallH_anyr ((nodeI_c t p h hr).re (by rw [nodeI_no hm])) rfl ?_ ?_); (focus ((try simp (disch := omega) only [go_sem, wrap_n]) <;> (try omega) <;> fail)))
        | ((first | refine acallH_scx ((nodeI_c t p h hr).re (by rw [nodeI_no hm])) rfl ?_ ?_ | refine acallQ_scx ((nodeI_c t p h hr).re (by rw [nodeI_no hm])) rfl ?_ ?_ | refine acallH_anyx ((nodeI_c t p h hr).re (by rw [nodeI_no hm])) ?_ ?_); (focus ((try simp (disch := omega) only [go_sem, wrap_n]) <;> (try omega) <;> fail)))); ((try simp (disch := omega) only [go_sem, wrap_n]) <;> (repeat' with_reducible refine And.intro ?_ ?_) <;> (try (with_reducible refine hK _ ?_; clear hK K))))
      | ((first | (with_reducible refine aunder_i ?_ ?_ <;> intro hg) | with_reducible intro hg) <;> (first | (exfalso; simp at hg; done) | (have hg' := hg; (try simp only [hcs, beq_iff_eq, ge_iff_le, gt_iff_lt] at hg'); ((try simp (disch := omega) only [hg, go_sem, wrap_n]) <;> (repeat' with_reducible refine And.intro ?_ ?_) <;> (try (with_reducible refine hK _ ?_; clear hK K))))))
                                                              | omega
    all_goals first | omega | skip
    (refine aend_retc ?_ rfl ?_ ?_ ?_ ?_; (focus (first | exact .inl rfl | exact .inr rfl)); (iterate 3 (focus ((try simp (disch := omega) only [go_sem, wrap_n]) <;> (try omega) <;> fail))); (try simp (disch := omega) only [go_sem, wrap_n, I, B, S, inj, List.cons.injEq, and_true, true_and, and_self]))

def dirsR (t : ATree) (k : Nat) : List (List UInt8) := (List.range t.nodes.length).map fun j => if j < k then dirT t j else []
theorem dirs_len (t : ATree) (k : Nat) : (dirsR t k).length = t.nodes.length := by unfold dirsR; simp
theorem dirs_zero (t : ATree) : List.replicate t.nodes.length [DV.str []] = (dirsR t 0).map srow := by
  unfold dirsR
  apply List.ext_getElem?
  intro j
  simp only [List.getElem?_replicate, List.getElem?_map, Nat.not_lt_zero, if_false]
  by_cases h : j < t.nodes.length
  · rw [if_pos h, List.getElem?_range h]; rfl
  · rw [if_neg h, List.getElem?_eq_none (by simpa using h)]; rfl
theorem dirs_set (t : ATree) (k : Nat) : (dirsR t k).set k (splitP (t.nodes.getD k default).path).1.1 = dirsR t (k + 1) := by
  unfold dirsR
  apply List.ext_getElem?
  intro j
  rw [List.getElem?_set]
  simp only [List.length_map, List.length_range, List.getElem?_map]
  by_cases h : j < t.nodes.length
  · rw [List.getElem?_range h]
    by_cases e : k = j
    · subst e; simp [h, dirT, nd]
    · simp only [e, if_false, Option.map_some]
      congr 1
      by_cases h2 : j < k
      · rw [if_pos h2, if_pos (by omega)]
      · rw [if_neg h2, if_neg (by omega)]
  · rw [List.getElem?_eq_none (l := List.range _) (by simpa using h)]
    by_cases e : k = j
    · subst e; simp [h]
    · simp [e]
theorem dirs_get (t : ATree) (j : Nat) (h : j < t.nodes.length) : (dirsR t t.nodes.length).getD j [] = dirT t j := by
  unfold dirsR
  rw [List.getD_eq_getElem?_getD, List.getElem?_map, List.getElem?_range h]
  simp [h]
def upN (t : ATree) (i k : Nat) : Bool := decide (i = 0) || (List.range k).any fun j => decide ((nd t j).path = dirT t i)
theorem upN_zero (t : ATree) (i : Nat) : upN t i 0 = decide (i = 0) := by unfold upN; simp
theorem upN_succ (t : ATree) (i k : Nat) : upN t i (k + 1) = (upN t i k || decide ((nd t k).path = dirT t i)) := by
  unfold upN; rw [List.range_succ, List.any_append, Bool.or_assoc]; simp
theorem upN_iff (t : ATree) (i : Nat) : upN t i t.nodes.length = true ↔ upB t i := by
  unfold upN upB
  rw [Bool.or_eq_true, decide_eq_true_eq, List.any_eq_true, mem_iff_getD _ []]
  constructor
  · rintro (h | ⟨j, hj, h⟩)
    · exact .inl h
    · rw [decide_eq_true_eq] at h
      rw [List.mem_range] at hj
      exact .inr ⟨j, by rw [pathsT_len]; exact hj, by rw [pathsT_get]; exact h⟩
  · rintro (h | ⟨j, hj, h⟩)
    · exact .inl h
    · rw [pathsT_len] at hj
      rw [pathsT_get] at h
      exact .inr ⟨j, List.mem_range.2 hj, by rw [decide_eq_true_eq]; exact h⟩
def condQ (t : ATree) (i : Nat) : Prop := (((((((((upN t i t.nodes.length = true ∧ (nd t i).stat.kids = (kidsN t (nd t i).path t.nodes.length : Nat)) ∧ 0 ≤ (nd t i).stat.version) ∧ (nd t i).stat.version < 2147483648) ∧ 0 ≤ (nd t i).stat.cversion) ∧ (nd t i).stat.cversion < 2147483648) ∧
  0 ≤ (nd t i).stat.czxid) ∧ (nd t i).stat.czxid ≤ (nd t i).stat.mzxid) ∧ (nd t i).stat.czxid ≤ (nd t i).stat.pzxid) ∧ (nd t i).stat.mzxid ≤ t.zxid) ∧ (nd t i).stat.pzxid ≤ t.zxid
theorem condQ_ok {t : ATree} {i : Nat} (h : condQ t i) (ho : (nd t i).stat.owner ≠ 0 → (nd t i).stat.owner ∈ t.sessions ∧ kidsN t (nd t i).path t.nodes.length = 0) : statB t (nd t i).stat ∧ ownB t (nd t i).stat ∧ upB t i ∧ (nd t i).stat.kids = kidsN t (nd t i).path t.nodes.length := by
  obtain ⟨⟨⟨⟨⟨⟨⟨⟨⟨⟨h1, h2⟩, h4⟩, h5⟩, h6⟩, h7⟩, h8⟩, h9⟩, h10⟩, h11⟩, h12⟩ := h
  refine ⟨⟨h4, by omega, h6, by omega, h8, h9, h10, h11, h12⟩, fun h0 => ?_, (upN_iff t i).1 h1, h2⟩
  obtain ⟨a, b⟩ := ho h0
  exact ⟨a, by rw [h2, b]; rfl⟩
set_option maxHeartbeats 8000000 in
theorem ref_tgood_c (t : ATree) (hw : t.wf) (hp : ∀ x, x ∈ t.nodes → x.path.length ≤ 1048576) : acall Tryd.prog [] 33 [t.av] (ret (B (goodTr t))) := by
  have hok := node_okS hw
  obtain ⟨hz, ⟨hn, hnw⟩, ⟨hs, hsw⟩⟩ := hw
  refine acall_of tabOk Tryd.func33 rfl (by kernel_rfl) (by simp [Tryd.ntmps33]) ?_; simp only [Tryd.ntmps33, Tryd.results33, List.toList_toArray, apar, List.length_nil, List.length_cons, Nat.reduceAdd]
  repeat' first
    | (with_reducible first | refine AWP.seq ?_ | refine thenA_n ?_ | refine thenA_r ?_ | refine thenA_e ?_ | refine blkA_n ?_ | refine blkA_r ?_ | refine blkA_e ?_ | refine blkA_x (by decide) ?_ | refine AWP.skip ?_ | refine AWP.ret ?_ | refine AWP.exit ?_ | refine AWP.block ?_)
    | (with_reducible refine AWP.cond rfl ?_ ?_ <;> intro hc <;> (try simp only [hcs, beq_iff_eq, ge_iff_le, gt_iff_lt] at hc))
    | ((first
      | (with_reducible first | refine AWP.region tabOk ?_ | refine AWP.quietC mixed tabOk (by decide +kernel) ?_ | refine AWP.draw mixed tabOk (by decide +kernel) ?_ | refine AWP.drawE mixed tabOk (by decide +kernel) ?_ | refine AWP.drawG mixed tabOk (by decide +kernel) ?_); intro K hK
      | ((first | refine acallH_sc (ref_zgood_c t.zxid hz) rfl rfl ?_ ?_ ?_ | refine acallQ_sc (ref_zgood_c t.zxid hz) rfl rfl ?_ ?_ ?_); iterate 2 (focus ((try simp (disch := omega) only [go_sem, wrap_n]) <;> (try omega) <;> fail)))
      | ((first | refine acallH_anyr (ref_zgood_c t.zxid hz) rfl ?_ ?_); (focus ((try simp (disch := omega) only [go_sem, wrap_n]) <;> (try omega) <;> fail)))
      | ((first | refine acallH_scx (ref_zgood_c t.zxid hz) rfl ?_ ?_ | refine acallQ_scx (ref_zgood_c t.zxid hz) rfl ?_ ?_ | refine acallH_anyx (ref_zgood_c t.zxid hz) ?_ ?_); (focus ((try simp (disch := omega) only [go_sem, wrap_n]) <;> (try omega) <;> fail)))); ((try simp (disch := omega) only [go_sem, wrap_n]) <;> (repeat' with_reducible refine And.intro ?_ ?_) <;> (try (with_reducible refine hK _ ?_; clear hK K))))
    | ((first | (with_reducible refine aunder_i ?_ ?_ <;> intro hg) | with_reducible intro hg) <;> (first | (exfalso; simp at hg; done) | (have hg' := hg; (try simp only [hcs, beq_iff_eq, ge_iff_le, gt_iff_lt] at hg'); ((try simp (disch := omega) only [hg, go_sem, wrap_n]) <;> (repeat' with_reducible refine And.intro ?_ ?_) <;> (try (with_reducible refine hK _ ?_; clear hK K))))))
                                                            | omega
  · (refine aend_retc ?_ rfl ?_ ?_ ?_ ?_; (focus (first | exact .inl rfl | exact .inr rfl)); (iterate 3 (focus ((try simp (disch := omega) only [go_sem, wrap_n]) <;> (try omega) <;> fail))); (try simp (disch := omega) only [go_sem, wrap_n, I, B, S, inj, List.cons.injEq, and_true, true_and, and_self]))
    refine head_no fun ⟨a1, a2, a3, a4, a5⟩ => ?_
    rcases hc with (((h | h) | h) | h) | h
    · omega
    · omega
    · exact h a3
    · exact h a4
    · exact h a5
  rotate_left
  · simp_all
  · (refine aend_retc ?_ rfl ?_ ?_ ?_ ?_; (focus (first | exact .inl rfl | exact .inr rfl)); (iterate 3 (focus ((try simp (disch := omega) only [go_sem, wrap_n]) <;> (try omega) <;> fail))); (try simp (disch := omega) only [go_sem, wrap_n, I, B, S, inj, List.cons.injEq, and_true, true_and, and_self]))
    refine head_no fun ⟨a1, a2, a3, a4, a5⟩ => ?_
    rcases hg' with ((h | h) | h) | h
    · omega
    · omega
    · exact h a3
    · exact h a4
  have hhead : headOk t := ⟨by omega, by omega, hc.1.1.2, hc.1.2, hc.2⟩
  have h400 : t.nodes.length ≤ 400 := by omega
  clear hc hg
  refine AWP.loopS (ι := Nat) (fun k => k ≤ t.sessions.length ∧ ∀ j, j < k → sessOk t.sessions j) (fun k => t.sessions.length - k) [1, 48, 49] (fun k => [(50, I k)]) 0 ?_ (by simp (disch := omega) only [go_sem, wrap_n, true_and]) ?_
  · exact ⟨by omega, fun j hj => by omega⟩
  intro k ⟨hk, hk2⟩
  simp only [go_sem]
  repeat' first
    | (with_reducible first | refine AWP.seq ?_ | refine thenA_n ?_ | refine thenA_r ?_ | refine thenA_e ?_ | refine blkA_n ?_ | refine blkA_r ?_ | refine blkA_e ?_ | refine blkA_x (by decide) ?_ | refine AWP.skip ?_ | refine AWP.ret ?_ | refine AWP.exit ?_ | refine AWP.block ?_)
    | (with_reducible refine AWP.cond rfl ?_ ?_ <;> intro hc <;> (try simp only [hcs, beq_iff_eq, ge_iff_le, gt_iff_lt] at hc))
    | ((first
      | (with_reducible first | refine AWP.region tabOk ?_ | refine AWP.quietC mixed tabOk (by decide +kernel) ?_ | refine AWP.draw mixed tabOk (by decide +kernel) ?_ | refine AWP.drawE mixed tabOk (by decide +kernel) ?_ | refine AWP.drawG mixed tabOk (by decide +kernel) ?_); intro K hK); ((try simp (disch := omega) only [go_sem, wrap_n, toNat_pr2]) <;> (repeat' with_reducible refine And.intro ?_ ?_) <;> (try (with_reducible refine hK _ ?_; clear hK K))))
    | ((first | (with_reducible refine aunder_i ?_ ?_ <;> intro hg) | with_reducible intro hg) <;> (first | (exfalso; simp at hg; done) | (have hg' := hg; (try simp only [hcs, beq_iff_eq, ge_iff_le, gt_iff_lt] at hg'); ((try simp (disch := omega) only [hg, go_sem, wrap_n, toNat_pr2]) <;> (repeat' with_reducible refine And.intro ?_ ?_) <;> (try (with_reducible refine hK _ ?_; clear hK K))))))
                                                            | omega
  · (refine aend_retc ?_ rfl ?_ ?_ ?_ ?_; (focus (first | exact .inl rfl | exact .inr rfl)); (iterate 3 (focus ((try simp (disch := omega) only [go_sem, wrap_n]) <;> (try omega) <;> fail))); (try simp (disch := omega) only [go_sem, wrap_n, I, B, S, inj, List.cons.injEq, and_true, true_and, and_self]))
    refine sess_no (k := k) (by omega) fun ⟨a1, a2, a3⟩ => ?_
    rcases hc with (h | h) | h
    · omega
    · omega
    · exact absurd (a3 (by omega)) (by omega)
  · refine ⟨k + 1, ⟨by omega, fun j hj => ?_⟩, by omega, ?_⟩
    · by_cases e : j = k
      · subst e; exact ⟨hc.1.1, by omega, fun h0 => hc.2.resolve_left (by omega)⟩
      · exact hk2 j (by omega)
    (refine SImp.same ?_; simp (disch := omega) only [go_sem, wrap_n, Int.natCast_add])
  have hss : ∀ j, j < t.sessions.length → sessOk t.sessions j := fun j hj => hk2 j (by omega)
  clear hk2 hk hc
  refine AWP.loopB (ι := Nat) (fun k => k ≤ t.nodes.length ∧ ∀ j, j < k → nodeA t j) (fun k => t.nodes.length - k) [1, 5, 81, 82] (fun k => [(83, I k)]) (fun k => [.cells [.d (.int .i64 t.zxid), .d (.sl 9 (t.nodes.map ANode.row)), .d (.sl 1 (t.sessions.map irow))], .rows 1 ((dirsR t k).map srow)]) 0 ?_ ?_ ?_
  · exact ⟨by omega, fun j hj => by omega⟩
  · simp only [go_sem, ← dirs_zero]; (refine SImp.same ?_; simp (disch := omega) only [go_sem, wrap_n, Int.natCast_add])
  intro i ⟨hi, hi2⟩
  have hpi := path_small hp i
  have hdl := dirs_len t i
  simp only [go_sem]
  repeat' first
    | (with_reducible first | refine AWP.seq ?_ | refine thenA_n ?_ | refine thenA_r ?_ | refine thenA_e ?_ | refine blkA_n ?_ | refine blkA_r ?_ | refine blkA_e ?_ | refine blkA_x (by decide) ?_ | refine AWP.skip ?_ | refine AWP.ret ?_ | refine AWP.exit ?_ | refine AWP.block ?_)
    | (with_reducible refine AWP.cond rfl ?_ ?_ <;> intro hc <;> (try simp only [hcs, beq_iff_eq, ge_iff_le, gt_iff_lt] at hc))
    | ((first
      | (with_reducible first | refine AWP.region tabOk ?_ | refine AWP.quietC mixed tabOk (by decide +kernel) ?_ | refine AWP.draw mixed tabOk (by decide +kernel) ?_ | refine AWP.drawE mixed tabOk (by decide +kernel) ?_ | refine AWP.drawG mixed tabOk (by decide +kernel) ?_); intro K hK
      | ((first | refine acallH_sc (ref_good_c _ hpi) rfl rfl ?_ ?_ ?_ | refine acallQ_sc (ref_good_c _ hpi) rfl rfl ?_ ?_ ?_ | refine acallH_sc (ref_split_c _ hpi) rfl rfl ?_ ?_ ?_ | refine acallQ_sc (ref_split_c _ hpi) rfl rfl ?_ ?_ ?_); iterate 2 (focus ((try simp (disch := omega) only [go_sem, wrap_n, toNat_pr2, strLt_eq, List.append_eq, srow_rset, srow_rgetD]) <;> (try omega) <;> fail)))
      | ((first | refine acallH_anyr (ref_good_c _ hpi) rfl ?_ ?_ | refine acallH_anyr (ref_split_c _ hpi) rfl ?_ ?_); (focus ((try simp (disch := omega) only [go_sem, wrap_n, toNat_pr2, strLt_eq, List.append_eq, srow_rset, srow_rgetD]) <;> (try omega) <;> fail)))
      | ((first | refine acallH_scx (ref_good_c _ hpi) rfl ?_ ?_ | refine acallQ_scx (ref_good_c _ hpi) rfl ?_ ?_ | refine acallH_anyx (ref_good_c _ hpi) ?_ ?_); (focus ((try simp (disch := omega) only [go_sem, wrap_n, toNat_pr2, strLt_eq, List.append_eq, srow_rset, srow_rgetD]) <;> (try omega) <;> fail)))
      | ((first | refine acallH_scx (ref_split_c _ hpi) rfl ?_ ?_ | refine acallQ_scx (ref_split_c _ hpi) rfl ?_ ?_ | refine acallH_anyx (ref_split_c _ hpi) ?_ ?_); (focus ((try simp (disch := omega) only [go_sem, wrap_n, toNat_pr2, strLt_eq, List.append_eq, srow_rset, srow_rgetD]) <;> (try omega) <;> fail)))); ((try simp (disch := omega) only [go_sem, wrap_n, toNat_pr2, strLt_eq, List.append_eq, srow_rset, srow_rgetD]) <;> (repeat' with_reducible refine And.intro ?_ ?_) <;> (try (with_reducible refine hK _ ?_; clear hK K))))
    | ((first | (with_reducible refine aunder_i ?_ ?_ <;> intro hg) | with_reducible intro hg) <;> (first | (exfalso; simp at hg; done) | (have hg' := hg; (try simp only [hcs, beq_iff_eq, ge_iff_le, gt_iff_lt] at hg'); ((try simp (disch := omega) only [hg, go_sem, wrap_n, toNat_pr2, strLt_eq, List.append_eq, srow_rset, srow_rgetD]) <;> (repeat' with_reducible refine And.intro ?_ ?_) <;> (try (with_reducible refine hK _ ?_; clear hK K))))))
                                                            | omega
  · (refine aend_retc ?_ rfl ?_ ?_ ?_ ?_; (focus (first | exact .inl rfl | exact .inr rfl)); (iterate 3 (focus ((try simp (disch := omega) only [go_sem, wrap_n]) <;> (try omega) <;> fail))); (try simp (disch := omega) only [go_sem, wrap_n, I, B, S, inj, List.cons.injEq, and_true, true_and, and_self]))
    refine nodeA_no (k := i) (by assumption) fun ⟨a1, a2, a3⟩ => ?_
    unfold nd at a1 a2 a3
    rcases hc with (h | h) | ⟨h0, h⟩
    · rw [a1] at h; cases h
    · omega
    · have h1 := a3 (by omega)
      rcases h with h | h
      · exact List.lt_irrefl _ (List.lt_trans h1 h)
      · rw [h] at h1; exact List.lt_irrefl _ h1
  · refine ⟨i + 1, ⟨by omega, fun j hj => ?_⟩, by omega, ?_⟩
    · by_cases e : j = i
      · subst e; exact ⟨hc.1.1, by unfold nd; omega, fun h0 => (hc.2.resolve_left (by omega)) |> fun h => lt_of_not h.1 h.2⟩
      · exact hi2 j (by omega)
    rw [← dirs_set t i]
    (refine SImp.frame [0, 1] rfl (by intro k hk; first | (simp at hk <;> (simp; omega)) | (simp only [List.mem_cons, List.not_mem_nil, or_false] at hk; simp only [List.length_cons, List.length_nil]; omega)) (by decide) (fun k hk => by first | omega | (rcases k with _ | _ | _ | _ | k <;> first | rfl | omega)) ?_ ?_ <;> simp (disch := omega) only [go_sem, wrap_n, Int.natCast_add, true_and] <;> (try rfl))
  obtain rfl : i = t.nodes.length := by omega
  clear hc
  have hT : ∀ j, j < t.nodes.length → nodeA t j := hi2
  clear hi2 hpi hdl
  refine AWP.loopB (ι := Nat) (fun k => k ≤ t.nodes.length ∧ ∀ j, j < k → statB t (nd t j).stat ∧ ownB t (nd t j).stat ∧ upB t j ∧ (nd t j).stat.kids = kidsN t (nd t j).path t.nodes.length) (fun k => t.nodes.length - k) [1, 5, 126, 127] (fun k => [(128, I k)]) (fun k => [.cells [.d (.int .i64 t.zxid), .d (.sl 9 (t.nodes.map ANode.row)), .d (.sl 1 (t.sessions.map irow))], .rows 1 ((dirsR t t.nodes.length).map srow)]) 0 ?_ ?_ ?_
  · exact ⟨by omega, fun j hj => by omega⟩
  · simp only [go_sem]; (refine SImp.same ?_; simp (disch := omega) only [go_sem, wrap_n, Int.natCast_add])
  intro j ⟨hj, hj2⟩
  simp only [go_sem]
  repeat' first
    | (with_reducible first | refine AWP.seq ?_ | refine thenA_n ?_ | refine thenA_r ?_ | refine thenA_e ?_ | refine blkA_n ?_ | refine blkA_r ?_ | refine blkA_e ?_ | refine blkA_x (by decide) ?_ | refine AWP.skip ?_ | refine AWP.ret ?_ | refine AWP.exit ?_ | refine AWP.block ?_)
    | (with_reducible refine AWP.cond rfl ?_ ?_ <;> intro hc <;> (try simp only [hcs, beq_iff_eq, ge_iff_le, gt_iff_lt] at hc))
    | ((first
      | (with_reducible first | refine AWP.region tabOk ?_ | refine AWP.quietC mixed tabOk (by decide +kernel) ?_ | refine AWP.draw mixed tabOk (by decide +kernel) ?_ | refine AWP.drawE mixed tabOk (by decide +kernel) ?_ | refine AWP.drawG mixed tabOk (by decide +kernel) ?_); intro K hK); ((try simp (disch := omega) only [go_sem, wrap_n]) <;> (repeat' with_reducible refine And.intro ?_ ?_) <;> (try (with_reducible refine hK _ ?_; clear hK K))))
    | ((first | (with_reducible refine aunder_i ?_ ?_ <;> intro hg) | with_reducible intro hg) <;> (first | (exfalso; simp at hg; done) | (have hg' := hg; (try simp only [hcs, beq_iff_eq, ge_iff_le, gt_iff_lt] at hg'); ((try simp (disch := omega) only [hg, go_sem, wrap_n]) <;> (repeat' with_reducible refine And.intro ?_ ?_) <;> (try (with_reducible refine hK _ ?_; clear hK K))))))
                                                            | omega
  rotate_left
  · (refine aend_retc ?_ rfl ?_ ?_ ?_ ?_; (focus (first | exact .inl rfl | exact .inr rfl)); (iterate 3 (focus ((try simp (disch := omega) only [go_sem, wrap_n]) <;> (try omega) <;> fail))); (try simp (disch := omega) only [go_sem, wrap_n, I, B, S, inj, List.cons.injEq, and_true, true_and, and_self]))
    exact (goodTr_iff.2 ⟨hhead, hss, hT, fun q hq => hj2 q (by omega)⟩).symm
  refine AWP.loopB (ι := Nat) (fun k => k ≤ t.nodes.length) (fun k => t.nodes.length - k) [1, 5, 8, 9, 126, 127, 128, 137] (fun k => [(138, I k), (10, I (kidsN t (nd t j).path k)), (11, B (upN t j k))]) (fun k => [.cells [.d (.int .i64 t.zxid), .d (.sl 9 (t.nodes.map ANode.row)), .d (.sl 1 (t.sessions.map irow))], .rows 1 ((dirsR t t.nodes.length).map srow), .cells [S (t.nodes.getD j default).path, S (t.nodes.getD j default).data, I (t.nodes.getD j default).stat.czxid, I (t.nodes.getD j default).stat.mzxid, I (t.nodes.getD j default).stat.pzxid, I (t.nodes.getD j default).stat.version, I (t.nodes.getD j default).stat.cversion, I (t.nodes.getD j default).stat.owner, I (t.nodes.getD j default).stat.kids]]) 0 ?_ ?_ ?_
  · omega
  · simp only [go_sem, kidsN_zero, upN_zero]; (refine SImp.same ?_; simp (disch := omega) only [go_sem, wrap_n, Int.natCast_add, Int.natCast_eq_zero])
  intro k hk
  have hkn := kidsN_le t (nd t j).path k
  have hdl := dirs_len t t.nodes.length
  simp only [go_sem]
  repeat' first
    | (with_reducible first | refine AWP.seq ?_ | refine thenA_n ?_ | refine thenA_r ?_ | refine thenA_e ?_ | refine blkA_n ?_ | refine blkA_r ?_ | refine blkA_e ?_ | refine blkA_x (by decide) ?_ | refine AWP.skip ?_ | refine AWP.ret ?_ | refine AWP.exit ?_ | refine AWP.block ?_)
    | (with_reducible refine AWP.cond rfl ?_ ?_ <;> intro hc <;> (try simp only [hcs, beq_iff_eq, ge_iff_le, gt_iff_lt] at hc))
    | ((first
      | (with_reducible first | refine AWP.region tabOk ?_ | refine AWP.quietC mixed tabOk (by decide +kernel) ?_ | refine AWP.draw mixed tabOk (by decide +kernel) ?_ | refine AWP.drawE mixed tabOk (by decide +kernel) ?_ | refine AWP.drawG mixed tabOk (by decide +kernel) ?_); intro K hK
      | ((first | refine acallH_sc (isOpen_c t _ hs) rfl rfl ?_ ?_ ?_ | refine acallQ_sc (isOpen_c t _ hs) rfl rfl ?_ ?_ ?_); iterate 2 (focus ((try simp (disch := omega) only [go_sem, wrap_n, List.append_eq, srow_rgetD, dirs_get]) <;> (try omega) <;> fail)))
      | ((first | refine acallH_anyr (isOpen_c t _ hs) rfl ?_ ?_); (focus ((try simp (disch := omega) only [go_sem, wrap_n, List.append_eq, srow_rgetD, dirs_get]) <;> (try omega) <;> fail)))
      | ((first | refine acallH_scx (isOpen_c t _ hs) rfl ?_ ?_ | refine acallQ_scx (isOpen_c t _ hs) rfl ?_ ?_ | refine acallH_anyx (isOpen_c t _ hs) ?_ ?_); (focus ((try simp (disch := omega) only [go_sem, wrap_n, List.append_eq, srow_rgetD, dirs_get]) <;> (try omega) <;> fail)))); ((try simp (disch := omega) only [go_sem, wrap_n, List.append_eq, srow_rgetD, dirs_get]) <;> (repeat' with_reducible refine And.intro ?_ ?_) <;> (try (with_reducible refine hK _ ?_; clear hK K))))
    | ((first | (with_reducible refine aunder_i ?_ ?_ <;> intro hg) | with_reducible intro hg) <;> (first | (exfalso; simp at hg; done) | (have hg' := hg; (try simp only [hcs, beq_iff_eq, ge_iff_le, gt_iff_lt] at hg'); ((try simp (disch := omega) only [hg, go_sem, wrap_n, List.append_eq, srow_rgetD, dirs_get]) <;> (repeat' with_reducible refine And.intro ?_ ?_) <;> (try (with_reducible refine hK _ ?_; clear hK K))))))
                                                            | omega
  · refine ⟨k + 1, by omega, by omega, ?_⟩
    rw [kidsN_succ, if_pos (show dirT t k = (nd t j).path from hc), upN_succ]
    (refine SImp.same ?_; simp (disch := omega) only [go_sem, wrap_n, Int.natCast_add, nd, B, I, Int.add_zero, Int.cast_ofNat_Int])
    congr
  · refine ⟨k + 1, by omega, by omega, ?_⟩
    rw [kidsN_succ, if_neg (show ¬ dirT t k = (nd t j).path from hc), upN_succ]
    (refine SImp.same ?_; simp (disch := omega) only [go_sem, wrap_n, Int.natCast_add, nd, B, I, Int.add_zero, Int.cast_ofNat_Int])
    congr
  · (refine aend_retc ?_ rfl ?_ ?_ ?_ ?_; (focus (first | exact .inl rfl | exact .inr rfl)); (iterate 3 (focus ((try simp (disch := omega) only [go_sem, wrap_n]) <;> (try omega) <;> fail))); (try simp (disch := omega) only [go_sem, wrap_n, I, B, S, inj, List.cons.injEq, and_true, true_and, and_self]))
    obtain rfl : k = t.nodes.length := by omega
    refine nodeB_no (k := j) (by assumption) fun ⟨⟨b1, b2, b3, b4, b5, b6, b7, b8, b9⟩, _, hu, hkd⟩ => ?_
    rw [← upN_iff] at hu
    have hkd' : (t.nodes.getD j default).stat.kids = (kidsN t (nd t j).path t.nodes.length : Nat) := hkd
    unfold nd at b1 b2 b3 b4 b5 b6 b7 b8 b9
    rcases hc with (((((((((h | h) | h) | h) | h) | h) | h) | h) | h) | h) | h
    · rw [hu] at h; cases h
    · exact h hkd'
    all_goals omega
  · (refine aend_retc ?_ rfl ?_ ?_ ?_ ?_; (focus (first | exact .inl rfl | exact .inr rfl)); (iterate 3 (focus ((try simp (disch := omega) only [go_sem, wrap_n]) <;> (try omega) <;> fail))); (try simp (disch := omega) only [go_sem, wrap_n, I, B, S, inj, List.cons.injEq, and_true, true_and, and_self]))
    obtain rfl : k = t.nodes.length := by omega
    refine nodeB_no (k := j) (by assumption) fun ⟨_, ho, _, hkd⟩ => ?_
    obtain ⟨o1, o2⟩ := ho hg'
    rcases hc with h | h
    · exact h o1
    · omega
  · obtain rfl : k = t.nodes.length := by omega
    refine ⟨j + 1, ⟨by omega, fun q hq => ?_⟩, by omega, ?_⟩
    · by_cases e : q = j
      · subst e; exact condQ_ok (by assumption) (fun _ => ⟨hc.1, by omega⟩)
      · exact hj2 q (by omega)
    (refine SImp.frame [0, 1] rfl (by intro k hk; first | (simp at hk <;> (simp; omega)) | (simp only [List.mem_cons, List.not_mem_nil, or_false] at hk; simp only [List.length_cons, List.length_nil]; omega)) (by decide) (fun k hk => by first | omega | (rcases k with _ | _ | _ | _ | k <;> first | rfl | omega)) ?_ ?_ <;> simp (disch := omega) only [go_sem, wrap_n, Int.natCast_add, true_and] <;> (try rfl))
  · obtain rfl : k = t.nodes.length := by omega
    refine ⟨j + 1, ⟨by omega, fun q hq => ?_⟩, by omega, ?_⟩
    · by_cases e : q = j
      · subst e; exact condQ_ok (by assumption) (fun h => absurd hg' h)
      · exact hj2 q (by omega)
    (refine SImp.frame [0, 1] rfl (by intro k hk; first | (simp at hk <;> (simp; omega)) | (simp only [List.mem_cons, List.not_mem_nil, or_false] at hk; simp only [List.length_cons, List.length_nil]; omega)) (by decide) (fun k hk => by first | omega | (rcases k with _ | _ | _ | _ | k <;> first | rfl | omega)) ?_ ?_ <;> simp (disch := omega) only [go_sem, wrap_n, Int.natCast_add, true_and] <;> (try rfl))
end Go.Proofs.YtmpfhalheaeibaaDoor
