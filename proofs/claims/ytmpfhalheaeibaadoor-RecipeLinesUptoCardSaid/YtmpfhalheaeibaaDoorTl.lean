/- Copies of trees, trees compared, and the law of looking into trees. No condition. -/
import Derived.Test.YtmpfhalheaeibaaDoorTq
namespace Go.Proofs.YtmpfhalheaeibaaDoor
set_option linter.unusedVariables false
set_option linter.unusedSimpArgs false
open Go Go.RowKit
set_option maxRecDepth 100000
set_option linter.unusedSimpArgs false

theorem copyT_c (t : ATree) (hw : t.wf) : acall Tryd.prog [] 27 [t.av] (ret t.av) := by
  obtain ⟨hz, ⟨hn, hnw⟩, ⟨hs, hsw⟩⟩ := hw
  refine acall_of tabOk Tryd.func27 rfl (by kernel_rfl) (by simp [Tryd.ntmps27]) ?_; simp only [Tryd.ntmps27, Tryd.results27, List.toList_toArray, apar, List.length_nil, List.length_cons, Nat.reduceAdd]
  repeat' first
    | (with_reducible first | refine AWP.seq ?_ | refine thenA_n ?_ | refine thenA_r ?_ | refine thenA_e ?_ | refine blkA_n ?_ | refine blkA_r ?_ | refine blkA_e ?_ | refine blkA_x (by decide) ?_ | refine AWP.skip ?_ | refine AWP.ret ?_ | refine AWP.exit ?_ | refine AWP.block ?_)
    | (with_reducible refine AWP.cond rfl ?_ ?_ <;> intro hc <;> (try simp only [hcs, beq_iff_eq, ge_iff_le, gt_iff_lt] at hc))
    | ((first
      | (with_reducible first | refine AWP.region tabOk ?_ | refine AWP.quietC mixed tabOk (by decide +kernel) ?_ | refine AWP.draw mixed tabOk (by decide +kernel) ?_ | refine AWP.drawE mixed tabOk (by decide +kernel) ?_ | refine AWP.drawG mixed tabOk (by decide +kernel) ?_); intro K hK); ((try simp (disch := omega) only [go_sem, wrap_n]) <;> (repeat' with_reducible refine And.intro ?_ ?_) <;> (try (with_reducible refine hK _ ?_; clear hK K))))
    | ((first | (with_reducible refine aunder_i ?_ ?_ <;> intro hg) | with_reducible intro hg) <;> (first | (exfalso; simp at hg; done) | (have hg' := hg; (try simp only [hcs, beq_iff_eq, ge_iff_le, gt_iff_lt] at hg'); ((try simp (disch := omega) only [hg, go_sem, wrap_n]) <;> (repeat' with_reducible refine And.intro ?_ ?_) <;> (try (with_reducible refine hK _ ?_; clear hK K))))))
                                                            | omega
  all_goals (refine aend_retc ?_ rfl ?_ ?_ ?_ ?_; (focus (first | exact .inl rfl | exact .inr rfl)); (iterate 3 (focus ((try simp (disch := omega) only [go_sem, wrap_n]) <;> (try omega) <;> fail))); (try simp (disch := omega) only [go_sem, wrap_n, I, B, S, inj, List.cons.injEq, and_true, true_and, and_self]))
theorem sameTree_c (a b : ATree) (ha : a.wf) (hb : b.wf) : acall Tryd.prog [] 32 [a.av, b.av] (ret (B (decide (a = b)))) := by
  obtain ⟨hz, ⟨hn, hnw⟩, ⟨hs, hsw⟩⟩ := ha
  obtain ⟨kz, ⟨kn, knw⟩, ⟨ks, ksw⟩⟩ := hb
  refine acall_of tabOk Tryd.func32 rfl (by kernel_rfl) (by simp [Tryd.ntmps32]) ?_; simp only [Tryd.ntmps32, Tryd.results32, List.toList_toArray, apar, List.length_nil, List.length_cons, Nat.reduceAdd]
  repeat' first
    | (with_reducible first | refine AWP.seq ?_ | refine thenA_n ?_ | refine thenA_r ?_ | refine thenA_e ?_ | refine blkA_n ?_ | refine blkA_r ?_ | refine blkA_e ?_ | refine blkA_x (by decide) ?_ | refine AWP.skip ?_ | refine AWP.ret ?_ | refine AWP.exit ?_ | refine AWP.block ?_)
    | (with_reducible refine AWP.cond rfl ?_ ?_ <;> intro hc <;> (try simp only [hcs, beq_iff_eq, ge_iff_le, gt_iff_lt] at hc))
    | ((first
      | (with_reducible first | refine AWP.region tabOk ?_ | refine AWP.quietC mixed tabOk (by decide +kernel) ?_ | refine AWP.draw mixed tabOk (by decide +kernel) ?_ | refine AWP.drawE mixed tabOk (by decide +kernel) ?_ | refine AWP.drawG mixed tabOk (by decide +kernel) ?_); intro K hK); ((try simp (disch := omega) only [go_sem, wrap_n]) <;> (repeat' with_reducible refine And.intro ?_ ?_) <;> (try (with_reducible refine hK _ ?_; clear hK K))))
    | ((first | (with_reducible refine aunder_i ?_ ?_ <;> intro hg) | with_reducible intro hg) <;> (first | (exfalso; simp at hg; done) | (have hg' := hg; (try simp only [hcs, beq_iff_eq, ge_iff_le, gt_iff_lt] at hg'); ((try simp (disch := omega) only [hg, go_sem, wrap_n]) <;> (repeat' with_reducible refine And.intro ?_ ?_) <;> (try (with_reducible refine hK _ ?_; clear hK K))))))
                                                            | omega
  · (refine aend_retc ?_ rfl ?_ ?_ ?_ ?_; (focus (first | exact .inl rfl | exact .inr rfl)); (iterate 3 (focus ((try simp (disch := omega) only [go_sem, wrap_n]) <;> (try omega) <;> fail))); (try simp (disch := omega) only [go_sem, wrap_n, I, B, S, inj, List.cons.injEq, and_true, true_and, and_self]))
    symm; rw [decide_eq_false_iff_not]; rintro rfl
    simp at hc
  obtain ⟨⟨e1, e2⟩, e3⟩ := hc
  refine AWP.loopS (ι := Nat) (fun k => k ≤ a.nodes.length ∧ ∀ j, j < k → a.nodes.getD j default = b.nodes.getD j default) (fun k => a.nodes.length - k) [2, 3, 32] (fun k => [(33, I k)]) 0 ?_ (by simp (disch := omega) only [go_sem, wrap_n, true_and]) ?_
  · exact ⟨by omega, fun j hj => by omega⟩
  intro k ⟨hk, hk2⟩
  simp only [go_sem]
  repeat' first
    | (with_reducible first | refine AWP.seq ?_ | refine thenA_n ?_ | refine thenA_r ?_ | refine thenA_e ?_ | refine blkA_n ?_ | refine blkA_r ?_ | refine blkA_e ?_ | refine blkA_x (by decide) ?_ | refine AWP.skip ?_ | refine AWP.ret ?_ | refine AWP.exit ?_ | refine AWP.block ?_)
    | (with_reducible refine AWP.cond rfl ?_ ?_ <;> intro hc <;> (try simp only [hcs, beq_iff_eq, ge_iff_le, gt_iff_lt] at hc))
    | ((first
      | (with_reducible first | refine AWP.region tabOk ?_ | refine AWP.quietC mixed tabOk (by decide +kernel) ?_ | refine AWP.draw mixed tabOk (by decide +kernel) ?_ | refine AWP.drawE mixed tabOk (by decide +kernel) ?_ | refine AWP.drawG mixed tabOk (by decide +kernel) ?_); intro K hK); ((try simp (disch := omega) only [go_sem, wrap_n]) <;> (repeat' with_reducible refine And.intro ?_ ?_) <;> (try (with_reducible refine hK _ ?_; clear hK K))))
    | ((first | (with_reducible refine aunder_i ?_ ?_ <;> intro hg) | with_reducible intro hg) <;> (first | (exfalso; simp at hg; done) | (have hg' := hg; (try simp only [hcs, beq_iff_eq, ge_iff_le, gt_iff_lt] at hg'); ((try simp (disch := omega) only [hg, go_sem, wrap_n]) <;> (repeat' with_reducible refine And.intro ?_ ?_) <;> (try (with_reducible refine hK _ ?_; clear hK K))))))
                                                            | omega
  · (refine aend_retc ?_ rfl ?_ ?_ ?_ ?_; (focus (first | exact .inl rfl | exact .inr rfl)); (iterate 3 (focus ((try simp (disch := omega) only [go_sem, wrap_n]) <;> (try omega) <;> fail))); (try simp (disch := omega) only [go_sem, wrap_n, I, B, S, inj, List.cons.injEq, and_true, true_and, and_self]))
    symm; rw [decide_eq_false_iff_not]; rintro rfl
    simp at hc
  · refine ⟨k + 1, ⟨by omega, fun j hj => ?_⟩, by omega, ?_⟩
    · by_cases e : j = k
      · subst e; exact (ANode.ext_iff _ _).2 hc
      · exact hk2 j (by omega)
    (refine SImp.same ?_; simp (disch := omega) only [go_sem, wrap_n, Int.natCast_add])
  have hnodes : a.nodes = b.nodes := eq_of_getD (by omega) fun j hj => hk2 j (by omega)
  clear hk hk2 hc
  refine AWP.loopS (ι := Nat) (fun j => j ≤ a.sessions.length ∧ ∀ i, i < j → a.sessions.getD i default = b.sessions.getD i default) (fun j => a.sessions.length - j) [2, 3, 50] (fun j => [(51, I j)]) 0 ?_ (by simp (disch := omega) only [go_sem, wrap_n, true_and]) ?_
  · exact ⟨by omega, fun j hj => by omega⟩
  intro j ⟨hj, hj2⟩
  simp only [go_sem]
  repeat' first
    | (with_reducible first | refine AWP.seq ?_ | refine thenA_n ?_ | refine thenA_r ?_ | refine thenA_e ?_ | refine blkA_n ?_ | refine blkA_r ?_ | refine blkA_e ?_ | refine blkA_x (by decide) ?_ | refine AWP.skip ?_ | refine AWP.ret ?_ | refine AWP.exit ?_ | refine AWP.block ?_)
    | (with_reducible refine AWP.cond rfl ?_ ?_ <;> intro hc <;> (try simp only [hcs, beq_iff_eq, ge_iff_le, gt_iff_lt] at hc))
    | ((first
      | (with_reducible first | refine AWP.region tabOk ?_ | refine AWP.quietC mixed tabOk (by decide +kernel) ?_ | refine AWP.draw mixed tabOk (by decide +kernel) ?_ | refine AWP.drawE mixed tabOk (by decide +kernel) ?_ | refine AWP.drawG mixed tabOk (by decide +kernel) ?_); intro K hK); ((try simp (disch := omega) only [go_sem, wrap_n]) <;> (repeat' with_reducible refine And.intro ?_ ?_) <;> (try (with_reducible refine hK _ ?_; clear hK K))))
    | ((first | (with_reducible refine aunder_i ?_ ?_ <;> intro hg) | with_reducible intro hg) <;> (first | (exfalso; simp at hg; done) | (have hg' := hg; (try simp only [hcs, beq_iff_eq, ge_iff_le, gt_iff_lt] at hg'); ((try simp (disch := omega) only [hg, go_sem, wrap_n]) <;> (repeat' with_reducible refine And.intro ?_ ?_) <;> (try (with_reducible refine hK _ ?_; clear hK K))))))
                                                            | omega
  · (refine aend_retc ?_ rfl ?_ ?_ ?_ ?_; (focus (first | exact .inl rfl | exact .inr rfl)); (iterate 3 (focus ((try simp (disch := omega) only [go_sem, wrap_n]) <;> (try omega) <;> fail))); (try simp (disch := omega) only [go_sem, wrap_n, I, B, S, inj, List.cons.injEq, and_true, true_and, and_self]))
    symm; rw [decide_eq_false_iff_not]; rintro rfl
    simp at hc
  · refine ⟨j + 1, ⟨by omega, fun i hi => ?_⟩, by omega, ?_⟩
    · by_cases e : i = j
      · subst e; exact hc
      · exact hj2 i (by omega)
    (refine SImp.same ?_; simp (disch := omega) only [go_sem, wrap_n, Int.natCast_add])
  · (refine aend_retc ?_ rfl ?_ ?_ ?_ ?_; (focus (first | exact .inl rfl | exact .inr rfl)); (iterate 3 (focus ((try simp (disch := omega) only [go_sem, wrap_n]) <;> (try omega) <;> fail))); (try simp (disch := omega) only [go_sem, wrap_n, I, B, S, inj, List.cons.injEq, and_true, true_and, and_self]))
    symm; rw [decide_eq_true_eq, ATree.ext_iff]
    exact ⟨e1, hnodes, eq_of_getD (by omega) fun i hi => hj2 i (by omega)⟩
theorem t00_good : goodTr t00 = true := by decide +kernel
theorem t00_wf : t00.wf := by
  refine ⟨by unfold okI t00; decide, ⟨by decide, fun y hy => ?_⟩, ⟨by decide, fun y hy => by cases hy⟩⟩
  rw [List.mem_singleton.1 hy]
  unfold ANode.wf AStat.wf okS okI; decide
theorem kidsT_len (t : ATree) (p : List UInt8) (h : t.nodes.length * 88 ≤ 140737488351232) : (kidsT t p).1.length * 16 ≤ 140737488351232 := by
  unfold kidsT
  split
  · have := kidsL_le t p t.nodes.length
    simp only; omega
  · decide
theorem node_smallD {t : ATree} (h : ∀ c, c ∈ t.row → SmallD 1048576 c) {x : ANode} (hx : x ∈ t.nodes) : ∀ c, c ∈ x.row → SmallD 1048576 c :=
  (h (.sl 9 (t.nodes.map ANode.row)) (by simp [ATree.row])).rows.2 _ (List.mem_map_of_mem hx)
theorem tree_small {t : ATree} (h : ∀ c, c ∈ t.row → SmallD 1048576 c) {x : ANode} (hx : x ∈ t.nodes) : x.path.length ≤ 1048576 :=
  (node_smallD h hx (DV.str x.path) (by simp [ANode.row])).len
set_option maxHeartbeats 8000000 in
theorem treeLooks_w (t : ATree) (p : List UInt8) (s : Int) (hw : t.wf) (hp : ∀ x, x ∈ t.nodes → x.path.length ≤ 1048576) : acall Tryd.prog [] 7 [t.av, S p, I s] (ret (B true)) := by
  have hn := hw.2.1.1
  have hs := hw.2.2.1
  have hkl := kidsT_len t p hn
  by_cases hg : goodTr t = true
  · have hr := good_rises hg
    have hri := good_sess hg
    refine acall_of tabOk Tryd.func7 rfl (by kernel_rfl) (by simp [Tryd.ntmps7]) ?_; simp only [Tryd.ntmps7, Tryd.results7, List.toList_toArray, apar, List.length_nil, List.length_cons, Nat.reduceAdd]
    repeat' first
      | (with_reducible first | refine AWP.seq ?_ | refine thenA_n ?_ | refine thenA_r ?_ | refine thenA_e ?_ | refine blkA_n ?_ | refine blkA_r ?_ | refine blkA_e ?_ | refine blkA_x (by decide) ?_ | refine AWP.skip ?_ | refine AWP.ret ?_ | refine AWP.exit ?_ | refine AWP.block ?_)
      | (with_reducible refine AWP.cond rfl ?_ ?_ <;> intro hc <;> (try simp only [hcs, beq_iff_eq, ge_iff_le, gt_iff_lt] at hc))
      | ((first
        | (with_reducible first | refine AWP.region tabOk ?_ | refine AWP.quietC mixed tabOk (by decide +kernel) ?_ | refine AWP.draw mixed tabOk (by decide +kernel) ?_ | refine AWP.drawE mixed tabOk (by decide +kernel) ?_ | refine AWP.drawG mixed tabOk (by decide +kernel) ?_); intro K hK
        | ((first | refine acallH_sc ((ref_tgood_c t hw hp).re (congrArg B hg)) rfl rfl ?_ ?_ ?_ | refine acallQ_sc ((ref_tgood_c t hw hp).re (congrArg B hg)) rfl rfl ?_ ?_ ?_ | refine acallH_sc (copyT_c t hw) rfl rfl ?_ ?_ ?_ | refine acallQ_sc (copyT_c t hw) rfl rfl ?_ ?_ ?_ | refine acallH_sc (getT_c t p hn hr) rfl rfl ?_ ?_ ?_ | refine acallQ_sc (getT_c t p hn hr) rfl rfl ?_ ?_ ?_ | refine acallH_sc (getN_c t p hn hr) rfl rfl ?_ ?_ ?_ | refine acallQ_sc (getN_c t p hn hr) rfl rfl ?_ ?_ ?_ | refine acallH_sc (kids_c t p hw hr) rfl rfl ?_ ?_ ?_ | refine acallQ_sc (kids_c t p hw hr) rfl rfl ?_ ?_ ?_ | refine acallH_sc (kidsOf_c t p hw hp hr) rfl rfl ?_ ?_ ?_ | refine acallQ_sc (kidsOf_c t p hw hp hr) rfl rfl ?_ ?_ ?_ | refine acallH_sc ((tgood_c t hw).re (congrArg B hg)) rfl rfl ?_ ?_ ?_ | refine acallQ_sc ((tgood_c t hw).re (congrArg B hg)) rfl rfl ?_ ?_ ?_ | refine acallH_sc (new_c) rfl rfl ?_ ?_ ?_ | refine acallQ_sc (new_c) rfl rfl ?_ ?_ ?_ | refine acallH_sc (ref_new_c) rfl rfl ?_ ?_ ?_ | refine acallQ_sc (ref_new_c) rfl rfl ?_ ?_ ?_ | refine acallH_sc (sameTree_c t00 t00 t00_wf t00_wf) rfl rfl ?_ ?_ ?_ | refine acallQ_sc (sameTree_c t00 t00 t00_wf t00_wf) rfl rfl ?_ ?_ ?_); iterate 2 (focus ((try simp (disch := omega) only [go_sem, wrap_n]) <;> (try omega) <;> fail)))
        | ((first | refine acallH_anyr ((ref_tgood_c t hw hp).re (congrArg B hg)) rfl ?_ ?_ | refine acallH_anyr (copyT_c t hw) rfl ?_ ?_ | refine acallH_anyr (getT_c t p hn hr) rfl ?_ ?_ | refine acallH_anyr (getN_c t p hn hr) rfl ?_ ?_ | refine acallH_anyr (kids_c t p hw hr) rfl ?_ ?_ | refine acallH_anyr (kidsOf_c t p hw hp hr) rfl ?_ ?_ | refine acallH_anyr ((tgood_c t hw).re (congrArg B hg)) rfl ?_ ?_ | refine acallH_anyr (new_c) rfl ?_ ?_ | refine acallH_anyr (ref_new_c) rfl ?_ ?_ | refine acallH_anyr (sameTree_c t00 t00 t00_wf t00_wf) rfl ?_ ?_); (focus ((try simp (disch := omega) only [go_sem, wrap_n]) <;> (try omega) <;> fail)))
        | ((first | refine acallH_scx ((ref_tgood_c t hw hp).re (congrArg B hg)) rfl ?_ ?_ | refine acallQ_scx ((ref_tgood_c t hw hp).re (congrArg B hg)) rfl ?_ ?_ | refine acallH_anyx ((ref_tgood_c t hw hp).re (congrArg B hg)) ?_ ?_); (focus ((try simp (disch := omega) only [go_sem, wrap_n]) <;> (try omega) <;> fail)))
        | ((first | refine acallH_scx (copyT_c t hw) rfl ?_ ?_ | refine acallQ_scx (copyT_c t hw) rfl ?_ ?_ | refine acallH_anyx (copyT_c t hw) ?_ ?_); (focus ((try simp (disch := omega) only [go_sem, wrap_n]) <;> (try omega) <;> fail)))
        | ((first | refine acallH_scx (getT_c t p hn hr) rfl ?_ ?_ | refine acallQ_scx (getT_c t p hn hr) rfl ?_ ?_ | refine acallH_anyx (getT_c t p hn hr) ?_ ?_); (focus ((try simp (disch := omega) only [go_sem, wrap_n]) <;> (try omega) <;> fail)))
        | ((first | refine acallH_scx (getN_c t p hn hr) rfl ?_ ?_ | refine acallQ_scx (getN_c t p hn hr) rfl ?_ ?_ | refine acallH_anyx (getN_c t p hn hr) ?_ ?_); (focus ((try simp (disch := omega) only [go_sem, wrap_n]) <;> (try omega) <;> fail)))
        | ((first | refine acallH_scx (kids_c t p hw hr) rfl ?_ ?_ | refine acallQ_scx (kids_c t p hw hr) rfl ?_ ?_ | refine acallH_anyx (kids_c t p hw hr) ?_ ?_); (focus ((try simp (disch := omega) only [go_sem, wrap_n]) <;> (try omega) <;> fail)))
        | ((first | refine acallH_scx (kidsOf_c t p hw hp hr) rfl ?_ ?_ | refine acallQ_scx (kidsOf_c t p hw hp hr) rfl ?_ ?_ | refine acallH_anyx (kidsOf_c t p hw hp hr) ?_ ?_); (focus ((try simp (disch := omega) only [go_sem, wrap_n]) <;> (try omega) <;> fail)))
        | ((first | refine acallH_scx ((tgood_c t hw).re (congrArg B hg)) rfl ?_ ?_ | refine acallQ_scx ((tgood_c t hw).re (congrArg B hg)) rfl ?_ ?_ | refine acallH_anyx ((tgood_c t hw).re (congrArg B hg)) ?_ ?_); (focus ((try simp (disch := omega) only [go_sem, wrap_n]) <;> (try omega) <;> fail)))
        | ((first | refine acallH_scx (new_c) rfl ?_ ?_ | refine acallQ_scx (new_c) rfl ?_ ?_ | refine acallH_anyx (new_c) ?_ ?_); (focus ((try simp (disch := omega) only [go_sem, wrap_n]) <;> (try omega) <;> fail)))
        | ((first | refine acallH_scx (ref_new_c) rfl ?_ ?_ | refine acallQ_scx (ref_new_c) rfl ?_ ?_ | refine acallH_anyx (ref_new_c) ?_ ?_); (focus ((try simp (disch := omega) only [go_sem, wrap_n]) <;> (try omega) <;> fail)))
        | ((first | refine acallH_scx (sameTree_c t00 t00 t00_wf t00_wf) rfl ?_ ?_ | refine acallQ_scx (sameTree_c t00 t00 t00_wf t00_wf) rfl ?_ ?_ | refine acallH_anyx (sameTree_c t00 t00 t00_wf t00_wf) ?_ ?_); (focus ((try simp (disch := omega) only [go_sem, wrap_n]) <;> (try omega) <;> fail)))); ((try simp (disch := omega) only [go_sem, wrap_n]) <;> (repeat' with_reducible refine And.intro ?_ ?_) <;> (try (with_reducible refine hK _ ?_; clear hK K))))
      | ((first | (with_reducible refine aunder_i ?_ ?_ <;> intro hg) | with_reducible intro hg) <;> (first | (exfalso; simp at hg; done) | (have hg' := hg; (try simp only [hcs, beq_iff_eq, ge_iff_le, gt_iff_lt] at hg'); ((try simp (disch := omega) only [hg, go_sem, wrap_n]) <;> (repeat' with_reducible refine And.intro ?_ ?_) <;> (try (with_reducible refine hK _ ?_; clear hK K))))))
                                                              | omega
    refine AWP.loopS (ι := Nat) (fun k => k ≤ (kidsT t p).1.length) (fun k => (kidsT t p).1.length - k) [2, 3, 11, 13] (fun k => [(15, I k)]) 0 ?_ (by simp (disch := omega) only [go_sem, wrap_n, true_and]) ?_
    · omega
    intro k hk
    simp only [go_sem]
    repeat' first
      | (with_reducible first | refine AWP.seq ?_ | refine thenA_n ?_ | refine thenA_r ?_ | refine thenA_e ?_ | refine blkA_n ?_ | refine blkA_r ?_ | refine blkA_e ?_ | refine blkA_x (by decide) ?_ | refine AWP.skip ?_ | refine AWP.ret ?_ | refine AWP.exit ?_ | refine AWP.block ?_)
      | (with_reducible refine AWP.cond rfl ?_ ?_ <;> intro hc <;> (try simp only [hcs, beq_iff_eq, ge_iff_le, gt_iff_lt] at hc))
      | ((first
        | (refine AWP.plan ((Plan.takes [0, 2, 5] (.fork 1 (.fork 3 (Plan.takes [4, 6, 7, 8] .done) 4 (Plan.takes [3, 6, 7, 8] .done)) 4 (Plan.takes [1, 3, 6, 7, 8] .done)))) mixed tabOk (by decide +kernel) ?_; intro K hK)
        | (with_reducible first | refine AWP.region tabOk ?_ | refine AWP.quietC mixed tabOk (by decide +kernel) ?_ | refine AWP.draw mixed tabOk (by decide +kernel) ?_ | refine AWP.drawE mixed tabOk (by decide +kernel) ?_ | refine AWP.drawG mixed tabOk (by decide +kernel) ?_); intro K hK
        | ((first | refine acallH_sc (copyT_c t hw) rfl rfl ?_ ?_ ?_ | refine acallQ_sc (copyT_c t hw) rfl rfl ?_ ?_ ?_ | refine acallH_sc (open_c t s hs hri) rfl rfl ?_ ?_ ?_ | refine acallQ_sc (open_c t s hs hri) rfl rfl ?_ ?_ ?_ | refine acallH_sc (isOpen_c t s hs) rfl rfl ?_ ?_ ?_ | refine acallQ_sc (isOpen_c t s hs) rfl rfl ?_ ?_ ?_); iterate 2 (focus ((try simp (disch := omega) only [go_sem, wrap_n, srow_rgetD]) <;> (try omega) <;> fail)))
        | ((first | refine acallH_anyr (copyT_c t hw) rfl ?_ ?_ | refine acallH_anyr (open_c t s hs hri) rfl ?_ ?_ | refine acallH_anyr (isOpen_c t s hs) rfl ?_ ?_); (focus ((try simp (disch := omega) only [go_sem, wrap_n, srow_rgetD]) <;> (try omega) <;> fail)))
        | ((first | refine acallH_scx (copyT_c t hw) rfl ?_ ?_ | refine acallQ_scx (copyT_c t hw) rfl ?_ ?_ | refine acallH_anyx (copyT_c t hw) ?_ ?_); (focus ((try simp (disch := omega) only [go_sem, wrap_n, srow_rgetD]) <;> (try omega) <;> fail)))
        | ((first | refine acallH_scx (open_c t s hs hri) rfl ?_ ?_ | refine acallQ_scx (open_c t s hs hri) rfl ?_ ?_ | refine acallH_anyx (open_c t s hs hri) ?_ ?_); (focus ((try simp (disch := omega) only [go_sem, wrap_n, srow_rgetD]) <;> (try omega) <;> fail)))
        | ((first | refine acallH_scx (isOpen_c t s hs) rfl ?_ ?_ | refine acallQ_scx (isOpen_c t s hs) rfl ?_ ?_ | refine acallH_anyx (isOpen_c t s hs) ?_ ?_); (focus ((try simp (disch := omega) only [go_sem, wrap_n, srow_rgetD]) <;> (try omega) <;> fail)))); ((try simp (disch := omega) only [go_sem, wrap_n, srow_rgetD]) <;> (repeat' with_reducible refine And.intro ?_ ?_) <;> (try (with_reducible refine hK _ ?_; clear hK K))))
      | ((first | (with_reducible refine aunder_i ?_ ?_ <;> intro hg) | with_reducible intro hg) <;> (first | (exfalso; simp at hg; done) | (have hg' := hg; (try simp only [hcs, beq_iff_eq, ge_iff_le, gt_iff_lt] at hg'); ((try simp (disch := omega) only [hg, go_sem, wrap_n, srow_rgetD]) <;> (repeat' with_reducible refine And.intro ?_ ?_) <;> (try (with_reducible refine hK _ ?_; clear hK K))))))
                                                              | omega
    · refine ⟨k + 1, by omega, by omega, ?_⟩
      (refine SImp.same ?_; simp (disch := omega) only [go_sem, wrap_n, Int.natCast_add])
    all_goals (refine aend_retc ?_ rfl ?_ ?_ ?_ ?_; (focus (first | exact .inl rfl | exact .inr rfl)); (iterate 3 (focus ((try simp (disch := omega) only [go_sem, wrap_n]) <;> (try omega) <;> fail))); (try simp (disch := omega) only [go_sem, wrap_n, I, B, S, inj, List.cons.injEq, and_true, true_and, and_self]))
  · refine acall_of tabOk Tryd.func7 rfl (by kernel_rfl) (by simp [Tryd.ntmps7]) ?_; simp only [Tryd.ntmps7, Tryd.results7, List.toList_toArray, apar, List.length_nil, List.length_cons, Nat.reduceAdd]
    have hg2 : goodTr t = false := by simpa using hg
    repeat' first
      | (with_reducible first | refine AWP.seq ?_ | refine thenA_n ?_ | refine thenA_r ?_ | refine thenA_e ?_ | refine blkA_n ?_ | refine blkA_r ?_ | refine blkA_e ?_ | refine blkA_x (by decide) ?_ | refine AWP.skip ?_ | refine AWP.ret ?_ | refine AWP.exit ?_ | refine AWP.block ?_)
      | (with_reducible refine AWP.cond rfl ?_ ?_ <;> intro hc <;> (try simp only [hcs, beq_iff_eq, ge_iff_le, gt_iff_lt] at hc))
      | ((first
        | (with_reducible first | refine AWP.region tabOk ?_ | refine AWP.quietC mixed tabOk (by decide +kernel) ?_ | refine AWP.draw mixed tabOk (by decide +kernel) ?_ | refine AWP.drawE mixed tabOk (by decide +kernel) ?_ | refine AWP.drawG mixed tabOk (by decide +kernel) ?_); intro K hK
        | ((first | refine acallH_sc ((ref_tgood_c t hw hp).re (congrArg B hg2)) rfl rfl ?_ ?_ ?_ | refine acallQ_sc ((ref_tgood_c t hw hp).re (congrArg B hg2)) rfl rfl ?_ ?_ ?_ | refine acallH_sc (copyT_c t hw) rfl rfl ?_ ?_ ?_ | refine acallQ_sc (copyT_c t hw) rfl rfl ?_ ?_ ?_ | refine acallH_sc ((tgood_c t hw).re (congrArg B hg2)) rfl rfl ?_ ?_ ?_ | refine acallQ_sc ((tgood_c t hw).re (congrArg B hg2)) rfl rfl ?_ ?_ ?_ | refine acallH_sc (ref_new_c) rfl rfl ?_ ?_ ?_ | refine acallQ_sc (ref_new_c) rfl rfl ?_ ?_ ?_ | refine acallH_sc ((tgood_c t00 t00_wf).re (congrArg B t00_good)) rfl rfl ?_ ?_ ?_ | refine acallQ_sc ((tgood_c t00 t00_wf).re (congrArg B t00_good)) rfl rfl ?_ ?_ ?_); iterate 2 (focus ((try simp (disch := omega) only [go_sem, wrap_n]) <;> (try omega) <;> fail)))
        | ((first | refine acallH_anyr ((ref_tgood_c t hw hp).re (congrArg B hg2)) rfl ?_ ?_ | refine acallH_anyr (copyT_c t hw) rfl ?_ ?_ | refine acallH_anyr ((tgood_c t hw).re (congrArg B hg2)) rfl ?_ ?_ | refine acallH_anyr (ref_new_c) rfl ?_ ?_ | refine acallH_anyr ((tgood_c t00 t00_wf).re (congrArg B t00_good)) rfl ?_ ?_); (focus ((try simp (disch := omega) only [go_sem, wrap_n]) <;> (try omega) <;> fail)))
        | ((first | refine acallH_scx ((ref_tgood_c t hw hp).re (congrArg B hg2)) rfl ?_ ?_ | refine acallQ_scx ((ref_tgood_c t hw hp).re (congrArg B hg2)) rfl ?_ ?_ | refine acallH_anyx ((ref_tgood_c t hw hp).re (congrArg B hg2)) ?_ ?_); (focus ((try simp (disch := omega) only [go_sem, wrap_n]) <;> (try omega) <;> fail)))
        | ((first | refine acallH_scx (copyT_c t hw) rfl ?_ ?_ | refine acallQ_scx (copyT_c t hw) rfl ?_ ?_ | refine acallH_anyx (copyT_c t hw) ?_ ?_); (focus ((try simp (disch := omega) only [go_sem, wrap_n]) <;> (try omega) <;> fail)))
        | ((first | refine acallH_scx ((tgood_c t hw).re (congrArg B hg2)) rfl ?_ ?_ | refine acallQ_scx ((tgood_c t hw).re (congrArg B hg2)) rfl ?_ ?_ | refine acallH_anyx ((tgood_c t hw).re (congrArg B hg2)) ?_ ?_); (focus ((try simp (disch := omega) only [go_sem, wrap_n]) <;> (try omega) <;> fail)))
        | ((first | refine acallH_scx (ref_new_c) rfl ?_ ?_ | refine acallQ_scx (ref_new_c) rfl ?_ ?_ | refine acallH_anyx (ref_new_c) ?_ ?_); (focus ((try simp (disch := omega) only [go_sem, wrap_n]) <;> (try omega) <;> fail)))
        | ((first | refine acallH_scx ((tgood_c t00 t00_wf).re (congrArg B t00_good)) rfl ?_ ?_ | refine acallQ_scx ((tgood_c t00 t00_wf).re (congrArg B t00_good)) rfl ?_ ?_ | refine acallH_anyx ((tgood_c t00 t00_wf).re (congrArg B t00_good)) ?_ ?_); (focus ((try simp (disch := omega) only [go_sem, wrap_n]) <;> (try omega) <;> fail)))); ((try simp (disch := omega) only [go_sem, wrap_n]) <;> (repeat' with_reducible refine And.intro ?_ ?_) <;> (try (with_reducible refine hK _ ?_; clear hK K))))
      | ((first | (with_reducible refine aunder_i ?_ ?_ <;> intro hg) | with_reducible intro hg) <;> (first | (exfalso; simp at hg; done) | (have hg' := hg; (try simp only [hcs, beq_iff_eq, ge_iff_le, gt_iff_lt] at hg'); ((try simp (disch := omega) only [hg, go_sem, wrap_n]) <;> (repeat' with_reducible refine And.intro ?_ ?_) <;> (try (with_reducible refine hK _ ?_; clear hK K))))))
                                                              | omega
    all_goals (refine aend_retc ?_ rfl ?_ ?_ ?_ ?_; (focus (first | exact .inl rfl | exact .inr rfl)); (iterate 3 (focus ((try simp (disch := omega) only [go_sem, wrap_n]) <;> (try omega) <;> fail))); (try simp (disch := omega) only [go_sem, wrap_n, I, B, S, inj, List.cons.injEq, and_true, true_and, and_self]))
theorem treeLooks_u (dss : List (List DV)) (h : typeds T 6 Tryd.f7.params.toList dss) (hs : ∀ cs, cs ∈ dss → ∀ c, c ∈ cs → SmallD 1048576 c) : acall Tryd.prog [] 7 (aargs T Tryd.f7.params.toList dss) (fun v _ => v = B true) := by
  rw [Tryd.params7] at h ⊢
  simp only [List.toList_toArray, typeds] at h
  obtain ⟨c0, d0, rfl, h0, c1, d1, rfl, h1, c2, d2, rfl, h2, rfl⟩ := h
  have s0 := hs c0 (by simp)
  have s1 := hs c1 (by simp)
  have s2 := hs c2 (by simp)
  obtain ⟨t, rfl, w_t⟩ := ATree_typed (m := 1) h0
  obtain ⟨p, rfl, w_p⟩ := ty_str (m := 5) (by simp only [T_9, ty9]) h1
  obtain ⟨s, rfl, w_s⟩ := ty_int (m := 5) (by simp only [T_3, ty3]) h2
  have u_t := s0
  have u_p := (s1 _ (List.mem_singleton.2 rfl)).len
  have u_s := s2
  simp only [List.toList_toArray, aargs, aarg, TI.agg_mk, T_3, ty3, T_9, ty9, T_44, ty44]
  exact (treeLooks_w t p s w_t (fun x hx => tree_small u_t hx)).mono fun _ _ h => h.1
end Go.Proofs.YtmpfhalheaeibaaDoor
