/- Contracts of path.Join, path.Serial and their references. No condition. -/
import Derived.Test.YtmpfhalheaeibaaDoorPg
import Derived.Test.YtmpfhalheaeibaaDoorDe
namespace Go.Proofs.YtmpfhalheaeibaaDoor
set_option linter.unusedVariables false
set_option linter.unusedSimpArgs false
open Go Go.RowKit
set_option maxRecDepth 100000
set_option linter.unusedSimpArgs false

theorem goodP_len {s : List UInt8} (h : goodP s = true) : s.length ≤ 200 := by
  unfold goodP at h
  rw [Bool.or_eq_true, decide_eq_true_eq, Bool.and_eq_true, decide_eq_true_eq] at h
  rcases h with h | h
  · subst h; decide
  · exact h.1
theorem namedP_len {s : List UInt8} (h : namedP s = true) : s.length ≤ 40 := by
  unfold namedP at h
  rw [Bool.and_eq_true, Bool.and_eq_true, decide_eq_true_eq] at h
  have := h.2.2; omega

def joinS (dir name : List UInt8) : List UInt8 := if dir = [47] then 47 :: name else dir ++ 47 :: name
def joinP (dir name : List UInt8) : List UInt8 × Int := if goodP dir = true ∧ namedP name = true then (if 200 < (joinS dir name).length then ([], 1) else (joinS dir name, 0)) else ([], 2)
theorem joinP_bad {dir name : List UInt8} (h : ¬ (goodP dir = true ∧ namedP name = true)) : joinP dir name = ([], 2) := by unfold joinP; rw [if_neg h]
theorem joinP_long {dir name : List UInt8} (h1 : goodP dir = true) (h2 : namedP name = true) (h : 200 < (joinS dir name).length) : joinP dir name = ([], 1) := by unfold joinP; rw [if_pos ⟨h1, h2⟩, if_pos h]
theorem joinP_ok {dir name : List UInt8} (h1 : goodP dir = true) (h2 : namedP name = true) (h : (joinS dir name).length ≤ 200) : joinP dir name = (joinS dir name, 0) := by unfold joinP; rw [if_pos ⟨h1, h2⟩, if_neg (by omega)]
theorem joinS_root (name : List UInt8) : joinS [47] name = 47 :: name := by unfold joinS; rw [if_pos rfl]
theorem joinS_ne {dir : List UInt8} (h : ¬ dir = [47]) (name : List UInt8) : joinS dir name = dir ++ 47 :: name := by unfold joinS; rw [if_neg h]
theorem join_c (dir name : List UInt8) (hd : okS dir) (hn : okS name) : acall Tryd.prog [] 100 [S dir, S name] (ret (.tup [S (joinP dir name).1, I (joinP dir name).2])) := by
  have hn' := hn
  unfold okS at hn'
  by_cases h1 : goodP dir = true
  case neg =>
    rw [joinP_bad (fun h => h1 h.1)]
    refine acall_of tabOk Tryd.func100 rfl (by kernel_rfl) (by simp [Tryd.ntmps100]) ?_; simp only [Tryd.ntmps100, Tryd.results100, List.toList_toArray, apar, List.length_nil, List.length_cons, Nat.reduceAdd]
    repeat' first
      | (with_reducible first | refine AWP.seq ?_ | refine thenA_n ?_ | refine thenA_r ?_ | refine thenA_e ?_ | refine blkA_n ?_ | refine blkA_r ?_ | refine blkA_e ?_ | refine blkA_x (by decide) ?_ | refine AWP.skip ?_ | refine AWP.ret ?_ | refine AWP.exit ?_ | refine AWP.block ?_)
      | (with_reducible refine AWP.cond rfl ?_ ?_ <;> intro hc <;> (try simp only [hcs, beq_iff_eq, ge_iff_le, gt_iff_lt] at hc))
      | ((first
        | (with_reducible first | refine AWP.region tabOk ?_ | refine AWP.quietC mixed tabOk (by decide +kernel) ?_ | refine AWP.draw mixed tabOk (by decide +kernel) ?_ | refine AWP.drawE mixed tabOk (by decide +kernel) ?_ | refine AWP.drawG mixed tabOk (by decide +kernel) ?_); intro K hK
        | ((first | refine acallH_sc ((good_c dir hd).re (congrArg B (eq_false_of_ne_true h1))) rfl rfl ?_ ?_ ?_ | refine acallQ_sc ((good_c dir hd).re (congrArg B (eq_false_of_ne_true h1))) rfl rfl ?_ ?_ ?_); iterate 2 (focus ((try simp (disch := omega) only [go_sem, wrap_n]) <;> (try omega) <;> fail)))
        | ((first | refine acallH_anyr ((good_c dir hd).re (congrArg B (eq_false_of_ne_true h1))) rfl ?_ ?_); (focus ((try simp (disch := omega) only [go_sem, wrap_n]) <;> (try omega) <;> fail)))
        | ((first | refine acallH_scx ((good_c dir hd).re (congrArg B (eq_false_of_ne_true h1))) rfl ?_ ?_ | refine acallQ_scx ((good_c dir hd).re (congrArg B (eq_false_of_ne_true h1))) rfl ?_ ?_ | refine acallH_anyx ((good_c dir hd).re (congrArg B (eq_false_of_ne_true h1))) ?_ ?_); (focus ((try simp (disch := omega) only [go_sem, wrap_n]) <;> (try omega) <;> fail)))); ((try simp (disch := omega) only [go_sem, wrap_n]) <;> (repeat' with_reducible refine And.intro ?_ ?_) <;> (try (with_reducible refine hK _ ?_; clear hK K))))
      | ((first | (with_reducible refine aunder_i ?_ ?_ <;> intro hg) | with_reducible intro hg) <;> (first | (exfalso; simp at hg; done) | (have hg' := hg; (try simp only [hcs, beq_iff_eq, ge_iff_le, gt_iff_lt] at hg'); ((try simp (disch := omega) only [hg, go_sem, wrap_n]) <;> (repeat' with_reducible refine And.intro ?_ ?_) <;> (try (with_reducible refine hK _ ?_; clear hK K))))))
                                                              | omega
    (refine aend_retc ?_ rfl ?_ ?_ ?_ ?_; (focus (first | exact .inl rfl | exact .inr rfl)); (iterate 3 (focus ((try simp (disch := omega) only [go_sem, wrap_n]) <;> (try omega) <;> fail))); (try simp (disch := omega) only [go_sem, wrap_n, I, B, S, inj, List.cons.injEq, and_true, true_and, and_self]))
  by_cases h2 : namedP name = true
  case neg =>
    rw [joinP_bad (fun h => h2 h.2)]
    refine acall_of tabOk Tryd.func100 rfl (by kernel_rfl) (by simp [Tryd.ntmps100]) ?_; simp only [Tryd.ntmps100, Tryd.results100, List.toList_toArray, apar, List.length_nil, List.length_cons, Nat.reduceAdd]
    repeat' first
      | (with_reducible first | refine AWP.seq ?_ | refine thenA_n ?_ | refine thenA_r ?_ | refine thenA_e ?_ | refine blkA_n ?_ | refine blkA_r ?_ | refine blkA_e ?_ | refine blkA_x (by decide) ?_ | refine AWP.skip ?_ | refine AWP.ret ?_ | refine AWP.exit ?_ | refine AWP.block ?_)
      | (with_reducible refine AWP.cond rfl ?_ ?_ <;> intro hc <;> (try simp only [hcs, beq_iff_eq, ge_iff_le, gt_iff_lt] at hc))
      | ((first
        | (with_reducible first | refine AWP.region tabOk ?_ | refine AWP.quietC mixed tabOk (by decide +kernel) ?_ | refine AWP.draw mixed tabOk (by decide +kernel) ?_ | refine AWP.drawE mixed tabOk (by decide +kernel) ?_ | refine AWP.drawG mixed tabOk (by decide +kernel) ?_); intro K hK
        | ((first | refine acallH_sc ((good_c dir hd).re (by rw [h1])) rfl rfl ?_ ?_ ?_ | refine acallQ_sc ((good_c dir hd).re (by rw [h1])) rfl rfl ?_ ?_ ?_ | refine acallH_sc ((named_c name hn).re (congrArg B (eq_false_of_ne_true h2))) rfl rfl ?_ ?_ ?_ | refine acallQ_sc ((named_c name hn).re (congrArg B (eq_false_of_ne_true h2))) rfl rfl ?_ ?_ ?_); iterate 2 (focus ((try simp (disch := omega) only [go_sem, wrap_n]) <;> (try omega) <;> fail)))
        | ((first | refine acallH_anyr ((good_c dir hd).re (by rw [h1])) rfl ?_ ?_ | refine acallH_anyr ((named_c name hn).re (congrArg B (eq_false_of_ne_true h2))) rfl ?_ ?_); (focus ((try simp (disch := omega) only [go_sem, wrap_n]) <;> (try omega) <;> fail)))
        | ((first | refine acallH_scx ((good_c dir hd).re (by rw [h1])) rfl ?_ ?_ | refine acallQ_scx ((good_c dir hd).re (by rw [h1])) rfl ?_ ?_ | refine acallH_anyx ((good_c dir hd).re (by rw [h1])) ?_ ?_); (focus ((try simp (disch := omega) only [go_sem, wrap_n]) <;> (try omega) <;> fail)))
        | ((first | refine acallH_scx ((named_c name hn).re (congrArg B (eq_false_of_ne_true h2))) rfl ?_ ?_ | refine acallQ_scx ((named_c name hn).re (congrArg B (eq_false_of_ne_true h2))) rfl ?_ ?_ | refine acallH_anyx ((named_c name hn).re (congrArg B (eq_false_of_ne_true h2))) ?_ ?_); (focus ((try simp (disch := omega) only [go_sem, wrap_n]) <;> (try omega) <;> fail)))); ((try simp (disch := omega) only [go_sem, wrap_n]) <;> (repeat' with_reducible refine And.intro ?_ ?_) <;> (try (with_reducible refine hK _ ?_; clear hK K))))
      | ((first | (with_reducible refine aunder_i ?_ ?_ <;> intro hg) | with_reducible intro hg) <;> (first | (exfalso; simp at hg; done) | (have hg' := hg; (try simp only [hcs, beq_iff_eq, ge_iff_le, gt_iff_lt] at hg'); ((try simp (disch := omega) only [hg, go_sem, wrap_n]) <;> (repeat' with_reducible refine And.intro ?_ ?_) <;> (try (with_reducible refine hK _ ?_; clear hK K))))))
                                                              | omega
    (refine aend_retc ?_ rfl ?_ ?_ ?_ ?_; (focus (first | exact .inl rfl | exact .inr rfl)); (iterate 3 (focus ((try simp (disch := omega) only [go_sem, wrap_n]) <;> (try omega) <;> fail))); (try simp (disch := omega) only [go_sem, wrap_n, I, B, S, inj, List.cons.injEq, and_true, true_and, and_self]))
  have g1 := goodP_len h1
  have g2 := namedP_len h2
  refine acall_of tabOk Tryd.func100 rfl (by kernel_rfl) (by simp [Tryd.ntmps100]) ?_; simp only [Tryd.ntmps100, Tryd.results100, List.toList_toArray, apar, List.length_nil, List.length_cons, Nat.reduceAdd]
  repeat' first
    | (with_reducible first | refine AWP.seq ?_ | refine thenA_n ?_ | refine thenA_r ?_ | refine thenA_e ?_ | refine blkA_n ?_ | refine blkA_r ?_ | refine blkA_e ?_ | refine blkA_x (by decide) ?_ | refine AWP.skip ?_ | refine AWP.ret ?_ | refine AWP.exit ?_ | refine AWP.block ?_)
    | (with_reducible refine AWP.cond rfl ?_ ?_ <;> intro hc <;> (try simp only [hcs, beq_iff_eq, ge_iff_le, gt_iff_lt] at hc))
    | ((first
      | (with_reducible first | refine AWP.region tabOk ?_ | refine AWP.quietC mixed tabOk (by decide +kernel) ?_ | refine AWP.draw mixed tabOk (by decide +kernel) ?_ | refine AWP.drawE mixed tabOk (by decide +kernel) ?_ | refine AWP.drawG mixed tabOk (by decide +kernel) ?_); intro K hK
      | ((first | refine acallH_sc ((good_c dir hd).re (by rw [h1])) rfl rfl ?_ ?_ ?_ | refine acallQ_sc ((good_c dir hd).re (by rw [h1])) rfl rfl ?_ ?_ ?_ | refine acallH_sc ((named_c name hn).re (by rw [h2])) rfl rfl ?_ ?_ ?_ | refine acallQ_sc ((named_c name hn).re (by rw [h2])) rfl rfl ?_ ?_ ?_); iterate 2 (focus ((try simp (disch := omega) only [go_sem, wrap_n, List.append_assoc, List.cons_append, List.nil_append, List.singleton_append]) <;> (try omega) <;> fail)))
      | ((first | refine acallH_anyr ((good_c dir hd).re (by rw [h1])) rfl ?_ ?_ | refine acallH_anyr ((named_c name hn).re (by rw [h2])) rfl ?_ ?_); (focus ((try simp (disch := omega) only [go_sem, wrap_n, List.append_assoc, List.cons_append, List.nil_append, List.singleton_append]) <;> (try omega) <;> fail)))
      | ((first | refine acallH_scx ((good_c dir hd).re (by rw [h1])) rfl ?_ ?_ | refine acallQ_scx ((good_c dir hd).re (by rw [h1])) rfl ?_ ?_ | refine acallH_anyx ((good_c dir hd).re (by rw [h1])) ?_ ?_); (focus ((try simp (disch := omega) only [go_sem, wrap_n, List.append_assoc, List.cons_append, List.nil_append, List.singleton_append]) <;> (try omega) <;> fail)))
      | ((first | refine acallH_scx ((named_c name hn).re (by rw [h2])) rfl ?_ ?_ | refine acallQ_scx ((named_c name hn).re (by rw [h2])) rfl ?_ ?_ | refine acallH_anyx ((named_c name hn).re (by rw [h2])) ?_ ?_); (focus ((try simp (disch := omega) only [go_sem, wrap_n, List.append_assoc, List.cons_append, List.nil_append, List.singleton_append]) <;> (try omega) <;> fail)))); ((try simp (disch := omega) only [go_sem, wrap_n, List.append_assoc, List.cons_append, List.nil_append, List.singleton_append]) <;> (repeat' with_reducible refine And.intro ?_ ?_) <;> (try (with_reducible refine hK _ ?_; clear hK K))))
    | ((first | (with_reducible refine aunder_i ?_ ?_ <;> intro hg) | with_reducible intro hg) <;> (first | (exfalso; simp at hg; done) | (have hg' := hg; (try simp only [hcs, beq_iff_eq, ge_iff_le, gt_iff_lt] at hg'); ((try simp (disch := omega) only [hg, go_sem, wrap_n, List.append_assoc, List.cons_append, List.nil_append, List.singleton_append]) <;> (repeat' with_reducible refine And.intro ?_ ?_) <;> (try (with_reducible refine hK _ ?_; clear hK K))))))
                                                            | omega
  all_goals rcases Decidable.em (dir = [47]) with e | e
  all_goals first
    | (exfalso; simp_all; done)
    | (have hl : 200 < (joinS dir name).length := by (first | rw [e, joinS_root, List.length_cons] | rw [joinS_ne e, List.length_append, List.length_cons]) <;> (try simp [e] at hc) <;> omega
       rw [joinP_long h1 h2 hl]; (refine aend_retc ?_ rfl ?_ ?_ ?_ ?_; (focus (first | exact .inl rfl | exact .inr rfl)); (iterate 3 (focus ((try simp (disch := omega) only [go_sem, wrap_n]) <;> (try omega) <;> fail))); (try simp (disch := omega) only [go_sem, wrap_n, I, B, S, inj, List.cons.injEq, and_true, true_and, and_self])))
    | (have hl : (joinS dir name).length ≤ 200 := by (first | rw [e, joinS_root, List.length_cons] | rw [joinS_ne e, List.length_append, List.length_cons]) <;> (try simp [e] at hc) <;> omega
       rw [joinP_ok h1 h2 hl]; (first | rw [e, joinS_root] | rw [joinS_ne e]); (refine aend_retc ?_ rfl ?_ ?_ ?_ ?_; (focus (first | exact .inl rfl | exact .inr rfl)); (iterate 3 (focus ((try simp (disch := omega) only [go_sem, wrap_n, List.cons_append, List.nil_append]) <;> (try omega) <;> fail))); (try simp (disch := omega) only [go_sem, wrap_n, List.cons_append, List.nil_append, I, B, S, inj, List.cons.injEq, and_true, true_and, and_self])))
theorem ref_join_c (dir name : List UInt8) (hd : dir.length ≤ 1048576) (hn : okS name) : acall Tryd.prog [] 101 [S dir, S name] (ret (.tup [S (joinP dir name).1, I (joinP dir name).2])) := by
  have hn' := hn
  unfold okS at hn'
  by_cases h1 : goodP dir = true
  case neg =>
    rw [joinP_bad (fun h => h1 h.1)]
    refine acall_of tabOk Tryd.func101 rfl (by kernel_rfl) (by simp [Tryd.ntmps101]) ?_; simp only [Tryd.ntmps101, Tryd.results101, List.toList_toArray, apar, List.length_nil, List.length_cons, Nat.reduceAdd]
    repeat' first
      | (with_reducible first | refine AWP.seq ?_ | refine thenA_n ?_ | refine thenA_r ?_ | refine thenA_e ?_ | refine blkA_n ?_ | refine blkA_r ?_ | refine blkA_e ?_ | refine blkA_x (by decide) ?_ | refine AWP.skip ?_ | refine AWP.ret ?_ | refine AWP.exit ?_ | refine AWP.block ?_)
      | (with_reducible refine AWP.cond rfl ?_ ?_ <;> intro hc <;> (try simp only [hcs, beq_iff_eq, ge_iff_le, gt_iff_lt] at hc))
      | ((first
        | (with_reducible first | refine AWP.region tabOk ?_ | refine AWP.quietC mixed tabOk (by decide +kernel) ?_ | refine AWP.draw mixed tabOk (by decide +kernel) ?_ | refine AWP.drawE mixed tabOk (by decide +kernel) ?_ | refine AWP.drawG mixed tabOk (by decide +kernel) ?_); intro K hK
        | ((first | refine acallH_sc ((ref_good_c dir hd).re (congrArg B (eq_false_of_ne_true h1))) rfl rfl ?_ ?_ ?_ | refine acallQ_sc ((ref_good_c dir hd).re (congrArg B (eq_false_of_ne_true h1))) rfl rfl ?_ ?_ ?_); iterate 2 (focus ((try simp (disch := omega) only [go_sem, wrap_n]) <;> (try omega) <;> fail)))
        | ((first | refine acallH_anyr ((ref_good_c dir hd).re (congrArg B (eq_false_of_ne_true h1))) rfl ?_ ?_); (focus ((try simp (disch := omega) only [go_sem, wrap_n]) <;> (try omega) <;> fail)))
        | ((first | refine acallH_scx ((ref_good_c dir hd).re (congrArg B (eq_false_of_ne_true h1))) rfl ?_ ?_ | refine acallQ_scx ((ref_good_c dir hd).re (congrArg B (eq_false_of_ne_true h1))) rfl ?_ ?_ | refine acallH_anyx ((ref_good_c dir hd).re (congrArg B (eq_false_of_ne_true h1))) ?_ ?_); (focus ((try simp (disch := omega) only [go_sem, wrap_n]) <;> (try omega) <;> fail)))); ((try simp (disch := omega) only [go_sem, wrap_n]) <;> (repeat' with_reducible refine And.intro ?_ ?_) <;> (try (with_reducible refine hK _ ?_; clear hK K))))
      | ((first | (with_reducible refine aunder_i ?_ ?_ <;> intro hg) | with_reducible intro hg) <;> (first | (exfalso; simp at hg; done) | (have hg' := hg; (try simp only [hcs, beq_iff_eq, ge_iff_le, gt_iff_lt] at hg'); ((try simp (disch := omega) only [hg, go_sem, wrap_n]) <;> (repeat' with_reducible refine And.intro ?_ ?_) <;> (try (with_reducible refine hK _ ?_; clear hK K))))))
                                                              | omega
    (refine aend_retc ?_ rfl ?_ ?_ ?_ ?_; (focus (first | exact .inl rfl | exact .inr rfl)); (iterate 3 (focus ((try simp (disch := omega) only [go_sem, wrap_n]) <;> (try omega) <;> fail))); (try simp (disch := omega) only [go_sem, wrap_n, I, B, S, inj, List.cons.injEq, and_true, true_and, and_self]))
  by_cases h2 : namedP name = true
  case neg =>
    rw [joinP_bad (fun h => h2 h.2)]
    refine acall_of tabOk Tryd.func101 rfl (by kernel_rfl) (by simp [Tryd.ntmps101]) ?_; simp only [Tryd.ntmps101, Tryd.results101, List.toList_toArray, apar, List.length_nil, List.length_cons, Nat.reduceAdd]
    repeat' first
      | (with_reducible first | refine AWP.seq ?_ | refine thenA_n ?_ | refine thenA_r ?_ | refine thenA_e ?_ | refine blkA_n ?_ | refine blkA_r ?_ | refine blkA_e ?_ | refine blkA_x (by decide) ?_ | refine AWP.skip ?_ | refine AWP.ret ?_ | refine AWP.exit ?_ | refine AWP.block ?_)
      | (with_reducible refine AWP.cond rfl ?_ ?_ <;> intro hc <;> (try simp only [hcs, beq_iff_eq, ge_iff_le, gt_iff_lt] at hc))
      | ((first
        | (with_reducible first | refine AWP.region tabOk ?_ | refine AWP.quietC mixed tabOk (by decide +kernel) ?_ | refine AWP.draw mixed tabOk (by decide +kernel) ?_ | refine AWP.drawE mixed tabOk (by decide +kernel) ?_ | refine AWP.drawG mixed tabOk (by decide +kernel) ?_); intro K hK
        | ((first | refine acallH_sc ((ref_good_c dir hd).re (by rw [h1])) rfl rfl ?_ ?_ ?_ | refine acallQ_sc ((ref_good_c dir hd).re (by rw [h1])) rfl rfl ?_ ?_ ?_ | refine acallH_sc ((ref_named_c name hn).re (congrArg B (eq_false_of_ne_true h2))) rfl rfl ?_ ?_ ?_ | refine acallQ_sc ((ref_named_c name hn).re (congrArg B (eq_false_of_ne_true h2))) rfl rfl ?_ ?_ ?_); iterate 2 (focus ((try simp (disch := omega) only [go_sem, wrap_n]) <;> (try omega) <;> fail)))
        | ((first | refine acallH_anyr ((ref_good_c dir hd).re (by rw [h1])) rfl ?_ ?_ | refine acallH_anyr ((ref_named_c name hn).re (congrArg B (eq_false_of_ne_true h2))) rfl ?_ ?_); (focus ((try simp (disch := omega) only [go_sem, wrap_n]) <;> (try omega) <;> fail)))
        | ((first | refine acallH_scx ((ref_good_c dir hd).re (by rw [h1])) rfl ?_ ?_ | refine acallQ_scx ((ref_good_c dir hd).re (by rw [h1])) rfl ?_ ?_ | refine acallH_anyx ((ref_good_c dir hd).re (by rw [h1])) ?_ ?_); (focus ((try simp (disch := omega) only [go_sem, wrap_n]) <;> (try omega) <;> fail)))
        | ((first | refine acallH_scx ((ref_named_c name hn).re (congrArg B (eq_false_of_ne_true h2))) rfl ?_ ?_ | refine acallQ_scx ((ref_named_c name hn).re (congrArg B (eq_false_of_ne_true h2))) rfl ?_ ?_ | refine acallH_anyx ((ref_named_c name hn).re (congrArg B (eq_false_of_ne_true h2))) ?_ ?_); (focus ((try simp (disch := omega) only [go_sem, wrap_n]) <;> (try omega) <;> fail)))); ((try simp (disch := omega) only [go_sem, wrap_n]) <;> (repeat' with_reducible refine And.intro ?_ ?_) <;> (try (with_reducible refine hK _ ?_; clear hK K))))
      | ((first | (with_reducible refine aunder_i ?_ ?_ <;> intro hg) | with_reducible intro hg) <;> (first | (exfalso; simp at hg; done) | (have hg' := hg; (try simp only [hcs, beq_iff_eq, ge_iff_le, gt_iff_lt] at hg'); ((try simp (disch := omega) only [hg, go_sem, wrap_n]) <;> (repeat' with_reducible refine And.intro ?_ ?_) <;> (try (with_reducible refine hK _ ?_; clear hK K))))))
                                                              | omega
    (refine aend_retc ?_ rfl ?_ ?_ ?_ ?_; (focus (first | exact .inl rfl | exact .inr rfl)); (iterate 3 (focus ((try simp (disch := omega) only [go_sem, wrap_n]) <;> (try omega) <;> fail))); (try simp (disch := omega) only [go_sem, wrap_n, I, B, S, inj, List.cons.injEq, and_true, true_and, and_self]))
  have g1 := goodP_len h1
  have g2 := namedP_len h2
  refine acall_of tabOk Tryd.func101 rfl (by kernel_rfl) (by simp [Tryd.ntmps101]) ?_; simp only [Tryd.ntmps101, Tryd.results101, List.toList_toArray, apar, List.length_nil, List.length_cons, Nat.reduceAdd]
  repeat' first
    | (with_reducible first | refine AWP.seq ?_ | refine thenA_n ?_ | refine thenA_r ?_ | refine thenA_e ?_ | refine blkA_n ?_ | refine blkA_r ?_ | refine blkA_e ?_ | refine blkA_x (by decide) ?_ | refine AWP.skip ?_ | refine AWP.ret ?_ | refine AWP.exit ?_ | refine AWP.block ?_)
    | (with_reducible refine AWP.cond rfl ?_ ?_ <;> intro hc <;> (try simp only [hcs, beq_iff_eq, ge_iff_le, gt_iff_lt] at hc))
    | ((first
      | (with_reducible first | refine AWP.region tabOk ?_ | refine AWP.quietC mixed tabOk (by decide +kernel) ?_ | refine AWP.draw mixed tabOk (by decide +kernel) ?_ | refine AWP.drawE mixed tabOk (by decide +kernel) ?_ | refine AWP.drawG mixed tabOk (by decide +kernel) ?_); intro K hK
      | ((first | refine acallH_sc ((ref_good_c dir hd).re (by rw [h1])) rfl rfl ?_ ?_ ?_ | refine acallQ_sc ((ref_good_c dir hd).re (by rw [h1])) rfl rfl ?_ ?_ ?_ | refine acallH_sc ((ref_named_c name hn).re (by rw [h2])) rfl rfl ?_ ?_ ?_ | refine acallQ_sc ((ref_named_c name hn).re (by rw [h2])) rfl rfl ?_ ?_ ?_); iterate 2 (focus ((try simp (disch := omega) only [go_sem, wrap_n, List.append_assoc, List.cons_append, List.nil_append, List.singleton_append]) <;> (try omega) <;> fail)))
      | ((first | refine acallH_anyr ((ref_good_c dir hd).re (by rw [h1])) rfl ?_ ?_ | refine acallH_anyr ((ref_named_c name hn).re (by rw [h2])) rfl ?_ ?_); (focus ((try simp (disch := omega) only [go_sem, wrap_n, List.append_assoc, List.cons_append, List.nil_append, List.singleton_append]) <;> (try omega) <;> fail)))
      | ((first | refine acallH_scx ((ref_good_c dir hd).re (by rw [h1])) rfl ?_ ?_ | refine acallQ_scx ((ref_good_c dir hd).re (by rw [h1])) rfl ?_ ?_ | refine acallH_anyx ((ref_good_c dir hd).re (by rw [h1])) ?_ ?_); (focus ((try simp (disch := omega) only [go_sem, wrap_n, List.append_assoc, List.cons_append, List.nil_append, List.singleton_append]) <;> (try omega) <;> fail)))
      | ((first | refine acallH_scx ((ref_named_c name hn).re (by rw [h2])) rfl ?_ ?_ | refine acallQ_scx ((ref_named_c name hn).re (by rw [h2])) rfl ?_ ?_ | refine acallH_anyx ((ref_named_c name hn).re (by rw [h2])) ?_ ?_); (focus ((try simp (disch := omega) only [go_sem, wrap_n, List.append_assoc, List.cons_append, List.nil_append, List.singleton_append]) <;> (try omega) <;> fail)))); ((try simp (disch := omega) only [go_sem, wrap_n, List.append_assoc, List.cons_append, List.nil_append, List.singleton_append]) <;> (repeat' with_reducible refine And.intro ?_ ?_) <;> (try (with_reducible refine hK _ ?_; clear hK K))))
    | ((first | (with_reducible refine aunder_i ?_ ?_ <;> intro hg) | with_reducible intro hg) <;> (first | (exfalso; simp at hg; done) | (have hg' := hg; (try simp only [hcs, beq_iff_eq, ge_iff_le, gt_iff_lt] at hg'); ((try simp (disch := omega) only [hg, go_sem, wrap_n, List.append_assoc, List.cons_append, List.nil_append, List.singleton_append]) <;> (repeat' with_reducible refine And.intro ?_ ?_) <;> (try (with_reducible refine hK _ ?_; clear hK K))))))
                                                            | omega
  all_goals rcases Decidable.em (dir = [47]) with e | e
  all_goals first
    | (exfalso; simp_all; done)
    | (have hl : 200 < (joinS dir name).length := by (first | rw [e, joinS_root, List.length_cons] | rw [joinS_ne e, List.length_append, List.length_cons]) <;> (try simp [e] at hc) <;> omega
       rw [joinP_long h1 h2 hl]; (refine aend_retc ?_ rfl ?_ ?_ ?_ ?_; (focus (first | exact .inl rfl | exact .inr rfl)); (iterate 3 (focus ((try simp (disch := omega) only [go_sem, wrap_n]) <;> (try omega) <;> fail))); (try simp (disch := omega) only [go_sem, wrap_n, I, B, S, inj, List.cons.injEq, and_true, true_and, and_self])))
    | (have hl : (joinS dir name).length ≤ 200 := by (first | rw [e, joinS_root, List.length_cons] | rw [joinS_ne e, List.length_append, List.length_cons]) <;> (try simp [e] at hc) <;> omega
       rw [joinP_ok h1 h2 hl]; (first | rw [e, joinS_root] | rw [joinS_ne e]); (refine aend_retc ?_ rfl ?_ ?_ ?_ ?_; (focus (first | exact .inl rfl | exact .inr rfl)); (iterate 3 (focus ((try simp (disch := omega) only [go_sem, wrap_n, List.cons_append, List.nil_append]) <;> (try omega) <;> fail))); (try simp (disch := omega) only [go_sem, wrap_n, List.cons_append, List.nil_append, I, B, S, inj, List.cons.injEq, and_true, true_and, and_self])))
theorem digK_cons (j n : Nat) : digK (j + 1) n = dig (n / 10 ^ j) :: digK j n := by
  unfold digK
  rw [List.range_succ_eq_map, List.map_cons, List.map_map]
  congr 1
  refine List.map_congr_left fun i _ => ?_
  show dig (n / 10 ^ (j + 1 - 1 - (i + 1))) = dig (n / 10 ^ (j - 1 - i))
  rw [show j + 1 - 1 - (i + 1) = j - 1 - i from by omega]
theorem digK_len (k n : Nat) : (digK k n).length = k := by simp [digK]
theorem digK_more {j n : Nat} (h : n / 10 ^ j = 0) : ∀ m, digK (j + m) n = List.replicate m 48 ++ digK j n
  | 0 => rfl
  | m + 1 => by
    have e : n / 10 ^ (j + m) = 0 := by rw [Nat.pow_add, ← Nat.div_div_eq_div_mul, h, Nat.zero_div]
    rw [← Nat.add_assoc, digK_cons, digK_more h m, e, List.replicate_succ]; rfl
def serT (name : List UInt8) (n : Nat) : List UInt8 := name ++ digK 10 n
def serP (name : List UInt8) (n : Int) : List UInt8 × Int := if n < 0 ∨ 2147483647 < n then ([], 3) else if namedP (serT name n.toNat) = true then (serT name n.toNat, 0) else ([], 2)
def serB (name : List UInt8) (n j : Nat) : List UInt8 := name ++ (List.replicate (10 - j) 48 ++ digK j n)
theorem serB_len (name : List UInt8) (n j : Nat) (h : j ≤ 10) : (serB name n j).length = name.length + 10 := by
  unfold serB; rw [List.length_append, List.length_append, List.length_replicate, digK_len]; omega
theorem serB_set (name : List UInt8) (n j : Nat) (h : j < 10) : (serB name n j).set (name.length + 9 - j) (dig (n / 10 ^ j)) = serB name n (j + 1) := by
  unfold serB
  rw [show 10 - j = (10 - (j + 1)) + 1 from by omega, List.replicate_succ', digK_cons, List.append_assoc, List.set_append_right _ _ (by omega), List.set_append_right _ _ (by simp; omega)]
  rw [List.length_replicate, show name.length + 9 - j - name.length - (10 - (j + 1)) = 0 from by omega]; rfl
theorem serB_end (name : List UInt8) (n j : Nat) (h : n / 10 ^ j = 0) (hj : j ≤ 10) : serB name n j = serT name n := by
  unfold serB serT
  rw [← digK_more h, show j + (10 - j) = 10 from by omega]
theorem serP_bad {name : List UInt8} {n : Int} (h : n < 0 ∨ 2147483647 < n) : serP name n = ([], 3) := by unfold serP; rw [if_pos h]
theorem serP_ok {name : List UInt8} {n : Nat} (h : n ≤ 2147483647) (h2 : namedP (serT name n) = true) : serP name n = (serT name n, 0) := by unfold serP; rw [if_neg (by omega)]; exact if_pos h2
theorem serP_no {name : List UInt8} {n : Nat} (h : n ≤ 2147483647) (h2 : ¬ namedP (serT name n) = true) : serP name n = ([], 2) := by unfold serP; rw [if_neg (by omega)]; exact if_neg h2
theorem serB_zero (name : List UInt8) (n : Nat) : name ++ [48, 48, 48, 48, 48, 48, 48, 48, 48, 48] = serB name n 0 := rfl
theorem take_rows {l : List UInt8} {n : Nat} (h : l.length = n) : List.take n (l.map u8row) = l.map u8row := List.take_of_length_le (by rw [List.length_map]; omega)
theorem serial_c (name : List UInt8) (n : Int) (hn : name.length ≤ 1048576) (hi : okI n) : acall Tryd.prog [] 158 [S name, I n] (ret (.tup [S (serP name n).1, I (serP name n).2])) := by
  unfold okI at hi
  by_cases hb : n < 0 ∨ 2147483647 < n
  · rw [serP_bad hb]
    refine acall_of tabOk Tryd.func158 rfl (by kernel_rfl) (by simp [Tryd.ntmps158]) ?_; simp only [Tryd.ntmps158, Tryd.results158, List.toList_toArray, apar, List.length_nil, List.length_cons, Nat.reduceAdd]
    repeat' first
      | (with_reducible first | refine AWP.seq ?_ | refine thenA_n ?_ | refine thenA_r ?_ | refine thenA_e ?_ | refine blkA_n ?_ | refine blkA_r ?_ | refine blkA_e ?_ | refine blkA_x (by decide) ?_ | refine AWP.skip ?_ | refine AWP.ret ?_ | refine AWP.exit ?_ | refine AWP.block ?_)
      | (with_reducible refine AWP.cond rfl ?_ ?_ <;> intro hc <;> (try simp only [hcs, beq_iff_eq, ge_iff_le, gt_iff_lt] at hc))
      | ((first
        | (with_reducible first | refine AWP.region tabOk ?_ | refine AWP.quietC mixed tabOk (by decide +kernel) ?_ | refine AWP.draw mixed tabOk (by decide +kernel) ?_ | refine AWP.drawE mixed tabOk (by decide +kernel) ?_ | refine AWP.drawG mixed tabOk (by decide +kernel) ?_); intro K hK); ((try simp (disch := omega) only [go_sem, wrap_n]) <;> (repeat' with_reducible refine And.intro ?_ ?_) <;> (try (with_reducible refine hK _ ?_; clear hK K))))
      | ((first | (with_reducible refine aunder_i ?_ ?_ <;> intro hg) | with_reducible intro hg) <;> (first | (exfalso; simp at hg; done) | (have hg' := hg; (try simp only [hcs, beq_iff_eq, ge_iff_le, gt_iff_lt] at hg'); ((try simp (disch := omega) only [hg, go_sem, wrap_n]) <;> (repeat' with_reducible refine And.intro ?_ ?_) <;> (try (with_reducible refine hK _ ?_; clear hK K))))))
                                                              | omega
    all_goals first | omega | skip
    all_goals (refine aend_retc ?_ rfl ?_ ?_ ?_ ?_; (focus (first | exact .inl rfl | exact .inr rfl)); (iterate 3 (focus ((try simp (disch := omega) only [go_sem, wrap_n]) <;> (try omega) <;> fail))); (try simp (disch := omega) only [go_sem, wrap_n, I, B, S, inj, List.cons.injEq, and_true, true_and, and_self]))
  obtain ⟨m, rfl⟩ := Int.eq_ofNat_of_zero_le (a := n) (by omega)
  have hm : m ≤ 2147483647 := by omega
  refine acall_of tabOk Tryd.func158 rfl (by kernel_rfl) (by simp [Tryd.ntmps158]) ?_; simp only [Tryd.ntmps158, Tryd.results158, List.toList_toArray, apar, List.length_nil, List.length_cons, Nat.reduceAdd]
  repeat' first
    | (with_reducible first | refine AWP.seq ?_ | refine thenA_n ?_ | refine thenA_r ?_ | refine thenA_e ?_ | refine blkA_n ?_ | refine blkA_r ?_ | refine blkA_e ?_ | refine blkA_x (by decide) ?_ | refine AWP.skip ?_ | refine AWP.ret ?_ | refine AWP.exit ?_ | refine AWP.block ?_)
    | (with_reducible refine AWP.cond rfl ?_ ?_ <;> intro hc <;> (try simp only [hcs, beq_iff_eq, ge_iff_le, gt_iff_lt] at hc))
    | ((first
      | (with_reducible first | refine AWP.region tabOk ?_ | refine AWP.quietC mixed tabOk (by decide +kernel) ?_ | refine AWP.draw mixed tabOk (by decide +kernel) ?_ | refine AWP.drawE mixed tabOk (by decide +kernel) ?_ | refine AWP.drawG mixed tabOk (by decide +kernel) ?_); intro K hK); ((try simp (disch := omega) only [go_sem, wrap_n, serB_zero, serB_len, Nat.zero_le]) <;> (repeat' with_reducible refine And.intro ?_ ?_) <;> (try (with_reducible refine hK _ ?_; clear hK K))))
    | ((first | (with_reducible refine aunder_i ?_ ?_ <;> intro hg) | with_reducible intro hg) <;> (first | (exfalso; simp at hg; done) | (have hg' := hg; (try simp only [hcs, beq_iff_eq, ge_iff_le, gt_iff_lt] at hg'); ((try simp (disch := omega) only [hg, go_sem, wrap_n, serB_zero, serB_len, Nat.zero_le]) <;> (repeat' with_reducible refine And.intro ?_ ?_) <;> (try (with_reducible refine hK _ ?_; clear hK K))))))
                                                            | omega
  have hlz := serB_len name m 0 (by omega)
  refine AWP.loopB (ι := Nat) (fun j => j ≤ 10) (fun j => 10 - j) [6] (fun j => [(1, I ((m / 10 ^ j : Nat) : Int)), (7, I ((name.length : Int) + 9 - j))]) (fun j => [.bytes (serB name m j)]) 0 ?_ ?_ ?_
  · omega
  · simp only [go_sem]; (refine SImp.same ?_; simp (disch := omega) only [go_sem, wrap_n, Int.natCast_add, serB_zero, Nat.pow_zero, Nat.div_one]); congr 2; omega
  intro j hj
  have hl := serB_len name m j hj
  have hq : m / 10 ^ j ≤ 2147483647 := Nat.le_trans (Nat.div_le_self _ _) hm
  simp only [go_sem]
  by_cases h0 : m / 10 ^ j = 0
  · have he := serB_end name m j h0 hj
    rw [he] at hl
    have hk := take_rows hl
    rw [he, h0]
    have hq : okS (serT name m) := by unfold okS; omega
    repeat' first
      | (with_reducible first | refine AWP.seq ?_ | refine thenA_n ?_ | refine thenA_r ?_ | refine thenA_e ?_ | refine blkA_n ?_ | refine blkA_r ?_ | refine blkA_e ?_ | refine blkA_x (by decide) ?_ | refine AWP.skip ?_ | refine AWP.ret ?_ | refine AWP.exit ?_ | refine AWP.block ?_)
      | (with_reducible refine AWP.cond rfl ?_ ?_ <;> intro hc <;> (try simp only [hcs, beq_iff_eq, ge_iff_le, gt_iff_lt] at hc))
      | ((first
        | (with_reducible first | refine AWP.region tabOk ?_ | refine AWP.quietC mixed tabOk (by decide +kernel) ?_ | refine AWP.draw mixed tabOk (by decide +kernel) ?_ | refine AWP.drawE mixed tabOk (by decide +kernel) ?_ | refine AWP.drawG mixed tabOk (by decide +kernel) ?_); intro K hK
        | ((first | refine acallH_sc (named_c (serT name m) hq) rfl rfl ?_ ?_ ?_ | refine acallQ_sc (named_c (serT name m) hq) rfl rfl ?_ ?_ ?_); iterate 2 (focus ((try simp (disch := omega) only [go_sem, wrap_n, hk]) <;> (try omega) <;> fail)))
        | ((first | refine acallH_anyr (named_c (serT name m) hq) rfl ?_ ?_); (focus ((try simp (disch := omega) only [go_sem, wrap_n, hk]) <;> (try omega) <;> fail)))
        | ((first | refine acallH_scx (named_c (serT name m) hq) rfl ?_ ?_ | refine acallQ_scx (named_c (serT name m) hq) rfl ?_ ?_ | refine acallH_anyx (named_c (serT name m) hq) ?_ ?_); (focus ((try simp (disch := omega) only [go_sem, wrap_n, hk]) <;> (try omega) <;> fail)))); ((try simp (disch := omega) only [go_sem, wrap_n, hk]) <;> (repeat' with_reducible refine And.intro ?_ ?_) <;> (try (with_reducible refine hK _ ?_; clear hK K))))
      | ((first | (with_reducible refine aunder_i ?_ ?_ <;> intro hg) | with_reducible intro hg) <;> (first | (exfalso; simp at hg; done) | (have hg' := hg; (try simp only [hcs, beq_iff_eq, ge_iff_le, gt_iff_lt] at hg'); ((try simp (disch := omega) only [hg, go_sem, wrap_n, hk]) <;> (repeat' with_reducible refine And.intro ?_ ?_) <;> (try (with_reducible refine hK _ ?_; clear hK K))))))
                                                              | omega
    · rw [serP_no hm (by rw [hc]; decide)]; (refine aend_retc ?_ rfl ?_ ?_ ?_ ?_; (focus (first | exact .inl rfl | exact .inr rfl)); (iterate 3 (focus ((try simp (disch := omega) only [go_sem, wrap_n, hk]) <;> (try omega) <;> fail))); (try simp (disch := omega) only [go_sem, wrap_n, hk, I, B, S, inj, List.cons.injEq, and_true, true_and, and_self]))
    · rw [serP_ok hm hc]; (refine aend_retc ?_ rfl ?_ ?_ ?_ ?_; (focus (first | exact .inl rfl | exact .inr rfl)); (iterate 3 (focus ((try simp (disch := omega) only [go_sem, wrap_n, hk]) <;> (try omega) <;> fail))); (try simp (disch := omega) only [go_sem, wrap_n, hk, I, B, S, inj, List.cons.injEq, and_true, true_and, and_self]))
  have hj10 : j < 10 := by
    refine Nat.lt_of_le_of_ne hj fun e => h0 ?_
    subst e; exact Nat.div_eq_of_lt (by omega)
  have hd := (dig (m / 10 ^ j)).toNat_lt
  repeat' first
    | (with_reducible first | refine AWP.seq ?_ | refine thenA_n ?_ | refine thenA_r ?_ | refine thenA_e ?_ | refine blkA_n ?_ | refine blkA_r ?_ | refine blkA_e ?_ | refine blkA_x (by decide) ?_ | refine AWP.skip ?_ | refine AWP.ret ?_ | refine AWP.exit ?_ | refine AWP.block ?_)
    | (with_reducible refine AWP.cond rfl ?_ ?_ <;> intro hc <;> (try simp only [hcs, beq_iff_eq, ge_iff_le, gt_iff_lt] at hc))
    | ((first
      | (with_reducible first | refine AWP.region tabOk ?_ | refine AWP.quietC mixed tabOk (by decide +kernel) ?_ | refine AWP.draw mixed tabOk (by decide +kernel) ?_ | refine AWP.drawE mixed tabOk (by decide +kernel) ?_ | refine AWP.drawG mixed tabOk (by decide +kernel) ?_); intro K hK); ((try simp (disch := omega) only [go_sem, wrap_n, tmod10, tdiv10, wrap_dig, okU8_one', UInt8.ofNat_toNat]) <;> (repeat' with_reducible refine And.intro ?_ ?_) <;> (try (with_reducible refine hK _ ?_; clear hK K))))
    | ((first | (with_reducible refine aunder_i ?_ ?_ <;> intro hg) | with_reducible intro hg) <;> (first | (exfalso; simp at hg; done) | (have hg' := hg; (try simp only [hcs, beq_iff_eq, ge_iff_le, gt_iff_lt] at hg'); ((try simp (disch := omega) only [hg, go_sem, wrap_n, tmod10, tdiv10, wrap_dig, okU8_one', UInt8.ofNat_toNat]) <;> (repeat' with_reducible refine And.intro ?_ ?_) <;> (try (with_reducible refine hK _ ?_; clear hK K))))))
                                                            | omega
  all_goals first | omega | skip
  · refine ⟨j + 1, by omega, by omega, ?_⟩
    rw [show ((name.length : Int) + 9 - j).toNat = name.length + 9 - j from by omega, serB_set name m j hj10, Nat.pow_succ, ← Nat.div_div_eq_div_mul]
    (refine SImp.same ?_; simp (disch := omega) only [go_sem, wrap_n, Int.natCast_add])
    congr 2; omega
  all_goals exact absurd (Nat.le_zero.1 (Int.ofNat_le.1 hc)) h0
theorem ref_serial_c (name : List UInt8) (n : Int) (hn : name.length ≤ 1048576) (hi : okI n) : acall Tryd.prog [] 117 [S name, I n] (ret (.tup [S (serP name n).1, I (serP name n).2])) := by
  unfold okI at hi
  by_cases hb : n < 0 ∨ 2147483647 < n
  · rw [serP_bad hb]
    refine acall_of tabOk Tryd.func117 rfl (by kernel_rfl) (by simp [Tryd.ntmps117]) ?_; simp only [Tryd.ntmps117, Tryd.results117, List.toList_toArray, apar, List.length_nil, List.length_cons, Nat.reduceAdd]
    repeat' first
      | (with_reducible first | refine AWP.seq ?_ | refine thenA_n ?_ | refine thenA_r ?_ | refine thenA_e ?_ | refine blkA_n ?_ | refine blkA_r ?_ | refine blkA_e ?_ | refine blkA_x (by decide) ?_ | refine AWP.skip ?_ | refine AWP.ret ?_ | refine AWP.exit ?_ | refine AWP.block ?_)
      | (with_reducible refine AWP.cond rfl ?_ ?_ <;> intro hc <;> (try simp only [hcs, beq_iff_eq, ge_iff_le, gt_iff_lt] at hc))
      | ((first
        | (with_reducible first | refine AWP.region tabOk ?_ | refine AWP.quietC mixed tabOk (by decide +kernel) ?_ | refine AWP.draw mixed tabOk (by decide +kernel) ?_ | refine AWP.drawE mixed tabOk (by decide +kernel) ?_ | refine AWP.drawG mixed tabOk (by decide +kernel) ?_); intro K hK); ((try simp (disch := omega) only [go_sem, wrap_n]) <;> (repeat' with_reducible refine And.intro ?_ ?_) <;> (try (with_reducible refine hK _ ?_; clear hK K))))
      | ((first | (with_reducible refine aunder_i ?_ ?_ <;> intro hg) | with_reducible intro hg) <;> (first | (exfalso; simp at hg; done) | (have hg' := hg; (try simp only [hcs, beq_iff_eq, ge_iff_le, gt_iff_lt] at hg'); ((try simp (disch := omega) only [hg, go_sem, wrap_n]) <;> (repeat' with_reducible refine And.intro ?_ ?_) <;> (try (with_reducible refine hK _ ?_; clear hK K))))))
                                                              | omega
    all_goals first | omega | skip
    all_goals (refine aend_retc ?_ rfl ?_ ?_ ?_ ?_; (focus (first | exact .inl rfl | exact .inr rfl)); (iterate 3 (focus ((try simp (disch := omega) only [go_sem, wrap_n]) <;> (try omega) <;> fail))); (try simp (disch := omega) only [go_sem, wrap_n, I, B, S, inj, List.cons.injEq, and_true, true_and, and_self]))
  obtain ⟨m, rfl⟩ := Int.eq_ofNat_of_zero_le (a := n) (by omega)
  have hm : m ≤ 2147483647 := by omega
  obtain ⟨hdl, hdp⟩ := decB_pad 9 m (by omega)
  refine acall_of tabOk Tryd.func117 rfl (by kernel_rfl) (by simp [Tryd.ntmps117]) ?_; simp only [Tryd.ntmps117, Tryd.results117, List.toList_toArray, apar, List.length_nil, List.length_cons, Nat.reduceAdd]
  repeat' first
    | (with_reducible first | refine AWP.seq ?_ | refine thenA_n ?_ | refine thenA_r ?_ | refine thenA_e ?_ | refine blkA_n ?_ | refine blkA_r ?_ | refine blkA_e ?_ | refine blkA_x (by decide) ?_ | refine AWP.skip ?_ | refine AWP.ret ?_ | refine AWP.exit ?_ | refine AWP.block ?_)
    | (with_reducible refine AWP.cond rfl ?_ ?_ <;> intro hc <;> (try simp only [hcs, beq_iff_eq, ge_iff_le, gt_iff_lt] at hc))
    | ((first
      | (with_reducible first | refine AWP.region tabOk ?_ | refine AWP.quietC mixed tabOk (by decide +kernel) ?_ | refine AWP.draw mixed tabOk (by decide +kernel) ?_ | refine AWP.drawE mixed tabOk (by decide +kernel) ?_ | refine AWP.drawG mixed tabOk (by decide +kernel) ?_); intro K hK
      | ((first | refine acallH_sc (decimal_c m (by omega)) rfl rfl ?_ ?_ ?_ | refine acallQ_sc (decimal_c m (by omega)) rfl rfl ?_ ?_ ?_); iterate 2 (focus ((try simp (disch := omega) only [go_sem, wrap_n]) <;> (try omega) <;> fail)))
      | ((first | refine acallH_anyr (decimal_c m (by omega)) rfl ?_ ?_); (focus ((try simp (disch := omega) only [go_sem, wrap_n]) <;> (try omega) <;> fail)))
      | ((first | refine acallH_scx (decimal_c m (by omega)) rfl ?_ ?_ | refine acallQ_scx (decimal_c m (by omega)) rfl ?_ ?_ | refine acallH_anyx (decimal_c m (by omega)) ?_ ?_); (focus ((try simp (disch := omega) only [go_sem, wrap_n]) <;> (try omega) <;> fail)))); ((try simp (disch := omega) only [go_sem, wrap_n]) <;> (repeat' with_reducible refine And.intro ?_ ?_) <;> (try (with_reducible refine hK _ ?_; clear hK K))))
    | ((first | (with_reducible refine aunder_i ?_ ?_ <;> intro hg) | with_reducible intro hg) <;> (first | (exfalso; simp at hg; done) | (have hg' := hg; (try simp only [hcs, beq_iff_eq, ge_iff_le, gt_iff_lt] at hg'); ((try simp (disch := omega) only [hg, go_sem, wrap_n]) <;> (repeat' with_reducible refine And.intro ?_ ?_) <;> (try (with_reducible refine hK _ ?_; clear hK K))))))
                                                            | omega
  refine AWP.loopS (ι := Nat) (fun j => j ≤ 10 - (decB m).length) (fun j => 10 - (decB m).length - j) [0] (fun j => [(6, S (List.replicate j 48 ++ decB m))]) 0 ?_ (by simp (disch := omega) only [go_sem, wrap_n, true_and]) ?_
  · omega
  intro j hj
  have hl : (List.replicate j (48 : UInt8) ++ decB m).length = j + (decB m).length := by simp
  simp only [go_sem]
  by_cases h0 : j = 10 - (decB m).length
  · subst h0
    rw [hdp]
    have hkl := digK_len 10 m
    have hq : okS (name ++ digK 10 m) := by unfold okS; rw [List.length_append, digK_len]; omega
    repeat' first
      | (with_reducible first | refine AWP.seq ?_ | refine thenA_n ?_ | refine thenA_r ?_ | refine thenA_e ?_ | refine blkA_n ?_ | refine blkA_r ?_ | refine blkA_e ?_ | refine blkA_x (by decide) ?_ | refine AWP.skip ?_ | refine AWP.ret ?_ | refine AWP.exit ?_ | refine AWP.block ?_)
      | (with_reducible refine AWP.cond rfl ?_ ?_ <;> intro hc <;> (try simp only [hcs, beq_iff_eq, ge_iff_le, gt_iff_lt] at hc))
      | ((first
        | (with_reducible first | refine AWP.region tabOk ?_ | refine AWP.quietC mixed tabOk (by decide +kernel) ?_ | refine AWP.draw mixed tabOk (by decide +kernel) ?_ | refine AWP.drawE mixed tabOk (by decide +kernel) ?_ | refine AWP.drawG mixed tabOk (by decide +kernel) ?_); intro K hK
        | ((first | refine acallH_sc (ref_named_c (name ++ digK 10 m) hq) rfl rfl ?_ ?_ ?_ | refine acallQ_sc (ref_named_c (name ++ digK 10 m) hq) rfl rfl ?_ ?_ ?_); iterate 2 (focus ((try simp (disch := omega) only [go_sem, wrap_n, hkl]) <;> (try omega) <;> fail)))
        | ((first | refine acallH_anyr (ref_named_c (name ++ digK 10 m) hq) rfl ?_ ?_); (focus ((try simp (disch := omega) only [go_sem, wrap_n, hkl]) <;> (try omega) <;> fail)))
        | ((first | refine acallH_scx (ref_named_c (name ++ digK 10 m) hq) rfl ?_ ?_ | refine acallQ_scx (ref_named_c (name ++ digK 10 m) hq) rfl ?_ ?_ | refine acallH_anyx (ref_named_c (name ++ digK 10 m) hq) ?_ ?_); (focus ((try simp (disch := omega) only [go_sem, wrap_n, hkl]) <;> (try omega) <;> fail)))); ((try simp (disch := omega) only [go_sem, wrap_n, hkl]) <;> (repeat' with_reducible refine And.intro ?_ ?_) <;> (try (with_reducible refine hK _ ?_; clear hK K))))
      | ((first | (with_reducible refine aunder_i ?_ ?_ <;> intro hg) | with_reducible intro hg) <;> (first | (exfalso; simp at hg; done) | (have hg' := hg; (try simp only [hcs, beq_iff_eq, ge_iff_le, gt_iff_lt] at hg'); ((try simp (disch := omega) only [hg, go_sem, wrap_n, hkl]) <;> (repeat' with_reducible refine And.intro ?_ ?_) <;> (try (with_reducible refine hK _ ?_; clear hK K))))))
                                                              | omega
    · rw [serP_no hm (by rw [show serT name m = name ++ digK 10 m from rfl, hc]; decide)]; (refine aend_retc ?_ rfl ?_ ?_ ?_ ?_; (focus (first | exact .inl rfl | exact .inr rfl)); (iterate 3 (focus ((try simp (disch := omega) only [go_sem, wrap_n]) <;> (try omega) <;> fail))); (try simp (disch := omega) only [go_sem, wrap_n, I, B, S, inj, List.cons.injEq, and_true, true_and, and_self]))
    · rw [serP_ok hm hc]; (refine aend_retc ?_ rfl ?_ ?_ ?_ ?_; (focus (first | exact .inl rfl | exact .inr rfl)); (iterate 3 (focus ((try simp (disch := omega) only [go_sem, wrap_n, serT]) <;> (try omega) <;> fail))); (try simp (disch := omega) only [go_sem, wrap_n, serT, I, B, S, inj, List.cons.injEq, and_true, true_and, and_self]))
  repeat' first
    | (with_reducible first | refine AWP.seq ?_ | refine thenA_n ?_ | refine thenA_r ?_ | refine thenA_e ?_ | refine blkA_n ?_ | refine blkA_r ?_ | refine blkA_e ?_ | refine blkA_x (by decide) ?_ | refine AWP.skip ?_ | refine AWP.ret ?_ | refine AWP.exit ?_ | refine AWP.block ?_)
    | (with_reducible refine AWP.cond rfl ?_ ?_ <;> intro hc <;> (try simp only [hcs, beq_iff_eq, ge_iff_le, gt_iff_lt] at hc))
    | ((first
      | (with_reducible first | refine AWP.region tabOk ?_ | refine AWP.quietC mixed tabOk (by decide +kernel) ?_ | refine AWP.draw mixed tabOk (by decide +kernel) ?_ | refine AWP.drawE mixed tabOk (by decide +kernel) ?_ | refine AWP.drawG mixed tabOk (by decide +kernel) ?_); intro K hK); ((try simp (disch := omega) only [go_sem, wrap_n]) <;> (repeat' with_reducible refine And.intro ?_ ?_) <;> (try (with_reducible refine hK _ ?_; clear hK K))))
    | ((first | (with_reducible refine aunder_i ?_ ?_ <;> intro hg) | with_reducible intro hg) <;> (first | (exfalso; simp at hg; done) | (have hg' := hg; (try simp only [hcs, beq_iff_eq, ge_iff_le, gt_iff_lt] at hg'); ((try simp (disch := omega) only [hg, go_sem, wrap_n]) <;> (repeat' with_reducible refine And.intro ?_ ?_) <;> (try (with_reducible refine hK _ ?_; clear hK K))))))
                                                            | omega
  · refine ⟨j + 1, by omega, by omega, ?_⟩
    (refine SImp.same ?_; simp (disch := omega) only [go_sem, wrap_n, Int.natCast_add, List.replicate_succ, List.cons_append])
  all_goals (exfalso; omega)
theorem joinP_known : joinP [47] [97] = ([47, 97], 0) := by decide +kernel
end Go.Proofs.YtmpfhalheaeibaaDoor
