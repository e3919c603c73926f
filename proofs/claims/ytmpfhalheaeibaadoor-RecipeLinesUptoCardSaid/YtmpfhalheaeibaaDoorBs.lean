/- Contracts of slices.BinarySearchFunc for the lists that the program searches, each with its own comparison. No condition. -/
import Derived.Test.YtmpfhalheaeibaaDoorLb
import Derived.Test.YtmpfhalheaeibaaDoorSt
namespace Go.Proofs.YtmpfhalheaeibaaDoor
set_option linter.unusedVariables false
set_option linter.unusedSimpArgs false
open Go Go.RowKit
set_option maxRecDepth 100000
set_option linter.unusedSimpArgs false

theorem halfw (i j : Nat) (h : i + j < 9223372036854775808) : IntKind.i64.wrap (IntKind.u64.wrap ((i : Int) + j) / 2) = (((i + j) / 2 : Nat) : Int) := by
  have e : IntKind.u64.wrap ((i : Int) + j) = ((i + j : Nat) : Int) := by simp [IntKind.wrap, IntKind.bits, IntKind.signed]; omega
  rw [e]
  have e2 : (((i + j : Nat) : Int) / 2) = (((i + j) / 2 : Nat) : Int) := by omega
  rw [e2]; simp [IntKind.wrap, IntKind.bits, IntKind.signed]; omega

theorem diskCmp_c (f : AFile) (n : List UInt8) : acall Tryd.prog [] 162 [f.av, S n] (ret (I (cmpB f.name n))) := by
  refine acall_of tabOk Tryd.func162 rfl (by kernel_rfl) (by simp [Tryd.ntmps162]) ?_; simp only [Tryd.ntmps162, Tryd.results162, List.toList_toArray, apar, List.length_nil, List.length_cons, Nat.reduceAdd]
  repeat' first
    | (with_reducible first | refine AWP.seq ?_ | refine thenA_n ?_ | refine thenA_r ?_ | refine thenA_e ?_ | refine blkA_n ?_ | refine blkA_r ?_ | refine blkA_e ?_ | refine blkA_x (by decide) ?_ | refine AWP.skip ?_ | refine AWP.ret ?_ | refine AWP.exit ?_ | refine AWP.block ?_)
    | (with_reducible refine AWP.cond rfl ?_ ?_ <;> intro hc <;> (try simp only [hcs, beq_iff_eq, ge_iff_le, gt_iff_lt] at hc))
    | ((first
      | (with_reducible first | refine AWP.region tabOk ?_ | refine AWP.quietC mixed tabOk (by decide +kernel) ?_ | refine AWP.draw mixed tabOk (by decide +kernel) ?_ | refine AWP.drawE mixed tabOk (by decide +kernel) ?_ | refine AWP.drawG mixed tabOk (by decide +kernel) ?_); intro K hK
      | ((first | refine acallH_sc (compare_c _ _) rfl rfl ?_ ?_ ?_ | refine acallQ_sc (compare_c _ _) rfl rfl ?_ ?_ ?_); iterate 2 (focus ((try simp (disch := omega) only [go_sem, wrap_n]) <;> (try omega) <;> fail)))
      | ((first | refine acallH_anyr (compare_c _ _) rfl ?_ ?_); (focus ((try simp (disch := omega) only [go_sem, wrap_n]) <;> (try omega) <;> fail)))
      | ((first | refine acallH_scx (compare_c _ _) rfl ?_ ?_ | refine acallQ_scx (compare_c _ _) rfl ?_ ?_ | refine acallH_anyx (compare_c _ _) ?_ ?_); (focus ((try simp (disch := omega) only [go_sem, wrap_n]) <;> (try omega) <;> fail)))); ((try simp (disch := omega) only [go_sem, wrap_n]) <;> (repeat' with_reducible refine And.intro ?_ ?_) <;> (try (with_reducible refine hK _ ?_; clear hK K))))
    | ((first | (with_reducible refine aunder_i ?_ ?_ <;> intro hg) | with_reducible intro hg) <;> (first | (exfalso; simp at hg; done) | (have hg' := hg; (try simp only [hcs, beq_iff_eq, ge_iff_le, gt_iff_lt] at hg'); ((try simp (disch := omega) only [hg, go_sem, wrap_n]) <;> (repeat' with_reducible refine And.intro ?_ ?_) <;> (try (with_reducible refine hK _ ?_; clear hK K))))))
                                                            | omega
  (refine aend_retc ?_ rfl ?_ ?_ ?_ ?_; (focus (first | exact .inl rfl | exact .inr rfl)); (iterate 3 (focus ((try simp (disch := omega) only [go_sem, wrap_n, cmpB]) <;> (try omega) <;> fail))); (try simp (disch := omega) only [go_sem, wrap_n, cmpB, I, B, S, inj, List.cons.injEq, and_true, true_and, and_self]))
theorem bsFile_c (l : List AFile) (key : List UInt8) (h : l.length * 48 ≤ 140737488351232) (hr : Rises (l.map AFile.name)) :
    acall Tryd.prog [] 161 [.d (.sl 3 (l.map AFile.row)), S key, .d (.sc (.func (.func 162) #[] #[]))]
      (ret (.tup [I (place (l.map AFile.name) key), B (decide (key ∈ l.map AFile.name))])) := by
  have hn : ∀ k, (l.map AFile.name).getD k [] = (l.getD k default).name := fun k => getD_map AFile.name l k default
  refine acall_of tabOk Tryd.func161 rfl (by kernel_rfl) (by simp [Tryd.ntmps161]) ?_; simp only [Tryd.ntmps161, Tryd.results161, List.toList_toArray, apar, List.length_nil, List.length_cons, Nat.reduceAdd]
  repeat' first
    | (with_reducible first | refine AWP.seq ?_ | refine thenA_n ?_ | refine thenA_r ?_ | refine thenA_e ?_ | refine blkA_n ?_ | refine blkA_r ?_ | refine blkA_e ?_ | refine blkA_x (by decide) ?_ | refine AWP.skip ?_ | refine AWP.ret ?_ | refine AWP.exit ?_ | refine AWP.block ?_)
    | (with_reducible refine AWP.cond rfl ?_ ?_ <;> intro hc <;> (try simp only [hcs, beq_iff_eq, ge_iff_le, gt_iff_lt] at hc))
    | ((first
      | (with_reducible first | refine AWP.region tabOk ?_ | refine AWP.quietC mixed tabOk (by decide +kernel) ?_ | refine AWP.draw mixed tabOk (by decide +kernel) ?_ | refine AWP.drawE mixed tabOk (by decide +kernel) ?_ | refine AWP.drawG mixed tabOk (by decide +kernel) ?_); intro K hK); ((try simp (disch := omega) only [go_sem, wrap_n]) <;> (repeat' with_reducible refine And.intro ?_ ?_) <;> (try (with_reducible refine hK _ ?_; clear hK K))))
    | ((first | (with_reducible refine aunder_i ?_ ?_ <;> intro hg) | with_reducible intro hg) <;> (first | (exfalso; simp at hg; done) | (have hg' := hg; (try simp only [hcs, beq_iff_eq, ge_iff_le, gt_iff_lt] at hg'); ((try simp (disch := omega) only [hg, go_sem, wrap_n]) <;> (repeat' with_reducible refine And.intro ?_ ?_) <;> (try (with_reducible refine hK _ ?_; clear hK K))))))
                                                            | omega
  refine AWP.loopS (ι := Nat × Nat) (fun v => v.1 ≤ v.2 ∧ v.2 ≤ l.length ∧ (∀ k, k < v.1 → (l.map AFile.name).getD k [] < key) ∧ (v.2 < l.length → ¬ (l.map AFile.name).getD v.2 [] < key)) (fun v => v.2 - v.1) [0, 1, 2, 8] (fun v => [(9, I v.1), (10, I v.2)]) (0, l.length) ?_ (by simp (disch := omega) only [go_sem, wrap_n, true_and]) ?_
  · exact ⟨by simp, by simp, fun k hk => by simp at hk, fun k => by simp at k⟩
  intro ⟨i, j⟩ ⟨h1, h2, h3, h4⟩
  simp only at h1 h2 h3 h4
  simp only [go_sem]
  repeat' first
    | (with_reducible first | refine AWP.seq ?_ | refine thenA_n ?_ | refine thenA_r ?_ | refine thenA_e ?_ | refine blkA_n ?_ | refine blkA_r ?_ | refine blkA_e ?_ | refine blkA_x (by decide) ?_ | refine AWP.skip ?_ | refine AWP.ret ?_ | refine AWP.exit ?_ | refine AWP.block ?_)
    | (with_reducible refine AWP.cond rfl ?_ ?_ <;> intro hc <;> (try simp only [hcs, beq_iff_eq, ge_iff_le, gt_iff_lt] at hc))
    | ((first
      | (with_reducible first | refine AWP.region tabOk ?_ | refine AWP.quietC mixed tabOk (by decide +kernel) ?_ | refine AWP.draw mixed tabOk (by decide +kernel) ?_ | refine AWP.drawE mixed tabOk (by decide +kernel) ?_ | refine AWP.drawG mixed tabOk (by decide +kernel) ?_); intro K hK
      | ((first | refine acallH_sc (diskCmp_c _ _) rfl rfl ?_ ?_ ?_ | refine acallQ_sc (diskCmp_c _ _) rfl rfl ?_ ?_ ?_); iterate 2 (focus ((try simp (disch := omega) only [go_sem, wrap_n, halfw]) <;> (try omega) <;> fail)))
      | ((first | refine acallH_anyr (diskCmp_c _ _) rfl ?_ ?_); (focus ((try simp (disch := omega) only [go_sem, wrap_n, halfw]) <;> (try omega) <;> fail)))
      | ((first | refine acallH_scx (diskCmp_c _ _) rfl ?_ ?_ | refine acallQ_scx (diskCmp_c _ _) rfl ?_ ?_ | refine acallH_anyx (diskCmp_c _ _) ?_ ?_); (focus ((try simp (disch := omega) only [go_sem, wrap_n, halfw]) <;> (try omega) <;> fail)))); ((try simp (disch := omega) only [go_sem, wrap_n, halfw]) <;> (repeat' with_reducible refine And.intro ?_ ?_) <;> (try (with_reducible refine hK _ ?_; clear hK K))))
    | ((first | (with_reducible refine aunder_i ?_ ?_ <;> intro hg) | with_reducible intro hg) <;> (first | (exfalso; simp at hg; done) | (have hg' := hg; (try simp only [hcs, beq_iff_eq, ge_iff_le, gt_iff_lt] at hg'); ((try simp (disch := omega) only [hg, go_sem, wrap_n, halfw]) <;> (repeat' with_reducible refine And.intro ?_ ?_) <;> (try (with_reducible refine hK _ ?_; clear hK K))))))
                                                            | omega
  · rw [cmpB_neg] at hc
    refine ⟨((i + j) / 2 + 1, j), ⟨by simp only; omega, h2, fun k hk => ?_, h4⟩, by simp only; omega, ?_⟩
    · by_cases e : k = (i + j) / 2
      · rw [e, hn]; exact hc
      · refine List.lt_trans (rises_lt (j := (i + j) / 2) hr (by simp only at hk; omega) (by simp; omega)) ?_
        rw [hn]; exact hc
    (refine SImp.same ?_; simp (disch := omega) only [go_sem, wrap_n, Int.natCast_add])
  · have hc2 : ¬ cmpB (l.getD ((i + j) / 2) default).name key < 0 := by omega
    rw [cmpB_neg, ← hn] at hc2
    refine ⟨(i, (i + j) / 2), ⟨by simp only; omega, by simp only; omega, h3, fun _ => hc2⟩, by simp only; omega, ?_⟩
    (refine SImp.same ?_; simp (disch := omega) only [go_sem, wrap_n, Int.natCast_add])
  · have e0 : i = j := by omega
    subst e0
    have e1 : place (l.map AFile.name) key = i := place_eq (by simp; omega) h3 (fun h => h4 (by simpa using h))
    have e2 : key ∈ l.map AFile.name ↔ i < (l.map AFile.name).length ∧ (l.map AFile.name).getD i [] = key := found_iff hr h3 (fun h => h4 (by simpa using h))
    (refine aend_retc ?_ rfl ?_ ?_ ?_ ?_; (focus (first | exact .inl rfl | exact .inr rfl)); (iterate 3 (focus ((try simp (disch := omega) only [go_sem, wrap_n, e1]) <;> (try omega) <;> fail))); (try simp (disch := omega) only [go_sem, wrap_n, e1, I, B, S, inj, List.cons.injEq, and_true, true_and, and_self]))
    simp only [cmpB_eq, e2, hn, List.length_map]
    simp at hg; simp [hg]
  · have e0 : i = j := by omega
    subst e0
    have e1 : place (l.map AFile.name) key = i := place_eq (by simp; omega) h3 (fun h => h4 (by simpa using h))
    have e2 : key ∈ l.map AFile.name ↔ i < (l.map AFile.name).length ∧ (l.map AFile.name).getD i [] = key := found_iff hr h3 (fun h => h4 (by simpa using h))
    (refine aend_retc ?_ rfl ?_ ?_ ?_ ?_; (focus (first | exact .inl rfl | exact .inr rfl)); (iterate 3 (focus ((try simp (disch := omega) only [go_sem, wrap_n, e1]) <;> (try omega) <;> fail))); (try simp (disch := omega) only [go_sem, wrap_n, e1, I, B, S, inj, List.cons.injEq, and_true, true_and, and_self]))
    simp only [e2, List.length_map]
    simp at hg; simp; omega

theorem treeCmp_c (f : ANode) (n : List UInt8) : acall Tryd.prog [] 143 [f.av, S n] (ret (I (cmpB f.path n))) := by
  refine acall_of tabOk Tryd.func143 rfl (by kernel_rfl) (by simp [Tryd.ntmps143]) ?_; simp only [Tryd.ntmps143, Tryd.results143, List.toList_toArray, apar, List.length_nil, List.length_cons, Nat.reduceAdd]
  repeat' first
    | (with_reducible first | refine AWP.seq ?_ | refine thenA_n ?_ | refine thenA_r ?_ | refine thenA_e ?_ | refine blkA_n ?_ | refine blkA_r ?_ | refine blkA_e ?_ | refine blkA_x (by decide) ?_ | refine AWP.skip ?_ | refine AWP.ret ?_ | refine AWP.exit ?_ | refine AWP.block ?_)
    | (with_reducible refine AWP.cond rfl ?_ ?_ <;> intro hc <;> (try simp only [hcs, beq_iff_eq, ge_iff_le, gt_iff_lt] at hc))
    | ((first
      | (with_reducible first | refine AWP.region tabOk ?_ | refine AWP.quietC mixed tabOk (by decide +kernel) ?_ | refine AWP.draw mixed tabOk (by decide +kernel) ?_ | refine AWP.drawE mixed tabOk (by decide +kernel) ?_ | refine AWP.drawG mixed tabOk (by decide +kernel) ?_); intro K hK
      | ((first | refine acallH_sc (compare_c _ _) rfl rfl ?_ ?_ ?_ | refine acallQ_sc (compare_c _ _) rfl rfl ?_ ?_ ?_); iterate 2 (focus ((try simp (disch := omega) only [go_sem, wrap_n]) <;> (try omega) <;> fail)))
      | ((first | refine acallH_anyr (compare_c _ _) rfl ?_ ?_); (focus ((try simp (disch := omega) only [go_sem, wrap_n]) <;> (try omega) <;> fail)))
      | ((first | refine acallH_scx (compare_c _ _) rfl ?_ ?_ | refine acallQ_scx (compare_c _ _) rfl ?_ ?_ | refine acallH_anyx (compare_c _ _) ?_ ?_); (focus ((try simp (disch := omega) only [go_sem, wrap_n]) <;> (try omega) <;> fail)))); ((try simp (disch := omega) only [go_sem, wrap_n]) <;> (repeat' with_reducible refine And.intro ?_ ?_) <;> (try (with_reducible refine hK _ ?_; clear hK K))))
    | ((first | (with_reducible refine aunder_i ?_ ?_ <;> intro hg) | with_reducible intro hg) <;> (first | (exfalso; simp at hg; done) | (have hg' := hg; (try simp only [hcs, beq_iff_eq, ge_iff_le, gt_iff_lt] at hg'); ((try simp (disch := omega) only [hg, go_sem, wrap_n]) <;> (repeat' with_reducible refine And.intro ?_ ?_) <;> (try (with_reducible refine hK _ ?_; clear hK K))))))
                                                            | omega
  (refine aend_retc ?_ rfl ?_ ?_ ?_ ?_; (focus (first | exact .inl rfl | exact .inr rfl)); (iterate 3 (focus ((try simp (disch := omega) only [go_sem, wrap_n, cmpB]) <;> (try omega) <;> fail))); (try simp (disch := omega) only [go_sem, wrap_n, cmpB, I, B, S, inj, List.cons.injEq, and_true, true_and, and_self]))
theorem bsNode_c (l : List ANode) (key : List UInt8) (h : l.length * 88 ≤ 140737488351232) (hr : Rises (l.map ANode.path)) :
    acall Tryd.prog [] 142 [.d (.sl 9 (l.map ANode.row)), S key, .d (.sc (.func (.func 143) #[] #[]))]
      (ret (.tup [I (place (l.map ANode.path) key), B (decide (key ∈ l.map ANode.path))])) := by
  have hn : ∀ k, (l.map ANode.path).getD k [] = (l.getD k default).path := fun k => getD_map ANode.path l k default
  refine acall_of tabOk Tryd.func142 rfl (by kernel_rfl) (by simp [Tryd.ntmps142]) ?_; simp only [Tryd.ntmps142, Tryd.results142, List.toList_toArray, apar, List.length_nil, List.length_cons, Nat.reduceAdd]
  repeat' first
    | (with_reducible first | refine AWP.seq ?_ | refine thenA_n ?_ | refine thenA_r ?_ | refine thenA_e ?_ | refine blkA_n ?_ | refine blkA_r ?_ | refine blkA_e ?_ | refine blkA_x (by decide) ?_ | refine AWP.skip ?_ | refine AWP.ret ?_ | refine AWP.exit ?_ | refine AWP.block ?_)
    | (with_reducible refine AWP.cond rfl ?_ ?_ <;> intro hc <;> (try simp only [hcs, beq_iff_eq, ge_iff_le, gt_iff_lt] at hc))
    | ((first
      | (with_reducible first | refine AWP.region tabOk ?_ | refine AWP.quietC mixed tabOk (by decide +kernel) ?_ | refine AWP.draw mixed tabOk (by decide +kernel) ?_ | refine AWP.drawE mixed tabOk (by decide +kernel) ?_ | refine AWP.drawG mixed tabOk (by decide +kernel) ?_); intro K hK); ((try simp (disch := omega) only [go_sem, wrap_n]) <;> (repeat' with_reducible refine And.intro ?_ ?_) <;> (try (with_reducible refine hK _ ?_; clear hK K))))
    | ((first | (with_reducible refine aunder_i ?_ ?_ <;> intro hg) | with_reducible intro hg) <;> (first | (exfalso; simp at hg; done) | (have hg' := hg; (try simp only [hcs, beq_iff_eq, ge_iff_le, gt_iff_lt] at hg'); ((try simp (disch := omega) only [hg, go_sem, wrap_n]) <;> (repeat' with_reducible refine And.intro ?_ ?_) <;> (try (with_reducible refine hK _ ?_; clear hK K))))))
                                                            | omega
  refine AWP.loopS (ι := Nat × Nat) (fun v => v.1 ≤ v.2 ∧ v.2 ≤ l.length ∧ (∀ k, k < v.1 → (l.map ANode.path).getD k [] < key) ∧ (v.2 < l.length → ¬ (l.map ANode.path).getD v.2 [] < key)) (fun v => v.2 - v.1) [0, 1, 2, 8] (fun v => [(9, I v.1), (10, I v.2)]) (0, l.length) ?_ (by simp (disch := omega) only [go_sem, wrap_n, true_and]) ?_
  · exact ⟨by simp, by simp, fun k hk => by simp at hk, fun k => by simp at k⟩
  intro ⟨i, j⟩ ⟨h1, h2, h3, h4⟩
  simp only at h1 h2 h3 h4
  simp only [go_sem]
  repeat' first
    | (with_reducible first | refine AWP.seq ?_ | refine thenA_n ?_ | refine thenA_r ?_ | refine thenA_e ?_ | refine blkA_n ?_ | refine blkA_r ?_ | refine blkA_e ?_ | refine blkA_x (by decide) ?_ | refine AWP.skip ?_ | refine AWP.ret ?_ | refine AWP.exit ?_ | refine AWP.block ?_)
    | (with_reducible refine AWP.cond rfl ?_ ?_ <;> intro hc <;> (try simp only [hcs, beq_iff_eq, ge_iff_le, gt_iff_lt] at hc))
    | ((first
      | (with_reducible first | refine AWP.region tabOk ?_ | refine AWP.quietC mixed tabOk (by decide +kernel) ?_ | refine AWP.draw mixed tabOk (by decide +kernel) ?_ | refine AWP.drawE mixed tabOk (by decide +kernel) ?_ | refine AWP.drawG mixed tabOk (by decide +kernel) ?_); intro K hK
      | ((first | refine acallH_sc (treeCmp_c _ _) rfl rfl ?_ ?_ ?_ | refine acallQ_sc (treeCmp_c _ _) rfl rfl ?_ ?_ ?_); iterate 2 (focus ((try simp (disch := omega) only [go_sem, wrap_n, halfw]) <;> (try omega) <;> fail)))
      | ((first | refine acallH_anyr (treeCmp_c _ _) rfl ?_ ?_); (focus ((try simp (disch := omega) only [go_sem, wrap_n, halfw]) <;> (try omega) <;> fail)))
      | ((first | refine acallH_scx (treeCmp_c _ _) rfl ?_ ?_ | refine acallQ_scx (treeCmp_c _ _) rfl ?_ ?_ | refine acallH_anyx (treeCmp_c _ _) ?_ ?_); (focus ((try simp (disch := omega) only [go_sem, wrap_n, halfw]) <;> (try omega) <;> fail)))); ((try simp (disch := omega) only [go_sem, wrap_n, halfw]) <;> (repeat' with_reducible refine And.intro ?_ ?_) <;> (try (with_reducible refine hK _ ?_; clear hK K))))
    | ((first | (with_reducible refine aunder_i ?_ ?_ <;> intro hg) | with_reducible intro hg) <;> (first | (exfalso; simp at hg; done) | (have hg' := hg; (try simp only [hcs, beq_iff_eq, ge_iff_le, gt_iff_lt] at hg'); ((try simp (disch := omega) only [hg, go_sem, wrap_n, halfw]) <;> (repeat' with_reducible refine And.intro ?_ ?_) <;> (try (with_reducible refine hK _ ?_; clear hK K))))))
                                                            | omega
  · rw [cmpB_neg] at hc
    refine ⟨((i + j) / 2 + 1, j), ⟨by simp only; omega, h2, fun k hk => ?_, h4⟩, by simp only; omega, ?_⟩
    · by_cases e : k = (i + j) / 2
      · rw [e, hn]; exact hc
      · refine List.lt_trans (rises_lt (j := (i + j) / 2) hr (by simp only at hk; omega) (by simp; omega)) ?_
        rw [hn]; exact hc
    (refine SImp.same ?_; simp (disch := omega) only [go_sem, wrap_n, Int.natCast_add])
  · have hc2 : ¬ cmpB (l.getD ((i + j) / 2) default).path key < 0 := by omega
    rw [cmpB_neg, ← hn] at hc2
    refine ⟨(i, (i + j) / 2), ⟨by simp only; omega, by simp only; omega, h3, fun _ => hc2⟩, by simp only; omega, ?_⟩
    (refine SImp.same ?_; simp (disch := omega) only [go_sem, wrap_n, Int.natCast_add])
  · have e0 : i = j := by omega
    subst e0
    have e1 : place (l.map ANode.path) key = i := place_eq (by simp; omega) h3 (fun h => h4 (by simpa using h))
    have e2 : key ∈ l.map ANode.path ↔ i < (l.map ANode.path).length ∧ (l.map ANode.path).getD i [] = key := found_iff hr h3 (fun h => h4 (by simpa using h))
    (refine aend_retc ?_ rfl ?_ ?_ ?_ ?_; (focus (first | exact .inl rfl | exact .inr rfl)); (iterate 3 (focus ((try simp (disch := omega) only [go_sem, wrap_n, e1]) <;> (try omega) <;> fail))); (try simp (disch := omega) only [go_sem, wrap_n, e1, I, B, S, inj, List.cons.injEq, and_true, true_and, and_self]))
    simp only [cmpB_eq, e2, hn, List.length_map]
    simp at hg; simp [hg]
  · have e0 : i = j := by omega
    subst e0
    have e1 : place (l.map ANode.path) key = i := place_eq (by simp; omega) h3 (fun h => h4 (by simpa using h))
    have e2 : key ∈ l.map ANode.path ↔ i < (l.map ANode.path).length ∧ (l.map ANode.path).getD i [] = key := found_iff hr h3 (fun h => h4 (by simpa using h))
    (refine aend_retc ?_ rfl ?_ ?_ ?_ ?_; (focus (first | exact .inl rfl | exact .inr rfl)); (iterate 3 (focus ((try simp (disch := omega) only [go_sem, wrap_n, e1]) <;> (try omega) <;> fail))); (try simp (disch := omega) only [go_sem, wrap_n, e1, I, B, S, inj, List.cons.injEq, and_true, true_and, and_self]))
    simp only [e2, List.length_map]
    simp at hg; simp; omega
end Go.Proofs.YtmpfhalheaeibaaDoor
