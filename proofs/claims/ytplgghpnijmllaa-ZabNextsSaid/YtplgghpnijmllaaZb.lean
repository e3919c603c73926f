/- Contracts of package zab. No condition. -/
import Derived.Test.YtplgghpnijmllaaMt
namespace Go.Proofs.Ytplgghpnijmllaa
open Go Go.RowKit
set_option maxRecDepth 100000
set_option linter.unusedSimpArgs false

theorem quorum_c : acall Try.prog [] 41 [] (ret (I 2)) := by
  refine acall_of tabOk Try.func41 rfl (by kernel_rfl) (by simp [Try.ntmps41]) ?_
  simp only [Try.ntmps41, Try.results41, List.toList_toArray, apar, List.length_nil, List.length_cons, Nat.reduceAdd]
  repeat' first
    | with_reducible refine AWP.seq ?_
    | with_reducible refine thenA_n ?_
    | with_reducible refine thenA_r ?_
    | with_reducible refine thenA_e ?_
    | with_reducible refine blkA_n ?_
    | with_reducible refine blkA_r ?_
    | with_reducible refine blkA_e ?_
    | with_reducible refine blkA_x (by decide) ?_
    | with_reducible refine AWP.skip ?_
    | with_reducible refine AWP.ret ?_
    | with_reducible refine AWP.exit ?_
    | with_reducible refine AWP.block ?_
    | (with_reducible refine AWP.cond rfl ?_ ?_ <;> intro hc <;> (try simp only [decide_eq_true_eq, decide_eq_false_iff_not, Bool.and_eq_true, Bool.or_eq_true, Bool.or_eq_false_iff, Bool.and_eq_false_iff, Bool.not_eq_true', Bool.not_eq_false', Bool.true_eq_false, Bool.false_eq_true, Bool.not_eq_true, Bool.not_eq_false, Int.not_lt, Int.not_le, Nat.not_lt, Nat.not_le, Int.ofNat_lt, Int.ofNat_le, Int.natCast_eq_zero, not_true_eq_false, not_false_eq_true, beq_iff_eq, Bool.not_true, Bool.not_false, ge_iff_le, gt_iff_lt] at hc))
    | ((first | with_reducible refine AWP.region tabOk ?_ | with_reducible refine AWP.quiet mixed tabOk (by kernel_rfl) ?_ | with_reducible refine AWP.draw mixed tabOk (by kernel_rfl) ?_); intro K hK; ((try simp (disch := omega) only [go_sem, wrap_n, true_and]) <;> (repeat' with_reducible refine And.intro ?_ ?_) <;> (try (with_reducible refine hK _ ?_; clear hK K))))
    | ((first | (with_reducible refine aunder_i ?_ ?_ <;> intro hg) | with_reducible intro hg) <;> (first | (exfalso; simp at hg; done) | (have hg' := hg; (try simp only [decide_eq_true_eq, decide_eq_false_iff_not, Bool.and_eq_true, Bool.or_eq_true, Bool.or_eq_false_iff, Bool.and_eq_false_iff, Bool.not_eq_true', Bool.not_eq_false', Bool.true_eq_false, Bool.false_eq_true, Bool.not_eq_true, Bool.not_eq_false, Int.not_lt, Int.not_le, Nat.not_lt, Nat.not_le, Int.ofNat_lt, Int.ofNat_le, Int.natCast_eq_zero, not_true_eq_false, not_false_eq_true, beq_iff_eq, Bool.not_true, Bool.not_false, ge_iff_le, gt_iff_lt] at hg'); ((try simp (disch := omega) only [hg, go_sem, wrap_n, true_and]) <;> (repeat' with_reducible refine And.intro ?_ ?_) <;> (try (with_reducible refine hK _ ?_; clear hK K))))))
                                                            | omega
  all_goals try (refine aend_ret ?_ rfl ?_ ?_ ?_ ?_; (focus (first | exact .inl rfl | exact .inr rfl)); (focus (simp only [go_sem, true_and]; first | done | omega)); (focus (simp only [go_sem, true_and]; done)); (focus (simp only [go_sem, true_and]; done)); simp only [go_sem, true_and, I, B, S, AV.d.injEq, DV.int.injEq, DV.bool.injEq, DV.str.injEq, DV.sl.injEq, AV.tup.injEq, AV.agg.injEq, List.cons.injEq, and_true, true_and, and_self])

/-- How many logs have at place 'n' what the first one has there. -/
def sameAt (l : List (List ATxn)) (n : Nat) (k : Nat) : Nat := (l.take k).countP fun m => decide (n < m.length) && decide (m.getD n default = (l.getD 0 default).getD n default)
def logsV (l : List (List ATxn)) : AV := .d (.sl 1 (l.map fun m => [.sl 7 (m.map ATxn.row)]))
def comm (l : List (List ATxn)) : Nat := (List.range (l.getD 0 default).length).findIdx fun n => decide (sameAt l n l.length < 2)
theorem sameAt_zero (l : List (List ATxn)) (n : Nat) : sameAt l n 0 = 0 := rfl
theorem sameAt_le (l : List (List ATxn)) (n k : Nat) : sameAt l n k ≤ k := by
  refine Nat.le_trans List.countP_le_length ?_
  rw [List.length_take]; exact Nat.min_le_left _ _
theorem sameAt_yes {l : List (List ATxn)} {n k : Nat} (hk : k < l.length) (h1 : n < (l.getD k default).length) (h2 : (l.getD k default).getD n default = (l.getD 0 default).getD n default) : sameAt l n (k + 1) = sameAt l n k + 1 := by
  unfold sameAt
  rw [take_snoc l k hk, List.countP_append, List.countP_singleton, if_pos]
  simp only [Bool.and_eq_true, decide_eq_true_eq]; exact ⟨h1, h2⟩
theorem sameAt_no {l : List (List ATxn)} {n k : Nat} (hk : k < l.length) (h : (l.getD k default).length ≤ n ∨ ¬(l.getD k default).getD n default = (l.getD 0 default).getD n default) : sameAt l n (k + 1) = sameAt l n k := by
  unfold sameAt
  rw [take_snoc l k hk, List.countP_append, List.countP_singleton, if_neg, Nat.add_zero]
  simp only [Bool.and_eq_true, decide_eq_true_eq]; intro ⟨a, b⟩; rcases h with h | h; omega; exact h b
theorem comm_all {l : List (List ATxn)} (h : ∀ k, k < (l.getD 0 default).length → 2 ≤ sameAt l k l.length) : comm l = (l.getD 0 default).length := by
  unfold comm
  rw [List.findIdx_eq_length_of_false]
  · exact List.length_range
  · intro k hk; rw [List.mem_range] at hk; have := h k hk; simp; omega
theorem comm_at {l : List (List ATxn)} {n : Nat} (hn : n < (l.getD 0 default).length) (h : ∀ k, k < n → 2 ≤ sameAt l k l.length) (h2 : sameAt l n l.length < 2) : comm l = n := by
  unfold comm
  rw [List.findIdx_eq (by rw [List.length_range]; exact hn)]
  rw [List.getElem_range]
  refine ⟨by simpa using h2, fun j hj => ?_⟩
  rw [List.getElem_range]
  have := h j hj
  simp; omega

theorem committed_c (l : List (List ATxn)) (h : l.length ≤ 140737488351232) (h2 : ∀ m, m ∈ l → m.length ≤ 140737488351232) : acall Try.prog [] 22 [logsV l] (ret (I (comm l))) := by
  unfold logsV
  refine acall_of tabOk Try.func22 rfl (by kernel_rfl) (by simp [Try.ntmps22]) ?_
  simp only [Try.ntmps22, Try.results22, List.toList_toArray, apar, List.length_nil, List.length_cons, Nat.reduceAdd]
  repeat' first
    | with_reducible refine AWP.seq ?_
    | with_reducible refine thenA_n ?_
    | with_reducible refine thenA_r ?_
    | with_reducible refine thenA_e ?_
    | with_reducible refine blkA_n ?_
    | with_reducible refine blkA_r ?_
    | with_reducible refine blkA_e ?_
    | with_reducible refine blkA_x (by decide) ?_
    | with_reducible refine AWP.skip ?_
    | with_reducible refine AWP.ret ?_
    | with_reducible refine AWP.exit ?_
    | with_reducible refine AWP.block ?_
    | (with_reducible refine AWP.cond rfl ?_ ?_ <;> intro hc <;> (try simp only [decide_eq_true_eq, decide_eq_false_iff_not, Bool.and_eq_true, Bool.or_eq_true, Bool.or_eq_false_iff, Bool.and_eq_false_iff, Bool.not_eq_true', Bool.not_eq_false', Bool.true_eq_false, Bool.false_eq_true, Bool.not_eq_true, Bool.not_eq_false, Int.not_lt, Int.not_le, Nat.not_lt, Nat.not_le, Int.ofNat_lt, Int.ofNat_le, Int.natCast_eq_zero, not_true_eq_false, not_false_eq_true, beq_iff_eq, Bool.not_true, Bool.not_false, ge_iff_le, gt_iff_lt] at hc))
    | ((first | with_reducible refine AWP.region tabOk ?_ | with_reducible refine AWP.quiet mixed tabOk (by kernel_rfl) ?_ | with_reducible refine AWP.draw mixed tabOk (by kernel_rfl) ?_); intro K hK; ((try simp (disch := omega) only [go_sem, wrap_n, true_and]) <;> (repeat' with_reducible refine And.intro ?_ ?_) <;> (try (with_reducible refine hK _ ?_; clear hK K))))
    | ((first | (with_reducible refine aunder_i ?_ ?_ <;> intro hg) | with_reducible intro hg) <;> (first | (exfalso; simp at hg; done) | (have hg' := hg; (try simp only [decide_eq_true_eq, decide_eq_false_iff_not, Bool.and_eq_true, Bool.or_eq_true, Bool.or_eq_false_iff, Bool.and_eq_false_iff, Bool.not_eq_true', Bool.not_eq_false', Bool.true_eq_false, Bool.false_eq_true, Bool.not_eq_true, Bool.not_eq_false, Int.not_lt, Int.not_le, Nat.not_lt, Nat.not_le, Int.ofNat_lt, Int.ofNat_le, Int.natCast_eq_zero, not_true_eq_false, not_false_eq_true, beq_iff_eq, Bool.not_true, Bool.not_false, ge_iff_le, gt_iff_lt] at hg'); ((try simp (disch := omega) only [hg, go_sem, wrap_n, true_and]) <;> (repeat' with_reducible refine And.intro ?_ ?_) <;> (try (with_reducible refine hK _ ?_; clear hK K))))))
                                                            | omega
  · try (refine aend_ret ?_ rfl ?_ ?_ ?_ ?_; (focus (first | exact .inl rfl | exact .inr rfl)); (focus (simp only [go_sem, true_and]; first | done | omega)); (focus (simp only [go_sem, true_and]; done)); (focus (simp only [go_sem, true_and]; done)); simp only [go_sem, true_and, I, B, S, AV.d.injEq, DV.int.injEq, DV.bool.injEq, DV.str.injEq, DV.sl.injEq, AV.tup.injEq, AV.agg.injEq, List.cons.injEq, and_true, true_and, and_self])
    rw [nil_of_len hc]; rfl
  have h3 := h2 _ (getD_mem l 0 (by omega))
  refine AWP.loopS (ι := Nat) (fun n => n ≤ (l.getD 0 default).length ∧ ∀ k, k < n → 2 ≤ sameAt l k l.length) (fun n => (l.getD 0 default).length - n) [0] (fun n => [(3, I n)]) 0 ⟨by omega, by omega⟩ (by simp only [go_sem]) ?_
  intro n ⟨hn, hn2⟩
  simp only [go_sem]
  repeat' first
    | with_reducible refine AWP.seq ?_
    | with_reducible refine thenA_n ?_
    | with_reducible refine thenA_r ?_
    | with_reducible refine thenA_e ?_
    | with_reducible refine blkA_n ?_
    | with_reducible refine blkA_r ?_
    | with_reducible refine blkA_e ?_
    | with_reducible refine blkA_x (by decide) ?_
    | with_reducible refine AWP.skip ?_
    | with_reducible refine AWP.ret ?_
    | with_reducible refine AWP.exit ?_
    | with_reducible refine AWP.block ?_
    | (with_reducible refine AWP.cond rfl ?_ ?_ <;> intro hc <;> (try simp only [decide_eq_true_eq, decide_eq_false_iff_not, Bool.and_eq_true, Bool.or_eq_true, Bool.or_eq_false_iff, Bool.and_eq_false_iff, Bool.not_eq_true', Bool.not_eq_false', Bool.true_eq_false, Bool.false_eq_true, Bool.not_eq_true, Bool.not_eq_false, Int.not_lt, Int.not_le, Nat.not_lt, Nat.not_le, Int.ofNat_lt, Int.ofNat_le, Int.natCast_eq_zero, not_true_eq_false, not_false_eq_true, beq_iff_eq, Bool.not_true, Bool.not_false, ge_iff_le, gt_iff_lt] at hc))
    | ((first | with_reducible refine AWP.region tabOk ?_ | with_reducible refine AWP.quiet mixed tabOk (by kernel_rfl) ?_ | with_reducible refine AWP.draw mixed tabOk (by kernel_rfl) ?_); intro K hK; ((try simp (disch := omega) only [go_sem, wrap_n, getD_row]) <;> (repeat' with_reducible refine And.intro ?_ ?_) <;> (try (with_reducible refine hK _ ?_; clear hK K))))
    | ((first | (with_reducible refine aunder_i ?_ ?_ <;> intro hg) | with_reducible intro hg) <;> (first | (exfalso; simp at hg; done) | (have hg' := hg; (try simp only [decide_eq_true_eq, decide_eq_false_iff_not, Bool.and_eq_true, Bool.or_eq_true, Bool.or_eq_false_iff, Bool.and_eq_false_iff, Bool.not_eq_true', Bool.not_eq_false', Bool.true_eq_false, Bool.false_eq_true, Bool.not_eq_true, Bool.not_eq_false, Int.not_lt, Int.not_le, Nat.not_lt, Nat.not_le, Int.ofNat_lt, Int.ofNat_le, Int.natCast_eq_zero, not_true_eq_false, not_false_eq_true, beq_iff_eq, Bool.not_true, Bool.not_false, ge_iff_le, gt_iff_lt] at hg'); ((try simp (disch := omega) only [hg, go_sem, wrap_n, getD_row]) <;> (repeat' with_reducible refine And.intro ?_ ?_) <;> (try (with_reducible refine hK _ ?_; clear hK K))))))
                                                            | omega
  rotate_left
  · try (refine aend_ret ?_ rfl ?_ ?_ ?_ ?_; (focus (first | exact .inl rfl | exact .inr rfl)); (focus (simp only [go_sem, true_and]; first | done | omega)); (focus (simp only [go_sem, true_and]; done)); (focus (simp only [go_sem, true_and]; done)); simp only [go_sem, true_and, I, B, S, AV.d.injEq, DV.int.injEq, DV.bool.injEq, DV.str.injEq, DV.sl.injEq, AV.tup.injEq, AV.agg.injEq, List.cons.injEq, and_true, true_and, and_self])
    have e : n = (l.getD 0 default).length := by omega
    subst e
    rw [comm_all hn2]
  rename_i hnl
  refine AWP.loopS (ι := Nat) (fun k => k ≤ l.length) (fun k => l.length - k) [0, 3, 16, 17] (fun k => [(4, I (sameAt l n k)), (18, I k)]) 0 (by omega) (by simp only [go_sem, sameAt_zero, Int.cast_ofNat_Int]) ?_
  intro k hk
  have hcnt := sameAt_le l n k
  simp only [go_sem]
  repeat' first
    | with_reducible refine AWP.seq ?_
    | with_reducible refine thenA_n ?_
    | with_reducible refine thenA_r ?_
    | with_reducible refine thenA_e ?_
    | with_reducible refine blkA_n ?_
    | with_reducible refine blkA_r ?_
    | with_reducible refine blkA_e ?_
    | with_reducible refine blkA_x (by decide) ?_
    | with_reducible refine AWP.skip ?_
    | with_reducible refine AWP.ret ?_
    | with_reducible refine AWP.exit ?_
    | with_reducible refine AWP.block ?_
    | (with_reducible refine AWP.cond rfl ?_ ?_ <;> intro hc <;> (try simp only [decide_eq_true_eq, decide_eq_false_iff_not, Bool.and_eq_true, Bool.or_eq_true, Bool.or_eq_false_iff, Bool.and_eq_false_iff, Bool.not_eq_true', Bool.not_eq_false', Bool.true_eq_false, Bool.false_eq_true, Bool.not_eq_true, Bool.not_eq_false, Int.not_lt, Int.not_le, Nat.not_lt, Nat.not_le, Int.ofNat_lt, Int.ofNat_le, Int.natCast_eq_zero, not_true_eq_false, not_false_eq_true, beq_iff_eq, Bool.not_true, Bool.not_false, ge_iff_le, gt_iff_lt] at hc))
    | ((first | with_reducible refine AWP.region tabOk ?_ | with_reducible refine AWP.quiet mixed tabOk (by kernel_rfl) ?_ | with_reducible refine AWP.draw mixed tabOk (by kernel_rfl) ?_); intro K hK; ((try simp (disch := omega) only [go_sem, wrap_n, getD_row]) <;> (repeat' with_reducible refine And.intro ?_ ?_) <;> (try (with_reducible refine hK _ ?_; clear hK K))))
    | ((first | refine acallH_sc (quorum_c) rfl rfl ?_ ?_ ?_); (focus ((try simp (disch := omega) only [go_sem, wrap_n, getD_row]) <;> (try omega) <;> fail)); (focus ((try simp (disch := omega) only [go_sem, wrap_n, getD_row]) <;> (try omega) <;> fail)); ((try simp (disch := omega) only [go_sem, wrap_n, getD_row]) <;> (repeat' with_reducible refine And.intro ?_ ?_) <;> (try (with_reducible refine hK _ ?_; clear hK K))))
    | ((first | refine acallQ_sc (quorum_c) rfl rfl ?_ ?_ ?_); (focus ((try simp (disch := omega) only [go_sem, wrap_n, getD_row]) <;> (try omega) <;> fail)); (focus ((try simp (disch := omega) only [go_sem, wrap_n, getD_row]) <;> (try omega) <;> fail)); ((try simp (disch := omega) only [go_sem, wrap_n, getD_row]) <;> (repeat' with_reducible refine And.intro ?_ ?_) <;> (try (with_reducible refine hK _ ?_; clear hK K))))
    | ((first | refine acallH_anyr (quorum_c) rfl ?_ ?_); (focus ((try simp (disch := omega) only [go_sem, wrap_n, getD_row]) <;> (try omega) <;> fail)); ((try simp (disch := omega) only [go_sem, wrap_n, getD_row]) <;> (repeat' with_reducible refine And.intro ?_ ?_) <;> (try (with_reducible refine hK _ ?_; clear hK K))))
    | ((first | refine acallH_scx (quorum_c) rfl ?_ ?_ | refine acallQ_scx (quorum_c) rfl ?_ ?_ | refine acallH_anyx (quorum_c) ?_ ?_); (focus ((try simp (disch := omega) only [go_sem, wrap_n, getD_row]) <;> (try omega) <;> fail)); ((try simp (disch := omega) only [go_sem, wrap_n, getD_row]) <;> (repeat' with_reducible refine And.intro ?_ ?_) <;> (try (with_reducible refine hK _ ?_; clear hK K))))
    | ((first | (with_reducible refine aunder_i ?_ ?_ <;> intro hg) | with_reducible intro hg) <;> (first | (exfalso; simp at hg; done) | (have hg' := hg; (try simp only [decide_eq_true_eq, decide_eq_false_iff_not, Bool.and_eq_true, Bool.or_eq_true, Bool.or_eq_false_iff, Bool.and_eq_false_iff, Bool.not_eq_true', Bool.not_eq_false', Bool.true_eq_false, Bool.false_eq_true, Bool.not_eq_true, Bool.not_eq_false, Int.not_lt, Int.not_le, Nat.not_lt, Nat.not_le, Int.ofNat_lt, Int.ofNat_le, Int.natCast_eq_zero, not_true_eq_false, not_false_eq_true, beq_iff_eq, Bool.not_true, Bool.not_false, ge_iff_le, gt_iff_lt] at hg'); ((try simp (disch := omega) only [hg, go_sem, wrap_n, getD_row]) <;> (repeat' with_reducible refine And.intro ?_ ?_) <;> (try (with_reducible refine hK _ ?_; clear hK K))))))
                                                            | omega
  · rename_i hm
    refine ⟨k + 1, by omega, by omega, ?_⟩
    (refine SImp.same ?_; simp (disch := omega) only [go_sem, wrap_n, Int.natCast_add, sameAt_yes hm hc.1 hc.2, Int.natCast_add, Int.cast_ofNat_Int])
  · rename_i hm
    refine ⟨k + 1, by omega, by omega, ?_⟩
    (refine SImp.same ?_; simp (disch := omega) only [go_sem, wrap_n, Int.natCast_add, sameAt_no hm hc, Int.natCast_add, Int.cast_ofNat_Int])
  · have e : k = l.length := by omega
    subst e
    try (refine aend_ret ?_ rfl ?_ ?_ ?_ ?_; (focus (first | exact .inl rfl | exact .inr rfl)); (focus (simp only [go_sem, true_and]; first | done | omega)); (focus (simp only [go_sem, true_and]; done)); (focus (simp only [go_sem, true_and]; done)); simp only [go_sem, true_and, I, B, S, AV.d.injEq, DV.int.injEq, DV.bool.injEq, DV.str.injEq, DV.sl.injEq, AV.tup.injEq, AV.agg.injEq, List.cons.injEq, and_true, true_and, and_self])
    rw [comm_at (by omega) hn2 (by omega)]
  · have e : k = l.length := by omega
    subst e
    refine ⟨n + 1, ⟨by omega, fun k hk => ?_⟩, by omega, ?_⟩
    · by_cases h : k = n
      · subst h; omega
      · exact hn2 k (by omega)
    (refine SImp.same ?_; simp (disch := omega) only [go_sem, wrap_n, Int.natCast_add, Int.natCast_add, Int.cast_ofNat_Int])

theorem ref_committed_c (l : List (List ATxn)) (h : l.length ≤ 140737488351232) (h2 : ∀ m, m ∈ l → m.length ≤ 140737488351232) : acall Try.prog [] 23 [logsV l] (ret (I (comm l))) := by
  unfold logsV
  refine acall_of tabOk Try.func23 rfl (by kernel_rfl) (by simp [Try.ntmps23]) ?_
  simp only [Try.ntmps23, Try.results23, List.toList_toArray, apar, List.length_nil, List.length_cons, Nat.reduceAdd]
  repeat' first
    | with_reducible refine AWP.seq ?_
    | with_reducible refine thenA_n ?_
    | with_reducible refine thenA_r ?_
    | with_reducible refine thenA_e ?_
    | with_reducible refine blkA_n ?_
    | with_reducible refine blkA_r ?_
    | with_reducible refine blkA_e ?_
    | with_reducible refine blkA_x (by decide) ?_
    | with_reducible refine AWP.skip ?_
    | with_reducible refine AWP.ret ?_
    | with_reducible refine AWP.exit ?_
    | with_reducible refine AWP.block ?_
    | (with_reducible refine AWP.cond rfl ?_ ?_ <;> intro hc <;> (try simp only [decide_eq_true_eq, decide_eq_false_iff_not, Bool.and_eq_true, Bool.or_eq_true, Bool.or_eq_false_iff, Bool.and_eq_false_iff, Bool.not_eq_true', Bool.not_eq_false', Bool.true_eq_false, Bool.false_eq_true, Bool.not_eq_true, Bool.not_eq_false, Int.not_lt, Int.not_le, Nat.not_lt, Nat.not_le, Int.ofNat_lt, Int.ofNat_le, Int.natCast_eq_zero, not_true_eq_false, not_false_eq_true, beq_iff_eq, Bool.not_true, Bool.not_false, ge_iff_le, gt_iff_lt] at hc))
    | ((first | with_reducible refine AWP.region tabOk ?_ | with_reducible refine AWP.quiet mixed tabOk (by kernel_rfl) ?_ | with_reducible refine AWP.draw mixed tabOk (by kernel_rfl) ?_); intro K hK; ((try simp (disch := omega) only [go_sem, wrap_n, getD_row]) <;> (repeat' with_reducible refine And.intro ?_ ?_) <;> (try (with_reducible refine hK _ ?_; clear hK K))))
    | ((first | (with_reducible refine aunder_i ?_ ?_ <;> intro hg) | with_reducible intro hg) <;> (first | (exfalso; simp at hg; done) | (have hg' := hg; (try simp only [decide_eq_true_eq, decide_eq_false_iff_not, Bool.and_eq_true, Bool.or_eq_true, Bool.or_eq_false_iff, Bool.and_eq_false_iff, Bool.not_eq_true', Bool.not_eq_false', Bool.true_eq_false, Bool.false_eq_true, Bool.not_eq_true, Bool.not_eq_false, Int.not_lt, Int.not_le, Nat.not_lt, Nat.not_le, Int.ofNat_lt, Int.ofNat_le, Int.natCast_eq_zero, not_true_eq_false, not_false_eq_true, beq_iff_eq, Bool.not_true, Bool.not_false, ge_iff_le, gt_iff_lt] at hg'); ((try simp (disch := omega) only [hg, go_sem, wrap_n, getD_row]) <;> (repeat' with_reducible refine And.intro ?_ ?_) <;> (try (with_reducible refine hK _ ?_; clear hK K))))))
                                                            | omega
  · try (refine aend_ret ?_ rfl ?_ ?_ ?_ ?_; (focus (first | exact .inl rfl | exact .inr rfl)); (focus (simp only [go_sem, true_and]; first | done | omega)); (focus (simp only [go_sem, true_and]; done)); (focus (simp only [go_sem, true_and]; done)); simp only [go_sem, true_and, I, B, S, AV.d.injEq, DV.int.injEq, DV.bool.injEq, DV.str.injEq, DV.sl.injEq, AV.tup.injEq, AV.agg.injEq, List.cons.injEq, and_true, true_and, and_self])
    rw [nil_of_len hc]; rfl
  have h3 := h2 _ (getD_mem l 0 (by omega))
  refine AWP.loopS (ι := Nat) (fun n => n ≤ (l.getD 0 default).length ∧ ∀ k, k < n → 2 ≤ sameAt l k l.length) (fun n => (l.getD 0 default).length - n) [0, 13] (fun n => [(14, I n)]) 0 ?_ (by simp (disch := omega) only [go_sem, wrap_n, true_and]) ?_
  · exact ⟨by omega, by omega⟩
  intro n ⟨hn, hn2⟩
  simp only [go_sem]
  repeat' first
    | with_reducible refine AWP.seq ?_
    | with_reducible refine thenA_n ?_
    | with_reducible refine thenA_r ?_
    | with_reducible refine thenA_e ?_
    | with_reducible refine blkA_n ?_
    | with_reducible refine blkA_r ?_
    | with_reducible refine blkA_e ?_
    | with_reducible refine blkA_x (by decide) ?_
    | with_reducible refine AWP.skip ?_
    | with_reducible refine AWP.ret ?_
    | with_reducible refine AWP.exit ?_
    | with_reducible refine AWP.block ?_
    | (with_reducible refine AWP.cond rfl ?_ ?_ <;> intro hc <;> (try simp only [decide_eq_true_eq, decide_eq_false_iff_not, Bool.and_eq_true, Bool.or_eq_true, Bool.or_eq_false_iff, Bool.and_eq_false_iff, Bool.not_eq_true', Bool.not_eq_false', Bool.true_eq_false, Bool.false_eq_true, Bool.not_eq_true, Bool.not_eq_false, Int.not_lt, Int.not_le, Nat.not_lt, Nat.not_le, Int.ofNat_lt, Int.ofNat_le, Int.natCast_eq_zero, not_true_eq_false, not_false_eq_true, beq_iff_eq, Bool.not_true, Bool.not_false, ge_iff_le, gt_iff_lt] at hc))
    | ((first | with_reducible refine AWP.region tabOk ?_ | with_reducible refine AWP.quiet mixed tabOk (by kernel_rfl) ?_ | with_reducible refine AWP.draw mixed tabOk (by kernel_rfl) ?_); intro K hK; ((try simp (disch := omega) only [go_sem, wrap_n, getD_row]) <;> (repeat' with_reducible refine And.intro ?_ ?_) <;> (try (with_reducible refine hK _ ?_; clear hK K))))
    | ((first | (with_reducible refine aunder_i ?_ ?_ <;> intro hg) | with_reducible intro hg) <;> (first | (exfalso; simp at hg; done) | (have hg' := hg; (try simp only [decide_eq_true_eq, decide_eq_false_iff_not, Bool.and_eq_true, Bool.or_eq_true, Bool.or_eq_false_iff, Bool.and_eq_false_iff, Bool.not_eq_true', Bool.not_eq_false', Bool.true_eq_false, Bool.false_eq_true, Bool.not_eq_true, Bool.not_eq_false, Int.not_lt, Int.not_le, Nat.not_lt, Nat.not_le, Int.ofNat_lt, Int.ofNat_le, Int.natCast_eq_zero, not_true_eq_false, not_false_eq_true, beq_iff_eq, Bool.not_true, Bool.not_false, ge_iff_le, gt_iff_lt] at hg'); ((try simp (disch := omega) only [hg, go_sem, wrap_n, getD_row]) <;> (repeat' with_reducible refine And.intro ?_ ?_) <;> (try (with_reducible refine hK _ ?_; clear hK K))))))
                                                            | omega
  rotate_left
  · try (refine aend_ret ?_ rfl ?_ ?_ ?_ ?_; (focus (first | exact .inl rfl | exact .inr rfl)); (focus (simp only [go_sem, true_and]; first | done | omega)); (focus (simp only [go_sem, true_and]; done)); (focus (simp only [go_sem, true_and]; done)); simp only [go_sem, true_and, I, B, S, AV.d.injEq, DV.int.injEq, DV.bool.injEq, DV.str.injEq, DV.sl.injEq, AV.tup.injEq, AV.agg.injEq, List.cons.injEq, and_true, true_and, and_self])
    have e : n = (l.getD 0 default).length := by omega
    subst e
    rw [comm_all hn2]
  refine AWP.loopS (ι := Nat) (fun k => k ≤ l.length) (fun k => l.length - k) [0, 3, 13, 14, 17, 18] (fun k => [(4, I (sameAt l n k)), (19, I k)]) 0 ?_ (by simp (disch := omega) only [go_sem, wrap_n, sameAt_zero, Int.cast_ofNat_Int]) ?_
  · omega
  intro k hk
  have hcnt := sameAt_le l n k
  simp only [go_sem]
  repeat' first
    | with_reducible refine AWP.seq ?_
    | with_reducible refine thenA_n ?_
    | with_reducible refine thenA_r ?_
    | with_reducible refine thenA_e ?_
    | with_reducible refine blkA_n ?_
    | with_reducible refine blkA_r ?_
    | with_reducible refine blkA_e ?_
    | with_reducible refine blkA_x (by decide) ?_
    | with_reducible refine AWP.skip ?_
    | with_reducible refine AWP.ret ?_
    | with_reducible refine AWP.exit ?_
    | with_reducible refine AWP.block ?_
    | (with_reducible refine AWP.cond rfl ?_ ?_ <;> intro hc <;> (try simp only [decide_eq_true_eq, decide_eq_false_iff_not, Bool.and_eq_true, Bool.or_eq_true, Bool.or_eq_false_iff, Bool.and_eq_false_iff, Bool.not_eq_true', Bool.not_eq_false', Bool.true_eq_false, Bool.false_eq_true, Bool.not_eq_true, Bool.not_eq_false, Int.not_lt, Int.not_le, Nat.not_lt, Nat.not_le, Int.ofNat_lt, Int.ofNat_le, Int.natCast_eq_zero, not_true_eq_false, not_false_eq_true, beq_iff_eq, Bool.not_true, Bool.not_false, ge_iff_le, gt_iff_lt] at hc))
    | ((first | with_reducible refine AWP.region tabOk ?_ | with_reducible refine AWP.quiet mixed tabOk (by kernel_rfl) ?_ | with_reducible refine AWP.draw mixed tabOk (by kernel_rfl) ?_); intro K hK; ((try simp (disch := omega) only [go_sem, wrap_n, getD_row]) <;> (repeat' with_reducible refine And.intro ?_ ?_) <;> (try (with_reducible refine hK _ ?_; clear hK K))))
    | ((first | (with_reducible refine aunder_i ?_ ?_ <;> intro hg) | with_reducible intro hg) <;> (first | (exfalso; simp at hg; done) | (have hg' := hg; (try simp only [decide_eq_true_eq, decide_eq_false_iff_not, Bool.and_eq_true, Bool.or_eq_true, Bool.or_eq_false_iff, Bool.and_eq_false_iff, Bool.not_eq_true', Bool.not_eq_false', Bool.true_eq_false, Bool.false_eq_true, Bool.not_eq_true, Bool.not_eq_false, Int.not_lt, Int.not_le, Nat.not_lt, Nat.not_le, Int.ofNat_lt, Int.ofNat_le, Int.natCast_eq_zero, not_true_eq_false, not_false_eq_true, beq_iff_eq, Bool.not_true, Bool.not_false, ge_iff_le, gt_iff_lt] at hg'); ((try simp (disch := omega) only [hg, go_sem, wrap_n, getD_row]) <;> (repeat' with_reducible refine And.intro ?_ ?_) <;> (try (with_reducible refine hK _ ?_; clear hK K))))))
                                                            | omega
  · rename_i hm
    refine ⟨k + 1, by omega, by omega, ?_⟩
    (refine SImp.same ?_; simp (disch := omega) only [go_sem, wrap_n, Int.natCast_add, sameAt_yes hm hc.1 hc.2, Int.natCast_add, Int.cast_ofNat_Int])
  · rename_i hm
    refine ⟨k + 1, by omega, by omega, ?_⟩
    (refine SImp.same ?_; simp (disch := omega) only [go_sem, wrap_n, Int.natCast_add, sameAt_no hm hc, Int.natCast_add, Int.cast_ofNat_Int])
  · have e : k = l.length := by omega
    subst e
    try (refine aend_ret ?_ rfl ?_ ?_ ?_ ?_; (focus (first | exact .inl rfl | exact .inr rfl)); (focus (simp only [go_sem, true_and]; first | done | omega)); (focus (simp only [go_sem, true_and]; done)); (focus (simp only [go_sem, true_and]; done)); simp only [go_sem, true_and, I, B, S, AV.d.injEq, DV.int.injEq, DV.bool.injEq, DV.str.injEq, DV.sl.injEq, AV.tup.injEq, AV.agg.injEq, List.cons.injEq, and_true, true_and, and_self])
    rw [comm_at (by omega) hn2 (by omega)]
  · have e : k = l.length := by omega
    subst e
    refine ⟨n + 1, ⟨by omega, fun k hk => ?_⟩, by omega, ?_⟩
    · by_cases h : k = n
      · subst h; omega
      · exact hn2 k (by omega)
    (refine SImp.same ?_; simp (disch := omega) only [go_sem, wrap_n, Int.natCast_add, Int.natCast_add, Int.cast_ofNat_Int])

def openedT : ATxn := ⟨1, 1, 1, [], [], 0, 0⟩
theorem opened_c : acall Try.prog [] 24 [] (ret (.d (.sl 7 ([openedT].map ATxn.row)))) := by
  refine acall_of tabOk Try.func24 rfl (by kernel_rfl) (by simp [Try.ntmps24]) ?_
  simp only [Try.ntmps24, Try.results24, List.toList_toArray, apar, List.length_nil, List.length_cons, Nat.reduceAdd]
  repeat' first
    | with_reducible refine AWP.seq ?_
    | with_reducible refine thenA_n ?_
    | with_reducible refine thenA_r ?_
    | with_reducible refine thenA_e ?_
    | with_reducible refine blkA_n ?_
    | with_reducible refine blkA_r ?_
    | with_reducible refine blkA_e ?_
    | with_reducible refine blkA_x (by decide) ?_
    | with_reducible refine AWP.skip ?_
    | with_reducible refine AWP.ret ?_
    | with_reducible refine AWP.exit ?_
    | with_reducible refine AWP.block ?_
    | (with_reducible refine AWP.cond rfl ?_ ?_ <;> intro hc <;> (try simp only [decide_eq_true_eq, decide_eq_false_iff_not, Bool.and_eq_true, Bool.or_eq_true, Bool.or_eq_false_iff, Bool.and_eq_false_iff, Bool.not_eq_true', Bool.not_eq_false', Bool.true_eq_false, Bool.false_eq_true, Bool.not_eq_true, Bool.not_eq_false, Int.not_lt, Int.not_le, Nat.not_lt, Nat.not_le, Int.ofNat_lt, Int.ofNat_le, Int.natCast_eq_zero, not_true_eq_false, not_false_eq_true, beq_iff_eq, Bool.not_true, Bool.not_false, ge_iff_le, gt_iff_lt] at hc))
    | ((first | with_reducible refine AWP.region tabOk ?_ | with_reducible refine AWP.quiet mixed tabOk (by kernel_rfl) ?_ | with_reducible refine AWP.draw mixed tabOk (by kernel_rfl) ?_); intro K hK; ((try simp (disch := omega) only [go_sem, wrap_n, true_and]) <;> (repeat' with_reducible refine And.intro ?_ ?_) <;> (try (with_reducible refine hK _ ?_; clear hK K))))
    | ((first | (with_reducible refine aunder_i ?_ ?_ <;> intro hg) | with_reducible intro hg) <;> (first | (exfalso; simp at hg; done) | (have hg' := hg; (try simp only [decide_eq_true_eq, decide_eq_false_iff_not, Bool.and_eq_true, Bool.or_eq_true, Bool.or_eq_false_iff, Bool.and_eq_false_iff, Bool.not_eq_true', Bool.not_eq_false', Bool.true_eq_false, Bool.false_eq_true, Bool.not_eq_true, Bool.not_eq_false, Int.not_lt, Int.not_le, Nat.not_lt, Nat.not_le, Int.ofNat_lt, Int.ofNat_le, Int.natCast_eq_zero, not_true_eq_false, not_false_eq_true, beq_iff_eq, Bool.not_true, Bool.not_false, ge_iff_le, gt_iff_lt] at hg'); ((try simp (disch := omega) only [hg, go_sem, wrap_n, true_and]) <;> (repeat' with_reducible refine And.intro ?_ ?_) <;> (try (with_reducible refine hK _ ?_; clear hK K))))))
                                                            | omega
  all_goals try (refine aend_ret ?_ rfl ?_ ?_ ?_ ?_; (focus (first | exact .inl rfl | exact .inr rfl)); (focus (simp only [go_sem, openedT]; first | done | omega)); (focus (simp only [go_sem, openedT]; done)); (focus (simp only [go_sem, openedT]; done)); simp only [go_sem, openedT, I, B, S, AV.d.injEq, DV.int.injEq, DV.bool.injEq, DV.str.injEq, DV.sl.injEq, AV.tup.injEq, AV.agg.injEq, List.cons.injEq, and_true, true_and, and_self])

theorem zabCommits_b (l : List (List ATxn)) (h : l.length * 24 ≤ 140737488351232) (h2 : ∀ m, m ∈ l → m.length * 72 ≤ 140737488351232) : acall Try.prog [] 6 [logsV l] (ret (B true)) := by
  unfold logsV
  refine acall_of tabOk Try.func6 rfl (by kernel_rfl) (by simp [Try.ntmps6]) ?_
  simp only [Try.ntmps6, Try.results6, List.toList_toArray, apar, List.length_nil, List.length_cons, Nat.reduceAdd]
  repeat' first
    | with_reducible refine AWP.seq ?_
    | with_reducible refine thenA_n ?_
    | with_reducible refine thenA_r ?_
    | with_reducible refine thenA_e ?_
    | with_reducible refine blkA_n ?_
    | with_reducible refine blkA_r ?_
    | with_reducible refine blkA_e ?_
    | with_reducible refine blkA_x (by decide) ?_
    | with_reducible refine AWP.skip ?_
    | with_reducible refine AWP.ret ?_
    | with_reducible refine AWP.exit ?_
    | with_reducible refine AWP.block ?_
    | (with_reducible refine AWP.cond rfl ?_ ?_ <;> intro hc <;> (try simp only [decide_eq_true_eq, decide_eq_false_iff_not, Bool.and_eq_true, Bool.or_eq_true, Bool.or_eq_false_iff, Bool.and_eq_false_iff, Bool.not_eq_true', Bool.not_eq_false', Bool.true_eq_false, Bool.false_eq_true, Bool.not_eq_true, Bool.not_eq_false, Int.not_lt, Int.not_le, Nat.not_lt, Nat.not_le, Int.ofNat_lt, Int.ofNat_le, Int.natCast_eq_zero, not_true_eq_false, not_false_eq_true, beq_iff_eq, Bool.not_true, Bool.not_false, ge_iff_le, gt_iff_lt] at hc))
    | ((first | with_reducible refine AWP.region tabOk ?_ | with_reducible refine AWP.quiet mixed tabOk (by kernel_rfl) ?_ | with_reducible refine AWP.draw mixed tabOk (by kernel_rfl) ?_); intro K hK; ((try simp (disch := omega) only [go_sem, wrap_n, true_and]) <;> (repeat' with_reducible refine And.intro ?_ ?_) <;> (try (with_reducible refine hK _ ?_; clear hK K))))
    | ((first | (with_reducible refine aunder_i ?_ ?_ <;> intro hg) | with_reducible intro hg) <;> (first | (exfalso; simp at hg; done) | (have hg' := hg; (try simp only [decide_eq_true_eq, decide_eq_false_iff_not, Bool.and_eq_true, Bool.or_eq_true, Bool.or_eq_false_iff, Bool.and_eq_false_iff, Bool.not_eq_true', Bool.not_eq_false', Bool.true_eq_false, Bool.false_eq_true, Bool.not_eq_true, Bool.not_eq_false, Int.not_lt, Int.not_le, Nat.not_lt, Nat.not_le, Int.ofNat_lt, Int.ofNat_le, Int.natCast_eq_zero, not_true_eq_false, not_false_eq_true, beq_iff_eq, Bool.not_true, Bool.not_false, ge_iff_le, gt_iff_lt] at hg'); ((try simp (disch := omega) only [hg, go_sem, wrap_n, true_and]) <;> (repeat' with_reducible refine And.intro ?_ ?_) <;> (try (with_reducible refine hK _ ?_; clear hK K))))))
                                                            | omega
  have h0 : l.length ≤ 140737488351232 := by omega
  have h1 : ∀ m, m ∈ l → m.length ≤ 140737488351232 := fun m hm => by have := h2 m hm; omega
  refine AWP.weaken (SImp.nilOwn 3 1 rfl) ?_
  refine AWP.loopB (ι := Nat) (fun i => i ≤ l.length) (fun i => l.length - i) [0] (fun i => [(3, .osl 0 1 0 i), (4, I i)]) (fun i => [.rows 1 ((l.take i).map fun m => [.sl 7 (m.map ATxn.row)])]) 0 ?_ ?_ ?_
  · omega
  · simp only [go_sem]; (refine SImp.same ?_; simp (disch := omega) only [go_sem, wrap_n, Int.natCast_add, true_and])
  intro i hi
  have hlen : i < l.length → (l.getD i default).length * 72 ≤ 140737488351232 := fun h => h2 _ (getD_mem l i h)
  simp only [go_sem]
  repeat' first
    | with_reducible refine AWP.seq ?_
    | with_reducible refine thenA_n ?_
    | with_reducible refine thenA_r ?_
    | with_reducible refine thenA_e ?_
    | with_reducible refine blkA_n ?_
    | with_reducible refine blkA_r ?_
    | with_reducible refine blkA_e ?_
    | with_reducible refine blkA_x (by decide) ?_
    | with_reducible refine AWP.skip ?_
    | with_reducible refine AWP.ret ?_
    | with_reducible refine AWP.exit ?_
    | with_reducible refine AWP.block ?_
    | (with_reducible refine AWP.cond rfl ?_ ?_ <;> intro hc <;> (try simp only [decide_eq_true_eq, decide_eq_false_iff_not, Bool.and_eq_true, Bool.or_eq_true, Bool.or_eq_false_iff, Bool.and_eq_false_iff, Bool.not_eq_true', Bool.not_eq_false', Bool.true_eq_false, Bool.false_eq_true, Bool.not_eq_true, Bool.not_eq_false, Int.not_lt, Int.not_le, Nat.not_lt, Nat.not_le, Int.ofNat_lt, Int.ofNat_le, Int.natCast_eq_zero, not_true_eq_false, not_false_eq_true, beq_iff_eq, Bool.not_true, Bool.not_false, ge_iff_le, gt_iff_lt] at hc))
    | ((first | with_reducible refine AWP.region tabOk ?_ | with_reducible refine AWP.quiet mixed tabOk (by kernel_rfl) ?_ | with_reducible refine AWP.draw mixed tabOk (by kernel_rfl) ?_); intro K hK; ((try simp (disch := omega) only [go_sem, wrap_n, getD_row]) <;> (repeat' with_reducible refine And.intro ?_ ?_) <;> (try (with_reducible refine hK _ ?_; clear hK K))))
    | ((first | (with_reducible refine aunder_i ?_ ?_ <;> intro hg) | with_reducible intro hg) <;> (first | (exfalso; simp at hg; done) | (have hg' := hg; (try simp only [decide_eq_true_eq, decide_eq_false_iff_not, Bool.and_eq_true, Bool.or_eq_true, Bool.or_eq_false_iff, Bool.and_eq_false_iff, Bool.not_eq_true', Bool.not_eq_false', Bool.true_eq_false, Bool.false_eq_true, Bool.not_eq_true, Bool.not_eq_false, Int.not_lt, Int.not_le, Nat.not_lt, Nat.not_le, Int.ofNat_lt, Int.ofNat_le, Int.natCast_eq_zero, not_true_eq_false, not_false_eq_true, beq_iff_eq, Bool.not_true, Bool.not_false, ge_iff_le, gt_iff_lt] at hg'); ((try simp (disch := omega) only [hg, go_sem, wrap_n, getD_row]) <;> (repeat' with_reducible refine And.intro ?_ ?_) <;> (try (with_reducible refine hK _ ?_; clear hK K))))))
                                                            | omega
  · refine ⟨i + 1, by omega, by omega, ?_⟩
    simp only [take_snoc l i hc, List.map_append, List.map_cons, List.map_nil]
    (refine SImp.frame [3] rfl (by intro k hk; simp at hk <;> (simp; omega)) (by decide) (fun k hk => by omega) ?_ ?_ <;> simp (disch := omega) only [go_sem, wrap_n, Int.natCast_add, take_map_take, true_or, or_true] <;> (try rfl))
  · have e : i = l.length := by omega
    subst e
    simp only [List.take_length]
    repeat' first
    | with_reducible refine AWP.seq ?_
    | with_reducible refine thenA_n ?_
    | with_reducible refine thenA_r ?_
    | with_reducible refine thenA_e ?_
    | with_reducible refine blkA_n ?_
    | with_reducible refine blkA_r ?_
    | with_reducible refine blkA_e ?_
    | with_reducible refine blkA_x (by decide) ?_
    | with_reducible refine AWP.skip ?_
    | with_reducible refine AWP.ret ?_
    | with_reducible refine AWP.exit ?_
    | with_reducible refine AWP.block ?_
    | (with_reducible refine AWP.cond rfl ?_ ?_ <;> intro hc <;> (try simp only [decide_eq_true_eq, decide_eq_false_iff_not, Bool.and_eq_true, Bool.or_eq_true, Bool.or_eq_false_iff, Bool.and_eq_false_iff, Bool.not_eq_true', Bool.not_eq_false', Bool.true_eq_false, Bool.false_eq_true, Bool.not_eq_true, Bool.not_eq_false, Int.not_lt, Int.not_le, Nat.not_lt, Nat.not_le, Int.ofNat_lt, Int.ofNat_le, Int.natCast_eq_zero, not_true_eq_false, not_false_eq_true, beq_iff_eq, Bool.not_true, Bool.not_false, ge_iff_le, gt_iff_lt] at hc))
    | ((first | with_reducible refine AWP.region tabOk ?_ | with_reducible refine AWP.quiet mixed tabOk (by kernel_rfl) ?_ | with_reducible refine AWP.draw mixed tabOk (by kernel_rfl) ?_); intro K hK; ((try simp (disch := omega) only [go_sem, wrap_n, getD_row, openedT, logsV]) <;> (repeat' with_reducible refine And.intro ?_ ?_) <;> (try (with_reducible refine hK _ ?_; clear hK K))))
    | ((first | refine acallH_sc (committed_c l h0 h1) rfl rfl ?_ ?_ ?_ | refine acallH_sc (ref_committed_c l h0 h1) rfl rfl ?_ ?_ ?_ | refine acallH_sc (opened_c) rfl rfl ?_ ?_ ?_ | refine acallH_sc (committed_c [[openedT], [openedT]] (by decide) (by decide)) rfl rfl ?_ ?_ ?_); (focus ((try simp (disch := omega) only [go_sem, wrap_n, getD_row, openedT, logsV]) <;> (try omega) <;> fail)); (focus ((try simp (disch := omega) only [go_sem, wrap_n, getD_row, openedT, logsV]) <;> (try omega) <;> fail)); ((try simp (disch := omega) only [go_sem, wrap_n, getD_row, openedT, logsV]) <;> (repeat' with_reducible refine And.intro ?_ ?_) <;> (try (with_reducible refine hK _ ?_; clear hK K))))
    | ((first | refine acallQ_sc (committed_c l h0 h1) rfl rfl ?_ ?_ ?_ | refine acallQ_sc (ref_committed_c l h0 h1) rfl rfl ?_ ?_ ?_ | refine acallQ_sc (opened_c) rfl rfl ?_ ?_ ?_ | refine acallQ_sc (committed_c [[openedT], [openedT]] (by decide) (by decide)) rfl rfl ?_ ?_ ?_); (focus ((try simp (disch := omega) only [go_sem, wrap_n, getD_row, openedT, logsV]) <;> (try omega) <;> fail)); (focus ((try simp (disch := omega) only [go_sem, wrap_n, getD_row, openedT, logsV]) <;> (try omega) <;> fail)); ((try simp (disch := omega) only [go_sem, wrap_n, getD_row, openedT, logsV]) <;> (repeat' with_reducible refine And.intro ?_ ?_) <;> (try (with_reducible refine hK _ ?_; clear hK K))))
    | ((first | refine acallH_anyr (committed_c l h0 h1) rfl ?_ ?_ | refine acallH_anyr (ref_committed_c l h0 h1) rfl ?_ ?_ | refine acallH_anyr (opened_c) rfl ?_ ?_ | refine acallH_anyr (committed_c [[openedT], [openedT]] (by decide) (by decide)) rfl ?_ ?_); (focus ((try simp (disch := omega) only [go_sem, wrap_n, getD_row, openedT, logsV]) <;> (try omega) <;> fail)); ((try simp (disch := omega) only [go_sem, wrap_n, getD_row, openedT, logsV]) <;> (repeat' with_reducible refine And.intro ?_ ?_) <;> (try (with_reducible refine hK _ ?_; clear hK K))))
    | ((first | refine acallH_scx (committed_c l h0 h1) rfl ?_ ?_ | refine acallQ_scx (committed_c l h0 h1) rfl ?_ ?_ | refine acallH_anyx (committed_c l h0 h1) ?_ ?_); (focus ((try simp (disch := omega) only [go_sem, wrap_n, getD_row, openedT, logsV]) <;> (try omega) <;> fail)); ((try simp (disch := omega) only [go_sem, wrap_n, getD_row, openedT, logsV]) <;> (repeat' with_reducible refine And.intro ?_ ?_) <;> (try (with_reducible refine hK _ ?_; clear hK K))))
    | ((first | refine acallH_scx (ref_committed_c l h0 h1) rfl ?_ ?_ | refine acallQ_scx (ref_committed_c l h0 h1) rfl ?_ ?_ | refine acallH_anyx (ref_committed_c l h0 h1) ?_ ?_); (focus ((try simp (disch := omega) only [go_sem, wrap_n, getD_row, openedT, logsV]) <;> (try omega) <;> fail)); ((try simp (disch := omega) only [go_sem, wrap_n, getD_row, openedT, logsV]) <;> (repeat' with_reducible refine And.intro ?_ ?_) <;> (try (with_reducible refine hK _ ?_; clear hK K))))
    | ((first | refine acallH_scx (opened_c) rfl ?_ ?_ | refine acallQ_scx (opened_c) rfl ?_ ?_ | refine acallH_anyx (opened_c) ?_ ?_); (focus ((try simp (disch := omega) only [go_sem, wrap_n, getD_row, openedT, logsV]) <;> (try omega) <;> fail)); ((try simp (disch := omega) only [go_sem, wrap_n, getD_row, openedT, logsV]) <;> (repeat' with_reducible refine And.intro ?_ ?_) <;> (try (with_reducible refine hK _ ?_; clear hK K))))
    | ((first | refine acallH_scx (committed_c [[openedT], [openedT]] (by decide) (by decide)) rfl ?_ ?_ | refine acallQ_scx (committed_c [[openedT], [openedT]] (by decide) (by decide)) rfl ?_ ?_ | refine acallH_anyx (committed_c [[openedT], [openedT]] (by decide) (by decide)) ?_ ?_); (focus ((try simp (disch := omega) only [go_sem, wrap_n, getD_row, openedT, logsV]) <;> (try omega) <;> fail)); ((try simp (disch := omega) only [go_sem, wrap_n, getD_row, openedT, logsV]) <;> (repeat' with_reducible refine And.intro ?_ ?_) <;> (try (with_reducible refine hK _ ?_; clear hK K))))
    | ((first | (with_reducible refine aunder_i ?_ ?_ <;> intro hg) | with_reducible intro hg) <;> (first | (exfalso; simp at hg; done) | (have hg' := hg; (try simp only [decide_eq_true_eq, decide_eq_false_iff_not, Bool.and_eq_true, Bool.or_eq_true, Bool.or_eq_false_iff, Bool.and_eq_false_iff, Bool.not_eq_true', Bool.not_eq_false', Bool.true_eq_false, Bool.false_eq_true, Bool.not_eq_true, Bool.not_eq_false, Int.not_lt, Int.not_le, Nat.not_lt, Nat.not_le, Int.ofNat_lt, Int.ofNat_le, Int.natCast_eq_zero, not_true_eq_false, not_false_eq_true, beq_iff_eq, Bool.not_true, Bool.not_false, ge_iff_le, gt_iff_lt] at hg'); ((try simp (disch := omega) only [hg, go_sem, wrap_n, getD_row, openedT, logsV]) <;> (repeat' with_reducible refine And.intro ?_ ?_) <;> (try (with_reducible refine hK _ ?_; clear hK K))))))
                                                            | omega
    all_goals try (refine aend_ret ?_ rfl ?_ ?_ ?_ ?_; (focus (first | exact .inl rfl | exact .inr rfl)); (focus (simp only [go_sem, true_and]; first | done | omega)); (focus (simp only [go_sem, true_and]; done)); (focus (simp only [go_sem, true_and]; done)); simp only [go_sem, true_and, I, B, S, AV.d.injEq, DV.int.injEq, DV.bool.injEq, DV.str.injEq, DV.sl.injEq, AV.tup.injEq, AV.agg.injEq, List.cons.injEq, and_true, true_and, and_self])
    decide
theorem zabCommits_c (dss : List (List DV)) (h : typeds T 6 Try.f6.params.toList dss) : acall Try.prog [] 6 (aargs T Try.f6.params.toList dss) (fun v _ => v = B true) := by
  rw [Try.params6] at h ⊢
  simp only [List.toList_toArray, typeds] at h
  obtain ⟨c0, d0, rfl, h0, rfl⟩ := h
  obtain ⟨l, rfl, v_l, w_l⟩ := ty_sl (m := 5) (e := 32) (sz := 1) (by_ := 24) (f := (fun m : List (ATxn) => [DV.sl 7 (m.map ATxn.row)])) (wf := (fun m : List (ATxn) => m.length * 72 ≤ 140737488351232 ∧ ∀ x, x ∈ m → ATxn.wf x)) (by simp only [T_31, ty31]) (by simp only [T_32, ty32]) (by simp only [T_32, ty32]) (fun r hr => let ⟨l, a, b, c⟩ := ty_sl (m := 4) (e := 92) (sz := 7) (by_ := 72) (f := ATxn.row) (wf := ATxn.wf) (by simp only [T_32, ty32]) (by simp only [T_92, ty92]) (by simp only [T_92, ty92]) (fun r hr => ATxn_typed (m := 2) hr) hr; ⟨l, a, b, c⟩) h0
  simp only [List.toList_toArray, aargs, aarg, TI.agg_mk, T_31, ty31]
  exact (zabCommits_b l v_l fun m hm => (w_l m hm).1).mono fun _ _ h => h.1
end Go.Proofs.Ytplgghpnijmllaa
