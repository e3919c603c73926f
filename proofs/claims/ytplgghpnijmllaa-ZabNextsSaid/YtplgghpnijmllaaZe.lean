/- Contracts of zab.Elect and zab.Next, of their references and of what these call. No condition. -/
import Derived.Test.YtplgghpnijmllaaZb
import Derived.Test.YtplgghpnijmllaaZx
namespace Go.Proofs.Ytplgghpnijmllaa
open Go Go.RowKit
set_option maxRecDepth 100000
set_option linter.unusedSimpArgs false

def lastZ (l : List ATxn) : Int := (l.getD (l.length - 1) default).zxid
theorem toNat_pred (n : Nat) : ((n : Int) - 1).toNat = n - 1 := by omega
theorem last_c (l : List ATxn) (h : l.length ≤ 140737488351232) : acall Try.prog [] 72 [.d (.sl 7 (l.map ATxn.row))] (ret (I (lastZ l))) := by
  refine acall_of tabOk Try.func72 rfl (by kernel_rfl) (by simp [Try.ntmps72]) ?_
  simp only [Try.ntmps72, Try.results72, List.toList_toArray, apar, List.length_nil, List.length_cons, Nat.reduceAdd]
  repeat' first
    | with_reducible refine AWP.seq ?_
    | with_reducible refine thenA_n ?_
    | with_reducible refine thenA_r ?_
    | with_reducible refine thenA_e ?_
    | with_reducible refine blkA_n ?_
    | with_reducible refine blkA_r ?_
    | with_reducible refine blkA_e ?_
    | with_reducible refine blkA_x (by decide) ?_
    | with_reducible refine AWP.skip ?_
    | with_reducible refine AWP.ret ?_
    | with_reducible refine AWP.exit ?_
    | with_reducible refine AWP.block ?_
    | (with_reducible refine AWP.cond rfl ?_ ?_ <;> intro hc <;> (try simp only [decide_eq_true_eq, decide_eq_false_iff_not, Bool.and_eq_true, Bool.or_eq_true, Bool.or_eq_false_iff, Bool.and_eq_false_iff, Bool.not_eq_true', Bool.not_eq_false', Bool.true_eq_false, Bool.false_eq_true, Bool.not_eq_true, Bool.not_eq_false, Int.not_lt, Int.not_le, Nat.not_lt, Nat.not_le, Int.ofNat_lt, Int.ofNat_le, Int.natCast_eq_zero, not_true_eq_false, not_false_eq_true, beq_iff_eq, Bool.not_true, Bool.not_false, ge_iff_le, gt_iff_lt] at hc))
    | ((first | with_reducible refine AWP.region tabOk ?_ | with_reducible refine AWP.quiet mixed tabOk (by kernel_rfl) ?_ | with_reducible refine AWP.draw mixed tabOk (by kernel_rfl) ?_); intro K hK; ((try simp (disch := omega) only [go_sem, wrap_n, toNat_pred]) <;> (repeat' with_reducible refine And.intro ?_ ?_) <;> (try (with_reducible refine hK _ ?_; clear hK K))))
    | ((first | (with_reducible refine aunder_i ?_ ?_ <;> intro hg) | with_reducible intro hg) <;> (first | (exfalso; simp at hg; done) | (have hg' := hg; (try simp only [decide_eq_true_eq, decide_eq_false_iff_not, Bool.and_eq_true, Bool.or_eq_true, Bool.or_eq_false_iff, Bool.and_eq_false_iff, Bool.not_eq_true', Bool.not_eq_false', Bool.true_eq_false, Bool.false_eq_true, Bool.not_eq_true, Bool.not_eq_false, Int.not_lt, Int.not_le, Nat.not_lt, Nat.not_le, Int.ofNat_lt, Int.ofNat_le, Int.natCast_eq_zero, not_true_eq_false, not_false_eq_true, beq_iff_eq, Bool.not_true, Bool.not_false, ge_iff_le, gt_iff_lt] at hg'); ((try simp (disch := omega) only [hg, go_sem, wrap_n, toNat_pred]) <;> (repeat' with_reducible refine And.intro ?_ ?_) <;> (try (with_reducible refine hK _ ?_; clear hK K))))))
                                                            | omega
  · (refine aend_retc ?_ rfl ?_ ?_ ?_ ?_; (focus (first | exact .inl rfl | exact .inr rfl)); (focus ((try simp (disch := omega) only [go_sem, wrap_n, true_and]) <;> (try omega) <;> fail)); (focus ((try simp (disch := omega) only [go_sem, wrap_n, true_and]) <;> (try omega) <;> fail)); (focus ((try simp (disch := omega) only [go_sem, wrap_n, true_and]) <;> (try omega) <;> fail)); (try simp (disch := omega) only [go_sem, wrap_n, true_and, I, B, S, AV.d.injEq, DV.int.injEq, DV.bool.injEq, DV.str.injEq, DV.sl.injEq, AV.tup.injEq, AV.agg.injEq, List.cons.injEq, and_true, true_and, and_self]))
    rw [nil_of_len hc]; rfl
  · (refine aend_retc ?_ rfl ?_ ?_ ?_ ?_; (focus (first | exact .inl rfl | exact .inr rfl)); (focus ((try simp (disch := omega) only [go_sem, wrap_n, true_and]) <;> (try omega) <;> fail)); (focus ((try simp (disch := omega) only [go_sem, wrap_n, true_and]) <;> (try omega) <;> fail)); (focus ((try simp (disch := omega) only [go_sem, wrap_n, true_and]) <;> (try omega) <;> fail)); (try simp (disch := omega) only [go_sem, wrap_n, true_and, I, B, S, AV.d.injEq, DV.int.injEq, DV.bool.injEq, DV.str.injEq, DV.sl.injEq, AV.tup.injEq, AV.agg.injEq, List.cons.injEq, and_true, true_and, and_self]))
    rfl
def lz (l : List ATxn) (k : Nat) : Int := if k = 0 then 0 else (l.getD (k - 1) default).zxid
theorem lz_len (l : List ATxn) : lz l l.length = lastZ l := by
  unfold lz lastZ
  split
  · rename_i h; rw [nil_of_len h]; rfl
  · rfl
theorem ref_last_c (l : List ATxn) (h : l.length ≤ 140737488351232) : acall Try.prog [] 73 [.d (.sl 7 (l.map ATxn.row))] (ret (I (lastZ l))) := by
  refine acall_of tabOk Try.func73 rfl (by kernel_rfl) (by simp [Try.ntmps73]) ?_
  simp only [Try.ntmps73, Try.results73, List.toList_toArray, apar, List.length_nil, List.length_cons, Nat.reduceAdd]
  repeat' first
    | with_reducible refine AWP.seq ?_
    | with_reducible refine thenA_n ?_
    | with_reducible refine thenA_r ?_
    | with_reducible refine thenA_e ?_
    | with_reducible refine blkA_n ?_
    | with_reducible refine blkA_r ?_
    | with_reducible refine blkA_e ?_
    | with_reducible refine blkA_x (by decide) ?_
    | with_reducible refine AWP.skip ?_
    | with_reducible refine AWP.ret ?_
    | with_reducible refine AWP.exit ?_
    | with_reducible refine AWP.block ?_
    | (with_reducible refine AWP.cond rfl ?_ ?_ <;> intro hc <;> (try simp only [decide_eq_true_eq, decide_eq_false_iff_not, Bool.and_eq_true, Bool.or_eq_true, Bool.or_eq_false_iff, Bool.and_eq_false_iff, Bool.not_eq_true', Bool.not_eq_false', Bool.true_eq_false, Bool.false_eq_true, Bool.not_eq_true, Bool.not_eq_false, Int.not_lt, Int.not_le, Nat.not_lt, Nat.not_le, Int.ofNat_lt, Int.ofNat_le, Int.natCast_eq_zero, not_true_eq_false, not_false_eq_true, beq_iff_eq, Bool.not_true, Bool.not_false, ge_iff_le, gt_iff_lt] at hc))
    | ((first | with_reducible refine AWP.region tabOk ?_ | with_reducible refine AWP.quiet mixed tabOk (by kernel_rfl) ?_ | with_reducible refine AWP.draw mixed tabOk (by kernel_rfl) ?_); intro K hK; ((try simp (disch := omega) only [go_sem, wrap_n, true_and]) <;> (repeat' with_reducible refine And.intro ?_ ?_) <;> (try (with_reducible refine hK _ ?_; clear hK K))))
    | ((first | (with_reducible refine aunder_i ?_ ?_ <;> intro hg) | with_reducible intro hg) <;> (first | (exfalso; simp at hg; done) | (have hg' := hg; (try simp only [decide_eq_true_eq, decide_eq_false_iff_not, Bool.and_eq_true, Bool.or_eq_true, Bool.or_eq_false_iff, Bool.and_eq_false_iff, Bool.not_eq_true', Bool.not_eq_false', Bool.true_eq_false, Bool.false_eq_true, Bool.not_eq_true, Bool.not_eq_false, Int.not_lt, Int.not_le, Nat.not_lt, Nat.not_le, Int.ofNat_lt, Int.ofNat_le, Int.natCast_eq_zero, not_true_eq_false, not_false_eq_true, beq_iff_eq, Bool.not_true, Bool.not_false, ge_iff_le, gt_iff_lt] at hg'); ((try simp (disch := omega) only [hg, go_sem, wrap_n, true_and]) <;> (repeat' with_reducible refine And.intro ?_ ?_) <;> (try (with_reducible refine hK _ ?_; clear hK K))))))
                                                            | omega
  refine AWP.loopB (ι := Nat) (fun k => k ≤ l.length) (fun k => l.length - k) [6, 7] (fun k => [(3, I (lz l k)), (8, I k)]) (fun k => []) 0 ?_ ?_ ?_
  · omega
  · simp only [go_sem]; (refine SImp.same ?_; simp (disch := omega) only [go_sem, wrap_n, Int.natCast_add, lz])
  intro k hk
  simp only [go_sem]
  repeat' first
    | with_reducible refine AWP.seq ?_
    | with_reducible refine thenA_n ?_
    | with_reducible refine thenA_r ?_
    | with_reducible refine thenA_e ?_
    | with_reducible refine blkA_n ?_
    | with_reducible refine blkA_r ?_
    | with_reducible refine blkA_e ?_
    | with_reducible refine blkA_x (by decide) ?_
    | with_reducible refine AWP.skip ?_
    | with_reducible refine AWP.ret ?_
    | with_reducible refine AWP.exit ?_
    | with_reducible refine AWP.block ?_
    | (with_reducible refine AWP.cond rfl ?_ ?_ <;> intro hc <;> (try simp only [decide_eq_true_eq, decide_eq_false_iff_not, Bool.and_eq_true, Bool.or_eq_true, Bool.or_eq_false_iff, Bool.and_eq_false_iff, Bool.not_eq_true', Bool.not_eq_false', Bool.true_eq_false, Bool.false_eq_true, Bool.not_eq_true, Bool.not_eq_false, Int.not_lt, Int.not_le, Nat.not_lt, Nat.not_le, Int.ofNat_lt, Int.ofNat_le, Int.natCast_eq_zero, not_true_eq_false, not_false_eq_true, beq_iff_eq, Bool.not_true, Bool.not_false, ge_iff_le, gt_iff_lt] at hc))
    | ((first | with_reducible refine AWP.region tabOk ?_ | with_reducible refine AWP.quiet mixed tabOk (by kernel_rfl) ?_ | with_reducible refine AWP.draw mixed tabOk (by kernel_rfl) ?_); intro K hK; ((try simp (disch := omega) only [go_sem, wrap_n, true_and]) <;> (repeat' with_reducible refine And.intro ?_ ?_) <;> (try (with_reducible refine hK _ ?_; clear hK K))))
    | ((first | (with_reducible refine aunder_i ?_ ?_ <;> intro hg) | with_reducible intro hg) <;> (first | (exfalso; simp at hg; done) | (have hg' := hg; (try simp only [decide_eq_true_eq, decide_eq_false_iff_not, Bool.and_eq_true, Bool.or_eq_true, Bool.or_eq_false_iff, Bool.and_eq_false_iff, Bool.not_eq_true', Bool.not_eq_false', Bool.true_eq_false, Bool.false_eq_true, Bool.not_eq_true, Bool.not_eq_false, Int.not_lt, Int.not_le, Nat.not_lt, Nat.not_le, Int.ofNat_lt, Int.ofNat_le, Int.natCast_eq_zero, not_true_eq_false, not_false_eq_true, beq_iff_eq, Bool.not_true, Bool.not_false, ge_iff_le, gt_iff_lt] at hg'); ((try simp (disch := omega) only [hg, go_sem, wrap_n, true_and]) <;> (repeat' with_reducible refine And.intro ?_ ?_) <;> (try (with_reducible refine hK _ ?_; clear hK K))))))
                                                            | omega
  · refine ⟨k + 1, by omega, by omega, ?_⟩
    (refine SImp.frame [] rfl (by intro k hk; simp at hk <;> (simp; omega)) (by decide) (fun k hk => by omega) ?_ ?_ <;> simp (disch := omega) only [go_sem, wrap_n, Int.natCast_add, lz, Nat.add_sub_cancel, Nat.add_eq_zero_iff, and_false] <;> (try rfl))
  · have e : k = l.length := by omega
    subst e
    (refine aend_retc ?_ rfl ?_ ?_ ?_ ?_; (focus (first | exact .inl rfl | exact .inr rfl)); (focus ((try simp (disch := omega) only [go_sem, wrap_n, true_and]) <;> (try omega) <;> fail)); (focus ((try simp (disch := omega) only [go_sem, wrap_n, true_and]) <;> (try omega) <;> fail)); (focus ((try simp (disch := omega) only [go_sem, wrap_n, true_and]) <;> (try omega) <;> fail)); (try simp (disch := omega) only [go_sem, wrap_n, true_and, I, B, S, AV.d.injEq, DV.int.injEq, DV.bool.injEq, DV.str.injEq, DV.sl.injEq, AV.tup.injEq, AV.agg.injEq, List.cons.injEq, and_true, true_and, and_self]))
    exact lz_len l

def aheadP (a b : APeer) : Bool := decide (lastZ b.log < lastZ a.log) || (decide (lastZ a.log = lastZ b.log) && decide (b.id < a.id))
theorem ahead_c (a b : APeer) (h : a.log.length ≤ 140737488351232) (h2 : b.log.length ≤ 140737488351232) : acall Try.prog [] 71 [a.av, b.av] (ret (B (aheadP a b))) := by
  refine acall_of tabOk Try.func71 rfl (by kernel_rfl) (by simp [Try.ntmps71]) ?_
  simp only [Try.ntmps71, Try.results71, List.toList_toArray, apar, List.length_nil, List.length_cons, Nat.reduceAdd]
  repeat' first
    | with_reducible refine AWP.seq ?_
    | with_reducible refine thenA_n ?_
    | with_reducible refine thenA_r ?_
    | with_reducible refine thenA_e ?_
    | with_reducible refine blkA_n ?_
    | with_reducible refine blkA_r ?_
    | with_reducible refine blkA_e ?_
    | with_reducible refine blkA_x (by decide) ?_
    | with_reducible refine AWP.skip ?_
    | with_reducible refine AWP.ret ?_
    | with_reducible refine AWP.exit ?_
    | with_reducible refine AWP.block ?_
    | (with_reducible refine AWP.cond rfl ?_ ?_ <;> intro hc <;> (try simp only [decide_eq_true_eq, decide_eq_false_iff_not, Bool.and_eq_true, Bool.or_eq_true, Bool.or_eq_false_iff, Bool.and_eq_false_iff, Bool.not_eq_true', Bool.not_eq_false', Bool.true_eq_false, Bool.false_eq_true, Bool.not_eq_true, Bool.not_eq_false, Int.not_lt, Int.not_le, Nat.not_lt, Nat.not_le, Int.ofNat_lt, Int.ofNat_le, Int.natCast_eq_zero, not_true_eq_false, not_false_eq_true, beq_iff_eq, Bool.not_true, Bool.not_false, ge_iff_le, gt_iff_lt] at hc))
    | ((first | with_reducible refine AWP.region tabOk ?_ | with_reducible refine AWP.quiet mixed tabOk (by kernel_rfl) ?_ | with_reducible refine AWP.draw mixed tabOk (by kernel_rfl) ?_); intro K hK; ((try simp (disch := omega) only [go_sem, wrap_n, true_and]) <;> (repeat' with_reducible refine And.intro ?_ ?_) <;> (try (with_reducible refine hK _ ?_; clear hK K))))
    | ((first | refine acallH_sc (last_c _ h) rfl rfl ?_ ?_ ?_ | refine acallH_sc (last_c _ h2) rfl rfl ?_ ?_ ?_); (focus ((try simp (disch := omega) only [go_sem, wrap_n, true_and]) <;> (try omega) <;> fail)); (focus ((try simp (disch := omega) only [go_sem, wrap_n, true_and]) <;> (try omega) <;> fail)); ((try simp (disch := omega) only [go_sem, wrap_n, true_and]) <;> (repeat' with_reducible refine And.intro ?_ ?_) <;> (try (with_reducible refine hK _ ?_; clear hK K))))
    | ((first | refine acallQ_sc (last_c _ h) rfl rfl ?_ ?_ ?_ | refine acallQ_sc (last_c _ h2) rfl rfl ?_ ?_ ?_); (focus ((try simp (disch := omega) only [go_sem, wrap_n, true_and]) <;> (try omega) <;> fail)); (focus ((try simp (disch := omega) only [go_sem, wrap_n, true_and]) <;> (try omega) <;> fail)); ((try simp (disch := omega) only [go_sem, wrap_n, true_and]) <;> (repeat' with_reducible refine And.intro ?_ ?_) <;> (try (with_reducible refine hK _ ?_; clear hK K))))
    | ((first | refine acallH_anyr (last_c _ h) rfl ?_ ?_ | refine acallH_anyr (last_c _ h2) rfl ?_ ?_); (focus ((try simp (disch := omega) only [go_sem, wrap_n, true_and]) <;> (try omega) <;> fail)); ((try simp (disch := omega) only [go_sem, wrap_n, true_and]) <;> (repeat' with_reducible refine And.intro ?_ ?_) <;> (try (with_reducible refine hK _ ?_; clear hK K))))
    | ((first | refine acallH_scx (last_c _ h) rfl ?_ ?_ | refine acallQ_scx (last_c _ h) rfl ?_ ?_ | refine acallH_anyx (last_c _ h) ?_ ?_); (focus ((try simp (disch := omega) only [go_sem, wrap_n, true_and]) <;> (try omega) <;> fail)); ((try simp (disch := omega) only [go_sem, wrap_n, true_and]) <;> (repeat' with_reducible refine And.intro ?_ ?_) <;> (try (with_reducible refine hK _ ?_; clear hK K))))
    | ((first | refine acallH_scx (last_c _ h2) rfl ?_ ?_ | refine acallQ_scx (last_c _ h2) rfl ?_ ?_ | refine acallH_anyx (last_c _ h2) ?_ ?_); (focus ((try simp (disch := omega) only [go_sem, wrap_n, true_and]) <;> (try omega) <;> fail)); ((try simp (disch := omega) only [go_sem, wrap_n, true_and]) <;> (repeat' with_reducible refine And.intro ?_ ?_) <;> (try (with_reducible refine hK _ ?_; clear hK K))))
    | ((first | (with_reducible refine aunder_i ?_ ?_ <;> intro hg) | with_reducible intro hg) <;> (first | (exfalso; simp at hg; done) | (have hg' := hg; (try simp only [decide_eq_true_eq, decide_eq_false_iff_not, Bool.and_eq_true, Bool.or_eq_true, Bool.or_eq_false_iff, Bool.and_eq_false_iff, Bool.not_eq_true', Bool.not_eq_false', Bool.true_eq_false, Bool.false_eq_true, Bool.not_eq_true, Bool.not_eq_false, Int.not_lt, Int.not_le, Nat.not_lt, Nat.not_le, Int.ofNat_lt, Int.ofNat_le, Int.natCast_eq_zero, not_true_eq_false, not_false_eq_true, beq_iff_eq, Bool.not_true, Bool.not_false, ge_iff_le, gt_iff_lt] at hg'); ((try simp (disch := omega) only [hg, go_sem, wrap_n, true_and]) <;> (repeat' with_reducible refine And.intro ?_ ?_) <;> (try (with_reducible refine hK _ ?_; clear hK K))))))
                                                            | omega
  all_goals (refine aend_retc ?_ rfl ?_ ?_ ?_ ?_; (focus (first | exact .inl rfl | exact .inr rfl)); (focus ((try simp (disch := omega) only [go_sem, wrap_n, aheadP]) <;> (try omega) <;> fail)); (focus ((try simp (disch := omega) only [go_sem, wrap_n, aheadP]) <;> (try omega) <;> fail)); (focus ((try simp (disch := omega) only [go_sem, wrap_n, aheadP]) <;> (try omega) <;> fail)); (try simp (disch := omega) only [go_sem, wrap_n, aheadP, I, B, S, AV.d.injEq, DV.int.injEq, DV.bool.injEq, DV.str.injEq, DV.sl.injEq, AV.tup.injEq, AV.agg.injEq, List.cons.injEq, and_true, true_and, and_self]))

theorem zlast_ok (l : List ATxn) (h : ∀ x, x ∈ l → x.wf) : okI (lastZ l) := by
  unfold lastZ
  by_cases e : l.length = 0
  · rw [nil_of_len e]; exact ⟨by decide, by decide⟩
  · exact (h _ (getD_mem l _ (by omega))).1

def nextP (p : APeer) : Int × Int := if epZ (lastZ p.log) < p.epoch then (if (mkZ p.epoch 0).2 ≠ 0 then (0, (mkZ p.epoch 0).2) else nextZ (mkZ p.epoch 0).1) else nextZ (lastZ p.log)
theorem zab_next_c (p : APeer) (h : p.log.length ≤ 140737488351232) : acall Try.prog [] 42 [p.av] (ret (.tup [I (nextP p).1, I (nextP p).2])) := by
  refine acall_of tabOk Try.func42 rfl (by kernel_rfl) (by simp [Try.ntmps42]) ?_
  simp only [Try.ntmps42, Try.results42, List.toList_toArray, apar, List.length_nil, List.length_cons, Nat.reduceAdd]
  repeat' first
    | with_reducible refine AWP.seq ?_
    | with_reducible refine thenA_n ?_
    | with_reducible refine thenA_r ?_
    | with_reducible refine thenA_e ?_
    | with_reducible refine blkA_n ?_
    | with_reducible refine blkA_r ?_
    | with_reducible refine blkA_e ?_
    | with_reducible refine blkA_x (by decide) ?_
    | with_reducible refine AWP.skip ?_
    | with_reducible refine AWP.ret ?_
    | with_reducible refine AWP.exit ?_
    | with_reducible refine AWP.block ?_
    | (with_reducible refine AWP.cond rfl ?_ ?_ <;> intro hc <;> (try simp only [decide_eq_true_eq, decide_eq_false_iff_not, Bool.and_eq_true, Bool.or_eq_true, Bool.or_eq_false_iff, Bool.and_eq_false_iff, Bool.not_eq_true', Bool.not_eq_false', Bool.true_eq_false, Bool.false_eq_true, Bool.not_eq_true, Bool.not_eq_false, Int.not_lt, Int.not_le, Nat.not_lt, Nat.not_le, Int.ofNat_lt, Int.ofNat_le, Int.natCast_eq_zero, not_true_eq_false, not_false_eq_true, beq_iff_eq, Bool.not_true, Bool.not_false, ge_iff_le, gt_iff_lt] at hc))
    | ((first | with_reducible refine AWP.region tabOk ?_ | with_reducible refine AWP.quiet mixed tabOk (by kernel_rfl) ?_ | with_reducible refine AWP.draw mixed tabOk (by kernel_rfl) ?_); intro K hK; ((try simp (disch := omega) only [go_sem, wrap_n, two]) <;> (repeat' with_reducible refine And.intro ?_ ?_) <;> (try (with_reducible refine hK _ ?_; clear hK K))))
    | ((first | refine acallH_sc (last_c _ h) rfl rfl ?_ ?_ ?_ | refine acallH_sc (epoch_c _) rfl rfl ?_ ?_ ?_ | refine acallH_sc (make_c _ _) rfl rfl ?_ ?_ ?_ | refine acallH_sc (next_c _) rfl rfl ?_ ?_ ?_); (focus ((try simp (disch := omega) only [go_sem, wrap_n, two]) <;> (try omega) <;> fail)); (focus ((try simp (disch := omega) only [go_sem, wrap_n, two]) <;> (try omega) <;> fail)); ((try simp (disch := omega) only [go_sem, wrap_n, two]) <;> (repeat' with_reducible refine And.intro ?_ ?_) <;> (try (with_reducible refine hK _ ?_; clear hK K))))
    | ((first | refine acallQ_sc (last_c _ h) rfl rfl ?_ ?_ ?_ | refine acallQ_sc (epoch_c _) rfl rfl ?_ ?_ ?_ | refine acallQ_sc (make_c _ _) rfl rfl ?_ ?_ ?_ | refine acallQ_sc (next_c _) rfl rfl ?_ ?_ ?_); (focus ((try simp (disch := omega) only [go_sem, wrap_n, two]) <;> (try omega) <;> fail)); (focus ((try simp (disch := omega) only [go_sem, wrap_n, two]) <;> (try omega) <;> fail)); ((try simp (disch := omega) only [go_sem, wrap_n, two]) <;> (repeat' with_reducible refine And.intro ?_ ?_) <;> (try (with_reducible refine hK _ ?_; clear hK K))))
    | ((first | refine acallH_anyr (last_c _ h) rfl ?_ ?_ | refine acallH_anyr (epoch_c _) rfl ?_ ?_ | refine acallH_anyr (make_c _ _) rfl ?_ ?_ | refine acallH_anyr (next_c _) rfl ?_ ?_); (focus ((try simp (disch := omega) only [go_sem, wrap_n, two]) <;> (try omega) <;> fail)); ((try simp (disch := omega) only [go_sem, wrap_n, two]) <;> (repeat' with_reducible refine And.intro ?_ ?_) <;> (try (with_reducible refine hK _ ?_; clear hK K))))
    | ((first | refine acallH_scx (last_c _ h) rfl ?_ ?_ | refine acallQ_scx (last_c _ h) rfl ?_ ?_ | refine acallH_anyx (last_c _ h) ?_ ?_); (focus ((try simp (disch := omega) only [go_sem, wrap_n, two]) <;> (try omega) <;> fail)); ((try simp (disch := omega) only [go_sem, wrap_n, two]) <;> (repeat' with_reducible refine And.intro ?_ ?_) <;> (try (with_reducible refine hK _ ?_; clear hK K))))
    | ((first | refine acallH_scx (epoch_c _) rfl ?_ ?_ | refine acallQ_scx (epoch_c _) rfl ?_ ?_ | refine acallH_anyx (epoch_c _) ?_ ?_); (focus ((try simp (disch := omega) only [go_sem, wrap_n, two]) <;> (try omega) <;> fail)); ((try simp (disch := omega) only [go_sem, wrap_n, two]) <;> (repeat' with_reducible refine And.intro ?_ ?_) <;> (try (with_reducible refine hK _ ?_; clear hK K))))
    | ((first | refine acallH_scx (make_c _ _) rfl ?_ ?_ | refine acallQ_scx (make_c _ _) rfl ?_ ?_ | refine acallH_anyx (make_c _ _) ?_ ?_); (focus ((try simp (disch := omega) only [go_sem, wrap_n, two]) <;> (try omega) <;> fail)); ((try simp (disch := omega) only [go_sem, wrap_n, two]) <;> (repeat' with_reducible refine And.intro ?_ ?_) <;> (try (with_reducible refine hK _ ?_; clear hK K))))
    | ((first | refine acallH_scx (next_c _) rfl ?_ ?_ | refine acallQ_scx (next_c _) rfl ?_ ?_ | refine acallH_anyx (next_c _) ?_ ?_); (focus ((try simp (disch := omega) only [go_sem, wrap_n, two]) <;> (try omega) <;> fail)); ((try simp (disch := omega) only [go_sem, wrap_n, two]) <;> (repeat' with_reducible refine And.intro ?_ ?_) <;> (try (with_reducible refine hK _ ?_; clear hK K))))
    | ((first | (with_reducible refine aunder_i ?_ ?_ <;> intro hg) | with_reducible intro hg) <;> (first | (exfalso; simp at hg; done) | (have hg' := hg; (try simp only [decide_eq_true_eq, decide_eq_false_iff_not, Bool.and_eq_true, Bool.or_eq_true, Bool.or_eq_false_iff, Bool.and_eq_false_iff, Bool.not_eq_true', Bool.not_eq_false', Bool.true_eq_false, Bool.false_eq_true, Bool.not_eq_true, Bool.not_eq_false, Int.not_lt, Int.not_le, Nat.not_lt, Nat.not_le, Int.ofNat_lt, Int.ofNat_le, Int.natCast_eq_zero, not_true_eq_false, not_false_eq_true, beq_iff_eq, Bool.not_true, Bool.not_false, ge_iff_le, gt_iff_lt] at hg'); ((try simp (disch := omega) only [hg, go_sem, wrap_n, two]) <;> (repeat' with_reducible refine And.intro ?_ ?_) <;> (try (with_reducible refine hK _ ?_; clear hK K))))))
                                                            | omega
  all_goals (unfold nextP)
  · rw [if_pos (by assumption), if_pos hc]; (refine aend_retc ?_ rfl ?_ ?_ ?_ ?_; (focus (first | exact .inl rfl | exact .inr rfl)); (focus ((try simp (disch := omega) only [go_sem, wrap_n, true_and]) <;> (try omega) <;> fail)); (focus ((try simp (disch := omega) only [go_sem, wrap_n, true_and]) <;> (try omega) <;> fail)); (focus ((try simp (disch := omega) only [go_sem, wrap_n, true_and]) <;> (try omega) <;> fail)); (try simp (disch := omega) only [go_sem, wrap_n, true_and, I, B, S, AV.d.injEq, DV.int.injEq, DV.bool.injEq, DV.str.injEq, DV.sl.injEq, AV.tup.injEq, AV.agg.injEq, List.cons.injEq, and_true, true_and, and_self]))
  · rw [if_pos (by assumption), if_neg (fun h => h hc)]; (refine aend_retc ?_ rfl ?_ ?_ ?_ ?_; (focus (first | exact .inl rfl | exact .inr rfl)); (focus ((try simp (disch := omega) only [go_sem, wrap_n, true_and]) <;> (try omega) <;> fail)); (focus ((try simp (disch := omega) only [go_sem, wrap_n, true_and]) <;> (try omega) <;> fail)); (focus ((try simp (disch := omega) only [go_sem, wrap_n, true_and]) <;> (try omega) <;> fail)); (try simp (disch := omega) only [go_sem, wrap_n, true_and, I, B, S, AV.d.injEq, DV.int.injEq, DV.bool.injEq, DV.str.injEq, DV.sl.injEq, AV.tup.injEq, AV.agg.injEq, List.cons.injEq, and_true, true_and, and_self]))
  · rw [if_neg (by omega)]; (refine aend_retc ?_ rfl ?_ ?_ ?_ ?_; (focus (first | exact .inl rfl | exact .inr rfl)); (focus ((try simp (disch := omega) only [go_sem, wrap_n, true_and]) <;> (try omega) <;> fail)); (focus ((try simp (disch := omega) only [go_sem, wrap_n, true_and]) <;> (try omega) <;> fail)); (focus ((try simp (disch := omega) only [go_sem, wrap_n, true_and]) <;> (try omega) <;> fail)); (try simp (disch := omega) only [go_sem, wrap_n, true_and, I, B, S, AV.d.injEq, DV.int.injEq, DV.bool.injEq, DV.str.injEq, DV.sl.injEq, AV.tup.injEq, AV.agg.injEq, List.cons.injEq, and_true, true_and, and_self]))
theorem mkZ_ok (e : Int) : okI (mkZ e 0).1 := by
  unfold mkZ; split
  · exact ⟨by decide, by decide⟩
  · rename_i h; unfold badZ at h; exact ⟨by simp only; omega, by simp only; omega⟩
theorem ref_zab_next_c (p : APeer) (h : p.log.length ≤ 140737488351232) (h2 : ∀ x, x ∈ p.log → x.wf) : acall Try.prog [] 43 [p.av] (ret (.tup [I (nextP p).1, I (nextP p).2])) := by
  refine acall_of tabOk Try.func43 rfl (by kernel_rfl) (by simp [Try.ntmps43]) ?_
  simp only [Try.ntmps43, Try.results43, List.toList_toArray, apar, List.length_nil, List.length_cons, Nat.reduceAdd]
  have w1 := zlast_ok _ h2
  repeat' first
    | with_reducible refine AWP.seq ?_
    | with_reducible refine thenA_n ?_
    | with_reducible refine thenA_r ?_
    | with_reducible refine thenA_e ?_
    | with_reducible refine blkA_n ?_
    | with_reducible refine blkA_r ?_
    | with_reducible refine blkA_e ?_
    | with_reducible refine blkA_x (by decide) ?_
    | with_reducible refine AWP.skip ?_
    | with_reducible refine AWP.ret ?_
    | with_reducible refine AWP.exit ?_
    | with_reducible refine AWP.block ?_
    | (with_reducible refine AWP.cond rfl ?_ ?_ <;> intro hc <;> (try simp only [decide_eq_true_eq, decide_eq_false_iff_not, Bool.and_eq_true, Bool.or_eq_true, Bool.or_eq_false_iff, Bool.and_eq_false_iff, Bool.not_eq_true', Bool.not_eq_false', Bool.true_eq_false, Bool.false_eq_true, Bool.not_eq_true, Bool.not_eq_false, Int.not_lt, Int.not_le, Nat.not_lt, Nat.not_le, Int.ofNat_lt, Int.ofNat_le, Int.natCast_eq_zero, not_true_eq_false, not_false_eq_true, beq_iff_eq, Bool.not_true, Bool.not_false, ge_iff_le, gt_iff_lt] at hc))
    | ((first | with_reducible refine AWP.region tabOk ?_ | with_reducible refine AWP.quiet mixed tabOk (by kernel_rfl) ?_ | with_reducible refine AWP.draw mixed tabOk (by kernel_rfl) ?_); intro K hK; ((try simp (disch := omega) only [go_sem, wrap_n, two]) <;> (repeat' with_reducible refine And.intro ?_ ?_) <;> (try (with_reducible refine hK _ ?_; clear hK K))))
    | ((first | refine acallH_sc (ref_last_c _ h) rfl rfl ?_ ?_ ?_ | refine acallH_sc (ref_epoch_c _ w1) rfl rfl ?_ ?_ ?_ | refine acallH_sc (ref_make_c _ _) rfl rfl ?_ ?_ ?_ | refine acallH_sc (ref_next_c _ w1) rfl rfl ?_ ?_ ?_ | refine acallH_sc (ref_next_c _ (mkZ_ok _)) rfl rfl ?_ ?_ ?_); (focus ((try simp (disch := omega) only [go_sem, wrap_n, two]) <;> (try omega) <;> fail)); (focus ((try simp (disch := omega) only [go_sem, wrap_n, two]) <;> (try omega) <;> fail)); ((try simp (disch := omega) only [go_sem, wrap_n, two]) <;> (repeat' with_reducible refine And.intro ?_ ?_) <;> (try (with_reducible refine hK _ ?_; clear hK K))))
    | ((first | refine acallQ_sc (ref_last_c _ h) rfl rfl ?_ ?_ ?_ | refine acallQ_sc (ref_epoch_c _ w1) rfl rfl ?_ ?_ ?_ | refine acallQ_sc (ref_make_c _ _) rfl rfl ?_ ?_ ?_ | refine acallQ_sc (ref_next_c _ w1) rfl rfl ?_ ?_ ?_ | refine acallQ_sc (ref_next_c _ (mkZ_ok _)) rfl rfl ?_ ?_ ?_); (focus ((try simp (disch := omega) only [go_sem, wrap_n, two]) <;> (try omega) <;> fail)); (focus ((try simp (disch := omega) only [go_sem, wrap_n, two]) <;> (try omega) <;> fail)); ((try simp (disch := omega) only [go_sem, wrap_n, two]) <;> (repeat' with_reducible refine And.intro ?_ ?_) <;> (try (with_reducible refine hK _ ?_; clear hK K))))
    | ((first | refine acallH_anyr (ref_last_c _ h) rfl ?_ ?_ | refine acallH_anyr (ref_epoch_c _ w1) rfl ?_ ?_ | refine acallH_anyr (ref_make_c _ _) rfl ?_ ?_ | refine acallH_anyr (ref_next_c _ w1) rfl ?_ ?_ | refine acallH_anyr (ref_next_c _ (mkZ_ok _)) rfl ?_ ?_); (focus ((try simp (disch := omega) only [go_sem, wrap_n, two]) <;> (try omega) <;> fail)); ((try simp (disch := omega) only [go_sem, wrap_n, two]) <;> (repeat' with_reducible refine And.intro ?_ ?_) <;> (try (with_reducible refine hK _ ?_; clear hK K))))
    | ((first | refine acallH_scx (ref_last_c _ h) rfl ?_ ?_ | refine acallQ_scx (ref_last_c _ h) rfl ?_ ?_ | refine acallH_anyx (ref_last_c _ h) ?_ ?_); (focus ((try simp (disch := omega) only [go_sem, wrap_n, two]) <;> (try omega) <;> fail)); ((try simp (disch := omega) only [go_sem, wrap_n, two]) <;> (repeat' with_reducible refine And.intro ?_ ?_) <;> (try (with_reducible refine hK _ ?_; clear hK K))))
    | ((first | refine acallH_scx (ref_epoch_c _ w1) rfl ?_ ?_ | refine acallQ_scx (ref_epoch_c _ w1) rfl ?_ ?_ | refine acallH_anyx (ref_epoch_c _ w1) ?_ ?_); (focus ((try simp (disch := omega) only [go_sem, wrap_n, two]) <;> (try omega) <;> fail)); ((try simp (disch := omega) only [go_sem, wrap_n, two]) <;> (repeat' with_reducible refine And.intro ?_ ?_) <;> (try (with_reducible refine hK _ ?_; clear hK K))))
    | ((first | refine acallH_scx (ref_make_c _ _) rfl ?_ ?_ | refine acallQ_scx (ref_make_c _ _) rfl ?_ ?_ | refine acallH_anyx (ref_make_c _ _) ?_ ?_); (focus ((try simp (disch := omega) only [go_sem, wrap_n, two]) <;> (try omega) <;> fail)); ((try simp (disch := omega) only [go_sem, wrap_n, two]) <;> (repeat' with_reducible refine And.intro ?_ ?_) <;> (try (with_reducible refine hK _ ?_; clear hK K))))
    | ((first | refine acallH_scx (ref_next_c _ w1) rfl ?_ ?_ | refine acallQ_scx (ref_next_c _ w1) rfl ?_ ?_ | refine acallH_anyx (ref_next_c _ w1) ?_ ?_); (focus ((try simp (disch := omega) only [go_sem, wrap_n, two]) <;> (try omega) <;> fail)); ((try simp (disch := omega) only [go_sem, wrap_n, two]) <;> (repeat' with_reducible refine And.intro ?_ ?_) <;> (try (with_reducible refine hK _ ?_; clear hK K))))
    | ((first | refine acallH_scx (ref_next_c _ (mkZ_ok _)) rfl ?_ ?_ | refine acallQ_scx (ref_next_c _ (mkZ_ok _)) rfl ?_ ?_ | refine acallH_anyx (ref_next_c _ (mkZ_ok _)) ?_ ?_); (focus ((try simp (disch := omega) only [go_sem, wrap_n, two]) <;> (try omega) <;> fail)); ((try simp (disch := omega) only [go_sem, wrap_n, two]) <;> (repeat' with_reducible refine And.intro ?_ ?_) <;> (try (with_reducible refine hK _ ?_; clear hK K))))
    | ((first | (with_reducible refine aunder_i ?_ ?_ <;> intro hg) | with_reducible intro hg) <;> (first | (exfalso; simp at hg; done) | (have hg' := hg; (try simp only [decide_eq_true_eq, decide_eq_false_iff_not, Bool.and_eq_true, Bool.or_eq_true, Bool.or_eq_false_iff, Bool.and_eq_false_iff, Bool.not_eq_true', Bool.not_eq_false', Bool.true_eq_false, Bool.false_eq_true, Bool.not_eq_true, Bool.not_eq_false, Int.not_lt, Int.not_le, Nat.not_lt, Nat.not_le, Int.ofNat_lt, Int.ofNat_le, Int.natCast_eq_zero, not_true_eq_false, not_false_eq_true, beq_iff_eq, Bool.not_true, Bool.not_false, ge_iff_le, gt_iff_lt] at hg'); ((try simp (disch := omega) only [hg, go_sem, wrap_n, two]) <;> (repeat' with_reducible refine And.intro ?_ ?_) <;> (try (with_reducible refine hK _ ?_; clear hK K))))))
                                                            | omega
  all_goals (unfold nextP)
  · rw [if_neg (by omega)]; (refine aend_retc ?_ rfl ?_ ?_ ?_ ?_; (focus (first | exact .inl rfl | exact .inr rfl)); (focus ((try simp (disch := omega) only [go_sem, wrap_n, true_and]) <;> (try omega) <;> fail)); (focus ((try simp (disch := omega) only [go_sem, wrap_n, true_and]) <;> (try omega) <;> fail)); (focus ((try simp (disch := omega) only [go_sem, wrap_n, true_and]) <;> (try omega) <;> fail)); (try simp (disch := omega) only [go_sem, wrap_n, true_and, I, B, S, AV.d.injEq, DV.int.injEq, DV.bool.injEq, DV.str.injEq, DV.sl.injEq, AV.tup.injEq, AV.agg.injEq, List.cons.injEq, and_true, true_and, and_self]))
  · rw [if_pos (by assumption), if_pos hc]; (refine aend_retc ?_ rfl ?_ ?_ ?_ ?_; (focus (first | exact .inl rfl | exact .inr rfl)); (focus ((try simp (disch := omega) only [go_sem, wrap_n, true_and]) <;> (try omega) <;> fail)); (focus ((try simp (disch := omega) only [go_sem, wrap_n, true_and]) <;> (try omega) <;> fail)); (focus ((try simp (disch := omega) only [go_sem, wrap_n, true_and]) <;> (try omega) <;> fail)); (try simp (disch := omega) only [go_sem, wrap_n, true_and, I, B, S, AV.d.injEq, DV.int.injEq, DV.bool.injEq, DV.str.injEq, DV.sl.injEq, AV.tup.injEq, AV.agg.injEq, List.cons.injEq, and_true, true_and, and_self]))
  · rw [if_pos (by assumption), if_neg (fun h => h hc)]; (refine aend_retc ?_ rfl ?_ ?_ ?_ ?_; (focus (first | exact .inl rfl | exact .inr rfl)); (focus ((try simp (disch := omega) only [go_sem, wrap_n, true_and]) <;> (try omega) <;> fail)); (focus ((try simp (disch := omega) only [go_sem, wrap_n, true_and]) <;> (try omega) <;> fail)); (focus ((try simp (disch := omega) only [go_sem, wrap_n, true_and]) <;> (try omega) <;> fail)); (try simp (disch := omega) only [go_sem, wrap_n, true_and, I, B, S, AV.d.injEq, DV.int.injEq, DV.bool.injEq, DV.str.injEq, DV.sl.injEq, AV.tup.injEq, AV.agg.injEq, List.cons.injEq, and_true, true_and, and_self]))

theorem peers_c (l : List APeer) (h : l.length * 48 ≤ 140737488351232) (h2 : ∀ p, p ∈ l → p.log.length * 72 ≤ 140737488351232) : acall Try.prog [] 39 [.d (.sl 4 (l.map APeer.row))] (ret (.d (.sl 4 (l.map APeer.row)))) := by
  refine acall_of tabOk Try.func39 rfl (by kernel_rfl) (by simp [Try.ntmps39]) ?_
  simp only [Try.ntmps39, Try.results39, List.toList_toArray, apar, List.length_nil, List.length_cons, Nat.reduceAdd]
  repeat' first
    | with_reducible refine AWP.seq ?_
    | with_reducible refine thenA_n ?_
    | with_reducible refine thenA_r ?_
    | with_reducible refine thenA_e ?_
    | with_reducible refine blkA_n ?_
    | with_reducible refine blkA_r ?_
    | with_reducible refine blkA_e ?_
    | with_reducible refine blkA_x (by decide) ?_
    | with_reducible refine AWP.skip ?_
    | with_reducible refine AWP.ret ?_
    | with_reducible refine AWP.exit ?_
    | with_reducible refine AWP.block ?_
    | (with_reducible refine AWP.cond rfl ?_ ?_ <;> intro hc <;> (try simp only [decide_eq_true_eq, decide_eq_false_iff_not, Bool.and_eq_true, Bool.or_eq_true, Bool.or_eq_false_iff, Bool.and_eq_false_iff, Bool.not_eq_true', Bool.not_eq_false', Bool.true_eq_false, Bool.false_eq_true, Bool.not_eq_true, Bool.not_eq_false, Int.not_lt, Int.not_le, Nat.not_lt, Nat.not_le, Int.ofNat_lt, Int.ofNat_le, Int.natCast_eq_zero, not_true_eq_false, not_false_eq_true, beq_iff_eq, Bool.not_true, Bool.not_false, ge_iff_le, gt_iff_lt] at hc))
    | ((first | with_reducible refine AWP.region tabOk ?_ | with_reducible refine AWP.quiet mixed tabOk (by kernel_rfl) ?_ | with_reducible refine AWP.draw mixed tabOk (by kernel_rfl) ?_); intro K hK; ((try simp (disch := omega) only [go_sem, wrap_n, true_and]) <;> (repeat' with_reducible refine And.intro ?_ ?_) <;> (try (with_reducible refine hK _ ?_; clear hK K))))
    | ((first | (with_reducible refine aunder_i ?_ ?_ <;> intro hg) | with_reducible intro hg) <;> (first | (exfalso; simp at hg; done) | (have hg' := hg; (try simp only [decide_eq_true_eq, decide_eq_false_iff_not, Bool.and_eq_true, Bool.or_eq_true, Bool.or_eq_false_iff, Bool.and_eq_false_iff, Bool.not_eq_true', Bool.not_eq_false', Bool.true_eq_false, Bool.false_eq_true, Bool.not_eq_true, Bool.not_eq_false, Int.not_lt, Int.not_le, Nat.not_lt, Nat.not_le, Int.ofNat_lt, Int.ofNat_le, Int.natCast_eq_zero, not_true_eq_false, not_false_eq_true, beq_iff_eq, Bool.not_true, Bool.not_false, ge_iff_le, gt_iff_lt] at hg'); ((try simp (disch := omega) only [hg, go_sem, wrap_n, true_and]) <;> (repeat' with_reducible refine And.intro ?_ ?_) <;> (try (with_reducible refine hK _ ?_; clear hK K))))))
                                                            | omega
  refine AWP.weaken (SImp.nilOwn 3 4 rfl) ?_
  refine AWP.loopB (ι := Nat) (fun i => i ≤ l.length) (fun i => l.length - i) [0] (fun i => [(3, .osl 0 4 0 i), (4, I i)]) (fun i => [.rows 4 ((l.take i).map APeer.row)]) 0 ?_ ?_ ?_
  · omega
  · simp only [go_sem]; (refine SImp.same ?_; simp (disch := omega) only [go_sem, wrap_n, Int.natCast_add, true_and])
  intro i hi
  have hlen : i < l.length → (l.getD i default).log.length * 72 ≤ 140737488351232 := fun h => h2 _ (getD_mem l i h)
  simp only [go_sem]
  repeat' first
    | with_reducible refine AWP.seq ?_
    | with_reducible refine thenA_n ?_
    | with_reducible refine thenA_r ?_
    | with_reducible refine thenA_e ?_
    | with_reducible refine blkA_n ?_
    | with_reducible refine blkA_r ?_
    | with_reducible refine blkA_e ?_
    | with_reducible refine blkA_x (by decide) ?_
    | with_reducible refine AWP.skip ?_
    | with_reducible refine AWP.ret ?_
    | with_reducible refine AWP.exit ?_
    | with_reducible refine AWP.block ?_
    | (with_reducible refine AWP.cond rfl ?_ ?_ <;> intro hc <;> (try simp only [decide_eq_true_eq, decide_eq_false_iff_not, Bool.and_eq_true, Bool.or_eq_true, Bool.or_eq_false_iff, Bool.and_eq_false_iff, Bool.not_eq_true', Bool.not_eq_false', Bool.true_eq_false, Bool.false_eq_true, Bool.not_eq_true, Bool.not_eq_false, Int.not_lt, Int.not_le, Nat.not_lt, Nat.not_le, Int.ofNat_lt, Int.ofNat_le, Int.natCast_eq_zero, not_true_eq_false, not_false_eq_true, beq_iff_eq, Bool.not_true, Bool.not_false, ge_iff_le, gt_iff_lt] at hc))
    | ((first | with_reducible refine AWP.region tabOk ?_ | with_reducible refine AWP.quiet mixed tabOk (by kernel_rfl) ?_ | with_reducible refine AWP.draw mixed tabOk (by kernel_rfl) ?_); intro K hK; ((try simp (disch := omega) only [go_sem, wrap_n, getD_row]) <;> (repeat' with_reducible refine And.intro ?_ ?_) <;> (try (with_reducible refine hK _ ?_; clear hK K))))
    | ((first | (with_reducible refine aunder_i ?_ ?_ <;> intro hg) | with_reducible intro hg) <;> (first | (exfalso; simp at hg; done) | (have hg' := hg; (try simp only [decide_eq_true_eq, decide_eq_false_iff_not, Bool.and_eq_true, Bool.or_eq_true, Bool.or_eq_false_iff, Bool.and_eq_false_iff, Bool.not_eq_true', Bool.not_eq_false', Bool.true_eq_false, Bool.false_eq_true, Bool.not_eq_true, Bool.not_eq_false, Int.not_lt, Int.not_le, Nat.not_lt, Nat.not_le, Int.ofNat_lt, Int.ofNat_le, Int.natCast_eq_zero, not_true_eq_false, not_false_eq_true, beq_iff_eq, Bool.not_true, Bool.not_false, ge_iff_le, gt_iff_lt] at hg'); ((try simp (disch := omega) only [hg, go_sem, wrap_n, getD_row]) <;> (repeat' with_reducible refine And.intro ?_ ?_) <;> (try (with_reducible refine hK _ ?_; clear hK K))))))
                                                            | omega
  · refine ⟨i + 1, by omega, by omega, ?_⟩
    simp only [take_snoc l i hc, List.map_append, List.map_cons, List.map_nil]
    (refine SImp.frame [4] rfl (by intro k hk; simp at hk <;> (simp; omega)) (by decide) (fun k hk => by omega) ?_ ?_ <;> simp (disch := omega) only [go_sem, wrap_n, Int.natCast_add, take_map_take, true_or, or_true] <;> (try rfl))
  · have e : i = l.length := by omega
    subst e
    simp only [List.take_length]
    (refine aend_retc ?_ rfl ?_ ?_ ?_ ?_; (focus (first | exact .inl rfl | exact .inr rfl)); (focus ((try simp (disch := omega) only [go_sem, wrap_n, true_and]) <;> (try omega) <;> fail)); (focus ((try simp (disch := omega) only [go_sem, wrap_n, true_and]) <;> (try omega) <;> fail)); (focus ((try simp (disch := omega) only [go_sem, wrap_n, true_and]) <;> (try omega) <;> fail)); (try simp (disch := omega) only [go_sem, wrap_n, true_and, I, B, S, AV.d.injEq, DV.int.injEq, DV.bool.injEq, DV.str.injEq, DV.sl.injEq, AV.tup.injEq, AV.agg.injEq, List.cons.injEq, and_true, true_and, and_self]))

def badPeer (p : APeer) : Bool := decide (p.id < 0) || decide (3 ≤ p.id) || decide (p.epoch < 0) || decide (2147483647 < p.epoch)
def twice (l : List APeer) (i : Nat) : Bool := (l.take i).any fun q => decide (q.id = (l.getD i default).id)
def errAt (l : List APeer) (i : Nat) : Int := if twice l i then 8 else if badPeer (l.getD i default) then 3 else 0
def firstErr (l : List APeer) : Nat → Int
  | 0 => 0
  | n + 1 => if firstErr l n = 0 then errAt l n else firstErr l n
def mx (a b : Int) : Int := if a < b then b else a
def bestE (l : List APeer) : Nat → Nat × Int
  | 0 => (0, 0)
  | n + 1 => (if aheadP (l.getD n default) (l.getD (bestE l n).1 default) then n else (bestE l n).1, mx (mx (bestE l n).2 (l.getD n default).epoch) (epZ (lastZ (l.getD n default).log)))
def electP (l : List APeer) : Int × Int × Int :=
  if firstErr l l.length = 0 then
    if l.length < 2 then (0, 0, 14) else if 2147483647 ≤ (bestE l l.length).2 then (0, 0, 6) else (((bestE l l.length).1 : Int), (bestE l l.length).2 + 1, 0)
  else (0, 0, firstErr l l.length)
def three (p : Int × Int × Int) : AV := .tup [I p.1, I p.2.1, I p.2.2]

theorem firstErr_mono {l : List APeer} {n : Nat} (h : firstErr l n ≠ 0) : ∀ m, n ≤ m → firstErr l m = firstErr l n
  | 0, hm => by have : n = 0 := by omega
                rw [this]
  | m + 1, hm => by
    by_cases e : n = m + 1
    · rw [e]
    · have := firstErr_mono h m (by omega)
      simp only [firstErr]
      rw [this, if_neg h]
theorem elect_err {l : List APeer} {i : Nat} (hi : i < l.length) (h0 : firstErr l i = 0) (h : errAt l i ≠ 0) : electP l = (0, 0, errAt l i) := by
  have h1 : firstErr l (i + 1) = errAt l i := by simp only [firstErr]; rw [if_pos h0]
  have h2 := firstErr_mono (n := i + 1) (by rw [h1]; exact h) l.length hi
  unfold electP
  rw [h2, h1, if_neg h]
theorem twice_yes {l : List APeer} {i k : Nat} (hk : k < i) (hi : i < l.length) (h : (l.getD k default).id = (l.getD i default).id) : twice l i = true := by
  unfold twice
  rw [List.any_eq_true]
  refine ⟨l.getD k default, ?_, by simpa using h⟩
  rw [List.mem_take_iff_getElem]
  refine ⟨k, by omega, ?_⟩
  rw [List.getD_eq_getElem?_getD, List.getElem?_eq_getElem (by omega)]; rfl
theorem twice_no {l : List APeer} {i : Nat} (hi : i < l.length) (h : ∀ k, k < i → ¬ (l.getD k default).id = (l.getD i default).id) : twice l i = false := by
  unfold twice
  rw [List.any_eq_false]
  intro q hq
  rw [List.mem_take_iff_getElem] at hq
  obtain ⟨k, hk, rfl⟩ := hq
  have := h k (by omega)
  rw [List.getD_eq_getElem?_getD, List.getElem?_eq_getElem (by omega)] at this
  simpa using this
theorem err_none {l : List APeer} {n : Nat} (h : firstErr l n = 0) : ∀ i, i < n → badPeer (l.getD i default) = false := by
  induction n with
  | zero => intro i hi; omega
  | succ n ih =>
    simp only [firstErr] at h
    split at h
    · rename_i h0
      intro i hi
      by_cases e : i = n
      · subst e
        unfold errAt at h
        split at h
        · simp at h
        · split at h
          · simp at h
          · rename_i hb; simpa using hb
      · exact ih h0 i (by omega)
    · contradiction
theorem ep_bnd (z : Int) : 0 ≤ epZ z ∧ epZ z ≤ 2147483647 := by
  unfold epZ; split
  · rename_i h; unfold goodZ at h; omega
  · omega
theorem firstErr_zero {l : List APeer} {n m : Nat} (h : firstErr l m = 0) (hn : n ≤ m) : firstErr l n = 0 := by
  by_cases e : firstErr l n = 0
  · exact e
  · rw [firstErr_mono e m hn] at h; exact absurd h e
theorem best_bnd {l : List APeer} : ∀ (n : Nat), firstErr l n = 0 → 0 ≤ (bestE l n).2 ∧ (bestE l n).2 ≤ 2147483647 ∧ ((bestE l n).1 = 0 ∨ (bestE l n).1 < n)
  | 0, _ => ⟨by simp [bestE], by simp [bestE], .inl rfl⟩
  | n + 1, h => by
    have hb := err_none h n (by omega)
    have h0 : firstErr l n = 0 := by
      simp only [firstErr] at h
      split at h
      · assumption
      · contradiction
    obtain ⟨a, b, c⟩ := best_bnd n h0
    have := ep_bnd (lastZ (l.getD n default).log)
    simp only [badPeer, Bool.or_eq_false_iff, decide_eq_false_iff_not] at hb
    simp only [bestE, mx]
    refine ⟨by split <;> split <;> omega, by split <;> split <;> omega, ?_⟩
    split
    · right; omega
    · omega

theorem elect_c (l : List APeer) (h : l.length ≤ 140737488351232) (h2 : ∀ p, p ∈ l → p.log.length ≤ 140737488351232) : acall Try.prog [] 38 [.d (.sl 4 (l.map APeer.row))] (ret (three (electP l))) := by
  refine acall_of tabOk Try.func38 rfl (by kernel_rfl) (by simp [Try.ntmps38]) ?_
  simp only [Try.ntmps38, Try.results38, List.toList_toArray, apar, List.length_nil, List.length_cons, Nat.reduceAdd]
  repeat' first
    | with_reducible refine AWP.seq ?_
    | with_reducible refine thenA_n ?_
    | with_reducible refine thenA_r ?_
    | with_reducible refine thenA_e ?_
    | with_reducible refine blkA_n ?_
    | with_reducible refine blkA_r ?_
    | with_reducible refine blkA_e ?_
    | with_reducible refine blkA_x (by decide) ?_
    | with_reducible refine AWP.skip ?_
    | with_reducible refine AWP.ret ?_
    | with_reducible refine AWP.exit ?_
    | with_reducible refine AWP.block ?_
    | (with_reducible refine AWP.cond rfl ?_ ?_ <;> intro hc <;> (try simp only [decide_eq_true_eq, decide_eq_false_iff_not, Bool.and_eq_true, Bool.or_eq_true, Bool.or_eq_false_iff, Bool.and_eq_false_iff, Bool.not_eq_true', Bool.not_eq_false', Bool.true_eq_false, Bool.false_eq_true, Bool.not_eq_true, Bool.not_eq_false, Int.not_lt, Int.not_le, Nat.not_lt, Nat.not_le, Int.ofNat_lt, Int.ofNat_le, Int.natCast_eq_zero, not_true_eq_false, not_false_eq_true, beq_iff_eq, Bool.not_true, Bool.not_false, ge_iff_le, gt_iff_lt] at hc))
    | ((first | with_reducible refine AWP.region tabOk ?_ | with_reducible refine AWP.quiet mixed tabOk (by kernel_rfl) ?_ | with_reducible refine AWP.draw mixed tabOk (by kernel_rfl) ?_); intro K hK; ((try simp (disch := omega) only [go_sem, wrap_n, true_and]) <;> (repeat' with_reducible refine And.intro ?_ ?_) <;> (try (with_reducible refine hK _ ?_; clear hK K))))
    | ((first | (with_reducible refine aunder_i ?_ ?_ <;> intro hg) | with_reducible intro hg) <;> (first | (exfalso; simp at hg; done) | (have hg' := hg; (try simp only [decide_eq_true_eq, decide_eq_false_iff_not, Bool.and_eq_true, Bool.or_eq_true, Bool.or_eq_false_iff, Bool.and_eq_false_iff, Bool.not_eq_true', Bool.not_eq_false', Bool.true_eq_false, Bool.false_eq_true, Bool.not_eq_true, Bool.not_eq_false, Int.not_lt, Int.not_le, Nat.not_lt, Nat.not_le, Int.ofNat_lt, Int.ofNat_le, Int.natCast_eq_zero, not_true_eq_false, not_false_eq_true, beq_iff_eq, Bool.not_true, Bool.not_false, ge_iff_le, gt_iff_lt] at hg'); ((try simp (disch := omega) only [hg, go_sem, wrap_n, true_and]) <;> (repeat' with_reducible refine And.intro ?_ ?_) <;> (try (with_reducible refine hK _ ?_; clear hK K))))))
                                                            | omega
  refine AWP.loopB (ι := Nat) (fun i => i ≤ l.length ∧ firstErr l i = 0) (fun i => l.length - i) [0, 12, 13] (fun i => [(14, I i)]) (fun i => []) 0 ?_ ?_ ?_
  · exact ⟨by omega, rfl⟩
  · simp only [go_sem]; (refine SImp.same ?_; simp (disch := omega) only [go_sem, wrap_n, Int.natCast_add, true_and])
  intro i ⟨hi, h0⟩
  simp only [go_sem]
  repeat' first
    | with_reducible refine AWP.seq ?_
    | with_reducible refine thenA_n ?_
    | with_reducible refine thenA_r ?_
    | with_reducible refine thenA_e ?_
    | with_reducible refine blkA_n ?_
    | with_reducible refine blkA_r ?_
    | with_reducible refine blkA_e ?_
    | with_reducible refine blkA_x (by decide) ?_
    | with_reducible refine AWP.skip ?_
    | with_reducible refine AWP.ret ?_
    | with_reducible refine AWP.exit ?_
    | with_reducible refine AWP.block ?_
    | (with_reducible refine AWP.cond rfl ?_ ?_ <;> intro hc <;> (try simp only [decide_eq_true_eq, decide_eq_false_iff_not, Bool.and_eq_true, Bool.or_eq_true, Bool.or_eq_false_iff, Bool.and_eq_false_iff, Bool.not_eq_true', Bool.not_eq_false', Bool.true_eq_false, Bool.false_eq_true, Bool.not_eq_true, Bool.not_eq_false, Int.not_lt, Int.not_le, Nat.not_lt, Nat.not_le, Int.ofNat_lt, Int.ofNat_le, Int.natCast_eq_zero, not_true_eq_false, not_false_eq_true, beq_iff_eq, Bool.not_true, Bool.not_false, ge_iff_le, gt_iff_lt] at hc))
    | ((first | with_reducible refine AWP.region tabOk ?_ | with_reducible refine AWP.quiet mixed tabOk (by kernel_rfl) ?_ | with_reducible refine AWP.draw mixed tabOk (by kernel_rfl) ?_); intro K hK; ((try simp (disch := omega) only [go_sem, wrap_n, getD_row]) <;> (repeat' with_reducible refine And.intro ?_ ?_) <;> (try (with_reducible refine hK _ ?_; clear hK K))))
    | ((first | (with_reducible refine aunder_i ?_ ?_ <;> intro hg) | with_reducible intro hg) <;> (first | (exfalso; simp at hg; done) | (have hg' := hg; (try simp only [decide_eq_true_eq, decide_eq_false_iff_not, Bool.and_eq_true, Bool.or_eq_true, Bool.or_eq_false_iff, Bool.and_eq_false_iff, Bool.not_eq_true', Bool.not_eq_false', Bool.true_eq_false, Bool.false_eq_true, Bool.not_eq_true, Bool.not_eq_false, Int.not_lt, Int.not_le, Nat.not_lt, Nat.not_le, Int.ofNat_lt, Int.ofNat_le, Int.natCast_eq_zero, not_true_eq_false, not_false_eq_true, beq_iff_eq, Bool.not_true, Bool.not_false, ge_iff_le, gt_iff_lt] at hg'); ((try simp (disch := omega) only [hg, go_sem, wrap_n, getD_row]) <;> (repeat' with_reducible refine And.intro ?_ ?_) <;> (try (with_reducible refine hK _ ?_; clear hK K))))))
                                                            | omega
  · have hil := hc
    refine AWP.loopS (ι := Nat) (fun k => k ≤ i ∧ ∀ j, j < k → ¬ (l.getD j default).id = (l.getD i default).id) (fun k => i - k) [0, 6, 12, 13, 14, 19] (fun k => [(20, I k)]) 0 ?_ (by simp (disch := omega) only [go_sem, wrap_n, true_and]) ?_
    · exact ⟨by omega, by omega⟩
    intro k ⟨hk, hk2⟩
    simp only [go_sem]
    repeat' first
    | with_reducible refine AWP.seq ?_
    | with_reducible refine thenA_n ?_
    | with_reducible refine thenA_r ?_
    | with_reducible refine thenA_e ?_
    | with_reducible refine blkA_n ?_
    | with_reducible refine blkA_r ?_
    | with_reducible refine blkA_e ?_
    | with_reducible refine blkA_x (by decide) ?_
    | with_reducible refine AWP.skip ?_
    | with_reducible refine AWP.ret ?_
    | with_reducible refine AWP.exit ?_
    | with_reducible refine AWP.block ?_
    | (with_reducible refine AWP.cond rfl ?_ ?_ <;> intro hc <;> (try simp only [decide_eq_true_eq, decide_eq_false_iff_not, Bool.and_eq_true, Bool.or_eq_true, Bool.or_eq_false_iff, Bool.and_eq_false_iff, Bool.not_eq_true', Bool.not_eq_false', Bool.true_eq_false, Bool.false_eq_true, Bool.not_eq_true, Bool.not_eq_false, Int.not_lt, Int.not_le, Nat.not_lt, Nat.not_le, Int.ofNat_lt, Int.ofNat_le, Int.natCast_eq_zero, not_true_eq_false, not_false_eq_true, beq_iff_eq, Bool.not_true, Bool.not_false, ge_iff_le, gt_iff_lt] at hc))
    | ((first | with_reducible refine AWP.region tabOk ?_ | with_reducible refine AWP.quiet mixed tabOk (by kernel_rfl) ?_ | with_reducible refine AWP.draw mixed tabOk (by kernel_rfl) ?_); intro K hK; ((try simp (disch := omega) only [go_sem, wrap_n, getD_row]) <;> (repeat' with_reducible refine And.intro ?_ ?_) <;> (try (with_reducible refine hK _ ?_; clear hK K))))
    | ((first | (with_reducible refine aunder_i ?_ ?_ <;> intro hg) | with_reducible intro hg) <;> (first | (exfalso; simp at hg; done) | (have hg' := hg; (try simp only [decide_eq_true_eq, decide_eq_false_iff_not, Bool.and_eq_true, Bool.or_eq_true, Bool.or_eq_false_iff, Bool.and_eq_false_iff, Bool.not_eq_true', Bool.not_eq_false', Bool.true_eq_false, Bool.false_eq_true, Bool.not_eq_true, Bool.not_eq_false, Int.not_lt, Int.not_le, Nat.not_lt, Nat.not_le, Int.ofNat_lt, Int.ofNat_le, Int.natCast_eq_zero, not_true_eq_false, not_false_eq_true, beq_iff_eq, Bool.not_true, Bool.not_false, ge_iff_le, gt_iff_lt] at hg'); ((try simp (disch := omega) only [hg, go_sem, wrap_n, getD_row]) <;> (repeat' with_reducible refine And.intro ?_ ?_) <;> (try (with_reducible refine hK _ ?_; clear hK K))))))
                                                            | omega
    · have e1 : errAt l i = 8 := by unfold errAt; rw [if_pos (twice_yes (by omega) hil hc)]
      rw [elect_err hil h0 (by rw [e1]; decide), e1]
      (refine aend_retc ?_ rfl ?_ ?_ ?_ ?_; (focus (first | exact .inl rfl | exact .inr rfl)); (focus ((try simp (disch := omega) only [go_sem, wrap_n, three]) <;> (try omega) <;> fail)); (focus ((try simp (disch := omega) only [go_sem, wrap_n, three]) <;> (try omega) <;> fail)); (focus ((try simp (disch := omega) only [go_sem, wrap_n, three]) <;> (try omega) <;> fail)); (try simp (disch := omega) only [go_sem, wrap_n, three, I, B, S, AV.d.injEq, DV.int.injEq, DV.bool.injEq, DV.str.injEq, DV.sl.injEq, AV.tup.injEq, AV.agg.injEq, List.cons.injEq, and_true, true_and, and_self]))
    · refine ⟨k + 1, ⟨by omega, fun j hj => ?_⟩, by omega, ?_⟩
      · by_cases e : j = k
        · subst e; exact hc
        · exact hk2 j (by omega)
      (refine SImp.same ?_; simp (disch := omega) only [go_sem, wrap_n, Int.natCast_add, true_and])
    · have e : k = i := by omega
      subst e
      have e1 : errAt l k = 3 := by
        unfold errAt; rw [if_neg (by rw [twice_no hil hk2]; simp), if_pos]
        simp only [badPeer, Bool.or_eq_true, decide_eq_true_eq]; exact hc
      rw [elect_err hil h0 (by rw [e1]; decide), e1]
      (refine aend_retc ?_ rfl ?_ ?_ ?_ ?_; (focus (first | exact .inl rfl | exact .inr rfl)); (focus ((try simp (disch := omega) only [go_sem, wrap_n, three]) <;> (try omega) <;> fail)); (focus ((try simp (disch := omega) only [go_sem, wrap_n, three]) <;> (try omega) <;> fail)); (focus ((try simp (disch := omega) only [go_sem, wrap_n, three]) <;> (try omega) <;> fail)); (try simp (disch := omega) only [go_sem, wrap_n, three, I, B, S, AV.d.injEq, DV.int.injEq, DV.bool.injEq, DV.str.injEq, DV.sl.injEq, AV.tup.injEq, AV.agg.injEq, List.cons.injEq, and_true, true_and, and_self]))
    · have e : k = i := by omega
      subst e
      have e1 : errAt l k = 0 := by
        unfold errAt; rw [if_neg (by rw [twice_no hil hk2]; simp), if_neg]
        simp only [badPeer, Bool.or_eq_true, decide_eq_true_eq]; omega
      refine ⟨k + 1, ⟨by omega, by simp only [firstErr]; rw [if_pos h0]; exact e1⟩, by omega, ?_⟩
      (refine SImp.frame [] rfl (by intro k hk; simp at hk <;> (simp; omega)) (by decide) (fun k hk => by omega) ?_ ?_ <;> simp (disch := omega) only [go_sem, wrap_n, Int.natCast_add, true_and] <;> (try rfl))
  have e : i = l.length := by omega
  subst e
  repeat' first
    | with_reducible refine AWP.seq ?_
    | with_reducible refine thenA_n ?_
    | with_reducible refine thenA_r ?_
    | with_reducible refine thenA_e ?_
    | with_reducible refine blkA_n ?_
    | with_reducible refine blkA_r ?_
    | with_reducible refine blkA_e ?_
    | with_reducible refine blkA_x (by decide) ?_
    | with_reducible refine AWP.skip ?_
    | with_reducible refine AWP.ret ?_
    | with_reducible refine AWP.exit ?_
    | with_reducible refine AWP.block ?_
    | (with_reducible refine AWP.cond rfl ?_ ?_ <;> intro hc <;> (try simp only [decide_eq_true_eq, decide_eq_false_iff_not, Bool.and_eq_true, Bool.or_eq_true, Bool.or_eq_false_iff, Bool.and_eq_false_iff, Bool.not_eq_true', Bool.not_eq_false', Bool.true_eq_false, Bool.false_eq_true, Bool.not_eq_true, Bool.not_eq_false, Int.not_lt, Int.not_le, Nat.not_lt, Nat.not_le, Int.ofNat_lt, Int.ofNat_le, Int.natCast_eq_zero, not_true_eq_false, not_false_eq_true, beq_iff_eq, Bool.not_true, Bool.not_false, ge_iff_le, gt_iff_lt] at hc))
    | ((first | with_reducible refine AWP.region tabOk ?_ | with_reducible refine AWP.quiet mixed tabOk (by kernel_rfl) ?_ | with_reducible refine AWP.draw mixed tabOk (by kernel_rfl) ?_); intro K hK; ((try simp (disch := omega) only [go_sem, wrap_n, true_and]) <;> (repeat' with_reducible refine And.intro ?_ ?_) <;> (try (with_reducible refine hK _ ?_; clear hK K))))
    | ((first | refine acallH_sc (quorum_c) rfl rfl ?_ ?_ ?_); (focus ((try simp (disch := omega) only [go_sem, wrap_n, true_and]) <;> (try omega) <;> fail)); (focus ((try simp (disch := omega) only [go_sem, wrap_n, true_and]) <;> (try omega) <;> fail)); ((try simp (disch := omega) only [go_sem, wrap_n, true_and]) <;> (repeat' with_reducible refine And.intro ?_ ?_) <;> (try (with_reducible refine hK _ ?_; clear hK K))))
    | ((first | refine acallQ_sc (quorum_c) rfl rfl ?_ ?_ ?_); (focus ((try simp (disch := omega) only [go_sem, wrap_n, true_and]) <;> (try omega) <;> fail)); (focus ((try simp (disch := omega) only [go_sem, wrap_n, true_and]) <;> (try omega) <;> fail)); ((try simp (disch := omega) only [go_sem, wrap_n, true_and]) <;> (repeat' with_reducible refine And.intro ?_ ?_) <;> (try (with_reducible refine hK _ ?_; clear hK K))))
    | ((first | refine acallH_anyr (quorum_c) rfl ?_ ?_); (focus ((try simp (disch := omega) only [go_sem, wrap_n, true_and]) <;> (try omega) <;> fail)); ((try simp (disch := omega) only [go_sem, wrap_n, true_and]) <;> (repeat' with_reducible refine And.intro ?_ ?_) <;> (try (with_reducible refine hK _ ?_; clear hK K))))
    | ((first | refine acallH_scx (quorum_c) rfl ?_ ?_ | refine acallQ_scx (quorum_c) rfl ?_ ?_ | refine acallH_anyx (quorum_c) ?_ ?_); (focus ((try simp (disch := omega) only [go_sem, wrap_n, true_and]) <;> (try omega) <;> fail)); ((try simp (disch := omega) only [go_sem, wrap_n, true_and]) <;> (repeat' with_reducible refine And.intro ?_ ?_) <;> (try (with_reducible refine hK _ ?_; clear hK K))))
    | ((first | (with_reducible refine aunder_i ?_ ?_ <;> intro hg) | with_reducible intro hg) <;> (first | (exfalso; simp at hg; done) | (have hg' := hg; (try simp only [decide_eq_true_eq, decide_eq_false_iff_not, Bool.and_eq_true, Bool.or_eq_true, Bool.or_eq_false_iff, Bool.and_eq_false_iff, Bool.not_eq_true', Bool.not_eq_false', Bool.true_eq_false, Bool.false_eq_true, Bool.not_eq_true, Bool.not_eq_false, Int.not_lt, Int.not_le, Nat.not_lt, Nat.not_le, Int.ofNat_lt, Int.ofNat_le, Int.natCast_eq_zero, not_true_eq_false, not_false_eq_true, beq_iff_eq, Bool.not_true, Bool.not_false, ge_iff_le, gt_iff_lt] at hg'); ((try simp (disch := omega) only [hg, go_sem, wrap_n, true_and]) <;> (repeat' with_reducible refine And.intro ?_ ?_) <;> (try (with_reducible refine hK _ ?_; clear hK K))))))
                                                            | omega
  · unfold electP
    rw [if_pos h0, if_pos (by omega)]
    (refine aend_retc ?_ rfl ?_ ?_ ?_ ?_; (focus (first | exact .inl rfl | exact .inr rfl)); (focus ((try simp (disch := omega) only [go_sem, wrap_n, three]) <;> (try omega) <;> fail)); (focus ((try simp (disch := omega) only [go_sem, wrap_n, three]) <;> (try omega) <;> fail)); (focus ((try simp (disch := omega) only [go_sem, wrap_n, three]) <;> (try omega) <;> fail)); (try simp (disch := omega) only [go_sem, wrap_n, three, I, B, S, AV.d.injEq, DV.int.injEq, DV.bool.injEq, DV.str.injEq, DV.sl.injEq, AV.tup.injEq, AV.agg.injEq, List.cons.injEq, and_true, true_and, and_self]))
  · have hl2 := hc
    refine AWP.loopB (ι := Nat) (fun n => n ≤ l.length) (fun n => l.length - n) [0, 55, 56] (fun n => [(8, I (bestE l n).1), (9, I (bestE l n).2), (57, I n)]) (fun n => []) 0 ?_ ?_ ?_
    · omega
    · simp only [go_sem]; (refine SImp.frame [] rfl (by intro k hk; simp at hk <;> (simp; omega)) (by decide) (fun k hk => by omega) ?_ ?_ <;> simp (disch := omega) only [go_sem, wrap_n, Int.natCast_add, bestE] <;> (try rfl))
    intro n hn
    obtain ⟨b1, b2, b3⟩ := best_bnd n (firstErr_zero h0 hn)
    have hb : (bestE l n).1 < l.length := by omega
    have hlg := h2 _ (getD_mem l _ hb)
    simp only [go_sem]
    repeat' first
    | with_reducible refine AWP.seq ?_
    | with_reducible refine thenA_n ?_
    | with_reducible refine thenA_r ?_
    | with_reducible refine thenA_e ?_
    | with_reducible refine blkA_n ?_
    | with_reducible refine blkA_r ?_
    | with_reducible refine blkA_e ?_
    | with_reducible refine blkA_x (by decide) ?_
    | with_reducible refine AWP.skip ?_
    | with_reducible refine AWP.ret ?_
    | with_reducible refine AWP.exit ?_
    | with_reducible refine AWP.block ?_
    | (with_reducible refine AWP.cond rfl ?_ ?_ <;> intro hc <;> (try simp only [decide_eq_true_eq, decide_eq_false_iff_not, Bool.and_eq_true, Bool.or_eq_true, Bool.or_eq_false_iff, Bool.and_eq_false_iff, Bool.not_eq_true', Bool.not_eq_false', Bool.true_eq_false, Bool.false_eq_true, Bool.not_eq_true, Bool.not_eq_false, Int.not_lt, Int.not_le, Nat.not_lt, Nat.not_le, Int.ofNat_lt, Int.ofNat_le, Int.natCast_eq_zero, not_true_eq_false, not_false_eq_true, beq_iff_eq, Bool.not_true, Bool.not_false, ge_iff_le, gt_iff_lt] at hc))
    | ((first | with_reducible refine AWP.region tabOk ?_ | with_reducible refine AWP.quiet mixed tabOk (by kernel_rfl) ?_ | with_reducible refine AWP.draw mixed tabOk (by kernel_rfl) ?_); intro K hK; ((try simp (disch := omega) only [go_sem, wrap_n, getD_row]) <;> (repeat' with_reducible refine And.intro ?_ ?_) <;> (try (with_reducible refine hK _ ?_; clear hK K))))
    | ((first | (with_reducible refine aunder_i ?_ ?_ <;> intro hg) | with_reducible intro hg) <;> (first | (exfalso; simp at hg; done) | (have hg' := hg; (try simp only [decide_eq_true_eq, decide_eq_false_iff_not, Bool.and_eq_true, Bool.or_eq_true, Bool.or_eq_false_iff, Bool.and_eq_false_iff, Bool.not_eq_true', Bool.not_eq_false', Bool.true_eq_false, Bool.false_eq_true, Bool.not_eq_true, Bool.not_eq_false, Int.not_lt, Int.not_le, Nat.not_lt, Nat.not_le, Int.ofNat_lt, Int.ofNat_le, Int.natCast_eq_zero, not_true_eq_false, not_false_eq_true, beq_iff_eq, Bool.not_true, Bool.not_false, ge_iff_le, gt_iff_lt] at hg'); ((try simp (disch := omega) only [hg, go_sem, wrap_n, getD_row]) <;> (repeat' with_reducible refine And.intro ?_ ?_) <;> (try (with_reducible refine hK _ ?_; clear hK K))))))
                                                            | omega
    · have hlg2 := h2 _ (getD_mem l _ hc)
      have := ep_bnd (lastZ (l.getD n default).log)
      repeat' first
    | with_reducible refine AWP.seq ?_
    | with_reducible refine thenA_n ?_
    | with_reducible refine thenA_r ?_
    | with_reducible refine thenA_e ?_
    | with_reducible refine blkA_n ?_
    | with_reducible refine blkA_r ?_
    | with_reducible refine blkA_e ?_
    | with_reducible refine blkA_x (by decide) ?_
    | with_reducible refine AWP.skip ?_
    | with_reducible refine AWP.ret ?_
    | with_reducible refine AWP.exit ?_
    | with_reducible refine AWP.block ?_
    | (with_reducible refine AWP.cond rfl ?_ ?_ <;> intro hc <;> (try simp only [decide_eq_true_eq, decide_eq_false_iff_not, Bool.and_eq_true, Bool.or_eq_true, Bool.or_eq_false_iff, Bool.and_eq_false_iff, Bool.not_eq_true', Bool.not_eq_false', Bool.true_eq_false, Bool.false_eq_true, Bool.not_eq_true, Bool.not_eq_false, Int.not_lt, Int.not_le, Nat.not_lt, Nat.not_le, Int.ofNat_lt, Int.ofNat_le, Int.natCast_eq_zero, not_true_eq_false, not_false_eq_true, beq_iff_eq, Bool.not_true, Bool.not_false, ge_iff_le, gt_iff_lt] at hc))
    | ((first | with_reducible refine AWP.region tabOk ?_ | with_reducible refine AWP.quiet mixed tabOk (by kernel_rfl) ?_ | with_reducible refine AWP.draw mixed tabOk (by kernel_rfl) ?_); intro K hK; ((try simp (disch := omega) only [go_sem, wrap_n, true_and]) <;> (repeat' with_reducible refine And.intro ?_ ?_) <;> (try (with_reducible refine hK _ ?_; clear hK K))))
    | ((first | refine acallH_sc (ahead_c _ _ hlg2 hlg) rfl rfl ?_ ?_ ?_ | refine acallH_sc (last_c _ hlg2) rfl rfl ?_ ?_ ?_ | refine acallH_sc (epoch_c _) rfl rfl ?_ ?_ ?_); (focus ((try simp (disch := omega) only [go_sem, wrap_n, true_and]) <;> (try omega) <;> fail)); (focus ((try simp (disch := omega) only [go_sem, wrap_n, true_and]) <;> (try omega) <;> fail)); ((try simp (disch := omega) only [go_sem, wrap_n, true_and]) <;> (repeat' with_reducible refine And.intro ?_ ?_) <;> (try (with_reducible refine hK _ ?_; clear hK K))))
    | ((first | refine acallQ_sc (ahead_c _ _ hlg2 hlg) rfl rfl ?_ ?_ ?_ | refine acallQ_sc (last_c _ hlg2) rfl rfl ?_ ?_ ?_ | refine acallQ_sc (epoch_c _) rfl rfl ?_ ?_ ?_); (focus ((try simp (disch := omega) only [go_sem, wrap_n, true_and]) <;> (try omega) <;> fail)); (focus ((try simp (disch := omega) only [go_sem, wrap_n, true_and]) <;> (try omega) <;> fail)); ((try simp (disch := omega) only [go_sem, wrap_n, true_and]) <;> (repeat' with_reducible refine And.intro ?_ ?_) <;> (try (with_reducible refine hK _ ?_; clear hK K))))
    | ((first | refine acallH_anyr (ahead_c _ _ hlg2 hlg) rfl ?_ ?_ | refine acallH_anyr (last_c _ hlg2) rfl ?_ ?_ | refine acallH_anyr (epoch_c _) rfl ?_ ?_); (focus ((try simp (disch := omega) only [go_sem, wrap_n, true_and]) <;> (try omega) <;> fail)); ((try simp (disch := omega) only [go_sem, wrap_n, true_and]) <;> (repeat' with_reducible refine And.intro ?_ ?_) <;> (try (with_reducible refine hK _ ?_; clear hK K))))
    | ((first | refine acallH_scx (ahead_c _ _ hlg2 hlg) rfl ?_ ?_ | refine acallQ_scx (ahead_c _ _ hlg2 hlg) rfl ?_ ?_ | refine acallH_anyx (ahead_c _ _ hlg2 hlg) ?_ ?_); (focus ((try simp (disch := omega) only [go_sem, wrap_n, true_and]) <;> (try omega) <;> fail)); ((try simp (disch := omega) only [go_sem, wrap_n, true_and]) <;> (repeat' with_reducible refine And.intro ?_ ?_) <;> (try (with_reducible refine hK _ ?_; clear hK K))))
    | ((first | refine acallH_scx (last_c _ hlg2) rfl ?_ ?_ | refine acallQ_scx (last_c _ hlg2) rfl ?_ ?_ | refine acallH_anyx (last_c _ hlg2) ?_ ?_); (focus ((try simp (disch := omega) only [go_sem, wrap_n, true_and]) <;> (try omega) <;> fail)); ((try simp (disch := omega) only [go_sem, wrap_n, true_and]) <;> (repeat' with_reducible refine And.intro ?_ ?_) <;> (try (with_reducible refine hK _ ?_; clear hK K))))
    | ((first | refine acallH_scx (epoch_c _) rfl ?_ ?_ | refine acallQ_scx (epoch_c _) rfl ?_ ?_ | refine acallH_anyx (epoch_c _) ?_ ?_); (focus ((try simp (disch := omega) only [go_sem, wrap_n, true_and]) <;> (try omega) <;> fail)); ((try simp (disch := omega) only [go_sem, wrap_n, true_and]) <;> (repeat' with_reducible refine And.intro ?_ ?_) <;> (try (with_reducible refine hK _ ?_; clear hK K))))
    | ((first | (with_reducible refine aunder_i ?_ ?_ <;> intro hg) | with_reducible intro hg) <;> (first | (exfalso; simp at hg; done) | (have hg' := hg; (try simp only [decide_eq_true_eq, decide_eq_false_iff_not, Bool.and_eq_true, Bool.or_eq_true, Bool.or_eq_false_iff, Bool.and_eq_false_iff, Bool.not_eq_true', Bool.not_eq_false', Bool.true_eq_false, Bool.false_eq_true, Bool.not_eq_true, Bool.not_eq_false, Int.not_lt, Int.not_le, Nat.not_lt, Nat.not_le, Int.ofNat_lt, Int.ofNat_le, Int.natCast_eq_zero, not_true_eq_false, not_false_eq_true, beq_iff_eq, Bool.not_true, Bool.not_false, ge_iff_le, gt_iff_lt] at hg'); ((try simp (disch := omega) only [hg, go_sem, wrap_n, true_and]) <;> (repeat' with_reducible refine And.intro ?_ ?_) <;> (try (with_reducible refine hK _ ?_; clear hK K))))))
                                                            | omega
      · refine ⟨n + 1, by omega, by omega, ?_⟩
        (refine SImp.frame [] rfl (by intro k hk; simp at hk <;> (simp; omega)) (by decide) (fun k hk => by omega) ?_ ?_ <;> simp (disch := omega) only [go_sem, wrap_n, Int.natCast_add, bestE, mx, hc] <;> (try rfl))
      · refine ⟨n + 1, by omega, by omega, ?_⟩
        (refine SImp.frame [] rfl (by intro k hk; simp at hk <;> (simp; omega)) (by decide) (fun k hk => by omega) ?_ ?_ <;> simp (disch := omega) only [go_sem, wrap_n, Int.natCast_add, bestE, mx, hc] <;> (try rfl))
    · have e : n = l.length := by omega
      subst e
      unfold electP
      rw [if_pos h0, if_neg (by omega), if_pos hc]
      (refine aend_retc ?_ rfl ?_ ?_ ?_ ?_; (focus (first | exact .inl rfl | exact .inr rfl)); (focus ((try simp (disch := omega) only [go_sem, wrap_n, three]) <;> (try omega) <;> fail)); (focus ((try simp (disch := omega) only [go_sem, wrap_n, three]) <;> (try omega) <;> fail)); (focus ((try simp (disch := omega) only [go_sem, wrap_n, three]) <;> (try omega) <;> fail)); (try simp (disch := omega) only [go_sem, wrap_n, three, I, B, S, AV.d.injEq, DV.int.injEq, DV.bool.injEq, DV.str.injEq, DV.sl.injEq, AV.tup.injEq, AV.agg.injEq, List.cons.injEq, and_true, true_and, and_self]))
    · have e : n = l.length := by omega
      subst e
      unfold electP
      rw [if_pos h0, if_neg (by omega), if_neg (by omega)]
      (refine aend_retc ?_ rfl ?_ ?_ ?_ ?_; (focus (first | exact .inl rfl | exact .inr rfl)); (focus ((try simp (disch := omega) only [go_sem, wrap_n, three]) <;> (try omega) <;> fail)); (focus ((try simp (disch := omega) only [go_sem, wrap_n, three]) <;> (try omega) <;> fail)); (focus ((try simp (disch := omega) only [go_sem, wrap_n, three]) <;> (try omega) <;> fail)); (try simp (disch := omega) only [go_sem, wrap_n, three, I, B, S, AV.d.injEq, DV.int.injEq, DV.bool.injEq, DV.str.injEq, DV.sl.injEq, AV.tup.injEq, AV.agg.injEq, List.cons.injEq, and_true, true_and, and_self]))

theorem ref_elect_c (l : List APeer) (h : l.length ≤ 140737488351232) (h2 : ∀ p, p ∈ l → p.log.length ≤ 140737488351232) (hw : ∀ p, p ∈ l → ∀ x, x ∈ p.log → x.wf) : acall Try.prog [] 40 [.d (.sl 4 (l.map APeer.row))] (ret (three (electP l))) := by
  refine acall_of tabOk Try.func40 rfl (by kernel_rfl) (by simp [Try.ntmps40]) ?_
  simp only [Try.ntmps40, Try.results40, List.toList_toArray, apar, List.length_nil, List.length_cons, Nat.reduceAdd]
  repeat' first
    | with_reducible refine AWP.seq ?_
    | with_reducible refine thenA_n ?_
    | with_reducible refine thenA_r ?_
    | with_reducible refine thenA_e ?_
    | with_reducible refine blkA_n ?_
    | with_reducible refine blkA_r ?_
    | with_reducible refine blkA_e ?_
    | with_reducible refine blkA_x (by decide) ?_
    | with_reducible refine AWP.skip ?_
    | with_reducible refine AWP.ret ?_
    | with_reducible refine AWP.exit ?_
    | with_reducible refine AWP.block ?_
    | (with_reducible refine AWP.cond rfl ?_ ?_ <;> intro hc <;> (try simp only [decide_eq_true_eq, decide_eq_false_iff_not, Bool.and_eq_true, Bool.or_eq_true, Bool.or_eq_false_iff, Bool.and_eq_false_iff, Bool.not_eq_true', Bool.not_eq_false', Bool.true_eq_false, Bool.false_eq_true, Bool.not_eq_true, Bool.not_eq_false, Int.not_lt, Int.not_le, Nat.not_lt, Nat.not_le, Int.ofNat_lt, Int.ofNat_le, Int.natCast_eq_zero, not_true_eq_false, not_false_eq_true, beq_iff_eq, Bool.not_true, Bool.not_false, ge_iff_le, gt_iff_lt] at hc))
    | ((first | with_reducible refine AWP.region tabOk ?_ | with_reducible refine AWP.quiet mixed tabOk (by kernel_rfl) ?_ | with_reducible refine AWP.draw mixed tabOk (by kernel_rfl) ?_); intro K hK; ((try simp (disch := omega) only [go_sem, wrap_n, true_and]) <;> (repeat' with_reducible refine And.intro ?_ ?_) <;> (try (with_reducible refine hK _ ?_; clear hK K))))
    | ((first | (with_reducible refine aunder_i ?_ ?_ <;> intro hg) | with_reducible intro hg) <;> (first | (exfalso; simp at hg; done) | (have hg' := hg; (try simp only [decide_eq_true_eq, decide_eq_false_iff_not, Bool.and_eq_true, Bool.or_eq_true, Bool.or_eq_false_iff, Bool.and_eq_false_iff, Bool.not_eq_true', Bool.not_eq_false', Bool.true_eq_false, Bool.false_eq_true, Bool.not_eq_true, Bool.not_eq_false, Int.not_lt, Int.not_le, Nat.not_lt, Nat.not_le, Int.ofNat_lt, Int.ofNat_le, Int.natCast_eq_zero, not_true_eq_false, not_false_eq_true, beq_iff_eq, Bool.not_true, Bool.not_false, ge_iff_le, gt_iff_lt] at hg'); ((try simp (disch := omega) only [hg, go_sem, wrap_n, true_and]) <;> (repeat' with_reducible refine And.intro ?_ ?_) <;> (try (with_reducible refine hK _ ?_; clear hK K))))))
                                                            | omega
  refine AWP.loopB (ι := Nat) (fun i => i ≤ l.length ∧ firstErr l i = 0) (fun i => l.length - i) [0, 14, 15] (fun i => [(16, I i)]) (fun i => []) 0 ?_ ?_ ?_
  · exact ⟨by omega, rfl⟩
  · simp only [go_sem]; (refine SImp.same ?_; simp (disch := omega) only [go_sem, wrap_n, Int.natCast_add, true_and])
  intro i ⟨hi, h0⟩
  simp only [go_sem]
  repeat' first
    | with_reducible refine AWP.seq ?_
    | with_reducible refine thenA_n ?_
    | with_reducible refine thenA_r ?_
    | with_reducible refine thenA_e ?_
    | with_reducible refine blkA_n ?_
    | with_reducible refine blkA_r ?_
    | with_reducible refine blkA_e ?_
    | with_reducible refine blkA_x (by decide) ?_
    | with_reducible refine AWP.skip ?_
    | with_reducible refine AWP.ret ?_
    | with_reducible refine AWP.exit ?_
    | with_reducible refine AWP.block ?_
    | (with_reducible refine AWP.cond rfl ?_ ?_ <;> intro hc <;> (try simp only [decide_eq_true_eq, decide_eq_false_iff_not, Bool.and_eq_true, Bool.or_eq_true, Bool.or_eq_false_iff, Bool.and_eq_false_iff, Bool.not_eq_true', Bool.not_eq_false', Bool.true_eq_false, Bool.false_eq_true, Bool.not_eq_true, Bool.not_eq_false, Int.not_lt, Int.not_le, Nat.not_lt, Nat.not_le, Int.ofNat_lt, Int.ofNat_le, Int.natCast_eq_zero, not_true_eq_false, not_false_eq_true, beq_iff_eq, Bool.not_true, Bool.not_false, ge_iff_le, gt_iff_lt] at hc))
    | ((first | with_reducible refine AWP.region tabOk ?_ | with_reducible refine AWP.quiet mixed tabOk (by kernel_rfl) ?_ | with_reducible refine AWP.draw mixed tabOk (by kernel_rfl) ?_); intro K hK; ((try simp (disch := omega) only [go_sem, wrap_n, getD_row]) <;> (repeat' with_reducible refine And.intro ?_ ?_) <;> (try (with_reducible refine hK _ ?_; clear hK K))))
    | ((first | (with_reducible refine aunder_i ?_ ?_ <;> intro hg) | with_reducible intro hg) <;> (first | (exfalso; simp at hg; done) | (have hg' := hg; (try simp only [decide_eq_true_eq, decide_eq_false_iff_not, Bool.and_eq_true, Bool.or_eq_true, Bool.or_eq_false_iff, Bool.and_eq_false_iff, Bool.not_eq_true', Bool.not_eq_false', Bool.true_eq_false, Bool.false_eq_true, Bool.not_eq_true, Bool.not_eq_false, Int.not_lt, Int.not_le, Nat.not_lt, Nat.not_le, Int.ofNat_lt, Int.ofNat_le, Int.natCast_eq_zero, not_true_eq_false, not_false_eq_true, beq_iff_eq, Bool.not_true, Bool.not_false, ge_iff_le, gt_iff_lt] at hg'); ((try simp (disch := omega) only [hg, go_sem, wrap_n, getD_row]) <;> (repeat' with_reducible refine And.intro ?_ ?_) <;> (try (with_reducible refine hK _ ?_; clear hK K))))))
                                                            | omega
  · have hil := hc
    refine AWP.loopS (ι := Nat) (fun k => k ≤ i ∧ ∀ j, j < k → ¬ (l.getD j default).id = (l.getD i default).id) (fun k => i - k) [0, 5, 6, 14, 15, 16] (fun k => [(7, I k)]) 0 ?_ (by simp (disch := omega) only [go_sem, wrap_n, true_and]) ?_
    · exact ⟨by omega, by omega⟩
    intro k ⟨hk, hk2⟩
    simp only [go_sem]
    repeat' first
    | with_reducible refine AWP.seq ?_
    | with_reducible refine thenA_n ?_
    | with_reducible refine thenA_r ?_
    | with_reducible refine thenA_e ?_
    | with_reducible refine blkA_n ?_
    | with_reducible refine blkA_r ?_
    | with_reducible refine blkA_e ?_
    | with_reducible refine blkA_x (by decide) ?_
    | with_reducible refine AWP.skip ?_
    | with_reducible refine AWP.ret ?_
    | with_reducible refine AWP.exit ?_
    | with_reducible refine AWP.block ?_
    | (with_reducible refine AWP.cond rfl ?_ ?_ <;> intro hc <;> (try simp only [decide_eq_true_eq, decide_eq_false_iff_not, Bool.and_eq_true, Bool.or_eq_true, Bool.or_eq_false_iff, Bool.and_eq_false_iff, Bool.not_eq_true', Bool.not_eq_false', Bool.true_eq_false, Bool.false_eq_true, Bool.not_eq_true, Bool.not_eq_false, Int.not_lt, Int.not_le, Nat.not_lt, Nat.not_le, Int.ofNat_lt, Int.ofNat_le, Int.natCast_eq_zero, not_true_eq_false, not_false_eq_true, beq_iff_eq, Bool.not_true, Bool.not_false, ge_iff_le, gt_iff_lt] at hc))
    | ((first | with_reducible refine AWP.region tabOk ?_ | with_reducible refine AWP.quiet mixed tabOk (by kernel_rfl) ?_ | with_reducible refine AWP.draw mixed tabOk (by kernel_rfl) ?_); intro K hK; ((try simp (disch := omega) only [go_sem, wrap_n, getD_row]) <;> (repeat' with_reducible refine And.intro ?_ ?_) <;> (try (with_reducible refine hK _ ?_; clear hK K))))
    | ((first | (with_reducible refine aunder_i ?_ ?_ <;> intro hg) | with_reducible intro hg) <;> (first | (exfalso; simp at hg; done) | (have hg' := hg; (try simp only [decide_eq_true_eq, decide_eq_false_iff_not, Bool.and_eq_true, Bool.or_eq_true, Bool.or_eq_false_iff, Bool.and_eq_false_iff, Bool.not_eq_true', Bool.not_eq_false', Bool.true_eq_false, Bool.false_eq_true, Bool.not_eq_true, Bool.not_eq_false, Int.not_lt, Int.not_le, Nat.not_lt, Nat.not_le, Int.ofNat_lt, Int.ofNat_le, Int.natCast_eq_zero, not_true_eq_false, not_false_eq_true, beq_iff_eq, Bool.not_true, Bool.not_false, ge_iff_le, gt_iff_lt] at hg'); ((try simp (disch := omega) only [hg, go_sem, wrap_n, getD_row]) <;> (repeat' with_reducible refine And.intro ?_ ?_) <;> (try (with_reducible refine hK _ ?_; clear hK K))))))
                                                            | omega
    · have e1 : errAt l i = 8 := by unfold errAt; rw [if_pos (twice_yes (by omega) hil hc)]
      rw [elect_err hil h0 (by rw [e1]; decide), e1]
      (refine aend_retc ?_ rfl ?_ ?_ ?_ ?_; (focus (first | exact .inl rfl | exact .inr rfl)); (focus ((try simp (disch := omega) only [go_sem, wrap_n, three]) <;> (try omega) <;> fail)); (focus ((try simp (disch := omega) only [go_sem, wrap_n, three]) <;> (try omega) <;> fail)); (focus ((try simp (disch := omega) only [go_sem, wrap_n, three]) <;> (try omega) <;> fail)); (try simp (disch := omega) only [go_sem, wrap_n, three, I, B, S, AV.d.injEq, DV.int.injEq, DV.bool.injEq, DV.str.injEq, DV.sl.injEq, AV.tup.injEq, AV.agg.injEq, List.cons.injEq, and_true, true_and, and_self]))
    · refine ⟨k + 1, ⟨by omega, fun j hj => ?_⟩, by omega, ?_⟩
      · by_cases e : j = k
        · subst e; exact hc
        · exact hk2 j (by omega)
      (refine SImp.same ?_; simp (disch := omega) only [go_sem, wrap_n, Int.natCast_add, true_and])
    · have e : k = i := by omega
      subst e
      have e1 : errAt l k = 3 := by
        unfold errAt; rw [if_neg (by rw [twice_no hil hk2]; simp), if_pos]
        simp only [badPeer, Bool.or_eq_true, decide_eq_true_eq]; omega
      rw [elect_err hil h0 (by rw [e1]; decide), e1]
      (refine aend_retc ?_ rfl ?_ ?_ ?_ ?_; (focus (first | exact .inl rfl | exact .inr rfl)); (focus ((try simp (disch := omega) only [go_sem, wrap_n, three]) <;> (try omega) <;> fail)); (focus ((try simp (disch := omega) only [go_sem, wrap_n, three]) <;> (try omega) <;> fail)); (focus ((try simp (disch := omega) only [go_sem, wrap_n, three]) <;> (try omega) <;> fail)); (try simp (disch := omega) only [go_sem, wrap_n, three, I, B, S, AV.d.injEq, DV.int.injEq, DV.bool.injEq, DV.str.injEq, DV.sl.injEq, AV.tup.injEq, AV.agg.injEq, List.cons.injEq, and_true, true_and, and_self]))
    · have e : k = i := by omega
      subst e
      have e1 : errAt l k = 0 := by
        unfold errAt; rw [if_neg (by rw [twice_no hil hk2]; simp), if_neg]
        simp only [badPeer, Bool.or_eq_true, decide_eq_true_eq]; omega
      refine ⟨k + 1, ⟨by omega, by simp only [firstErr]; rw [if_pos h0]; exact e1⟩, by omega, ?_⟩
      (refine SImp.frame [] rfl (by intro k hk; simp at hk <;> (simp; omega)) (by decide) (fun k hk => by omega) ?_ ?_ <;> simp (disch := omega) only [go_sem, wrap_n, Int.natCast_add, true_and] <;> (try rfl))
  all_goals (have e : i = l.length := by omega
             subst e)
  · unfold electP
    rw [if_pos h0, if_pos (by omega)]
    (refine aend_retc ?_ rfl ?_ ?_ ?_ ?_; (focus (first | exact .inl rfl | exact .inr rfl)); (focus ((try simp (disch := omega) only [go_sem, wrap_n, three]) <;> (try omega) <;> fail)); (focus ((try simp (disch := omega) only [go_sem, wrap_n, three]) <;> (try omega) <;> fail)); (focus ((try simp (disch := omega) only [go_sem, wrap_n, three]) <;> (try omega) <;> fail)); (try simp (disch := omega) only [go_sem, wrap_n, three, I, B, S, AV.d.injEq, DV.int.injEq, DV.bool.injEq, DV.str.injEq, DV.sl.injEq, AV.tup.injEq, AV.agg.injEq, List.cons.injEq, and_true, true_and, and_self]))
  · have hl2 := hc
    refine AWP.loopB (ι := Nat) (fun n => n ≤ l.length) (fun n => l.length - n) [0, 56, 57] (fun n => [(8, I (bestE l n).1), (9, I (bestE l n).2), (58, I n)]) (fun n => []) 0 ?_ ?_ ?_
    · omega
    · simp only [go_sem]; (refine SImp.frame [] rfl (by intro k hk; simp at hk <;> (simp; omega)) (by decide) (fun k hk => by omega) ?_ ?_ <;> simp (disch := omega) only [go_sem, wrap_n, Int.natCast_add, bestE] <;> (try rfl))
    intro n hn
    obtain ⟨b1, b2, b3⟩ := best_bnd n (firstErr_zero h0 hn)
    have hb : (bestE l n).1 < l.length := by omega
    have hlg := h2 _ (getD_mem l _ hb)
    simp only [go_sem]
    repeat' first
    | with_reducible refine AWP.seq ?_
    | with_reducible refine thenA_n ?_
    | with_reducible refine thenA_r ?_
    | with_reducible refine thenA_e ?_
    | with_reducible refine blkA_n ?_
    | with_reducible refine blkA_r ?_
    | with_reducible refine blkA_e ?_
    | with_reducible refine blkA_x (by decide) ?_
    | with_reducible refine AWP.skip ?_
    | with_reducible refine AWP.ret ?_
    | with_reducible refine AWP.exit ?_
    | with_reducible refine AWP.block ?_
    | (with_reducible refine AWP.cond rfl ?_ ?_ <;> intro hc <;> (try simp only [decide_eq_true_eq, decide_eq_false_iff_not, Bool.and_eq_true, Bool.or_eq_true, Bool.or_eq_false_iff, Bool.and_eq_false_iff, Bool.not_eq_true', Bool.not_eq_false', Bool.true_eq_false, Bool.false_eq_true, Bool.not_eq_true, Bool.not_eq_false, Int.not_lt, Int.not_le, Nat.not_lt, Nat.not_le, Int.ofNat_lt, Int.ofNat_le, Int.natCast_eq_zero, not_true_eq_false, not_false_eq_true, beq_iff_eq, Bool.not_true, Bool.not_false, ge_iff_le, gt_iff_lt] at hc))
    | ((first | with_reducible refine AWP.region tabOk ?_ | with_reducible refine AWP.quiet mixed tabOk (by kernel_rfl) ?_ | with_reducible refine AWP.draw mixed tabOk (by kernel_rfl) ?_); intro K hK; ((try simp (disch := omega) only [go_sem, wrap_n, getD_row]) <;> (repeat' with_reducible refine And.intro ?_ ?_) <;> (try (with_reducible refine hK _ ?_; clear hK K))))
    | ((first | (with_reducible refine aunder_i ?_ ?_ <;> intro hg) | with_reducible intro hg) <;> (first | (exfalso; simp at hg; done) | (have hg' := hg; (try simp only [decide_eq_true_eq, decide_eq_false_iff_not, Bool.and_eq_true, Bool.or_eq_true, Bool.or_eq_false_iff, Bool.and_eq_false_iff, Bool.not_eq_true', Bool.not_eq_false', Bool.true_eq_false, Bool.false_eq_true, Bool.not_eq_true, Bool.not_eq_false, Int.not_lt, Int.not_le, Nat.not_lt, Nat.not_le, Int.ofNat_lt, Int.ofNat_le, Int.natCast_eq_zero, not_true_eq_false, not_false_eq_true, beq_iff_eq, Bool.not_true, Bool.not_false, ge_iff_le, gt_iff_lt] at hg'); ((try simp (disch := omega) only [hg, go_sem, wrap_n, getD_row]) <;> (repeat' with_reducible refine And.intro ?_ ?_) <;> (try (with_reducible refine hK _ ?_; clear hK K))))))
                                                            | omega
    · have hlg2 := h2 _ (getD_mem l _ hc)
      have := ep_bnd (lastZ (l.getD n default).log)
      have w1 := zlast_ok _ (hw _ (getD_mem l _ hc))
      have hbb : (0:Int) ≤ ((bestE l n).1 : Int) := by omega
      repeat' first
    | with_reducible refine AWP.seq ?_
    | with_reducible refine thenA_n ?_
    | with_reducible refine thenA_r ?_
    | with_reducible refine thenA_e ?_
    | with_reducible refine blkA_n ?_
    | with_reducible refine blkA_r ?_
    | with_reducible refine blkA_e ?_
    | with_reducible refine blkA_x (by decide) ?_
    | with_reducible refine AWP.skip ?_
    | with_reducible refine AWP.ret ?_
    | with_reducible refine AWP.exit ?_
    | with_reducible refine AWP.block ?_
    | (with_reducible refine AWP.cond rfl ?_ ?_ <;> intro hc <;> (try simp only [decide_eq_true_eq, decide_eq_false_iff_not, Bool.and_eq_true, Bool.or_eq_true, Bool.or_eq_false_iff, Bool.and_eq_false_iff, Bool.not_eq_true', Bool.not_eq_false', Bool.true_eq_false, Bool.false_eq_true, Bool.not_eq_true, Bool.not_eq_false, Int.not_lt, Int.not_le, Nat.not_lt, Nat.not_le, Int.ofNat_lt, Int.ofNat_le, Int.natCast_eq_zero, not_true_eq_false, not_false_eq_true, beq_iff_eq, Bool.not_true, Bool.not_false, ge_iff_le, gt_iff_lt] at hc))
    | ((first | with_reducible refine AWP.region tabOk ?_ | with_reducible refine AWP.quiet mixed tabOk (by kernel_rfl) ?_ | with_reducible refine AWP.draw mixed tabOk (by kernel_rfl) ?_); intro K hK; ((try simp (disch := omega) only [go_sem, wrap_n, getD_row]) <;> (repeat' with_reducible refine And.intro ?_ ?_) <;> (try (with_reducible refine hK _ ?_; clear hK K))))
    | ((first | refine acallH_sc (ref_last_c _ hlg2) rfl rfl ?_ ?_ ?_ | refine acallH_sc (ref_last_c _ hlg) rfl rfl ?_ ?_ ?_ | refine acallH_sc (ref_epoch_c _ w1) rfl rfl ?_ ?_ ?_); (focus ((try simp (disch := omega) only [go_sem, wrap_n, getD_row]) <;> (try omega) <;> fail)); (focus ((try simp (disch := omega) only [go_sem, wrap_n, getD_row]) <;> (try omega) <;> fail)); ((try simp (disch := omega) only [go_sem, wrap_n, getD_row]) <;> (repeat' with_reducible refine And.intro ?_ ?_) <;> (try (with_reducible refine hK _ ?_; clear hK K))))
    | ((first | refine acallQ_sc (ref_last_c _ hlg2) rfl rfl ?_ ?_ ?_ | refine acallQ_sc (ref_last_c _ hlg) rfl rfl ?_ ?_ ?_ | refine acallQ_sc (ref_epoch_c _ w1) rfl rfl ?_ ?_ ?_); (focus ((try simp (disch := omega) only [go_sem, wrap_n, getD_row]) <;> (try omega) <;> fail)); (focus ((try simp (disch := omega) only [go_sem, wrap_n, getD_row]) <;> (try omega) <;> fail)); ((try simp (disch := omega) only [go_sem, wrap_n, getD_row]) <;> (repeat' with_reducible refine And.intro ?_ ?_) <;> (try (with_reducible refine hK _ ?_; clear hK K))))
    | ((first | refine acallH_anyr (ref_last_c _ hlg2) rfl ?_ ?_ | refine acallH_anyr (ref_last_c _ hlg) rfl ?_ ?_ | refine acallH_anyr (ref_epoch_c _ w1) rfl ?_ ?_); (focus ((try simp (disch := omega) only [go_sem, wrap_n, getD_row]) <;> (try omega) <;> fail)); ((try simp (disch := omega) only [go_sem, wrap_n, getD_row]) <;> (repeat' with_reducible refine And.intro ?_ ?_) <;> (try (with_reducible refine hK _ ?_; clear hK K))))
    | ((first | refine acallH_scx (ref_last_c _ hlg2) rfl ?_ ?_ | refine acallQ_scx (ref_last_c _ hlg2) rfl ?_ ?_ | refine acallH_anyx (ref_last_c _ hlg2) ?_ ?_); (focus ((try simp (disch := omega) only [go_sem, wrap_n, getD_row]) <;> (try omega) <;> fail)); ((try simp (disch := omega) only [go_sem, wrap_n, getD_row]) <;> (repeat' with_reducible refine And.intro ?_ ?_) <;> (try (with_reducible refine hK _ ?_; clear hK K))))
    | ((first | refine acallH_scx (ref_last_c _ hlg) rfl ?_ ?_ | refine acallQ_scx (ref_last_c _ hlg) rfl ?_ ?_ | refine acallH_anyx (ref_last_c _ hlg) ?_ ?_); (focus ((try simp (disch := omega) only [go_sem, wrap_n, getD_row]) <;> (try omega) <;> fail)); ((try simp (disch := omega) only [go_sem, wrap_n, getD_row]) <;> (repeat' with_reducible refine And.intro ?_ ?_) <;> (try (with_reducible refine hK _ ?_; clear hK K))))
    | ((first | refine acallH_scx (ref_epoch_c _ w1) rfl ?_ ?_ | refine acallQ_scx (ref_epoch_c _ w1) rfl ?_ ?_ | refine acallH_anyx (ref_epoch_c _ w1) ?_ ?_); (focus ((try simp (disch := omega) only [go_sem, wrap_n, getD_row]) <;> (try omega) <;> fail)); ((try simp (disch := omega) only [go_sem, wrap_n, getD_row]) <;> (repeat' with_reducible refine And.intro ?_ ?_) <;> (try (with_reducible refine hK _ ?_; clear hK K))))
    | ((first | (with_reducible refine aunder_i ?_ ?_ <;> intro hg) | with_reducible intro hg) <;> (first | (exfalso; simp at hg; done) | (have hg' := hg; (try simp only [decide_eq_true_eq, decide_eq_false_iff_not, Bool.and_eq_true, Bool.or_eq_true, Bool.or_eq_false_iff, Bool.and_eq_false_iff, Bool.not_eq_true', Bool.not_eq_false', Bool.true_eq_false, Bool.false_eq_true, Bool.not_eq_true, Bool.not_eq_false, Int.not_lt, Int.not_le, Nat.not_lt, Nat.not_le, Int.ofNat_lt, Int.ofNat_le, Int.natCast_eq_zero, not_true_eq_false, not_false_eq_true, beq_iff_eq, Bool.not_true, Bool.not_false, ge_iff_le, gt_iff_lt] at hg'); ((try simp (disch := omega) only [hg, go_sem, wrap_n, getD_row]) <;> (repeat' with_reducible refine And.intro ?_ ?_) <;> (try (with_reducible refine hK _ ?_; clear hK K))))))
                                                            | omega
      all_goals refine ⟨n + 1, by omega, by omega, ?_⟩
      all_goals (cases ha : aheadP (l.getD n default) (l.getD (bestE l n).1 default))
      all_goals (have ha2 := ha; simp only [aheadP, Bool.or_eq_true, Bool.and_eq_true, decide_eq_true_eq, Bool.or_eq_false_iff, Bool.and_eq_false_iff, decide_eq_false_iff_not] at ha2)
      all_goals first
        | (exfalso; omega)
        | (refine SImp.frame [] rfl (by intro k hk; simp at hk <;> (simp; omega)) (by decide) (fun k hk => by omega) ?_ ?_ <;> simp (disch := omega) only [go_sem, wrap_n, Int.natCast_add, bestE, mx, ha, if_pos, if_neg] <;> (try rfl))
    · have e : n = l.length := by omega
      subst e
      unfold electP
      rw [if_pos h0, if_neg (by omega), if_pos (by omega)]
      (refine aend_retc ?_ rfl ?_ ?_ ?_ ?_; (focus (first | exact .inl rfl | exact .inr rfl)); (focus ((try simp (disch := omega) only [go_sem, wrap_n, three]) <;> (try omega) <;> fail)); (focus ((try simp (disch := omega) only [go_sem, wrap_n, three]) <;> (try omega) <;> fail)); (focus ((try simp (disch := omega) only [go_sem, wrap_n, three]) <;> (try omega) <;> fail)); (try simp (disch := omega) only [go_sem, wrap_n, three, I, B, S, AV.d.injEq, DV.int.injEq, DV.bool.injEq, DV.str.injEq, DV.sl.injEq, AV.tup.injEq, AV.agg.injEq, List.cons.injEq, and_true, true_and, and_self]))
    · have e : n = l.length := by omega
      subst e
      unfold electP
      rw [if_pos h0, if_neg (by omega), if_neg (by omega)]
      (refine aend_retc ?_ rfl ?_ ?_ ?_ ?_; (focus (first | exact .inl rfl | exact .inr rfl)); (focus ((try simp (disch := omega) only [go_sem, wrap_n, three]) <;> (try omega) <;> fail)); (focus ((try simp (disch := omega) only [go_sem, wrap_n, three]) <;> (try omega) <;> fail)); (focus ((try simp (disch := omega) only [go_sem, wrap_n, three]) <;> (try omega) <;> fail)); (try simp (disch := omega) only [go_sem, wrap_n, three, I, B, S, AV.d.injEq, DV.int.injEq, DV.bool.injEq, DV.str.injEq, DV.sl.injEq, AV.tup.injEq, AV.agg.injEq, List.cons.injEq, and_true, true_and, and_self]))

theorem zabElects_b (l : List APeer) (h : l.length * 48 ≤ 140737488351232) (h2 : ∀ p, p ∈ l → p.wf) : acall Try.prog [] 9 [.d (.sl 4 (l.map APeer.row))] (ret (B true)) := by
  have a1 : l.length ≤ 140737488351232 := by omega
  have a2 : ∀ p, p ∈ l → p.log.length * 72 ≤ 140737488351232 := fun p hp => (h2 p hp).2.2.1.1
  have a3 : ∀ p, p ∈ l → p.log.length ≤ 140737488351232 := fun p hp => by have := a2 p hp; omega
  have a4 : ∀ p, p ∈ l → ∀ x, x ∈ p.log → x.wf := fun p hp => (h2 p hp).2.2.1.2
  refine acall_of tabOk Try.func9 rfl (by kernel_rfl) (by simp [Try.ntmps9]) ?_
  simp only [Try.ntmps9, Try.results9, List.toList_toArray, apar, List.length_nil, List.length_cons, Nat.reduceAdd]
  repeat' first
    | with_reducible refine AWP.seq ?_
    | with_reducible refine thenA_n ?_
    | with_reducible refine thenA_r ?_
    | with_reducible refine thenA_e ?_
    | with_reducible refine blkA_n ?_
    | with_reducible refine blkA_r ?_
    | with_reducible refine blkA_e ?_
    | with_reducible refine blkA_x (by decide) ?_
    | with_reducible refine AWP.skip ?_
    | with_reducible refine AWP.ret ?_
    | with_reducible refine AWP.exit ?_
    | with_reducible refine AWP.block ?_
    | (with_reducible refine AWP.cond rfl ?_ ?_ <;> intro hc <;> (try simp only [decide_eq_true_eq, decide_eq_false_iff_not, Bool.and_eq_true, Bool.or_eq_true, Bool.or_eq_false_iff, Bool.and_eq_false_iff, Bool.not_eq_true', Bool.not_eq_false', Bool.true_eq_false, Bool.false_eq_true, Bool.not_eq_true, Bool.not_eq_false, Int.not_lt, Int.not_le, Nat.not_lt, Nat.not_le, Int.ofNat_lt, Int.ofNat_le, Int.natCast_eq_zero, not_true_eq_false, not_false_eq_true, beq_iff_eq, Bool.not_true, Bool.not_false, ge_iff_le, gt_iff_lt] at hc))
    | ((first | with_reducible refine AWP.region tabOk ?_ | with_reducible refine AWP.quiet mixed tabOk (by kernel_rfl) ?_ | with_reducible refine AWP.draw mixed tabOk (by kernel_rfl) ?_); intro K hK; ((try simp (disch := omega) only [go_sem, wrap_n, three]) <;> (repeat' with_reducible refine And.intro ?_ ?_) <;> (try (with_reducible refine hK _ ?_; clear hK K))))
    | ((first | refine acallH_sc (peers_c l h a2) rfl rfl ?_ ?_ ?_ | refine acallH_sc (elect_c l a1 a3) rfl rfl ?_ ?_ ?_ | refine acallH_sc (ref_elect_c l a1 a3 a4) rfl rfl ?_ ?_ ?_ | refine acallH_sc (elect_c [⟨0, 0, [], 0⟩, ⟨1, 0, [], 0⟩] (by decide) (by intro p hp; simp at hp; rcases hp with rfl | rfl <;> simp)) rfl rfl ?_ ?_ ?_ | refine acallH_sc (quorum_c) rfl rfl ?_ ?_ ?_); (focus ((try simp (disch := omega) only [go_sem, wrap_n, three]) <;> (try omega) <;> fail)); (focus ((try simp (disch := omega) only [go_sem, wrap_n, three]) <;> (try omega) <;> fail)); ((try simp (disch := omega) only [go_sem, wrap_n, three]) <;> (repeat' with_reducible refine And.intro ?_ ?_) <;> (try (with_reducible refine hK _ ?_; clear hK K))))
    | ((first | refine acallQ_sc (peers_c l h a2) rfl rfl ?_ ?_ ?_ | refine acallQ_sc (elect_c l a1 a3) rfl rfl ?_ ?_ ?_ | refine acallQ_sc (ref_elect_c l a1 a3 a4) rfl rfl ?_ ?_ ?_ | refine acallQ_sc (elect_c [⟨0, 0, [], 0⟩, ⟨1, 0, [], 0⟩] (by decide) (by intro p hp; simp at hp; rcases hp with rfl | rfl <;> simp)) rfl rfl ?_ ?_ ?_ | refine acallQ_sc (quorum_c) rfl rfl ?_ ?_ ?_); (focus ((try simp (disch := omega) only [go_sem, wrap_n, three]) <;> (try omega) <;> fail)); (focus ((try simp (disch := omega) only [go_sem, wrap_n, three]) <;> (try omega) <;> fail)); ((try simp (disch := omega) only [go_sem, wrap_n, three]) <;> (repeat' with_reducible refine And.intro ?_ ?_) <;> (try (with_reducible refine hK _ ?_; clear hK K))))
    | ((first | refine acallH_anyr (peers_c l h a2) rfl ?_ ?_ | refine acallH_anyr (elect_c l a1 a3) rfl ?_ ?_ | refine acallH_anyr (ref_elect_c l a1 a3 a4) rfl ?_ ?_ | refine acallH_anyr (elect_c [⟨0, 0, [], 0⟩, ⟨1, 0, [], 0⟩] (by decide) (by intro p hp; simp at hp; rcases hp with rfl | rfl <;> simp)) rfl ?_ ?_ | refine acallH_anyr (quorum_c) rfl ?_ ?_); (focus ((try simp (disch := omega) only [go_sem, wrap_n, three]) <;> (try omega) <;> fail)); ((try simp (disch := omega) only [go_sem, wrap_n, three]) <;> (repeat' with_reducible refine And.intro ?_ ?_) <;> (try (with_reducible refine hK _ ?_; clear hK K))))
    | ((first | refine acallH_scx (peers_c l h a2) rfl ?_ ?_ | refine acallQ_scx (peers_c l h a2) rfl ?_ ?_ | refine acallH_anyx (peers_c l h a2) ?_ ?_); (focus ((try simp (disch := omega) only [go_sem, wrap_n, three]) <;> (try omega) <;> fail)); ((try simp (disch := omega) only [go_sem, wrap_n, three]) <;> (repeat' with_reducible refine And.intro ?_ ?_) <;> (try (with_reducible refine hK _ ?_; clear hK K))))
    | ((first | refine acallH_scx (elect_c l a1 a3) rfl ?_ ?_ | refine acallQ_scx (elect_c l a1 a3) rfl ?_ ?_ | refine acallH_anyx (elect_c l a1 a3) ?_ ?_); (focus ((try simp (disch := omega) only [go_sem, wrap_n, three]) <;> (try omega) <;> fail)); ((try simp (disch := omega) only [go_sem, wrap_n, three]) <;> (repeat' with_reducible refine And.intro ?_ ?_) <;> (try (with_reducible refine hK _ ?_; clear hK K))))
    | ((first | refine acallH_scx (ref_elect_c l a1 a3 a4) rfl ?_ ?_ | refine acallQ_scx (ref_elect_c l a1 a3 a4) rfl ?_ ?_ | refine acallH_anyx (ref_elect_c l a1 a3 a4) ?_ ?_); (focus ((try simp (disch := omega) only [go_sem, wrap_n, three]) <;> (try omega) <;> fail)); ((try simp (disch := omega) only [go_sem, wrap_n, three]) <;> (repeat' with_reducible refine And.intro ?_ ?_) <;> (try (with_reducible refine hK _ ?_; clear hK K))))
    | ((first | refine acallH_scx (elect_c [⟨0, 0, [], 0⟩, ⟨1, 0, [], 0⟩] (by decide) (by intro p hp; simp at hp; rcases hp with rfl | rfl <;> simp)) rfl ?_ ?_ | refine acallQ_scx (elect_c [⟨0, 0, [], 0⟩, ⟨1, 0, [], 0⟩] (by decide) (by intro p hp; simp at hp; rcases hp with rfl | rfl <;> simp)) rfl ?_ ?_ | refine acallH_anyx (elect_c [⟨0, 0, [], 0⟩, ⟨1, 0, [], 0⟩] (by decide) (by intro p hp; simp at hp; rcases hp with rfl | rfl <;> simp)) ?_ ?_); (focus ((try simp (disch := omega) only [go_sem, wrap_n, three]) <;> (try omega) <;> fail)); ((try simp (disch := omega) only [go_sem, wrap_n, three]) <;> (repeat' with_reducible refine And.intro ?_ ?_) <;> (try (with_reducible refine hK _ ?_; clear hK K))))
    | ((first | refine acallH_scx (quorum_c) rfl ?_ ?_ | refine acallQ_scx (quorum_c) rfl ?_ ?_ | refine acallH_anyx (quorum_c) ?_ ?_); (focus ((try simp (disch := omega) only [go_sem, wrap_n, three]) <;> (try omega) <;> fail)); ((try simp (disch := omega) only [go_sem, wrap_n, three]) <;> (repeat' with_reducible refine And.intro ?_ ?_) <;> (try (with_reducible refine hK _ ?_; clear hK K))))
    | ((first | (with_reducible refine aunder_i ?_ ?_ <;> intro hg) | with_reducible intro hg) <;> (first | (exfalso; simp at hg; done) | (have hg' := hg; (try simp only [decide_eq_true_eq, decide_eq_false_iff_not, Bool.and_eq_true, Bool.or_eq_true, Bool.or_eq_false_iff, Bool.and_eq_false_iff, Bool.not_eq_true', Bool.not_eq_false', Bool.true_eq_false, Bool.false_eq_true, Bool.not_eq_true, Bool.not_eq_false, Int.not_lt, Int.not_le, Nat.not_lt, Nat.not_le, Int.ofNat_lt, Int.ofNat_le, Int.natCast_eq_zero, not_true_eq_false, not_false_eq_true, beq_iff_eq, Bool.not_true, Bool.not_false, ge_iff_le, gt_iff_lt] at hg'); ((try simp (disch := omega) only [hg, go_sem, wrap_n, three]) <;> (repeat' with_reducible refine And.intro ?_ ?_) <;> (try (with_reducible refine hK _ ?_; clear hK K))))))
                                                            | omega
  · (refine aend_retc ?_ rfl ?_ ?_ ?_ ?_; (focus (first | exact .inl rfl | exact .inr rfl)); (focus ((try simp (disch := omega) only [go_sem, wrap_n, true_and]) <;> (try omega) <;> fail)); (focus ((try simp (disch := omega) only [go_sem, wrap_n, true_and]) <;> (try omega) <;> fail)); (focus ((try simp (disch := omega) only [go_sem, wrap_n, true_and]) <;> (try omega) <;> fail)); (try simp (disch := omega) only [go_sem, wrap_n, true_and, I, B, S, AV.d.injEq, DV.int.injEq, DV.bool.injEq, DV.str.injEq, DV.sl.injEq, AV.tup.injEq, AV.agg.injEq, List.cons.injEq, and_true, true_and, and_self]))
  · revert hg; decide

theorem zabNexts_b (p : APeer) (h : p.wf) : acall Try.prog [] 10 [p.av] (ret (B true)) := by
  have a2 : p.log.length * 72 ≤ 140737488351232 := h.2.2.1.1
  have a3 : p.log.length ≤ 140737488351232 := by omega
  have a4 : ∀ q, q ∈ [p] → q.log.length * 72 ≤ 140737488351232 := by intro q hq; simp at hq; subst hq; exact a2
  refine acall_of tabOk Try.func10 rfl (by kernel_rfl) (by simp [Try.ntmps10]) ?_
  simp only [Try.ntmps10, Try.results10, List.toList_toArray, apar, List.length_nil, List.length_cons, Nat.reduceAdd]
  repeat' first
    | with_reducible refine AWP.seq ?_
    | with_reducible refine thenA_n ?_
    | with_reducible refine thenA_r ?_
    | with_reducible refine thenA_e ?_
    | with_reducible refine blkA_n ?_
    | with_reducible refine blkA_r ?_
    | with_reducible refine blkA_e ?_
    | with_reducible refine blkA_x (by decide) ?_
    | with_reducible refine AWP.skip ?_
    | with_reducible refine AWP.ret ?_
    | with_reducible refine AWP.exit ?_
    | with_reducible refine AWP.block ?_
    | (with_reducible refine AWP.cond rfl ?_ ?_ <;> intro hc <;> (try simp only [decide_eq_true_eq, decide_eq_false_iff_not, Bool.and_eq_true, Bool.or_eq_true, Bool.or_eq_false_iff, Bool.and_eq_false_iff, Bool.not_eq_true', Bool.not_eq_false', Bool.true_eq_false, Bool.false_eq_true, Bool.not_eq_true, Bool.not_eq_false, Int.not_lt, Int.not_le, Nat.not_lt, Nat.not_le, Int.ofNat_lt, Int.ofNat_le, Int.natCast_eq_zero, not_true_eq_false, not_false_eq_true, beq_iff_eq, Bool.not_true, Bool.not_false, ge_iff_le, gt_iff_lt] at hc))
    | ((first | with_reducible refine AWP.region tabOk ?_ | with_reducible refine AWP.quiet mixed tabOk (by kernel_rfl) ?_ | with_reducible refine AWP.draw mixed tabOk (by kernel_rfl) ?_); intro K hK; ((try simp (disch := omega) only [go_sem, wrap_n, true_and]) <;> (repeat' with_reducible refine And.intro ?_ ?_) <;> (try (with_reducible refine hK _ ?_; clear hK K))))
    | ((first | refine acallH_sc (peers_c [p] (by simp) a4) rfl rfl ?_ ?_ ?_ | refine acallH_sc (zab_next_c p a3) rfl rfl ?_ ?_ ?_ | refine acallH_sc (ref_zab_next_c p a3 h.2.2.1.2) rfl rfl ?_ ?_ ?_ | refine acallH_sc (zab_next_c ⟨0, 0, [], 0⟩ (by decide)) rfl rfl ?_ ?_ ?_); (focus ((try simp (disch := omega) only [go_sem, wrap_n, true_and]) <;> (try omega) <;> fail)); (focus ((try simp (disch := omega) only [go_sem, wrap_n, true_and]) <;> (try omega) <;> fail)); ((try simp (disch := omega) only [go_sem, wrap_n, true_and]) <;> (repeat' with_reducible refine And.intro ?_ ?_) <;> (try (with_reducible refine hK _ ?_; clear hK K))))
    | ((first | refine acallQ_sc (peers_c [p] (by simp) a4) rfl rfl ?_ ?_ ?_ | refine acallQ_sc (zab_next_c p a3) rfl rfl ?_ ?_ ?_ | refine acallQ_sc (ref_zab_next_c p a3 h.2.2.1.2) rfl rfl ?_ ?_ ?_ | refine acallQ_sc (zab_next_c ⟨0, 0, [], 0⟩ (by decide)) rfl rfl ?_ ?_ ?_); (focus ((try simp (disch := omega) only [go_sem, wrap_n, true_and]) <;> (try omega) <;> fail)); (focus ((try simp (disch := omega) only [go_sem, wrap_n, true_and]) <;> (try omega) <;> fail)); ((try simp (disch := omega) only [go_sem, wrap_n, true_and]) <;> (repeat' with_reducible refine And.intro ?_ ?_) <;> (try (with_reducible refine hK _ ?_; clear hK K))))
    | ((first | refine acallH_anyr (peers_c [p] (by simp) a4) rfl ?_ ?_ | refine acallH_anyr (zab_next_c p a3) rfl ?_ ?_ | refine acallH_anyr (ref_zab_next_c p a3 h.2.2.1.2) rfl ?_ ?_ | refine acallH_anyr (zab_next_c ⟨0, 0, [], 0⟩ (by decide)) rfl ?_ ?_); (focus ((try simp (disch := omega) only [go_sem, wrap_n, true_and]) <;> (try omega) <;> fail)); ((try simp (disch := omega) only [go_sem, wrap_n, true_and]) <;> (repeat' with_reducible refine And.intro ?_ ?_) <;> (try (with_reducible refine hK _ ?_; clear hK K))))
    | ((first | refine acallH_scx (peers_c [p] (by simp) a4) rfl ?_ ?_ | refine acallQ_scx (peers_c [p] (by simp) a4) rfl ?_ ?_ | refine acallH_anyx (peers_c [p] (by simp) a4) ?_ ?_); (focus ((try simp (disch := omega) only [go_sem, wrap_n, true_and]) <;> (try omega) <;> fail)); ((try simp (disch := omega) only [go_sem, wrap_n, true_and]) <;> (repeat' with_reducible refine And.intro ?_ ?_) <;> (try (with_reducible refine hK _ ?_; clear hK K))))
    | ((first | refine acallH_scx (zab_next_c p a3) rfl ?_ ?_ | refine acallQ_scx (zab_next_c p a3) rfl ?_ ?_ | refine acallH_anyx (zab_next_c p a3) ?_ ?_); (focus ((try simp (disch := omega) only [go_sem, wrap_n, true_and]) <;> (try omega) <;> fail)); ((try simp (disch := omega) only [go_sem, wrap_n, true_and]) <;> (repeat' with_reducible refine And.intro ?_ ?_) <;> (try (with_reducible refine hK _ ?_; clear hK K))))
    | ((first | refine acallH_scx (ref_zab_next_c p a3 h.2.2.1.2) rfl ?_ ?_ | refine acallQ_scx (ref_zab_next_c p a3 h.2.2.1.2) rfl ?_ ?_ | refine acallH_anyx (ref_zab_next_c p a3 h.2.2.1.2) ?_ ?_); (focus ((try simp (disch := omega) only [go_sem, wrap_n, true_and]) <;> (try omega) <;> fail)); ((try simp (disch := omega) only [go_sem, wrap_n, true_and]) <;> (repeat' with_reducible refine And.intro ?_ ?_) <;> (try (with_reducible refine hK _ ?_; clear hK K))))
    | ((first | refine acallH_scx (zab_next_c ⟨0, 0, [], 0⟩ (by decide)) rfl ?_ ?_ | refine acallQ_scx (zab_next_c ⟨0, 0, [], 0⟩ (by decide)) rfl ?_ ?_ | refine acallH_anyx (zab_next_c ⟨0, 0, [], 0⟩ (by decide)) ?_ ?_); (focus ((try simp (disch := omega) only [go_sem, wrap_n, true_and]) <;> (try omega) <;> fail)); ((try simp (disch := omega) only [go_sem, wrap_n, true_and]) <;> (repeat' with_reducible refine And.intro ?_ ?_) <;> (try (with_reducible refine hK _ ?_; clear hK K))))
    | ((first | (with_reducible refine aunder_i ?_ ?_ <;> intro hg) | with_reducible intro hg) <;> (first | (exfalso; simp at hg; done) | (have hg' := hg; (try simp only [decide_eq_true_eq, decide_eq_false_iff_not, Bool.and_eq_true, Bool.or_eq_true, Bool.or_eq_false_iff, Bool.and_eq_false_iff, Bool.not_eq_true', Bool.not_eq_false', Bool.true_eq_false, Bool.false_eq_true, Bool.not_eq_true, Bool.not_eq_false, Int.not_lt, Int.not_le, Nat.not_lt, Nat.not_le, Int.ofNat_lt, Int.ofNat_le, Int.natCast_eq_zero, not_true_eq_false, not_false_eq_true, beq_iff_eq, Bool.not_true, Bool.not_false, ge_iff_le, gt_iff_lt] at hg'); ((try simp (disch := omega) only [hg, go_sem, wrap_n, true_and]) <;> (repeat' with_reducible refine And.intro ?_ ?_) <;> (try (with_reducible refine hK _ ?_; clear hK K))))))
                                                            | omega
  (refine aend_retc ?_ rfl ?_ ?_ ?_ ?_; (focus (first | exact .inl rfl | exact .inr rfl)); (focus ((try simp (disch := omega) only [go_sem, wrap_n, true_and]) <;> (try omega) <;> fail)); (focus ((try simp (disch := omega) only [go_sem, wrap_n, true_and]) <;> (try omega) <;> fail)); (focus ((try simp (disch := omega) only [go_sem, wrap_n, true_and]) <;> (try omega) <;> fail)); (try simp (disch := omega) only [go_sem, wrap_n, true_and, I, B, S, AV.d.injEq, DV.int.injEq, DV.bool.injEq, DV.str.injEq, DV.sl.injEq, AV.tup.injEq, AV.agg.injEq, List.cons.injEq, and_true, true_and, and_self]))
  decide
theorem zabElects_c (dss : List (List DV)) (h : typeds T 6 Try.f9.params.toList dss) : acall Try.prog [] 9 (aargs T Try.f9.params.toList dss) (fun v _ => v = B true) := by
  rw [Try.params9] at h ⊢
  simp only [List.toList_toArray, typeds] at h
  obtain ⟨c0, d0, rfl, h0, rfl⟩ := h
  obtain ⟨l, rfl, v_l, w_l⟩ := ty_sl (m := 5) (e := 55) (sz := 4) (by_ := 48) (f := APeer.row) (wf := APeer.wf) (by simp only [T_50, ty50]) (by simp only [T_55, ty55]) (by simp only [T_55, ty55]) (fun r hr => APeer_typed (m := 1) hr) h0
  simp only [List.toList_toArray, aargs, aarg, TI.agg_mk, T_50, ty50]
  exact (zabElects_b l v_l w_l).mono fun _ _ h => h.1
theorem zabNexts_c (dss : List (List DV)) (h : typeds T 6 Try.f10.params.toList dss) : acall Try.prog [] 10 (aargs T Try.f10.params.toList dss) (fun v _ => v = B true) := by
  rw [Try.params10] at h ⊢
  simp only [List.toList_toArray, typeds] at h
  obtain ⟨c0, d0, rfl, h0, rfl⟩ := h
  obtain ⟨p, rfl, w_p⟩ := APeer_typed (m := 2) h0
  simp only [List.toList_toArray, aargs, aarg, TI.agg_mk, T_55, ty55]
  exact (zabNexts_b p w_p).mono fun _ _ h => h.1
end Go.Proofs.Ytplgghpnijmllaa
