/- Contracts of wal.Scan, wal.Last and their references. No condition. -/
import Derived.Test.YtecbkeddfjalcaaDoorWv
import Derived.Test.YtecbkeddfjalcaaDoorWe
namespace Go.Proofs.YtecbkeddfjalcaaDoor
set_option linter.unusedVariables false
set_option linter.unusedSimpArgs false
open Go Go.RowKit
set_option maxRecDepth 100000

def lastZ (l : List ATxn) : Int := if l = [] then 0 else (l.getD (l.length - 1) default).zxid
theorem lastZ_nil : lastZ [] = 0 := rfl
theorem lastZ_pos {l : List ATxn} (h : 0 < l.length) : lastZ l = (l.getD (l.length - 1) default).zxid := by
  unfold lastZ; rw [if_neg (fun e => by rw [e] at h; exact absurd h (by decide))]
theorem lastZ_snoc (l : List ATxn) (t : ATxn) : lastZ (l ++ [t]) = t.zxid := by
  rw [lastZ_pos (by simp)]; simp
theorem last_c (l : List ATxn) (h : l.length * 72 ≤ 140737488351232) : acall Tryd.prog [] 55 [.d (.sl 7 (l.map ATxn.row))] (ret (I (lastZ l))) := by
  refine acall_of tabOk Tryd.func55 rfl (by kernel_rfl) (by simp [Tryd.ntmps55]) ?_; simp only [Tryd.ntmps55, Tryd.results55, List.toList_toArray, apar, List.length_nil, List.length_cons, Nat.reduceAdd]
  repeat' first
    | with_reducible refine AWP.seq ?_
    | with_reducible refine thenA_n ?_
    | with_reducible refine thenA_r ?_
    | with_reducible refine thenA_e ?_
    | with_reducible refine blkA_n ?_
    | with_reducible refine blkA_r ?_
    | with_reducible refine blkA_e ?_
    | with_reducible refine blkA_x (by decide) ?_
    | with_reducible refine AWP.skip ?_
    | with_reducible refine AWP.ret ?_
    | with_reducible refine AWP.exit ?_
    | with_reducible refine AWP.block ?_
    | (with_reducible refine AWP.cond rfl ?_ ?_ <;> intro hc <;> (try simp only [decide_eq_true_eq, decide_eq_false_iff_not, Bool.and_eq_true, Bool.or_eq_true, Bool.or_eq_false_iff, Bool.and_eq_false_iff, Bool.not_eq_true', Bool.not_eq_false', Bool.true_eq_false, Bool.false_eq_true, Bool.not_eq_true, Bool.not_eq_false, Int.not_lt, Int.not_le, Nat.not_lt, Nat.not_le, Int.ofNat_lt, Int.ofNat_le, Int.natCast_eq_zero, not_true_eq_false, not_false_eq_true, beq_iff_eq, Bool.not_true, Bool.not_false, ge_iff_le, gt_iff_lt] at hc))
    | ((first | with_reducible refine AWP.region tabOk ?_ | with_reducible refine AWP.quietC mixed tabOk (by decide +kernel) ?_ | with_reducible refine AWP.draw mixed tabOk (by decide +kernel) ?_ | with_reducible refine AWP.drawE mixed tabOk (by decide +kernel) ?_ | with_reducible refine AWP.drawG mixed tabOk (by decide +kernel) ?_); intro K hK; ((try simp (disch := omega) only [go_sem, wrap_n, ATxn.rgetD]) <;> (repeat' with_reducible refine And.intro ?_ ?_) <;> (try (with_reducible refine hK _ ?_; clear hK K))))
    | ((first | (with_reducible refine aunder_i ?_ ?_ <;> intro hg) | with_reducible intro hg) <;> (first | (exfalso; simp at hg; done) | (have hg' := hg; (try simp only [decide_eq_true_eq, decide_eq_false_iff_not, Bool.and_eq_true, Bool.or_eq_true, Bool.or_eq_false_iff, Bool.and_eq_false_iff, Bool.not_eq_true', Bool.not_eq_false', Bool.true_eq_false, Bool.false_eq_true, Bool.not_eq_true, Bool.not_eq_false, Int.not_lt, Int.not_le, Nat.not_lt, Nat.not_le, Int.ofNat_lt, Int.ofNat_le, Int.natCast_eq_zero, not_true_eq_false, not_false_eq_true, beq_iff_eq, Bool.not_true, Bool.not_false, ge_iff_le, gt_iff_lt] at hg'); ((try simp (disch := omega) only [hg, go_sem, wrap_n, ATxn.rgetD]) <;> (repeat' with_reducible refine And.intro ?_ ?_) <;> (try (with_reducible refine hK _ ?_; clear hK K))))))
                                                            | omega
  · have e : l = [] := List.eq_nil_of_length_eq_zero (by omega)
    rw [e, lastZ_nil]; (refine aend_retc ?_ rfl ?_ ?_ ?_ ?_; (focus (first | exact .inl rfl | exact .inr rfl)); (focus ((try simp (disch := omega) only [go_sem, wrap_n, true_and]) <;> (try omega) <;> fail)); (focus ((try simp (disch := omega) only [go_sem, wrap_n, true_and]) <;> (try omega) <;> fail)); (focus ((try simp (disch := omega) only [go_sem, wrap_n, true_and]) <;> (try omega) <;> fail)); (try simp (disch := omega) only [go_sem, wrap_n, true_and, I, B, S, AV.d.injEq, DV.int.injEq, DV.bool.injEq, DV.str.injEq, DV.sl.injEq, AV.tup.injEq, AV.agg.injEq, List.cons.injEq, and_true, true_and, and_self]))
  all_goals first | omega | skip
  rw [lastZ_pos (by omega)]
  have e : (((l.length : Int) - 1).toNat) = l.length - 1 := by omega
  (refine aend_retc ?_ rfl ?_ ?_ ?_ ?_; (focus (first | exact .inl rfl | exact .inr rfl)); (focus ((try simp (disch := omega) only [go_sem, wrap_n, ATxn.rgetD, e]) <;> (try omega) <;> fail)); (focus ((try simp (disch := omega) only [go_sem, wrap_n, ATxn.rgetD, e]) <;> (try omega) <;> fail)); (focus ((try simp (disch := omega) only [go_sem, wrap_n, ATxn.rgetD, e]) <;> (try omega) <;> fail)); (try simp (disch := omega) only [go_sem, wrap_n, ATxn.rgetD, e, I, B, S, AV.d.injEq, DV.int.injEq, DV.bool.injEq, DV.str.injEq, DV.sl.injEq, AV.tup.injEq, AV.agg.injEq, List.cons.injEq, and_true, true_and, and_self]))
  all_goals trace_state
theorem ref_last_c (l : List ATxn) (h : l.length * 72 ≤ 140737488351232) : acall Tryd.prog [] 56 [.d (.sl 7 (l.map ATxn.row))] (ret (I (lastZ l))) := by
  refine acall_of tabOk Tryd.func56 rfl (by kernel_rfl) (by simp [Tryd.ntmps56]) ?_; simp only [Tryd.ntmps56, Tryd.results56, List.toList_toArray, apar, List.length_nil, List.length_cons, Nat.reduceAdd]
  repeat' first
    | with_reducible refine AWP.seq ?_
    | with_reducible refine thenA_n ?_
    | with_reducible refine thenA_r ?_
    | with_reducible refine thenA_e ?_
    | with_reducible refine blkA_n ?_
    | with_reducible refine blkA_r ?_
    | with_reducible refine blkA_e ?_
    | with_reducible refine blkA_x (by decide) ?_
    | with_reducible refine AWP.skip ?_
    | with_reducible refine AWP.ret ?_
    | with_reducible refine AWP.exit ?_
    | with_reducible refine AWP.block ?_
    | (with_reducible refine AWP.cond rfl ?_ ?_ <;> intro hc <;> (try simp only [decide_eq_true_eq, decide_eq_false_iff_not, Bool.and_eq_true, Bool.or_eq_true, Bool.or_eq_false_iff, Bool.and_eq_false_iff, Bool.not_eq_true', Bool.not_eq_false', Bool.true_eq_false, Bool.false_eq_true, Bool.not_eq_true, Bool.not_eq_false, Int.not_lt, Int.not_le, Nat.not_lt, Nat.not_le, Int.ofNat_lt, Int.ofNat_le, Int.natCast_eq_zero, not_true_eq_false, not_false_eq_true, beq_iff_eq, Bool.not_true, Bool.not_false, ge_iff_le, gt_iff_lt] at hc))
    | ((first | with_reducible refine AWP.region tabOk ?_ | with_reducible refine AWP.quietC mixed tabOk (by decide +kernel) ?_ | with_reducible refine AWP.draw mixed tabOk (by decide +kernel) ?_ | with_reducible refine AWP.drawE mixed tabOk (by decide +kernel) ?_ | with_reducible refine AWP.drawG mixed tabOk (by decide +kernel) ?_); intro K hK; ((try simp (disch := omega) only [go_sem, wrap_n, true_and]) <;> (repeat' with_reducible refine And.intro ?_ ?_) <;> (try (with_reducible refine hK _ ?_; clear hK K))))
    | ((first | (with_reducible refine aunder_i ?_ ?_ <;> intro hg) | with_reducible intro hg) <;> (first | (exfalso; simp at hg; done) | (have hg' := hg; (try simp only [decide_eq_true_eq, decide_eq_false_iff_not, Bool.and_eq_true, Bool.or_eq_true, Bool.or_eq_false_iff, Bool.and_eq_false_iff, Bool.not_eq_true', Bool.not_eq_false', Bool.true_eq_false, Bool.false_eq_true, Bool.not_eq_true, Bool.not_eq_false, Int.not_lt, Int.not_le, Nat.not_lt, Nat.not_le, Int.ofNat_lt, Int.ofNat_le, Int.natCast_eq_zero, not_true_eq_false, not_false_eq_true, beq_iff_eq, Bool.not_true, Bool.not_false, ge_iff_le, gt_iff_lt] at hg'); ((try simp (disch := omega) only [hg, go_sem, wrap_n, true_and]) <;> (repeat' with_reducible refine And.intro ?_ ?_) <;> (try (with_reducible refine hK _ ?_; clear hK K))))))
                                                            | omega
  refine AWP.loopB (ι := Nat) (fun k => k ≤ l.length) (fun k => l.length - k) [6, 7] (fun k => [(8, I k), (3, I (lastZ (l.take k)))]) (fun k => []) 0 ?_ ?_ ?_
  · omega
  · simp only [go_sem, lastZ_nil]; (refine SImp.same ?_; simp (disch := omega) only [go_sem, wrap_n, Int.natCast_add, true_and])
  intro k hk
  simp only [go_sem]
  repeat' first
    | with_reducible refine AWP.seq ?_
    | with_reducible refine thenA_n ?_
    | with_reducible refine thenA_r ?_
    | with_reducible refine thenA_e ?_
    | with_reducible refine blkA_n ?_
    | with_reducible refine blkA_r ?_
    | with_reducible refine blkA_e ?_
    | with_reducible refine blkA_x (by decide) ?_
    | with_reducible refine AWP.skip ?_
    | with_reducible refine AWP.ret ?_
    | with_reducible refine AWP.exit ?_
    | with_reducible refine AWP.block ?_
    | (with_reducible refine AWP.cond rfl ?_ ?_ <;> intro hc <;> (try simp only [decide_eq_true_eq, decide_eq_false_iff_not, Bool.and_eq_true, Bool.or_eq_true, Bool.or_eq_false_iff, Bool.and_eq_false_iff, Bool.not_eq_true', Bool.not_eq_false', Bool.true_eq_false, Bool.false_eq_true, Bool.not_eq_true, Bool.not_eq_false, Int.not_lt, Int.not_le, Nat.not_lt, Nat.not_le, Int.ofNat_lt, Int.ofNat_le, Int.natCast_eq_zero, not_true_eq_false, not_false_eq_true, beq_iff_eq, Bool.not_true, Bool.not_false, ge_iff_le, gt_iff_lt] at hc))
    | ((first | with_reducible refine AWP.region tabOk ?_ | with_reducible refine AWP.quietC mixed tabOk (by decide +kernel) ?_ | with_reducible refine AWP.draw mixed tabOk (by decide +kernel) ?_ | with_reducible refine AWP.drawE mixed tabOk (by decide +kernel) ?_ | with_reducible refine AWP.drawG mixed tabOk (by decide +kernel) ?_); intro K hK; ((try simp (disch := omega) only [go_sem, wrap_n, ATxn.rgetD]) <;> (repeat' with_reducible refine And.intro ?_ ?_) <;> (try (with_reducible refine hK _ ?_; clear hK K))))
    | ((first | (with_reducible refine aunder_i ?_ ?_ <;> intro hg) | with_reducible intro hg) <;> (first | (exfalso; simp at hg; done) | (have hg' := hg; (try simp only [decide_eq_true_eq, decide_eq_false_iff_not, Bool.and_eq_true, Bool.or_eq_true, Bool.or_eq_false_iff, Bool.and_eq_false_iff, Bool.not_eq_true', Bool.not_eq_false', Bool.true_eq_false, Bool.false_eq_true, Bool.not_eq_true, Bool.not_eq_false, Int.not_lt, Int.not_le, Nat.not_lt, Nat.not_le, Int.ofNat_lt, Int.ofNat_le, Int.natCast_eq_zero, not_true_eq_false, not_false_eq_true, beq_iff_eq, Bool.not_true, Bool.not_false, ge_iff_le, gt_iff_lt] at hg'); ((try simp (disch := omega) only [hg, go_sem, wrap_n, ATxn.rgetD]) <;> (repeat' with_reducible refine And.intro ?_ ?_) <;> (try (with_reducible refine hK _ ?_; clear hK K))))))
                                                            | omega
  · refine ⟨k + 1, by omega, by omega, ?_⟩
    have e : l.take (k + 1) = l.take k ++ [l.getD k default] := take_snoc l k (by assumption)
    rw [e, lastZ_snoc]
    (refine SImp.frame [] rfl (by intro k hk; first | (simp at hk <;> (simp; omega)) | (simp only [List.mem_cons, List.not_mem_nil, or_false] at hk; simp only [List.length_cons, List.length_nil]; omega)) (by decide) (fun k hk => by first | omega | (rcases k with _ | _ | _ | _ | k <;> first | rfl | omega)) ?_ ?_ <;> simp (disch := omega) only [go_sem, wrap_n, Int.natCast_add, true_and] <;> (try rfl))
  · rw [show k = l.length from by omega, List.take_length]; (refine aend_retc ?_ rfl ?_ ?_ ?_ ?_; (focus (first | exact .inl rfl | exact .inr rfl)); (focus ((try simp (disch := omega) only [go_sem, wrap_n, true_and]) <;> (try omega) <;> fail)); (focus ((try simp (disch := omega) only [go_sem, wrap_n, true_and]) <;> (try omega) <;> fail)); (focus ((try simp (disch := omega) only [go_sem, wrap_n, true_and]) <;> (try omega) <;> fail)); (try simp (disch := omega) only [go_sem, wrap_n, true_and, I, B, S, AV.d.injEq, DV.int.injEq, DV.bool.injEq, DV.str.injEq, DV.sl.injEq, AV.tup.injEq, AV.agg.injEq, List.cons.injEq, and_true, true_and, and_self]))
theorem sameLog_c (a b : List ATxn) (h : a.length * 72 ≤ 140737488351232) (h2 : b.length * 72 ≤ 140737488351232) : acall Tryd.prog [] 50 [.d (.sl 7 (a.map ATxn.row)), .d (.sl 7 (b.map ATxn.row))] (ret (B (decide (a = b)))) := by
  refine acall_of tabOk Tryd.func50 rfl (by kernel_rfl) (by simp [Tryd.ntmps50]) ?_; simp only [Tryd.ntmps50, Tryd.results50, List.toList_toArray, apar, List.length_nil, List.length_cons, Nat.reduceAdd]
  repeat' first
    | with_reducible refine AWP.seq ?_
    | with_reducible refine thenA_n ?_
    | with_reducible refine thenA_r ?_
    | with_reducible refine thenA_e ?_
    | with_reducible refine blkA_n ?_
    | with_reducible refine blkA_r ?_
    | with_reducible refine blkA_e ?_
    | with_reducible refine blkA_x (by decide) ?_
    | with_reducible refine AWP.skip ?_
    | with_reducible refine AWP.ret ?_
    | with_reducible refine AWP.exit ?_
    | with_reducible refine AWP.block ?_
    | (with_reducible refine AWP.cond rfl ?_ ?_ <;> intro hc <;> (try simp only [decide_eq_true_eq, decide_eq_false_iff_not, Bool.and_eq_true, Bool.or_eq_true, Bool.or_eq_false_iff, Bool.and_eq_false_iff, Bool.not_eq_true', Bool.not_eq_false', Bool.true_eq_false, Bool.false_eq_true, Bool.not_eq_true, Bool.not_eq_false, Int.not_lt, Int.not_le, Nat.not_lt, Nat.not_le, Int.ofNat_lt, Int.ofNat_le, Int.natCast_eq_zero, not_true_eq_false, not_false_eq_true, beq_iff_eq, Bool.not_true, Bool.not_false, ge_iff_le, gt_iff_lt] at hc))
    | ((first | with_reducible refine AWP.region tabOk ?_ | with_reducible refine AWP.quietC mixed tabOk (by decide +kernel) ?_ | with_reducible refine AWP.draw mixed tabOk (by decide +kernel) ?_ | with_reducible refine AWP.drawE mixed tabOk (by decide +kernel) ?_ | with_reducible refine AWP.drawG mixed tabOk (by decide +kernel) ?_); intro K hK; ((try simp (disch := omega) only [go_sem, wrap_n, true_and]) <;> (repeat' with_reducible refine And.intro ?_ ?_) <;> (try (with_reducible refine hK _ ?_; clear hK K))))
    | ((first | (with_reducible refine aunder_i ?_ ?_ <;> intro hg) | with_reducible intro hg) <;> (first | (exfalso; simp at hg; done) | (have hg' := hg; (try simp only [decide_eq_true_eq, decide_eq_false_iff_not, Bool.and_eq_true, Bool.or_eq_true, Bool.or_eq_false_iff, Bool.and_eq_false_iff, Bool.not_eq_true', Bool.not_eq_false', Bool.true_eq_false, Bool.false_eq_true, Bool.not_eq_true, Bool.not_eq_false, Int.not_lt, Int.not_le, Nat.not_lt, Nat.not_le, Int.ofNat_lt, Int.ofNat_le, Int.natCast_eq_zero, not_true_eq_false, not_false_eq_true, beq_iff_eq, Bool.not_true, Bool.not_false, ge_iff_le, gt_iff_lt] at hg'); ((try simp (disch := omega) only [hg, go_sem, wrap_n, true_and]) <;> (repeat' with_reducible refine And.intro ?_ ?_) <;> (try (with_reducible refine hK _ ?_; clear hK K))))))
                                                            | omega
  · (refine aend_retc ?_ rfl ?_ ?_ ?_ ?_; (focus (first | exact .inl rfl | exact .inr rfl)); (focus ((try simp (disch := omega) only [go_sem, wrap_n, true_and]) <;> (try omega) <;> fail)); (focus ((try simp (disch := omega) only [go_sem, wrap_n, true_and]) <;> (try omega) <;> fail)); (focus ((try simp (disch := omega) only [go_sem, wrap_n, true_and]) <;> (try omega) <;> fail)); (try simp (disch := omega) only [go_sem, wrap_n, true_and, I, B, S, AV.d.injEq, DV.int.injEq, DV.bool.injEq, DV.str.injEq, DV.sl.injEq, AV.tup.injEq, AV.agg.injEq, List.cons.injEq, and_true, true_and, and_self]))
    symm; rw [decide_eq_false_iff_not]; intro e; subst e; simp at hc
  have h3 := hc
  refine AWP.loopS (ι := Nat) (fun k => k ≤ a.length ∧ ∀ j, j < k → a.getD j default = b.getD j default) (fun k => a.length - k) [0, 1, 12] (fun k => [(13, I k)]) 0 ?_ (by simp (disch := omega) only [go_sem, wrap_n, true_and]) ?_
  · exact ⟨by omega, by omega⟩
  intro k ⟨hk, hk2⟩
  simp only [go_sem]
  repeat' first
    | with_reducible refine AWP.seq ?_
    | with_reducible refine thenA_n ?_
    | with_reducible refine thenA_r ?_
    | with_reducible refine thenA_e ?_
    | with_reducible refine blkA_n ?_
    | with_reducible refine blkA_r ?_
    | with_reducible refine blkA_e ?_
    | with_reducible refine blkA_x (by decide) ?_
    | with_reducible refine AWP.skip ?_
    | with_reducible refine AWP.ret ?_
    | with_reducible refine AWP.exit ?_
    | with_reducible refine AWP.block ?_
    | (with_reducible refine AWP.cond rfl ?_ ?_ <;> intro hc <;> (try simp only [decide_eq_true_eq, decide_eq_false_iff_not, Bool.and_eq_true, Bool.or_eq_true, Bool.or_eq_false_iff, Bool.and_eq_false_iff, Bool.not_eq_true', Bool.not_eq_false', Bool.true_eq_false, Bool.false_eq_true, Bool.not_eq_true, Bool.not_eq_false, Int.not_lt, Int.not_le, Nat.not_lt, Nat.not_le, Int.ofNat_lt, Int.ofNat_le, Int.natCast_eq_zero, not_true_eq_false, not_false_eq_true, beq_iff_eq, Bool.not_true, Bool.not_false, ge_iff_le, gt_iff_lt] at hc))
    | ((first | with_reducible refine AWP.region tabOk ?_ | with_reducible refine AWP.quietC mixed tabOk (by decide +kernel) ?_ | with_reducible refine AWP.draw mixed tabOk (by decide +kernel) ?_ | with_reducible refine AWP.drawE mixed tabOk (by decide +kernel) ?_ | with_reducible refine AWP.drawG mixed tabOk (by decide +kernel) ?_); intro K hK; ((try simp (disch := omega) only [go_sem, wrap_n, ATxn.rgetD]) <;> (repeat' with_reducible refine And.intro ?_ ?_) <;> (try (with_reducible refine hK _ ?_; clear hK K))))
    | ((first | (with_reducible refine aunder_i ?_ ?_ <;> intro hg) | with_reducible intro hg) <;> (first | (exfalso; simp at hg; done) | (have hg' := hg; (try simp only [decide_eq_true_eq, decide_eq_false_iff_not, Bool.and_eq_true, Bool.or_eq_true, Bool.or_eq_false_iff, Bool.and_eq_false_iff, Bool.not_eq_true', Bool.not_eq_false', Bool.true_eq_false, Bool.false_eq_true, Bool.not_eq_true, Bool.not_eq_false, Int.not_lt, Int.not_le, Nat.not_lt, Nat.not_le, Int.ofNat_lt, Int.ofNat_le, Int.natCast_eq_zero, not_true_eq_false, not_false_eq_true, beq_iff_eq, Bool.not_true, Bool.not_false, ge_iff_le, gt_iff_lt] at hg'); ((try simp (disch := omega) only [hg, go_sem, wrap_n, ATxn.rgetD]) <;> (repeat' with_reducible refine And.intro ?_ ?_) <;> (try (with_reducible refine hK _ ?_; clear hK K))))))
                                                            | omega
  · (refine aend_retc ?_ rfl ?_ ?_ ?_ ?_; (focus (first | exact .inl rfl | exact .inr rfl)); (focus ((try simp (disch := omega) only [go_sem, wrap_n, true_and]) <;> (try omega) <;> fail)); (focus ((try simp (disch := omega) only [go_sem, wrap_n, true_and]) <;> (try omega) <;> fail)); (focus ((try simp (disch := omega) only [go_sem, wrap_n, true_and]) <;> (try omega) <;> fail)); (try simp (disch := omega) only [go_sem, wrap_n, true_and, I, B, S, AV.d.injEq, DV.int.injEq, DV.bool.injEq, DV.str.injEq, DV.sl.injEq, AV.tup.injEq, AV.agg.injEq, List.cons.injEq, and_true, true_and, and_self]))
    symm; rw [decide_eq_false_iff_not]; intro e; subst e; simp at hc
  · refine ⟨k + 1, ⟨by omega, fun j hj => ?_⟩, by omega, ?_⟩
    · by_cases e : j = k
      · subst e; exact hc
      · exact hk2 j (by omega)
    (refine SImp.same ?_; simp (disch := omega) only [go_sem, wrap_n, Int.natCast_add, true_and])
  · (refine aend_retc ?_ rfl ?_ ?_ ?_ ?_; (focus (first | exact .inl rfl | exact .inr rfl)); (focus ((try simp (disch := omega) only [go_sem, wrap_n, true_and]) <;> (try omega) <;> fail)); (focus ((try simp (disch := omega) only [go_sem, wrap_n, true_and]) <;> (try omega) <;> fail)); (focus ((try simp (disch := omega) only [go_sem, wrap_n, true_and]) <;> (try omega) <;> fail)); (try simp (disch := omega) only [go_sem, wrap_n, true_and, I, B, S, AV.d.injEq, DV.int.injEq, DV.bool.injEq, DV.str.injEq, DV.sl.injEq, AV.tup.injEq, AV.agg.injEq, List.cons.injEq, and_true, true_and, and_self]))
    symm; rw [decide_eq_true_eq]
    exact eq_of_getD (by omega) fun j hj => hk2 j (by omega)
def scanG (s : List UInt8) : Nat → Nat → List ATxn → List ATxn × Nat
  | 0, at_, l => (l, at_)
  | f + 1, at_, l => if (decT (s.drop at_)).2.2 ≠ 0 ∨ (0 < l.length ∧ (decT (s.drop at_)).1.zxid ≤ lastZ l) then (l, at_) else scanG s f (at_ + (decT (s.drop at_)).2.1.toNat) (l ++ [(decT (s.drop at_)).1])
def scanT (s : List UInt8) : List ATxn × Nat := scanG s (s.length + 1) 0 []
theorem decT_cases (s : List UInt8) : ((decT s).2.2 ≠ 0 ∧ (decT s).2.1 = 0) ∨ ((decT s).2.2 = 0 ∧ (decT s).2.1 = ((sN s + 7 : Nat) : Int) ∧ sN s + 7 ≤ s.length ∧ sN s ≤ 1024 ∧ goodT (decT s).1 = 0) := by
  by_cases h1 : noHead s
  · rw [decT_a h1]; left; simp
  by_cases h2 : noRoom s
  · rw [decT_b h1 h2]; left; simp
  by_cases h3 : noSum s
  · rw [decT_c h1 h2 h3]; left; simp
  by_cases h4 : bodyOk (sB s)
  case neg => rw [decT_d h1 h2 h3 h4]; left; simp
  by_cases h5 : goodT (bodyT (sB s)) = 0
  · rw [decT_f h1 h2 h3 h4 h5]; right
    unfold noRoom at h2
    exact ⟨rfl, rfl, by omega, by omega, h5⟩
  · rw [decT_e h1 h2 h3 h4 h5]; left; exact ⟨h5, rfl⟩
theorem scanG_stop {s : List UInt8} {f at_ : Nat} {l : List ATxn} (h : (decT (s.drop at_)).2.2 ≠ 0 ∨ (0 < l.length ∧ (decT (s.drop at_)).1.zxid ≤ lastZ l)) : scanG s f at_ l = (l, at_) := by
  cases f with
  | zero => rfl
  | succ f => rw [scanG, if_pos h]
theorem scanG_end {s : List UInt8} {f at_ : Nat} {l : List ATxn} (h : s.length ≤ at_) : scanG s f at_ l = (l, at_) :=
  scanG_stop (.inl (by rw [decT_a (.inl (by rw [List.length_drop]; omega))]; decide))
theorem scanG_next {s : List UInt8} {f at_ n : Nat} {l : List ATxn} (h1 : (decT (s.drop at_)).2.2 = 0) (h2 : ¬ (0 < l.length ∧ (decT (s.drop at_)).1.zxid ≤ lastZ l)) (hn : (decT (s.drop at_)).2.1 = (n : Int)) : scanG s (f + 1) at_ l = scanG s f (at_ + n) (l ++ [(decT (s.drop at_)).1]) := by
  rw [scanG, if_neg (by rintro (h | h); exact h h1; exact h2 h), hn]; rfl
theorem scan_c (s : List UInt8) (hs : s.length ≤ 1048576) : acall Tryd.prog [] 47 [S s] (ret (.tup [.d (.sl 7 ((scanT s).1.map ATxn.row)), I (scanT s).2])) := by
  refine acall_of tabOk Tryd.func47 rfl (by kernel_rfl) (by simp [Tryd.ntmps47]) ?_; simp only [Tryd.ntmps47, Tryd.results47, List.toList_toArray, apar, List.length_nil, List.length_cons, Nat.reduceAdd]
  repeat' first
    | with_reducible refine AWP.seq ?_
    | with_reducible refine thenA_n ?_
    | with_reducible refine thenA_r ?_
    | with_reducible refine thenA_e ?_
    | with_reducible refine blkA_n ?_
    | with_reducible refine blkA_r ?_
    | with_reducible refine blkA_e ?_
    | with_reducible refine blkA_x (by decide) ?_
    | with_reducible refine AWP.skip ?_
    | with_reducible refine AWP.ret ?_
    | with_reducible refine AWP.exit ?_
    | with_reducible refine AWP.block ?_
    | (with_reducible refine AWP.cond rfl ?_ ?_ <;> intro hc <;> (try simp only [decide_eq_true_eq, decide_eq_false_iff_not, Bool.and_eq_true, Bool.or_eq_true, Bool.or_eq_false_iff, Bool.and_eq_false_iff, Bool.not_eq_true', Bool.not_eq_false', Bool.true_eq_false, Bool.false_eq_true, Bool.not_eq_true, Bool.not_eq_false, Int.not_lt, Int.not_le, Nat.not_lt, Nat.not_le, Int.ofNat_lt, Int.ofNat_le, Int.natCast_eq_zero, not_true_eq_false, not_false_eq_true, beq_iff_eq, Bool.not_true, Bool.not_false, ge_iff_le, gt_iff_lt] at hc))
    | ((first | with_reducible refine AWP.region tabOk ?_ | with_reducible refine AWP.quietC mixed tabOk (by decide +kernel) ?_ | with_reducible refine AWP.draw mixed tabOk (by decide +kernel) ?_ | with_reducible refine AWP.drawE mixed tabOk (by decide +kernel) ?_ | with_reducible refine AWP.drawG mixed tabOk (by decide +kernel) ?_); intro K hK; ((try simp (disch := omega) only [go_sem, wrap_n, true_and]) <;> (repeat' with_reducible refine And.intro ?_ ?_) <;> (try (with_reducible refine hK _ ?_; clear hK K))))
    | ((first | (with_reducible refine aunder_i ?_ ?_ <;> intro hg) | with_reducible intro hg) <;> (first | (exfalso; simp at hg; done) | (have hg' := hg; (try simp only [decide_eq_true_eq, decide_eq_false_iff_not, Bool.and_eq_true, Bool.or_eq_true, Bool.or_eq_false_iff, Bool.and_eq_false_iff, Bool.not_eq_true', Bool.not_eq_false', Bool.true_eq_false, Bool.false_eq_true, Bool.not_eq_true, Bool.not_eq_false, Int.not_lt, Int.not_le, Nat.not_lt, Nat.not_le, Int.ofNat_lt, Int.ofNat_le, Int.natCast_eq_zero, not_true_eq_false, not_false_eq_true, beq_iff_eq, Bool.not_true, Bool.not_false, ge_iff_le, gt_iff_lt] at hg'); ((try simp (disch := omega) only [hg, go_sem, wrap_n, true_and]) <;> (repeat' with_reducible refine And.intro ?_ ?_) <;> (try (with_reducible refine hK _ ?_; clear hK K))))))
                                                            | omega
  refine AWP.weaken (SImp.nilOwn 4 7 rfl) ?_
  simp only [go_sem]
  refine AWP.loopB (ι := Nat × Nat × List ATxn) (fun v => v.2.1 ≤ s.length ∧ s.length < v.2.1 + v.1 ∧ v.2.2.length ≤ v.2.1 ∧ scanG s v.1 v.2.1 v.2.2 = scanT s) (fun v => v.1) [0] (fun v => [(5, I v.2.1), (4, .osl 0 7 0 v.2.2.length)]) (fun v => [.rows 7 (v.2.2.map ATxn.row)]) (s.length + 1, 0, []) ?_ ?_ ?_
  · exact ⟨by simp, by simp, by simp, rfl⟩
  · simp only [go_sem]; (refine SImp.same ?_; simp (disch := omega) only [go_sem, wrap_n, Int.natCast_add, true_and])
  intro ⟨f, k, l⟩ ⟨h1, h2, h3, h4⟩
  simp only at h1 h2 h3 h4
  simp only [go_sem]
  have ed : List.take (s.length - k) (List.drop k s) = List.drop k s := List.take_of_length_le (by rw [List.length_drop]; omega)
  repeat' first
    | with_reducible refine AWP.seq ?_
    | with_reducible refine thenA_n ?_
    | with_reducible refine thenA_r ?_
    | with_reducible refine thenA_e ?_
    | with_reducible refine blkA_n ?_
    | with_reducible refine blkA_r ?_
    | with_reducible refine blkA_e ?_
    | with_reducible refine blkA_x (by decide) ?_
    | with_reducible refine AWP.skip ?_
    | with_reducible refine AWP.ret ?_
    | with_reducible refine AWP.exit ?_
    | with_reducible refine AWP.block ?_
    | (with_reducible refine AWP.cond rfl ?_ ?_ <;> intro hc <;> (try simp only [decide_eq_true_eq, decide_eq_false_iff_not, Bool.and_eq_true, Bool.or_eq_true, Bool.or_eq_false_iff, Bool.and_eq_false_iff, Bool.not_eq_true', Bool.not_eq_false', Bool.true_eq_false, Bool.false_eq_true, Bool.not_eq_true, Bool.not_eq_false, Int.not_lt, Int.not_le, Nat.not_lt, Nat.not_le, Int.ofNat_lt, Int.ofNat_le, Int.natCast_eq_zero, not_true_eq_false, not_false_eq_true, beq_iff_eq, Bool.not_true, Bool.not_false, ge_iff_le, gt_iff_lt] at hc))
    | ((first | with_reducible refine AWP.region tabOk ?_ | with_reducible refine AWP.quietC mixed tabOk (by decide +kernel) ?_ | with_reducible refine AWP.draw mixed tabOk (by decide +kernel) ?_ | with_reducible refine AWP.drawE mixed tabOk (by decide +kernel) ?_ | with_reducible refine AWP.drawG mixed tabOk (by decide +kernel) ?_); intro K hK; ((try simp (disch := omega) only [go_sem, wrap_n, ed, take_map_len, ATxn.rsnoc]) <;> (repeat' with_reducible refine And.intro ?_ ?_) <;> (try (with_reducible refine hK _ ?_; clear hK K))))
    | ((first | refine acallH_sc (decode_c (s.drop k) (by rw [List.length_drop]; omega)) rfl rfl ?_ ?_ ?_ | refine acallH_sc (last_c l (by omega)) rfl rfl ?_ ?_ ?_); (focus ((try simp (disch := omega) only [go_sem, wrap_n, ed, take_map_len, ATxn.rsnoc]) <;> (try omega) <;> fail)); (focus ((try simp (disch := omega) only [go_sem, wrap_n, ed, take_map_len, ATxn.rsnoc]) <;> (try omega) <;> fail)); ((try simp (disch := omega) only [go_sem, wrap_n, ed, take_map_len, ATxn.rsnoc]) <;> (repeat' with_reducible refine And.intro ?_ ?_) <;> (try (with_reducible refine hK _ ?_; clear hK K))))
    | ((first | refine acallQ_sc (decode_c (s.drop k) (by rw [List.length_drop]; omega)) rfl rfl ?_ ?_ ?_ | refine acallQ_sc (last_c l (by omega)) rfl rfl ?_ ?_ ?_); (focus ((try simp (disch := omega) only [go_sem, wrap_n, ed, take_map_len, ATxn.rsnoc]) <;> (try omega) <;> fail)); (focus ((try simp (disch := omega) only [go_sem, wrap_n, ed, take_map_len, ATxn.rsnoc]) <;> (try omega) <;> fail)); ((try simp (disch := omega) only [go_sem, wrap_n, ed, take_map_len, ATxn.rsnoc]) <;> (repeat' with_reducible refine And.intro ?_ ?_) <;> (try (with_reducible refine hK _ ?_; clear hK K))))
    | ((first | refine acallH_anyr (decode_c (s.drop k) (by rw [List.length_drop]; omega)) rfl ?_ ?_ | refine acallH_anyr (last_c l (by omega)) rfl ?_ ?_); (focus ((try simp (disch := omega) only [go_sem, wrap_n, ed, take_map_len, ATxn.rsnoc]) <;> (try omega) <;> fail)); ((try simp (disch := omega) only [go_sem, wrap_n, ed, take_map_len, ATxn.rsnoc]) <;> (repeat' with_reducible refine And.intro ?_ ?_) <;> (try (with_reducible refine hK _ ?_; clear hK K))))
    | ((first | refine acallH_scx (decode_c (s.drop k) (by rw [List.length_drop]; omega)) rfl ?_ ?_ | refine acallQ_scx (decode_c (s.drop k) (by rw [List.length_drop]; omega)) rfl ?_ ?_ | refine acallH_anyx (decode_c (s.drop k) (by rw [List.length_drop]; omega)) ?_ ?_); (focus ((try simp (disch := omega) only [go_sem, wrap_n, ed, take_map_len, ATxn.rsnoc]) <;> (try omega) <;> fail)); ((try simp (disch := omega) only [go_sem, wrap_n, ed, take_map_len, ATxn.rsnoc]) <;> (repeat' with_reducible refine And.intro ?_ ?_) <;> (try (with_reducible refine hK _ ?_; clear hK K))))
    | ((first | refine acallH_scx (last_c l (by omega)) rfl ?_ ?_ | refine acallQ_scx (last_c l (by omega)) rfl ?_ ?_ | refine acallH_anyx (last_c l (by omega)) ?_ ?_); (focus ((try simp (disch := omega) only [go_sem, wrap_n, ed, take_map_len, ATxn.rsnoc]) <;> (try omega) <;> fail)); ((try simp (disch := omega) only [go_sem, wrap_n, ed, take_map_len, ATxn.rsnoc]) <;> (repeat' with_reducible refine And.intro ?_ ?_) <;> (try (with_reducible refine hK _ ?_; clear hK K))))
    | ((first | (with_reducible refine aunder_i ?_ ?_ <;> intro hg) | with_reducible intro hg) <;> (first | (exfalso; simp at hg; done) | (have hg' := hg; (try simp only [decide_eq_true_eq, decide_eq_false_iff_not, Bool.and_eq_true, Bool.or_eq_true, Bool.or_eq_false_iff, Bool.and_eq_false_iff, Bool.not_eq_true', Bool.not_eq_false', Bool.true_eq_false, Bool.false_eq_true, Bool.not_eq_true, Bool.not_eq_false, Int.not_lt, Int.not_le, Nat.not_lt, Nat.not_le, Int.ofNat_lt, Int.ofNat_le, Int.natCast_eq_zero, not_true_eq_false, not_false_eq_true, beq_iff_eq, Bool.not_true, Bool.not_false, ge_iff_le, gt_iff_lt] at hg'); ((try simp (disch := omega) only [hg, go_sem, wrap_n, ed, take_map_len, ATxn.rsnoc]) <;> (repeat' with_reducible refine And.intro ?_ ?_) <;> (try (with_reducible refine hK _ ?_; clear hK K))))))
                                                            | omega
  · rw [← h4, scanG_stop (hc.imp id fun h => ⟨by omega, h.2⟩)]; (refine aend_retc ?_ rfl ?_ ?_ ?_ ?_; (focus (first | exact .inl rfl | exact .inr rfl)); (focus ((try simp (disch := omega) only [go_sem, wrap_n, true_and]) <;> (try omega) <;> fail)); (focus ((try simp (disch := omega) only [go_sem, wrap_n, true_and]) <;> (try omega) <;> fail)); (focus ((try simp (disch := omega) only [go_sem, wrap_n, true_and]) <;> (try omega) <;> fail)); (try simp (disch := omega) only [go_sem, wrap_n, true_and, I, B, S, AV.d.injEq, DV.int.injEq, DV.bool.injEq, DV.str.injEq, DV.sl.injEq, AV.tup.injEq, AV.agg.injEq, List.cons.injEq, and_true, true_and, and_self]))
  · rcases decT_cases (s.drop k) with ⟨q, _⟩ | ⟨q1, q2, q3, q4, _⟩
    · exact absurd hc.1 q
    rw [List.length_drop] at q3
    have q5 := scanG_next (s := s) (f := f - 1) (at_ := k) (n := sN (s.drop k) + 7) (l := l) q1 (fun h => by omega) q2
    rw [show f - 1 + 1 = f from by omega] at q5
    refine ⟨(f - 1, k + (sN (s.drop k) + 7), l ++ [(decT (s.drop k)).1]), ⟨by simp only; omega, by simp only; omega, by simp; omega, q5.symm.trans h4⟩, by simp only; omega, ?_⟩
    (refine SImp.frame [3] rfl (by intro k hk; first | (simp at hk <;> (simp; omega)) | (simp only [List.mem_cons, List.not_mem_nil, or_false] at hk; simp only [List.length_cons, List.length_nil]; omega)) (by decide) (fun k hk => by first | omega | (rcases k with _ | _ | _ | _ | k <;> first | rfl | omega)) ?_ ?_ <;> simp (disch := omega) only [go_sem, wrap_n, Int.natCast_add, q2, List.length_append, ATxn.rsnoc] <;> (try rfl))
  · have hx : (decT (s.drop k)).2.2 ≠ 0 ∨ (0 < l.length ∧ (decT (s.drop k)).1.zxid ≤ lastZ l) := by
      by_cases e : (decT (s.drop k)).2.2 = 0
      · rcases hc with h | h
        · exact .inl h
        · rw [e] at hg; simp at hg; omega
      · exact .inl e
    rw [← h4, scanG_stop hx]; (refine aend_retc ?_ rfl ?_ ?_ ?_ ?_; (focus (first | exact .inl rfl | exact .inr rfl)); (focus ((try simp (disch := omega) only [go_sem, wrap_n, true_and]) <;> (try omega) <;> fail)); (focus ((try simp (disch := omega) only [go_sem, wrap_n, true_and]) <;> (try omega) <;> fail)); (focus ((try simp (disch := omega) only [go_sem, wrap_n, true_and]) <;> (try omega) <;> fail)); (try simp (disch := omega) only [go_sem, wrap_n, true_and, I, B, S, AV.d.injEq, DV.int.injEq, DV.bool.injEq, DV.str.injEq, DV.sl.injEq, AV.tup.injEq, AV.agg.injEq, List.cons.injEq, and_true, true_and, and_self]))
  · rcases decT_cases (s.drop k) with ⟨q, _⟩ | ⟨q1, q2, q3, q4, _⟩
    · exact absurd hc.1 q
    have hl0 : l.length = 0 := by rw [q1] at hg; simp at hg; rw [hg]; rfl
    rw [List.length_drop] at q3
    have q5 := scanG_next (s := s) (f := f - 1) (at_ := k) (n := sN (s.drop k) + 7) (l := l) q1 (fun h => by omega) q2
    rw [show f - 1 + 1 = f from by omega] at q5
    refine ⟨(f - 1, k + (sN (s.drop k) + 7), l ++ [(decT (s.drop k)).1]), ⟨by simp only; omega, by simp only; omega, by simp; omega, q5.symm.trans h4⟩, by simp only; omega, ?_⟩
    (refine SImp.frame [3] rfl (by intro k hk; first | (simp at hk <;> (simp; omega)) | (simp only [List.mem_cons, List.not_mem_nil, or_false] at hk; simp only [List.length_cons, List.length_nil]; omega)) (by decide) (fun k hk => by first | omega | (rcases k with _ | _ | _ | _ | k <;> first | rfl | omega)) ?_ ?_ <;> simp (disch := omega) only [go_sem, wrap_n, Int.natCast_add, q2, List.length_append, ATxn.rsnoc] <;> (try rfl))
  · rw [← h4, scanG_end (by omega)]; (refine aend_retc ?_ rfl ?_ ?_ ?_ ?_; (focus (first | exact .inl rfl | exact .inr rfl)); (focus ((try simp (disch := omega) only [go_sem, wrap_n, true_and]) <;> (try omega) <;> fail)); (focus ((try simp (disch := omega) only [go_sem, wrap_n, true_and]) <;> (try omega) <;> fail)); (focus ((try simp (disch := omega) only [go_sem, wrap_n, true_and]) <;> (try omega) <;> fail)); (try simp (disch := omega) only [go_sem, wrap_n, true_and, I, B, S, AV.d.injEq, DV.int.injEq, DV.bool.injEq, DV.str.injEq, DV.sl.injEq, AV.tup.injEq, AV.agg.injEq, List.cons.injEq, and_true, true_and, and_self]))
  all_goals trace_state
theorem scanT_none {s : List UInt8} (h : (decT s).2.2 ≠ 0) : scanT s = ([], 0) := scanG_stop (.inl h)
theorem scanT_some {s : List UInt8} {n : Nat} (h : (decT s).2.2 = 0) (hn : (decT s).2.1 = (n : Int)) : scanG s s.length n [(decT s).1] = scanT s := by
  have := scanG_next (s := s) (f := s.length) (at_ := 0) (n := n) (l := []) (by rw [List.drop_zero]; exact h) (by simp) (by rw [List.drop_zero]; exact hn)
  rw [List.drop_zero, Nat.zero_add, List.nil_append] at this
  exact this.symm
theorem ref_scan_c (s : List UInt8) (hs : s.length ≤ 1048576) : acall Tryd.prog [] 48 [S s] (ret (.tup [.d (.sl 7 ((scanT s).1.map ATxn.row)), I (scanT s).2])) := by
  refine acall_of tabOk Tryd.func48 rfl (by kernel_rfl) (by simp [Tryd.ntmps48]) ?_; simp only [Tryd.ntmps48, Tryd.results48, List.toList_toArray, apar, List.length_nil, List.length_cons, Nat.reduceAdd]
  repeat' first
    | with_reducible refine AWP.seq ?_
    | with_reducible refine thenA_n ?_
    | with_reducible refine thenA_r ?_
    | with_reducible refine thenA_e ?_
    | with_reducible refine blkA_n ?_
    | with_reducible refine blkA_r ?_
    | with_reducible refine blkA_e ?_
    | with_reducible refine blkA_x (by decide) ?_
    | with_reducible refine AWP.skip ?_
    | with_reducible refine AWP.ret ?_
    | with_reducible refine AWP.exit ?_
    | with_reducible refine AWP.block ?_
    | (with_reducible refine AWP.cond rfl ?_ ?_ <;> intro hc <;> (try simp only [decide_eq_true_eq, decide_eq_false_iff_not, Bool.and_eq_true, Bool.or_eq_true, Bool.or_eq_false_iff, Bool.and_eq_false_iff, Bool.not_eq_true', Bool.not_eq_false', Bool.true_eq_false, Bool.false_eq_true, Bool.not_eq_true, Bool.not_eq_false, Int.not_lt, Int.not_le, Nat.not_lt, Nat.not_le, Int.ofNat_lt, Int.ofNat_le, Int.natCast_eq_zero, not_true_eq_false, not_false_eq_true, beq_iff_eq, Bool.not_true, Bool.not_false, ge_iff_le, gt_iff_lt] at hc))
    | ((first | with_reducible refine AWP.region tabOk ?_ | with_reducible refine AWP.quietC mixed tabOk (by decide +kernel) ?_ | with_reducible refine AWP.draw mixed tabOk (by decide +kernel) ?_ | with_reducible refine AWP.drawE mixed tabOk (by decide +kernel) ?_ | with_reducible refine AWP.drawG mixed tabOk (by decide +kernel) ?_); intro K hK; ((try simp (disch := omega) only [go_sem, wrap_n, true_and]) <;> (repeat' with_reducible refine And.intro ?_ ?_) <;> (try (with_reducible refine hK _ ?_; clear hK K))))
    | ((first | refine acallH_sc (ref_decode_c s hs) rfl rfl ?_ ?_ ?_); (focus ((try simp (disch := omega) only [go_sem, wrap_n, true_and]) <;> (try omega) <;> fail)); (focus ((try simp (disch := omega) only [go_sem, wrap_n, true_and]) <;> (try omega) <;> fail)); ((try simp (disch := omega) only [go_sem, wrap_n, true_and]) <;> (repeat' with_reducible refine And.intro ?_ ?_) <;> (try (with_reducible refine hK _ ?_; clear hK K))))
    | ((first | refine acallQ_sc (ref_decode_c s hs) rfl rfl ?_ ?_ ?_); (focus ((try simp (disch := omega) only [go_sem, wrap_n, true_and]) <;> (try omega) <;> fail)); (focus ((try simp (disch := omega) only [go_sem, wrap_n, true_and]) <;> (try omega) <;> fail)); ((try simp (disch := omega) only [go_sem, wrap_n, true_and]) <;> (repeat' with_reducible refine And.intro ?_ ?_) <;> (try (with_reducible refine hK _ ?_; clear hK K))))
    | ((first | refine acallH_anyr (ref_decode_c s hs) rfl ?_ ?_); (focus ((try simp (disch := omega) only [go_sem, wrap_n, true_and]) <;> (try omega) <;> fail)); ((try simp (disch := omega) only [go_sem, wrap_n, true_and]) <;> (repeat' with_reducible refine And.intro ?_ ?_) <;> (try (with_reducible refine hK _ ?_; clear hK K))))
    | ((first | refine acallH_scx (ref_decode_c s hs) rfl ?_ ?_ | refine acallQ_scx (ref_decode_c s hs) rfl ?_ ?_ | refine acallH_anyx (ref_decode_c s hs) ?_ ?_); (focus ((try simp (disch := omega) only [go_sem, wrap_n, true_and]) <;> (try omega) <;> fail)); ((try simp (disch := omega) only [go_sem, wrap_n, true_and]) <;> (repeat' with_reducible refine And.intro ?_ ?_) <;> (try (with_reducible refine hK _ ?_; clear hK K))))
    | ((first | (with_reducible refine aunder_i ?_ ?_ <;> intro hg) | with_reducible intro hg) <;> (first | (exfalso; simp at hg; done) | (have hg' := hg; (try simp only [decide_eq_true_eq, decide_eq_false_iff_not, Bool.and_eq_true, Bool.or_eq_true, Bool.or_eq_false_iff, Bool.and_eq_false_iff, Bool.not_eq_true', Bool.not_eq_false', Bool.true_eq_false, Bool.false_eq_true, Bool.not_eq_true, Bool.not_eq_false, Int.not_lt, Int.not_le, Nat.not_lt, Nat.not_le, Int.ofNat_lt, Int.ofNat_le, Int.natCast_eq_zero, not_true_eq_false, not_false_eq_true, beq_iff_eq, Bool.not_true, Bool.not_false, ge_iff_le, gt_iff_lt] at hg'); ((try simp (disch := omega) only [hg, go_sem, wrap_n, true_and]) <;> (repeat' with_reducible refine And.intro ?_ ?_) <;> (try (with_reducible refine hK _ ?_; clear hK K))))))
                                                            | omega
  · rw [scanT_none hc]; (refine aend_retc ?_ rfl ?_ ?_ ?_ ?_; (focus (first | exact .inl rfl | exact .inr rfl)); (focus ((try simp (disch := omega) only [go_sem, wrap_n, true_and]) <;> (try omega) <;> fail)); (focus ((try simp (disch := omega) only [go_sem, wrap_n, true_and]) <;> (try omega) <;> fail)); (focus ((try simp (disch := omega) only [go_sem, wrap_n, true_and]) <;> (try omega) <;> fail)); (try simp (disch := omega) only [go_sem, wrap_n, true_and, I, B, S, AV.d.injEq, DV.int.injEq, DV.bool.injEq, DV.str.injEq, DV.sl.injEq, AV.tup.injEq, AV.agg.injEq, List.cons.injEq, and_true, true_and, and_self]))
  rcases decT_cases s with ⟨q, _⟩ | ⟨q1, q2, q3, q4, _⟩
  · exact absurd hc q
  refine AWP.loopB (ι := Nat × Nat × List ATxn × ATxn) (fun v => v.2.1 ≤ s.length ∧ s.length < v.2.1 + v.1 ∧ v.2.2.1.length ≤ v.2.1 ∧ 0 < v.2.2.1.length ∧ scanG s v.1 v.2.1 v.2.2.1 = scanT s) (fun v => v.1) [0, 4] (fun v => [(8, I v.2.1), (7, .osl 1 7 0 v.2.2.1.length)]) (fun v => [.cells [I v.2.2.2.zxid, I v.2.2.2.op, I v.2.2.2.session, S v.2.2.2.path, S v.2.2.2.data, I v.2.2.2.version, I v.2.2.2.owner], .rows 7 (v.2.2.1.map ATxn.row)]) (s.length, sN s + 7, [(decT s).1], (decT s).1) ?_ ?_ ?_
  · exact ⟨q3, by simp only; omega, by simp, by simp, scanT_some q1 q2⟩
  · simp only [go_sem, q2]; (refine SImp.same ?_; simp (disch := omega) only [go_sem, wrap_n, Int.natCast_add, true_and])
  intro ⟨f, k, l, t⟩ ⟨h1, h2, h3, h5, h4⟩
  simp only at h1 h2 h3 h4 h5
  simp only [go_sem]
  have ed : List.take (s.length - k) (List.drop k s) = List.drop k s := List.take_of_length_le (by rw [List.length_drop]; omega)
  have el : ((l.length : Int) - 1).toNat = l.length - 1 := by omega
  have lz := (lastZ_pos h5).symm
  repeat' first
    | with_reducible refine AWP.seq ?_
    | with_reducible refine thenA_n ?_
    | with_reducible refine thenA_r ?_
    | with_reducible refine thenA_e ?_
    | with_reducible refine blkA_n ?_
    | with_reducible refine blkA_r ?_
    | with_reducible refine blkA_e ?_
    | with_reducible refine blkA_x (by decide) ?_
    | with_reducible refine AWP.skip ?_
    | with_reducible refine AWP.ret ?_
    | with_reducible refine AWP.exit ?_
    | with_reducible refine AWP.block ?_
    | (with_reducible refine AWP.cond rfl ?_ ?_ <;> intro hc <;> (try simp only [decide_eq_true_eq, decide_eq_false_iff_not, Bool.and_eq_true, Bool.or_eq_true, Bool.or_eq_false_iff, Bool.and_eq_false_iff, Bool.not_eq_true', Bool.not_eq_false', Bool.true_eq_false, Bool.false_eq_true, Bool.not_eq_true, Bool.not_eq_false, Int.not_lt, Int.not_le, Nat.not_lt, Nat.not_le, Int.ofNat_lt, Int.ofNat_le, Int.natCast_eq_zero, not_true_eq_false, not_false_eq_true, beq_iff_eq, Bool.not_true, Bool.not_false, ge_iff_le, gt_iff_lt] at hc))
    | ((first | with_reducible refine AWP.region tabOk ?_ | with_reducible refine AWP.quietC mixed tabOk (by decide +kernel) ?_ | with_reducible refine AWP.draw mixed tabOk (by decide +kernel) ?_ | with_reducible refine AWP.drawE mixed tabOk (by decide +kernel) ?_ | with_reducible refine AWP.drawG mixed tabOk (by decide +kernel) ?_); intro K hK; ((try simp (disch := omega) only [go_sem, wrap_n, ed, take_map_len, ATxn.rsnoc, ATxn.rgetD, el, lz]) <;> (repeat' with_reducible refine And.intro ?_ ?_) <;> (try (with_reducible refine hK _ ?_; clear hK K))))
    | ((first | refine acallH_sc (ref_decode_c (s.drop k) (by rw [List.length_drop]; omega)) rfl rfl ?_ ?_ ?_); (focus ((try simp (disch := omega) only [go_sem, wrap_n, ed, take_map_len, ATxn.rsnoc, ATxn.rgetD, el, lz]) <;> (try omega) <;> fail)); (focus ((try simp (disch := omega) only [go_sem, wrap_n, ed, take_map_len, ATxn.rsnoc, ATxn.rgetD, el, lz]) <;> (try omega) <;> fail)); ((try simp (disch := omega) only [go_sem, wrap_n, ed, take_map_len, ATxn.rsnoc, ATxn.rgetD, el, lz]) <;> (repeat' with_reducible refine And.intro ?_ ?_) <;> (try (with_reducible refine hK _ ?_; clear hK K))))
    | ((first | refine acallQ_sc (ref_decode_c (s.drop k) (by rw [List.length_drop]; omega)) rfl rfl ?_ ?_ ?_); (focus ((try simp (disch := omega) only [go_sem, wrap_n, ed, take_map_len, ATxn.rsnoc, ATxn.rgetD, el, lz]) <;> (try omega) <;> fail)); (focus ((try simp (disch := omega) only [go_sem, wrap_n, ed, take_map_len, ATxn.rsnoc, ATxn.rgetD, el, lz]) <;> (try omega) <;> fail)); ((try simp (disch := omega) only [go_sem, wrap_n, ed, take_map_len, ATxn.rsnoc, ATxn.rgetD, el, lz]) <;> (repeat' with_reducible refine And.intro ?_ ?_) <;> (try (with_reducible refine hK _ ?_; clear hK K))))
    | ((first | refine acallH_anyr (ref_decode_c (s.drop k) (by rw [List.length_drop]; omega)) rfl ?_ ?_); (focus ((try simp (disch := omega) only [go_sem, wrap_n, ed, take_map_len, ATxn.rsnoc, ATxn.rgetD, el, lz]) <;> (try omega) <;> fail)); ((try simp (disch := omega) only [go_sem, wrap_n, ed, take_map_len, ATxn.rsnoc, ATxn.rgetD, el, lz]) <;> (repeat' with_reducible refine And.intro ?_ ?_) <;> (try (with_reducible refine hK _ ?_; clear hK K))))
    | ((first | refine acallH_scx (ref_decode_c (s.drop k) (by rw [List.length_drop]; omega)) rfl ?_ ?_ | refine acallQ_scx (ref_decode_c (s.drop k) (by rw [List.length_drop]; omega)) rfl ?_ ?_ | refine acallH_anyx (ref_decode_c (s.drop k) (by rw [List.length_drop]; omega)) ?_ ?_); (focus ((try simp (disch := omega) only [go_sem, wrap_n, ed, take_map_len, ATxn.rsnoc, ATxn.rgetD, el, lz]) <;> (try omega) <;> fail)); ((try simp (disch := omega) only [go_sem, wrap_n, ed, take_map_len, ATxn.rsnoc, ATxn.rgetD, el, lz]) <;> (repeat' with_reducible refine And.intro ?_ ?_) <;> (try (with_reducible refine hK _ ?_; clear hK K))))
    | ((first | (with_reducible refine aunder_i ?_ ?_ <;> intro hg) | with_reducible intro hg) <;> (first | (exfalso; simp at hg; done) | (have hg' := hg; (try simp only [decide_eq_true_eq, decide_eq_false_iff_not, Bool.and_eq_true, Bool.or_eq_true, Bool.or_eq_false_iff, Bool.and_eq_false_iff, Bool.not_eq_true', Bool.not_eq_false', Bool.true_eq_false, Bool.false_eq_true, Bool.not_eq_true, Bool.not_eq_false, Int.not_lt, Int.not_le, Nat.not_lt, Nat.not_le, Int.ofNat_lt, Int.ofNat_le, Int.natCast_eq_zero, not_true_eq_false, not_false_eq_true, beq_iff_eq, Bool.not_true, Bool.not_false, ge_iff_le, gt_iff_lt] at hg'); ((try simp (disch := omega) only [hg, go_sem, wrap_n, ed, take_map_len, ATxn.rsnoc, ATxn.rgetD, el, lz]) <;> (repeat' with_reducible refine And.intro ?_ ?_) <;> (try (with_reducible refine hK _ ?_; clear hK K))))))
                                                            | omega
  · rw [← h4, scanG_stop (hc.imp id fun h => ⟨h5, h⟩)]; (refine aend_retc ?_ rfl ?_ ?_ ?_ ?_; (focus (first | exact .inl rfl | exact .inr rfl)); (focus ((try simp (disch := omega) only [go_sem, wrap_n, true_and]) <;> (try omega) <;> fail)); (focus ((try simp (disch := omega) only [go_sem, wrap_n, true_and]) <;> (try omega) <;> fail)); (focus ((try simp (disch := omega) only [go_sem, wrap_n, true_and]) <;> (try omega) <;> fail)); (try simp (disch := omega) only [go_sem, wrap_n, true_and, I, B, S, AV.d.injEq, DV.int.injEq, DV.bool.injEq, DV.str.injEq, DV.sl.injEq, AV.tup.injEq, AV.agg.injEq, List.cons.injEq, and_true, true_and, and_self]))
  · rcases decT_cases (s.drop k) with ⟨q, _⟩ | ⟨q1, q2, q3, q4, _⟩
    · exact absurd hc.1 q
    rw [List.length_drop] at q3
    have q5 := scanG_next (s := s) (f := f - 1) (at_ := k) (n := sN (s.drop k) + 7) (l := l) q1 (fun h => by omega) q2
    rw [show f - 1 + 1 = f from by omega] at q5
    refine ⟨(f - 1, k + (sN (s.drop k) + 7), l ++ [(decT (s.drop k)).1], (decT (s.drop k)).1), ⟨by simp only; omega, by simp only; omega, by simp; omega, by simp, q5.symm.trans h4⟩, by simp only; omega, ?_⟩
    (refine SImp.frame [0, 3] rfl (by intro k hk; first | (simp at hk <;> (simp; omega)) | (simp only [List.mem_cons, List.not_mem_nil, or_false] at hk; simp only [List.length_cons, List.length_nil]; omega)) (by decide) (fun k hk => by first | omega | (rcases k with _ | _ | _ | _ | k <;> first | rfl | omega)) ?_ ?_ <;> simp (disch := omega) only [go_sem, wrap_n, Int.natCast_add, q2, List.length_append, ATxn.rsnoc] <;> (try rfl))
def t1 : ATxn := ⟨1, 1, 1, [], [], 0, 0⟩
theorem opened_c : acall Tryd.prog [] 49 [] (ret (.d (.sl 7 [[.int .i64 1, .int .i64 1, .int .i64 1, .str [], .str [], .int .i64 0, .int .i64 0]]))) := by
  refine acall_of tabOk Tryd.func49 rfl (by kernel_rfl) (by simp [Tryd.ntmps49]) ?_; simp only [Tryd.ntmps49, Tryd.results49, List.toList_toArray, apar, List.length_nil, List.length_cons, Nat.reduceAdd]
  repeat' first
    | with_reducible refine AWP.seq ?_
    | with_reducible refine thenA_n ?_
    | with_reducible refine thenA_r ?_
    | with_reducible refine thenA_e ?_
    | with_reducible refine blkA_n ?_
    | with_reducible refine blkA_r ?_
    | with_reducible refine blkA_e ?_
    | with_reducible refine blkA_x (by decide) ?_
    | with_reducible refine AWP.skip ?_
    | with_reducible refine AWP.ret ?_
    | with_reducible refine AWP.exit ?_
    | with_reducible refine AWP.block ?_
    | (with_reducible refine AWP.cond rfl ?_ ?_ <;> intro hc <;> (try simp only [decide_eq_true_eq, decide_eq_false_iff_not, Bool.and_eq_true, Bool.or_eq_true, Bool.or_eq_false_iff, Bool.and_eq_false_iff, Bool.not_eq_true', Bool.not_eq_false', Bool.true_eq_false, Bool.false_eq_true, Bool.not_eq_true, Bool.not_eq_false, Int.not_lt, Int.not_le, Nat.not_lt, Nat.not_le, Int.ofNat_lt, Int.ofNat_le, Int.natCast_eq_zero, not_true_eq_false, not_false_eq_true, beq_iff_eq, Bool.not_true, Bool.not_false, ge_iff_le, gt_iff_lt] at hc))
    | ((first | with_reducible refine AWP.region tabOk ?_ | with_reducible refine AWP.quietC mixed tabOk (by decide +kernel) ?_ | with_reducible refine AWP.draw mixed tabOk (by decide +kernel) ?_ | with_reducible refine AWP.drawE mixed tabOk (by decide +kernel) ?_ | with_reducible refine AWP.drawG mixed tabOk (by decide +kernel) ?_); intro K hK; ((try simp (disch := omega) only [go_sem, wrap_n, true_and]) <;> (repeat' with_reducible refine And.intro ?_ ?_) <;> (try (with_reducible refine hK _ ?_; clear hK K))))
    | ((first | (with_reducible refine aunder_i ?_ ?_ <;> intro hg) | with_reducible intro hg) <;> (first | (exfalso; simp at hg; done) | (have hg' := hg; (try simp only [decide_eq_true_eq, decide_eq_false_iff_not, Bool.and_eq_true, Bool.or_eq_true, Bool.or_eq_false_iff, Bool.and_eq_false_iff, Bool.not_eq_true', Bool.not_eq_false', Bool.true_eq_false, Bool.false_eq_true, Bool.not_eq_true, Bool.not_eq_false, Int.not_lt, Int.not_le, Nat.not_lt, Nat.not_le, Int.ofNat_lt, Int.ofNat_le, Int.natCast_eq_zero, not_true_eq_false, not_false_eq_true, beq_iff_eq, Bool.not_true, Bool.not_false, ge_iff_le, gt_iff_lt] at hg'); ((try simp (disch := omega) only [hg, go_sem, wrap_n, true_and]) <;> (repeat' with_reducible refine And.intro ?_ ?_) <;> (try (with_reducible refine hK _ ?_; clear hK K))))))
                                                            | omega
  (refine aend_retc ?_ rfl ?_ ?_ ?_ ?_; (focus (first | exact .inl rfl | exact .inr rfl)); (focus ((try simp (disch := omega) only [go_sem, wrap_n, true_and]) <;> (try omega) <;> fail)); (focus ((try simp (disch := omega) only [go_sem, wrap_n, true_and]) <;> (try omega) <;> fail)); (focus ((try simp (disch := omega) only [go_sem, wrap_n, true_and]) <;> (try omega) <;> fail)); (try simp (disch := omega) only [go_sem, wrap_n, true_and, I, B, S, AV.d.injEq, DV.int.injEq, DV.bool.injEq, DV.str.injEq, DV.sl.injEq, AV.tup.injEq, AV.agg.injEq, List.cons.injEq, and_true, true_and, and_self]))
theorem t1_scan : (scanT (encT t1).1).1.length = 1 := by decide +kernel
theorem t1_len : (encT t1).1.length ≤ 1048576 := by decide +kernel
theorem scanG_len (s : List UInt8) : ∀ (f at_ : Nat) (l : List ATxn), (scanG s f at_ l).1.length ≤ l.length + f
  | 0, _, l => Nat.le_refl _
  | f + 1, at_, l => by
    rw [scanG]
    split
    · simp
    · have := scanG_len s f (at_ + (decT (s.drop at_)).2.1.toNat) (l ++ [(decT (s.drop at_)).1])
      rw [List.length_append, List.length_singleton] at this
      omega
theorem scanT_len (s : List UInt8) : (scanT s).1.length ≤ s.length + 1 := by
  have := scanG_len s (s.length + 1) 0 []
  simpa [scanT] using this
theorem walScans_w (s : List UInt8) (hs : s.length ≤ 1048576) : acall Tryd.prog [] 11 [S s] (ret (B true)) := by
  have hl : (scanT s).1.length * 72 ≤ 140737488351232 := by
    have := scanT_len s
    omega
  have t1s : (((scanT (encT t1).1).1.length : Nat) : Int) = 1 := by rw [t1_scan]; rfl
  have hE1 : acall Tryd.prog [] 38 [.agg [I 1, I 1, I 1, S [], S [], I 0, I 0]] (ret (.tup [S (encT t1).1, I (encT t1).2])) :=
    ref_encode_c t1 (show okI 1 by unfold okI; decide) (by decide) (show okS [] by unfold okS; decide)
  refine acall_of tabOk Tryd.func11 rfl (by kernel_rfl) (by simp [Tryd.ntmps11]) ?_; simp only [Tryd.ntmps11, Tryd.results11, List.toList_toArray, apar, List.length_nil, List.length_cons, Nat.reduceAdd]
  repeat' first
    | with_reducible refine AWP.seq ?_
    | with_reducible refine thenA_n ?_
    | with_reducible refine thenA_r ?_
    | with_reducible refine thenA_e ?_
    | with_reducible refine blkA_n ?_
    | with_reducible refine blkA_r ?_
    | with_reducible refine blkA_e ?_
    | with_reducible refine blkA_x (by decide) ?_
    | with_reducible refine AWP.skip ?_
    | with_reducible refine AWP.ret ?_
    | with_reducible refine AWP.exit ?_
    | with_reducible refine AWP.block ?_
    | (with_reducible refine AWP.cond rfl ?_ ?_ <;> intro hc <;> (try simp only [decide_eq_true_eq, decide_eq_false_iff_not, Bool.and_eq_true, Bool.or_eq_true, Bool.or_eq_false_iff, Bool.and_eq_false_iff, Bool.not_eq_true', Bool.not_eq_false', Bool.true_eq_false, Bool.false_eq_true, Bool.not_eq_true, Bool.not_eq_false, Int.not_lt, Int.not_le, Nat.not_lt, Nat.not_le, Int.ofNat_lt, Int.ofNat_le, Int.natCast_eq_zero, not_true_eq_false, not_false_eq_true, beq_iff_eq, Bool.not_true, Bool.not_false, ge_iff_le, gt_iff_lt] at hc))
    | ((first | with_reducible refine AWP.region tabOk ?_ | with_reducible refine AWP.quietC mixed tabOk (by decide +kernel) ?_ | with_reducible refine AWP.draw mixed tabOk (by decide +kernel) ?_ | with_reducible refine AWP.drawE mixed tabOk (by decide +kernel) ?_ | with_reducible refine AWP.drawG mixed tabOk (by decide +kernel) ?_); intro K hK; ((try simp (disch := omega) only [go_sem, wrap_n, t1s]) <;> (repeat' with_reducible refine And.intro ?_ ?_) <;> (try (with_reducible refine hK _ ?_; clear hK K))))
    | ((first | refine acallH_sc (scan_c s hs) rfl rfl ?_ ?_ ?_ | refine acallH_sc (ref_scan_c s hs) rfl rfl ?_ ?_ ?_ | refine acallH_sc (opened_c) rfl rfl ?_ ?_ ?_ | refine acallH_sc (hE1) rfl rfl ?_ ?_ ?_ | refine acallH_sc (scan_c _ t1_len) rfl rfl ?_ ?_ ?_ | refine acallH_sc (sameLog_c _ _ hl hl) rfl rfl ?_ ?_ ?_); (focus ((try simp (disch := omega) only [go_sem, wrap_n, t1s]) <;> (try omega) <;> fail)); (focus ((try simp (disch := omega) only [go_sem, wrap_n, t1s]) <;> (try omega) <;> fail)); ((try simp (disch := omega) only [go_sem, wrap_n, t1s]) <;> (repeat' with_reducible refine And.intro ?_ ?_) <;> (try (with_reducible refine hK _ ?_; clear hK K))))
    | ((first | refine acallQ_sc (scan_c s hs) rfl rfl ?_ ?_ ?_ | refine acallQ_sc (ref_scan_c s hs) rfl rfl ?_ ?_ ?_ | refine acallQ_sc (opened_c) rfl rfl ?_ ?_ ?_ | refine acallQ_sc (hE1) rfl rfl ?_ ?_ ?_ | refine acallQ_sc (scan_c _ t1_len) rfl rfl ?_ ?_ ?_ | refine acallQ_sc (sameLog_c _ _ hl hl) rfl rfl ?_ ?_ ?_); (focus ((try simp (disch := omega) only [go_sem, wrap_n, t1s]) <;> (try omega) <;> fail)); (focus ((try simp (disch := omega) only [go_sem, wrap_n, t1s]) <;> (try omega) <;> fail)); ((try simp (disch := omega) only [go_sem, wrap_n, t1s]) <;> (repeat' with_reducible refine And.intro ?_ ?_) <;> (try (with_reducible refine hK _ ?_; clear hK K))))
    | ((first | refine acallH_anyr (scan_c s hs) rfl ?_ ?_ | refine acallH_anyr (ref_scan_c s hs) rfl ?_ ?_ | refine acallH_anyr (opened_c) rfl ?_ ?_ | refine acallH_anyr (hE1) rfl ?_ ?_ | refine acallH_anyr (scan_c _ t1_len) rfl ?_ ?_ | refine acallH_anyr (sameLog_c _ _ hl hl) rfl ?_ ?_); (focus ((try simp (disch := omega) only [go_sem, wrap_n, t1s]) <;> (try omega) <;> fail)); ((try simp (disch := omega) only [go_sem, wrap_n, t1s]) <;> (repeat' with_reducible refine And.intro ?_ ?_) <;> (try (with_reducible refine hK _ ?_; clear hK K))))
    | ((first | refine acallH_scx (scan_c s hs) rfl ?_ ?_ | refine acallQ_scx (scan_c s hs) rfl ?_ ?_ | refine acallH_anyx (scan_c s hs) ?_ ?_); (focus ((try simp (disch := omega) only [go_sem, wrap_n, t1s]) <;> (try omega) <;> fail)); ((try simp (disch := omega) only [go_sem, wrap_n, t1s]) <;> (repeat' with_reducible refine And.intro ?_ ?_) <;> (try (with_reducible refine hK _ ?_; clear hK K))))
    | ((first | refine acallH_scx (ref_scan_c s hs) rfl ?_ ?_ | refine acallQ_scx (ref_scan_c s hs) rfl ?_ ?_ | refine acallH_anyx (ref_scan_c s hs) ?_ ?_); (focus ((try simp (disch := omega) only [go_sem, wrap_n, t1s]) <;> (try omega) <;> fail)); ((try simp (disch := omega) only [go_sem, wrap_n, t1s]) <;> (repeat' with_reducible refine And.intro ?_ ?_) <;> (try (with_reducible refine hK _ ?_; clear hK K))))
    | ((first | refine acallH_scx (opened_c) rfl ?_ ?_ | refine acallQ_scx (opened_c) rfl ?_ ?_ | refine acallH_anyx (opened_c) ?_ ?_); (focus ((try simp (disch := omega) only [go_sem, wrap_n, t1s]) <;> (try omega) <;> fail)); ((try simp (disch := omega) only [go_sem, wrap_n, t1s]) <;> (repeat' with_reducible refine And.intro ?_ ?_) <;> (try (with_reducible refine hK _ ?_; clear hK K))))
    | ((first | refine acallH_scx (hE1) rfl ?_ ?_ | refine acallQ_scx (hE1) rfl ?_ ?_ | refine acallH_anyx (hE1) ?_ ?_); (focus ((try simp (disch := omega) only [go_sem, wrap_n, t1s]) <;> (try omega) <;> fail)); ((try simp (disch := omega) only [go_sem, wrap_n, t1s]) <;> (repeat' with_reducible refine And.intro ?_ ?_) <;> (try (with_reducible refine hK _ ?_; clear hK K))))
    | ((first | refine acallH_scx (scan_c _ t1_len) rfl ?_ ?_ | refine acallQ_scx (scan_c _ t1_len) rfl ?_ ?_ | refine acallH_anyx (scan_c _ t1_len) ?_ ?_); (focus ((try simp (disch := omega) only [go_sem, wrap_n, t1s]) <;> (try omega) <;> fail)); ((try simp (disch := omega) only [go_sem, wrap_n, t1s]) <;> (repeat' with_reducible refine And.intro ?_ ?_) <;> (try (with_reducible refine hK _ ?_; clear hK K))))
    | ((first | refine acallH_scx (sameLog_c _ _ hl hl) rfl ?_ ?_ | refine acallQ_scx (sameLog_c _ _ hl hl) rfl ?_ ?_ | refine acallH_anyx (sameLog_c _ _ hl hl) ?_ ?_); (focus ((try simp (disch := omega) only [go_sem, wrap_n, t1s]) <;> (try omega) <;> fail)); ((try simp (disch := omega) only [go_sem, wrap_n, t1s]) <;> (repeat' with_reducible refine And.intro ?_ ?_) <;> (try (with_reducible refine hK _ ?_; clear hK K))))
    | ((first | (with_reducible refine aunder_i ?_ ?_ <;> intro hg) | with_reducible intro hg) <;> (first | (exfalso; simp at hg; done) | (have hg' := hg; (try simp only [decide_eq_true_eq, decide_eq_false_iff_not, Bool.and_eq_true, Bool.or_eq_true, Bool.or_eq_false_iff, Bool.and_eq_false_iff, Bool.not_eq_true', Bool.not_eq_false', Bool.true_eq_false, Bool.false_eq_true, Bool.not_eq_true, Bool.not_eq_false, Int.not_lt, Int.not_le, Nat.not_lt, Nat.not_le, Int.ofNat_lt, Int.ofNat_le, Int.natCast_eq_zero, not_true_eq_false, not_false_eq_true, beq_iff_eq, Bool.not_true, Bool.not_false, ge_iff_le, gt_iff_lt] at hg'); ((try simp (disch := omega) only [hg, go_sem, wrap_n, t1s]) <;> (repeat' with_reducible refine And.intro ?_ ?_) <;> (try (with_reducible refine hK _ ?_; clear hK K))))))
                                                            | omega
  (refine aend_retc ?_ rfl ?_ ?_ ?_ ?_; (focus (first | exact .inl rfl | exact .inr rfl)); (focus ((try simp (disch := omega) only [go_sem, wrap_n, t1s]) <;> (try omega) <;> fail)); (focus ((try simp (disch := omega) only [go_sem, wrap_n, t1s]) <;> (try omega) <;> fail)); (focus ((try simp (disch := omega) only [go_sem, wrap_n, t1s]) <;> (try omega) <;> fail)); (try simp (disch := omega) only [go_sem, wrap_n, t1s, I, B, S, AV.d.injEq, DV.int.injEq, DV.bool.injEq, DV.str.injEq, DV.sl.injEq, AV.tup.injEq, AV.agg.injEq, List.cons.injEq, and_true, true_and, and_self]))
theorem walScans_u (dss : List (List DV)) (h : typeds T 6 Tryd.f11.params.toList dss) (hs : ∀ cs, cs ∈ dss → ∀ c, c ∈ cs → SmallD 1048576 c) : acall Tryd.prog [] 11 (aargs T Tryd.f11.params.toList dss) (fun v _ => v = B true) := by
  rw [Tryd.params11] at h ⊢
  simp only [List.toList_toArray, typeds] at h
  obtain ⟨c0, d0, rfl, h0, rfl⟩ := h
  have s0 := hs c0 (by simp)
  obtain ⟨s, rfl, w_s⟩ := ty_str (m := 5) (by simp only [T_9, ty9]) h0
  have u_s := (s0 _ (List.mem_singleton.2 rfl)).len
  simp only [List.toList_toArray, aargs, aarg, TI.agg_mk, T_9, ty9]
  exact (walScans_w s u_s).mono fun _ _ h => h.1
end Go.Proofs.YtecbkeddfjalcaaDoor
