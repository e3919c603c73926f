/- Contracts of wal.Scan, wal.Last and their references. No condition. -/
import Derived.Test.YtmpfhalheaeibaaDoorWv
import Derived.Test.YtmpfhalheaeibaaDoorWe
namespace Go.Proofs.YtmpfhalheaeibaaDoor
set_option linter.unusedVariables false
set_option linter.unusedSimpArgs false
open Go Go.RowKit
set_option maxRecDepth 100000

def lastZ (l : List ATxn) : Int := if l = [] then 0 else (l.getD (l.length - 1) default).zxid
theorem lastZ_nil : lastZ [] = 0 := rfl
theorem lastZ_pos {l : List ATxn} (h : 0 < l.length) : lastZ l = (l.getD (l.length - 1) default).zxid := by
  unfold lastZ; rw [if_neg (fun e => by rw [e] at h; exact absurd h (by decide))]
theorem lastZ_snoc (l : List ATxn) (t : ATxn) : lastZ (l ++ [t]) = t.zxid := by
  rw [lastZ_pos (by simp)]; simp
theorem last_c (l : List ATxn) (h : l.length * 72 ≤ 140737488351232) : acall Tryd.prog [] 18 [.d (.sl 7 (l.map ATxn.row))] (ret (I (lastZ l))) := by
  refine acall_of tabOk Tryd.func18 rfl (by kernel_rfl) (by simp [Tryd.ntmps18]) ?_; simp only [Tryd.ntmps18, Tryd.results18, List.toList_toArray, apar, List.length_nil, List.length_cons, Nat.reduceAdd]
  repeat' first
    | (with_reducible first | refine AWP.seq ?_ | refine thenA_n ?_ | refine thenA_r ?_ | refine thenA_e ?_ | refine blkA_n ?_ | refine blkA_r ?_ | refine blkA_e ?_ | refine blkA_x (by decide) ?_ | refine AWP.skip ?_ | refine AWP.ret ?_ | refine AWP.exit ?_ | refine AWP.block ?_)
    | (with_reducible refine AWP.cond rfl ?_ ?_ <;> intro hc <;> (try simp only [hcs, beq_iff_eq, ge_iff_le, gt_iff_lt] at hc))
    | ((first
      | (with_reducible first | refine AWP.region tabOk ?_ | refine AWP.quietC mixed tabOk (by decide +kernel) ?_ | refine AWP.draw mixed tabOk (by decide +kernel) ?_ | refine AWP.drawE mixed tabOk (by decide +kernel) ?_ | refine AWP.drawG mixed tabOk (by decide +kernel) ?_); intro K hK); ((try simp (disch := omega) only [go_sem, wrap_n, ATxn.rgetD]) <;> (repeat' with_reducible refine And.intro ?_ ?_) <;> (try (with_reducible refine hK _ ?_; clear hK K))))
    | ((first | (with_reducible refine aunder_i ?_ ?_ <;> intro hg) | with_reducible intro hg) <;> (first | (exfalso; simp at hg; done) | (have hg' := hg; (try simp only [hcs, beq_iff_eq, ge_iff_le, gt_iff_lt] at hg'); ((try simp (disch := omega) only [hg, go_sem, wrap_n, ATxn.rgetD]) <;> (repeat' with_reducible refine And.intro ?_ ?_) <;> (try (with_reducible refine hK _ ?_; clear hK K))))))
                                                            | omega
  · have e : l = [] := List.eq_nil_of_length_eq_zero (by omega)
    rw [e, lastZ_nil]; (refine aend_retc ?_ rfl ?_ ?_ ?_ ?_; (focus (first | exact .inl rfl | exact .inr rfl)); (iterate 3 (focus ((try simp (disch := omega) only [go_sem, wrap_n]) <;> (try omega) <;> fail))); (try simp (disch := omega) only [go_sem, wrap_n, I, B, S, inj, List.cons.injEq, and_true, true_and, and_self]))
  all_goals first | omega | skip
  rw [lastZ_pos (by omega)]
  have e : (((l.length : Int) - 1).toNat) = l.length - 1 := by omega
  (refine aend_retc ?_ rfl ?_ ?_ ?_ ?_; (focus (first | exact .inl rfl | exact .inr rfl)); (iterate 3 (focus ((try simp (disch := omega) only [go_sem, wrap_n, ATxn.rgetD, e]) <;> (try omega) <;> fail))); (try simp (disch := omega) only [go_sem, wrap_n, ATxn.rgetD, e, I, B, S, inj, List.cons.injEq, and_true, true_and, and_self]))
  all_goals trace_state
theorem ref_last_c (l : List ATxn) (h : l.length * 72 ≤ 140737488351232) : acall Tryd.prog [] 19 [.d (.sl 7 (l.map ATxn.row))] (ret (I (lastZ l))) := by
  refine acall_of tabOk Tryd.func19 rfl (by kernel_rfl) (by simp [Tryd.ntmps19]) ?_; simp only [Tryd.ntmps19, Tryd.results19, List.toList_toArray, apar, List.length_nil, List.length_cons, Nat.reduceAdd]
  repeat' first
    | (with_reducible first | refine AWP.seq ?_ | refine thenA_n ?_ | refine thenA_r ?_ | refine thenA_e ?_ | refine blkA_n ?_ | refine blkA_r ?_ | refine blkA_e ?_ | refine blkA_x (by decide) ?_ | refine AWP.skip ?_ | refine AWP.ret ?_ | refine AWP.exit ?_ | refine AWP.block ?_)
    | (with_reducible refine AWP.cond rfl ?_ ?_ <;> intro hc <;> (try simp only [hcs, beq_iff_eq, ge_iff_le, gt_iff_lt] at hc))
    | ((first
      | (with_reducible first | refine AWP.region tabOk ?_ | refine AWP.quietC mixed tabOk (by decide +kernel) ?_ | refine AWP.draw mixed tabOk (by decide +kernel) ?_ | refine AWP.drawE mixed tabOk (by decide +kernel) ?_ | refine AWP.drawG mixed tabOk (by decide +kernel) ?_); intro K hK); ((try simp (disch := omega) only [go_sem, wrap_n]) <;> (repeat' with_reducible refine And.intro ?_ ?_) <;> (try (with_reducible refine hK _ ?_; clear hK K))))
    | ((first | (with_reducible refine aunder_i ?_ ?_ <;> intro hg) | with_reducible intro hg) <;> (first | (exfalso; simp at hg; done) | (have hg' := hg; (try simp only [hcs, beq_iff_eq, ge_iff_le, gt_iff_lt] at hg'); ((try simp (disch := omega) only [hg, go_sem, wrap_n]) <;> (repeat' with_reducible refine And.intro ?_ ?_) <;> (try (with_reducible refine hK _ ?_; clear hK K))))))
                                                            | omega
  refine AWP.loopB (ι := Nat) (fun k => k ≤ l.length) (fun k => l.length - k) [6, 7] (fun k => [(8, I k), (3, I (lastZ (l.take k)))]) (fun k => []) 0 ?_ ?_ ?_
  · omega
  · simp only [go_sem, lastZ_nil]; (refine SImp.same ?_; simp (disch := omega) only [go_sem, wrap_n, Int.natCast_add])
  intro k hk
  simp only [go_sem]
  repeat' first
    | (with_reducible first | refine AWP.seq ?_ | refine thenA_n ?_ | refine thenA_r ?_ | refine thenA_e ?_ | refine blkA_n ?_ | refine blkA_r ?_ | refine blkA_e ?_ | refine blkA_x (by decide) ?_ | refine AWP.skip ?_ | refine AWP.ret ?_ | refine AWP.exit ?_ | refine AWP.block ?_)
    | (with_reducible refine AWP.cond rfl ?_ ?_ <;> intro hc <;> (try simp only [hcs, beq_iff_eq, ge_iff_le, gt_iff_lt] at hc))
    | ((first
      | (with_reducible first | refine AWP.region tabOk ?_ | refine AWP.quietC mixed tabOk (by decide +kernel) ?_ | refine AWP.draw mixed tabOk (by decide +kernel) ?_ | refine AWP.drawE mixed tabOk (by decide +kernel) ?_ | refine AWP.drawG mixed tabOk (by decide +kernel) ?_); intro K hK); ((try simp (disch := omega) only [go_sem, wrap_n, ATxn.rgetD]) <;> (repeat' with_reducible refine And.intro ?_ ?_) <;> (try (with_reducible refine hK _ ?_; clear hK K))))
    | ((first | (with_reducible refine aunder_i ?_ ?_ <;> intro hg) | with_reducible intro hg) <;> (first | (exfalso; simp at hg; done) | (have hg' := hg; (try simp only [hcs, beq_iff_eq, ge_iff_le, gt_iff_lt] at hg'); ((try simp (disch := omega) only [hg, go_sem, wrap_n, ATxn.rgetD]) <;> (repeat' with_reducible refine And.intro ?_ ?_) <;> (try (with_reducible refine hK _ ?_; clear hK K))))))
                                                            | omega
  · refine ⟨k + 1, by omega, by omega, ?_⟩
    have e : l.take (k + 1) = l.take k ++ [l.getD k default] := take_snoc l k (by assumption)
    rw [e, lastZ_snoc]
    (refine SImp.frame [] rfl (by intro k hk; first | (simp at hk <;> (simp; omega)) | (simp only [List.mem_cons, List.not_mem_nil, or_false] at hk; simp only [List.length_cons, List.length_nil]; omega)) (by decide) (fun k hk => by first | omega | (rcases k with _ | _ | _ | _ | k <;> first | rfl | omega)) ?_ ?_ <;> simp (disch := omega) only [go_sem, wrap_n, Int.natCast_add, true_and] <;> (try rfl))
  · rw [show k = l.length from by omega, List.take_length]; (refine aend_retc ?_ rfl ?_ ?_ ?_ ?_; (focus (first | exact .inl rfl | exact .inr rfl)); (iterate 3 (focus ((try simp (disch := omega) only [go_sem, wrap_n]) <;> (try omega) <;> fail))); (try simp (disch := omega) only [go_sem, wrap_n, I, B, S, inj, List.cons.injEq, and_true, true_and, and_self]))
theorem sameLog_c (a b : List ATxn) (h : a.length * 72 ≤ 140737488351232) (h2 : b.length * 72 ≤ 140737488351232) : acall Tryd.prog [] 25 [.d (.sl 7 (a.map ATxn.row)), .d (.sl 7 (b.map ATxn.row))] (ret (B (decide (a = b)))) := by
  refine acall_of tabOk Tryd.func25 rfl (by kernel_rfl) (by simp [Tryd.ntmps25]) ?_; simp only [Tryd.ntmps25, Tryd.results25, List.toList_toArray, apar, List.length_nil, List.length_cons, Nat.reduceAdd]
  repeat' first
    | (with_reducible first | refine AWP.seq ?_ | refine thenA_n ?_ | refine thenA_r ?_ | refine thenA_e ?_ | refine blkA_n ?_ | refine blkA_r ?_ | refine blkA_e ?_ | refine blkA_x (by decide) ?_ | refine AWP.skip ?_ | refine AWP.ret ?_ | refine AWP.exit ?_ | refine AWP.block ?_)
    | (with_reducible refine AWP.cond rfl ?_ ?_ <;> intro hc <;> (try simp only [hcs, beq_iff_eq, ge_iff_le, gt_iff_lt] at hc))
    | ((first
      | (with_reducible first | refine AWP.region tabOk ?_ | refine AWP.quietC mixed tabOk (by decide +kernel) ?_ | refine AWP.draw mixed tabOk (by decide +kernel) ?_ | refine AWP.drawE mixed tabOk (by decide +kernel) ?_ | refine AWP.drawG mixed tabOk (by decide +kernel) ?_); intro K hK); ((try simp (disch := omega) only [go_sem, wrap_n]) <;> (repeat' with_reducible refine And.intro ?_ ?_) <;> (try (with_reducible refine hK _ ?_; clear hK K))))
    | ((first | (with_reducible refine aunder_i ?_ ?_ <;> intro hg) | with_reducible intro hg) <;> (first | (exfalso; simp at hg; done) | (have hg' := hg; (try simp only [hcs, beq_iff_eq, ge_iff_le, gt_iff_lt] at hg'); ((try simp (disch := omega) only [hg, go_sem, wrap_n]) <;> (repeat' with_reducible refine And.intro ?_ ?_) <;> (try (with_reducible refine hK _ ?_; clear hK K))))))
                                                            | omega
  · (refine aend_retc ?_ rfl ?_ ?_ ?_ ?_; (focus (first | exact .inl rfl | exact .inr rfl)); (iterate 3 (focus ((try simp (disch := omega) only [go_sem, wrap_n]) <;> (try omega) <;> fail))); (try simp (disch := omega) only [go_sem, wrap_n, I, B, S, inj, List.cons.injEq, and_true, true_and, and_self]))
    symm; rw [decide_eq_false_iff_not]; intro e; subst e; simp at hc
  have h3 := hc
  refine AWP.loopS (ι := Nat) (fun k => k ≤ a.length ∧ ∀ j, j < k → a.getD j default = b.getD j default) (fun k => a.length - k) [0, 1, 12] (fun k => [(13, I k)]) 0 ?_ (by simp (disch := omega) only [go_sem, wrap_n, true_and]) ?_
  · exact ⟨by omega, by omega⟩
  intro k ⟨hk, hk2⟩
  simp only [go_sem]
  repeat' first
    | (with_reducible first | refine AWP.seq ?_ | refine thenA_n ?_ | refine thenA_r ?_ | refine thenA_e ?_ | refine blkA_n ?_ | refine blkA_r ?_ | refine blkA_e ?_ | refine blkA_x (by decide) ?_ | refine AWP.skip ?_ | refine AWP.ret ?_ | refine AWP.exit ?_ | refine AWP.block ?_)
    | (with_reducible refine AWP.cond rfl ?_ ?_ <;> intro hc <;> (try simp only [hcs, beq_iff_eq, ge_iff_le, gt_iff_lt] at hc))
    | ((first
      | (with_reducible first | refine AWP.region tabOk ?_ | refine AWP.quietC mixed tabOk (by decide +kernel) ?_ | refine AWP.draw mixed tabOk (by decide +kernel) ?_ | refine AWP.drawE mixed tabOk (by decide +kernel) ?_ | refine AWP.drawG mixed tabOk (by decide +kernel) ?_); intro K hK); ((try simp (disch := omega) only [go_sem, wrap_n, ATxn.rgetD]) <;> (repeat' with_reducible refine And.intro ?_ ?_) <;> (try (with_reducible refine hK _ ?_; clear hK K))))
    | ((first | (with_reducible refine aunder_i ?_ ?_ <;> intro hg) | with_reducible intro hg) <;> (first | (exfalso; simp at hg; done) | (have hg' := hg; (try simp only [hcs, beq_iff_eq, ge_iff_le, gt_iff_lt] at hg'); ((try simp (disch := omega) only [hg, go_sem, wrap_n, ATxn.rgetD]) <;> (repeat' with_reducible refine And.intro ?_ ?_) <;> (try (with_reducible refine hK _ ?_; clear hK K))))))
                                                            | omega
  · (refine aend_retc ?_ rfl ?_ ?_ ?_ ?_; (focus (first | exact .inl rfl | exact .inr rfl)); (iterate 3 (focus ((try simp (disch := omega) only [go_sem, wrap_n]) <;> (try omega) <;> fail))); (try simp (disch := omega) only [go_sem, wrap_n, I, B, S, inj, List.cons.injEq, and_true, true_and, and_self]))
    symm; rw [decide_eq_false_iff_not]; intro e; subst e; simp at hc
  · refine ⟨k + 1, ⟨by omega, fun j hj => ?_⟩, by omega, ?_⟩
    · by_cases e : j = k
      · subst e; exact hc
      · exact hk2 j (by omega)
    (refine SImp.same ?_; simp (disch := omega) only [go_sem, wrap_n, Int.natCast_add])
  · (refine aend_retc ?_ rfl ?_ ?_ ?_ ?_; (focus (first | exact .inl rfl | exact .inr rfl)); (iterate 3 (focus ((try simp (disch := omega) only [go_sem, wrap_n]) <;> (try omega) <;> fail))); (try simp (disch := omega) only [go_sem, wrap_n, I, B, S, inj, List.cons.injEq, and_true, true_and, and_self]))
    symm; rw [decide_eq_true_eq]
    exact eq_of_getD (by omega) fun j hj => hk2 j (by omega)
def scanG (s : List UInt8) : Nat → Nat → List ATxn → List ATxn × Nat
  | 0, at_, l => (l, at_)
  | f + 1, at_, l => if (decT (s.drop at_)).2.2 ≠ 0 ∨ (0 < l.length ∧ (decT (s.drop at_)).1.zxid ≤ lastZ l) then (l, at_) else scanG s f (at_ + (decT (s.drop at_)).2.1.toNat) (l ++ [(decT (s.drop at_)).1])
def scanT (s : List UInt8) : List ATxn × Nat := scanG s (s.length + 1) 0 []
theorem decT_cases (s : List UInt8) : ((decT s).2.2 ≠ 0 ∧ (decT s).2.1 = 0) ∨ ((decT s).2.2 = 0 ∧ (decT s).2.1 = ((sN s + 7 : Nat) : Int) ∧ sN s + 7 ≤ s.length ∧ sN s ≤ 1024 ∧ goodT (decT s).1 = 0) := by
  by_cases h1 : noHead s
  · rw [decT_a h1]; left; simp
  by_cases h2 : noRoom s
  · rw [decT_b h1 h2]; left; simp
  by_cases h3 : noSum s
  · rw [decT_c h1 h2 h3]; left; simp
  by_cases h4 : bodyOk (sB s)
  case neg => rw [decT_d h1 h2 h3 h4]; left; simp
  by_cases h5 : goodT (bodyT (sB s)) = 0
  · rw [decT_f h1 h2 h3 h4 h5]; right
    unfold noRoom at h2
    exact ⟨rfl, rfl, by omega, by omega, h5⟩
  · rw [decT_e h1 h2 h3 h4 h5]; left; exact ⟨h5, rfl⟩
theorem scanG_stop {s : List UInt8} {f at_ : Nat} {l : List ATxn} (h : (decT (s.drop at_)).2.2 ≠ 0 ∨ (0 < l.length ∧ (decT (s.drop at_)).1.zxid ≤ lastZ l)) : scanG s f at_ l = (l, at_) := by
  cases f with
  | zero => rfl
  | succ f => rw [scanG, if_pos h]
theorem scanG_end {s : List UInt8} {f at_ : Nat} {l : List ATxn} (h : s.length ≤ at_) : scanG s f at_ l = (l, at_) :=
  scanG_stop (.inl (by rw [decT_a (.inl (by rw [List.length_drop]; omega))]; decide))
theorem scanG_next {s : List UInt8} {f at_ n : Nat} {l : List ATxn} (h1 : (decT (s.drop at_)).2.2 = 0) (h2 : ¬ (0 < l.length ∧ (decT (s.drop at_)).1.zxid ≤ lastZ l)) (hn : (decT (s.drop at_)).2.1 = (n : Int)) : scanG s (f + 1) at_ l = scanG s f (at_ + n) (l ++ [(decT (s.drop at_)).1]) := by
  rw [scanG, if_neg (by rintro (h | h); exact h h1; exact h2 h), hn]; rfl
theorem scan_c (s : List UInt8) (hs : s.length ≤ 1048576) : acall Tryd.prog [] 70 [S s] (ret (.tup [.d (.sl 7 ((scanT s).1.map ATxn.row)), I (scanT s).2])) := by
  refine acall_of tabOk Tryd.func70 rfl (by kernel_rfl) (by simp [Tryd.ntmps70]) ?_; simp only [Tryd.ntmps70, Tryd.results70, List.toList_toArray, apar, List.length_nil, List.length_cons, Nat.reduceAdd]
  repeat' first
    | (with_reducible first | refine AWP.seq ?_ | refine thenA_n ?_ | refine thenA_r ?_ | refine thenA_e ?_ | refine blkA_n ?_ | refine blkA_r ?_ | refine blkA_e ?_ | refine blkA_x (by decide) ?_ | refine AWP.skip ?_ | refine AWP.ret ?_ | refine AWP.exit ?_ | refine AWP.block ?_)
    | (with_reducible refine AWP.cond rfl ?_ ?_ <;> intro hc <;> (try simp only [hcs, beq_iff_eq, ge_iff_le, gt_iff_lt] at hc))
    | ((first
      | (with_reducible first | refine AWP.region tabOk ?_ | refine AWP.quietC mixed tabOk (by decide +kernel) ?_ | refine AWP.draw mixed tabOk (by decide +kernel) ?_ | refine AWP.drawE mixed tabOk (by decide +kernel) ?_ | refine AWP.drawG mixed tabOk (by decide +kernel) ?_); intro K hK); ((try simp (disch := omega) only [go_sem, wrap_n]) <;> (repeat' with_reducible refine And.intro ?_ ?_) <;> (try (with_reducible refine hK _ ?_; clear hK K))))
    | ((first | (with_reducible refine aunder_i ?_ ?_ <;> intro hg) | with_reducible intro hg) <;> (first | (exfalso; simp at hg; done) | (have hg' := hg; (try simp only [hcs, beq_iff_eq, ge_iff_le, gt_iff_lt] at hg'); ((try simp (disch := omega) only [hg, go_sem, wrap_n]) <;> (repeat' with_reducible refine And.intro ?_ ?_) <;> (try (with_reducible refine hK _ ?_; clear hK K))))))
                                                            | omega
  refine AWP.weaken (SImp.nilOwn 4 7 rfl) ?_
  simp only [go_sem]
  refine AWP.loopB (ι := Nat × Nat × List ATxn) (fun v => v.2.1 ≤ s.length ∧ s.length < v.2.1 + v.1 ∧ v.2.2.length ≤ v.2.1 ∧ scanG s v.1 v.2.1 v.2.2 = scanT s) (fun v => v.1) [0] (fun v => [(5, I v.2.1), (4, .osl 0 7 0 v.2.2.length)]) (fun v => [.rows 7 (v.2.2.map ATxn.row)]) (s.length + 1, 0, []) ?_ ?_ ?_
  · exact ⟨by simp, by simp, by simp, rfl⟩
  · simp only [go_sem]; (refine SImp.same ?_; simp (disch := omega) only [go_sem, wrap_n, Int.natCast_add])
  intro ⟨f, k, l⟩ ⟨h1, h2, h3, h4⟩
  simp only at h1 h2 h3 h4
  simp only [go_sem]
  have ed : List.take (s.length - k) (List.drop k s) = List.drop k s := List.take_of_length_le (by rw [List.length_drop]; omega)
  repeat' first
    | (with_reducible first | refine AWP.seq ?_ | refine thenA_n ?_ | refine thenA_r ?_ | refine thenA_e ?_ | refine blkA_n ?_ | refine blkA_r ?_ | refine blkA_e ?_ | refine blkA_x (by decide) ?_ | refine AWP.skip ?_ | refine AWP.ret ?_ | refine AWP.exit ?_ | refine AWP.block ?_)
    | (with_reducible refine AWP.cond rfl ?_ ?_ <;> intro hc <;> (try simp only [hcs, beq_iff_eq, ge_iff_le, gt_iff_lt] at hc))
    | ((first
      | (with_reducible first | refine AWP.region tabOk ?_ | refine AWP.quietC mixed tabOk (by decide +kernel) ?_ | refine AWP.draw mixed tabOk (by decide +kernel) ?_ | refine AWP.drawE mixed tabOk (by decide +kernel) ?_ | refine AWP.drawG mixed tabOk (by decide +kernel) ?_); intro K hK
      | ((first | refine acallH_sc (decode_c (s.drop k) (by rw [List.length_drop]; omega)) rfl rfl ?_ ?_ ?_ | refine acallQ_sc (decode_c (s.drop k) (by rw [List.length_drop]; omega)) rfl rfl ?_ ?_ ?_ | refine acallH_sc (last_c l (by omega)) rfl rfl ?_ ?_ ?_ | refine acallQ_sc (last_c l (by omega)) rfl rfl ?_ ?_ ?_); iterate 2 (focus ((try simp (disch := omega) only [go_sem, wrap_n, ed, take_map_len, ATxn.rsnoc]) <;> (try omega) <;> fail)))
      | ((first | refine acallH_anyr (decode_c (s.drop k) (by rw [List.length_drop]; omega)) rfl ?_ ?_ | refine acallH_anyr (last_c l (by omega)) rfl ?_ ?_); (focus ((try simp (disch := omega) only [go_sem, wrap_n, ed, take_map_len, ATxn.rsnoc]) <;> (try omega) <;> fail)))
      | ((first | refine acallH_scx (decode_c (s.drop k) (by rw [List.length_drop]; omega)) rfl ?_ ?_ | refine acallQ_scx (decode_c (s.drop k) (by rw [List.length_drop]; omega)) rfl ?_ ?_ | refine acallH_anyx (decode_c (s.drop k) (by rw [List.length_drop]; omega)) ?_ ?_); (focus ((try simp (disch := omega) only [go_sem, wrap_n, ed, take_map_len, ATxn.rsnoc]) <;> (try omega) <;> fail)))
      | ((first | refine acallH_scx (last_c l (by omega)) rfl ?_ ?_ | refine acallQ_scx (last_c l (by omega)) rfl ?_ ?_ | refine acallH_anyx (last_c l (by omega)) ?_ ?_); (focus ((try simp (disch := omega) only [go_sem, wrap_n, ed, take_map_len, ATxn.rsnoc]) <;> (try omega) <;> fail)))); ((try simp (disch := omega) only [go_sem, wrap_n, ed, take_map_len, ATxn.rsnoc]) <;> (repeat' with_reducible refine And.intro ?_ ?_) <;> (try (with_reducible refine hK _ ?_; clear hK K))))
    | ((first | (with_reducible refine aunder_i ?_ ?_ <;> intro hg) | with_reducible intro hg) <;> (first | (exfalso; simp at hg; done) | (have hg' := hg; (try simp only [hcs, beq_iff_eq, ge_iff_le, gt_iff_lt] at hg'); ((try simp (disch := omega) only [hg, go_sem, wrap_n, ed, take_map_len, ATxn.rsnoc]) <;> (repeat' with_reducible refine And.intro ?_ ?_) <;> (try (with_reducible refine hK _ ?_; clear hK K))))))
                                                            | omega
  · rw [← h4, scanG_stop (hc.imp id fun h => ⟨by omega, h.2⟩)]; (refine aend_retc ?_ rfl ?_ ?_ ?_ ?_; (focus (first | exact .inl rfl | exact .inr rfl)); (iterate 3 (focus ((try simp (disch := omega) only [go_sem, wrap_n]) <;> (try omega) <;> fail))); (try simp (disch := omega) only [go_sem, wrap_n, I, B, S, inj, List.cons.injEq, and_true, true_and, and_self]))
  · rcases decT_cases (s.drop k) with ⟨q, _⟩ | ⟨q1, q2, q3, q4, _⟩
    · exact absurd hc.1 q
    rw [List.length_drop] at q3
    have q5 := scanG_next (s := s) (f := f - 1) (at_ := k) (n := sN (s.drop k) + 7) (l := l) q1 (fun h => by omega) q2
    rw [show f - 1 + 1 = f from by omega] at q5
    refine ⟨(f - 1, k + (sN (s.drop k) + 7), l ++ [(decT (s.drop k)).1]), ⟨by simp only; omega, by simp only; omega, by simp; omega, q5.symm.trans h4⟩, by simp only; omega, ?_⟩
    (refine SImp.frame [3] rfl (by intro k hk; first | (simp at hk <;> (simp; omega)) | (simp only [List.mem_cons, List.not_mem_nil, or_false] at hk; simp only [List.length_cons, List.length_nil]; omega)) (by decide) (fun k hk => by first | omega | (rcases k with _ | _ | _ | _ | k <;> first | rfl | omega)) ?_ ?_ <;> simp (disch := omega) only [go_sem, wrap_n, Int.natCast_add, q2, List.length_append, ATxn.rsnoc] <;> (try rfl))
  · have hx : (decT (s.drop k)).2.2 ≠ 0 ∨ (0 < l.length ∧ (decT (s.drop k)).1.zxid ≤ lastZ l) := by
      by_cases e : (decT (s.drop k)).2.2 = 0
      · rcases hc with h | h
        · exact .inl h
        · rw [e] at hg; simp at hg; omega
      · exact .inl e
    rw [← h4, scanG_stop hx]; (refine aend_retc ?_ rfl ?_ ?_ ?_ ?_; (focus (first | exact .inl rfl | exact .inr rfl)); (iterate 3 (focus ((try simp (disch := omega) only [go_sem, wrap_n]) <;> (try omega) <;> fail))); (try simp (disch := omega) only [go_sem, wrap_n, I, B, S, inj, List.cons.injEq, and_true, true_and, and_self]))
  · rcases decT_cases (s.drop k) with ⟨q, _⟩ | ⟨q1, q2, q3, q4, _⟩
    · exact absurd hc.1 q
    have hl0 : l.length = 0 := by rw [q1] at hg; simp at hg; rw [hg]; rfl
    rw [List.length_drop] at q3
    have q5 := scanG_next (s := s) (f := f - 1) (at_ := k) (n := sN (s.drop k) + 7) (l := l) q1 (fun h => by omega) q2
    rw [show f - 1 + 1 = f from by omega] at q5
    refine ⟨(f - 1, k + (sN (s.drop k) + 7), l ++ [(decT (s.drop k)).1]), ⟨by simp only; omega, by simp only; omega, by simp; omega, q5.symm.trans h4⟩, by simp only; omega, ?_⟩
    (refine SImp.frame [3] rfl (by intro k hk; first | (simp at hk <;> (simp; omega)) | (simp only [List.mem_cons, List.not_mem_nil, or_false] at hk; simp only [List.length_cons, List.length_nil]; omega)) (by decide) (fun k hk => by first | omega | (rcases k with _ | _ | _ | _ | k <;> first | rfl | omega)) ?_ ?_ <;> simp (disch := omega) only [go_sem, wrap_n, Int.natCast_add, q2, List.length_append, ATxn.rsnoc] <;> (try rfl))
  · rw [← h4, scanG_end (by omega)]; (refine aend_retc ?_ rfl ?_ ?_ ?_ ?_; (focus (first | exact .inl rfl | exact .inr rfl)); (iterate 3 (focus ((try simp (disch := omega) only [go_sem, wrap_n]) <;> (try omega) <;> fail))); (try simp (disch := omega) only [go_sem, wrap_n, I, B, S, inj, List.cons.injEq, and_true, true_and, and_self]))
  all_goals trace_state
theorem scanT_none {s : List UInt8} (h : (decT s).2.2 ≠ 0) : scanT s = ([], 0) := scanG_stop (.inl h)
theorem scanT_some {s : List UInt8} {n : Nat} (h : (decT s).2.2 = 0) (hn : (decT s).2.1 = (n : Int)) : scanG s s.length n [(decT s).1] = scanT s := by
  have := scanG_next (s := s) (f := s.length) (at_ := 0) (n := n) (l := []) (by rw [List.drop_zero]; exact h) (by simp) (by rw [List.drop_zero]; exact hn)
  rw [List.drop_zero, Nat.zero_add, List.nil_append] at this
  exact this.symm
theorem ref_scan_c (s : List UInt8) (hs : s.length ≤ 1048576) : acall Tryd.prog [] 73 [S s] (ret (.tup [.d (.sl 7 ((scanT s).1.map ATxn.row)), I (scanT s).2])) := by
  refine acall_of tabOk Tryd.func73 rfl (by kernel_rfl) (by simp [Tryd.ntmps73]) ?_; simp only [Tryd.ntmps73, Tryd.results73, List.toList_toArray, apar, List.length_nil, List.length_cons, Nat.reduceAdd]
  repeat' first
    | (with_reducible first | refine AWP.seq ?_ | refine thenA_n ?_ | refine thenA_r ?_ | refine thenA_e ?_ | refine blkA_n ?_ | refine blkA_r ?_ | refine blkA_e ?_ | refine blkA_x (by decide) ?_ | refine AWP.skip ?_ | refine AWP.ret ?_ | refine AWP.exit ?_ | refine AWP.block ?_)
    | (with_reducible refine AWP.cond rfl ?_ ?_ <;> intro hc <;> (try simp only [hcs, beq_iff_eq, ge_iff_le, gt_iff_lt] at hc))
    | ((first
      | (with_reducible first | refine AWP.region tabOk ?_ | refine AWP.quietC mixed tabOk (by decide +kernel) ?_ | refine AWP.draw mixed tabOk (by decide +kernel) ?_ | refine AWP.drawE mixed tabOk (by decide +kernel) ?_ | refine AWP.drawG mixed tabOk (by decide +kernel) ?_); intro K hK
      | ((first | refine acallH_sc (ref_decode_c s hs) rfl rfl ?_ ?_ ?_ | refine acallQ_sc (ref_decode_c s hs) rfl rfl ?_ ?_ ?_); iterate 2 (focus ((try simp (disch := omega) only [go_sem, wrap_n]) <;> (try omega) <;> fail)))
      | ((first | refine acallH_anyr (ref_decode_c s hs) rfl ?_ ?_); (focus ((try simp (disch := omega) only [go_sem, wrap_n]) <;> (try omega) <;> fail)))
      | ((first | refine acallH_scx (ref_decode_c s hs) rfl ?_ ?_ | refine acallQ_scx (ref_decode_c s hs) rfl ?_ ?_ | refine acallH_anyx (ref_decode_c s hs) ?_ ?_); (focus ((try simp (disch := omega) only [go_sem, wrap_n]) <;> (try omega) <;> fail)))); ((try simp (disch := omega) only [go_sem, wrap_n]) <;> (repeat' with_reducible refine And.intro ?_ ?_) <;> (try (with_reducible refine hK _ ?_; clear hK K))))
    | ((first | (with_reducible refine aunder_i ?_ ?_ <;> intro hg) | with_reducible intro hg) <;> (first | (exfalso; simp at hg; done) | (have hg' := hg; (try simp only [hcs, beq_iff_eq, ge_iff_le, gt_iff_lt] at hg'); ((try simp (disch := omega) only [hg, go_sem, wrap_n]) <;> (repeat' with_reducible refine And.intro ?_ ?_) <;> (try (with_reducible refine hK _ ?_; clear hK K))))))
                                                            | omega
  · rw [scanT_none hc]; (refine aend_retc ?_ rfl ?_ ?_ ?_ ?_; (focus (first | exact .inl rfl | exact .inr rfl)); (iterate 3 (focus ((try simp (disch := omega) only [go_sem, wrap_n]) <;> (try omega) <;> fail))); (try simp (disch := omega) only [go_sem, wrap_n, I, B, S, inj, List.cons.injEq, and_true, true_and, and_self]))
  rcases decT_cases s with ⟨q, _⟩ | ⟨q1, q2, q3, q4, _⟩
  · exact absurd hc q
  refine AWP.loopB (ι := Nat × Nat × List ATxn × ATxn) (fun v => v.2.1 ≤ s.length ∧ s.length < v.2.1 + v.1 ∧ v.2.2.1.length ≤ v.2.1 ∧ 0 < v.2.2.1.length ∧ scanG s v.1 v.2.1 v.2.2.1 = scanT s) (fun v => v.1) [0, 4] (fun v => [(8, I v.2.1), (7, .osl 1 7 0 v.2.2.1.length)]) (fun v => [.cells [I v.2.2.2.zxid, I v.2.2.2.op, I v.2.2.2.session, S v.2.2.2.path, S v.2.2.2.data, I v.2.2.2.version, I v.2.2.2.owner], .rows 7 (v.2.2.1.map ATxn.row)]) (s.length, sN s + 7, [(decT s).1], (decT s).1) ?_ ?_ ?_
  · exact ⟨q3, by simp only; omega, by simp, by simp, scanT_some q1 q2⟩
  · simp only [go_sem, q2]; (refine SImp.same ?_; simp (disch := omega) only [go_sem, wrap_n, Int.natCast_add])
  intro ⟨f, k, l, t⟩ ⟨h1, h2, h3, h5, h4⟩
  simp only at h1 h2 h3 h4 h5
  simp only [go_sem]
  have ed : List.take (s.length - k) (List.drop k s) = List.drop k s := List.take_of_length_le (by rw [List.length_drop]; omega)
  have el : ((l.length : Int) - 1).toNat = l.length - 1 := by omega
  have lz := (lastZ_pos h5).symm
  repeat' first
    | (with_reducible first | refine AWP.seq ?_ | refine thenA_n ?_ | refine thenA_r ?_ | refine thenA_e ?_ | refine blkA_n ?_ | refine blkA_r ?_ | refine blkA_e ?_ | refine blkA_x (by decide) ?_ | refine AWP.skip ?_ | refine AWP.ret ?_ | refine AWP.exit ?_ | refine AWP.block ?_)
    | (with_reducible refine AWP.cond rfl ?_ ?_ <;> intro hc <;> (try simp only [hcs, beq_iff_eq, ge_iff_le, gt_iff_lt] at hc))
    | ((first
      | (with_reducible first | refine AWP.region tabOk ?_ | refine AWP.quietC mixed tabOk (by decide +kernel) ?_ | refine AWP.draw mixed tabOk (by decide +kernel) ?_ | refine AWP.drawE mixed tabOk (by decide +kernel) ?_ | refine AWP.drawG mixed tabOk (by decide +kernel) ?_); intro K hK
      | ((first | refine acallH_sc (ref_decode_c (s.drop k) (by rw [List.length_drop]; omega)) rfl rfl ?_ ?_ ?_ | refine acallQ_sc (ref_decode_c (s.drop k) (by rw [List.length_drop]; omega)) rfl rfl ?_ ?_ ?_); iterate 2 (focus ((try simp (disch := omega) only [go_sem, wrap_n, ed, take_map_len, ATxn.rsnoc, ATxn.rgetD, el, lz]) <;> (try omega) <;> fail)))
      | ((first | refine acallH_anyr (ref_decode_c (s.drop k) (by rw [List.length_drop]; omega)) rfl ?_ ?_); (focus ((try simp (disch := omega) only [go_sem, wrap_n, ed, take_map_len, ATxn.rsnoc, ATxn.rgetD, el, lz]) <;> (try omega) <;> fail)))
      | ((first | refine acallH_scx (ref_decode_c (s.drop k) (by rw [List.length_drop]; omega)) rfl ?_ ?_ | refine acallQ_scx (ref_decode_c (s.drop k) (by rw [List.length_drop]; omega)) rfl ?_ ?_ | refine acallH_anyx (ref_decode_c (s.drop k) (by rw [List.length_drop]; omega)) ?_ ?_); (focus ((try simp (disch := omega) only [go_sem, wrap_n, ed, take_map_len, ATxn.rsnoc, ATxn.rgetD, el, lz]) <;> (try omega) <;> fail)))); ((try simp (disch := omega) only [go_sem, wrap_n, ed, take_map_len, ATxn.rsnoc, ATxn.rgetD, el, lz]) <;> (repeat' with_reducible refine And.intro ?_ ?_) <;> (try (with_reducible refine hK _ ?_; clear hK K))))
    | ((first | (with_reducible refine aunder_i ?_ ?_ <;> intro hg) | with_reducible intro hg) <;> (first | (exfalso; simp at hg; done) | (have hg' := hg; (try simp only [hcs, beq_iff_eq, ge_iff_le, gt_iff_lt] at hg'); ((try simp (disch := omega) only [hg, go_sem, wrap_n, ed, take_map_len, ATxn.rsnoc, ATxn.rgetD, el, lz]) <;> (repeat' with_reducible refine And.intro ?_ ?_) <;> (try (with_reducible refine hK _ ?_; clear hK K))))))
                                                            | omega
  · rw [← h4, scanG_stop (hc.imp id fun h => ⟨h5, h⟩)]; (refine aend_retc ?_ rfl ?_ ?_ ?_ ?_; (focus (first | exact .inl rfl | exact .inr rfl)); (iterate 3 (focus ((try simp (disch := omega) only [go_sem, wrap_n]) <;> (try omega) <;> fail))); (try simp (disch := omega) only [go_sem, wrap_n, I, B, S, inj, List.cons.injEq, and_true, true_and, and_self]))
  · rcases decT_cases (s.drop k) with ⟨q, _⟩ | ⟨q1, q2, q3, q4, _⟩
    · exact absurd hc.1 q
    rw [List.length_drop] at q3
    have q5 := scanG_next (s := s) (f := f - 1) (at_ := k) (n := sN (s.drop k) + 7) (l := l) q1 (fun h => by omega) q2
    rw [show f - 1 + 1 = f from by omega] at q5
    refine ⟨(f - 1, k + (sN (s.drop k) + 7), l ++ [(decT (s.drop k)).1], (decT (s.drop k)).1), ⟨by simp only; omega, by simp only; omega, by simp; omega, by simp, q5.symm.trans h4⟩, by simp only; omega, ?_⟩
    (refine SImp.frame [0, 3] rfl (by intro k hk; first | (simp at hk <;> (simp; omega)) | (simp only [List.mem_cons, List.not_mem_nil, or_false] at hk; simp only [List.length_cons, List.length_nil]; omega)) (by decide) (fun k hk => by first | omega | (rcases k with _ | _ | _ | _ | k <;> first | rfl | omega)) ?_ ?_ <;> simp (disch := omega) only [go_sem, wrap_n, Int.natCast_add, q2, List.length_append, ATxn.rsnoc] <;> (try rfl))
def t1 : ATxn := ⟨1, 1, 1, [], [], 0, 0⟩
theorem opened_c : acall Tryd.prog [] 20 [] (ret (.d (.sl 7 [[.int .i64 1, .int .i64 1, .int .i64 1, .str [], .str [], .int .i64 0, .int .i64 0]]))) := by
  refine acall_of tabOk Tryd.func20 rfl (by kernel_rfl) (by simp [Tryd.ntmps20]) ?_; simp only [Tryd.ntmps20, Tryd.results20, List.toList_toArray, apar, List.length_nil, List.length_cons, Nat.reduceAdd]
  repeat' first
    | (with_reducible first | refine AWP.seq ?_ | refine thenA_n ?_ | refine thenA_r ?_ | refine thenA_e ?_ | refine blkA_n ?_ | refine blkA_r ?_ | refine blkA_e ?_ | refine blkA_x (by decide) ?_ | refine AWP.skip ?_ | refine AWP.ret ?_ | refine AWP.exit ?_ | refine AWP.block ?_)
    | (with_reducible refine AWP.cond rfl ?_ ?_ <;> intro hc <;> (try simp only [hcs, beq_iff_eq, ge_iff_le, gt_iff_lt] at hc))
    | ((first
      | (with_reducible first | refine AWP.region tabOk ?_ | refine AWP.quietC mixed tabOk (by decide +kernel) ?_ | refine AWP.draw mixed tabOk (by decide +kernel) ?_ | refine AWP.drawE mixed tabOk (by decide +kernel) ?_ | refine AWP.drawG mixed tabOk (by decide +kernel) ?_); intro K hK); ((try simp (disch := omega) only [go_sem, wrap_n]) <;> (repeat' with_reducible refine And.intro ?_ ?_) <;> (try (with_reducible refine hK _ ?_; clear hK K))))
    | ((first | (with_reducible refine aunder_i ?_ ?_ <;> intro hg) | with_reducible intro hg) <;> (first | (exfalso; simp at hg; done) | (have hg' := hg; (try simp only [hcs, beq_iff_eq, ge_iff_le, gt_iff_lt] at hg'); ((try simp (disch := omega) only [hg, go_sem, wrap_n]) <;> (repeat' with_reducible refine And.intro ?_ ?_) <;> (try (with_reducible refine hK _ ?_; clear hK K))))))
                                                            | omega
  (refine aend_retc ?_ rfl ?_ ?_ ?_ ?_; (focus (first | exact .inl rfl | exact .inr rfl)); (iterate 3 (focus ((try simp (disch := omega) only [go_sem, wrap_n]) <;> (try omega) <;> fail))); (try simp (disch := omega) only [go_sem, wrap_n, I, B, S, inj, List.cons.injEq, and_true, true_and, and_self]))
theorem t1_scan : (scanT (encT t1).1).1.length = 1 := by decide +kernel
theorem t1_len : (encT t1).1.length ≤ 1048576 := by decide +kernel
theorem scanG_len (s : List UInt8) : ∀ (f at_ : Nat) (l : List ATxn), (scanG s f at_ l).1.length ≤ l.length + f
  | 0, _, l => Nat.le_refl _
  | f + 1, at_, l => by
    rw [scanG]
    split
    · simp
    · have := scanG_len s f (at_ + (decT (s.drop at_)).2.1.toNat) (l ++ [(decT (s.drop at_)).1])
      rw [List.length_append, List.length_singleton] at this
      omega
theorem scanT_len (s : List UInt8) : (scanT s).1.length ≤ s.length + 1 := by
  have := scanG_len s (s.length + 1) 0 []
  simpa [scanT] using this
end Go.Proofs.YtmpfhalheaeibaaDoor
