/- Contracts of wire.Good and its reference. No condition. -/
import Derived.Test.YtmpfhalheaeibaaDoorPg
import Derived.Test.YtmpfhalheaeibaaDoorZx
import Derived.Test.YtmpfhalheaeibaaDoorMt
namespace Go.Proofs.YtmpfhalheaeibaaDoor
set_option linter.unusedVariables false
set_option linter.unusedSimpArgs false
open Go Go.RowKit
set_option maxRecDepth 100000

def numsB (t : ATxn) : Bool := decide (goodZ t.zxid) && (decide (1 ≤ t.session ∧ t.session ≤ 2147483647) && (decide (0 ≤ t.version ∧ t.version ≤ 2147483647) && decide (0 ≤ t.owner ∧ t.owner ≤ 2147483647)))
def badT (t : ATxn) : Bool :=
  if t.op ≤ 2 then !decide (t.path = []) || (!decide (t.data = []) || (!decide (t.version = 0) || !decide (t.owner = 0)))
  else if t.op = 3 then !goodP t.path || (decide (t.path = [47]) || !decide (t.version = 0))
  else if t.op = 4 then !goodP t.path || (decide (t.path = [47]) || (!decide (t.data = []) || (!decide (t.version = 0) || !decide (t.owner = 0))))
  else !goodP t.path || !decide (t.owner = 0)
def goodT (t : ATxn) : Int := if t.op < 1 ∨ 5 < t.op then 4 else if numsB t = false then 3 else if 256 < t.data.length then 1 else if badT t = true then 2 else 0
theorem goodT_op {t : ATxn} (h : t.op < 1 ∨ 5 < t.op) : goodT t = 4 := by unfold goodT; rw [if_pos h]
theorem goodT_num {t : ATxn} (h : 1 ≤ t.op ∧ t.op ≤ 5) (h2 : ¬ numsB t = true) : goodT t = 3 := by unfold goodT; rw [if_neg (by omega), if_pos (eq_false_of_ne_true h2)]
theorem goodT_long {t : ATxn} (h : 1 ≤ t.op ∧ t.op ≤ 5) (h2 : numsB t = true) (h3 : 256 < t.data.length) : goodT t = 1 := by unfold goodT; rw [if_neg (by omega), if_neg (by rw [h2]; decide), if_pos h3]
theorem goodT_ok {t : ATxn} (h : 1 ≤ t.op ∧ t.op ≤ 5) (h2 : numsB t = true) (h3 : t.data.length ≤ 256) : goodT t = if badT t = true then 2 else 0 := by unfold goodT; rw [if_neg (by omega), if_neg (by rw [h2]; decide), if_neg (by omega)]
theorem numsB_iff (t : ATxn) : numsB t = true ↔ goodZ t.zxid ∧ (1 ≤ t.session ∧ t.session ≤ 2147483647) ∧ (0 ≤ t.version ∧ t.version ≤ 2147483647) ∧ (0 ≤ t.owner ∧ t.owner ≤ 2147483647) := by
  unfold numsB; simp only [Bool.and_eq_true, decide_eq_true_eq]
theorem wbad {t : ATxn} (h : 1 ≤ t.op ∧ t.op ≤ 5) : badT t = true ↔ ((t.op ≤ 2 ∧ (((¬t.path = [] ∨ ¬t.data = []) ∨ ¬t.version = 0) ∨ ¬t.owner = 0)) ∨ (3 ≤ t.op ∧ (goodP t.path = false ∨ t.path = [47] ∧ ¬t.op = 5)) ∨ ((t.op = 4 ∧ ((¬t.data = [] ∨ ¬t.version = 0) ∨ ¬t.owner = 0) ∨ t.op = 3 ∧ ¬t.version = 0) ∨ t.op = 5 ∧ ¬t.owner = 0)) := by
  have hop : t.op = 1 ∨ t.op = 2 ∨ t.op = 3 ∨ t.op = 4 ∨ t.op = 5 := by omega
  rcases hop with e | e | e | e | e <;> simp [badT, e, or_assoc]
theorem wgood_c (t : ATxn) (hp : okS t.path) (hd : okS t.data) : acall Tryd.prog [] 123 [t.av] (ret (I (goodT t))) := by
  unfold okS at hd
  refine acall_of tabOk Tryd.func123 rfl (by kernel_rfl) (by simp [Tryd.ntmps123]) ?_; simp only [Tryd.ntmps123, Tryd.results123, List.toList_toArray, apar, List.length_nil, List.length_cons, Nat.reduceAdd]
  repeat' first
    | (with_reducible first | refine AWP.seq ?_ | refine thenA_n ?_ | refine thenA_r ?_ | refine thenA_e ?_ | refine blkA_n ?_ | refine blkA_r ?_ | refine blkA_e ?_ | refine blkA_x (by decide) ?_ | refine AWP.skip ?_ | refine AWP.ret ?_ | refine AWP.exit ?_ | refine AWP.block ?_)
    | (with_reducible refine AWP.cond rfl ?_ ?_ <;> intro hc <;> (try simp only [hcs, beq_iff_eq, ge_iff_le, gt_iff_lt] at hc))
    | ((first
      | (with_reducible first | refine AWP.region tabOk ?_ | refine AWP.quietC mixed tabOk (by decide +kernel) ?_ | refine AWP.draw mixed tabOk (by decide +kernel) ?_ | refine AWP.drawE mixed tabOk (by decide +kernel) ?_ | refine AWP.drawG mixed tabOk (by decide +kernel) ?_); intro K hK
      | ((first | refine acallH_sc (zgood_c _) rfl rfl ?_ ?_ ?_ | refine acallQ_sc (zgood_c _) rfl rfl ?_ ?_ ?_ | refine acallH_sc (good_c t.path hp) rfl rfl ?_ ?_ ?_ | refine acallQ_sc (good_c t.path hp) rfl rfl ?_ ?_ ?_); iterate 2 (focus ((try simp (disch := omega) only [go_sem, wrap_n]) <;> (try omega) <;> fail)))
      | ((first | refine acallH_anyr (zgood_c _) rfl ?_ ?_ | refine acallH_anyr (good_c t.path hp) rfl ?_ ?_); (focus ((try simp (disch := omega) only [go_sem, wrap_n]) <;> (try omega) <;> fail)))
      | ((first | refine acallH_scx (zgood_c _) rfl ?_ ?_ | refine acallQ_scx (zgood_c _) rfl ?_ ?_ | refine acallH_anyx (zgood_c _) ?_ ?_); (focus ((try simp (disch := omega) only [go_sem, wrap_n]) <;> (try omega) <;> fail)))
      | ((first | refine acallH_scx (good_c t.path hp) rfl ?_ ?_ | refine acallQ_scx (good_c t.path hp) rfl ?_ ?_ | refine acallH_anyx (good_c t.path hp) ?_ ?_); (focus ((try simp (disch := omega) only [go_sem, wrap_n]) <;> (try omega) <;> fail)))); ((try simp (disch := omega) only [go_sem, wrap_n]) <;> (repeat' with_reducible refine And.intro ?_ ?_) <;> (try (with_reducible refine hK _ ?_; clear hK K))))
    | ((first | (with_reducible refine aunder_i ?_ ?_ <;> intro hg) | with_reducible intro hg) <;> (first | (exfalso; simp at hg; done) | (have hg' := hg; (try simp only [hcs, beq_iff_eq, ge_iff_le, gt_iff_lt] at hg'); ((try simp (disch := omega) only [hg, go_sem, wrap_n]) <;> (repeat' with_reducible refine And.intro ?_ ?_) <;> (try (with_reducible refine hK _ ?_; clear hK K))))))
                                                            | omega
  · rw [goodT_op hc]; (refine aend_retc ?_ rfl ?_ ?_ ?_ ?_; (focus (first | exact .inl rfl | exact .inr rfl)); (iterate 3 (focus ((try simp (disch := omega) only [go_sem, wrap_n]) <;> (try omega) <;> fail))); (try simp (disch := omega) only [go_sem, wrap_n, I, B, S, inj, List.cons.injEq, and_true, true_and, and_self]))
  all_goals (have hop : 1 ≤ t.op ∧ t.op ≤ 5 := by assumption)
  · rw [goodT_num hop]
    · (refine aend_retc ?_ rfl ?_ ?_ ?_ ?_; (focus (first | exact .inl rfl | exact .inr rfl)); (iterate 3 (focus ((try simp (disch := omega) only [go_sem, wrap_n]) <;> (try omega) <;> fail))); (try simp (disch := omega) only [go_sem, wrap_n, I, B, S, inj, List.cons.injEq, and_true, true_and, and_self]))
    rw [numsB_iff]; rintro ⟨h1, h2⟩
    rcases hc with (((((c | c) | c) | c) | c) | c) | c
    · exact c h1
    all_goals omega
  all_goals (have hn : (((((goodZ t.zxid ∧ 1 ≤ t.session) ∧ t.session ≤ 2147483647) ∧ 0 ≤ t.version) ∧ t.version ≤ 2147483647) ∧ 0 ≤ t.owner) ∧ t.owner ≤ 2147483647 := by assumption)
  all_goals (have hnb : numsB t = true := (numsB_iff t).2 ⟨hn.1.1.1.1.1.1, by omega, by omega, by omega⟩)
  · rw [goodT_long hop hnb (by omega)]; (refine aend_retc ?_ rfl ?_ ?_ ?_ ?_; (focus (first | exact .inl rfl | exact .inr rfl)); (iterate 3 (focus ((try simp (disch := omega) only [go_sem, wrap_n]) <;> (try omega) <;> fail))); (try simp (disch := omega) only [go_sem, wrap_n, I, B, S, inj, List.cons.injEq, and_true, true_and, and_self]))
  all_goals rw [goodT_ok hop hnb (by omega)]
  · rw [if_pos ((wbad hop).2 (.inl hc))]; (refine aend_retc ?_ rfl ?_ ?_ ?_ ?_; (focus (first | exact .inl rfl | exact .inr rfl)); (iterate 3 (focus ((try simp (disch := omega) only [go_sem, wrap_n]) <;> (try omega) <;> fail))); (try simp (disch := omega) only [go_sem, wrap_n, I, B, S, inj, List.cons.injEq, and_true, true_and, and_self]))
  · rw [if_pos ((wbad hop).2 (.inr (.inl ⟨by simpa using hg, hc⟩)))]; (refine aend_retc ?_ rfl ?_ ?_ ?_ ?_; (focus (first | exact .inl rfl | exact .inr rfl)); (iterate 3 (focus ((try simp (disch := omega) only [go_sem, wrap_n]) <;> (try omega) <;> fail))); (try simp (disch := omega) only [go_sem, wrap_n, I, B, S, inj, List.cons.injEq, and_true, true_and, and_self]))
  · rw [if_pos ((wbad hop).2 (.inr (.inr hc)))]; (refine aend_retc ?_ rfl ?_ ?_ ?_ ?_; (focus (first | exact .inl rfl | exact .inr rfl)); (iterate 3 (focus ((try simp (disch := omega) only [go_sem, wrap_n]) <;> (try omega) <;> fail))); (try simp (disch := omega) only [go_sem, wrap_n, I, B, S, inj, List.cons.injEq, and_true, true_and, and_self]))
  all_goals (rw [if_neg (fun hb => by
    have hb := (wbad hop).1 hb
    have hop : t.op = 1 ∨ t.op = 2 ∨ t.op = 3 ∨ t.op = 4 ∨ t.op = 5 := by omega
    rcases hop with e | e | e | e | e <;> simp_all)]; (refine aend_retc ?_ rfl ?_ ?_ ?_ ?_; (focus (first | exact .inl rfl | exact .inr rfl)); (iterate 3 (focus ((try simp (disch := omega) only [go_sem, wrap_n]) <;> (try omega) <;> fail))); (try simp (disch := omega) only [go_sem, wrap_n, I, B, S, inj, List.cons.injEq, and_true, true_and, and_self])))
theorem in_c (n lo : Int) : acall Tryd.prog [] 157 [I n, I lo] (ret (B (decide (lo ≤ n ∧ n < 2147483648)))) := by
  refine acall_of tabOk Tryd.func157 rfl (by kernel_rfl) (by simp [Tryd.ntmps157]) ?_; simp only [Tryd.ntmps157, Tryd.results157, List.toList_toArray, apar, List.length_nil, List.length_cons, Nat.reduceAdd]
  repeat' first
    | (with_reducible first | refine AWP.seq ?_ | refine thenA_n ?_ | refine thenA_r ?_ | refine thenA_e ?_ | refine blkA_n ?_ | refine blkA_r ?_ | refine blkA_e ?_ | refine blkA_x (by decide) ?_ | refine AWP.skip ?_ | refine AWP.ret ?_ | refine AWP.exit ?_ | refine AWP.block ?_)
    | (with_reducible refine AWP.cond rfl ?_ ?_ <;> intro hc <;> (try simp only [hcs, beq_iff_eq, ge_iff_le, gt_iff_lt] at hc))
    | ((first
      | (with_reducible first | refine AWP.region tabOk ?_ | refine AWP.quietC mixed tabOk (by decide +kernel) ?_ | refine AWP.draw mixed tabOk (by decide +kernel) ?_ | refine AWP.drawE mixed tabOk (by decide +kernel) ?_ | refine AWP.drawG mixed tabOk (by decide +kernel) ?_); intro K hK); ((try simp (disch := omega) only [go_sem, wrap_n]) <;> (repeat' with_reducible refine And.intro ?_ ?_) <;> (try (with_reducible refine hK _ ?_; clear hK K))))
    | ((first | (with_reducible refine aunder_i ?_ ?_ <;> intro hg) | with_reducible intro hg) <;> (first | (exfalso; simp at hg; done) | (have hg' := hg; (try simp only [hcs, beq_iff_eq, ge_iff_le, gt_iff_lt] at hg'); ((try simp (disch := omega) only [hg, go_sem, wrap_n]) <;> (repeat' with_reducible refine And.intro ?_ ?_) <;> (try (with_reducible refine hK _ ?_; clear hK K))))))
                                                            | omega
  all_goals (refine aend_retc ?_ rfl ?_ ?_ ?_ ?_; (focus (first | exact .inl rfl | exact .inr rfl)); (iterate 3 (focus ((try simp (disch := omega) only [go_sem, wrap_n]) <;> (try omega) <;> fail))); (try simp (disch := omega) only [go_sem, wrap_n, I, B, S, inj, List.cons.injEq, and_true, true_and, and_self]))
  all_goals simp
set_option maxHeartbeats 2000000 in
theorem ref_wgood_c (t : ATxn) (hz : okI t.zxid) (hp : t.path.length ≤ 1048576) (hd : okS t.data) : acall Tryd.prog [] 112 [t.av] (ret (I (goodT t))) := by
  unfold okS at hd
  by_cases hop : t.op < 1 ∨ 5 < t.op
  · rw [goodT_op hop]
    refine acall_of tabOk Tryd.func112 rfl (by kernel_rfl) (by simp [Tryd.ntmps112]) ?_; simp only [Tryd.ntmps112, Tryd.results112, List.toList_toArray, apar, List.length_nil, List.length_cons, Nat.reduceAdd]
    repeat' first
      | (with_reducible first | refine AWP.seq ?_ | refine thenA_n ?_ | refine thenA_r ?_ | refine thenA_e ?_ | refine blkA_n ?_ | refine blkA_r ?_ | refine blkA_e ?_ | refine blkA_x (by decide) ?_ | refine AWP.skip ?_ | refine AWP.ret ?_ | refine AWP.exit ?_ | refine AWP.block ?_)
      | (with_reducible refine AWP.cond rfl ?_ ?_ <;> intro hc <;> (try simp only [hcs, beq_iff_eq, ge_iff_le, gt_iff_lt] at hc))
      | ((first
        | (with_reducible first | refine AWP.region tabOk ?_ | refine AWP.quietC mixed tabOk (by decide +kernel) ?_ | refine AWP.draw mixed tabOk (by decide +kernel) ?_ | refine AWP.drawE mixed tabOk (by decide +kernel) ?_ | refine AWP.drawG mixed tabOk (by decide +kernel) ?_); intro K hK); ((try simp (disch := omega) only [go_sem, wrap_n]) <;> (repeat' with_reducible refine And.intro ?_ ?_) <;> (try (with_reducible refine hK _ ?_; clear hK K))))
      | ((first | (with_reducible refine aunder_i ?_ ?_ <;> intro hg) | with_reducible intro hg) <;> (first | (exfalso; simp at hg; done) | (have hg' := hg; (try simp only [hcs, beq_iff_eq, ge_iff_le, gt_iff_lt] at hg'); ((try simp (disch := omega) only [hg, go_sem, wrap_n]) <;> (repeat' with_reducible refine And.intro ?_ ?_) <;> (try (with_reducible refine hK _ ?_; clear hK K))))))
                                                              | omega
    all_goals first | omega | skip
    all_goals (refine aend_retc ?_ rfl ?_ ?_ ?_ ?_; (focus (first | exact .inl rfl | exact .inr rfl)); (iterate 3 (focus ((try simp (disch := omega) only [go_sem, wrap_n]) <;> (try omega) <;> fail))); (try simp (disch := omega) only [go_sem, wrap_n, I, B, S, inj, List.cons.injEq, and_true, true_and, and_self]))
  have hop' : 1 ≤ t.op ∧ t.op ≤ 5 := by omega
  by_cases h1 : goodZ t.zxid
  case neg =>
    rw [goodT_num hop' (fun h => h1 ((numsB_iff t).1 h).1)]
    refine acall_of tabOk Tryd.func112 rfl (by kernel_rfl) (by simp [Tryd.ntmps112]) ?_; simp only [Tryd.ntmps112, Tryd.results112, List.toList_toArray, apar, List.length_nil, List.length_cons, Nat.reduceAdd]
    repeat' first
      | (with_reducible first | refine AWP.seq ?_ | refine thenA_n ?_ | refine thenA_r ?_ | refine thenA_e ?_ | refine blkA_n ?_ | refine blkA_r ?_ | refine blkA_e ?_ | refine blkA_x (by decide) ?_ | refine AWP.skip ?_ | refine AWP.ret ?_ | refine AWP.exit ?_ | refine AWP.block ?_)
      | (with_reducible refine AWP.cond rfl ?_ ?_ <;> intro hc <;> (try simp only [hcs, beq_iff_eq, ge_iff_le, gt_iff_lt] at hc))
      | ((first
        | (with_reducible first | refine AWP.region tabOk ?_ | refine AWP.quietC mixed tabOk (by decide +kernel) ?_ | refine AWP.draw mixed tabOk (by decide +kernel) ?_ | refine AWP.drawE mixed tabOk (by decide +kernel) ?_ | refine AWP.drawG mixed tabOk (by decide +kernel) ?_); intro K hK
        | ((first | refine acallH_sc ((ref_zgood_c _ hz).re (congrArg B (decide_eq_false h1))) rfl rfl ?_ ?_ ?_ | refine acallQ_sc ((ref_zgood_c _ hz).re (congrArg B (decide_eq_false h1))) rfl rfl ?_ ?_ ?_); iterate 2 (focus ((try simp (disch := omega) only [go_sem, wrap_n]) <;> (try omega) <;> fail)))
        | ((first | refine acallH_anyr ((ref_zgood_c _ hz).re (congrArg B (decide_eq_false h1))) rfl ?_ ?_); (focus ((try simp (disch := omega) only [go_sem, wrap_n]) <;> (try omega) <;> fail)))
        | ((first | refine acallH_scx ((ref_zgood_c _ hz).re (congrArg B (decide_eq_false h1))) rfl ?_ ?_ | refine acallQ_scx ((ref_zgood_c _ hz).re (congrArg B (decide_eq_false h1))) rfl ?_ ?_ | refine acallH_anyx ((ref_zgood_c _ hz).re (congrArg B (decide_eq_false h1))) ?_ ?_); (focus ((try simp (disch := omega) only [go_sem, wrap_n]) <;> (try omega) <;> fail)))); ((try simp (disch := omega) only [go_sem, wrap_n]) <;> (repeat' with_reducible refine And.intro ?_ ?_) <;> (try (with_reducible refine hK _ ?_; clear hK K))))
      | ((first | (with_reducible refine aunder_i ?_ ?_ <;> intro hg) | with_reducible intro hg) <;> (first | (exfalso; simp at hg; done) | (have hg' := hg; (try simp only [hcs, beq_iff_eq, ge_iff_le, gt_iff_lt] at hg'); ((try simp (disch := omega) only [hg, go_sem, wrap_n]) <;> (repeat' with_reducible refine And.intro ?_ ?_) <;> (try (with_reducible refine hK _ ?_; clear hK K))))))
                                                              | omega
    all_goals first | omega | skip
    all_goals (refine aend_retc ?_ rfl ?_ ?_ ?_ ?_; (focus (first | exact .inl rfl | exact .inr rfl)); (iterate 3 (focus ((try simp (disch := omega) only [go_sem, wrap_n]) <;> (try omega) <;> fail))); (try simp (disch := omega) only [go_sem, wrap_n, I, B, S, inj, List.cons.injEq, and_true, true_and, and_self]))
  by_cases h2 : 1 ≤ t.session ∧ t.session < 2147483648
  case neg =>
    rw [goodT_num hop' (fun h => by have := (numsB_iff t).1 h; omega)]
    refine acall_of tabOk Tryd.func112 rfl (by kernel_rfl) (by simp [Tryd.ntmps112]) ?_; simp only [Tryd.ntmps112, Tryd.results112, List.toList_toArray, apar, List.length_nil, List.length_cons, Nat.reduceAdd]
    repeat' first
      | (with_reducible first | refine AWP.seq ?_ | refine thenA_n ?_ | refine thenA_r ?_ | refine thenA_e ?_ | refine blkA_n ?_ | refine blkA_r ?_ | refine blkA_e ?_ | refine blkA_x (by decide) ?_ | refine AWP.skip ?_ | refine AWP.ret ?_ | refine AWP.exit ?_ | refine AWP.block ?_)
      | (with_reducible refine AWP.cond rfl ?_ ?_ <;> intro hc <;> (try simp only [hcs, beq_iff_eq, ge_iff_le, gt_iff_lt] at hc))
      | ((first
        | (with_reducible first | refine AWP.region tabOk ?_ | refine AWP.quietC mixed tabOk (by decide +kernel) ?_ | refine AWP.draw mixed tabOk (by decide +kernel) ?_ | refine AWP.drawE mixed tabOk (by decide +kernel) ?_ | refine AWP.drawG mixed tabOk (by decide +kernel) ?_); intro K hK
        | ((first | refine acallH_sc ((ref_zgood_c _ hz).re (congrArg B (decide_eq_true h1))) rfl rfl ?_ ?_ ?_ | refine acallQ_sc ((ref_zgood_c _ hz).re (congrArg B (decide_eq_true h1))) rfl rfl ?_ ?_ ?_ | refine acallH_sc ((in_c t.session 1).re (congrArg B (decide_eq_false h2))) rfl rfl ?_ ?_ ?_ | refine acallQ_sc ((in_c t.session 1).re (congrArg B (decide_eq_false h2))) rfl rfl ?_ ?_ ?_); iterate 2 (focus ((try simp (disch := omega) only [go_sem, wrap_n]) <;> (try omega) <;> fail)))
        | ((first | refine acallH_anyr ((ref_zgood_c _ hz).re (congrArg B (decide_eq_true h1))) rfl ?_ ?_ | refine acallH_anyr ((in_c t.session 1).re (congrArg B (decide_eq_false h2))) rfl ?_ ?_); (focus ((try simp (disch := omega) only [go_sem, wrap_n]) <;> (try omega) <;> fail)))
        | ((first | refine acallH_scx ((ref_zgood_c _ hz).re (congrArg B (decide_eq_true h1))) rfl ?_ ?_ | refine acallQ_scx ((ref_zgood_c _ hz).re (congrArg B (decide_eq_true h1))) rfl ?_ ?_ | refine acallH_anyx ((ref_zgood_c _ hz).re (congrArg B (decide_eq_true h1))) ?_ ?_); (focus ((try simp (disch := omega) only [go_sem, wrap_n]) <;> (try omega) <;> fail)))
        | ((first | refine acallH_scx ((in_c t.session 1).re (congrArg B (decide_eq_false h2))) rfl ?_ ?_ | refine acallQ_scx ((in_c t.session 1).re (congrArg B (decide_eq_false h2))) rfl ?_ ?_ | refine acallH_anyx ((in_c t.session 1).re (congrArg B (decide_eq_false h2))) ?_ ?_); (focus ((try simp (disch := omega) only [go_sem, wrap_n]) <;> (try omega) <;> fail)))); ((try simp (disch := omega) only [go_sem, wrap_n]) <;> (repeat' with_reducible refine And.intro ?_ ?_) <;> (try (with_reducible refine hK _ ?_; clear hK K))))
      | ((first | (with_reducible refine aunder_i ?_ ?_ <;> intro hg) | with_reducible intro hg) <;> (first | (exfalso; simp at hg; done) | (have hg' := hg; (try simp only [hcs, beq_iff_eq, ge_iff_le, gt_iff_lt] at hg'); ((try simp (disch := omega) only [hg, go_sem, wrap_n]) <;> (repeat' with_reducible refine And.intro ?_ ?_) <;> (try (with_reducible refine hK _ ?_; clear hK K))))))
                                                              | omega
    all_goals first | omega | skip
    all_goals (refine aend_retc ?_ rfl ?_ ?_ ?_ ?_; (focus (first | exact .inl rfl | exact .inr rfl)); (iterate 3 (focus ((try simp (disch := omega) only [go_sem, wrap_n]) <;> (try omega) <;> fail))); (try simp (disch := omega) only [go_sem, wrap_n, I, B, S, inj, List.cons.injEq, and_true, true_and, and_self]))
  by_cases h3 : 0 ≤ t.version ∧ t.version < 2147483648
  case neg =>
    rw [goodT_num hop' (fun h => by have := (numsB_iff t).1 h; omega)]
    refine acall_of tabOk Tryd.func112 rfl (by kernel_rfl) (by simp [Tryd.ntmps112]) ?_; simp only [Tryd.ntmps112, Tryd.results112, List.toList_toArray, apar, List.length_nil, List.length_cons, Nat.reduceAdd]
    repeat' first
      | (with_reducible first | refine AWP.seq ?_ | refine thenA_n ?_ | refine thenA_r ?_ | refine thenA_e ?_ | refine blkA_n ?_ | refine blkA_r ?_ | refine blkA_e ?_ | refine blkA_x (by decide) ?_ | refine AWP.skip ?_ | refine AWP.ret ?_ | refine AWP.exit ?_ | refine AWP.block ?_)
      | (with_reducible refine AWP.cond rfl ?_ ?_ <;> intro hc <;> (try simp only [hcs, beq_iff_eq, ge_iff_le, gt_iff_lt] at hc))
      | ((first
        | (with_reducible first | refine AWP.region tabOk ?_ | refine AWP.quietC mixed tabOk (by decide +kernel) ?_ | refine AWP.draw mixed tabOk (by decide +kernel) ?_ | refine AWP.drawE mixed tabOk (by decide +kernel) ?_ | refine AWP.drawG mixed tabOk (by decide +kernel) ?_); intro K hK
        | ((first | refine acallH_sc ((ref_zgood_c _ hz).re (congrArg B (decide_eq_true h1))) rfl rfl ?_ ?_ ?_ | refine acallQ_sc ((ref_zgood_c _ hz).re (congrArg B (decide_eq_true h1))) rfl rfl ?_ ?_ ?_ | refine acallH_sc ((in_c t.session 1).re (congrArg B (decide_eq_true h2))) rfl rfl ?_ ?_ ?_ | refine acallQ_sc ((in_c t.session 1).re (congrArg B (decide_eq_true h2))) rfl rfl ?_ ?_ ?_ | refine acallH_sc ((in_c t.version 0).re (congrArg B (decide_eq_false h3))) rfl rfl ?_ ?_ ?_ | refine acallQ_sc ((in_c t.version 0).re (congrArg B (decide_eq_false h3))) rfl rfl ?_ ?_ ?_); iterate 2 (focus ((try simp (disch := omega) only [go_sem, wrap_n]) <;> (try omega) <;> fail)))
        | ((first | refine acallH_anyr ((ref_zgood_c _ hz).re (congrArg B (decide_eq_true h1))) rfl ?_ ?_ | refine acallH_anyr ((in_c t.session 1).re (congrArg B (decide_eq_true h2))) rfl ?_ ?_ | refine acallH_anyr ((in_c t.version 0).re (congrArg B (decide_eq_false h3))) rfl ?_ ?_); (focus ((try simp (disch := omega) only [go_sem, wrap_n]) <;> (try omega) <;> fail)))
        | ((first | refine acallH_scx ((ref_zgood_c _ hz).re (congrArg B (decide_eq_true h1))) rfl ?_ ?_ | refine acallQ_scx ((ref_zgood_c _ hz).re (congrArg B (decide_eq_true h1))) rfl ?_ ?_ | refine acallH_anyx ((ref_zgood_c _ hz).re (congrArg B (decide_eq_true h1))) ?_ ?_); (focus ((try simp (disch := omega) only [go_sem, wrap_n]) <;> (try omega) <;> fail)))
        | ((first | refine acallH_scx ((in_c t.session 1).re (congrArg B (decide_eq_true h2))) rfl ?_ ?_ | refine acallQ_scx ((in_c t.session 1).re (congrArg B (decide_eq_true h2))) rfl ?_ ?_ | refine acallH_anyx ((in_c t.session 1).re (congrArg B (decide_eq_true h2))) ?_ ?_); (focus ((try simp (disch := omega) only [go_sem, wrap_n]) <;> (try omega) <;> fail)))
        | ((first | refine acallH_scx ((in_c t.version 0).re (congrArg B (decide_eq_false h3))) rfl ?_ ?_ | refine acallQ_scx ((in_c t.version 0).re (congrArg B (decide_eq_false h3))) rfl ?_ ?_ | refine acallH_anyx ((in_c t.version 0).re (congrArg B (decide_eq_false h3))) ?_ ?_); (focus ((try simp (disch := omega) only [go_sem, wrap_n]) <;> (try omega) <;> fail)))); ((try simp (disch := omega) only [go_sem, wrap_n]) <;> (repeat' with_reducible refine And.intro ?_ ?_) <;> (try (with_reducible refine hK _ ?_; clear hK K))))
      | ((first | (with_reducible refine aunder_i ?_ ?_ <;> intro hg) | with_reducible intro hg) <;> (first | (exfalso; simp at hg; done) | (have hg' := hg; (try simp only [hcs, beq_iff_eq, ge_iff_le, gt_iff_lt] at hg'); ((try simp (disch := omega) only [hg, go_sem, wrap_n]) <;> (repeat' with_reducible refine And.intro ?_ ?_) <;> (try (with_reducible refine hK _ ?_; clear hK K))))))
                                                              | omega
    all_goals first | omega | skip
    all_goals (refine aend_retc ?_ rfl ?_ ?_ ?_ ?_; (focus (first | exact .inl rfl | exact .inr rfl)); (iterate 3 (focus ((try simp (disch := omega) only [go_sem, wrap_n]) <;> (try omega) <;> fail))); (try simp (disch := omega) only [go_sem, wrap_n, I, B, S, inj, List.cons.injEq, and_true, true_and, and_self]))
  by_cases h4 : 0 ≤ t.owner ∧ t.owner < 2147483648
  case neg =>
    rw [goodT_num hop' (fun h => by have := (numsB_iff t).1 h; omega)]
    refine acall_of tabOk Tryd.func112 rfl (by kernel_rfl) (by simp [Tryd.ntmps112]) ?_; simp only [Tryd.ntmps112, Tryd.results112, List.toList_toArray, apar, List.length_nil, List.length_cons, Nat.reduceAdd]
    repeat' first
      | (with_reducible first | refine AWP.seq ?_ | refine thenA_n ?_ | refine thenA_r ?_ | refine thenA_e ?_ | refine blkA_n ?_ | refine blkA_r ?_ | refine blkA_e ?_ | refine blkA_x (by decide) ?_ | refine AWP.skip ?_ | refine AWP.ret ?_ | refine AWP.exit ?_ | refine AWP.block ?_)
      | (with_reducible refine AWP.cond rfl ?_ ?_ <;> intro hc <;> (try simp only [hcs, beq_iff_eq, ge_iff_le, gt_iff_lt] at hc))
      | ((first
        | (with_reducible first | refine AWP.region tabOk ?_ | refine AWP.quietC mixed tabOk (by decide +kernel) ?_ | refine AWP.draw mixed tabOk (by decide +kernel) ?_ | refine AWP.drawE mixed tabOk (by decide +kernel) ?_ | refine AWP.drawG mixed tabOk (by decide +kernel) ?_); intro K hK
        | ((first | refine acallH_sc ((ref_zgood_c _ hz).re (congrArg B (decide_eq_true h1))) rfl rfl ?_ ?_ ?_ | refine acallQ_sc ((ref_zgood_c _ hz).re (congrArg B (decide_eq_true h1))) rfl rfl ?_ ?_ ?_ | refine acallH_sc ((in_c t.session 1).re (congrArg B (decide_eq_true h2))) rfl rfl ?_ ?_ ?_ | refine acallQ_sc ((in_c t.session 1).re (congrArg B (decide_eq_true h2))) rfl rfl ?_ ?_ ?_ | refine acallH_sc ((in_c t.version 0).re (congrArg B (decide_eq_true h3))) rfl rfl ?_ ?_ ?_ | refine acallQ_sc ((in_c t.version 0).re (congrArg B (decide_eq_true h3))) rfl rfl ?_ ?_ ?_ | refine acallH_sc ((in_c t.owner 0).re (congrArg B (decide_eq_false h4))) rfl rfl ?_ ?_ ?_ | refine acallQ_sc ((in_c t.owner 0).re (congrArg B (decide_eq_false h4))) rfl rfl ?_ ?_ ?_); iterate 2 (focus ((try simp (disch := omega) only [go_sem, wrap_n]) <;> (try omega) <;> fail)))
        | ((first | refine acallH_anyr ((ref_zgood_c _ hz).re (congrArg B (decide_eq_true h1))) rfl ?_ ?_ | refine acallH_anyr ((in_c t.session 1).re (congrArg B (decide_eq_true h2))) rfl ?_ ?_ | refine acallH_anyr ((in_c t.version 0).re (congrArg B (decide_eq_true h3))) rfl ?_ ?_ | refine acallH_anyr ((in_c t.owner 0).re (congrArg B (decide_eq_false h4))) rfl ?_ ?_); (focus ((try simp (disch := omega) only [go_sem, wrap_n]) <;> (try omega) <;> fail)))
        | ((first | refine acallH_scx ((ref_zgood_c _ hz).re (congrArg B (decide_eq_true h1))) rfl ?_ ?_ | refine acallQ_scx ((ref_zgood_c _ hz).re (congrArg B (decide_eq_true h1))) rfl ?_ ?_ | refine acallH_anyx ((ref_zgood_c _ hz).re (congrArg B (decide_eq_true h1))) ?_ ?_); (focus ((try simp (disch := omega) only [go_sem, wrap_n]) <;> (try omega) <;> fail)))
        | ((first | refine acallH_scx ((in_c t.session 1).re (congrArg B (decide_eq_true h2))) rfl ?_ ?_ | refine acallQ_scx ((in_c t.session 1).re (congrArg B (decide_eq_true h2))) rfl ?_ ?_ | refine acallH_anyx ((in_c t.session 1).re (congrArg B (decide_eq_true h2))) ?_ ?_); (focus ((try simp (disch := omega) only [go_sem, wrap_n]) <;> (try omega) <;> fail)))
        | ((first | refine acallH_scx ((in_c t.version 0).re (congrArg B (decide_eq_true h3))) rfl ?_ ?_ | refine acallQ_scx ((in_c t.version 0).re (congrArg B (decide_eq_true h3))) rfl ?_ ?_ | refine acallH_anyx ((in_c t.version 0).re (congrArg B (decide_eq_true h3))) ?_ ?_); (focus ((try simp (disch := omega) only [go_sem, wrap_n]) <;> (try omega) <;> fail)))
        | ((first | refine acallH_scx ((in_c t.owner 0).re (congrArg B (decide_eq_false h4))) rfl ?_ ?_ | refine acallQ_scx ((in_c t.owner 0).re (congrArg B (decide_eq_false h4))) rfl ?_ ?_ | refine acallH_anyx ((in_c t.owner 0).re (congrArg B (decide_eq_false h4))) ?_ ?_); (focus ((try simp (disch := omega) only [go_sem, wrap_n]) <;> (try omega) <;> fail)))); ((try simp (disch := omega) only [go_sem, wrap_n]) <;> (repeat' with_reducible refine And.intro ?_ ?_) <;> (try (with_reducible refine hK _ ?_; clear hK K))))
      | ((first | (with_reducible refine aunder_i ?_ ?_ <;> intro hg) | with_reducible intro hg) <;> (first | (exfalso; simp at hg; done) | (have hg' := hg; (try simp only [hcs, beq_iff_eq, ge_iff_le, gt_iff_lt] at hg'); ((try simp (disch := omega) only [hg, go_sem, wrap_n]) <;> (repeat' with_reducible refine And.intro ?_ ?_) <;> (try (with_reducible refine hK _ ?_; clear hK K))))))
                                                              | omega
    all_goals first | omega | skip
    all_goals (refine aend_retc ?_ rfl ?_ ?_ ?_ ?_; (focus (first | exact .inl rfl | exact .inr rfl)); (iterate 3 (focus ((try simp (disch := omega) only [go_sem, wrap_n]) <;> (try omega) <;> fail))); (try simp (disch := omega) only [go_sem, wrap_n, I, B, S, inj, List.cons.injEq, and_true, true_and, and_self]))
  have hnb : numsB t = true := (numsB_iff t).2 ⟨h1, by omega, by omega, by omega⟩
  by_cases hlen : 256 < t.data.length
  · rw [goodT_long hop' hnb hlen]
    refine acall_of tabOk Tryd.func112 rfl (by kernel_rfl) (by simp [Tryd.ntmps112]) ?_; simp only [Tryd.ntmps112, Tryd.results112, List.toList_toArray, apar, List.length_nil, List.length_cons, Nat.reduceAdd]
    repeat' first
      | (with_reducible first | refine AWP.seq ?_ | refine thenA_n ?_ | refine thenA_r ?_ | refine thenA_e ?_ | refine blkA_n ?_ | refine blkA_r ?_ | refine blkA_e ?_ | refine blkA_x (by decide) ?_ | refine AWP.skip ?_ | refine AWP.ret ?_ | refine AWP.exit ?_ | refine AWP.block ?_)
      | (with_reducible refine AWP.cond rfl ?_ ?_ <;> intro hc <;> (try simp only [hcs, beq_iff_eq, ge_iff_le, gt_iff_lt] at hc))
      | ((first
        | (with_reducible first | refine AWP.region tabOk ?_ | refine AWP.quietC mixed tabOk (by decide +kernel) ?_ | refine AWP.draw mixed tabOk (by decide +kernel) ?_ | refine AWP.drawE mixed tabOk (by decide +kernel) ?_ | refine AWP.drawG mixed tabOk (by decide +kernel) ?_); intro K hK
        | ((first | refine acallH_sc ((ref_zgood_c _ hz).re (congrArg B (decide_eq_true h1))) rfl rfl ?_ ?_ ?_ | refine acallQ_sc ((ref_zgood_c _ hz).re (congrArg B (decide_eq_true h1))) rfl rfl ?_ ?_ ?_ | refine acallH_sc ((in_c t.session 1).re (congrArg B (decide_eq_true h2))) rfl rfl ?_ ?_ ?_ | refine acallQ_sc ((in_c t.session 1).re (congrArg B (decide_eq_true h2))) rfl rfl ?_ ?_ ?_ | refine acallH_sc ((in_c t.version 0).re (congrArg B (decide_eq_true h3))) rfl rfl ?_ ?_ ?_ | refine acallQ_sc ((in_c t.version 0).re (congrArg B (decide_eq_true h3))) rfl rfl ?_ ?_ ?_ | refine acallH_sc ((in_c t.owner 0).re (congrArg B (decide_eq_true h4))) rfl rfl ?_ ?_ ?_ | refine acallQ_sc ((in_c t.owner 0).re (congrArg B (decide_eq_true h4))) rfl rfl ?_ ?_ ?_); iterate 2 (focus ((try simp (disch := omega) only [go_sem, wrap_n]) <;> (try omega) <;> fail)))
        | ((first | refine acallH_anyr ((ref_zgood_c _ hz).re (congrArg B (decide_eq_true h1))) rfl ?_ ?_ | refine acallH_anyr ((in_c t.session 1).re (congrArg B (decide_eq_true h2))) rfl ?_ ?_ | refine acallH_anyr ((in_c t.version 0).re (congrArg B (decide_eq_true h3))) rfl ?_ ?_ | refine acallH_anyr ((in_c t.owner 0).re (congrArg B (decide_eq_true h4))) rfl ?_ ?_); (focus ((try simp (disch := omega) only [go_sem, wrap_n]) <;> (try omega) <;> fail)))
        | ((first | refine acallH_scx ((ref_zgood_c _ hz).re (congrArg B (decide_eq_true h1))) rfl ?_ ?_ | refine acallQ_scx ((ref_zgood_c _ hz).re (congrArg B (decide_eq_true h1))) rfl ?_ ?_ | refine acallH_anyx ((ref_zgood_c _ hz).re (congrArg B (decide_eq_true h1))) ?_ ?_); (focus ((try simp (disch := omega) only [go_sem, wrap_n]) <;> (try omega) <;> fail)))
        | ((first | refine acallH_scx ((in_c t.session 1).re (congrArg B (decide_eq_true h2))) rfl ?_ ?_ | refine acallQ_scx ((in_c t.session 1).re (congrArg B (decide_eq_true h2))) rfl ?_ ?_ | refine acallH_anyx ((in_c t.session 1).re (congrArg B (decide_eq_true h2))) ?_ ?_); (focus ((try simp (disch := omega) only [go_sem, wrap_n]) <;> (try omega) <;> fail)))
        | ((first | refine acallH_scx ((in_c t.version 0).re (congrArg B (decide_eq_true h3))) rfl ?_ ?_ | refine acallQ_scx ((in_c t.version 0).re (congrArg B (decide_eq_true h3))) rfl ?_ ?_ | refine acallH_anyx ((in_c t.version 0).re (congrArg B (decide_eq_true h3))) ?_ ?_); (focus ((try simp (disch := omega) only [go_sem, wrap_n]) <;> (try omega) <;> fail)))
        | ((first | refine acallH_scx ((in_c t.owner 0).re (congrArg B (decide_eq_true h4))) rfl ?_ ?_ | refine acallQ_scx ((in_c t.owner 0).re (congrArg B (decide_eq_true h4))) rfl ?_ ?_ | refine acallH_anyx ((in_c t.owner 0).re (congrArg B (decide_eq_true h4))) ?_ ?_); (focus ((try simp (disch := omega) only [go_sem, wrap_n]) <;> (try omega) <;> fail)))); ((try simp (disch := omega) only [go_sem, wrap_n]) <;> (repeat' with_reducible refine And.intro ?_ ?_) <;> (try (with_reducible refine hK _ ?_; clear hK K))))
      | ((first | (with_reducible refine aunder_i ?_ ?_ <;> intro hg) | with_reducible intro hg) <;> (first | (exfalso; simp at hg; done) | (have hg' := hg; (try simp only [hcs, beq_iff_eq, ge_iff_le, gt_iff_lt] at hg'); ((try simp (disch := omega) only [hg, go_sem, wrap_n]) <;> (repeat' with_reducible refine And.intro ?_ ?_) <;> (try (with_reducible refine hK _ ?_; clear hK K))))))
                                                              | omega
    all_goals first | omega | skip
    all_goals (refine aend_retc ?_ rfl ?_ ?_ ?_ ?_; (focus (first | exact .inl rfl | exact .inr rfl)); (iterate 3 (focus ((try simp (disch := omega) only [go_sem, wrap_n]) <;> (try omega) <;> fail))); (try simp (disch := omega) only [go_sem, wrap_n, I, B, S, inj, List.cons.injEq, and_true, true_and, and_self]))
  rw [goodT_ok hop' hnb (by omega)]
  refine acall_of tabOk Tryd.func112 rfl (by kernel_rfl) (by simp [Tryd.ntmps112]) ?_; simp only [Tryd.ntmps112, Tryd.results112, List.toList_toArray, apar, List.length_nil, List.length_cons, Nat.reduceAdd]
  repeat' first
    | (with_reducible first | refine AWP.seq ?_ | refine thenA_n ?_ | refine thenA_r ?_ | refine thenA_e ?_ | refine blkA_n ?_ | refine blkA_r ?_ | refine blkA_e ?_ | refine blkA_x (by decide) ?_ | refine AWP.skip ?_ | refine AWP.ret ?_ | refine AWP.exit ?_ | refine AWP.block ?_)
    | (with_reducible refine AWP.cond rfl ?_ ?_ <;> intro hc <;> (try simp only [hcs, beq_iff_eq, ge_iff_le, gt_iff_lt] at hc))
    | ((first
      | (with_reducible first | refine AWP.region tabOk ?_ | refine AWP.quietC mixed tabOk (by decide +kernel) ?_ | refine AWP.draw mixed tabOk (by decide +kernel) ?_ | refine AWP.drawE mixed tabOk (by decide +kernel) ?_ | refine AWP.drawG mixed tabOk (by decide +kernel) ?_); intro K hK
      | ((first | refine acallH_sc ((ref_zgood_c _ hz).re (congrArg B (decide_eq_true h1))) rfl rfl ?_ ?_ ?_ | refine acallQ_sc ((ref_zgood_c _ hz).re (congrArg B (decide_eq_true h1))) rfl rfl ?_ ?_ ?_ | refine acallH_sc ((in_c t.session 1).re (congrArg B (decide_eq_true h2))) rfl rfl ?_ ?_ ?_ | refine acallQ_sc ((in_c t.session 1).re (congrArg B (decide_eq_true h2))) rfl rfl ?_ ?_ ?_ | refine acallH_sc ((in_c t.version 0).re (congrArg B (decide_eq_true h3))) rfl rfl ?_ ?_ ?_ | refine acallQ_sc ((in_c t.version 0).re (congrArg B (decide_eq_true h3))) rfl rfl ?_ ?_ ?_ | refine acallH_sc ((in_c t.owner 0).re (congrArg B (decide_eq_true h4))) rfl rfl ?_ ?_ ?_ | refine acallQ_sc ((in_c t.owner 0).re (congrArg B (decide_eq_true h4))) rfl rfl ?_ ?_ ?_ | refine acallH_sc (ref_good_c t.path hp) rfl rfl ?_ ?_ ?_ | refine acallQ_sc (ref_good_c t.path hp) rfl rfl ?_ ?_ ?_); iterate 2 (focus ((try simp (disch := omega) only [go_sem, wrap_n]) <;> (try omega) <;> fail)))
      | ((first | refine acallH_anyr ((ref_zgood_c _ hz).re (congrArg B (decide_eq_true h1))) rfl ?_ ?_ | refine acallH_anyr ((in_c t.session 1).re (congrArg B (decide_eq_true h2))) rfl ?_ ?_ | refine acallH_anyr ((in_c t.version 0).re (congrArg B (decide_eq_true h3))) rfl ?_ ?_ | refine acallH_anyr ((in_c t.owner 0).re (congrArg B (decide_eq_true h4))) rfl ?_ ?_ | refine acallH_anyr (ref_good_c t.path hp) rfl ?_ ?_); (focus ((try simp (disch := omega) only [go_sem, wrap_n]) <;> (try omega) <;> fail)))
      | ((first | refine acallH_scx ((ref_zgood_c _ hz).re (congrArg B (decide_eq_true h1))) rfl ?_ ?_ | refine acallQ_scx ((ref_zgood_c _ hz).re (congrArg B (decide_eq_true h1))) rfl ?_ ?_ | refine acallH_anyx ((ref_zgood_c _ hz).re (congrArg B (decide_eq_true h1))) ?_ ?_); (focus ((try simp (disch := omega) only [go_sem, wrap_n]) <;> (try omega) <;> fail)))
      | ((first | refine acallH_scx ((in_c t.session 1).re (congrArg B (decide_eq_true h2))) rfl ?_ ?_ | refine acallQ_scx ((in_c t.session 1).re (congrArg B (decide_eq_true h2))) rfl ?_ ?_ | refine acallH_anyx ((in_c t.session 1).re (congrArg B (decide_eq_true h2))) ?_ ?_); (focus ((try simp (disch := omega) only [go_sem, wrap_n]) <;> (try omega) <;> fail)))
      | ((first | refine acallH_scx ((in_c t.version 0).re (congrArg B (decide_eq_true h3))) rfl ?_ ?_ | refine acallQ_scx ((in_c t.version 0).re (congrArg B (decide_eq_true h3))) rfl ?_ ?_ | refine acallH_anyx ((in_c t.version 0).re (congrArg B (decide_eq_true h3))) ?_ ?_); (focus ((try simp (disch := omega) only [go_sem, wrap_n]) <;> (try omega) <;> fail)))
      | ((first | refine acallH_scx ((in_c t.owner 0).re (congrArg B (decide_eq_true h4))) rfl ?_ ?_ | refine acallQ_scx ((in_c t.owner 0).re (congrArg B (decide_eq_true h4))) rfl ?_ ?_ | refine acallH_anyx ((in_c t.owner 0).re (congrArg B (decide_eq_true h4))) ?_ ?_); (focus ((try simp (disch := omega) only [go_sem, wrap_n]) <;> (try omega) <;> fail)))
      | ((first | refine acallH_scx (ref_good_c t.path hp) rfl ?_ ?_ | refine acallQ_scx (ref_good_c t.path hp) rfl ?_ ?_ | refine acallH_anyx (ref_good_c t.path hp) ?_ ?_); (focus ((try simp (disch := omega) only [go_sem, wrap_n]) <;> (try omega) <;> fail)))); ((try simp (disch := omega) only [go_sem, wrap_n]) <;> (repeat' with_reducible refine And.intro ?_ ?_) <;> (try (with_reducible refine hK _ ?_; clear hK K))))
    | ((first | (with_reducible refine aunder_i ?_ ?_ <;> intro hg) | with_reducible intro hg) <;> (first | (exfalso; simp at hg; done) | (have hg' := hg; (try simp only [hcs, beq_iff_eq, ge_iff_le, gt_iff_lt] at hg'); ((try simp (disch := omega) only [hg, go_sem, wrap_n]) <;> (repeat' with_reducible refine And.intro ?_ ?_) <;> (try (with_reducible refine hK _ ?_; clear hK K))))))
                                                            | omega
  all_goals first | omega | skip
  all_goals first
    | (rw [if_pos (by simp_all [badT, or_assoc])]; (refine aend_retc ?_ rfl ?_ ?_ ?_ ?_; (focus (first | exact .inl rfl | exact .inr rfl)); (iterate 3 (focus ((try simp (disch := omega) only [go_sem, wrap_n]) <;> (try omega) <;> fail))); (try simp (disch := omega) only [go_sem, wrap_n, I, B, S, inj, List.cons.injEq, and_true, true_and, and_self])); done)
    | (rw [if_neg (by simp_all [badT, or_assoc])]; (refine aend_retc ?_ rfl ?_ ?_ ?_ ?_; (focus (first | exact .inl rfl | exact .inr rfl)); (iterate 3 (focus ((try simp (disch := omega) only [go_sem, wrap_n]) <;> (try omega) <;> fail))); (try simp (disch := omega) only [go_sem, wrap_n, I, B, S, inj, List.cons.injEq, and_true, true_and, and_self])); done)
    | trace_state
def t0 : ATxn := ⟨0, 0, 0, [], [], 0, 0⟩
theorem t0_good : goodT t0 = 4 := by decide
theorem okS_nil : okS [] := by unfold okS; decide
theorem wgood_t0 : acall Tryd.prog [] 123 [.agg [I 0, I 0, I 0, S [], S [], I 0, I 0]] (ret (I 4)) := (wgood_c t0 okS_nil okS_nil).re (congrArg I t0_good)
end Go.Proofs.YtmpfhalheaeibaaDoor
