/- Contracts of watch.Add, watch.Drop and their references. No condition. -/
import Derived.Test.YtecbkeddfjalcaaDoorPg
import Derived.Test.YtecbkeddfjalcaaDoorMt
namespace Go.Proofs.YtecbkeddfjalcaaDoor
set_option linter.unusedVariables false
set_option linter.unusedSimpArgs false
open Go Go.RowKit
set_option maxRecDepth 100000

def addW (l : List AWatch) (w : AWatch) : List AWatch × Int :=
  if w.kind ≠ 1 ∧ w.kind ≠ 2 then ([], 4) else if ¬ goodP w.path = true then ([], 2) else if w.session < 1 ∨ 2147483647 < w.session then ([], 3)
  else if w ∈ l then (l, 0) else if 400 ≤ l.length then ([], 6) else (l ++ [w], 0)
def dropW (l : List AWatch) (s : Int) : List AWatch := l.filter fun w => decide (w.session ≠ s)
def wIdx (l : List AWatch) (w : AWatch) : Int := if w ∈ l then (l.findIdx (fun x => decide (x = w)) : Nat) else -1
theorem wIdx_at {l : List AWatch} {w : AWatch} {k : Nat} (hk : k < l.length) (h : l.getD k default = w) (hno : ∀ j, j < k → l.getD j default ≠ w) : wIdx l w = k := by
  have hg : ∀ j, (hj : j < l.length) → l.getD j default = l[j] := fun j hj => by rw [List.getD_eq_getElem?_getD, List.getElem?_eq_getElem hj]; rfl
  unfold wIdx
  rw [if_pos (by rw [← h, hg k hk]; exact List.getElem_mem hk)]
  congr 1
  rw [List.findIdx_eq hk]
  refine ⟨by rw [decide_eq_true_eq, ← hg k hk]; exact h, fun j hj => ?_⟩
  rw [decide_eq_false_iff_not, ← hg j (by omega)]
  exact hno j hj
theorem wIdx_no {l : List AWatch} {w : AWatch} (hno : ∀ j, j < l.length → l.getD j default ≠ w) : wIdx l w = -1 ∧ ¬ w ∈ l := by
  have h : ¬ w ∈ l := fun hm => by
    obtain ⟨j, hj, e⟩ := List.getElem_of_mem hm
    exact hno j hj (by rw [List.getD_eq_getElem?_getD, List.getElem?_eq_getElem hj]; exact e)
  exact ⟨by unfold wIdx; rw [if_neg h], h⟩
theorem wIdx_ge (l : List AWatch) (w : AWatch) : decide (0 ≤ wIdx l w) = decide (w ∈ l) := by
  unfold wIdx; split
  · rw [decide_eq_true (by omega)]; symm; rw [decide_eq_true_eq]; assumption
  · rw [decide_eq_false (by omega)]; symm; rw [decide_eq_false_iff_not]; assumption
theorem windex_c (l : List AWatch) (w : AWatch) (h : l.length * 32 ≤ 140737488351232) : acall Tryd.prog [] 80 [.d (.sl 3 (l.map AWatch.row)), w.av] (ret (I (wIdx l w))) := by
  refine acall_of tabOk Tryd.func80 rfl (by kernel_rfl) (by simp [Tryd.ntmps80]) ?_; simp only [Tryd.ntmps80, Tryd.results80, List.toList_toArray, apar, List.length_nil, List.length_cons, Nat.reduceAdd]
  repeat' first
    | with_reducible refine AWP.seq ?_
    | with_reducible refine thenA_n ?_
    | with_reducible refine thenA_r ?_
    | with_reducible refine thenA_e ?_
    | with_reducible refine blkA_n ?_
    | with_reducible refine blkA_r ?_
    | with_reducible refine blkA_e ?_
    | with_reducible refine blkA_x (by decide) ?_
    | with_reducible refine AWP.skip ?_
    | with_reducible refine AWP.ret ?_
    | with_reducible refine AWP.exit ?_
    | with_reducible refine AWP.block ?_
    | (with_reducible refine AWP.cond rfl ?_ ?_ <;> intro hc <;> (try simp only [decide_eq_true_eq, decide_eq_false_iff_not, Bool.and_eq_true, Bool.or_eq_true, Bool.or_eq_false_iff, Bool.and_eq_false_iff, Bool.not_eq_true', Bool.not_eq_false', Bool.true_eq_false, Bool.false_eq_true, Bool.not_eq_true, Bool.not_eq_false, Int.not_lt, Int.not_le, Nat.not_lt, Nat.not_le, Int.ofNat_lt, Int.ofNat_le, Int.natCast_eq_zero, not_true_eq_false, not_false_eq_true, beq_iff_eq, Bool.not_true, Bool.not_false, ge_iff_le, gt_iff_lt] at hc))
    | ((first | with_reducible refine AWP.region tabOk ?_ | with_reducible refine AWP.quietC mixed tabOk (by decide +kernel) ?_ | with_reducible refine AWP.draw mixed tabOk (by decide +kernel) ?_ | with_reducible refine AWP.drawE mixed tabOk (by decide +kernel) ?_); intro K hK; ((try simp (disch := omega) only [go_sem, wrap_n, true_and]) <;> (repeat' with_reducible refine And.intro ?_ ?_) <;> (try (with_reducible refine hK _ ?_; clear hK K))))
    | ((first | (with_reducible refine aunder_i ?_ ?_ <;> intro hg) | with_reducible intro hg) <;> (first | (exfalso; simp at hg; done) | (have hg' := hg; (try simp only [decide_eq_true_eq, decide_eq_false_iff_not, Bool.and_eq_true, Bool.or_eq_true, Bool.or_eq_false_iff, Bool.and_eq_false_iff, Bool.not_eq_true', Bool.not_eq_false', Bool.true_eq_false, Bool.false_eq_true, Bool.not_eq_true, Bool.not_eq_false, Int.not_lt, Int.not_le, Nat.not_lt, Nat.not_le, Int.ofNat_lt, Int.ofNat_le, Int.natCast_eq_zero, not_true_eq_false, not_false_eq_true, beq_iff_eq, Bool.not_true, Bool.not_false, ge_iff_le, gt_iff_lt] at hg'); ((try simp (disch := omega) only [hg, go_sem, wrap_n, true_and]) <;> (repeat' with_reducible refine And.intro ?_ ?_) <;> (try (with_reducible refine hK _ ?_; clear hK K))))))
                                                            | omega
  refine AWP.loopB (ι := Nat) (fun k => k ≤ l.length ∧ ∀ j, j < k → l.getD j default ≠ w) (fun k => l.length - k) [0, 3, 7] (fun k => [(8, I k)]) (fun k => [.cells [I w.session, I w.kind, .d (.str w.path)]]) 0 ?_ ?_ ?_
  · exact ⟨by omega, by omega⟩
  · simp only [go_sem]; (refine SImp.same ?_; simp (disch := omega) only [go_sem, wrap_n, Int.natCast_add, true_and])
  intro k ⟨hk, hk2⟩
  simp only [go_sem]
  repeat' first
    | with_reducible refine AWP.seq ?_
    | with_reducible refine thenA_n ?_
    | with_reducible refine thenA_r ?_
    | with_reducible refine thenA_e ?_
    | with_reducible refine blkA_n ?_
    | with_reducible refine blkA_r ?_
    | with_reducible refine blkA_e ?_
    | with_reducible refine blkA_x (by decide) ?_
    | with_reducible refine AWP.skip ?_
    | with_reducible refine AWP.ret ?_
    | with_reducible refine AWP.exit ?_
    | with_reducible refine AWP.block ?_
    | (with_reducible refine AWP.cond rfl ?_ ?_ <;> intro hc <;> (try simp only [decide_eq_true_eq, decide_eq_false_iff_not, Bool.and_eq_true, Bool.or_eq_true, Bool.or_eq_false_iff, Bool.and_eq_false_iff, Bool.not_eq_true', Bool.not_eq_false', Bool.true_eq_false, Bool.false_eq_true, Bool.not_eq_true, Bool.not_eq_false, Int.not_lt, Int.not_le, Nat.not_lt, Nat.not_le, Int.ofNat_lt, Int.ofNat_le, Int.natCast_eq_zero, not_true_eq_false, not_false_eq_true, beq_iff_eq, Bool.not_true, Bool.not_false, ge_iff_le, gt_iff_lt] at hc))
    | ((first | with_reducible refine AWP.region tabOk ?_ | with_reducible refine AWP.quietC mixed tabOk (by decide +kernel) ?_ | with_reducible refine AWP.draw mixed tabOk (by decide +kernel) ?_ | with_reducible refine AWP.drawE mixed tabOk (by decide +kernel) ?_); intro K hK; ((try simp (disch := omega) only [go_sem, wrap_n, AWatch.rgetD]) <;> (repeat' with_reducible refine And.intro ?_ ?_) <;> (try (with_reducible refine hK _ ?_; clear hK K))))
    | ((first | (with_reducible refine aunder_i ?_ ?_ <;> intro hg) | with_reducible intro hg) <;> (first | (exfalso; simp at hg; done) | (have hg' := hg; (try simp only [decide_eq_true_eq, decide_eq_false_iff_not, Bool.and_eq_true, Bool.or_eq_true, Bool.or_eq_false_iff, Bool.and_eq_false_iff, Bool.not_eq_true', Bool.not_eq_false', Bool.true_eq_false, Bool.false_eq_true, Bool.not_eq_true, Bool.not_eq_false, Int.not_lt, Int.not_le, Nat.not_lt, Nat.not_le, Int.ofNat_lt, Int.ofNat_le, Int.natCast_eq_zero, not_true_eq_false, not_false_eq_true, beq_iff_eq, Bool.not_true, Bool.not_false, ge_iff_le, gt_iff_lt] at hg'); ((try simp (disch := omega) only [hg, go_sem, wrap_n, AWatch.rgetD]) <;> (repeat' with_reducible refine And.intro ?_ ?_) <;> (try (with_reducible refine hK _ ?_; clear hK K))))))
                                                            | omega
  · rw [wIdx_at (by assumption) hc.symm hk2]; (refine aend_retc ?_ rfl ?_ ?_ ?_ ?_; (focus (first | exact .inl rfl | exact .inr rfl)); (focus ((try simp (disch := omega) only [go_sem, wrap_n, true_and]) <;> (try omega) <;> fail)); (focus ((try simp (disch := omega) only [go_sem, wrap_n, true_and]) <;> (try omega) <;> fail)); (focus ((try simp (disch := omega) only [go_sem, wrap_n, true_and]) <;> (try omega) <;> fail)); (try simp (disch := omega) only [go_sem, wrap_n, true_and, I, B, S, AV.d.injEq, DV.int.injEq, DV.bool.injEq, DV.str.injEq, DV.sl.injEq, AV.tup.injEq, AV.agg.injEq, List.cons.injEq, and_true, true_and, and_self]))
  · refine ⟨k + 1, ⟨by omega, fun j hj => ?_⟩, by omega, ?_⟩
    · by_cases e : j = k
      · subst e; exact fun h => hc h.symm
      · exact hk2 j (by omega)
    (refine SImp.same ?_; simp (disch := omega) only [go_sem, wrap_n, Int.natCast_add, true_and])
  · rw [(wIdx_no (fun j hj => hk2 j (by omega))).1]; (refine aend_retc ?_ rfl ?_ ?_ ?_ ?_; (focus (first | exact .inl rfl | exact .inr rfl)); (focus ((try simp (disch := omega) only [go_sem, wrap_n, true_and]) <;> (try omega) <;> fail)); (focus ((try simp (disch := omega) only [go_sem, wrap_n, true_and]) <;> (try omega) <;> fail)); (focus ((try simp (disch := omega) only [go_sem, wrap_n, true_and]) <;> (try omega) <;> fail)); (try simp (disch := omega) only [go_sem, wrap_n, true_and, I, B, S, AV.d.injEq, DV.int.injEq, DV.bool.injEq, DV.str.injEq, DV.sl.injEq, AV.tup.injEq, AV.agg.injEq, List.cons.injEq, and_true, true_and, and_self]))
theorem wcontains_c (l : List AWatch) (w : AWatch) (h : l.length * 32 ≤ 140737488351232) : acall Tryd.prog [] 62 [.d (.sl 3 (l.map AWatch.row)), w.av] (ret (B (decide (w ∈ l)))) := by
  refine acall_of tabOk Tryd.func62 rfl (by kernel_rfl) (by simp [Tryd.ntmps62]) ?_; simp only [Tryd.ntmps62, Tryd.results62, List.toList_toArray, apar, List.length_nil, List.length_cons, Nat.reduceAdd]
  repeat' first
    | with_reducible refine AWP.seq ?_
    | with_reducible refine thenA_n ?_
    | with_reducible refine thenA_r ?_
    | with_reducible refine thenA_e ?_
    | with_reducible refine blkA_n ?_
    | with_reducible refine blkA_r ?_
    | with_reducible refine blkA_e ?_
    | with_reducible refine blkA_x (by decide) ?_
    | with_reducible refine AWP.skip ?_
    | with_reducible refine AWP.ret ?_
    | with_reducible refine AWP.exit ?_
    | with_reducible refine AWP.block ?_
    | (with_reducible refine AWP.cond rfl ?_ ?_ <;> intro hc <;> (try simp only [decide_eq_true_eq, decide_eq_false_iff_not, Bool.and_eq_true, Bool.or_eq_true, Bool.or_eq_false_iff, Bool.and_eq_false_iff, Bool.not_eq_true', Bool.not_eq_false', Bool.true_eq_false, Bool.false_eq_true, Bool.not_eq_true, Bool.not_eq_false, Int.not_lt, Int.not_le, Nat.not_lt, Nat.not_le, Int.ofNat_lt, Int.ofNat_le, Int.natCast_eq_zero, not_true_eq_false, not_false_eq_true, beq_iff_eq, Bool.not_true, Bool.not_false, ge_iff_le, gt_iff_lt] at hc))
    | ((first | with_reducible refine AWP.region tabOk ?_ | with_reducible refine AWP.quietC mixed tabOk (by decide +kernel) ?_ | with_reducible refine AWP.draw mixed tabOk (by decide +kernel) ?_ | with_reducible refine AWP.drawE mixed tabOk (by decide +kernel) ?_); intro K hK; ((try simp (disch := omega) only [go_sem, wrap_n, true_and]) <;> (repeat' with_reducible refine And.intro ?_ ?_) <;> (try (with_reducible refine hK _ ?_; clear hK K))))
    | ((first | refine acallH_sc (windex_c l w h) rfl rfl ?_ ?_ ?_); (focus ((try simp (disch := omega) only [go_sem, wrap_n, true_and]) <;> (try omega) <;> fail)); (focus ((try simp (disch := omega) only [go_sem, wrap_n, true_and]) <;> (try omega) <;> fail)); ((try simp (disch := omega) only [go_sem, wrap_n, true_and]) <;> (repeat' with_reducible refine And.intro ?_ ?_) <;> (try (with_reducible refine hK _ ?_; clear hK K))))
    | ((first | refine acallQ_sc (windex_c l w h) rfl rfl ?_ ?_ ?_); (focus ((try simp (disch := omega) only [go_sem, wrap_n, true_and]) <;> (try omega) <;> fail)); (focus ((try simp (disch := omega) only [go_sem, wrap_n, true_and]) <;> (try omega) <;> fail)); ((try simp (disch := omega) only [go_sem, wrap_n, true_and]) <;> (repeat' with_reducible refine And.intro ?_ ?_) <;> (try (with_reducible refine hK _ ?_; clear hK K))))
    | ((first | refine acallH_anyr (windex_c l w h) rfl ?_ ?_); (focus ((try simp (disch := omega) only [go_sem, wrap_n, true_and]) <;> (try omega) <;> fail)); ((try simp (disch := omega) only [go_sem, wrap_n, true_and]) <;> (repeat' with_reducible refine And.intro ?_ ?_) <;> (try (with_reducible refine hK _ ?_; clear hK K))))
    | ((first | refine acallH_scx (windex_c l w h) rfl ?_ ?_ | refine acallQ_scx (windex_c l w h) rfl ?_ ?_ | refine acallH_anyx (windex_c l w h) ?_ ?_); (focus ((try simp (disch := omega) only [go_sem, wrap_n, true_and]) <;> (try omega) <;> fail)); ((try simp (disch := omega) only [go_sem, wrap_n, true_and]) <;> (repeat' with_reducible refine And.intro ?_ ?_) <;> (try (with_reducible refine hK _ ?_; clear hK K))))
    | ((first | (with_reducible refine aunder_i ?_ ?_ <;> intro hg) | with_reducible intro hg) <;> (first | (exfalso; simp at hg; done) | (have hg' := hg; (try simp only [decide_eq_true_eq, decide_eq_false_iff_not, Bool.and_eq_true, Bool.or_eq_true, Bool.or_eq_false_iff, Bool.and_eq_false_iff, Bool.not_eq_true', Bool.not_eq_false', Bool.true_eq_false, Bool.false_eq_true, Bool.not_eq_true, Bool.not_eq_false, Int.not_lt, Int.not_le, Nat.not_lt, Nat.not_le, Int.ofNat_lt, Int.ofNat_le, Int.natCast_eq_zero, not_true_eq_false, not_false_eq_true, beq_iff_eq, Bool.not_true, Bool.not_false, ge_iff_le, gt_iff_lt] at hg'); ((try simp (disch := omega) only [hg, go_sem, wrap_n, true_and]) <;> (repeat' with_reducible refine And.intro ?_ ?_) <;> (try (with_reducible refine hK _ ?_; clear hK K))))))
                                                            | omega
  (refine aend_retc ?_ rfl ?_ ?_ ?_ ?_; (focus (first | exact .inl rfl | exact .inr rfl)); (focus ((try simp (disch := omega) only [go_sem, wrap_n, wIdx_ge]) <;> (try omega) <;> fail)); (focus ((try simp (disch := omega) only [go_sem, wrap_n, wIdx_ge]) <;> (try omega) <;> fail)); (focus ((try simp (disch := omega) only [go_sem, wrap_n, wIdx_ge]) <;> (try omega) <;> fail)); (try simp (disch := omega) only [go_sem, wrap_n, wIdx_ge, I, B, S, AV.d.injEq, DV.int.injEq, DV.bool.injEq, DV.str.injEq, DV.sl.injEq, AV.tup.injEq, AV.agg.injEq, List.cons.injEq, and_true, true_and, and_self]))
theorem watches_c (l : List AWatch) (h : l.length * 32 ≤ 140737488351232) : acall Tryd.prog [] 32 [.d (.sl 3 (l.map AWatch.row))] (ret (.d (.sl 3 (l.map AWatch.row)))) := by
  refine acall_of tabOk Tryd.func32 rfl (by kernel_rfl) (by simp [Tryd.ntmps32]) ?_; simp only [Tryd.ntmps32, Tryd.results32, List.toList_toArray, apar, List.length_nil, List.length_cons, Nat.reduceAdd]
  repeat' first
    | with_reducible refine AWP.seq ?_
    | with_reducible refine thenA_n ?_
    | with_reducible refine thenA_r ?_
    | with_reducible refine thenA_e ?_
    | with_reducible refine blkA_n ?_
    | with_reducible refine blkA_r ?_
    | with_reducible refine blkA_e ?_
    | with_reducible refine blkA_x (by decide) ?_
    | with_reducible refine AWP.skip ?_
    | with_reducible refine AWP.ret ?_
    | with_reducible refine AWP.exit ?_
    | with_reducible refine AWP.block ?_
    | (with_reducible refine AWP.cond rfl ?_ ?_ <;> intro hc <;> (try simp only [decide_eq_true_eq, decide_eq_false_iff_not, Bool.and_eq_true, Bool.or_eq_true, Bool.or_eq_false_iff, Bool.and_eq_false_iff, Bool.not_eq_true', Bool.not_eq_false', Bool.true_eq_false, Bool.false_eq_true, Bool.not_eq_true, Bool.not_eq_false, Int.not_lt, Int.not_le, Nat.not_lt, Nat.not_le, Int.ofNat_lt, Int.ofNat_le, Int.natCast_eq_zero, not_true_eq_false, not_false_eq_true, beq_iff_eq, Bool.not_true, Bool.not_false, ge_iff_le, gt_iff_lt] at hc))
    | ((first | with_reducible refine AWP.region tabOk ?_ | with_reducible refine AWP.quietC mixed tabOk (by decide +kernel) ?_ | with_reducible refine AWP.draw mixed tabOk (by decide +kernel) ?_ | with_reducible refine AWP.drawE mixed tabOk (by decide +kernel) ?_); intro K hK; ((try simp (disch := omega) only [go_sem, wrap_n, true_and]) <;> (repeat' with_reducible refine And.intro ?_ ?_) <;> (try (with_reducible refine hK _ ?_; clear hK K))))
    | ((first | (with_reducible refine aunder_i ?_ ?_ <;> intro hg) | with_reducible intro hg) <;> (first | (exfalso; simp at hg; done) | (have hg' := hg; (try simp only [decide_eq_true_eq, decide_eq_false_iff_not, Bool.and_eq_true, Bool.or_eq_true, Bool.or_eq_false_iff, Bool.and_eq_false_iff, Bool.not_eq_true', Bool.not_eq_false', Bool.true_eq_false, Bool.false_eq_true, Bool.not_eq_true, Bool.not_eq_false, Int.not_lt, Int.not_le, Nat.not_lt, Nat.not_le, Int.ofNat_lt, Int.ofNat_le, Int.natCast_eq_zero, not_true_eq_false, not_false_eq_true, beq_iff_eq, Bool.not_true, Bool.not_false, ge_iff_le, gt_iff_lt] at hg'); ((try simp (disch := omega) only [hg, go_sem, wrap_n, true_and]) <;> (repeat' with_reducible refine And.intro ?_ ?_) <;> (try (with_reducible refine hK _ ?_; clear hK K))))))
                                                            | omega
  all_goals (refine aend_retc ?_ rfl ?_ ?_ ?_ ?_; (focus (first | exact .inl rfl | exact .inr rfl)); (focus ((try simp (disch := omega) only [go_sem, wrap_n, true_and]) <;> (try omega) <;> fail)); (focus ((try simp (disch := omega) only [go_sem, wrap_n, true_and]) <;> (try omega) <;> fail)); (focus ((try simp (disch := omega) only [go_sem, wrap_n, true_and]) <;> (try omega) <;> fail)); (try simp (disch := omega) only [go_sem, wrap_n, true_and, I, B, S, AV.d.injEq, DV.int.injEq, DV.bool.injEq, DV.str.injEq, DV.sl.injEq, AV.tup.injEq, AV.agg.injEq, List.cons.injEq, and_true, true_and, and_self]))
theorem dropW_snoc (l : List AWatch) (s : Int) (k : Nat) (h : k < l.length) : dropW (l.take (k + 1)) s = if (l.getD k default).session ≠ s then dropW (l.take k) s ++ [l.getD k default] else dropW (l.take k) s := by
  have : l.take (k + 1) = l.take k ++ [l.getD k default] := take_snoc l k h
  rw [this]; unfold dropW
  rw [List.filter_append]
  split
  · rw [List.filter_cons_of_pos (by simpa using (by assumption : _ ≠ _))]; rfl
  · rw [List.filter_cons_of_neg (by simpa using (by assumption : ¬ _ ≠ _)), List.filter_nil, List.append_nil]
theorem dropW_nil (s : Int) : dropW [] s = [] := rfl
theorem drop_c (l : List AWatch) (s : Int) (h : l.length * 32 ≤ 140737488351232) : acall Tryd.prog [] 35 [.d (.sl 3 (l.map AWatch.row)), I s] (ret (.d (.sl 3 ((dropW l s).map AWatch.row)))) := by
  refine acall_of tabOk Tryd.func35 rfl (by kernel_rfl) (by simp [Tryd.ntmps35]) ?_; simp only [Tryd.ntmps35, Tryd.results35, List.toList_toArray, apar, List.length_nil, List.length_cons, Nat.reduceAdd]
  repeat' first
    | with_reducible refine AWP.seq ?_
    | with_reducible refine thenA_n ?_
    | with_reducible refine thenA_r ?_
    | with_reducible refine thenA_e ?_
    | with_reducible refine blkA_n ?_
    | with_reducible refine blkA_r ?_
    | with_reducible refine blkA_e ?_
    | with_reducible refine blkA_x (by decide) ?_
    | with_reducible refine AWP.skip ?_
    | with_reducible refine AWP.ret ?_
    | with_reducible refine AWP.exit ?_
    | with_reducible refine AWP.block ?_
    | (with_reducible refine AWP.cond rfl ?_ ?_ <;> intro hc <;> (try simp only [decide_eq_true_eq, decide_eq_false_iff_not, Bool.and_eq_true, Bool.or_eq_true, Bool.or_eq_false_iff, Bool.and_eq_false_iff, Bool.not_eq_true', Bool.not_eq_false', Bool.true_eq_false, Bool.false_eq_true, Bool.not_eq_true, Bool.not_eq_false, Int.not_lt, Int.not_le, Nat.not_lt, Nat.not_le, Int.ofNat_lt, Int.ofNat_le, Int.natCast_eq_zero, not_true_eq_false, not_false_eq_true, beq_iff_eq, Bool.not_true, Bool.not_false, ge_iff_le, gt_iff_lt] at hc))
    | ((first | with_reducible refine AWP.region tabOk ?_ | with_reducible refine AWP.quietC mixed tabOk (by decide +kernel) ?_ | with_reducible refine AWP.draw mixed tabOk (by decide +kernel) ?_ | with_reducible refine AWP.drawE mixed tabOk (by decide +kernel) ?_); intro K hK; ((try simp (disch := omega) only [go_sem, wrap_n, true_and]) <;> (repeat' with_reducible refine And.intro ?_ ?_) <;> (try (with_reducible refine hK _ ?_; clear hK K))))
    | ((first | (with_reducible refine aunder_i ?_ ?_ <;> intro hg) | with_reducible intro hg) <;> (first | (exfalso; simp at hg; done) | (have hg' := hg; (try simp only [decide_eq_true_eq, decide_eq_false_iff_not, Bool.and_eq_true, Bool.or_eq_true, Bool.or_eq_false_iff, Bool.and_eq_false_iff, Bool.not_eq_true', Bool.not_eq_false', Bool.true_eq_false, Bool.false_eq_true, Bool.not_eq_true, Bool.not_eq_false, Int.not_lt, Int.not_le, Nat.not_lt, Nat.not_le, Int.ofNat_lt, Int.ofNat_le, Int.natCast_eq_zero, not_true_eq_false, not_false_eq_true, beq_iff_eq, Bool.not_true, Bool.not_false, ge_iff_le, gt_iff_lt] at hg'); ((try simp (disch := omega) only [hg, go_sem, wrap_n, true_and]) <;> (repeat' with_reducible refine And.intro ?_ ?_) <;> (try (with_reducible refine hK _ ?_; clear hK K))))))
                                                            | omega
  refine AWP.weaken (SImp.nilOwn 5 3 rfl) ?_
  simp only [go_sem]
  refine AWP.loopB (ι := Nat) (fun k => k ≤ l.length) (fun k => l.length - k) [1, 8, 9] (fun k => [(10, I k), (5, .osl 0 3 0 (dropW (l.take k) s).length)]) (fun k => [.rows 3 ((dropW (l.take k) s).map AWatch.row)]) 0 ?_ ?_ ?_
  · omega
  · simp only [go_sem, dropW_nil]; (refine SImp.same ?_; simp (disch := omega) only [go_sem, wrap_n, Int.natCast_add, true_and])
  intro k hk
  have hol : (dropW (l.take k) s).length ≤ k := Nat.le_trans (List.length_filter_le _ _) (List.length_take_le _ _)
  simp only [go_sem]
  repeat' first
    | with_reducible refine AWP.seq ?_
    | with_reducible refine thenA_n ?_
    | with_reducible refine thenA_r ?_
    | with_reducible refine thenA_e ?_
    | with_reducible refine blkA_n ?_
    | with_reducible refine blkA_r ?_
    | with_reducible refine blkA_e ?_
    | with_reducible refine blkA_x (by decide) ?_
    | with_reducible refine AWP.skip ?_
    | with_reducible refine AWP.ret ?_
    | with_reducible refine AWP.exit ?_
    | with_reducible refine AWP.block ?_
    | (with_reducible refine AWP.cond rfl ?_ ?_ <;> intro hc <;> (try simp only [decide_eq_true_eq, decide_eq_false_iff_not, Bool.and_eq_true, Bool.or_eq_true, Bool.or_eq_false_iff, Bool.and_eq_false_iff, Bool.not_eq_true', Bool.not_eq_false', Bool.true_eq_false, Bool.false_eq_true, Bool.not_eq_true, Bool.not_eq_false, Int.not_lt, Int.not_le, Nat.not_lt, Nat.not_le, Int.ofNat_lt, Int.ofNat_le, Int.natCast_eq_zero, not_true_eq_false, not_false_eq_true, beq_iff_eq, Bool.not_true, Bool.not_false, ge_iff_le, gt_iff_lt] at hc))
    | ((first | with_reducible refine AWP.region tabOk ?_ | with_reducible refine AWP.quietC mixed tabOk (by decide +kernel) ?_ | with_reducible refine AWP.draw mixed tabOk (by decide +kernel) ?_ | with_reducible refine AWP.drawE mixed tabOk (by decide +kernel) ?_); intro K hK; ((try simp (disch := omega) only [go_sem, wrap_n, AWatch.rgetD, take_map_len, AWatch.rsnoc]) <;> (repeat' with_reducible refine And.intro ?_ ?_) <;> (try (with_reducible refine hK _ ?_; clear hK K))))
    | ((first | (with_reducible refine aunder_i ?_ ?_ <;> intro hg) | with_reducible intro hg) <;> (first | (exfalso; simp at hg; done) | (have hg' := hg; (try simp only [decide_eq_true_eq, decide_eq_false_iff_not, Bool.and_eq_true, Bool.or_eq_true, Bool.or_eq_false_iff, Bool.and_eq_false_iff, Bool.not_eq_true', Bool.not_eq_false', Bool.true_eq_false, Bool.false_eq_true, Bool.not_eq_true, Bool.not_eq_false, Int.not_lt, Int.not_le, Nat.not_lt, Nat.not_le, Int.ofNat_lt, Int.ofNat_le, Int.natCast_eq_zero, not_true_eq_false, not_false_eq_true, beq_iff_eq, Bool.not_true, Bool.not_false, ge_iff_le, gt_iff_lt] at hg'); ((try simp (disch := omega) only [hg, go_sem, wrap_n, AWatch.rgetD, take_map_len, AWatch.rsnoc]) <;> (repeat' with_reducible refine And.intro ?_ ?_) <;> (try (with_reducible refine hK _ ?_; clear hK K))))))
                                                            | omega
  · refine ⟨k + 1, by omega, by omega, ?_⟩
    rw [dropW_snoc _ _ _ (by assumption), if_pos hc]
    (refine SImp.frame [3] rfl (by intro k hk; simp at hk <;> (simp; omega)) (by decide) (fun k hk => by omega) ?_ ?_ <;> simp (disch := omega) only [go_sem, wrap_n, Int.natCast_add, List.length_append] <;> (try rfl))
  · refine ⟨k + 1, by omega, by omega, ?_⟩
    rw [dropW_snoc _ _ _ (by assumption), if_neg (by simpa using hc)]
    (refine SImp.frame [0] rfl (by intro k hk; simp at hk <;> (simp; omega)) (by decide) (fun k hk => by omega) ?_ ?_ <;> simp (disch := omega) only [go_sem, wrap_n, Int.natCast_add, true_and] <;> (try rfl))
  · have e : k = l.length := by omega
    subst e
    simp only [List.take_length]
    (refine aend_retc ?_ rfl ?_ ?_ ?_ ?_; (focus (first | exact .inl rfl | exact .inr rfl)); (focus ((try simp (disch := omega) only [go_sem, wrap_n, true_and]) <;> (try omega) <;> fail)); (focus ((try simp (disch := omega) only [go_sem, wrap_n, true_and]) <;> (try omega) <;> fail)); (focus ((try simp (disch := omega) only [go_sem, wrap_n, true_and]) <;> (try omega) <;> fail)); (try simp (disch := omega) only [go_sem, wrap_n, true_and, I, B, S, AV.d.injEq, DV.int.injEq, DV.bool.injEq, DV.str.injEq, DV.sl.injEq, AV.tup.injEq, AV.agg.injEq, List.cons.injEq, and_true, true_and, and_self]))
theorem ref_drop_c (l : List AWatch) (s : Int) (h : l.length * 32 ≤ 140737488351232) : acall Tryd.prog [] 36 [.d (.sl 3 (l.map AWatch.row)), I s] (ret (.d (.sl 3 ((dropW l s).map AWatch.row)))) := by
  refine acall_of tabOk Tryd.func36 rfl (by kernel_rfl) (by simp [Tryd.ntmps36]) ?_; simp only [Tryd.ntmps36, Tryd.results36, List.toList_toArray, apar, List.length_nil, List.length_cons, Nat.reduceAdd]
  repeat' first
    | with_reducible refine AWP.seq ?_
    | with_reducible refine thenA_n ?_
    | with_reducible refine thenA_r ?_
    | with_reducible refine thenA_e ?_
    | with_reducible refine blkA_n ?_
    | with_reducible refine blkA_r ?_
    | with_reducible refine blkA_e ?_
    | with_reducible refine blkA_x (by decide) ?_
    | with_reducible refine AWP.skip ?_
    | with_reducible refine AWP.ret ?_
    | with_reducible refine AWP.exit ?_
    | with_reducible refine AWP.block ?_
    | (with_reducible refine AWP.cond rfl ?_ ?_ <;> intro hc <;> (try simp only [decide_eq_true_eq, decide_eq_false_iff_not, Bool.and_eq_true, Bool.or_eq_true, Bool.or_eq_false_iff, Bool.and_eq_false_iff, Bool.not_eq_true', Bool.not_eq_false', Bool.true_eq_false, Bool.false_eq_true, Bool.not_eq_true, Bool.not_eq_false, Int.not_lt, Int.not_le, Nat.not_lt, Nat.not_le, Int.ofNat_lt, Int.ofNat_le, Int.natCast_eq_zero, not_true_eq_false, not_false_eq_true, beq_iff_eq, Bool.not_true, Bool.not_false, ge_iff_le, gt_iff_lt] at hc))
    | ((first | with_reducible refine AWP.region tabOk ?_ | with_reducible refine AWP.quietC mixed tabOk (by decide +kernel) ?_ | with_reducible refine AWP.draw mixed tabOk (by decide +kernel) ?_ | with_reducible refine AWP.drawE mixed tabOk (by decide +kernel) ?_); intro K hK; ((try simp (disch := omega) only [go_sem, wrap_n, true_and]) <;> (repeat' with_reducible refine And.intro ?_ ?_) <;> (try (with_reducible refine hK _ ?_; clear hK K))))
    | ((first | (with_reducible refine aunder_i ?_ ?_ <;> intro hg) | with_reducible intro hg) <;> (first | (exfalso; simp at hg; done) | (have hg' := hg; (try simp only [decide_eq_true_eq, decide_eq_false_iff_not, Bool.and_eq_true, Bool.or_eq_true, Bool.or_eq_false_iff, Bool.and_eq_false_iff, Bool.not_eq_true', Bool.not_eq_false', Bool.true_eq_false, Bool.false_eq_true, Bool.not_eq_true, Bool.not_eq_false, Int.not_lt, Int.not_le, Nat.not_lt, Nat.not_le, Int.ofNat_lt, Int.ofNat_le, Int.natCast_eq_zero, not_true_eq_false, not_false_eq_true, beq_iff_eq, Bool.not_true, Bool.not_false, ge_iff_le, gt_iff_lt] at hg'); ((try simp (disch := omega) only [hg, go_sem, wrap_n, true_and]) <;> (repeat' with_reducible refine And.intro ?_ ?_) <;> (try (with_reducible refine hK _ ?_; clear hK K))))))
                                                            | omega
  refine AWP.weaken (SImp.nilOwn 5 3 rfl) ?_
  simp only [go_sem]
  refine AWP.loopB (ι := Nat) (fun k => k ≤ l.length) (fun k => l.length - k) [1, 8, 9] (fun k => [(10, I k), (5, .osl 0 3 0 (dropW (l.take k) s).length)]) (fun k => [.rows 3 ((dropW (l.take k) s).map AWatch.row)]) 0 ?_ ?_ ?_
  · omega
  · simp only [go_sem, dropW_nil]; (refine SImp.same ?_; simp (disch := omega) only [go_sem, wrap_n, Int.natCast_add, true_and])
  intro k hk
  have hol : (dropW (l.take k) s).length ≤ k := Nat.le_trans (List.length_filter_le _ _) (List.length_take_le _ _)
  simp only [go_sem]
  repeat' first
    | with_reducible refine AWP.seq ?_
    | with_reducible refine thenA_n ?_
    | with_reducible refine thenA_r ?_
    | with_reducible refine thenA_e ?_
    | with_reducible refine blkA_n ?_
    | with_reducible refine blkA_r ?_
    | with_reducible refine blkA_e ?_
    | with_reducible refine blkA_x (by decide) ?_
    | with_reducible refine AWP.skip ?_
    | with_reducible refine AWP.ret ?_
    | with_reducible refine AWP.exit ?_
    | with_reducible refine AWP.block ?_
    | (with_reducible refine AWP.cond rfl ?_ ?_ <;> intro hc <;> (try simp only [decide_eq_true_eq, decide_eq_false_iff_not, Bool.and_eq_true, Bool.or_eq_true, Bool.or_eq_false_iff, Bool.and_eq_false_iff, Bool.not_eq_true', Bool.not_eq_false', Bool.true_eq_false, Bool.false_eq_true, Bool.not_eq_true, Bool.not_eq_false, Int.not_lt, Int.not_le, Nat.not_lt, Nat.not_le, Int.ofNat_lt, Int.ofNat_le, Int.natCast_eq_zero, not_true_eq_false, not_false_eq_true, beq_iff_eq, Bool.not_true, Bool.not_false, ge_iff_le, gt_iff_lt] at hc))
    | ((first | with_reducible refine AWP.region tabOk ?_ | with_reducible refine AWP.quietC mixed tabOk (by decide +kernel) ?_ | with_reducible refine AWP.draw mixed tabOk (by decide +kernel) ?_ | with_reducible refine AWP.drawE mixed tabOk (by decide +kernel) ?_); intro K hK; ((try simp (disch := omega) only [go_sem, wrap_n, AWatch.rgetD, take_map_len, AWatch.rsnoc]) <;> (repeat' with_reducible refine And.intro ?_ ?_) <;> (try (with_reducible refine hK _ ?_; clear hK K))))
    | ((first | (with_reducible refine aunder_i ?_ ?_ <;> intro hg) | with_reducible intro hg) <;> (first | (exfalso; simp at hg; done) | (have hg' := hg; (try simp only [decide_eq_true_eq, decide_eq_false_iff_not, Bool.and_eq_true, Bool.or_eq_true, Bool.or_eq_false_iff, Bool.and_eq_false_iff, Bool.not_eq_true', Bool.not_eq_false', Bool.true_eq_false, Bool.false_eq_true, Bool.not_eq_true, Bool.not_eq_false, Int.not_lt, Int.not_le, Nat.not_lt, Nat.not_le, Int.ofNat_lt, Int.ofNat_le, Int.natCast_eq_zero, not_true_eq_false, not_false_eq_true, beq_iff_eq, Bool.not_true, Bool.not_false, ge_iff_le, gt_iff_lt] at hg'); ((try simp (disch := omega) only [hg, go_sem, wrap_n, AWatch.rgetD, take_map_len, AWatch.rsnoc]) <;> (repeat' with_reducible refine And.intro ?_ ?_) <;> (try (with_reducible refine hK _ ?_; clear hK K))))))
                                                            | omega
  · refine ⟨k + 1, by omega, by omega, ?_⟩
    rw [dropW_snoc _ _ _ (by assumption), if_pos hc]
    (refine SImp.frame [3] rfl (by intro k hk; simp at hk <;> (simp; omega)) (by decide) (fun k hk => by omega) ?_ ?_ <;> simp (disch := omega) only [go_sem, wrap_n, Int.natCast_add, List.length_append] <;> (try rfl))
  · refine ⟨k + 1, by omega, by omega, ?_⟩
    rw [dropW_snoc _ _ _ (by assumption), if_neg (by simpa using hc)]
    (refine SImp.frame [0] rfl (by intro k hk; simp at hk <;> (simp; omega)) (by decide) (fun k hk => by omega) ?_ ?_ <;> simp (disch := omega) only [go_sem, wrap_n, Int.natCast_add, true_and] <;> (try rfl))
  · have e : k = l.length := by omega
    subst e
    simp only [List.take_length]
    (refine aend_retc ?_ rfl ?_ ?_ ?_ ?_; (focus (first | exact .inl rfl | exact .inr rfl)); (focus ((try simp (disch := omega) only [go_sem, wrap_n, true_and]) <;> (try omega) <;> fail)); (focus ((try simp (disch := omega) only [go_sem, wrap_n, true_and]) <;> (try omega) <;> fail)); (focus ((try simp (disch := omega) only [go_sem, wrap_n, true_and]) <;> (try omega) <;> fail)); (try simp (disch := omega) only [go_sem, wrap_n, true_and, I, B, S, AV.d.injEq, DV.int.injEq, DV.bool.injEq, DV.str.injEq, DV.sl.injEq, AV.tup.injEq, AV.agg.injEq, List.cons.injEq, and_true, true_and, and_self]))
theorem same_watches_c (a b : List AWatch) (h : a.length * 32 ≤ 140737488351232) (h2 : b.length * 32 ≤ 140737488351232) : acall Tryd.prog [] 34 [.d (.sl 3 (a.map AWatch.row)), .d (.sl 3 (b.map AWatch.row))] (ret (B (decide (a = b)))) := by
  refine acall_of tabOk Tryd.func34 rfl (by kernel_rfl) (by simp [Tryd.ntmps34]) ?_; simp only [Tryd.ntmps34, Tryd.results34, List.toList_toArray, apar, List.length_nil, List.length_cons, Nat.reduceAdd]
  repeat' first
    | with_reducible refine AWP.seq ?_
    | with_reducible refine thenA_n ?_
    | with_reducible refine thenA_r ?_
    | with_reducible refine thenA_e ?_
    | with_reducible refine blkA_n ?_
    | with_reducible refine blkA_r ?_
    | with_reducible refine blkA_e ?_
    | with_reducible refine blkA_x (by decide) ?_
    | with_reducible refine AWP.skip ?_
    | with_reducible refine AWP.ret ?_
    | with_reducible refine AWP.exit ?_
    | with_reducible refine AWP.block ?_
    | (with_reducible refine AWP.cond rfl ?_ ?_ <;> intro hc <;> (try simp only [decide_eq_true_eq, decide_eq_false_iff_not, Bool.and_eq_true, Bool.or_eq_true, Bool.or_eq_false_iff, Bool.and_eq_false_iff, Bool.not_eq_true', Bool.not_eq_false', Bool.true_eq_false, Bool.false_eq_true, Bool.not_eq_true, Bool.not_eq_false, Int.not_lt, Int.not_le, Nat.not_lt, Nat.not_le, Int.ofNat_lt, Int.ofNat_le, Int.natCast_eq_zero, not_true_eq_false, not_false_eq_true, beq_iff_eq, Bool.not_true, Bool.not_false, ge_iff_le, gt_iff_lt] at hc))
    | ((first | with_reducible refine AWP.region tabOk ?_ | with_reducible refine AWP.quietC mixed tabOk (by decide +kernel) ?_ | with_reducible refine AWP.draw mixed tabOk (by decide +kernel) ?_ | with_reducible refine AWP.drawE mixed tabOk (by decide +kernel) ?_); intro K hK; ((try simp (disch := omega) only [go_sem, wrap_n, true_and]) <;> (repeat' with_reducible refine And.intro ?_ ?_) <;> (try (with_reducible refine hK _ ?_; clear hK K))))
    | ((first | (with_reducible refine aunder_i ?_ ?_ <;> intro hg) | with_reducible intro hg) <;> (first | (exfalso; simp at hg; done) | (have hg' := hg; (try simp only [decide_eq_true_eq, decide_eq_false_iff_not, Bool.and_eq_true, Bool.or_eq_true, Bool.or_eq_false_iff, Bool.and_eq_false_iff, Bool.not_eq_true', Bool.not_eq_false', Bool.true_eq_false, Bool.false_eq_true, Bool.not_eq_true, Bool.not_eq_false, Int.not_lt, Int.not_le, Nat.not_lt, Nat.not_le, Int.ofNat_lt, Int.ofNat_le, Int.natCast_eq_zero, not_true_eq_false, not_false_eq_true, beq_iff_eq, Bool.not_true, Bool.not_false, ge_iff_le, gt_iff_lt] at hg'); ((try simp (disch := omega) only [hg, go_sem, wrap_n, true_and]) <;> (repeat' with_reducible refine And.intro ?_ ?_) <;> (try (with_reducible refine hK _ ?_; clear hK K))))))
                                                            | omega
  · (refine aend_retc ?_ rfl ?_ ?_ ?_ ?_; (focus (first | exact .inl rfl | exact .inr rfl)); (focus ((try simp (disch := omega) only [go_sem, wrap_n, true_and]) <;> (try omega) <;> fail)); (focus ((try simp (disch := omega) only [go_sem, wrap_n, true_and]) <;> (try omega) <;> fail)); (focus ((try simp (disch := omega) only [go_sem, wrap_n, true_and]) <;> (try omega) <;> fail)); (try simp (disch := omega) only [go_sem, wrap_n, true_and, I, B, S, AV.d.injEq, DV.int.injEq, DV.bool.injEq, DV.str.injEq, DV.sl.injEq, AV.tup.injEq, AV.agg.injEq, List.cons.injEq, and_true, true_and, and_self]))
    symm; rw [decide_eq_false_iff_not]; intro e; subst e; simp at hc
  have h3 := hc
  refine AWP.loopS (ι := Nat) (fun k => k ≤ a.length ∧ ∀ j, j < k → a.getD j default = b.getD j default) (fun k => a.length - k) [0, 1, 12] (fun k => [(13, I k)]) 0 ?_ (by simp (disch := omega) only [go_sem, wrap_n, true_and]) ?_
  · exact ⟨by omega, by omega⟩
  intro k ⟨hk, hk2⟩
  simp only [go_sem]
  repeat' first
    | with_reducible refine AWP.seq ?_
    | with_reducible refine thenA_n ?_
    | with_reducible refine thenA_r ?_
    | with_reducible refine thenA_e ?_
    | with_reducible refine blkA_n ?_
    | with_reducible refine blkA_r ?_
    | with_reducible refine blkA_e ?_
    | with_reducible refine blkA_x (by decide) ?_
    | with_reducible refine AWP.skip ?_
    | with_reducible refine AWP.ret ?_
    | with_reducible refine AWP.exit ?_
    | with_reducible refine AWP.block ?_
    | (with_reducible refine AWP.cond rfl ?_ ?_ <;> intro hc <;> (try simp only [decide_eq_true_eq, decide_eq_false_iff_not, Bool.and_eq_true, Bool.or_eq_true, Bool.or_eq_false_iff, Bool.and_eq_false_iff, Bool.not_eq_true', Bool.not_eq_false', Bool.true_eq_false, Bool.false_eq_true, Bool.not_eq_true, Bool.not_eq_false, Int.not_lt, Int.not_le, Nat.not_lt, Nat.not_le, Int.ofNat_lt, Int.ofNat_le, Int.natCast_eq_zero, not_true_eq_false, not_false_eq_true, beq_iff_eq, Bool.not_true, Bool.not_false, ge_iff_le, gt_iff_lt] at hc))
    | ((first | with_reducible refine AWP.region tabOk ?_ | with_reducible refine AWP.quietC mixed tabOk (by decide +kernel) ?_ | with_reducible refine AWP.draw mixed tabOk (by decide +kernel) ?_ | with_reducible refine AWP.drawE mixed tabOk (by decide +kernel) ?_); intro K hK; ((try simp (disch := omega) only [go_sem, wrap_n, AWatch.rgetD]) <;> (repeat' with_reducible refine And.intro ?_ ?_) <;> (try (with_reducible refine hK _ ?_; clear hK K))))
    | ((first | (with_reducible refine aunder_i ?_ ?_ <;> intro hg) | with_reducible intro hg) <;> (first | (exfalso; simp at hg; done) | (have hg' := hg; (try simp only [decide_eq_true_eq, decide_eq_false_iff_not, Bool.and_eq_true, Bool.or_eq_true, Bool.or_eq_false_iff, Bool.and_eq_false_iff, Bool.not_eq_true', Bool.not_eq_false', Bool.true_eq_false, Bool.false_eq_true, Bool.not_eq_true, Bool.not_eq_false, Int.not_lt, Int.not_le, Nat.not_lt, Nat.not_le, Int.ofNat_lt, Int.ofNat_le, Int.natCast_eq_zero, not_true_eq_false, not_false_eq_true, beq_iff_eq, Bool.not_true, Bool.not_false, ge_iff_le, gt_iff_lt] at hg'); ((try simp (disch := omega) only [hg, go_sem, wrap_n, AWatch.rgetD]) <;> (repeat' with_reducible refine And.intro ?_ ?_) <;> (try (with_reducible refine hK _ ?_; clear hK K))))))
                                                            | omega
  · (refine aend_retc ?_ rfl ?_ ?_ ?_ ?_; (focus (first | exact .inl rfl | exact .inr rfl)); (focus ((try simp (disch := omega) only [go_sem, wrap_n, true_and]) <;> (try omega) <;> fail)); (focus ((try simp (disch := omega) only [go_sem, wrap_n, true_and]) <;> (try omega) <;> fail)); (focus ((try simp (disch := omega) only [go_sem, wrap_n, true_and]) <;> (try omega) <;> fail)); (try simp (disch := omega) only [go_sem, wrap_n, true_and, I, B, S, AV.d.injEq, DV.int.injEq, DV.bool.injEq, DV.str.injEq, DV.sl.injEq, AV.tup.injEq, AV.agg.injEq, List.cons.injEq, and_true, true_and, and_self]))
    symm; rw [decide_eq_false_iff_not]; intro e; subst e; simp at hc
  · refine ⟨k + 1, ⟨by omega, fun j hj => ?_⟩, by omega, ?_⟩
    · by_cases e : j = k
      · subst e; exact hc
      · exact hk2 j (by omega)
    (refine SImp.same ?_; simp (disch := omega) only [go_sem, wrap_n, Int.natCast_add, true_and])
  · (refine aend_retc ?_ rfl ?_ ?_ ?_ ?_; (focus (first | exact .inl rfl | exact .inr rfl)); (focus ((try simp (disch := omega) only [go_sem, wrap_n, true_and]) <;> (try omega) <;> fail)); (focus ((try simp (disch := omega) only [go_sem, wrap_n, true_and]) <;> (try omega) <;> fail)); (focus ((try simp (disch := omega) only [go_sem, wrap_n, true_and]) <;> (try omega) <;> fail)); (try simp (disch := omega) only [go_sem, wrap_n, true_and, I, B, S, AV.d.injEq, DV.int.injEq, DV.bool.injEq, DV.str.injEq, DV.sl.injEq, AV.tup.injEq, AV.agg.injEq, List.cons.injEq, and_true, true_and, and_self]))
    symm; rw [decide_eq_true_eq]
    exact eq_of_getD (by omega) fun j hj => hk2 j (by omega)
theorem addW_kind {l : List AWatch} {w : AWatch} (h : w.kind ≠ 1 ∧ w.kind ≠ 2) : addW l w = ([], 4) := by unfold addW; rw [if_pos h]
theorem addW_path {l : List AWatch} {w : AWatch} (h1 : ¬ (w.kind ≠ 1 ∧ w.kind ≠ 2)) (h2 : goodP w.path = false) : addW l w = ([], 2) := by unfold addW; rw [if_neg h1, if_pos (by rw [h2]; decide)]
theorem addW_rest {l : List AWatch} {w : AWatch} (h1 : ¬ (w.kind ≠ 1 ∧ w.kind ≠ 2)) (h2 : goodP w.path = true) : addW l w = if w.session < 1 ∨ 2147483647 < w.session then ([], 3) else if w ∈ l then (l, 0) else if 400 ≤ l.length then ([], 6) else (l ++ [w], 0) := by unfold addW; rw [if_neg h1, if_neg (by rw [h2]; decide)]
theorem wrow_snoc (l : List AWatch) (w : AWatch) : l.map AWatch.row ++ [w.row] = (l ++ [w]).map AWatch.row := by rw [List.map_append]; rfl
theorem add_c (l : List AWatch) (w : AWatch) (h : l.length * 32 ≤ 140737488351232) (hw : okS w.path) : acall Tryd.prog [] 31 [.d (.sl 3 (l.map AWatch.row)), w.av] (ret (.tup [.d (.sl 3 ((addW l w).1.map AWatch.row)), I (addW l w).2])) := by
  refine acall_of tabOk Tryd.func31 rfl (by kernel_rfl) (by simp [Tryd.ntmps31]) ?_; simp only [Tryd.ntmps31, Tryd.results31, List.toList_toArray, apar, List.length_nil, List.length_cons, Nat.reduceAdd]
  repeat' first
    | with_reducible refine AWP.seq ?_
    | with_reducible refine thenA_n ?_
    | with_reducible refine thenA_r ?_
    | with_reducible refine thenA_e ?_
    | with_reducible refine blkA_n ?_
    | with_reducible refine blkA_r ?_
    | with_reducible refine blkA_e ?_
    | with_reducible refine blkA_x (by decide) ?_
    | with_reducible refine AWP.skip ?_
    | with_reducible refine AWP.ret ?_
    | with_reducible refine AWP.exit ?_
    | with_reducible refine AWP.block ?_
    | (with_reducible refine AWP.cond rfl ?_ ?_ <;> intro hc <;> (try simp only [decide_eq_true_eq, decide_eq_false_iff_not, Bool.and_eq_true, Bool.or_eq_true, Bool.or_eq_false_iff, Bool.and_eq_false_iff, Bool.not_eq_true', Bool.not_eq_false', Bool.true_eq_false, Bool.false_eq_true, Bool.not_eq_true, Bool.not_eq_false, Int.not_lt, Int.not_le, Nat.not_lt, Nat.not_le, Int.ofNat_lt, Int.ofNat_le, Int.natCast_eq_zero, not_true_eq_false, not_false_eq_true, beq_iff_eq, Bool.not_true, Bool.not_false, ge_iff_le, gt_iff_lt] at hc))
    | ((first | with_reducible refine AWP.region tabOk ?_ | with_reducible refine AWP.quietC mixed tabOk (by decide +kernel) ?_ | with_reducible refine AWP.draw mixed tabOk (by decide +kernel) ?_ | with_reducible refine AWP.drawE mixed tabOk (by decide +kernel) ?_); intro K hK; ((try simp (disch := omega) only [go_sem, wrap_n, true_and]) <;> (repeat' with_reducible refine And.intro ?_ ?_) <;> (try (with_reducible refine hK _ ?_; clear hK K))))
    | ((first | refine acallH_sc (good_c w.path hw) rfl rfl ?_ ?_ ?_ | refine acallH_sc (wcontains_c l w h) rfl rfl ?_ ?_ ?_); (focus ((try simp (disch := omega) only [go_sem, wrap_n, true_and]) <;> (try omega) <;> fail)); (focus ((try simp (disch := omega) only [go_sem, wrap_n, true_and]) <;> (try omega) <;> fail)); ((try simp (disch := omega) only [go_sem, wrap_n, true_and]) <;> (repeat' with_reducible refine And.intro ?_ ?_) <;> (try (with_reducible refine hK _ ?_; clear hK K))))
    | ((first | refine acallQ_sc (good_c w.path hw) rfl rfl ?_ ?_ ?_ | refine acallQ_sc (wcontains_c l w h) rfl rfl ?_ ?_ ?_); (focus ((try simp (disch := omega) only [go_sem, wrap_n, true_and]) <;> (try omega) <;> fail)); (focus ((try simp (disch := omega) only [go_sem, wrap_n, true_and]) <;> (try omega) <;> fail)); ((try simp (disch := omega) only [go_sem, wrap_n, true_and]) <;> (repeat' with_reducible refine And.intro ?_ ?_) <;> (try (with_reducible refine hK _ ?_; clear hK K))))
    | ((first | refine acallH_anyr (good_c w.path hw) rfl ?_ ?_ | refine acallH_anyr (wcontains_c l w h) rfl ?_ ?_); (focus ((try simp (disch := omega) only [go_sem, wrap_n, true_and]) <;> (try omega) <;> fail)); ((try simp (disch := omega) only [go_sem, wrap_n, true_and]) <;> (repeat' with_reducible refine And.intro ?_ ?_) <;> (try (with_reducible refine hK _ ?_; clear hK K))))
    | ((first | refine acallH_scx (good_c w.path hw) rfl ?_ ?_ | refine acallQ_scx (good_c w.path hw) rfl ?_ ?_ | refine acallH_anyx (good_c w.path hw) ?_ ?_); (focus ((try simp (disch := omega) only [go_sem, wrap_n, true_and]) <;> (try omega) <;> fail)); ((try simp (disch := omega) only [go_sem, wrap_n, true_and]) <;> (repeat' with_reducible refine And.intro ?_ ?_) <;> (try (with_reducible refine hK _ ?_; clear hK K))))
    | ((first | refine acallH_scx (wcontains_c l w h) rfl ?_ ?_ | refine acallQ_scx (wcontains_c l w h) rfl ?_ ?_ | refine acallH_anyx (wcontains_c l w h) ?_ ?_); (focus ((try simp (disch := omega) only [go_sem, wrap_n, true_and]) <;> (try omega) <;> fail)); ((try simp (disch := omega) only [go_sem, wrap_n, true_and]) <;> (repeat' with_reducible refine And.intro ?_ ?_) <;> (try (with_reducible refine hK _ ?_; clear hK K))))
    | ((first | (with_reducible refine aunder_i ?_ ?_ <;> intro hg) | with_reducible intro hg) <;> (first | (exfalso; simp at hg; done) | (have hg' := hg; (try simp only [decide_eq_true_eq, decide_eq_false_iff_not, Bool.and_eq_true, Bool.or_eq_true, Bool.or_eq_false_iff, Bool.and_eq_false_iff, Bool.not_eq_true', Bool.not_eq_false', Bool.true_eq_false, Bool.false_eq_true, Bool.not_eq_true, Bool.not_eq_false, Int.not_lt, Int.not_le, Nat.not_lt, Nat.not_le, Int.ofNat_lt, Int.ofNat_le, Int.natCast_eq_zero, not_true_eq_false, not_false_eq_true, beq_iff_eq, Bool.not_true, Bool.not_false, ge_iff_le, gt_iff_lt] at hg'); ((try simp (disch := omega) only [hg, go_sem, wrap_n, true_and]) <;> (repeat' with_reducible refine And.intro ?_ ?_) <;> (try (with_reducible refine hK _ ?_; clear hK K))))))
                                                            | omega
  · rw [addW_kind hc]; (refine aend_retc ?_ rfl ?_ ?_ ?_ ?_; (focus (first | exact .inl rfl | exact .inr rfl)); (focus ((try simp (disch := omega) only [go_sem, wrap_n, true_and]) <;> (try omega) <;> fail)); (focus ((try simp (disch := omega) only [go_sem, wrap_n, true_and]) <;> (try omega) <;> fail)); (focus ((try simp (disch := omega) only [go_sem, wrap_n, true_and]) <;> (try omega) <;> fail)); (try simp (disch := omega) only [go_sem, wrap_n, true_and, I, B, S, AV.d.injEq, DV.int.injEq, DV.bool.injEq, DV.str.injEq, DV.sl.injEq, AV.tup.injEq, AV.agg.injEq, List.cons.injEq, and_true, true_and, and_self]))
  · rw [addW_path (by omega) hc]; (refine aend_retc ?_ rfl ?_ ?_ ?_ ?_; (focus (first | exact .inl rfl | exact .inr rfl)); (focus ((try simp (disch := omega) only [go_sem, wrap_n, true_and]) <;> (try omega) <;> fail)); (focus ((try simp (disch := omega) only [go_sem, wrap_n, true_and]) <;> (try omega) <;> fail)); (focus ((try simp (disch := omega) only [go_sem, wrap_n, true_and]) <;> (try omega) <;> fail)); (try simp (disch := omega) only [go_sem, wrap_n, true_and, I, B, S, AV.d.injEq, DV.int.injEq, DV.bool.injEq, DV.str.injEq, DV.sl.injEq, AV.tup.injEq, AV.agg.injEq, List.cons.injEq, and_true, true_and, and_self]))
  all_goals (have hk : ¬ (w.kind ≠ 1 ∧ w.kind ≠ 2) := by omega)
  all_goals rw [addW_rest hk (by assumption)]
  · rw [if_pos hc]; (refine aend_retc ?_ rfl ?_ ?_ ?_ ?_; (focus (first | exact .inl rfl | exact .inr rfl)); (focus ((try simp (disch := omega) only [go_sem, wrap_n, true_and]) <;> (try omega) <;> fail)); (focus ((try simp (disch := omega) only [go_sem, wrap_n, true_and]) <;> (try omega) <;> fail)); (focus ((try simp (disch := omega) only [go_sem, wrap_n, true_and]) <;> (try omega) <;> fail)); (try simp (disch := omega) only [go_sem, wrap_n, true_and, I, B, S, AV.d.injEq, DV.int.injEq, DV.bool.injEq, DV.str.injEq, DV.sl.injEq, AV.tup.injEq, AV.agg.injEq, List.cons.injEq, and_true, true_and, and_self]))
  all_goals rw [if_neg (by omega)]
  · rw [if_pos hc]; (refine aend_retc ?_ rfl ?_ ?_ ?_ ?_; (focus (first | exact .inl rfl | exact .inr rfl)); (focus ((try simp (disch := omega) only [go_sem, wrap_n, true_and]) <;> (try omega) <;> fail)); (focus ((try simp (disch := omega) only [go_sem, wrap_n, true_and]) <;> (try omega) <;> fail)); (focus ((try simp (disch := omega) only [go_sem, wrap_n, true_and]) <;> (try omega) <;> fail)); (try simp (disch := omega) only [go_sem, wrap_n, true_and, I, B, S, AV.d.injEq, DV.int.injEq, DV.bool.injEq, DV.str.injEq, DV.sl.injEq, AV.tup.injEq, AV.agg.injEq, List.cons.injEq, and_true, true_and, and_self]))
  all_goals rw [if_neg (by assumption)]
  · rw [if_pos (by omega)]; (refine aend_retc ?_ rfl ?_ ?_ ?_ ?_; (focus (first | exact .inl rfl | exact .inr rfl)); (focus ((try simp (disch := omega) only [go_sem, wrap_n, true_and]) <;> (try omega) <;> fail)); (focus ((try simp (disch := omega) only [go_sem, wrap_n, true_and]) <;> (try omega) <;> fail)); (focus ((try simp (disch := omega) only [go_sem, wrap_n, true_and]) <;> (try omega) <;> fail)); (try simp (disch := omega) only [go_sem, wrap_n, true_and, I, B, S, AV.d.injEq, DV.int.injEq, DV.bool.injEq, DV.str.injEq, DV.sl.injEq, AV.tup.injEq, AV.agg.injEq, List.cons.injEq, and_true, true_and, and_self]))
  · rw [if_neg (by omega)]; (refine aend_retc ?_ rfl ?_ ?_ ?_ ?_; (focus (first | exact .inl rfl | exact .inr rfl)); (focus ((try simp (disch := omega) only [go_sem, wrap_n, AWatch.rsnoc, wrow_snoc]) <;> (try omega) <;> fail)); (focus ((try simp (disch := omega) only [go_sem, wrap_n, AWatch.rsnoc, wrow_snoc]) <;> (try omega) <;> fail)); (focus ((try simp (disch := omega) only [go_sem, wrap_n, AWatch.rsnoc, wrow_snoc]) <;> (try omega) <;> fail)); (try simp (disch := omega) only [go_sem, wrap_n, AWatch.rsnoc, wrow_snoc, I, B, S, AV.d.injEq, DV.int.injEq, DV.bool.injEq, DV.str.injEq, DV.sl.injEq, AV.tup.injEq, AV.agg.injEq, List.cons.injEq, and_true, true_and, and_self]))
    exact Or.inl (List.take_of_length_le (by simp))
theorem ref_add_c (l : List AWatch) (w : AWatch) (h : l.length * 32 ≤ 140737488351232) (hw : w.path.length ≤ 1048576) : acall Tryd.prog [] 33 [.d (.sl 3 (l.map AWatch.row)), w.av] (ret (.tup [.d (.sl 3 ((addW l w).1.map AWatch.row)), I (addW l w).2])) := by
  refine acall_of tabOk Tryd.func33 rfl (by kernel_rfl) (by simp [Tryd.ntmps33]) ?_; simp only [Tryd.ntmps33, Tryd.results33, List.toList_toArray, apar, List.length_nil, List.length_cons, Nat.reduceAdd]
  repeat' first
    | with_reducible refine AWP.seq ?_
    | with_reducible refine thenA_n ?_
    | with_reducible refine thenA_r ?_
    | with_reducible refine thenA_e ?_
    | with_reducible refine blkA_n ?_
    | with_reducible refine blkA_r ?_
    | with_reducible refine blkA_e ?_
    | with_reducible refine blkA_x (by decide) ?_
    | with_reducible refine AWP.skip ?_
    | with_reducible refine AWP.ret ?_
    | with_reducible refine AWP.exit ?_
    | with_reducible refine AWP.block ?_
    | (with_reducible refine AWP.cond rfl ?_ ?_ <;> intro hc <;> (try simp only [decide_eq_true_eq, decide_eq_false_iff_not, Bool.and_eq_true, Bool.or_eq_true, Bool.or_eq_false_iff, Bool.and_eq_false_iff, Bool.not_eq_true', Bool.not_eq_false', Bool.true_eq_false, Bool.false_eq_true, Bool.not_eq_true, Bool.not_eq_false, Int.not_lt, Int.not_le, Nat.not_lt, Nat.not_le, Int.ofNat_lt, Int.ofNat_le, Int.natCast_eq_zero, not_true_eq_false, not_false_eq_true, beq_iff_eq, Bool.not_true, Bool.not_false, ge_iff_le, gt_iff_lt] at hc))
    | ((first | with_reducible refine AWP.region tabOk ?_ | with_reducible refine AWP.quietC mixed tabOk (by decide +kernel) ?_ | with_reducible refine AWP.draw mixed tabOk (by decide +kernel) ?_ | with_reducible refine AWP.drawE mixed tabOk (by decide +kernel) ?_); intro K hK; ((try simp (disch := omega) only [go_sem, wrap_n, true_and]) <;> (repeat' with_reducible refine And.intro ?_ ?_) <;> (try (with_reducible refine hK _ ?_; clear hK K))))
    | ((first | refine acallH_sc (ref_good_c w.path hw) rfl rfl ?_ ?_ ?_); (focus ((try simp (disch := omega) only [go_sem, wrap_n, true_and]) <;> (try omega) <;> fail)); (focus ((try simp (disch := omega) only [go_sem, wrap_n, true_and]) <;> (try omega) <;> fail)); ((try simp (disch := omega) only [go_sem, wrap_n, true_and]) <;> (repeat' with_reducible refine And.intro ?_ ?_) <;> (try (with_reducible refine hK _ ?_; clear hK K))))
    | ((first | refine acallQ_sc (ref_good_c w.path hw) rfl rfl ?_ ?_ ?_); (focus ((try simp (disch := omega) only [go_sem, wrap_n, true_and]) <;> (try omega) <;> fail)); (focus ((try simp (disch := omega) only [go_sem, wrap_n, true_and]) <;> (try omega) <;> fail)); ((try simp (disch := omega) only [go_sem, wrap_n, true_and]) <;> (repeat' with_reducible refine And.intro ?_ ?_) <;> (try (with_reducible refine hK _ ?_; clear hK K))))
    | ((first | refine acallH_anyr (ref_good_c w.path hw) rfl ?_ ?_); (focus ((try simp (disch := omega) only [go_sem, wrap_n, true_and]) <;> (try omega) <;> fail)); ((try simp (disch := omega) only [go_sem, wrap_n, true_and]) <;> (repeat' with_reducible refine And.intro ?_ ?_) <;> (try (with_reducible refine hK _ ?_; clear hK K))))
    | ((first | refine acallH_scx (ref_good_c w.path hw) rfl ?_ ?_ | refine acallQ_scx (ref_good_c w.path hw) rfl ?_ ?_ | refine acallH_anyx (ref_good_c w.path hw) ?_ ?_); (focus ((try simp (disch := omega) only [go_sem, wrap_n, true_and]) <;> (try omega) <;> fail)); ((try simp (disch := omega) only [go_sem, wrap_n, true_and]) <;> (repeat' with_reducible refine And.intro ?_ ?_) <;> (try (with_reducible refine hK _ ?_; clear hK K))))
    | ((first | (with_reducible refine aunder_i ?_ ?_ <;> intro hg) | with_reducible intro hg) <;> (first | (exfalso; simp at hg; done) | (have hg' := hg; (try simp only [decide_eq_true_eq, decide_eq_false_iff_not, Bool.and_eq_true, Bool.or_eq_true, Bool.or_eq_false_iff, Bool.and_eq_false_iff, Bool.not_eq_true', Bool.not_eq_false', Bool.true_eq_false, Bool.false_eq_true, Bool.not_eq_true, Bool.not_eq_false, Int.not_lt, Int.not_le, Nat.not_lt, Nat.not_le, Int.ofNat_lt, Int.ofNat_le, Int.natCast_eq_zero, not_true_eq_false, not_false_eq_true, beq_iff_eq, Bool.not_true, Bool.not_false, ge_iff_le, gt_iff_lt] at hg'); ((try simp (disch := omega) only [hg, go_sem, wrap_n, true_and]) <;> (repeat' with_reducible refine And.intro ?_ ?_) <;> (try (with_reducible refine hK _ ?_; clear hK K))))))
                                                            | omega
  · rw [addW_kind (by omega)]; (refine aend_retc ?_ rfl ?_ ?_ ?_ ?_; (focus (first | exact .inl rfl | exact .inr rfl)); (focus ((try simp (disch := omega) only [go_sem, wrap_n, true_and]) <;> (try omega) <;> fail)); (focus ((try simp (disch := omega) only [go_sem, wrap_n, true_and]) <;> (try omega) <;> fail)); (focus ((try simp (disch := omega) only [go_sem, wrap_n, true_and]) <;> (try omega) <;> fail)); (try simp (disch := omega) only [go_sem, wrap_n, true_and, I, B, S, AV.d.injEq, DV.int.injEq, DV.bool.injEq, DV.str.injEq, DV.sl.injEq, AV.tup.injEq, AV.agg.injEq, List.cons.injEq, and_true, true_and, and_self]))
  · rw [addW_path (by omega) hc]; (refine aend_retc ?_ rfl ?_ ?_ ?_ ?_; (focus (first | exact .inl rfl | exact .inr rfl)); (focus ((try simp (disch := omega) only [go_sem, wrap_n, true_and]) <;> (try omega) <;> fail)); (focus ((try simp (disch := omega) only [go_sem, wrap_n, true_and]) <;> (try omega) <;> fail)); (focus ((try simp (disch := omega) only [go_sem, wrap_n, true_and]) <;> (try omega) <;> fail)); (try simp (disch := omega) only [go_sem, wrap_n, true_and, I, B, S, AV.d.injEq, DV.int.injEq, DV.bool.injEq, DV.str.injEq, DV.sl.injEq, AV.tup.injEq, AV.agg.injEq, List.cons.injEq, and_true, true_and, and_self]))
  all_goals (have hk : ¬ (w.kind ≠ 1 ∧ w.kind ≠ 2) := by omega)
  all_goals rw [addW_rest hk (by assumption)]
  · rw [if_pos (by omega)]; (refine aend_retc ?_ rfl ?_ ?_ ?_ ?_; (focus (first | exact .inl rfl | exact .inr rfl)); (focus ((try simp (disch := omega) only [go_sem, wrap_n, true_and]) <;> (try omega) <;> fail)); (focus ((try simp (disch := omega) only [go_sem, wrap_n, true_and]) <;> (try omega) <;> fail)); (focus ((try simp (disch := omega) only [go_sem, wrap_n, true_and]) <;> (try omega) <;> fail)); (try simp (disch := omega) only [go_sem, wrap_n, true_and, I, B, S, AV.d.injEq, DV.int.injEq, DV.bool.injEq, DV.str.injEq, DV.sl.injEq, AV.tup.injEq, AV.agg.injEq, List.cons.injEq, and_true, true_and, and_self]))
  rw [if_neg (by omega)]
  refine AWP.loopB (ι := Nat) (fun k => k ≤ l.length ∧ ∀ j, j < k → l.getD j default ≠ w) (fun k => l.length - k) [0, 3, 6, 31, 32] (fun k => [(33, I k)]) (fun k => [.cells [I w.session, I w.kind, .d (.str w.path)], .rows 3 (l.map AWatch.row)]) 0 ?_ ?_ ?_
  · exact ⟨by omega, by omega⟩
  · simp only [go_sem]; (refine SImp.same ?_; simp (disch := omega) only [go_sem, wrap_n, Int.natCast_add, true_and])
  intro k ⟨hk1, hk2⟩
  simp only [go_sem]
  repeat' first
    | with_reducible refine AWP.seq ?_
    | with_reducible refine thenA_n ?_
    | with_reducible refine thenA_r ?_
    | with_reducible refine thenA_e ?_
    | with_reducible refine blkA_n ?_
    | with_reducible refine blkA_r ?_
    | with_reducible refine blkA_e ?_
    | with_reducible refine blkA_x (by decide) ?_
    | with_reducible refine AWP.skip ?_
    | with_reducible refine AWP.ret ?_
    | with_reducible refine AWP.exit ?_
    | with_reducible refine AWP.block ?_
    | (with_reducible refine AWP.cond rfl ?_ ?_ <;> intro hc <;> (try simp only [decide_eq_true_eq, decide_eq_false_iff_not, Bool.and_eq_true, Bool.or_eq_true, Bool.or_eq_false_iff, Bool.and_eq_false_iff, Bool.not_eq_true', Bool.not_eq_false', Bool.true_eq_false, Bool.false_eq_true, Bool.not_eq_true, Bool.not_eq_false, Int.not_lt, Int.not_le, Nat.not_lt, Nat.not_le, Int.ofNat_lt, Int.ofNat_le, Int.natCast_eq_zero, not_true_eq_false, not_false_eq_true, beq_iff_eq, Bool.not_true, Bool.not_false, ge_iff_le, gt_iff_lt] at hc))
    | ((first | with_reducible refine AWP.region tabOk ?_ | with_reducible refine AWP.quietC mixed tabOk (by decide +kernel) ?_ | with_reducible refine AWP.draw mixed tabOk (by decide +kernel) ?_ | with_reducible refine AWP.drawE mixed tabOk (by decide +kernel) ?_); intro K hK; ((try simp (disch := omega) only [go_sem, wrap_n, AWatch.rgetD]) <;> (repeat' with_reducible refine And.intro ?_ ?_) <;> (try (with_reducible refine hK _ ?_; clear hK K))))
    | ((first | (with_reducible refine aunder_i ?_ ?_ <;> intro hg) | with_reducible intro hg) <;> (first | (exfalso; simp at hg; done) | (have hg' := hg; (try simp only [decide_eq_true_eq, decide_eq_false_iff_not, Bool.and_eq_true, Bool.or_eq_true, Bool.or_eq_false_iff, Bool.and_eq_false_iff, Bool.not_eq_true', Bool.not_eq_false', Bool.true_eq_false, Bool.false_eq_true, Bool.not_eq_true, Bool.not_eq_false, Int.not_lt, Int.not_le, Nat.not_lt, Nat.not_le, Int.ofNat_lt, Int.ofNat_le, Int.natCast_eq_zero, not_true_eq_false, not_false_eq_true, beq_iff_eq, Bool.not_true, Bool.not_false, ge_iff_le, gt_iff_lt] at hg'); ((try simp (disch := omega) only [hg, go_sem, wrap_n, AWatch.rgetD]) <;> (repeat' with_reducible refine And.intro ?_ ?_) <;> (try (with_reducible refine hK _ ?_; clear hK K))))))
                                                            | omega
  · have hm : w ∈ l := by rw [← hc]; exact mem_getD l default (by assumption)
    rw [if_pos hm]; (refine aend_retc ?_ rfl ?_ ?_ ?_ ?_; (focus (first | exact .inl rfl | exact .inr rfl)); (focus ((try simp (disch := omega) only [go_sem, wrap_n, true_and]) <;> (try omega) <;> fail)); (focus ((try simp (disch := omega) only [go_sem, wrap_n, true_and]) <;> (try omega) <;> fail)); (focus ((try simp (disch := omega) only [go_sem, wrap_n, true_and]) <;> (try omega) <;> fail)); (try simp (disch := omega) only [go_sem, wrap_n, true_and, I, B, S, AV.d.injEq, DV.int.injEq, DV.bool.injEq, DV.str.injEq, DV.sl.injEq, AV.tup.injEq, AV.agg.injEq, List.cons.injEq, and_true, true_and, and_self]))
  · refine ⟨k + 1, ⟨by omega, fun j hj => ?_⟩, by omega, ?_⟩
    · by_cases e : j = k
      · subst e; exact hc
      · exact hk2 j (by omega)
    (refine SImp.frame [0, 1] rfl (by intro k hk; simp at hk <;> (simp; omega)) (by decide) (fun k hk => by omega) ?_ ?_ <;> simp (disch := omega) only [go_sem, wrap_n, Int.natCast_add, true_and] <;> (try rfl))
  all_goals rw [if_neg (wIdx_no (fun j hj => hk2 j (by omega))).2]
  · rw [if_pos (by omega)]; (refine aend_retc ?_ rfl ?_ ?_ ?_ ?_; (focus (first | exact .inl rfl | exact .inr rfl)); (focus ((try simp (disch := omega) only [go_sem, wrap_n, true_and]) <;> (try omega) <;> fail)); (focus ((try simp (disch := omega) only [go_sem, wrap_n, true_and]) <;> (try omega) <;> fail)); (focus ((try simp (disch := omega) only [go_sem, wrap_n, true_and]) <;> (try omega) <;> fail)); (try simp (disch := omega) only [go_sem, wrap_n, true_and, I, B, S, AV.d.injEq, DV.int.injEq, DV.bool.injEq, DV.str.injEq, DV.sl.injEq, AV.tup.injEq, AV.agg.injEq, List.cons.injEq, and_true, true_and, and_self]))
  · rw [if_neg (by omega)]; (refine aend_retc ?_ rfl ?_ ?_ ?_ ?_; (focus (first | exact .inl rfl | exact .inr rfl)); (focus ((try simp (disch := omega) only [go_sem, wrap_n, AWatch.rsnoc, wrow_snoc]) <;> (try omega) <;> fail)); (focus ((try simp (disch := omega) only [go_sem, wrap_n, AWatch.rsnoc, wrow_snoc]) <;> (try omega) <;> fail)); (focus ((try simp (disch := omega) only [go_sem, wrap_n, AWatch.rsnoc, wrow_snoc]) <;> (try omega) <;> fail)); (try simp (disch := omega) only [go_sem, wrap_n, AWatch.rsnoc, wrow_snoc, I, B, S, AV.d.injEq, DV.int.injEq, DV.bool.injEq, DV.str.injEq, DV.sl.injEq, AV.tup.injEq, AV.agg.injEq, List.cons.injEq, and_true, true_and, and_self]))
    exact Or.inl (List.take_of_length_le (by simp))
theorem watchAdds_b (l : List AWatch) (w : AWatch) (s : Int) (h : l.length * 32 ≤ 140737488351232) (hw : w.path.length ≤ 1048576) : acall Tryd.prog [] 7 [.d (.sl 3 (l.map AWatch.row)), w.av, I s] (ret (B true)) := by
  have hw' : okS w.path := by unfold okS; omega
  refine acall_of tabOk Tryd.func7 rfl (by kernel_rfl) (by simp [Tryd.ntmps7]) ?_; simp only [Tryd.ntmps7, Tryd.results7, List.toList_toArray, apar, List.length_nil, List.length_cons, Nat.reduceAdd]
  have hx : addW [] ⟨1, 1, [47]⟩ = ([⟨1, 1, [47]⟩], 0) := by decide +kernel
  have hs : (dropW l s).length * 32 ≤ 140737488351232 := by have : (dropW l s).length ≤ l.length := List.length_filter_le _ _; omega
  have ha : (addW l w).1.length * 32 ≤ 140737488351232 := by
    unfold addW
    split
    · simp
    split
    · simp
    split
    · simp
    split
    · exact h
    split
    · simp
    · simp; omega
  repeat' first
    | with_reducible refine AWP.seq ?_
    | with_reducible refine thenA_n ?_
    | with_reducible refine thenA_r ?_
    | with_reducible refine thenA_e ?_
    | with_reducible refine blkA_n ?_
    | with_reducible refine blkA_r ?_
    | with_reducible refine blkA_e ?_
    | with_reducible refine blkA_x (by decide) ?_
    | with_reducible refine AWP.skip ?_
    | with_reducible refine AWP.ret ?_
    | with_reducible refine AWP.exit ?_
    | with_reducible refine AWP.block ?_
    | (with_reducible refine AWP.cond rfl ?_ ?_ <;> intro hc <;> (try simp only [decide_eq_true_eq, decide_eq_false_iff_not, Bool.and_eq_true, Bool.or_eq_true, Bool.or_eq_false_iff, Bool.and_eq_false_iff, Bool.not_eq_true', Bool.not_eq_false', Bool.true_eq_false, Bool.false_eq_true, Bool.not_eq_true, Bool.not_eq_false, Int.not_lt, Int.not_le, Nat.not_lt, Nat.not_le, Int.ofNat_lt, Int.ofNat_le, Int.natCast_eq_zero, not_true_eq_false, not_false_eq_true, beq_iff_eq, Bool.not_true, Bool.not_false, ge_iff_le, gt_iff_lt] at hc))
    | (refine AWP.plan ((Plan.takes [0] (.fork 1 (Plan.takes [2, 3, 4, 5, 6, 7, 8] .done) 2 (Plan.takes [1, 3, 4, 5, 6, 7, 8] .done)))) mixed tabOk (by decide +kernel) ?_; intro K hK; ((try simp (disch := omega) only [go_sem, wrap_n, true_and]) <;> (repeat' with_reducible refine And.intro ?_ ?_) <;> (try (with_reducible refine hK _ ?_; clear hK K))))
    | ((first | with_reducible refine AWP.region tabOk ?_ | with_reducible refine AWP.quietC mixed tabOk (by decide +kernel) ?_ | with_reducible refine AWP.draw mixed tabOk (by decide +kernel) ?_ | with_reducible refine AWP.drawE mixed tabOk (by decide +kernel) ?_); intro K hK; ((try simp (disch := omega) only [go_sem, wrap_n, true_and]) <;> (repeat' with_reducible refine And.intro ?_ ?_) <;> (try (with_reducible refine hK _ ?_; clear hK K))))
    | ((first | refine acallH_sc (watches_c l h) rfl rfl ?_ ?_ ?_ | refine acallH_sc (add_c l w h hw') rfl rfl ?_ ?_ ?_ | refine acallH_sc (ref_add_c l w h hw) rfl rfl ?_ ?_ ?_ | refine acallH_sc (drop_c l s h) rfl rfl ?_ ?_ ?_ | refine acallH_sc (ref_drop_c l s h) rfl rfl ?_ ?_ ?_ | refine acallH_sc ((add_c [] ⟨1, 1, [47]⟩ (by simp) (by unfold okS; decide)).re (by rw [hx])) rfl rfl ?_ ?_ ?_ | refine acallH_sc (same_watches_c _ _ ha ha) rfl rfl ?_ ?_ ?_ | refine acallH_sc (same_watches_c _ _ hs hs) rfl rfl ?_ ?_ ?_); (focus ((try simp (disch := omega) only [go_sem, wrap_n, true_and]) <;> (try omega) <;> fail)); (focus ((try simp (disch := omega) only [go_sem, wrap_n, true_and]) <;> (try omega) <;> fail)); ((try simp (disch := omega) only [go_sem, wrap_n, true_and]) <;> (repeat' with_reducible refine And.intro ?_ ?_) <;> (try (with_reducible refine hK _ ?_; clear hK K))))
    | ((first | refine acallQ_sc (watches_c l h) rfl rfl ?_ ?_ ?_ | refine acallQ_sc (add_c l w h hw') rfl rfl ?_ ?_ ?_ | refine acallQ_sc (ref_add_c l w h hw) rfl rfl ?_ ?_ ?_ | refine acallQ_sc (drop_c l s h) rfl rfl ?_ ?_ ?_ | refine acallQ_sc (ref_drop_c l s h) rfl rfl ?_ ?_ ?_ | refine acallQ_sc ((add_c [] ⟨1, 1, [47]⟩ (by simp) (by unfold okS; decide)).re (by rw [hx])) rfl rfl ?_ ?_ ?_ | refine acallQ_sc (same_watches_c _ _ ha ha) rfl rfl ?_ ?_ ?_ | refine acallQ_sc (same_watches_c _ _ hs hs) rfl rfl ?_ ?_ ?_); (focus ((try simp (disch := omega) only [go_sem, wrap_n, true_and]) <;> (try omega) <;> fail)); (focus ((try simp (disch := omega) only [go_sem, wrap_n, true_and]) <;> (try omega) <;> fail)); ((try simp (disch := omega) only [go_sem, wrap_n, true_and]) <;> (repeat' with_reducible refine And.intro ?_ ?_) <;> (try (with_reducible refine hK _ ?_; clear hK K))))
    | ((first | refine acallH_anyr (watches_c l h) rfl ?_ ?_ | refine acallH_anyr (add_c l w h hw') rfl ?_ ?_ | refine acallH_anyr (ref_add_c l w h hw) rfl ?_ ?_ | refine acallH_anyr (drop_c l s h) rfl ?_ ?_ | refine acallH_anyr (ref_drop_c l s h) rfl ?_ ?_ | refine acallH_anyr ((add_c [] ⟨1, 1, [47]⟩ (by simp) (by unfold okS; decide)).re (by rw [hx])) rfl ?_ ?_ | refine acallH_anyr (same_watches_c _ _ ha ha) rfl ?_ ?_ | refine acallH_anyr (same_watches_c _ _ hs hs) rfl ?_ ?_); (focus ((try simp (disch := omega) only [go_sem, wrap_n, true_and]) <;> (try omega) <;> fail)); ((try simp (disch := omega) only [go_sem, wrap_n, true_and]) <;> (repeat' with_reducible refine And.intro ?_ ?_) <;> (try (with_reducible refine hK _ ?_; clear hK K))))
    | ((first | refine acallH_scx (watches_c l h) rfl ?_ ?_ | refine acallQ_scx (watches_c l h) rfl ?_ ?_ | refine acallH_anyx (watches_c l h) ?_ ?_); (focus ((try simp (disch := omega) only [go_sem, wrap_n, true_and]) <;> (try omega) <;> fail)); ((try simp (disch := omega) only [go_sem, wrap_n, true_and]) <;> (repeat' with_reducible refine And.intro ?_ ?_) <;> (try (with_reducible refine hK _ ?_; clear hK K))))
    | ((first | refine acallH_scx (add_c l w h hw') rfl ?_ ?_ | refine acallQ_scx (add_c l w h hw') rfl ?_ ?_ | refine acallH_anyx (add_c l w h hw') ?_ ?_); (focus ((try simp (disch := omega) only [go_sem, wrap_n, true_and]) <;> (try omega) <;> fail)); ((try simp (disch := omega) only [go_sem, wrap_n, true_and]) <;> (repeat' with_reducible refine And.intro ?_ ?_) <;> (try (with_reducible refine hK _ ?_; clear hK K))))
    | ((first | refine acallH_scx (ref_add_c l w h hw) rfl ?_ ?_ | refine acallQ_scx (ref_add_c l w h hw) rfl ?_ ?_ | refine acallH_anyx (ref_add_c l w h hw) ?_ ?_); (focus ((try simp (disch := omega) only [go_sem, wrap_n, true_and]) <;> (try omega) <;> fail)); ((try simp (disch := omega) only [go_sem, wrap_n, true_and]) <;> (repeat' with_reducible refine And.intro ?_ ?_) <;> (try (with_reducible refine hK _ ?_; clear hK K))))
    | ((first | refine acallH_scx (drop_c l s h) rfl ?_ ?_ | refine acallQ_scx (drop_c l s h) rfl ?_ ?_ | refine acallH_anyx (drop_c l s h) ?_ ?_); (focus ((try simp (disch := omega) only [go_sem, wrap_n, true_and]) <;> (try omega) <;> fail)); ((try simp (disch := omega) only [go_sem, wrap_n, true_and]) <;> (repeat' with_reducible refine And.intro ?_ ?_) <;> (try (with_reducible refine hK _ ?_; clear hK K))))
    | ((first | refine acallH_scx (ref_drop_c l s h) rfl ?_ ?_ | refine acallQ_scx (ref_drop_c l s h) rfl ?_ ?_ | refine acallH_anyx (ref_drop_c l s h) ?_ ?_); (focus ((try simp (disch := omega) only [go_sem, wrap_n, true_and]) <;> (try omega) <;> fail)); ((try simp (disch := omega) only [go_sem, wrap_n, true_and]) <;> (repeat' with_reducible refine And.intro ?_ ?_) <;> (try (with_reducible refine hK _ ?_; clear hK K))))
    | ((first | refine acallH_scx ((add_c [] ⟨1, 1, [47]⟩ (by simp) (by unfold okS; decide)).re (by rw [hx])) rfl ?_ ?_ | refine acallQ_scx ((add_c [] ⟨1, 1, [47]⟩ (by simp) (by unfold okS; decide)).re (by rw [hx])) rfl ?_ ?_ | refine acallH_anyx ((add_c [] ⟨1, 1, [47]⟩ (by simp) (by unfold okS; decide)).re (by rw [hx])) ?_ ?_); (focus ((try simp (disch := omega) only [go_sem, wrap_n, true_and]) <;> (try omega) <;> fail)); ((try simp (disch := omega) only [go_sem, wrap_n, true_and]) <;> (repeat' with_reducible refine And.intro ?_ ?_) <;> (try (with_reducible refine hK _ ?_; clear hK K))))
    | ((first | refine acallH_scx (same_watches_c _ _ ha ha) rfl ?_ ?_ | refine acallQ_scx (same_watches_c _ _ ha ha) rfl ?_ ?_ | refine acallH_anyx (same_watches_c _ _ ha ha) ?_ ?_); (focus ((try simp (disch := omega) only [go_sem, wrap_n, true_and]) <;> (try omega) <;> fail)); ((try simp (disch := omega) only [go_sem, wrap_n, true_and]) <;> (repeat' with_reducible refine And.intro ?_ ?_) <;> (try (with_reducible refine hK _ ?_; clear hK K))))
    | ((first | refine acallH_scx (same_watches_c _ _ hs hs) rfl ?_ ?_ | refine acallQ_scx (same_watches_c _ _ hs hs) rfl ?_ ?_ | refine acallH_anyx (same_watches_c _ _ hs hs) ?_ ?_); (focus ((try simp (disch := omega) only [go_sem, wrap_n, true_and]) <;> (try omega) <;> fail)); ((try simp (disch := omega) only [go_sem, wrap_n, true_and]) <;> (repeat' with_reducible refine And.intro ?_ ?_) <;> (try (with_reducible refine hK _ ?_; clear hK K))))
    | ((first | (with_reducible refine aunder_i ?_ ?_ <;> intro hg) | with_reducible intro hg) <;> (first | (exfalso; simp at hg; done) | (have hg' := hg; (try simp only [decide_eq_true_eq, decide_eq_false_iff_not, Bool.and_eq_true, Bool.or_eq_true, Bool.or_eq_false_iff, Bool.and_eq_false_iff, Bool.not_eq_true', Bool.not_eq_false', Bool.true_eq_false, Bool.false_eq_true, Bool.not_eq_true, Bool.not_eq_false, Int.not_lt, Int.not_le, Nat.not_lt, Nat.not_le, Int.ofNat_lt, Int.ofNat_le, Int.natCast_eq_zero, not_true_eq_false, not_false_eq_true, beq_iff_eq, Bool.not_true, Bool.not_false, ge_iff_le, gt_iff_lt] at hg'); ((try simp (disch := omega) only [hg, go_sem, wrap_n, true_and]) <;> (repeat' with_reducible refine And.intro ?_ ?_) <;> (try (with_reducible refine hK _ ?_; clear hK K))))))
                                                            | omega
  all_goals (refine aend_retc ?_ rfl ?_ ?_ ?_ ?_; (focus (first | exact .inl rfl | exact .inr rfl)); (focus ((try simp (disch := omega) only [go_sem, wrap_n, true_and]) <;> (try omega) <;> fail)); (focus ((try simp (disch := omega) only [go_sem, wrap_n, true_and]) <;> (try omega) <;> fail)); (focus ((try simp (disch := omega) only [go_sem, wrap_n, true_and]) <;> (try omega) <;> fail)); (try simp (disch := omega) only [go_sem, wrap_n, true_and, I, B, S, AV.d.injEq, DV.int.injEq, DV.bool.injEq, DV.str.injEq, DV.sl.injEq, AV.tup.injEq, AV.agg.injEq, List.cons.injEq, and_true, true_and, and_self]))
theorem watchAdds_u (dss : List (List DV)) (h : typeds T 6 Tryd.f7.params.toList dss) (hs : ∀ cs, cs ∈ dss → ∀ c, c ∈ cs → SmallD 1048576 c) : acall Tryd.prog [] 7 (aargs T Tryd.f7.params.toList dss) (fun v _ => v = B true) := by
  rw [Tryd.params7] at h ⊢
  simp only [List.toList_toArray, typeds] at h
  obtain ⟨c0, d0, rfl, h0, c1, d1, rfl, h1, c2, d2, rfl, h2, rfl⟩ := h
  have s0 := hs c0 (by simp)
  have s1 := hs c1 (by simp)
  have s2 := hs c2 (by simp)
  obtain ⟨l, rfl, v_l, w_l⟩ := ty_sl (m := 5) (e := 34) (sz := 3) (by_ := 32) (f := AWatch.row) (wf := AWatch.wf) (by simp only [T_32, ty32]) (by simp only [T_34, ty34]) (by simp only [T_34, ty34]) (fun r hr => AWatch_typed (m := 3) hr) h0
  obtain ⟨w, rfl, w_w⟩ := AWatch_typed (m := 4) h1
  obtain ⟨session, rfl, w_session⟩ := ty_int (m := 5) (by simp only [T_3, ty3]) h2
  have u_l := s0
  have u_w := s1
  have u_session := s2
  simp only [List.toList_toArray, aargs, aarg, TI.agg_mk, T_3, ty3, T_32, ty32, T_34, ty34]
  exact (watchAdds_b l w session v_l (u_w (DV.str w.path) (by simp [AWatch.row])).len).mono fun _ _ h => h.1
end Go.Proofs.YtecbkeddfjalcaaDoor
