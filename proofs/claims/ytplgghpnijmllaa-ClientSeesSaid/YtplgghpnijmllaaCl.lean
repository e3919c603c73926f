/- Contracts of package client, of its references, and of the copies and comparisons that the statements make. No condition. -/
import Derived.Test.YtplgghpnijmllaaMt
namespace Go.Proofs.Ytplgghpnijmllaa
open Go Go.RowKit
set_option maxRecDepth 100000
set_option linter.unusedSimpArgs false

theorem eq_of_getD {α : Type} [Inhabited α] {a b : List α} (h : a.length = b.length) (h2 : ∀ k, k < a.length → a.getD k default = b.getD k default) : a = b := by
  refine List.ext_getElem h fun k h1 h3 => ?_
  have := h2 k h1
  simpa [List.getD_eq_getElem?_getD, List.getElem?_eq_getElem h1, List.getElem?_eq_getElem h3] using this

/-- slices.Clone of a cache: new memory. -/
theorem cloneEntry_c (l : List AEntry) (h : l.length * 40 ≤ 140737488351232) : acall Try.prog [] 94 [.d (.sl 3 (l.map AEntry.row))] (own 3 (l.map AEntry.row)) := by
  refine acall_of tabOk Try.func94 rfl (by kernel_rfl) (by simp [Try.ntmps94]) ?_
  simp only [Try.ntmps94, Try.results94, List.toList_toArray, apar, List.length_nil, List.length_cons, Nat.reduceAdd]
  repeat' first
    | with_reducible refine AWP.seq ?_
    | with_reducible refine thenA_n ?_
    | with_reducible refine thenA_r ?_
    | with_reducible refine thenA_e ?_
    | with_reducible refine blkA_n ?_
    | with_reducible refine blkA_r ?_
    | with_reducible refine blkA_e ?_
    | with_reducible refine blkA_x (by decide) ?_
    | with_reducible refine AWP.skip ?_
    | with_reducible refine AWP.ret ?_
    | with_reducible refine AWP.exit ?_
    | with_reducible refine AWP.block ?_
    | (with_reducible refine AWP.cond rfl ?_ ?_ <;> intro hc <;> (try simp only [decide_eq_true_eq, decide_eq_false_iff_not, Bool.and_eq_true, Bool.or_eq_true, Bool.or_eq_false_iff, Bool.and_eq_false_iff, Bool.not_eq_true', Bool.not_eq_false', Bool.true_eq_false, Bool.false_eq_true, Bool.not_eq_true, Bool.not_eq_false, Int.not_lt, Int.not_le, Nat.not_lt, Nat.not_le, Int.ofNat_lt, Int.ofNat_le, Int.natCast_eq_zero, not_true_eq_false, not_false_eq_true, beq_iff_eq, Bool.not_true, Bool.not_false, ge_iff_le, gt_iff_lt] at hc))
    | ((first | with_reducible refine AWP.region tabOk ?_ | with_reducible refine AWP.quiet mixed tabOk (by kernel_rfl) ?_ | with_reducible refine AWP.draw mixed tabOk (by kernel_rfl) ?_); intro K hK; ((try simp (disch := omega) only [go_sem, wrap_n, true_and]) <;> (repeat' with_reducible refine And.intro ?_ ?_) <;> (try (with_reducible refine hK _ ?_; clear hK K))))
    | ((first | (with_reducible refine aunder_i ?_ ?_ <;> intro hg) | with_reducible intro hg) <;> (first | (exfalso; simp at hg; done) | (have hg' := hg; (try simp only [decide_eq_true_eq, decide_eq_false_iff_not, Bool.and_eq_true, Bool.or_eq_true, Bool.or_eq_false_iff, Bool.and_eq_false_iff, Bool.not_eq_true', Bool.not_eq_false', Bool.true_eq_false, Bool.false_eq_true, Bool.not_eq_true, Bool.not_eq_false, Int.not_lt, Int.not_le, Nat.not_lt, Nat.not_le, Int.ofNat_lt, Int.ofNat_le, Int.natCast_eq_zero, not_true_eq_false, not_false_eq_true, beq_iff_eq, Bool.not_true, Bool.not_false, ge_iff_le, gt_iff_lt] at hg'); ((try simp (disch := omega) only [hg, go_sem, wrap_n, true_and]) <;> (repeat' with_reducible refine And.intro ?_ ?_) <;> (try (with_reducible refine hK _ ?_; clear hK K))))))
    | omega
  · have e : l.length = 0 := by
      rcases Nat.eq_zero_or_pos l.length with h0 | h0
      · exact h0
      · rw [hg h0] at hc; simp at hc
    rw [nil_of_len e]
    (refine aend_nil (by first | exact .inl rfl | exact .inr rfl) rfl ?_ ?_ <;> simp (disch := omega) only [go_sem, wrap_n])
  · (refine aend_own 1 (by first | exact .inl rfl | exact .inr rfl) rfl ?_ rfl rfl ?_ <;> (try simp (disch := omega) only [go_sem, wrap_n, List.length_map]))

theorem copied_c (c : AClient) (h : c.cache.length * 40 ≤ 140737488351232) : acall Try.prog [] 64 [c.av] (outs (.agg [I c.session, I c.seen, .osl 0 3 0 c.cache.length]) [.rows 3 (c.cache.map AEntry.row)]) := by
  refine acall_of tabOk Try.func64 rfl (by kernel_rfl) (by simp [Try.ntmps64]) ?_
  simp only [Try.ntmps64, Try.results64, List.toList_toArray, apar, List.length_nil, List.length_cons, Nat.reduceAdd]
  repeat' first
    | with_reducible refine AWP.seq ?_
    | with_reducible refine thenA_n ?_
    | with_reducible refine thenA_r ?_
    | with_reducible refine thenA_e ?_
    | with_reducible refine blkA_n ?_
    | with_reducible refine blkA_r ?_
    | with_reducible refine blkA_e ?_
    | with_reducible refine blkA_x (by decide) ?_
    | with_reducible refine AWP.skip ?_
    | with_reducible refine AWP.ret ?_
    | with_reducible refine AWP.exit ?_
    | with_reducible refine AWP.block ?_
    | (with_reducible refine AWP.cond rfl ?_ ?_ <;> intro hc <;> (try simp only [decide_eq_true_eq, decide_eq_false_iff_not, Bool.and_eq_true, Bool.or_eq_true, Bool.or_eq_false_iff, Bool.and_eq_false_iff, Bool.not_eq_true', Bool.not_eq_false', Bool.true_eq_false, Bool.false_eq_true, Bool.not_eq_true, Bool.not_eq_false, Int.not_lt, Int.not_le, Nat.not_lt, Nat.not_le, Int.ofNat_lt, Int.ofNat_le, Int.natCast_eq_zero, not_true_eq_false, not_false_eq_true, beq_iff_eq, Bool.not_true, Bool.not_false, ge_iff_le, gt_iff_lt] at hc))
    | ((first | with_reducible refine AWP.region tabOk ?_ | with_reducible refine AWP.quiet mixed tabOk (by kernel_rfl) ?_ | with_reducible refine AWP.draw mixed tabOk (by kernel_rfl) ?_); intro K hK; ((try simp (disch := omega) only [go_sem, wrap_n, true_and]) <;> (repeat' with_reducible refine And.intro ?_ ?_) <;> (try (with_reducible refine hK _ ?_; clear hK K))))
    | ((first | refine acallH_sc (cloneEntry_c _ h) rfl rfl ?_ ?_ ?_); (focus ((try simp (disch := omega) only [go_sem, wrap_n, true_and]) <;> (try omega) <;> fail)); (focus ((try simp (disch := omega) only [go_sem, wrap_n, true_and]) <;> (try omega) <;> fail)); ((try simp (disch := omega) only [go_sem, wrap_n, true_and]) <;> (repeat' with_reducible refine And.intro ?_ ?_) <;> (try (with_reducible refine hK _ ?_; clear hK K))))
    | ((first | refine acallQ_sc (cloneEntry_c _ h) rfl rfl ?_ ?_ ?_); (focus ((try simp (disch := omega) only [go_sem, wrap_n, true_and]) <;> (try omega) <;> fail)); (focus ((try simp (disch := omega) only [go_sem, wrap_n, true_and]) <;> (try omega) <;> fail)); ((try simp (disch := omega) only [go_sem, wrap_n, true_and]) <;> (repeat' with_reducible refine And.intro ?_ ?_) <;> (try (with_reducible refine hK _ ?_; clear hK K))))
    | ((first | refine acallH_rt (cloneEntry_c _ h) rfl ?_ ?_ ?_ ?_); (focus ((try simp (disch := omega) only [go_sem, wrap_n, true_and]) <;> (try omega) <;> fail)); (focus ((try simp (disch := omega) only [go_sem, wrap_n, true_and]) <;> (try omega) <;> fail)); (focus ((try simp (disch := omega) only [go_sem, wrap_n, true_and]) <;> (try omega) <;> fail)); ((try simp (disch := omega) only [go_sem, wrap_n, true_and]) <;> (repeat' with_reducible refine And.intro ?_ ?_) <;> (try (with_reducible refine hK _ ?_; clear hK K))))
    | ((first | refine acallH_out (cloneEntry_c _ h) rfl ?_ ?_ ?_); (focus ((try simp (disch := omega) only [go_sem, wrap_n, true_and]) <;> (try omega) <;> fail)); (focus ((try simp (disch := omega) only [go_sem, wrap_n, true_and]) <;> (try omega) <;> fail)); ((try simp (disch := omega) only [go_sem, wrap_n, true_and]) <;> (repeat' with_reducible refine And.intro ?_ ?_) <;> (try (with_reducible refine hK _ ?_; clear hK K))))
    | ((first | refine acallH_scx (cloneEntry_c _ h) rfl ?_ ?_ | refine acallQ_scx (cloneEntry_c _ h) rfl ?_ ?_ | refine acallH_rtx (cloneEntry_c _ h) ?_ ?_ | refine acallH_outx (cloneEntry_c _ h) ?_ ?_); (focus ((try simp (disch := omega) only [go_sem, wrap_n, true_and]) <;> (try omega) <;> fail)); ((try simp (disch := omega) only [go_sem, wrap_n, true_and]) <;> (repeat' with_reducible refine And.intro ?_ ?_) <;> (try (with_reducible refine hK _ ?_; clear hK K))))
    | ((first | (with_reducible refine aunder_i ?_ ?_ <;> intro hg) | with_reducible intro hg) <;> (first | (exfalso; simp at hg; done) | (have hg' := hg; (try simp only [decide_eq_true_eq, decide_eq_false_iff_not, Bool.and_eq_true, Bool.or_eq_true, Bool.or_eq_false_iff, Bool.and_eq_false_iff, Bool.not_eq_true', Bool.not_eq_false', Bool.true_eq_false, Bool.false_eq_true, Bool.not_eq_true, Bool.not_eq_false, Int.not_lt, Int.not_le, Nat.not_lt, Nat.not_le, Int.ofNat_lt, Int.ofNat_le, Int.natCast_eq_zero, not_true_eq_false, not_false_eq_true, beq_iff_eq, Bool.not_true, Bool.not_false, ge_iff_le, gt_iff_lt] at hg'); ((try simp (disch := omega) only [hg, go_sem, wrap_n, true_and]) <;> (repeat' with_reducible refine And.intro ?_ ?_) <;> (try (with_reducible refine hK _ ?_; clear hK K))))))
    | omega
  (refine aend_out (by first | exact .inl rfl | exact .inr rfl) ?_ ?_; (focus ((try simp (disch := omega) only [go_sem, wrap_n]) <;> fail)); simp (disch := omega) only [go_sem, wrap_n, true_and]; refine AOut.of_simp ?_ (AOut.same ⟨rfl, rfl⟩); refine SImp.frame [2] rfl (by intro k hk; simp at hk; simp; omega) (by decide) (fun k hk => by omega) ?_ ?_ <;> simp (disch := omega) only [go_sem, wrap_n, true_or, or_true, true_and])

theorem ref_copied_c (c : AClient) (h : c.cache.length * 40 ≤ 140737488351232) : acall Try.prog [] 26 [c.av] (ret c.av) := by
  refine acall_of tabOk Try.func26 rfl (by kernel_rfl) (by simp [Try.ntmps26]) ?_
  simp only [Try.ntmps26, Try.results26, List.toList_toArray, apar, List.length_nil, List.length_cons, Nat.reduceAdd]
  repeat' first
    | with_reducible refine AWP.seq ?_
    | with_reducible refine thenA_n ?_
    | with_reducible refine thenA_r ?_
    | with_reducible refine thenA_e ?_
    | with_reducible refine blkA_n ?_
    | with_reducible refine blkA_r ?_
    | with_reducible refine blkA_e ?_
    | with_reducible refine blkA_x (by decide) ?_
    | with_reducible refine AWP.skip ?_
    | with_reducible refine AWP.ret ?_
    | with_reducible refine AWP.exit ?_
    | with_reducible refine AWP.block ?_
    | (with_reducible refine AWP.cond rfl ?_ ?_ <;> intro hc <;> (try simp only [decide_eq_true_eq, decide_eq_false_iff_not, Bool.and_eq_true, Bool.or_eq_true, Bool.or_eq_false_iff, Bool.and_eq_false_iff, Bool.not_eq_true', Bool.not_eq_false', Bool.true_eq_false, Bool.false_eq_true, Bool.not_eq_true, Bool.not_eq_false, Int.not_lt, Int.not_le, Nat.not_lt, Nat.not_le, Int.ofNat_lt, Int.ofNat_le, Int.natCast_eq_zero, not_true_eq_false, not_false_eq_true, beq_iff_eq, Bool.not_true, Bool.not_false, ge_iff_le, gt_iff_lt] at hc))
    | ((first | with_reducible refine AWP.region tabOk ?_ | with_reducible refine AWP.quiet mixed tabOk (by kernel_rfl) ?_ | with_reducible refine AWP.draw mixed tabOk (by kernel_rfl) ?_); intro K hK; ((try simp (disch := omega) only [go_sem, wrap_n, true_and]) <;> (repeat' with_reducible refine And.intro ?_ ?_) <;> (try (with_reducible refine hK _ ?_; clear hK K))))
    | ((first | (with_reducible refine aunder_i ?_ ?_ <;> intro hg) | with_reducible intro hg) <;> (first | (exfalso; simp at hg; done) | (have hg' := hg; (try simp only [decide_eq_true_eq, decide_eq_false_iff_not, Bool.and_eq_true, Bool.or_eq_true, Bool.or_eq_false_iff, Bool.and_eq_false_iff, Bool.not_eq_true', Bool.not_eq_false', Bool.true_eq_false, Bool.false_eq_true, Bool.not_eq_true, Bool.not_eq_false, Int.not_lt, Int.not_le, Nat.not_lt, Nat.not_le, Int.ofNat_lt, Int.ofNat_le, Int.natCast_eq_zero, not_true_eq_false, not_false_eq_true, beq_iff_eq, Bool.not_true, Bool.not_false, ge_iff_le, gt_iff_lt] at hg'); ((try simp (disch := omega) only [hg, go_sem, wrap_n, true_and]) <;> (repeat' with_reducible refine And.intro ?_ ?_) <;> (try (with_reducible refine hK _ ?_; clear hK K))))))
    | omega
  all_goals (refine aend_retc ?_ rfl ?_ ?_ ?_ ?_; (focus (first | exact .inl rfl | exact .inr rfl)); (focus ((try simp (disch := omega) only [go_sem, wrap_n, true_and]) <;> (try omega) <;> fail)); (focus ((try simp (disch := omega) only [go_sem, wrap_n, true_and]) <;> (try omega) <;> fail)); (focus ((try simp (disch := omega) only [go_sem, wrap_n, true_and]) <;> (try omega) <;> fail)); (try simp (disch := omega) only [go_sem, wrap_n, true_and, I, B, S, AV.d.injEq, DV.int.injEq, DV.bool.injEq, DV.str.injEq, DV.sl.injEq, AV.tup.injEq, AV.agg.injEq, List.cons.injEq, and_true, true_and, and_self]))

def seeC (c : AClient) (z : Int) : AClient × Int := if z < c.seen then (default, 15) else ({ c with seen := z }, 0)
theorem see_c (c : AClient) (z : Int) (h : c.cache.length * 40 ≤ 140737488351232) : acall Try.prog [] 25 [c.av, I z] (ret (.tup [(seeC c z).1.av, I (seeC c z).2])) := by
  refine acall_of tabOk Try.func25 rfl (by kernel_rfl) (by simp [Try.ntmps25]) ?_
  simp only [Try.ntmps25, Try.results25, List.toList_toArray, apar, List.length_nil, List.length_cons, Nat.reduceAdd]
  repeat' first
    | with_reducible refine AWP.seq ?_
    | with_reducible refine thenA_n ?_
    | with_reducible refine thenA_r ?_
    | with_reducible refine thenA_e ?_
    | with_reducible refine blkA_n ?_
    | with_reducible refine blkA_r ?_
    | with_reducible refine blkA_e ?_
    | with_reducible refine blkA_x (by decide) ?_
    | with_reducible refine AWP.skip ?_
    | with_reducible refine AWP.ret ?_
    | with_reducible refine AWP.exit ?_
    | with_reducible refine AWP.block ?_
    | (with_reducible refine AWP.cond rfl ?_ ?_ <;> intro hc <;> (try simp only [decide_eq_true_eq, decide_eq_false_iff_not, Bool.and_eq_true, Bool.or_eq_true, Bool.or_eq_false_iff, Bool.and_eq_false_iff, Bool.not_eq_true', Bool.not_eq_false', Bool.true_eq_false, Bool.false_eq_true, Bool.not_eq_true, Bool.not_eq_false, Int.not_lt, Int.not_le, Nat.not_lt, Nat.not_le, Int.ofNat_lt, Int.ofNat_le, Int.natCast_eq_zero, not_true_eq_false, not_false_eq_true, beq_iff_eq, Bool.not_true, Bool.not_false, ge_iff_le, gt_iff_lt] at hc))
    | ((first | with_reducible refine AWP.region tabOk ?_ | with_reducible refine AWP.quiet mixed tabOk (by kernel_rfl) ?_ | with_reducible refine AWP.draw mixed tabOk (by kernel_rfl) ?_); intro K hK; ((try simp (disch := omega) only [go_sem, wrap_n, true_and]) <;> (repeat' with_reducible refine And.intro ?_ ?_) <;> (try (with_reducible refine hK _ ?_; clear hK K))))
    | ((first | refine acallH_sc (copied_c c h) rfl rfl ?_ ?_ ?_); (focus ((try simp (disch := omega) only [go_sem, wrap_n, true_and]) <;> (try omega) <;> fail)); (focus ((try simp (disch := omega) only [go_sem, wrap_n, true_and]) <;> (try omega) <;> fail)); ((try simp (disch := omega) only [go_sem, wrap_n, true_and]) <;> (repeat' with_reducible refine And.intro ?_ ?_) <;> (try (with_reducible refine hK _ ?_; clear hK K))))
    | ((first | refine acallQ_sc (copied_c c h) rfl rfl ?_ ?_ ?_); (focus ((try simp (disch := omega) only [go_sem, wrap_n, true_and]) <;> (try omega) <;> fail)); (focus ((try simp (disch := omega) only [go_sem, wrap_n, true_and]) <;> (try omega) <;> fail)); ((try simp (disch := omega) only [go_sem, wrap_n, true_and]) <;> (repeat' with_reducible refine And.intro ?_ ?_) <;> (try (with_reducible refine hK _ ?_; clear hK K))))
    | ((first | refine acallH_rt (copied_c c h) rfl ?_ ?_ ?_ ?_); (focus ((try simp (disch := omega) only [go_sem, wrap_n, true_and]) <;> (try omega) <;> fail)); (focus ((try simp (disch := omega) only [go_sem, wrap_n, true_and]) <;> (try omega) <;> fail)); (focus ((try simp (disch := omega) only [go_sem, wrap_n, true_and]) <;> (try omega) <;> fail)); ((try simp (disch := omega) only [go_sem, wrap_n, true_and]) <;> (repeat' with_reducible refine And.intro ?_ ?_) <;> (try (with_reducible refine hK _ ?_; clear hK K))))
    | ((first | refine acallH_out (copied_c c h) rfl ?_ ?_ ?_); (focus ((try simp (disch := omega) only [go_sem, wrap_n, true_and]) <;> (try omega) <;> fail)); (focus ((try simp (disch := omega) only [go_sem, wrap_n, true_and]) <;> (try omega) <;> fail)); ((try simp (disch := omega) only [go_sem, wrap_n, true_and]) <;> (repeat' with_reducible refine And.intro ?_ ?_) <;> (try (with_reducible refine hK _ ?_; clear hK K))))
    | ((first | refine acallH_scx (copied_c c h) rfl ?_ ?_ | refine acallQ_scx (copied_c c h) rfl ?_ ?_ | refine acallH_rtx (copied_c c h) ?_ ?_ | refine acallH_outx (copied_c c h) ?_ ?_); (focus ((try simp (disch := omega) only [go_sem, wrap_n, true_and]) <;> (try omega) <;> fail)); ((try simp (disch := omega) only [go_sem, wrap_n, true_and]) <;> (repeat' with_reducible refine And.intro ?_ ?_) <;> (try (with_reducible refine hK _ ?_; clear hK K))))
    | ((first | (with_reducible refine aunder_i ?_ ?_ <;> intro hg) | with_reducible intro hg) <;> (first | (exfalso; simp at hg; done) | (have hg' := hg; (try simp only [decide_eq_true_eq, decide_eq_false_iff_not, Bool.and_eq_true, Bool.or_eq_true, Bool.or_eq_false_iff, Bool.and_eq_false_iff, Bool.not_eq_true', Bool.not_eq_false', Bool.true_eq_false, Bool.false_eq_true, Bool.not_eq_true, Bool.not_eq_false, Int.not_lt, Int.not_le, Nat.not_lt, Nat.not_le, Int.ofNat_lt, Int.ofNat_le, Int.natCast_eq_zero, not_true_eq_false, not_false_eq_true, beq_iff_eq, Bool.not_true, Bool.not_false, ge_iff_le, gt_iff_lt] at hg'); ((try simp (disch := omega) only [hg, go_sem, wrap_n, true_and]) <;> (repeat' with_reducible refine And.intro ?_ ?_) <;> (try (with_reducible refine hK _ ?_; clear hK K))))))
    | omega
  all_goals (unfold seeC)
  · rw [if_pos hc]; (refine aend_retc ?_ rfl ?_ ?_ ?_ ?_; (focus (first | exact .inl rfl | exact .inr rfl)); (focus ((try simp (disch := omega) only [go_sem, wrap_n, default]) <;> (try omega) <;> fail)); (focus ((try simp (disch := omega) only [go_sem, wrap_n, default]) <;> (try omega) <;> fail)); (focus ((try simp (disch := omega) only [go_sem, wrap_n, default]) <;> (try omega) <;> fail)); (try simp (disch := omega) only [go_sem, wrap_n, default, I, B, S, AV.d.injEq, DV.int.injEq, DV.bool.injEq, DV.str.injEq, DV.sl.injEq, AV.tup.injEq, AV.agg.injEq, List.cons.injEq, and_true, true_and, and_self]))
  · rw [if_neg (by omega)]; (refine aend_retc ?_ rfl ?_ ?_ ?_ ?_; (focus (first | exact .inl rfl | exact .inr rfl)); (focus ((try simp (disch := omega) only [go_sem, wrap_n, true_and]) <;> (try omega) <;> fail)); (focus ((try simp (disch := omega) only [go_sem, wrap_n, true_and]) <;> (try omega) <;> fail)); (focus ((try simp (disch := omega) only [go_sem, wrap_n, true_and]) <;> (try omega) <;> fail)); (try simp (disch := omega) only [go_sem, wrap_n, true_and, I, B, S, AV.d.injEq, DV.int.injEq, DV.bool.injEq, DV.str.injEq, DV.sl.injEq, AV.tup.injEq, AV.agg.injEq, List.cons.injEq, and_true, true_and, and_self]))
theorem ref_see_c (c : AClient) (z : Int) (h : c.cache.length * 40 ≤ 140737488351232) : acall Try.prog [] 27 [c.av, I z] (ret (.tup [(seeC c z).1.av, I (seeC c z).2])) := by
  refine acall_of tabOk Try.func27 rfl (by kernel_rfl) (by simp [Try.ntmps27]) ?_
  simp only [Try.ntmps27, Try.results27, List.toList_toArray, apar, List.length_nil, List.length_cons, Nat.reduceAdd]
  repeat' first
    | with_reducible refine AWP.seq ?_
    | with_reducible refine thenA_n ?_
    | with_reducible refine thenA_r ?_
    | with_reducible refine thenA_e ?_
    | with_reducible refine blkA_n ?_
    | with_reducible refine blkA_r ?_
    | with_reducible refine blkA_e ?_
    | with_reducible refine blkA_x (by decide) ?_
    | with_reducible refine AWP.skip ?_
    | with_reducible refine AWP.ret ?_
    | with_reducible refine AWP.exit ?_
    | with_reducible refine AWP.block ?_
    | (with_reducible refine AWP.cond rfl ?_ ?_ <;> intro hc <;> (try simp only [decide_eq_true_eq, decide_eq_false_iff_not, Bool.and_eq_true, Bool.or_eq_true, Bool.or_eq_false_iff, Bool.and_eq_false_iff, Bool.not_eq_true', Bool.not_eq_false', Bool.true_eq_false, Bool.false_eq_true, Bool.not_eq_true, Bool.not_eq_false, Int.not_lt, Int.not_le, Nat.not_lt, Nat.not_le, Int.ofNat_lt, Int.ofNat_le, Int.natCast_eq_zero, not_true_eq_false, not_false_eq_true, beq_iff_eq, Bool.not_true, Bool.not_false, ge_iff_le, gt_iff_lt] at hc))
    | ((first | with_reducible refine AWP.region tabOk ?_ | with_reducible refine AWP.quiet mixed tabOk (by kernel_rfl) ?_ | with_reducible refine AWP.draw mixed tabOk (by kernel_rfl) ?_); intro K hK; ((try simp (disch := omega) only [go_sem, wrap_n, true_and]) <;> (repeat' with_reducible refine And.intro ?_ ?_) <;> (try (with_reducible refine hK _ ?_; clear hK K))))
    | ((first | refine acallH_sc (ref_copied_c c h) rfl rfl ?_ ?_ ?_); (focus ((try simp (disch := omega) only [go_sem, wrap_n, true_and]) <;> (try omega) <;> fail)); (focus ((try simp (disch := omega) only [go_sem, wrap_n, true_and]) <;> (try omega) <;> fail)); ((try simp (disch := omega) only [go_sem, wrap_n, true_and]) <;> (repeat' with_reducible refine And.intro ?_ ?_) <;> (try (with_reducible refine hK _ ?_; clear hK K))))
    | ((first | refine acallQ_sc (ref_copied_c c h) rfl rfl ?_ ?_ ?_); (focus ((try simp (disch := omega) only [go_sem, wrap_n, true_and]) <;> (try omega) <;> fail)); (focus ((try simp (disch := omega) only [go_sem, wrap_n, true_and]) <;> (try omega) <;> fail)); ((try simp (disch := omega) only [go_sem, wrap_n, true_and]) <;> (repeat' with_reducible refine And.intro ?_ ?_) <;> (try (with_reducible refine hK _ ?_; clear hK K))))
    | ((first | refine acallH_rt (ref_copied_c c h) rfl ?_ ?_ ?_ ?_); (focus ((try simp (disch := omega) only [go_sem, wrap_n, true_and]) <;> (try omega) <;> fail)); (focus ((try simp (disch := omega) only [go_sem, wrap_n, true_and]) <;> (try omega) <;> fail)); (focus ((try simp (disch := omega) only [go_sem, wrap_n, true_and]) <;> (try omega) <;> fail)); ((try simp (disch := omega) only [go_sem, wrap_n, true_and]) <;> (repeat' with_reducible refine And.intro ?_ ?_) <;> (try (with_reducible refine hK _ ?_; clear hK K))))
    | ((first | refine acallH_out (ref_copied_c c h) rfl ?_ ?_ ?_); (focus ((try simp (disch := omega) only [go_sem, wrap_n, true_and]) <;> (try omega) <;> fail)); (focus ((try simp (disch := omega) only [go_sem, wrap_n, true_and]) <;> (try omega) <;> fail)); ((try simp (disch := omega) only [go_sem, wrap_n, true_and]) <;> (repeat' with_reducible refine And.intro ?_ ?_) <;> (try (with_reducible refine hK _ ?_; clear hK K))))
    | ((first | refine acallH_scx (ref_copied_c c h) rfl ?_ ?_ | refine acallQ_scx (ref_copied_c c h) rfl ?_ ?_ | refine acallH_rtx (ref_copied_c c h) ?_ ?_ | refine acallH_outx (ref_copied_c c h) ?_ ?_); (focus ((try simp (disch := omega) only [go_sem, wrap_n, true_and]) <;> (try omega) <;> fail)); ((try simp (disch := omega) only [go_sem, wrap_n, true_and]) <;> (repeat' with_reducible refine And.intro ?_ ?_) <;> (try (with_reducible refine hK _ ?_; clear hK K))))
    | ((first | (with_reducible refine aunder_i ?_ ?_ <;> intro hg) | with_reducible intro hg) <;> (first | (exfalso; simp at hg; done) | (have hg' := hg; (try simp only [decide_eq_true_eq, decide_eq_false_iff_not, Bool.and_eq_true, Bool.or_eq_true, Bool.or_eq_false_iff, Bool.and_eq_false_iff, Bool.not_eq_true', Bool.not_eq_false', Bool.true_eq_false, Bool.false_eq_true, Bool.not_eq_true, Bool.not_eq_false, Int.not_lt, Int.not_le, Nat.not_lt, Nat.not_le, Int.ofNat_lt, Int.ofNat_le, Int.natCast_eq_zero, not_true_eq_false, not_false_eq_true, beq_iff_eq, Bool.not_true, Bool.not_false, ge_iff_le, gt_iff_lt] at hg'); ((try simp (disch := omega) only [hg, go_sem, wrap_n, true_and]) <;> (repeat' with_reducible refine And.intro ?_ ?_) <;> (try (with_reducible refine hK _ ?_; clear hK K))))))
    | omega
  all_goals (unfold seeC)
  · rw [if_pos hc]; (refine aend_retc ?_ rfl ?_ ?_ ?_ ?_; (focus (first | exact .inl rfl | exact .inr rfl)); (focus ((try simp (disch := omega) only [go_sem, wrap_n, default]) <;> (try omega) <;> fail)); (focus ((try simp (disch := omega) only [go_sem, wrap_n, default]) <;> (try omega) <;> fail)); (focus ((try simp (disch := omega) only [go_sem, wrap_n, default]) <;> (try omega) <;> fail)); (try simp (disch := omega) only [go_sem, wrap_n, default, I, B, S, AV.d.injEq, DV.int.injEq, DV.bool.injEq, DV.str.injEq, DV.sl.injEq, AV.tup.injEq, AV.agg.injEq, List.cons.injEq, and_true, true_and, and_self]))
  · rw [if_neg (by omega)]; (refine aend_retc ?_ rfl ?_ ?_ ?_ ?_; (focus (first | exact .inl rfl | exact .inr rfl)); (focus ((try simp (disch := omega) only [go_sem, wrap_n, true_and]) <;> (try omega) <;> fail)); (focus ((try simp (disch := omega) only [go_sem, wrap_n, true_and]) <;> (try omega) <;> fail)); (focus ((try simp (disch := omega) only [go_sem, wrap_n, true_and]) <;> (try omega) <;> fail)); (try simp (disch := omega) only [go_sem, wrap_n, true_and, I, B, S, AV.d.injEq, DV.int.injEq, DV.bool.injEq, DV.str.injEq, DV.sl.injEq, AV.tup.injEq, AV.agg.injEq, List.cons.injEq, and_true, true_and, and_self]))

def newC (s : Int) : AClient × Int := if s < 1 ∨ 2147483647 < s then (default, 3) else (⟨s, 0, []⟩, 0)
theorem new_c (s : Int) : acall Try.prog [] 28 [I s] (ret (.tup [(newC s).1.av, I (newC s).2])) := by
  refine acall_of tabOk Try.func28 rfl (by kernel_rfl) (by simp [Try.ntmps28]) ?_
  simp only [Try.ntmps28, Try.results28, List.toList_toArray, apar, List.length_nil, List.length_cons, Nat.reduceAdd]
  repeat' first
    | with_reducible refine AWP.seq ?_
    | with_reducible refine thenA_n ?_
    | with_reducible refine thenA_r ?_
    | with_reducible refine thenA_e ?_
    | with_reducible refine blkA_n ?_
    | with_reducible refine blkA_r ?_
    | with_reducible refine blkA_e ?_
    | with_reducible refine blkA_x (by decide) ?_
    | with_reducible refine AWP.skip ?_
    | with_reducible refine AWP.ret ?_
    | with_reducible refine AWP.exit ?_
    | with_reducible refine AWP.block ?_
    | (with_reducible refine AWP.cond rfl ?_ ?_ <;> intro hc <;> (try simp only [decide_eq_true_eq, decide_eq_false_iff_not, Bool.and_eq_true, Bool.or_eq_true, Bool.or_eq_false_iff, Bool.and_eq_false_iff, Bool.not_eq_true', Bool.not_eq_false', Bool.true_eq_false, Bool.false_eq_true, Bool.not_eq_true, Bool.not_eq_false, Int.not_lt, Int.not_le, Nat.not_lt, Nat.not_le, Int.ofNat_lt, Int.ofNat_le, Int.natCast_eq_zero, not_true_eq_false, not_false_eq_true, beq_iff_eq, Bool.not_true, Bool.not_false, ge_iff_le, gt_iff_lt] at hc))
    | ((first | with_reducible refine AWP.region tabOk ?_ | with_reducible refine AWP.quiet mixed tabOk (by kernel_rfl) ?_ | with_reducible refine AWP.draw mixed tabOk (by kernel_rfl) ?_); intro K hK; ((try simp (disch := omega) only [go_sem, wrap_n, true_and]) <;> (repeat' with_reducible refine And.intro ?_ ?_) <;> (try (with_reducible refine hK _ ?_; clear hK K))))
    | ((first | (with_reducible refine aunder_i ?_ ?_ <;> intro hg) | with_reducible intro hg) <;> (first | (exfalso; simp at hg; done) | (have hg' := hg; (try simp only [decide_eq_true_eq, decide_eq_false_iff_not, Bool.and_eq_true, Bool.or_eq_true, Bool.or_eq_false_iff, Bool.and_eq_false_iff, Bool.not_eq_true', Bool.not_eq_false', Bool.true_eq_false, Bool.false_eq_true, Bool.not_eq_true, Bool.not_eq_false, Int.not_lt, Int.not_le, Nat.not_lt, Nat.not_le, Int.ofNat_lt, Int.ofNat_le, Int.natCast_eq_zero, not_true_eq_false, not_false_eq_true, beq_iff_eq, Bool.not_true, Bool.not_false, ge_iff_le, gt_iff_lt] at hg'); ((try simp (disch := omega) only [hg, go_sem, wrap_n, true_and]) <;> (repeat' with_reducible refine And.intro ?_ ?_) <;> (try (with_reducible refine hK _ ?_; clear hK K))))))
    | omega
  all_goals (unfold newC)
  · rw [if_pos (by omega)]; (refine aend_retc ?_ rfl ?_ ?_ ?_ ?_; (focus (first | exact .inl rfl | exact .inr rfl)); (focus ((try simp (disch := omega) only [go_sem, wrap_n, default]) <;> (try omega) <;> fail)); (focus ((try simp (disch := omega) only [go_sem, wrap_n, default]) <;> (try omega) <;> fail)); (focus ((try simp (disch := omega) only [go_sem, wrap_n, default]) <;> (try omega) <;> fail)); (try simp (disch := omega) only [go_sem, wrap_n, default, I, B, S, AV.d.injEq, DV.int.injEq, DV.bool.injEq, DV.str.injEq, DV.sl.injEq, AV.tup.injEq, AV.agg.injEq, List.cons.injEq, and_true, true_and, and_self]))
  · rw [if_neg (by omega)]; (refine aend_retc ?_ rfl ?_ ?_ ?_ ?_; (focus (first | exact .inl rfl | exact .inr rfl)); (focus ((try simp (disch := omega) only [go_sem, wrap_n, true_and]) <;> (try omega) <;> fail)); (focus ((try simp (disch := omega) only [go_sem, wrap_n, true_and]) <;> (try omega) <;> fail)); (focus ((try simp (disch := omega) only [go_sem, wrap_n, true_and]) <;> (try omega) <;> fail)); (try simp (disch := omega) only [go_sem, wrap_n, true_and, I, B, S, AV.d.injEq, DV.int.injEq, DV.bool.injEq, DV.str.injEq, DV.sl.injEq, AV.tup.injEq, AV.agg.injEq, List.cons.injEq, and_true, true_and, and_self]))
theorem ref_new_c (s : Int) : acall Try.prog [] 29 [I s] (ret (.tup [(newC s).1.av, I (newC s).2])) := by
  refine acall_of tabOk Try.func29 rfl (by kernel_rfl) (by simp [Try.ntmps29]) ?_
  simp only [Try.ntmps29, Try.results29, List.toList_toArray, apar, List.length_nil, List.length_cons, Nat.reduceAdd]
  repeat' first
    | with_reducible refine AWP.seq ?_
    | with_reducible refine thenA_n ?_
    | with_reducible refine thenA_r ?_
    | with_reducible refine thenA_e ?_
    | with_reducible refine blkA_n ?_
    | with_reducible refine blkA_r ?_
    | with_reducible refine blkA_e ?_
    | with_reducible refine blkA_x (by decide) ?_
    | with_reducible refine AWP.skip ?_
    | with_reducible refine AWP.ret ?_
    | with_reducible refine AWP.exit ?_
    | with_reducible refine AWP.block ?_
    | (with_reducible refine AWP.cond rfl ?_ ?_ <;> intro hc <;> (try simp only [decide_eq_true_eq, decide_eq_false_iff_not, Bool.and_eq_true, Bool.or_eq_true, Bool.or_eq_false_iff, Bool.and_eq_false_iff, Bool.not_eq_true', Bool.not_eq_false', Bool.true_eq_false, Bool.false_eq_true, Bool.not_eq_true, Bool.not_eq_false, Int.not_lt, Int.not_le, Nat.not_lt, Nat.not_le, Int.ofNat_lt, Int.ofNat_le, Int.natCast_eq_zero, not_true_eq_false, not_false_eq_true, beq_iff_eq, Bool.not_true, Bool.not_false, ge_iff_le, gt_iff_lt] at hc))
    | ((first | with_reducible refine AWP.region tabOk ?_ | with_reducible refine AWP.quiet mixed tabOk (by kernel_rfl) ?_ | with_reducible refine AWP.draw mixed tabOk (by kernel_rfl) ?_); intro K hK; ((try simp (disch := omega) only [go_sem, wrap_n, true_and]) <;> (repeat' with_reducible refine And.intro ?_ ?_) <;> (try (with_reducible refine hK _ ?_; clear hK K))))
    | ((first | (with_reducible refine aunder_i ?_ ?_ <;> intro hg) | with_reducible intro hg) <;> (first | (exfalso; simp at hg; done) | (have hg' := hg; (try simp only [decide_eq_true_eq, decide_eq_false_iff_not, Bool.and_eq_true, Bool.or_eq_true, Bool.or_eq_false_iff, Bool.and_eq_false_iff, Bool.not_eq_true', Bool.not_eq_false', Bool.true_eq_false, Bool.false_eq_true, Bool.not_eq_true, Bool.not_eq_false, Int.not_lt, Int.not_le, Nat.not_lt, Nat.not_le, Int.ofNat_lt, Int.ofNat_le, Int.natCast_eq_zero, not_true_eq_false, not_false_eq_true, beq_iff_eq, Bool.not_true, Bool.not_false, ge_iff_le, gt_iff_lt] at hg'); ((try simp (disch := omega) only [hg, go_sem, wrap_n, true_and]) <;> (repeat' with_reducible refine And.intro ?_ ?_) <;> (try (with_reducible refine hK _ ?_; clear hK K))))))
    | omega
  all_goals (unfold newC)
  · rw [if_pos (by omega)]; (refine aend_retc ?_ rfl ?_ ?_ ?_ ?_; (focus (first | exact .inl rfl | exact .inr rfl)); (focus ((try simp (disch := omega) only [go_sem, wrap_n, default]) <;> (try omega) <;> fail)); (focus ((try simp (disch := omega) only [go_sem, wrap_n, default]) <;> (try omega) <;> fail)); (focus ((try simp (disch := omega) only [go_sem, wrap_n, default]) <;> (try omega) <;> fail)); (try simp (disch := omega) only [go_sem, wrap_n, default, I, B, S, AV.d.injEq, DV.int.injEq, DV.bool.injEq, DV.str.injEq, DV.sl.injEq, AV.tup.injEq, AV.agg.injEq, List.cons.injEq, and_true, true_and, and_self]))
  · rw [if_neg (by omega)]; (refine aend_retc ?_ rfl ?_ ?_ ?_ ?_; (focus (first | exact .inl rfl | exact .inr rfl)); (focus ((try simp (disch := omega) only [go_sem, wrap_n, true_and]) <;> (try omega) <;> fail)); (focus ((try simp (disch := omega) only [go_sem, wrap_n, true_and]) <;> (try omega) <;> fail)); (focus ((try simp (disch := omega) only [go_sem, wrap_n, true_and]) <;> (try omega) <;> fail)); (try simp (disch := omega) only [go_sem, wrap_n, true_and, I, B, S, AV.d.injEq, DV.int.injEq, DV.bool.injEq, DV.str.injEq, DV.sl.injEq, AV.tup.injEq, AV.agg.injEq, List.cons.injEq, and_true, true_and, and_self]))
theorem ends_c : acall Try.prog [] 31 [] (ret (B true)) := by
  refine acall_of tabOk Try.func31 rfl (by kernel_rfl) (by simp [Try.ntmps31]) ?_
  simp only [Try.ntmps31, Try.results31, List.toList_toArray, apar, List.length_nil, List.length_cons, Nat.reduceAdd]
  repeat' first
    | with_reducible refine AWP.seq ?_
    | with_reducible refine thenA_n ?_
    | with_reducible refine thenA_r ?_
    | with_reducible refine thenA_e ?_
    | with_reducible refine blkA_n ?_
    | with_reducible refine blkA_r ?_
    | with_reducible refine blkA_e ?_
    | with_reducible refine blkA_x (by decide) ?_
    | with_reducible refine AWP.skip ?_
    | with_reducible refine AWP.ret ?_
    | with_reducible refine AWP.exit ?_
    | with_reducible refine AWP.block ?_
    | (with_reducible refine AWP.cond rfl ?_ ?_ <;> intro hc <;> (try simp only [decide_eq_true_eq, decide_eq_false_iff_not, Bool.and_eq_true, Bool.or_eq_true, Bool.or_eq_false_iff, Bool.and_eq_false_iff, Bool.not_eq_true', Bool.not_eq_false', Bool.true_eq_false, Bool.false_eq_true, Bool.not_eq_true, Bool.not_eq_false, Int.not_lt, Int.not_le, Nat.not_lt, Nat.not_le, Int.ofNat_lt, Int.ofNat_le, Int.natCast_eq_zero, not_true_eq_false, not_false_eq_true, beq_iff_eq, Bool.not_true, Bool.not_false, ge_iff_le, gt_iff_lt] at hc))
    | ((first | with_reducible refine AWP.region tabOk ?_ | with_reducible refine AWP.quiet mixed tabOk (by kernel_rfl) ?_ | with_reducible refine AWP.draw mixed tabOk (by kernel_rfl) ?_); intro K hK; ((try simp (disch := omega) only [go_sem, wrap_n, true_and]) <;> (repeat' with_reducible refine And.intro ?_ ?_) <;> (try (with_reducible refine hK _ ?_; clear hK K))))
    | ((first | refine acallH_sc (new_c _) rfl rfl ?_ ?_ ?_); (focus ((try simp (disch := omega) only [go_sem, wrap_n, true_and]) <;> (try omega) <;> fail)); (focus ((try simp (disch := omega) only [go_sem, wrap_n, true_and]) <;> (try omega) <;> fail)); ((try simp (disch := omega) only [go_sem, wrap_n, true_and]) <;> (repeat' with_reducible refine And.intro ?_ ?_) <;> (try (with_reducible refine hK _ ?_; clear hK K))))
    | ((first | refine acallQ_sc (new_c _) rfl rfl ?_ ?_ ?_); (focus ((try simp (disch := omega) only [go_sem, wrap_n, true_and]) <;> (try omega) <;> fail)); (focus ((try simp (disch := omega) only [go_sem, wrap_n, true_and]) <;> (try omega) <;> fail)); ((try simp (disch := omega) only [go_sem, wrap_n, true_and]) <;> (repeat' with_reducible refine And.intro ?_ ?_) <;> (try (with_reducible refine hK _ ?_; clear hK K))))
    | ((first | refine acallH_rt (new_c _) rfl ?_ ?_ ?_ ?_); (focus ((try simp (disch := omega) only [go_sem, wrap_n, true_and]) <;> (try omega) <;> fail)); (focus ((try simp (disch := omega) only [go_sem, wrap_n, true_and]) <;> (try omega) <;> fail)); (focus ((try simp (disch := omega) only [go_sem, wrap_n, true_and]) <;> (try omega) <;> fail)); ((try simp (disch := omega) only [go_sem, wrap_n, true_and]) <;> (repeat' with_reducible refine And.intro ?_ ?_) <;> (try (with_reducible refine hK _ ?_; clear hK K))))
    | ((first | refine acallH_out (new_c _) rfl ?_ ?_ ?_); (focus ((try simp (disch := omega) only [go_sem, wrap_n, true_and]) <;> (try omega) <;> fail)); (focus ((try simp (disch := omega) only [go_sem, wrap_n, true_and]) <;> (try omega) <;> fail)); ((try simp (disch := omega) only [go_sem, wrap_n, true_and]) <;> (repeat' with_reducible refine And.intro ?_ ?_) <;> (try (with_reducible refine hK _ ?_; clear hK K))))
    | ((first | refine acallH_scx (new_c _) rfl ?_ ?_ | refine acallQ_scx (new_c _) rfl ?_ ?_ | refine acallH_rtx (new_c _) ?_ ?_ | refine acallH_outx (new_c _) ?_ ?_); (focus ((try simp (disch := omega) only [go_sem, wrap_n, true_and]) <;> (try omega) <;> fail)); ((try simp (disch := omega) only [go_sem, wrap_n, true_and]) <;> (repeat' with_reducible refine And.intro ?_ ?_) <;> (try (with_reducible refine hK _ ?_; clear hK K))))
    | ((first | (with_reducible refine aunder_i ?_ ?_ <;> intro hg) | with_reducible intro hg) <;> (first | (exfalso; simp at hg; done) | (have hg' := hg; (try simp only [decide_eq_true_eq, decide_eq_false_iff_not, Bool.and_eq_true, Bool.or_eq_true, Bool.or_eq_false_iff, Bool.and_eq_false_iff, Bool.not_eq_true', Bool.not_eq_false', Bool.true_eq_false, Bool.false_eq_true, Bool.not_eq_true, Bool.not_eq_false, Int.not_lt, Int.not_le, Nat.not_lt, Nat.not_le, Int.ofNat_lt, Int.ofNat_le, Int.natCast_eq_zero, not_true_eq_false, not_false_eq_true, beq_iff_eq, Bool.not_true, Bool.not_false, ge_iff_le, gt_iff_lt] at hg'); ((try simp (disch := omega) only [hg, go_sem, wrap_n, true_and]) <;> (repeat' with_reducible refine And.intro ?_ ?_) <;> (try (with_reducible refine hK _ ?_; clear hK K))))))
    | omega
  all_goals (refine aend_retc ?_ rfl ?_ ?_ ?_ ?_; (focus (first | exact .inl rfl | exact .inr rfl)); (focus ((try simp (disch := omega) only [go_sem, wrap_n, true_and]) <;> (try omega) <;> fail)); (focus ((try simp (disch := omega) only [go_sem, wrap_n, true_and]) <;> (try omega) <;> fail)); (focus ((try simp (disch := omega) only [go_sem, wrap_n, true_and]) <;> (try omega) <;> fail)); (try simp (disch := omega) only [go_sem, wrap_n, true_and, I, B, S, AV.d.injEq, DV.int.injEq, DV.bool.injEq, DV.str.injEq, DV.sl.injEq, AV.tup.injEq, AV.agg.injEq, List.cons.injEq, and_true, true_and, and_self]))
  decide

theorem same_client_c (a b : AClient) (h : a.cache.length * 40 ≤ 140737488351232) (h2 : b.cache.length * 40 ≤ 140737488351232) : acall Try.prog [] 30 [a.av, b.av] (ret (B (decide (a = b)))) := by
  refine acall_of tabOk Try.func30 rfl (by kernel_rfl) (by simp [Try.ntmps30]) ?_
  simp only [Try.ntmps30, Try.results30, List.toList_toArray, apar, List.length_nil, List.length_cons, Nat.reduceAdd]
  repeat' first
    | with_reducible refine AWP.seq ?_
    | with_reducible refine thenA_n ?_
    | with_reducible refine thenA_r ?_
    | with_reducible refine thenA_e ?_
    | with_reducible refine blkA_n ?_
    | with_reducible refine blkA_r ?_
    | with_reducible refine blkA_e ?_
    | with_reducible refine blkA_x (by decide) ?_
    | with_reducible refine AWP.skip ?_
    | with_reducible refine AWP.ret ?_
    | with_reducible refine AWP.exit ?_
    | with_reducible refine AWP.block ?_
    | (with_reducible refine AWP.cond rfl ?_ ?_ <;> intro hc <;> (try simp only [decide_eq_true_eq, decide_eq_false_iff_not, Bool.and_eq_true, Bool.or_eq_true, Bool.or_eq_false_iff, Bool.and_eq_false_iff, Bool.not_eq_true', Bool.not_eq_false', Bool.true_eq_false, Bool.false_eq_true, Bool.not_eq_true, Bool.not_eq_false, Int.not_lt, Int.not_le, Nat.not_lt, Nat.not_le, Int.ofNat_lt, Int.ofNat_le, Int.natCast_eq_zero, not_true_eq_false, not_false_eq_true, beq_iff_eq, Bool.not_true, Bool.not_false, ge_iff_le, gt_iff_lt] at hc))
    | ((first | with_reducible refine AWP.region tabOk ?_ | with_reducible refine AWP.quiet mixed tabOk (by kernel_rfl) ?_ | with_reducible refine AWP.draw mixed tabOk (by kernel_rfl) ?_); intro K hK; ((try simp (disch := omega) only [go_sem, wrap_n, true_and]) <;> (repeat' with_reducible refine And.intro ?_ ?_) <;> (try (with_reducible refine hK _ ?_; clear hK K))))
    | ((first | (with_reducible refine aunder_i ?_ ?_ <;> intro hg) | with_reducible intro hg) <;> (first | (exfalso; simp at hg; done) | (have hg' := hg; (try simp only [decide_eq_true_eq, decide_eq_false_iff_not, Bool.and_eq_true, Bool.or_eq_true, Bool.or_eq_false_iff, Bool.and_eq_false_iff, Bool.not_eq_true', Bool.not_eq_false', Bool.true_eq_false, Bool.false_eq_true, Bool.not_eq_true, Bool.not_eq_false, Int.not_lt, Int.not_le, Nat.not_lt, Nat.not_le, Int.ofNat_lt, Int.ofNat_le, Int.natCast_eq_zero, not_true_eq_false, not_false_eq_true, beq_iff_eq, Bool.not_true, Bool.not_false, ge_iff_le, gt_iff_lt] at hg'); ((try simp (disch := omega) only [hg, go_sem, wrap_n, true_and]) <;> (repeat' with_reducible refine And.intro ?_ ?_) <;> (try (with_reducible refine hK _ ?_; clear hK K))))))
    | omega
  · (refine aend_retc ?_ rfl ?_ ?_ ?_ ?_; (focus (first | exact .inl rfl | exact .inr rfl)); (focus ((try simp (disch := omega) only [go_sem, wrap_n, true_and]) <;> (try omega) <;> fail)); (focus ((try simp (disch := omega) only [go_sem, wrap_n, true_and]) <;> (try omega) <;> fail)); (focus ((try simp (disch := omega) only [go_sem, wrap_n, true_and]) <;> (try omega) <;> fail)); (try simp (disch := omega) only [go_sem, wrap_n, true_and, I, B, S, AV.d.injEq, DV.int.injEq, DV.bool.injEq, DV.str.injEq, DV.sl.injEq, AV.tup.injEq, AV.agg.injEq, List.cons.injEq, and_true, true_and, and_self]))
    symm; rw [decide_eq_false_iff_not]; intro e; subst e; simp at hc
  have h3 := hc
  refine AWP.loopS (ι := Nat) (fun k => k ≤ a.cache.length ∧ ∀ j, j < k → a.cache.getD j default = b.cache.getD j default) (fun k => a.cache.length - k) [2, 3, 29] (fun k => [(30, I k)]) 0 ?_ (by simp (disch := omega) only [go_sem, wrap_n, true_and]) ?_
  · exact ⟨by omega, by omega⟩
  intro k ⟨hk, hk2⟩
  simp only [go_sem]
  repeat' first
    | with_reducible refine AWP.seq ?_
    | with_reducible refine thenA_n ?_
    | with_reducible refine thenA_r ?_
    | with_reducible refine thenA_e ?_
    | with_reducible refine blkA_n ?_
    | with_reducible refine blkA_r ?_
    | with_reducible refine blkA_e ?_
    | with_reducible refine blkA_x (by decide) ?_
    | with_reducible refine AWP.skip ?_
    | with_reducible refine AWP.ret ?_
    | with_reducible refine AWP.exit ?_
    | with_reducible refine AWP.block ?_
    | (with_reducible refine AWP.cond rfl ?_ ?_ <;> intro hc <;> (try simp only [decide_eq_true_eq, decide_eq_false_iff_not, Bool.and_eq_true, Bool.or_eq_true, Bool.or_eq_false_iff, Bool.and_eq_false_iff, Bool.not_eq_true', Bool.not_eq_false', Bool.true_eq_false, Bool.false_eq_true, Bool.not_eq_true, Bool.not_eq_false, Int.not_lt, Int.not_le, Nat.not_lt, Nat.not_le, Int.ofNat_lt, Int.ofNat_le, Int.natCast_eq_zero, not_true_eq_false, not_false_eq_true, beq_iff_eq, Bool.not_true, Bool.not_false, ge_iff_le, gt_iff_lt] at hc))
    | ((first | with_reducible refine AWP.region tabOk ?_ | with_reducible refine AWP.quiet mixed tabOk (by kernel_rfl) ?_ | with_reducible refine AWP.draw mixed tabOk (by kernel_rfl) ?_); intro K hK; ((try simp (disch := omega) only [go_sem, wrap_n, true_and]) <;> (repeat' with_reducible refine And.intro ?_ ?_) <;> (try (with_reducible refine hK _ ?_; clear hK K))))
    | ((first | (with_reducible refine aunder_i ?_ ?_ <;> intro hg) | with_reducible intro hg) <;> (first | (exfalso; simp at hg; done) | (have hg' := hg; (try simp only [decide_eq_true_eq, decide_eq_false_iff_not, Bool.and_eq_true, Bool.or_eq_true, Bool.or_eq_false_iff, Bool.and_eq_false_iff, Bool.not_eq_true', Bool.not_eq_false', Bool.true_eq_false, Bool.false_eq_true, Bool.not_eq_true, Bool.not_eq_false, Int.not_lt, Int.not_le, Nat.not_lt, Nat.not_le, Int.ofNat_lt, Int.ofNat_le, Int.natCast_eq_zero, not_true_eq_false, not_false_eq_true, beq_iff_eq, Bool.not_true, Bool.not_false, ge_iff_le, gt_iff_lt] at hg'); ((try simp (disch := omega) only [hg, go_sem, wrap_n, true_and]) <;> (repeat' with_reducible refine And.intro ?_ ?_) <;> (try (with_reducible refine hK _ ?_; clear hK K))))))
    | omega
  · (refine aend_retc ?_ rfl ?_ ?_ ?_ ?_; (focus (first | exact .inl rfl | exact .inr rfl)); (focus ((try simp (disch := omega) only [go_sem, wrap_n, true_and]) <;> (try omega) <;> fail)); (focus ((try simp (disch := omega) only [go_sem, wrap_n, true_and]) <;> (try omega) <;> fail)); (focus ((try simp (disch := omega) only [go_sem, wrap_n, true_and]) <;> (try omega) <;> fail)); (try simp (disch := omega) only [go_sem, wrap_n, true_and, I, B, S, AV.d.injEq, DV.int.injEq, DV.bool.injEq, DV.str.injEq, DV.sl.injEq, AV.tup.injEq, AV.agg.injEq, List.cons.injEq, and_true, true_and, and_self]))
    symm; rw [decide_eq_false_iff_not]; intro e; subst e; simp at hc
  · refine ⟨k + 1, ⟨by omega, fun j hj => ?_⟩, by omega, ?_⟩
    · by_cases e : j = k
      · subst e; exact hc
      · exact hk2 j (by omega)
    (refine SImp.same ?_; simp (disch := omega) only [go_sem, wrap_n, Int.natCast_add, true_and])
  · (refine aend_retc ?_ rfl ?_ ?_ ?_ ?_; (focus (first | exact .inl rfl | exact .inr rfl)); (focus ((try simp (disch := omega) only [go_sem, wrap_n, true_and]) <;> (try omega) <;> fail)); (focus ((try simp (disch := omega) only [go_sem, wrap_n, true_and]) <;> (try omega) <;> fail)); (focus ((try simp (disch := omega) only [go_sem, wrap_n, true_and]) <;> (try omega) <;> fail)); (try simp (disch := omega) only [go_sem, wrap_n, true_and, I, B, S, AV.d.injEq, DV.int.injEq, DV.bool.injEq, DV.str.injEq, DV.sl.injEq, AV.tup.injEq, AV.agg.injEq, List.cons.injEq, and_true, true_and, and_self]))
    symm; rw [decide_eq_true_eq, AClient.ext_iff]
    exact ⟨h3.1.1, h3.1.2, eq_of_getD (by omega) fun j hj => hk2 j (by omega)⟩

theorem clientSees_b (c : AClient) (z s : Int) (h : c.cache.length * 40 ≤ 140737488351232) : acall Try.prog [] 7 [c.av, I z, I s] (ret (B true)) := by
  refine acall_of tabOk Try.func7 rfl (by kernel_rfl) (by simp [Try.ntmps7]) ?_
  simp only [Try.ntmps7, Try.results7, List.toList_toArray, apar, List.length_nil, List.length_cons, Nat.reduceAdd]
  have h1 : (seeC c z).1.cache.length * 40 ≤ 140737488351232 := by unfold seeC; split <;> simp [default]; exact h
  have h2 : (newC s).1.cache.length * 40 ≤ 140737488351232 := by unfold newC; split <;> simp [default]
  repeat' first
    | with_reducible refine AWP.seq ?_
    | with_reducible refine thenA_n ?_
    | with_reducible refine thenA_r ?_
    | with_reducible refine thenA_e ?_
    | with_reducible refine blkA_n ?_
    | with_reducible refine blkA_r ?_
    | with_reducible refine blkA_e ?_
    | with_reducible refine blkA_x (by decide) ?_
    | with_reducible refine AWP.skip ?_
    | with_reducible refine AWP.ret ?_
    | with_reducible refine AWP.exit ?_
    | with_reducible refine AWP.block ?_
    | (with_reducible refine AWP.cond rfl ?_ ?_ <;> intro hc <;> (try simp only [decide_eq_true_eq, decide_eq_false_iff_not, Bool.and_eq_true, Bool.or_eq_true, Bool.or_eq_false_iff, Bool.and_eq_false_iff, Bool.not_eq_true', Bool.not_eq_false', Bool.true_eq_false, Bool.false_eq_true, Bool.not_eq_true, Bool.not_eq_false, Int.not_lt, Int.not_le, Nat.not_lt, Nat.not_le, Int.ofNat_lt, Int.ofNat_le, Int.natCast_eq_zero, not_true_eq_false, not_false_eq_true, beq_iff_eq, Bool.not_true, Bool.not_false, ge_iff_le, gt_iff_lt] at hc))
    | ((first | with_reducible refine AWP.region tabOk ?_ | with_reducible refine AWP.quiet mixed tabOk (by kernel_rfl) ?_ | with_reducible refine AWP.draw mixed tabOk (by kernel_rfl) ?_); intro K hK; ((try simp (disch := omega) only [go_sem, wrap_n, true_and]) <;> (repeat' with_reducible refine And.intro ?_ ?_) <;> (try (with_reducible refine hK _ ?_; clear hK K))))
    | ((first | refine acallH_sc (ref_copied_c c h) rfl rfl ?_ ?_ ?_ | refine acallH_sc (see_c c z h) rfl rfl ?_ ?_ ?_ | refine acallH_sc (ref_see_c c z h) rfl rfl ?_ ?_ ?_ | refine acallH_sc (new_c s) rfl rfl ?_ ?_ ?_ | refine acallH_sc (ref_new_c s) rfl rfl ?_ ?_ ?_ | refine acallH_sc (same_client_c _ _ h1 h1) rfl rfl ?_ ?_ ?_ | refine acallH_sc (same_client_c _ _ h2 h2) rfl rfl ?_ ?_ ?_ | refine acallH_sc (ends_c) rfl rfl ?_ ?_ ?_); (focus ((try simp (disch := omega) only [go_sem, wrap_n, true_and]) <;> (try omega) <;> fail)); (focus ((try simp (disch := omega) only [go_sem, wrap_n, true_and]) <;> (try omega) <;> fail)); ((try simp (disch := omega) only [go_sem, wrap_n, true_and]) <;> (repeat' with_reducible refine And.intro ?_ ?_) <;> (try (with_reducible refine hK _ ?_; clear hK K))))
    | ((first | refine acallQ_sc (ref_copied_c c h) rfl rfl ?_ ?_ ?_ | refine acallQ_sc (see_c c z h) rfl rfl ?_ ?_ ?_ | refine acallQ_sc (ref_see_c c z h) rfl rfl ?_ ?_ ?_ | refine acallQ_sc (new_c s) rfl rfl ?_ ?_ ?_ | refine acallQ_sc (ref_new_c s) rfl rfl ?_ ?_ ?_ | refine acallQ_sc (same_client_c _ _ h1 h1) rfl rfl ?_ ?_ ?_ | refine acallQ_sc (same_client_c _ _ h2 h2) rfl rfl ?_ ?_ ?_ | refine acallQ_sc (ends_c) rfl rfl ?_ ?_ ?_); (focus ((try simp (disch := omega) only [go_sem, wrap_n, true_and]) <;> (try omega) <;> fail)); (focus ((try simp (disch := omega) only [go_sem, wrap_n, true_and]) <;> (try omega) <;> fail)); ((try simp (disch := omega) only [go_sem, wrap_n, true_and]) <;> (repeat' with_reducible refine And.intro ?_ ?_) <;> (try (with_reducible refine hK _ ?_; clear hK K))))
    | ((first | refine acallH_rt (ref_copied_c c h) rfl ?_ ?_ ?_ ?_ | refine acallH_rt (see_c c z h) rfl ?_ ?_ ?_ ?_ | refine acallH_rt (ref_see_c c z h) rfl ?_ ?_ ?_ ?_ | refine acallH_rt (new_c s) rfl ?_ ?_ ?_ ?_ | refine acallH_rt (ref_new_c s) rfl ?_ ?_ ?_ ?_ | refine acallH_rt (same_client_c _ _ h1 h1) rfl ?_ ?_ ?_ ?_ | refine acallH_rt (same_client_c _ _ h2 h2) rfl ?_ ?_ ?_ ?_ | refine acallH_rt (ends_c) rfl ?_ ?_ ?_ ?_); (focus ((try simp (disch := omega) only [go_sem, wrap_n, true_and]) <;> (try omega) <;> fail)); (focus ((try simp (disch := omega) only [go_sem, wrap_n, true_and]) <;> (try omega) <;> fail)); (focus ((try simp (disch := omega) only [go_sem, wrap_n, true_and]) <;> (try omega) <;> fail)); ((try simp (disch := omega) only [go_sem, wrap_n, true_and]) <;> (repeat' with_reducible refine And.intro ?_ ?_) <;> (try (with_reducible refine hK _ ?_; clear hK K))))
    | ((first | refine acallH_out (ref_copied_c c h) rfl ?_ ?_ ?_ | refine acallH_out (see_c c z h) rfl ?_ ?_ ?_ | refine acallH_out (ref_see_c c z h) rfl ?_ ?_ ?_ | refine acallH_out (new_c s) rfl ?_ ?_ ?_ | refine acallH_out (ref_new_c s) rfl ?_ ?_ ?_ | refine acallH_out (same_client_c _ _ h1 h1) rfl ?_ ?_ ?_ | refine acallH_out (same_client_c _ _ h2 h2) rfl ?_ ?_ ?_ | refine acallH_out (ends_c) rfl ?_ ?_ ?_); (focus ((try simp (disch := omega) only [go_sem, wrap_n, true_and]) <;> (try omega) <;> fail)); (focus ((try simp (disch := omega) only [go_sem, wrap_n, true_and]) <;> (try omega) <;> fail)); ((try simp (disch := omega) only [go_sem, wrap_n, true_and]) <;> (repeat' with_reducible refine And.intro ?_ ?_) <;> (try (with_reducible refine hK _ ?_; clear hK K))))
    | ((first | refine acallH_scx (ref_copied_c c h) rfl ?_ ?_ | refine acallQ_scx (ref_copied_c c h) rfl ?_ ?_ | refine acallH_rtx (ref_copied_c c h) ?_ ?_ | refine acallH_outx (ref_copied_c c h) ?_ ?_); (focus ((try simp (disch := omega) only [go_sem, wrap_n, true_and]) <;> (try omega) <;> fail)); ((try simp (disch := omega) only [go_sem, wrap_n, true_and]) <;> (repeat' with_reducible refine And.intro ?_ ?_) <;> (try (with_reducible refine hK _ ?_; clear hK K))))
    | ((first | refine acallH_scx (see_c c z h) rfl ?_ ?_ | refine acallQ_scx (see_c c z h) rfl ?_ ?_ | refine acallH_rtx (see_c c z h) ?_ ?_ | refine acallH_outx (see_c c z h) ?_ ?_); (focus ((try simp (disch := omega) only [go_sem, wrap_n, true_and]) <;> (try omega) <;> fail)); ((try simp (disch := omega) only [go_sem, wrap_n, true_and]) <;> (repeat' with_reducible refine And.intro ?_ ?_) <;> (try (with_reducible refine hK _ ?_; clear hK K))))
    | ((first | refine acallH_scx (ref_see_c c z h) rfl ?_ ?_ | refine acallQ_scx (ref_see_c c z h) rfl ?_ ?_ | refine acallH_rtx (ref_see_c c z h) ?_ ?_ | refine acallH_outx (ref_see_c c z h) ?_ ?_); (focus ((try simp (disch := omega) only [go_sem, wrap_n, true_and]) <;> (try omega) <;> fail)); ((try simp (disch := omega) only [go_sem, wrap_n, true_and]) <;> (repeat' with_reducible refine And.intro ?_ ?_) <;> (try (with_reducible refine hK _ ?_; clear hK K))))
    | ((first | refine acallH_scx (new_c s) rfl ?_ ?_ | refine acallQ_scx (new_c s) rfl ?_ ?_ | refine acallH_rtx (new_c s) ?_ ?_ | refine acallH_outx (new_c s) ?_ ?_); (focus ((try simp (disch := omega) only [go_sem, wrap_n, true_and]) <;> (try omega) <;> fail)); ((try simp (disch := omega) only [go_sem, wrap_n, true_and]) <;> (repeat' with_reducible refine And.intro ?_ ?_) <;> (try (with_reducible refine hK _ ?_; clear hK K))))
    | ((first | refine acallH_scx (ref_new_c s) rfl ?_ ?_ | refine acallQ_scx (ref_new_c s) rfl ?_ ?_ | refine acallH_rtx (ref_new_c s) ?_ ?_ | refine acallH_outx (ref_new_c s) ?_ ?_); (focus ((try simp (disch := omega) only [go_sem, wrap_n, true_and]) <;> (try omega) <;> fail)); ((try simp (disch := omega) only [go_sem, wrap_n, true_and]) <;> (repeat' with_reducible refine And.intro ?_ ?_) <;> (try (with_reducible refine hK _ ?_; clear hK K))))
    | ((first | refine acallH_scx (same_client_c _ _ h1 h1) rfl ?_ ?_ | refine acallQ_scx (same_client_c _ _ h1 h1) rfl ?_ ?_ | refine acallH_rtx (same_client_c _ _ h1 h1) ?_ ?_ | refine acallH_outx (same_client_c _ _ h1 h1) ?_ ?_); (focus ((try simp (disch := omega) only [go_sem, wrap_n, true_and]) <;> (try omega) <;> fail)); ((try simp (disch := omega) only [go_sem, wrap_n, true_and]) <;> (repeat' with_reducible refine And.intro ?_ ?_) <;> (try (with_reducible refine hK _ ?_; clear hK K))))
    | ((first | refine acallH_scx (same_client_c _ _ h2 h2) rfl ?_ ?_ | refine acallQ_scx (same_client_c _ _ h2 h2) rfl ?_ ?_ | refine acallH_rtx (same_client_c _ _ h2 h2) ?_ ?_ | refine acallH_outx (same_client_c _ _ h2 h2) ?_ ?_); (focus ((try simp (disch := omega) only [go_sem, wrap_n, true_and]) <;> (try omega) <;> fail)); ((try simp (disch := omega) only [go_sem, wrap_n, true_and]) <;> (repeat' with_reducible refine And.intro ?_ ?_) <;> (try (with_reducible refine hK _ ?_; clear hK K))))
    | ((first | refine acallH_scx (ends_c) rfl ?_ ?_ | refine acallQ_scx (ends_c) rfl ?_ ?_ | refine acallH_rtx (ends_c) ?_ ?_ | refine acallH_outx (ends_c) ?_ ?_); (focus ((try simp (disch := omega) only [go_sem, wrap_n, true_and]) <;> (try omega) <;> fail)); ((try simp (disch := omega) only [go_sem, wrap_n, true_and]) <;> (repeat' with_reducible refine And.intro ?_ ?_) <;> (try (with_reducible refine hK _ ?_; clear hK K))))
    | ((first | (with_reducible refine aunder_i ?_ ?_ <;> intro hg) | with_reducible intro hg) <;> (first | (exfalso; simp at hg; done) | (have hg' := hg; (try simp only [decide_eq_true_eq, decide_eq_false_iff_not, Bool.and_eq_true, Bool.or_eq_true, Bool.or_eq_false_iff, Bool.and_eq_false_iff, Bool.not_eq_true', Bool.not_eq_false', Bool.true_eq_false, Bool.false_eq_true, Bool.not_eq_true, Bool.not_eq_false, Int.not_lt, Int.not_le, Nat.not_lt, Nat.not_le, Int.ofNat_lt, Int.ofNat_le, Int.natCast_eq_zero, not_true_eq_false, not_false_eq_true, beq_iff_eq, Bool.not_true, Bool.not_false, ge_iff_le, gt_iff_lt] at hg'); ((try simp (disch := omega) only [hg, go_sem, wrap_n, true_and]) <;> (repeat' with_reducible refine And.intro ?_ ?_) <;> (try (with_reducible refine hK _ ?_; clear hK K))))))
    | omega
  (refine aend_retc ?_ rfl ?_ ?_ ?_ ?_; (focus (first | exact .inl rfl | exact .inr rfl)); (focus ((try simp (disch := omega) only [go_sem, wrap_n, true_and]) <;> (try omega) <;> fail)); (focus ((try simp (disch := omega) only [go_sem, wrap_n, true_and]) <;> (try omega) <;> fail)); (focus ((try simp (disch := omega) only [go_sem, wrap_n, true_and]) <;> (try omega) <;> fail)); (try simp (disch := omega) only [go_sem, wrap_n, true_and, I, B, S, AV.d.injEq, DV.int.injEq, DV.bool.injEq, DV.str.injEq, DV.sl.injEq, AV.tup.injEq, AV.agg.injEq, List.cons.injEq, and_true, true_and, and_self]))
theorem clientSees_c (dss : List (List DV)) (h : typeds T 6 Try.f7.params.toList dss) : acall Try.prog [] 7 (aargs T Try.f7.params.toList dss) (fun v _ => v = B true) := by
  rw [Try.params7] at h ⊢
  simp only [List.toList_toArray, typeds] at h
  obtain ⟨c0, d0, rfl, h0, c1, d1, rfl, h1, c2, d2, rfl, h2, rfl⟩ := h
  obtain ⟨c, rfl, w_c⟩ := AClient_typed (m := 2) h0
  obtain ⟨z, rfl, w_z⟩ := ty_int (m := 5) (by simp only [T_3, ty3]) h1
  obtain ⟨s, rfl, w_s⟩ := ty_int (m := 5) (by simp only [T_3, ty3]) h2
  simp only [List.toList_toArray, aargs, aarg, TI.agg_mk, T_3, ty3, T_38, ty38]
  exact (clientSees_b c z s w_c.2.2.1).mono fun _ _ h => h.1
end Go.Proofs.Ytplgghpnijmllaa
