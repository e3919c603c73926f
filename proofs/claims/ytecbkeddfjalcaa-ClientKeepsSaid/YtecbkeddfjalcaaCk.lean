/- Contracts of a client's cache: Keep, Look, Tell and their references. No condition. -/
import Derived.Test.YtecbkeddfjalcaaCl
import Derived.Test.YtecbkeddfjalcaaBs
import Derived.Test.YtecbkeddfjalcaaSl
namespace Go.Proofs.Ytecbkeddfjalcaa
open Go Go.RowKit
set_option maxRecDepth 100000
set_option linter.unusedSimpArgs false

theorem cfind_c (c : AClient) (key : List UInt8) (h : c.cache.length * 40 ≤ 140737488351232) (hr : Rises (c.cache.map AEntry.path)) :
    acall Try.prog [] 27 [c.av, S key] (ret (.tup [I (place (c.cache.map AEntry.path) key), B (decide (key ∈ c.cache.map AEntry.path))])) := by
  refine acall_of tabOk Try.func27 rfl (by kernel_rfl) (by simp [Try.ntmps27]) ?_; simp only [Try.ntmps27, Try.results27, List.toList_toArray, apar, List.length_nil, List.length_cons, Nat.reduceAdd]
  repeat' first
    | with_reducible refine AWP.seq ?_
    | with_reducible refine thenA_n ?_
    | with_reducible refine thenA_r ?_
    | with_reducible refine thenA_e ?_
    | with_reducible refine blkA_n ?_
    | with_reducible refine blkA_r ?_
    | with_reducible refine blkA_e ?_
    | with_reducible refine blkA_x (by decide) ?_
    | with_reducible refine AWP.skip ?_
    | with_reducible refine AWP.ret ?_
    | with_reducible refine AWP.exit ?_
    | with_reducible refine AWP.block ?_
    | (with_reducible refine AWP.cond rfl ?_ ?_ <;> intro hc <;> (try simp only [decide_eq_true_eq, decide_eq_false_iff_not, Bool.and_eq_true, Bool.or_eq_true, Bool.or_eq_false_iff, Bool.and_eq_false_iff, Bool.not_eq_true', Bool.not_eq_false', Bool.true_eq_false, Bool.false_eq_true, Bool.not_eq_true, Bool.not_eq_false, Int.not_lt, Int.not_le, Nat.not_lt, Nat.not_le, Int.ofNat_lt, Int.ofNat_le, Int.natCast_eq_zero, not_true_eq_false, not_false_eq_true, beq_iff_eq, Bool.not_true, Bool.not_false, ge_iff_le, gt_iff_lt] at hc))
    | ((first | with_reducible refine AWP.region tabOk ?_ | with_reducible refine AWP.quietC mixed tabOk (by decide +kernel) ?_ | with_reducible refine AWP.draw mixed tabOk (by decide +kernel) ?_ | with_reducible refine AWP.drawE mixed tabOk (by decide +kernel) ?_); intro K hK; ((try simp (disch := omega) only [go_sem, wrap_n, true_and]) <;> (repeat' with_reducible refine And.intro ?_ ?_) <;> (try (with_reducible refine hK _ ?_; clear hK K))))
    | ((first | refine acallH_sc (bsEntry_c _ key h hr) rfl rfl ?_ ?_ ?_); (focus ((try simp (disch := omega) only [go_sem, wrap_n, true_and]) <;> (try omega) <;> fail)); (focus ((try simp (disch := omega) only [go_sem, wrap_n, true_and]) <;> (try omega) <;> fail)); ((try simp (disch := omega) only [go_sem, wrap_n, true_and]) <;> (repeat' with_reducible refine And.intro ?_ ?_) <;> (try (with_reducible refine hK _ ?_; clear hK K))))
    | ((first | refine acallQ_sc (bsEntry_c _ key h hr) rfl rfl ?_ ?_ ?_); (focus ((try simp (disch := omega) only [go_sem, wrap_n, true_and]) <;> (try omega) <;> fail)); (focus ((try simp (disch := omega) only [go_sem, wrap_n, true_and]) <;> (try omega) <;> fail)); ((try simp (disch := omega) only [go_sem, wrap_n, true_and]) <;> (repeat' with_reducible refine And.intro ?_ ?_) <;> (try (with_reducible refine hK _ ?_; clear hK K))))
    | ((first | refine acallH_anyr (bsEntry_c _ key h hr) rfl ?_ ?_); (focus ((try simp (disch := omega) only [go_sem, wrap_n, true_and]) <;> (try omega) <;> fail)); ((try simp (disch := omega) only [go_sem, wrap_n, true_and]) <;> (repeat' with_reducible refine And.intro ?_ ?_) <;> (try (with_reducible refine hK _ ?_; clear hK K))))
    | ((first | refine acallH_scx (bsEntry_c _ key h hr) rfl ?_ ?_ | refine acallQ_scx (bsEntry_c _ key h hr) rfl ?_ ?_ | refine acallH_anyx (bsEntry_c _ key h hr) ?_ ?_); (focus ((try simp (disch := omega) only [go_sem, wrap_n, true_and]) <;> (try omega) <;> fail)); ((try simp (disch := omega) only [go_sem, wrap_n, true_and]) <;> (repeat' with_reducible refine And.intro ?_ ?_) <;> (try (with_reducible refine hK _ ?_; clear hK K))))
    | ((first | (with_reducible refine aunder_i ?_ ?_ <;> intro hg) | with_reducible intro hg) <;> (first | (exfalso; simp at hg; done) | (have hg' := hg; (try simp only [decide_eq_true_eq, decide_eq_false_iff_not, Bool.and_eq_true, Bool.or_eq_true, Bool.or_eq_false_iff, Bool.and_eq_false_iff, Bool.not_eq_true', Bool.not_eq_false', Bool.true_eq_false, Bool.false_eq_true, Bool.not_eq_true, Bool.not_eq_false, Int.not_lt, Int.not_le, Nat.not_lt, Nat.not_le, Int.ofNat_lt, Int.ofNat_le, Int.natCast_eq_zero, not_true_eq_false, not_false_eq_true, beq_iff_eq, Bool.not_true, Bool.not_false, ge_iff_le, gt_iff_lt] at hg'); ((try simp (disch := omega) only [hg, go_sem, wrap_n, true_and]) <;> (repeat' with_reducible refine And.intro ?_ ?_) <;> (try (with_reducible refine hK _ ?_; clear hK K))))))
                                                            | omega
  (refine aend_retc ?_ rfl ?_ ?_ ?_ ?_; (focus (first | exact .inl rfl | exact .inr rfl)); (focus ((try simp (disch := omega) only [go_sem, wrap_n, true_and]) <;> (try omega) <;> fail)); (focus ((try simp (disch := omega) only [go_sem, wrap_n, true_and]) <;> (try omega) <;> fail)); (focus ((try simp (disch := omega) only [go_sem, wrap_n, true_and]) <;> (try omega) <;> fail)); (try simp (disch := omega) only [go_sem, wrap_n, true_and, I, B, S, AV.d.injEq, DV.int.injEq, DV.bool.injEq, DV.str.injEq, DV.sl.injEq, AV.tup.injEq, AV.agg.injEq, List.cons.injEq, and_true, true_and, and_self]))

def normE (e : AEntry) : AEntry := if e.there = true then e else ⟨e.path, [], e.there⟩
theorem normE_path (e : AEntry) : (normE e).path = e.path := by unfold normE; split <;> rfl
def keepL (l : List AEntry) (e : AEntry) : List AEntry :=
  if e.path ∈ l.map AEntry.path then l.set (place (l.map AEntry.path) e.path) (normE e) else l.insertIdx (place (l.map AEntry.path) e.path) (normE e)
theorem normE_no {e : AEntry} (h : e.there = false) : normE e = ⟨e.path, [], e.there⟩ := by unfold normE; rw [if_neg (by simp [h])]
theorem normE_yes {e : AEntry} (h : e.there = true) : normE e = ⟨e.path, e.data, e.there⟩ := by unfold normE; rw [if_pos h]
theorem elen_ins {l : List AEntry} (i : Nat) (x : AEntry) (h : i ≤ l.length) : (l.insertIdx i x).length = l.length + 1 := by rw [ins_eq _ _ _ h]; simp; omega
theorem etake_ins (l : List AEntry) (i : Nat) (x : AEntry) (h : i ≤ l.length) : ((l.insertIdx i x).map AEntry.row).take (l.length + 1) = (l.insertIdx i x).map AEntry.row := List.take_of_length_le (by rw [List.length_map, elen_ins _ _ h]; omega)
theorem eplace_le {l : List AEntry} {key : List UInt8} : place (l.map AEntry.path) key ≤ l.length := by have := place_le (l.map AEntry.path) key; simpa using this
theorem eplace_lt {l : List AEntry} {key : List UInt8} (h : Rises (l.map AEntry.path)) (h2 : key ∈ l.map AEntry.path) : place (l.map AEntry.path) key < l.length := by
  have := (place_found h h2).1; simpa using this
theorem keep_c (c : AClient) (e : AEntry) (h : c.cache.length ≤ 100000) (hr : Rises (c.cache.map AEntry.path)) :
    acall Try.prog [] 11 [c.av, e.av] (ret (AClient.av ⟨c.session, c.seen, keepL c.cache e⟩)) := by
  have hb : c.cache.length * 40 ≤ 140737488351232 := by omega
  have hpl := eplace_le (l := c.cache) (key := e.path)
  by_cases hm : e.path ∈ c.cache.map AEntry.path
  · have hlt := eplace_lt hr hm
    unfold keepL; rw [if_pos hm]
    refine acall_of tabOk Try.func11 rfl (by kernel_rfl) (by simp [Try.ntmps11]) ?_; simp only [Try.ntmps11, Try.results11, List.toList_toArray, apar, List.length_nil, List.length_cons, Nat.reduceAdd]
    repeat' first
      | with_reducible refine AWP.seq ?_
      | with_reducible refine thenA_n ?_
      | with_reducible refine thenA_r ?_
      | with_reducible refine thenA_e ?_
      | with_reducible refine blkA_n ?_
      | with_reducible refine blkA_r ?_
      | with_reducible refine blkA_e ?_
      | with_reducible refine blkA_x (by decide) ?_
      | with_reducible refine AWP.skip ?_
      | with_reducible refine AWP.ret ?_
      | with_reducible refine AWP.exit ?_
      | with_reducible refine AWP.block ?_
      | (with_reducible refine AWP.cond rfl ?_ ?_ <;> intro hc <;> (try simp only [decide_eq_true_eq, decide_eq_false_iff_not, Bool.and_eq_true, Bool.or_eq_true, Bool.or_eq_false_iff, Bool.and_eq_false_iff, Bool.not_eq_true', Bool.not_eq_false', Bool.true_eq_false, Bool.false_eq_true, Bool.not_eq_true, Bool.not_eq_false, Int.not_lt, Int.not_le, Nat.not_lt, Nat.not_le, Int.ofNat_lt, Int.ofNat_le, Int.natCast_eq_zero, not_true_eq_false, not_false_eq_true, beq_iff_eq, Bool.not_true, Bool.not_false, ge_iff_le, gt_iff_lt] at hc))
      | ((first | with_reducible refine AWP.region tabOk ?_ | with_reducible refine AWP.quietC mixed tabOk (by decide +kernel) ?_ | with_reducible refine AWP.draw mixed tabOk (by decide +kernel) ?_ | with_reducible refine AWP.drawE mixed tabOk (by decide +kernel) ?_); intro K hK; ((try simp (disch := omega) only [go_sem, wrap_n, AEntry.rset]) <;> (repeat' with_reducible refine And.intro ?_ ?_) <;> (try (with_reducible refine hK _ ?_; clear hK K))))
      | ((first | refine acallH_sc (copied_c c hb) rfl rfl ?_ ?_ ?_ | refine acallH_sc ((cfind_c c e.path hb hr).re (by rw [decide_eq_true hm])) rfl rfl ?_ ?_ ?_); (focus ((try simp (disch := omega) only [go_sem, wrap_n, AEntry.rset]) <;> (try omega) <;> fail)); (focus ((try simp (disch := omega) only [go_sem, wrap_n, AEntry.rset]) <;> (try omega) <;> fail)); ((try simp (disch := omega) only [go_sem, wrap_n, AEntry.rset]) <;> (repeat' with_reducible refine And.intro ?_ ?_) <;> (try (with_reducible refine hK _ ?_; clear hK K))))
      | ((first | refine acallQ_sc (copied_c c hb) rfl rfl ?_ ?_ ?_ | refine acallQ_sc ((cfind_c c e.path hb hr).re (by rw [decide_eq_true hm])) rfl rfl ?_ ?_ ?_); (focus ((try simp (disch := omega) only [go_sem, wrap_n, AEntry.rset]) <;> (try omega) <;> fail)); (focus ((try simp (disch := omega) only [go_sem, wrap_n, AEntry.rset]) <;> (try omega) <;> fail)); ((try simp (disch := omega) only [go_sem, wrap_n, AEntry.rset]) <;> (repeat' with_reducible refine And.intro ?_ ?_) <;> (try (with_reducible refine hK _ ?_; clear hK K))))
      | ((first | refine acallH_anyr (copied_c c hb) rfl ?_ ?_ | refine acallH_anyr ((cfind_c c e.path hb hr).re (by rw [decide_eq_true hm])) rfl ?_ ?_); (focus ((try simp (disch := omega) only [go_sem, wrap_n, AEntry.rset]) <;> (try omega) <;> fail)); ((try simp (disch := omega) only [go_sem, wrap_n, AEntry.rset]) <;> (repeat' with_reducible refine And.intro ?_ ?_) <;> (try (with_reducible refine hK _ ?_; clear hK K))))
      | ((first | refine acallH_scx (copied_c c hb) rfl ?_ ?_ | refine acallQ_scx (copied_c c hb) rfl ?_ ?_ | refine acallH_anyx (copied_c c hb) ?_ ?_); (focus ((try simp (disch := omega) only [go_sem, wrap_n, AEntry.rset]) <;> (try omega) <;> fail)); ((try simp (disch := omega) only [go_sem, wrap_n, AEntry.rset]) <;> (repeat' with_reducible refine And.intro ?_ ?_) <;> (try (with_reducible refine hK _ ?_; clear hK K))))
      | ((first | refine acallH_scx ((cfind_c c e.path hb hr).re (by rw [decide_eq_true hm])) rfl ?_ ?_ | refine acallQ_scx ((cfind_c c e.path hb hr).re (by rw [decide_eq_true hm])) rfl ?_ ?_ | refine acallH_anyx ((cfind_c c e.path hb hr).re (by rw [decide_eq_true hm])) ?_ ?_); (focus ((try simp (disch := omega) only [go_sem, wrap_n, AEntry.rset]) <;> (try omega) <;> fail)); ((try simp (disch := omega) only [go_sem, wrap_n, AEntry.rset]) <;> (repeat' with_reducible refine And.intro ?_ ?_) <;> (try (with_reducible refine hK _ ?_; clear hK K))))
      | ((first | (with_reducible refine aunder_i ?_ ?_ <;> intro hg) | with_reducible intro hg) <;> (first | (exfalso; simp at hg; done) | (have hg' := hg; (try simp only [decide_eq_true_eq, decide_eq_false_iff_not, Bool.and_eq_true, Bool.or_eq_true, Bool.or_eq_false_iff, Bool.and_eq_false_iff, Bool.not_eq_true', Bool.not_eq_false', Bool.true_eq_false, Bool.false_eq_true, Bool.not_eq_true, Bool.not_eq_false, Int.not_lt, Int.not_le, Nat.not_lt, Nat.not_le, Int.ofNat_lt, Int.ofNat_le, Int.natCast_eq_zero, not_true_eq_false, not_false_eq_true, beq_iff_eq, Bool.not_true, Bool.not_false, ge_iff_le, gt_iff_lt] at hg'); ((try simp (disch := omega) only [hg, go_sem, wrap_n, AEntry.rset]) <;> (repeat' with_reducible refine And.intro ?_ ?_) <;> (try (with_reducible refine hK _ ?_; clear hK K))))))
                                                              | omega
    · rw [normE_no (by assumption)]
      (refine aend_retc ?_ rfl ?_ ?_ ?_ ?_; (focus (first | exact .inl rfl | exact .inr rfl)); (focus ((try simp (disch := omega) only [go_sem, wrap_n, take_map_set]) <;> (try omega) <;> fail)); (focus ((try simp (disch := omega) only [go_sem, wrap_n, take_map_set]) <;> (try omega) <;> fail)); (focus ((try simp (disch := omega) only [go_sem, wrap_n, take_map_set]) <;> (try omega) <;> fail)); (try simp (disch := omega) only [go_sem, wrap_n, take_map_set, I, B, S, AV.d.injEq, DV.int.injEq, DV.bool.injEq, DV.str.injEq, DV.sl.injEq, AV.tup.injEq, AV.agg.injEq, List.cons.injEq, and_true, true_and, and_self]))
    · rw [normE_yes (by assumption)]
      (refine aend_retc ?_ rfl ?_ ?_ ?_ ?_; (focus (first | exact .inl rfl | exact .inr rfl)); (focus ((try simp (disch := omega) only [go_sem, wrap_n, take_map_set]) <;> (try omega) <;> fail)); (focus ((try simp (disch := omega) only [go_sem, wrap_n, take_map_set]) <;> (try omega) <;> fail)); (focus ((try simp (disch := omega) only [go_sem, wrap_n, take_map_set]) <;> (try omega) <;> fail)); (try simp (disch := omega) only [go_sem, wrap_n, take_map_set, I, B, S, AV.d.injEq, DV.int.injEq, DV.bool.injEq, DV.str.injEq, DV.sl.injEq, AV.tup.injEq, AV.agg.injEq, List.cons.injEq, and_true, true_and, and_self]))
  · unfold keepL; rw [if_neg hm]
    refine acall_of tabOk Try.func11 rfl (by kernel_rfl) (by simp [Try.ntmps11]) ?_; simp only [Try.ntmps11, Try.results11, List.toList_toArray, apar, List.length_nil, List.length_cons, Nat.reduceAdd]
    repeat' first
      | with_reducible refine AWP.seq ?_
      | with_reducible refine thenA_n ?_
      | with_reducible refine thenA_r ?_
      | with_reducible refine thenA_e ?_
      | with_reducible refine blkA_n ?_
      | with_reducible refine blkA_r ?_
      | with_reducible refine blkA_e ?_
      | with_reducible refine blkA_x (by decide) ?_
      | with_reducible refine AWP.skip ?_
      | with_reducible refine AWP.ret ?_
      | with_reducible refine AWP.exit ?_
      | with_reducible refine AWP.block ?_
      | (with_reducible refine AWP.cond rfl ?_ ?_ <;> intro hc <;> (try simp only [decide_eq_true_eq, decide_eq_false_iff_not, Bool.and_eq_true, Bool.or_eq_true, Bool.or_eq_false_iff, Bool.and_eq_false_iff, Bool.not_eq_true', Bool.not_eq_false', Bool.true_eq_false, Bool.false_eq_true, Bool.not_eq_true, Bool.not_eq_false, Int.not_lt, Int.not_le, Nat.not_lt, Nat.not_le, Int.ofNat_lt, Int.ofNat_le, Int.natCast_eq_zero, not_true_eq_false, not_false_eq_true, beq_iff_eq, Bool.not_true, Bool.not_false, ge_iff_le, gt_iff_lt] at hc))
      | ((first | with_reducible refine AWP.region tabOk ?_ | with_reducible refine AWP.quietC mixed tabOk (by decide +kernel) ?_ | with_reducible refine AWP.draw mixed tabOk (by decide +kernel) ?_ | with_reducible refine AWP.drawE mixed tabOk (by decide +kernel) ?_); intro K hK; ((try simp (disch := omega) only [go_sem, wrap_n, AEntry.rset, AEntry.rins]) <;> (repeat' with_reducible refine And.intro ?_ ?_) <;> (try (with_reducible refine hK _ ?_; clear hK K))))
      | ((first | refine acallH_sc (copied_c c hb) rfl rfl ?_ ?_ ?_ | refine acallH_sc ((cfind_c c e.path hb hr).re (by rw [decide_eq_false hm])) rfl rfl ?_ ?_ ?_); (focus ((try simp (disch := omega) only [go_sem, wrap_n, AEntry.rset, AEntry.rins]) <;> (try omega) <;> fail)); (focus ((try simp (disch := omega) only [go_sem, wrap_n, AEntry.rset, AEntry.rins]) <;> (try omega) <;> fail)); ((try simp (disch := omega) only [go_sem, wrap_n, AEntry.rset, AEntry.rins]) <;> (repeat' with_reducible refine And.intro ?_ ?_) <;> (try (with_reducible refine hK _ ?_; clear hK K))))
      | ((first | refine acallQ_sc (copied_c c hb) rfl rfl ?_ ?_ ?_ | refine acallQ_sc ((cfind_c c e.path hb hr).re (by rw [decide_eq_false hm])) rfl rfl ?_ ?_ ?_); (focus ((try simp (disch := omega) only [go_sem, wrap_n, AEntry.rset, AEntry.rins]) <;> (try omega) <;> fail)); (focus ((try simp (disch := omega) only [go_sem, wrap_n, AEntry.rset, AEntry.rins]) <;> (try omega) <;> fail)); ((try simp (disch := omega) only [go_sem, wrap_n, AEntry.rset, AEntry.rins]) <;> (repeat' with_reducible refine And.intro ?_ ?_) <;> (try (with_reducible refine hK _ ?_; clear hK K))))
      | ((first | refine acallH_anyr (copied_c c hb) rfl ?_ ?_ | refine acallH_anyr ((cfind_c c e.path hb hr).re (by rw [decide_eq_false hm])) rfl ?_ ?_); (focus ((try simp (disch := omega) only [go_sem, wrap_n, AEntry.rset, AEntry.rins]) <;> (try omega) <;> fail)); ((try simp (disch := omega) only [go_sem, wrap_n, AEntry.rset, AEntry.rins]) <;> (repeat' with_reducible refine And.intro ?_ ?_) <;> (try (with_reducible refine hK _ ?_; clear hK K))))
      | ((first | refine acallH_scx (copied_c c hb) rfl ?_ ?_ | refine acallQ_scx (copied_c c hb) rfl ?_ ?_ | refine acallH_anyx (copied_c c hb) ?_ ?_); (focus ((try simp (disch := omega) only [go_sem, wrap_n, AEntry.rset, AEntry.rins]) <;> (try omega) <;> fail)); ((try simp (disch := omega) only [go_sem, wrap_n, AEntry.rset, AEntry.rins]) <;> (repeat' with_reducible refine And.intro ?_ ?_) <;> (try (with_reducible refine hK _ ?_; clear hK K))))
      | ((first | refine acallH_scx ((cfind_c c e.path hb hr).re (by rw [decide_eq_false hm])) rfl ?_ ?_ | refine acallQ_scx ((cfind_c c e.path hb hr).re (by rw [decide_eq_false hm])) rfl ?_ ?_ | refine acallH_anyx ((cfind_c c e.path hb hr).re (by rw [decide_eq_false hm])) ?_ ?_); (focus ((try simp (disch := omega) only [go_sem, wrap_n, AEntry.rset, AEntry.rins]) <;> (try omega) <;> fail)); ((try simp (disch := omega) only [go_sem, wrap_n, AEntry.rset, AEntry.rins]) <;> (repeat' with_reducible refine And.intro ?_ ?_) <;> (try (with_reducible refine hK _ ?_; clear hK K))))
      | (refine acallH_own (insEntry_c (c.cache.map AEntry.row) [.str e.path, .str [], .bool e.there] (place (c.cache.map AEntry.path) e.path) (by simpa using hpl) (by simp only [List.length_map]; omega)) ?_ ?_ ?_; (focus ((try simp (disch := omega) only [AV.osl.injEq, AV.d.injEq, DV.int.injEq, DV.sl.injEq, List.cons.injEq, AV.ptr.injEq, AV.rp.injEq, and_self, List.nodup_cons, List.not_mem_nil, List.mem_cons, not_false_eq_true, List.nodup_nil, go_sem, wrap_n, AEntry.rset, AEntry.rins]) <;> (try omega) <;> fail)); (focus ((try simp (disch := omega) only [AV.osl.injEq, AV.d.injEq, DV.int.injEq, DV.sl.injEq, List.cons.injEq, AV.ptr.injEq, AV.rp.injEq, and_self, List.nodup_cons, List.not_mem_nil, List.mem_cons, not_false_eq_true, List.nodup_nil, go_sem, wrap_n, AEntry.rset, AEntry.rins]) <;> (try omega) <;> (try decide) <;> fail)); ((try simp (disch := omega) only [go_sem, wrap_n, AEntry.rset, AEntry.rins]) <;> (repeat' with_reducible refine And.intro ?_ ?_) <;> (try (with_reducible refine hK _ ?_; clear hK K))))
      | (refine acallH_own (insEntry_c (c.cache.map AEntry.row) [.str e.path, .str e.data, .bool e.there] (place (c.cache.map AEntry.path) e.path) (by simpa using hpl) (by simp only [List.length_map]; omega)) ?_ ?_ ?_; (focus ((try simp (disch := omega) only [AV.osl.injEq, AV.d.injEq, DV.int.injEq, DV.sl.injEq, List.cons.injEq, AV.ptr.injEq, AV.rp.injEq, and_self, List.nodup_cons, List.not_mem_nil, List.mem_cons, not_false_eq_true, List.nodup_nil, go_sem, wrap_n, AEntry.rset, AEntry.rins]) <;> (try omega) <;> fail)); (focus ((try simp (disch := omega) only [AV.osl.injEq, AV.d.injEq, DV.int.injEq, DV.sl.injEq, List.cons.injEq, AV.ptr.injEq, AV.rp.injEq, and_self, List.nodup_cons, List.not_mem_nil, List.mem_cons, not_false_eq_true, List.nodup_nil, go_sem, wrap_n, AEntry.rset, AEntry.rins]) <;> (try omega) <;> (try decide) <;> fail)); ((try simp (disch := omega) only [go_sem, wrap_n, AEntry.rset, AEntry.rins]) <;> (repeat' with_reducible refine And.intro ?_ ?_) <;> (try (with_reducible refine hK _ ?_; clear hK K))))
      | ((first | (with_reducible refine aunder_i ?_ ?_ <;> intro hg) | with_reducible intro hg) <;> (first | (exfalso; simp at hg; done) | (have hg' := hg; (try simp only [decide_eq_true_eq, decide_eq_false_iff_not, Bool.and_eq_true, Bool.or_eq_true, Bool.or_eq_false_iff, Bool.and_eq_false_iff, Bool.not_eq_true', Bool.not_eq_false', Bool.true_eq_false, Bool.false_eq_true, Bool.not_eq_true, Bool.not_eq_false, Int.not_lt, Int.not_le, Nat.not_lt, Nat.not_le, Int.ofNat_lt, Int.ofNat_le, Int.natCast_eq_zero, not_true_eq_false, not_false_eq_true, beq_iff_eq, Bool.not_true, Bool.not_false, ge_iff_le, gt_iff_lt] at hg'); ((try simp (disch := omega) only [hg, go_sem, wrap_n, AEntry.rset, AEntry.rins]) <;> (repeat' with_reducible refine And.intro ?_ ?_) <;> (try (with_reducible refine hK _ ?_; clear hK K))))))
                                                              | omega
    · rw [normE_no (by assumption)]
      have := elen_ins (l := c.cache) (place (c.cache.map AEntry.path) e.path) ⟨e.path, [], e.there⟩ hpl
      (refine aend_retc ?_ rfl ?_ ?_ ?_ ?_; (focus (first | exact .inl rfl | exact .inr rfl)); (focus ((try simp (disch := omega) only [go_sem, wrap_n, etake_ins]) <;> (try omega) <;> fail)); (focus ((try simp (disch := omega) only [go_sem, wrap_n, etake_ins]) <;> (try omega) <;> fail)); (focus ((try simp (disch := omega) only [go_sem, wrap_n, etake_ins]) <;> (try omega) <;> fail)); (try simp (disch := omega) only [go_sem, wrap_n, etake_ins, I, B, S, AV.d.injEq, DV.int.injEq, DV.bool.injEq, DV.str.injEq, DV.sl.injEq, AV.tup.injEq, AV.agg.injEq, List.cons.injEq, and_true, true_and, and_self]))
    · rw [normE_yes (by assumption)]
      have := elen_ins (l := c.cache) (place (c.cache.map AEntry.path) e.path) ⟨e.path, e.data, e.there⟩ hpl
      (refine aend_retc ?_ rfl ?_ ?_ ?_ ?_; (focus (first | exact .inl rfl | exact .inr rfl)); (focus ((try simp (disch := omega) only [go_sem, wrap_n, etake_ins]) <;> (try omega) <;> fail)); (focus ((try simp (disch := omega) only [go_sem, wrap_n, etake_ins]) <;> (try omega) <;> fail)); (focus ((try simp (disch := omega) only [go_sem, wrap_n, etake_ins]) <;> (try omega) <;> fail)); (try simp (disch := omega) only [go_sem, wrap_n, etake_ins, I, B, S, AV.d.injEq, DV.int.injEq, DV.bool.injEq, DV.str.injEq, DV.sl.injEq, AV.tup.injEq, AV.agg.injEq, List.cons.injEq, and_true, true_and, and_self]))

def lookL (l : List AEntry) (key : List UInt8) : AEntry × Bool := if key ∈ l.map AEntry.path then (l.getD (place (l.map AEntry.path) key) default, true) else (default, false)
theorem look_c (c : AClient) (key : List UInt8) (h : c.cache.length * 40 ≤ 140737488351232) (hr : Rises (c.cache.map AEntry.path)) :
    acall Try.prog [] 13 [c.av, S key] (ret (.tup [(lookL c.cache key).1.av, B (lookL c.cache key).2])) := by
  by_cases hm : key ∈ c.cache.map AEntry.path
  · have hlt := eplace_lt hr hm
    unfold lookL; rw [if_pos hm]
    refine acall_of tabOk Try.func13 rfl (by kernel_rfl) (by simp [Try.ntmps13]) ?_; simp only [Try.ntmps13, Try.results13, List.toList_toArray, apar, List.length_nil, List.length_cons, Nat.reduceAdd]
    repeat' first
      | with_reducible refine AWP.seq ?_
      | with_reducible refine thenA_n ?_
      | with_reducible refine thenA_r ?_
      | with_reducible refine thenA_e ?_
      | with_reducible refine blkA_n ?_
      | with_reducible refine blkA_r ?_
      | with_reducible refine blkA_e ?_
      | with_reducible refine blkA_x (by decide) ?_
      | with_reducible refine AWP.skip ?_
      | with_reducible refine AWP.ret ?_
      | with_reducible refine AWP.exit ?_
      | with_reducible refine AWP.block ?_
      | (with_reducible refine AWP.cond rfl ?_ ?_ <;> intro hc <;> (try simp only [decide_eq_true_eq, decide_eq_false_iff_not, Bool.and_eq_true, Bool.or_eq_true, Bool.or_eq_false_iff, Bool.and_eq_false_iff, Bool.not_eq_true', Bool.not_eq_false', Bool.true_eq_false, Bool.false_eq_true, Bool.not_eq_true, Bool.not_eq_false, Int.not_lt, Int.not_le, Nat.not_lt, Nat.not_le, Int.ofNat_lt, Int.ofNat_le, Int.natCast_eq_zero, not_true_eq_false, not_false_eq_true, beq_iff_eq, Bool.not_true, Bool.not_false, ge_iff_le, gt_iff_lt] at hc))
      | ((first | with_reducible refine AWP.region tabOk ?_ | with_reducible refine AWP.quietC mixed tabOk (by decide +kernel) ?_ | with_reducible refine AWP.draw mixed tabOk (by decide +kernel) ?_ | with_reducible refine AWP.drawE mixed tabOk (by decide +kernel) ?_); intro K hK; ((try simp (disch := omega) only [go_sem, wrap_n, true_and]) <;> (repeat' with_reducible refine And.intro ?_ ?_) <;> (try (with_reducible refine hK _ ?_; clear hK K))))
      | ((first | refine acallH_sc ((cfind_c c key h hr).re (by rw [decide_eq_true hm])) rfl rfl ?_ ?_ ?_); (focus ((try simp (disch := omega) only [go_sem, wrap_n, true_and]) <;> (try omega) <;> fail)); (focus ((try simp (disch := omega) only [go_sem, wrap_n, true_and]) <;> (try omega) <;> fail)); ((try simp (disch := omega) only [go_sem, wrap_n, true_and]) <;> (repeat' with_reducible refine And.intro ?_ ?_) <;> (try (with_reducible refine hK _ ?_; clear hK K))))
      | ((first | refine acallQ_sc ((cfind_c c key h hr).re (by rw [decide_eq_true hm])) rfl rfl ?_ ?_ ?_); (focus ((try simp (disch := omega) only [go_sem, wrap_n, true_and]) <;> (try omega) <;> fail)); (focus ((try simp (disch := omega) only [go_sem, wrap_n, true_and]) <;> (try omega) <;> fail)); ((try simp (disch := omega) only [go_sem, wrap_n, true_and]) <;> (repeat' with_reducible refine And.intro ?_ ?_) <;> (try (with_reducible refine hK _ ?_; clear hK K))))
      | ((first | refine acallH_anyr ((cfind_c c key h hr).re (by rw [decide_eq_true hm])) rfl ?_ ?_); (focus ((try simp (disch := omega) only [go_sem, wrap_n, true_and]) <;> (try omega) <;> fail)); ((try simp (disch := omega) only [go_sem, wrap_n, true_and]) <;> (repeat' with_reducible refine And.intro ?_ ?_) <;> (try (with_reducible refine hK _ ?_; clear hK K))))
      | ((first | refine acallH_scx ((cfind_c c key h hr).re (by rw [decide_eq_true hm])) rfl ?_ ?_ | refine acallQ_scx ((cfind_c c key h hr).re (by rw [decide_eq_true hm])) rfl ?_ ?_ | refine acallH_anyx ((cfind_c c key h hr).re (by rw [decide_eq_true hm])) ?_ ?_); (focus ((try simp (disch := omega) only [go_sem, wrap_n, true_and]) <;> (try omega) <;> fail)); ((try simp (disch := omega) only [go_sem, wrap_n, true_and]) <;> (repeat' with_reducible refine And.intro ?_ ?_) <;> (try (with_reducible refine hK _ ?_; clear hK K))))
      | ((first | (with_reducible refine aunder_i ?_ ?_ <;> intro hg) | with_reducible intro hg) <;> (first | (exfalso; simp at hg; done) | (have hg' := hg; (try simp only [decide_eq_true_eq, decide_eq_false_iff_not, Bool.and_eq_true, Bool.or_eq_true, Bool.or_eq_false_iff, Bool.and_eq_false_iff, Bool.not_eq_true', Bool.not_eq_false', Bool.true_eq_false, Bool.false_eq_true, Bool.not_eq_true, Bool.not_eq_false, Int.not_lt, Int.not_le, Nat.not_lt, Nat.not_le, Int.ofNat_lt, Int.ofNat_le, Int.natCast_eq_zero, not_true_eq_false, not_false_eq_true, beq_iff_eq, Bool.not_true, Bool.not_false, ge_iff_le, gt_iff_lt] at hg'); ((try simp (disch := omega) only [hg, go_sem, wrap_n, true_and]) <;> (repeat' with_reducible refine And.intro ?_ ?_) <;> (try (with_reducible refine hK _ ?_; clear hK K))))))
                                                              | omega
    (refine aend_retc ?_ rfl ?_ ?_ ?_ ?_; (focus (first | exact .inl rfl | exact .inr rfl)); (focus ((try simp (disch := omega) only [go_sem, wrap_n, true_and]) <;> (try omega) <;> fail)); (focus ((try simp (disch := omega) only [go_sem, wrap_n, true_and]) <;> (try omega) <;> fail)); (focus ((try simp (disch := omega) only [go_sem, wrap_n, true_and]) <;> (try omega) <;> fail)); (try simp (disch := omega) only [go_sem, wrap_n, true_and, I, B, S, AV.d.injEq, DV.int.injEq, DV.bool.injEq, DV.str.injEq, DV.sl.injEq, AV.tup.injEq, AV.agg.injEq, List.cons.injEq, and_true, true_and, and_self]))
  · unfold lookL; rw [if_neg hm]
    refine acall_of tabOk Try.func13 rfl (by kernel_rfl) (by simp [Try.ntmps13]) ?_; simp only [Try.ntmps13, Try.results13, List.toList_toArray, apar, List.length_nil, List.length_cons, Nat.reduceAdd]
    repeat' first
      | with_reducible refine AWP.seq ?_
      | with_reducible refine thenA_n ?_
      | with_reducible refine thenA_r ?_
      | with_reducible refine thenA_e ?_
      | with_reducible refine blkA_n ?_
      | with_reducible refine blkA_r ?_
      | with_reducible refine blkA_e ?_
      | with_reducible refine blkA_x (by decide) ?_
      | with_reducible refine AWP.skip ?_
      | with_reducible refine AWP.ret ?_
      | with_reducible refine AWP.exit ?_
      | with_reducible refine AWP.block ?_
      | (with_reducible refine AWP.cond rfl ?_ ?_ <;> intro hc <;> (try simp only [decide_eq_true_eq, decide_eq_false_iff_not, Bool.and_eq_true, Bool.or_eq_true, Bool.or_eq_false_iff, Bool.and_eq_false_iff, Bool.not_eq_true', Bool.not_eq_false', Bool.true_eq_false, Bool.false_eq_true, Bool.not_eq_true, Bool.not_eq_false, Int.not_lt, Int.not_le, Nat.not_lt, Nat.not_le, Int.ofNat_lt, Int.ofNat_le, Int.natCast_eq_zero, not_true_eq_false, not_false_eq_true, beq_iff_eq, Bool.not_true, Bool.not_false, ge_iff_le, gt_iff_lt] at hc))
      | ((first | with_reducible refine AWP.region tabOk ?_ | with_reducible refine AWP.quietC mixed tabOk (by decide +kernel) ?_ | with_reducible refine AWP.draw mixed tabOk (by decide +kernel) ?_ | with_reducible refine AWP.drawE mixed tabOk (by decide +kernel) ?_); intro K hK; ((try simp (disch := omega) only [go_sem, wrap_n, true_and]) <;> (repeat' with_reducible refine And.intro ?_ ?_) <;> (try (with_reducible refine hK _ ?_; clear hK K))))
      | ((first | refine acallH_sc ((cfind_c c key h hr).re (by rw [decide_eq_false hm])) rfl rfl ?_ ?_ ?_); (focus ((try simp (disch := omega) only [go_sem, wrap_n, true_and]) <;> (try omega) <;> fail)); (focus ((try simp (disch := omega) only [go_sem, wrap_n, true_and]) <;> (try omega) <;> fail)); ((try simp (disch := omega) only [go_sem, wrap_n, true_and]) <;> (repeat' with_reducible refine And.intro ?_ ?_) <;> (try (with_reducible refine hK _ ?_; clear hK K))))
      | ((first | refine acallQ_sc ((cfind_c c key h hr).re (by rw [decide_eq_false hm])) rfl rfl ?_ ?_ ?_); (focus ((try simp (disch := omega) only [go_sem, wrap_n, true_and]) <;> (try omega) <;> fail)); (focus ((try simp (disch := omega) only [go_sem, wrap_n, true_and]) <;> (try omega) <;> fail)); ((try simp (disch := omega) only [go_sem, wrap_n, true_and]) <;> (repeat' with_reducible refine And.intro ?_ ?_) <;> (try (with_reducible refine hK _ ?_; clear hK K))))
      | ((first | refine acallH_anyr ((cfind_c c key h hr).re (by rw [decide_eq_false hm])) rfl ?_ ?_); (focus ((try simp (disch := omega) only [go_sem, wrap_n, true_and]) <;> (try omega) <;> fail)); ((try simp (disch := omega) only [go_sem, wrap_n, true_and]) <;> (repeat' with_reducible refine And.intro ?_ ?_) <;> (try (with_reducible refine hK _ ?_; clear hK K))))
      | ((first | refine acallH_scx ((cfind_c c key h hr).re (by rw [decide_eq_false hm])) rfl ?_ ?_ | refine acallQ_scx ((cfind_c c key h hr).re (by rw [decide_eq_false hm])) rfl ?_ ?_ | refine acallH_anyx ((cfind_c c key h hr).re (by rw [decide_eq_false hm])) ?_ ?_); (focus ((try simp (disch := omega) only [go_sem, wrap_n, true_and]) <;> (try omega) <;> fail)); ((try simp (disch := omega) only [go_sem, wrap_n, true_and]) <;> (repeat' with_reducible refine And.intro ?_ ?_) <;> (try (with_reducible refine hK _ ?_; clear hK K))))
      | ((first | (with_reducible refine aunder_i ?_ ?_ <;> intro hg) | with_reducible intro hg) <;> (first | (exfalso; simp at hg; done) | (have hg' := hg; (try simp only [decide_eq_true_eq, decide_eq_false_iff_not, Bool.and_eq_true, Bool.or_eq_true, Bool.or_eq_false_iff, Bool.and_eq_false_iff, Bool.not_eq_true', Bool.not_eq_false', Bool.true_eq_false, Bool.false_eq_true, Bool.not_eq_true, Bool.not_eq_false, Int.not_lt, Int.not_le, Nat.not_lt, Nat.not_le, Int.ofNat_lt, Int.ofNat_le, Int.natCast_eq_zero, not_true_eq_false, not_false_eq_true, beq_iff_eq, Bool.not_true, Bool.not_false, ge_iff_le, gt_iff_lt] at hg'); ((try simp (disch := omega) only [hg, go_sem, wrap_n, true_and]) <;> (repeat' with_reducible refine And.intro ?_ ?_) <;> (try (with_reducible refine hK _ ?_; clear hK K))))))
                                                              | omega
    (refine aend_retc ?_ rfl ?_ ?_ ?_ ?_; (focus (first | exact .inl rfl | exact .inr rfl)); (focus ((try simp (disch := omega) only [go_sem, wrap_n, default]) <;> (try omega) <;> fail)); (focus ((try simp (disch := omega) only [go_sem, wrap_n, default]) <;> (try omega) <;> fail)); (focus ((try simp (disch := omega) only [go_sem, wrap_n, default]) <;> (try omega) <;> fail)); (try simp (disch := omega) only [go_sem, wrap_n, default, I, B, S, AV.d.injEq, DV.int.injEq, DV.bool.injEq, DV.str.injEq, DV.sl.injEq, AV.tup.injEq, AV.agg.injEq, List.cons.injEq, and_true, true_and, and_self]))
def witho (l : List AEntry) (key : List UInt8) : List AEntry := l.filter fun f => decide (f.path ≠ key)
theorem witho_snoc (l : List AEntry) (key : List UInt8) (k : Nat) (h : k < l.length) : witho (l.take (k + 1)) key = if (l.getD k default).path ≠ key then witho (l.take k) key ++ [l.getD k default] else witho (l.take k) key := by
  unfold witho
  rw [take_snoc l k h, List.filter_append]
  by_cases e : (l.getD k default).path ≠ key
  · rw [if_pos e, List.filter_cons_of_pos (by simpa using e)]; rfl
  · rw [if_neg e, List.filter_cons_of_neg (by simpa using e), List.filter_nil, List.append_nil]
theorem witho_none {l : List AEntry} {key : List UInt8} (h : ¬ key ∈ l.map AEntry.path) : witho l key = l := by
  unfold witho
  rw [List.filter_eq_self]
  intro f hf
  rw [decide_eq_true_eq]; intro e; exact h (List.mem_map.2 ⟨f, hf, e⟩)
theorem epath_getD (l : List AEntry) (k : Nat) : (l.map AEntry.path).getD k [] = (l.getD k default).path := getD_map AEntry.path l k default
theorem witho_erase {l : List AEntry} {key : List UInt8} (hr : Rises (l.map AEntry.path)) (h : key ∈ l.map AEntry.path) : witho l key = l.eraseIdx (place (l.map AEntry.path) key) := by
  have hp := place_found hr h
  generalize place (l.map AEntry.path) key = p at *
  have hpl : p < l.length := by simpa using hp.1
  have hne : ∀ j, j < l.length → j ≠ p → (l.getD j default).path ≠ key := fun j hj hjp e => by
    have e1 : (l.map AEntry.path).getD j [] = key := by rw [epath_getD]; exact e
    rcases Nat.lt_or_gt_of_ne hjp with h1 | h1
    · have := rises_lt hr h1 (by simpa using hpl); rw [e1, hp.2] at this; exact List.lt_irrefl _ this
    · have := rises_lt hr h1 (by simpa using hj); rw [e1, hp.2] at this; exact List.lt_irrefl _ this
  have hpk : (l.getD p default).path = key := by have := hp.2; rwa [epath_getD] at this
  have hs : l = l.take p ++ l.getD p default :: l.drop (p + 1) := by
    rw [List.getD_eq_getElem?_getD, List.getElem?_eq_getElem hpl]
    simp
  have h1 : (l.take p).filter (fun f => decide (f.path ≠ key)) = l.take p := by
    rw [List.filter_eq_self]
    intro f hf
    obtain ⟨j, hj, rfl⟩ := List.mem_take_iff_getElem.1 hf
    have := hne j (by omega) (by omega)
    rw [List.getD_eq_getElem?_getD, List.getElem?_eq_getElem (by omega)] at this
    simpa using this
  have h2 : (l.drop (p + 1)).filter (fun f => decide (f.path ≠ key)) = l.drop (p + 1) := by
    rw [List.filter_eq_self]
    intro f hf
    obtain ⟨j, hj, rfl⟩ := List.mem_drop_iff_getElem.1 hf
    have := hne (p + 1 + j) (by omega) (by omega)
    rw [List.getD_eq_getElem?_getD, List.getElem?_eq_getElem (by omega)] at this
    simpa using this
  rw [erase_eq]
  unfold witho
  conv => lhs; rw [hs]
  rw [List.filter_append, List.filter_cons_of_neg (by simp only [hpk]; simp), h1, h2]
theorem witho_nil (key : List UInt8) : witho [] key = [] := rfl
theorem without_c (l : List AEntry) (key : List UInt8) (h : l.length * 40 ≤ 140737488351232) : acall Try.prog [] 29 [.d (.sl 3 (l.map AEntry.row)), S key] (ret (.d (.sl 3 ((witho l key).map AEntry.row)))) := by
  refine acall_of tabOk Try.func29 rfl (by kernel_rfl) (by simp [Try.ntmps29]) ?_; simp only [Try.ntmps29, Try.results29, List.toList_toArray, apar, List.length_nil, List.length_cons, Nat.reduceAdd]
  repeat' first
    | with_reducible refine AWP.seq ?_
    | with_reducible refine thenA_n ?_
    | with_reducible refine thenA_r ?_
    | with_reducible refine thenA_e ?_
    | with_reducible refine blkA_n ?_
    | with_reducible refine blkA_r ?_
    | with_reducible refine blkA_e ?_
    | with_reducible refine blkA_x (by decide) ?_
    | with_reducible refine AWP.skip ?_
    | with_reducible refine AWP.ret ?_
    | with_reducible refine AWP.exit ?_
    | with_reducible refine AWP.block ?_
    | (with_reducible refine AWP.cond rfl ?_ ?_ <;> intro hc <;> (try simp only [decide_eq_true_eq, decide_eq_false_iff_not, Bool.and_eq_true, Bool.or_eq_true, Bool.or_eq_false_iff, Bool.and_eq_false_iff, Bool.not_eq_true', Bool.not_eq_false', Bool.true_eq_false, Bool.false_eq_true, Bool.not_eq_true, Bool.not_eq_false, Int.not_lt, Int.not_le, Nat.not_lt, Nat.not_le, Int.ofNat_lt, Int.ofNat_le, Int.natCast_eq_zero, not_true_eq_false, not_false_eq_true, beq_iff_eq, Bool.not_true, Bool.not_false, ge_iff_le, gt_iff_lt] at hc))
    | ((first | with_reducible refine AWP.region tabOk ?_ | with_reducible refine AWP.quietC mixed tabOk (by decide +kernel) ?_ | with_reducible refine AWP.draw mixed tabOk (by decide +kernel) ?_ | with_reducible refine AWP.drawE mixed tabOk (by decide +kernel) ?_); intro K hK; ((try simp (disch := omega) only [go_sem, wrap_n, true_and]) <;> (repeat' with_reducible refine And.intro ?_ ?_) <;> (try (with_reducible refine hK _ ?_; clear hK K))))
    | ((first | (with_reducible refine aunder_i ?_ ?_ <;> intro hg) | with_reducible intro hg) <;> (first | (exfalso; simp at hg; done) | (have hg' := hg; (try simp only [decide_eq_true_eq, decide_eq_false_iff_not, Bool.and_eq_true, Bool.or_eq_true, Bool.or_eq_false_iff, Bool.and_eq_false_iff, Bool.not_eq_true', Bool.not_eq_false', Bool.true_eq_false, Bool.false_eq_true, Bool.not_eq_true, Bool.not_eq_false, Int.not_lt, Int.not_le, Nat.not_lt, Nat.not_le, Int.ofNat_lt, Int.ofNat_le, Int.natCast_eq_zero, not_true_eq_false, not_false_eq_true, beq_iff_eq, Bool.not_true, Bool.not_false, ge_iff_le, gt_iff_lt] at hg'); ((try simp (disch := omega) only [hg, go_sem, wrap_n, true_and]) <;> (repeat' with_reducible refine And.intro ?_ ?_) <;> (try (with_reducible refine hK _ ?_; clear hK K))))))
                                                            | omega
  refine AWP.weaken (SImp.nilOwn 5 3 rfl) ?_
  simp only [go_sem]
  refine AWP.loopB (ι := Nat) (fun k => k ≤ l.length) (fun k => l.length - k) [1, 8, 9] (fun k => [(10, I k), (5, .osl 0 3 0 (witho (l.take k) key).length)]) (fun k => [.rows 3 ((witho (l.take k) key).map AEntry.row)]) 0 ?_ ?_ ?_
  · omega
  · simp only [go_sem, witho_nil]; (refine SImp.same ?_; simp (disch := omega) only [go_sem, wrap_n, Int.natCast_add, true_and])
  intro k hk
  have hol : (witho (l.take k) key).length ≤ k := Nat.le_trans (List.length_filter_le _ _) (List.length_take_le _ _)
  simp only [go_sem]
  repeat' first
    | with_reducible refine AWP.seq ?_
    | with_reducible refine thenA_n ?_
    | with_reducible refine thenA_r ?_
    | with_reducible refine thenA_e ?_
    | with_reducible refine blkA_n ?_
    | with_reducible refine blkA_r ?_
    | with_reducible refine blkA_e ?_
    | with_reducible refine blkA_x (by decide) ?_
    | with_reducible refine AWP.skip ?_
    | with_reducible refine AWP.ret ?_
    | with_reducible refine AWP.exit ?_
    | with_reducible refine AWP.block ?_
    | (with_reducible refine AWP.cond rfl ?_ ?_ <;> intro hc <;> (try simp only [decide_eq_true_eq, decide_eq_false_iff_not, Bool.and_eq_true, Bool.or_eq_true, Bool.or_eq_false_iff, Bool.and_eq_false_iff, Bool.not_eq_true', Bool.not_eq_false', Bool.true_eq_false, Bool.false_eq_true, Bool.not_eq_true, Bool.not_eq_false, Int.not_lt, Int.not_le, Nat.not_lt, Nat.not_le, Int.ofNat_lt, Int.ofNat_le, Int.natCast_eq_zero, not_true_eq_false, not_false_eq_true, beq_iff_eq, Bool.not_true, Bool.not_false, ge_iff_le, gt_iff_lt] at hc))
    | ((first | with_reducible refine AWP.region tabOk ?_ | with_reducible refine AWP.quietC mixed tabOk (by decide +kernel) ?_ | with_reducible refine AWP.draw mixed tabOk (by decide +kernel) ?_ | with_reducible refine AWP.drawE mixed tabOk (by decide +kernel) ?_); intro K hK; ((try simp (disch := omega) only [go_sem, wrap_n, AEntry.rgetD, take_map_len, AEntry.rsnoc]) <;> (repeat' with_reducible refine And.intro ?_ ?_) <;> (try (with_reducible refine hK _ ?_; clear hK K))))
    | ((first | (with_reducible refine aunder_i ?_ ?_ <;> intro hg) | with_reducible intro hg) <;> (first | (exfalso; simp at hg; done) | (have hg' := hg; (try simp only [decide_eq_true_eq, decide_eq_false_iff_not, Bool.and_eq_true, Bool.or_eq_true, Bool.or_eq_false_iff, Bool.and_eq_false_iff, Bool.not_eq_true', Bool.not_eq_false', Bool.true_eq_false, Bool.false_eq_true, Bool.not_eq_true, Bool.not_eq_false, Int.not_lt, Int.not_le, Nat.not_lt, Nat.not_le, Int.ofNat_lt, Int.ofNat_le, Int.natCast_eq_zero, not_true_eq_false, not_false_eq_true, beq_iff_eq, Bool.not_true, Bool.not_false, ge_iff_le, gt_iff_lt] at hg'); ((try simp (disch := omega) only [hg, go_sem, wrap_n, AEntry.rgetD, take_map_len, AEntry.rsnoc]) <;> (repeat' with_reducible refine And.intro ?_ ?_) <;> (try (with_reducible refine hK _ ?_; clear hK K))))))
                                                            | omega
  · refine ⟨k + 1, by omega, by omega, ?_⟩
    rw [witho_snoc _ _ _ (by assumption), if_pos hc]
    (refine SImp.frame [3] rfl (by intro k hk; simp at hk <;> (simp; omega)) (by decide) (fun k hk => by omega) ?_ ?_ <;> simp (disch := omega) only [go_sem, wrap_n, Int.natCast_add, List.length_append] <;> (try rfl))
  · refine ⟨k + 1, by omega, by omega, ?_⟩
    rw [witho_snoc _ _ _ (by assumption), if_neg (by simpa using hc)]
    (refine SImp.frame [0] rfl (by intro k hk; simp at hk <;> (simp; omega)) (by decide) (fun k hk => by omega) ?_ ?_ <;> simp (disch := omega) only [go_sem, wrap_n, Int.natCast_add, true_and] <;> (try rfl))
  · have e : k = l.length := by omega
    subst e
    simp only [List.take_length]
    (refine aend_retc ?_ rfl ?_ ?_ ?_ ?_; (focus (first | exact .inl rfl | exact .inr rfl)); (focus ((try simp (disch := omega) only [go_sem, wrap_n, true_and]) <;> (try omega) <;> fail)); (focus ((try simp (disch := omega) only [go_sem, wrap_n, true_and]) <;> (try omega) <;> fail)); (focus ((try simp (disch := omega) only [go_sem, wrap_n, true_and]) <;> (try omega) <;> fail)); (try simp (disch := omega) only [go_sem, wrap_n, true_and, I, B, S, AV.d.injEq, DV.int.injEq, DV.bool.injEq, DV.str.injEq, DV.sl.injEq, AV.tup.injEq, AV.agg.injEq, List.cons.injEq, and_true, true_and, and_self]))
theorem ref_look_c (c : AClient) (key : List UInt8) (h : c.cache.length * 40 ≤ 140737488351232) (hr : Rises (c.cache.map AEntry.path)) :
    acall Try.prog [] 15 [c.av, S key] (ret (.tup [(lookL c.cache key).1.av, B (lookL c.cache key).2])) := by
  refine acall_of tabOk Try.func15 rfl (by kernel_rfl) (by simp [Try.ntmps15]) ?_; simp only [Try.ntmps15, Try.results15, List.toList_toArray, apar, List.length_nil, List.length_cons, Nat.reduceAdd]
  repeat' first
    | with_reducible refine AWP.seq ?_
    | with_reducible refine thenA_n ?_
    | with_reducible refine thenA_r ?_
    | with_reducible refine thenA_e ?_
    | with_reducible refine blkA_n ?_
    | with_reducible refine blkA_r ?_
    | with_reducible refine blkA_e ?_
    | with_reducible refine blkA_x (by decide) ?_
    | with_reducible refine AWP.skip ?_
    | with_reducible refine AWP.ret ?_
    | with_reducible refine AWP.exit ?_
    | with_reducible refine AWP.block ?_
    | (with_reducible refine AWP.cond rfl ?_ ?_ <;> intro hc <;> (try simp only [decide_eq_true_eq, decide_eq_false_iff_not, Bool.and_eq_true, Bool.or_eq_true, Bool.or_eq_false_iff, Bool.and_eq_false_iff, Bool.not_eq_true', Bool.not_eq_false', Bool.true_eq_false, Bool.false_eq_true, Bool.not_eq_true, Bool.not_eq_false, Int.not_lt, Int.not_le, Nat.not_lt, Nat.not_le, Int.ofNat_lt, Int.ofNat_le, Int.natCast_eq_zero, not_true_eq_false, not_false_eq_true, beq_iff_eq, Bool.not_true, Bool.not_false, ge_iff_le, gt_iff_lt] at hc))
    | ((first | with_reducible refine AWP.region tabOk ?_ | with_reducible refine AWP.quietC mixed tabOk (by decide +kernel) ?_ | with_reducible refine AWP.draw mixed tabOk (by decide +kernel) ?_ | with_reducible refine AWP.drawE mixed tabOk (by decide +kernel) ?_); intro K hK; ((try simp (disch := omega) only [go_sem, wrap_n, true_and]) <;> (repeat' with_reducible refine And.intro ?_ ?_) <;> (try (with_reducible refine hK _ ?_; clear hK K))))
    | ((first | (with_reducible refine aunder_i ?_ ?_ <;> intro hg) | with_reducible intro hg) <;> (first | (exfalso; simp at hg; done) | (have hg' := hg; (try simp only [decide_eq_true_eq, decide_eq_false_iff_not, Bool.and_eq_true, Bool.or_eq_true, Bool.or_eq_false_iff, Bool.and_eq_false_iff, Bool.not_eq_true', Bool.not_eq_false', Bool.true_eq_false, Bool.false_eq_true, Bool.not_eq_true, Bool.not_eq_false, Int.not_lt, Int.not_le, Nat.not_lt, Nat.not_le, Int.ofNat_lt, Int.ofNat_le, Int.natCast_eq_zero, not_true_eq_false, not_false_eq_true, beq_iff_eq, Bool.not_true, Bool.not_false, ge_iff_le, gt_iff_lt] at hg'); ((try simp (disch := omega) only [hg, go_sem, wrap_n, true_and]) <;> (repeat' with_reducible refine And.intro ?_ ?_) <;> (try (with_reducible refine hK _ ?_; clear hK K))))))
                                                            | omega
  refine AWP.loopB (ι := Nat) (fun k => k ≤ c.cache.length ∧ ∀ j, j < k → (c.cache.getD j default).path ≠ key) (fun k => c.cache.length - k) [1, 4, 9, 10] (fun k => [(11, I k)]) (fun k => [.cells [I c.session, I c.seen, .d (.sl 3 (c.cache.map AEntry.row))], .cells [.d (.str []), .d (.str []), .d (.bool false)]]) 0 ?_ ?_ ?_
  · exact ⟨by omega, by omega⟩
  · simp only [go_sem]; (refine SImp.same ?_; simp (disch := omega) only [go_sem, wrap_n, Int.natCast_add, true_and])
  intro k ⟨hk, hk2⟩
  simp only [go_sem]
  repeat' first
    | with_reducible refine AWP.seq ?_
    | with_reducible refine thenA_n ?_
    | with_reducible refine thenA_r ?_
    | with_reducible refine thenA_e ?_
    | with_reducible refine blkA_n ?_
    | with_reducible refine blkA_r ?_
    | with_reducible refine blkA_e ?_
    | with_reducible refine blkA_x (by decide) ?_
    | with_reducible refine AWP.skip ?_
    | with_reducible refine AWP.ret ?_
    | with_reducible refine AWP.exit ?_
    | with_reducible refine AWP.block ?_
    | (with_reducible refine AWP.cond rfl ?_ ?_ <;> intro hc <;> (try simp only [decide_eq_true_eq, decide_eq_false_iff_not, Bool.and_eq_true, Bool.or_eq_true, Bool.or_eq_false_iff, Bool.and_eq_false_iff, Bool.not_eq_true', Bool.not_eq_false', Bool.true_eq_false, Bool.false_eq_true, Bool.not_eq_true, Bool.not_eq_false, Int.not_lt, Int.not_le, Nat.not_lt, Nat.not_le, Int.ofNat_lt, Int.ofNat_le, Int.natCast_eq_zero, not_true_eq_false, not_false_eq_true, beq_iff_eq, Bool.not_true, Bool.not_false, ge_iff_le, gt_iff_lt] at hc))
    | ((first | with_reducible refine AWP.region tabOk ?_ | with_reducible refine AWP.quietC mixed tabOk (by decide +kernel) ?_ | with_reducible refine AWP.draw mixed tabOk (by decide +kernel) ?_ | with_reducible refine AWP.drawE mixed tabOk (by decide +kernel) ?_); intro K hK; ((try simp (disch := omega) only [go_sem, wrap_n, AEntry.rgetD]) <;> (repeat' with_reducible refine And.intro ?_ ?_) <;> (try (with_reducible refine hK _ ?_; clear hK K))))
    | ((first | (with_reducible refine aunder_i ?_ ?_ <;> intro hg) | with_reducible intro hg) <;> (first | (exfalso; simp at hg; done) | (have hg' := hg; (try simp only [decide_eq_true_eq, decide_eq_false_iff_not, Bool.and_eq_true, Bool.or_eq_true, Bool.or_eq_false_iff, Bool.and_eq_false_iff, Bool.not_eq_true', Bool.not_eq_false', Bool.true_eq_false, Bool.false_eq_true, Bool.not_eq_true, Bool.not_eq_false, Int.not_lt, Int.not_le, Nat.not_lt, Nat.not_le, Int.ofNat_lt, Int.ofNat_le, Int.natCast_eq_zero, not_true_eq_false, not_false_eq_true, beq_iff_eq, Bool.not_true, Bool.not_false, ge_iff_le, gt_iff_lt] at hg'); ((try simp (disch := omega) only [hg, go_sem, wrap_n, AEntry.rgetD]) <;> (repeat' with_reducible refine And.intro ?_ ?_) <;> (try (with_reducible refine hK _ ?_; clear hK K))))))
                                                            | omega
  · have hl : k < (c.cache.map AEntry.path).length := by simpa using (by assumption : k < c.cache.length)
    have ep := place_at hr hl
    rw [epath_getD, hc] at ep
    have e : lookL c.cache key = (c.cache.getD k default, true) := by
      unfold lookL; rw [if_pos ((mem_iff_getD _ [] key).2 ⟨k, hl, by rw [epath_getD]; exact hc⟩), ep]
    rw [e]
    (refine aend_retc ?_ rfl ?_ ?_ ?_ ?_; (focus (first | exact .inl rfl | exact .inr rfl)); (focus ((try simp (disch := omega) only [go_sem, wrap_n, true_and]) <;> (try omega) <;> fail)); (focus ((try simp (disch := omega) only [go_sem, wrap_n, true_and]) <;> (try omega) <;> fail)); (focus ((try simp (disch := omega) only [go_sem, wrap_n, true_and]) <;> (try omega) <;> fail)); (try simp (disch := omega) only [go_sem, wrap_n, true_and, I, B, S, AV.d.injEq, DV.int.injEq, DV.bool.injEq, DV.str.injEq, DV.sl.injEq, AV.tup.injEq, AV.agg.injEq, List.cons.injEq, and_true, true_and, and_self]))
  · refine ⟨k + 1, ⟨by omega, fun j hj => ?_⟩, by omega, ?_⟩
    · by_cases e : j = k
      · subst e; exact hc
      · exact hk2 j (by omega)
    (refine SImp.frame [0, 1] rfl (by intro k hk; simp at hk <;> (simp; omega)) (by decide) (fun k hk => by omega) ?_ ?_ <;> simp (disch := omega) only [go_sem, wrap_n, Int.natCast_add, true_and] <;> (try rfl))
  · have e : lookL c.cache key = (default, false) := by
      unfold lookL; rw [if_neg]
      rw [mem_iff_getD _ [] key]
      rintro ⟨j, hj, e⟩
      rw [epath_getD] at e
      exact hk2 j (by simp at hj; omega) e
    rw [e]
    (refine aend_retc ?_ rfl ?_ ?_ ?_ ?_; (focus (first | exact .inl rfl | exact .inr rfl)); (focus ((try simp (disch := omega) only [go_sem, wrap_n, default]) <;> (try omega) <;> fail)); (focus ((try simp (disch := omega) only [go_sem, wrap_n, default]) <;> (try omega) <;> fail)); (focus ((try simp (disch := omega) only [go_sem, wrap_n, default]) <;> (try omega) <;> fail)); (try simp (disch := omega) only [go_sem, wrap_n, default, I, B, S, AV.d.injEq, DV.int.injEq, DV.bool.injEq, DV.str.injEq, DV.sl.injEq, AV.tup.injEq, AV.agg.injEq, List.cons.injEq, and_true, true_and, and_self]))

/-- A list that rises, with a key that it has not: where an entry goes. -/
def insK (m : List AEntry) (q i : Nat) (x : AEntry) : List AEntry := if q < i then (m.take i).insertIdx q x else m.take i
theorem insK_len (m : List AEntry) (q i : Nat) (x : AEntry) (hi : i ≤ m.length) : (insK m q i x).length ≤ i + 1 := by
  unfold insK; split
  · rw [elen_ins _ _ (by simp; omega)]; simp; omega
  · simp; omega
theorem insK_zero (m : List AEntry) (q : Nat) (x : AEntry) : insK m q 0 x = [] := by unfold insK; rw [if_neg (by omega)]; rfl
theorem insK_before (m : List AEntry) (q i : Nat) (x : AEntry) (h : i < q) (hi : i < m.length) : insK m q i x ++ [m.getD i default] = insK m q (i + 1) x := by
  unfold insK; rw [if_neg (by omega), if_neg (by omega), take_snoc _ _ hi]
theorem insK_at (m : List AEntry) (i : Nat) (x : AEntry) (hi : i < m.length) : (insK m i i x ++ [x]) ++ [m.getD i default] = insK m i (i + 1) x := by
  unfold insK; rw [if_neg (by omega), if_pos (by omega), ins_eq _ _ _ (by simp; omega), take_snoc _ _ hi]
  have e : (m.take i).length = i := by simp; omega
  rw [List.take_append_of_le_length (by omega), List.drop_append_of_le_length (by omega)]
  simp [List.take_of_length_le (Nat.le_of_eq e)]
theorem insK_behind (m : List AEntry) (q i : Nat) (x : AEntry) (h : q < i) (hi : i < m.length) : insK m q i x ++ [m.getD i default] = insK m q (i + 1) x := by
  unfold insK; rw [if_pos h, if_pos (by omega), take_snoc _ _ hi, ins_eq _ _ _ (by simp; omega), ins_eq _ _ _ (by simp; omega)]
  have e : (m.take i).length = i := by simp; omega
  rw [List.take_append_of_le_length (by omega), List.drop_append_of_le_length (by omega)]
  simp
theorem insK_end (m : List AEntry) (q : Nat) (x : AEntry) (h : q < m.length) : insK m q m.length x = m.insertIdx q x := by unfold insK; rw [if_pos h, List.take_length]
theorem insK_last (m : List AEntry) (x : AEntry) : insK m m.length m.length x ++ [x] = m.insertIdx m.length x := by
  unfold insK; rw [if_neg (by omega), List.take_length, ins_eq _ _ _ (Nat.le_refl _), List.take_length, List.drop_length]
theorem rises_filter {l : List AEntry} {key : List UInt8} (hr : Rises (l.map AEntry.path)) : Rises ((witho l key).map AEntry.path) := by
  have hp : ∀ l : List AEntry, Rises (l.map AEntry.path) ↔ List.Pairwise (· < ·) (l.map AEntry.path) := fun l => by
    constructor
    · intro h
      rw [List.pairwise_iff_getElem]
      intro i j hi hj hij
      have := rises_lt h hij hj
      rwa [List.getD_eq_getElem?_getD, List.getD_eq_getElem?_getD, List.getElem?_eq_getElem hi, List.getElem?_eq_getElem hj] at this
    · intro h k hk
      rw [List.pairwise_iff_getElem] at h
      have := h k (k + 1) (by omega) hk (by omega)
      rw [List.getD_eq_getElem?_getD, List.getD_eq_getElem?_getD, List.getElem?_eq_getElem (by omega), List.getElem?_eq_getElem hk]; exact this
  rw [hp] at *
  rw [List.pairwise_map] at *
  exact hr.filter _
theorem witho_not (l : List AEntry) (key : List UInt8) : ¬ key ∈ (witho l key).map AEntry.path := by
  intro h
  obtain ⟨f, hf, e⟩ := List.mem_map.1 h
  have := (List.mem_filter.1 hf).2
  simp [e] at this
theorem place_before {l : List AEntry} {key : List UInt8} {j : Nat} (hj : j < place (l.map AEntry.path) key) : (l.getD j default).path < key := by
  have := List.not_of_lt_findIdx (p := fun x => !decide (x < key)) (xs := l.map AEntry.path) hj
  have hl : j < (l.map AEntry.path).length := Nat.lt_of_lt_of_le hj (place_le _ _)
  rw [Bool.not_eq_false', decide_eq_true_eq] at this
  rw [← epath_getD, List.getD_eq_getElem?_getD, List.getElem?_eq_getElem hl]
  exact this
theorem place_behind {l : List AEntry} {key : List UInt8} {j : Nat} (hr : Rises (l.map AEntry.path)) (hn : ¬ key ∈ l.map AEntry.path) (hj : place (l.map AEntry.path) key ≤ j) (hl : j < l.length) : key < (l.getD j default).path := by
  have hl' : place (l.map AEntry.path) key < (l.map AEntry.path).length := by simp; omega
  have h0 : ¬ (l.map AEntry.path).getD (place (l.map AEntry.path) key) [] < key := by
    have := List.findIdx_getElem (p := fun x => !decide (x < key)) (xs := l.map AEntry.path) (w := hl')
    rw [Bool.not_eq_true', decide_eq_false_iff_not] at this
    rw [List.getD_eq_getElem?_getD, List.getElem?_eq_getElem hl']
    exact this
  have h1 : ¬ (l.map AEntry.path).getD j [] < key := by
    by_cases e : place (l.map AEntry.path) key = j
    · rwa [e] at h0
    · intro h2; exact h0 (List.lt_trans (rises_lt hr (Nat.lt_of_le_of_ne hj e) (by simpa using hl)) h2)
  rw [epath_getD] at h1
  refine lt_of_not h1 fun e => hn ((mem_iff_getD _ [] key).2 ⟨j, by simpa using hl, by rw [epath_getD]; exact e⟩)
theorem place_erase {l : List AEntry} {key : List UInt8} (hr : Rises (l.map AEntry.path)) (h : key ∈ l.map AEntry.path) : place ((l.eraseIdx (place (l.map AEntry.path) key)).map AEntry.path) key = place (l.map AEntry.path) key := by
  have hlt := eplace_lt hr h
  have hf := (place_found hr h).2
  rw [epath_getD] at hf
  refine place_eq ?_ (fun j hj => ?_) fun hl => ?_
  · rw [List.length_map, List.length_eraseIdx_of_lt hlt]; omega
  · rw [epath_getD, List.getD_eq_getElem?_getD, List.getElem?_eraseIdx_of_lt hj, ← List.getD_eq_getElem?_getD]; exact place_before hj
  · rw [List.length_map, List.length_eraseIdx_of_lt hlt] at hl
    rw [epath_getD, List.getD_eq_getElem?_getD, List.getElem?_eraseIdx_of_ge (Nat.le_refl _), ← List.getD_eq_getElem?_getD]
    have := rises_lt hr (i := place (l.map AEntry.path) key) (j := place (l.map AEntry.path) key + 1) (by omega) (by simp; omega)
    rw [epath_getD, epath_getD, hf] at this
    exact fun h2 => List.lt_irrefl _ (List.lt_trans this h2)
theorem keepL_eq {l : List AEntry} {e : AEntry} (hr : Rises (l.map AEntry.path)) : keepL l e = (witho l e.path).insertIdx (place ((witho l e.path).map AEntry.path) e.path) (normE e) := by
  unfold keepL
  split
  · rename_i hm
    have hlt := eplace_lt hr hm
    rw [witho_erase hr hm, place_erase hr hm]
    generalize place (l.map AEntry.path) e.path = p at *
    rw [ins_eq _ _ _ (by rw [List.length_eraseIdx_of_lt hlt]; omega), erase_eq, List.set_eq_take_append_cons_drop, if_pos hlt]
    have e1 : (l.take p).length = p := by simp; omega
    rw [List.take_append_of_le_length (by omega), List.drop_append_of_le_length (by omega)]
    simp [List.take_of_length_le (Nat.le_of_eq e1)]
  · rename_i hm
    rw [witho_none hm]
theorem dec_lt0 (n : Nat) : decide (n < 0) = false := by simp
theorem dec_succ (n : Nat) : decide (n < n + 1) = true := by simp
theorem witho_len (l : List AEntry) (key : List UInt8) : (witho l key).length ≤ l.length := List.length_filter_le _ _
theorem ref_keep_c (c : AClient) (e : AEntry) (h : c.cache.length ≤ 100000) (hr : Rises (c.cache.map AEntry.path)) :
    acall Try.prog [] 12 [c.av, e.av] (ret (AClient.av ⟨c.session, c.seen, keepL c.cache e⟩)) := by
  have hb : c.cache.length * 40 ≤ 140737488351232 := by omega
  have hrm := rises_filter (key := e.path) hr
  have hnm := witho_not c.cache e.path
  rw [keepL_eq hr]
  obtain ⟨q, dt, th⟩ := e
  simp only at hrm hnm ⊢
  cases th
  · have hn : normE ⟨q, dt, false⟩ = ⟨q, [], false⟩ := rfl
    rw [hn]
    refine acall_of tabOk Try.func12 rfl (by kernel_rfl) (by simp [Try.ntmps12]) ?_; simp only [Try.ntmps12, Try.results12, List.toList_toArray, apar, List.length_nil, List.length_cons, Nat.reduceAdd]
    repeat' first
      | with_reducible refine AWP.seq ?_
      | with_reducible refine thenA_n ?_
      | with_reducible refine thenA_r ?_
      | with_reducible refine thenA_e ?_
      | with_reducible refine blkA_n ?_
      | with_reducible refine blkA_r ?_
      | with_reducible refine blkA_e ?_
      | with_reducible refine blkA_x (by decide) ?_
      | with_reducible refine AWP.skip ?_
      | with_reducible refine AWP.ret ?_
      | with_reducible refine AWP.exit ?_
      | with_reducible refine AWP.block ?_
      | (with_reducible refine AWP.cond rfl ?_ ?_ <;> intro hc <;> (try simp only [decide_eq_true_eq, decide_eq_false_iff_not, Bool.and_eq_true, Bool.or_eq_true, Bool.or_eq_false_iff, Bool.and_eq_false_iff, Bool.not_eq_true', Bool.not_eq_false', Bool.true_eq_false, Bool.false_eq_true, Bool.not_eq_true, Bool.not_eq_false, Int.not_lt, Int.not_le, Nat.not_lt, Nat.not_le, Int.ofNat_lt, Int.ofNat_le, Int.natCast_eq_zero, not_true_eq_false, not_false_eq_true, beq_iff_eq, Bool.not_true, Bool.not_false, ge_iff_le, gt_iff_lt] at hc))
      | ((first | with_reducible refine AWP.region tabOk ?_ | with_reducible refine AWP.quietC mixed tabOk (by decide +kernel) ?_ | with_reducible refine AWP.draw mixed tabOk (by decide +kernel) ?_ | with_reducible refine AWP.drawE mixed tabOk (by decide +kernel) ?_); intro K hK; ((try simp (disch := omega) only [go_sem, wrap_n, true_and]) <;> (repeat' with_reducible refine And.intro ?_ ?_) <;> (try (with_reducible refine hK _ ?_; clear hK K))))
      | ((first | refine acallH_sc (without_c _ q hb) rfl rfl ?_ ?_ ?_); (focus ((try simp (disch := omega) only [go_sem, wrap_n, true_and]) <;> (try omega) <;> fail)); (focus ((try simp (disch := omega) only [go_sem, wrap_n, true_and]) <;> (try omega) <;> fail)); ((try simp (disch := omega) only [go_sem, wrap_n, true_and]) <;> (repeat' with_reducible refine And.intro ?_ ?_) <;> (try (with_reducible refine hK _ ?_; clear hK K))))
      | ((first | refine acallQ_sc (without_c _ q hb) rfl rfl ?_ ?_ ?_); (focus ((try simp (disch := omega) only [go_sem, wrap_n, true_and]) <;> (try omega) <;> fail)); (focus ((try simp (disch := omega) only [go_sem, wrap_n, true_and]) <;> (try omega) <;> fail)); ((try simp (disch := omega) only [go_sem, wrap_n, true_and]) <;> (repeat' with_reducible refine And.intro ?_ ?_) <;> (try (with_reducible refine hK _ ?_; clear hK K))))
      | ((first | refine acallH_anyr (without_c _ q hb) rfl ?_ ?_); (focus ((try simp (disch := omega) only [go_sem, wrap_n, true_and]) <;> (try omega) <;> fail)); ((try simp (disch := omega) only [go_sem, wrap_n, true_and]) <;> (repeat' with_reducible refine And.intro ?_ ?_) <;> (try (with_reducible refine hK _ ?_; clear hK K))))
      | ((first | refine acallH_scx (without_c _ q hb) rfl ?_ ?_ | refine acallQ_scx (without_c _ q hb) rfl ?_ ?_ | refine acallH_anyx (without_c _ q hb) ?_ ?_); (focus ((try simp (disch := omega) only [go_sem, wrap_n, true_and]) <;> (try omega) <;> fail)); ((try simp (disch := omega) only [go_sem, wrap_n, true_and]) <;> (repeat' with_reducible refine And.intro ?_ ?_) <;> (try (with_reducible refine hK _ ?_; clear hK K))))
      | ((first | (with_reducible refine aunder_i ?_ ?_ <;> intro hg) | with_reducible intro hg) <;> (first | (exfalso; simp at hg; done) | (have hg' := hg; (try simp only [decide_eq_true_eq, decide_eq_false_iff_not, Bool.and_eq_true, Bool.or_eq_true, Bool.or_eq_false_iff, Bool.and_eq_false_iff, Bool.not_eq_true', Bool.not_eq_false', Bool.true_eq_false, Bool.false_eq_true, Bool.not_eq_true, Bool.not_eq_false, Int.not_lt, Int.not_le, Nat.not_lt, Nat.not_le, Int.ofNat_lt, Int.ofNat_le, Int.natCast_eq_zero, not_true_eq_false, not_false_eq_true, beq_iff_eq, Bool.not_true, Bool.not_false, ge_iff_le, gt_iff_lt] at hg'); ((try simp (disch := omega) only [hg, go_sem, wrap_n, true_and]) <;> (repeat' with_reducible refine And.intro ?_ ?_) <;> (try (with_reducible refine hK _ ?_; clear hK K))))))
                                                              | omega
    generalize hm : witho c.cache q = m at *
    have hml : m.length ≤ 100000 := by rw [← hm]; exact Nat.le_trans (witho_len _ _) h
    have hP1 := fun j => @place_before m q j
    have hP2 := fun j => @place_behind m q j hrm hnm
    have hPl := eplace_le (l := m) (key := q)
    generalize place (m.map AEntry.path) q = P at *
    refine AWP.weaken (SImp.nilOwn 5 3 rfl) ?_
    simp only [go_sem]
    refine AWP.loopB (ι := Nat) (fun i => i ≤ m.length) (fun i => m.length - i) [2, 3, 4, 17, 18] (fun i => [(19, I i), (6, B (decide (P < i))), (5, .osl 3 3 0 (insK m P i ⟨q, [], false⟩).length)]) (fun i => [.cells [I c.session, I c.seen, .d (.sl 3 (c.cache.map AEntry.row))], .cells [.d (.str q), .d (.str []), .d (.bool false)], .cells [I 0, I 0, .d (.sc (.slice none 0 0))], .rows 3 ((insK m P i ⟨q, [], false⟩).map AEntry.row)]) 0 ?_ ?_ ?_
    · omega
    · simp only [go_sem, insK_zero, dec_lt0]; (refine SImp.same ?_; simp (disch := omega) only [go_sem, wrap_n, Int.natCast_add, true_and])
    intro i hi
    have hil := insK_len m P i ⟨q, [], false⟩ hi
    simp only [go_sem]
    repeat' first
      | with_reducible refine AWP.seq ?_
      | with_reducible refine thenA_n ?_
      | with_reducible refine thenA_r ?_
      | with_reducible refine thenA_e ?_
      | with_reducible refine blkA_n ?_
      | with_reducible refine blkA_r ?_
      | with_reducible refine blkA_e ?_
      | with_reducible refine blkA_x (by decide) ?_
      | with_reducible refine AWP.skip ?_
      | with_reducible refine AWP.ret ?_
      | with_reducible refine AWP.exit ?_
      | with_reducible refine AWP.block ?_
      | (with_reducible refine AWP.cond rfl ?_ ?_ <;> intro hc <;> (try simp only [decide_eq_true_eq, decide_eq_false_iff_not, Bool.and_eq_true, Bool.or_eq_true, Bool.or_eq_false_iff, Bool.and_eq_false_iff, Bool.not_eq_true', Bool.not_eq_false', Bool.true_eq_false, Bool.false_eq_true, Bool.not_eq_true, Bool.not_eq_false, Int.not_lt, Int.not_le, Nat.not_lt, Nat.not_le, Int.ofNat_lt, Int.ofNat_le, Int.natCast_eq_zero, not_true_eq_false, not_false_eq_true, beq_iff_eq, Bool.not_true, Bool.not_false, ge_iff_le, gt_iff_lt] at hc))
      | ((first | with_reducible refine AWP.region tabOk ?_ | with_reducible refine AWP.quietC mixed tabOk (by decide +kernel) ?_ | with_reducible refine AWP.draw mixed tabOk (by decide +kernel) ?_ | with_reducible refine AWP.drawE mixed tabOk (by decide +kernel) ?_); intro K hK; ((try simp (disch := omega) only [go_sem, wrap_n, AEntry.rgetD, take_map_len, take_map_snoc, AEntry.rsnoc, strLt_eq]) <;> (repeat' with_reducible refine And.intro ?_ ?_) <;> (try (with_reducible refine hK _ ?_; clear hK K))))
      | ((first | (with_reducible refine aunder_i ?_ ?_ <;> intro hg) | with_reducible intro hg) <;> (first | (exfalso; simp at hg; done) | (have hg' := hg; (try simp only [decide_eq_true_eq, decide_eq_false_iff_not, Bool.and_eq_true, Bool.or_eq_true, Bool.or_eq_false_iff, Bool.and_eq_false_iff, Bool.not_eq_true', Bool.not_eq_false', Bool.true_eq_false, Bool.false_eq_true, Bool.not_eq_true, Bool.not_eq_false, Int.not_lt, Int.not_le, Nat.not_lt, Nat.not_le, Int.ofNat_lt, Int.ofNat_le, Int.natCast_eq_zero, not_true_eq_false, not_false_eq_true, beq_iff_eq, Bool.not_true, Bool.not_false, ge_iff_le, gt_iff_lt] at hg'); ((try simp (disch := omega) only [hg, go_sem, wrap_n, AEntry.rgetD, take_map_len, take_map_snoc, AEntry.rsnoc, strLt_eq]) <;> (repeat' with_reducible refine And.intro ?_ ?_) <;> (try (with_reducible refine hK _ ?_; clear hK K))))))
                                                              | omega
    · have hPi : P = i := Classical.byContradiction fun h1 => hc.2.1 (hP1 i (by omega))
      subst hPi
      refine ⟨P + 1, by omega, by omega, ?_⟩
      rw [← insK_at _ _ _ (by assumption)]
      (refine SImp.frame [0, 1, 2, 8] rfl (by intro k hk; simp at hk <;> (simp; omega)) (by decide) (fun k hk => by omega) ?_ ?_ <;> simp (disch := omega) only [go_sem, wrap_n, Int.natCast_add, List.length_append, dec_succ] <;> (try rfl))
    · refine ⟨i + 1, by omega, by omega, ?_⟩
      by_cases hPi : P < i
      · have e0 : decide (P < i) = true := decide_eq_true hPi
        have e1 : decide (P < i + 1) = true := decide_eq_true (by omega)
        rw [← insK_behind _ _ _ _ hPi (by assumption)]
        (refine SImp.frame [0, 1, 2, 6] rfl (by intro k hk; simp at hk <;> (simp; omega)) (by decide) (fun k hk => by omega) ?_ ?_ <;> simp (disch := omega) only [go_sem, wrap_n, Int.natCast_add, List.length_append, e1, e0] <;> (try rfl))
      · have hlt : i < P := Classical.byContradiction fun h1 => by
          have h2 := hP2 i (by omega) (by assumption)
          rcases hc with c | c | c
          · exact hPi c
          · exact List.lt_irrefl _ (List.lt_trans c h2)
          · rw [c] at h2; exact List.lt_irrefl _ h2
        have e1 : decide (P < i + 1) = decide (P < i) := by rw [decide_eq_false (by omega), decide_eq_false (by omega)]
        rw [← insK_before _ _ _ _ hlt (by assumption)]
        (refine SImp.frame [0, 1, 2, 6] rfl (by intro k hk; simp at hk <;> (simp; omega)) (by decide) (fun k hk => by omega) ?_ ?_ <;> simp (disch := omega) only [go_sem, wrap_n, Int.natCast_add, List.length_append, e1] <;> (try rfl))
    · have e1 : i = m.length := by omega
      have e2 : P = m.length := by omega
      subst e1; subst e2
      rw [← insK_last]
      (refine aend_retc ?_ rfl ?_ ?_ ?_ ?_; (focus (first | exact .inl rfl | exact .inr rfl)); (focus ((try simp (disch := omega) only [go_sem, wrap_n, List.length_append, take_map_snoc]) <;> (try omega) <;> fail)); (focus ((try simp (disch := omega) only [go_sem, wrap_n, List.length_append, take_map_snoc]) <;> (try omega) <;> fail)); (focus ((try simp (disch := omega) only [go_sem, wrap_n, List.length_append, take_map_snoc]) <;> (try omega) <;> fail)); (try simp (disch := omega) only [go_sem, wrap_n, List.length_append, take_map_snoc, I, B, S, AV.d.injEq, DV.int.injEq, DV.bool.injEq, DV.str.injEq, DV.sl.injEq, AV.tup.injEq, AV.agg.injEq, List.cons.injEq, and_true, true_and, and_self]))
    · have e1 : i = m.length := by omega
      subst e1
      rw [← insK_end _ _ _ hc]
      (refine aend_retc ?_ rfl ?_ ?_ ?_ ?_; (focus (first | exact .inl rfl | exact .inr rfl)); (focus ((try simp (disch := omega) only [go_sem, wrap_n, true_and]) <;> (try omega) <;> fail)); (focus ((try simp (disch := omega) only [go_sem, wrap_n, true_and]) <;> (try omega) <;> fail)); (focus ((try simp (disch := omega) only [go_sem, wrap_n, true_and]) <;> (try omega) <;> fail)); (try simp (disch := omega) only [go_sem, wrap_n, true_and, I, B, S, AV.d.injEq, DV.int.injEq, DV.bool.injEq, DV.str.injEq, DV.sl.injEq, AV.tup.injEq, AV.agg.injEq, List.cons.injEq, and_true, true_and, and_self]))
  · have hn : normE ⟨q, dt, true⟩ = ⟨q, dt, true⟩ := rfl
    rw [hn]
    refine acall_of tabOk Try.func12 rfl (by kernel_rfl) (by simp [Try.ntmps12]) ?_; simp only [Try.ntmps12, Try.results12, List.toList_toArray, apar, List.length_nil, List.length_cons, Nat.reduceAdd]
    repeat' first
      | with_reducible refine AWP.seq ?_
      | with_reducible refine thenA_n ?_
      | with_reducible refine thenA_r ?_
      | with_reducible refine thenA_e ?_
      | with_reducible refine blkA_n ?_
      | with_reducible refine blkA_r ?_
      | with_reducible refine blkA_e ?_
      | with_reducible refine blkA_x (by decide) ?_
      | with_reducible refine AWP.skip ?_
      | with_reducible refine AWP.ret ?_
      | with_reducible refine AWP.exit ?_
      | with_reducible refine AWP.block ?_
      | (with_reducible refine AWP.cond rfl ?_ ?_ <;> intro hc <;> (try simp only [decide_eq_true_eq, decide_eq_false_iff_not, Bool.and_eq_true, Bool.or_eq_true, Bool.or_eq_false_iff, Bool.and_eq_false_iff, Bool.not_eq_true', Bool.not_eq_false', Bool.true_eq_false, Bool.false_eq_true, Bool.not_eq_true, Bool.not_eq_false, Int.not_lt, Int.not_le, Nat.not_lt, Nat.not_le, Int.ofNat_lt, Int.ofNat_le, Int.natCast_eq_zero, not_true_eq_false, not_false_eq_true, beq_iff_eq, Bool.not_true, Bool.not_false, ge_iff_le, gt_iff_lt] at hc))
      | ((first | with_reducible refine AWP.region tabOk ?_ | with_reducible refine AWP.quietC mixed tabOk (by decide +kernel) ?_ | with_reducible refine AWP.draw mixed tabOk (by decide +kernel) ?_ | with_reducible refine AWP.drawE mixed tabOk (by decide +kernel) ?_); intro K hK; ((try simp (disch := omega) only [go_sem, wrap_n, true_and]) <;> (repeat' with_reducible refine And.intro ?_ ?_) <;> (try (with_reducible refine hK _ ?_; clear hK K))))
      | ((first | refine acallH_sc (without_c _ q hb) rfl rfl ?_ ?_ ?_); (focus ((try simp (disch := omega) only [go_sem, wrap_n, true_and]) <;> (try omega) <;> fail)); (focus ((try simp (disch := omega) only [go_sem, wrap_n, true_and]) <;> (try omega) <;> fail)); ((try simp (disch := omega) only [go_sem, wrap_n, true_and]) <;> (repeat' with_reducible refine And.intro ?_ ?_) <;> (try (with_reducible refine hK _ ?_; clear hK K))))
      | ((first | refine acallQ_sc (without_c _ q hb) rfl rfl ?_ ?_ ?_); (focus ((try simp (disch := omega) only [go_sem, wrap_n, true_and]) <;> (try omega) <;> fail)); (focus ((try simp (disch := omega) only [go_sem, wrap_n, true_and]) <;> (try omega) <;> fail)); ((try simp (disch := omega) only [go_sem, wrap_n, true_and]) <;> (repeat' with_reducible refine And.intro ?_ ?_) <;> (try (with_reducible refine hK _ ?_; clear hK K))))
      | ((first | refine acallH_anyr (without_c _ q hb) rfl ?_ ?_); (focus ((try simp (disch := omega) only [go_sem, wrap_n, true_and]) <;> (try omega) <;> fail)); ((try simp (disch := omega) only [go_sem, wrap_n, true_and]) <;> (repeat' with_reducible refine And.intro ?_ ?_) <;> (try (with_reducible refine hK _ ?_; clear hK K))))
      | ((first | refine acallH_scx (without_c _ q hb) rfl ?_ ?_ | refine acallQ_scx (without_c _ q hb) rfl ?_ ?_ | refine acallH_anyx (without_c _ q hb) ?_ ?_); (focus ((try simp (disch := omega) only [go_sem, wrap_n, true_and]) <;> (try omega) <;> fail)); ((try simp (disch := omega) only [go_sem, wrap_n, true_and]) <;> (repeat' with_reducible refine And.intro ?_ ?_) <;> (try (with_reducible refine hK _ ?_; clear hK K))))
      | ((first | (with_reducible refine aunder_i ?_ ?_ <;> intro hg) | with_reducible intro hg) <;> (first | (exfalso; simp at hg; done) | (have hg' := hg; (try simp only [decide_eq_true_eq, decide_eq_false_iff_not, Bool.and_eq_true, Bool.or_eq_true, Bool.or_eq_false_iff, Bool.and_eq_false_iff, Bool.not_eq_true', Bool.not_eq_false', Bool.true_eq_false, Bool.false_eq_true, Bool.not_eq_true, Bool.not_eq_false, Int.not_lt, Int.not_le, Nat.not_lt, Nat.not_le, Int.ofNat_lt, Int.ofNat_le, Int.natCast_eq_zero, not_true_eq_false, not_false_eq_true, beq_iff_eq, Bool.not_true, Bool.not_false, ge_iff_le, gt_iff_lt] at hg'); ((try simp (disch := omega) only [hg, go_sem, wrap_n, true_and]) <;> (repeat' with_reducible refine And.intro ?_ ?_) <;> (try (with_reducible refine hK _ ?_; clear hK K))))))
                                                              | omega
    generalize hm : witho c.cache q = m at *
    have hml : m.length ≤ 100000 := by rw [← hm]; exact Nat.le_trans (witho_len _ _) h
    have hP1 := fun j => @place_before m q j
    have hP2 := fun j => @place_behind m q j hrm hnm
    have hPl := eplace_le (l := m) (key := q)
    generalize place (m.map AEntry.path) q = P at *
    refine AWP.weaken (SImp.nilOwn 5 3 rfl) ?_
    simp only [go_sem]
    refine AWP.loopB (ι := Nat) (fun i => i ≤ m.length) (fun i => m.length - i) [2, 3, 4, 17, 18] (fun i => [(19, I i), (6, B (decide (P < i))), (5, .osl 3 3 0 (insK m P i ⟨q, dt, true⟩).length)]) (fun i => [.cells [I c.session, I c.seen, .d (.sl 3 (c.cache.map AEntry.row))], .cells [.d (.str q), .d (.str dt), .d (.bool true)], .cells [I 0, I 0, .d (.sc (.slice none 0 0))], .rows 3 ((insK m P i ⟨q, dt, true⟩).map AEntry.row)]) 0 ?_ ?_ ?_
    · omega
    · simp only [go_sem, insK_zero, dec_lt0]; (refine SImp.same ?_; simp (disch := omega) only [go_sem, wrap_n, Int.natCast_add, true_and])
    intro i hi
    have hil := insK_len m P i ⟨q, dt, true⟩ hi
    simp only [go_sem]
    repeat' first
      | with_reducible refine AWP.seq ?_
      | with_reducible refine thenA_n ?_
      | with_reducible refine thenA_r ?_
      | with_reducible refine thenA_e ?_
      | with_reducible refine blkA_n ?_
      | with_reducible refine blkA_r ?_
      | with_reducible refine blkA_e ?_
      | with_reducible refine blkA_x (by decide) ?_
      | with_reducible refine AWP.skip ?_
      | with_reducible refine AWP.ret ?_
      | with_reducible refine AWP.exit ?_
      | with_reducible refine AWP.block ?_
      | (with_reducible refine AWP.cond rfl ?_ ?_ <;> intro hc <;> (try simp only [decide_eq_true_eq, decide_eq_false_iff_not, Bool.and_eq_true, Bool.or_eq_true, Bool.or_eq_false_iff, Bool.and_eq_false_iff, Bool.not_eq_true', Bool.not_eq_false', Bool.true_eq_false, Bool.false_eq_true, Bool.not_eq_true, Bool.not_eq_false, Int.not_lt, Int.not_le, Nat.not_lt, Nat.not_le, Int.ofNat_lt, Int.ofNat_le, Int.natCast_eq_zero, not_true_eq_false, not_false_eq_true, beq_iff_eq, Bool.not_true, Bool.not_false, ge_iff_le, gt_iff_lt] at hc))
      | ((first | with_reducible refine AWP.region tabOk ?_ | with_reducible refine AWP.quietC mixed tabOk (by decide +kernel) ?_ | with_reducible refine AWP.draw mixed tabOk (by decide +kernel) ?_ | with_reducible refine AWP.drawE mixed tabOk (by decide +kernel) ?_); intro K hK; ((try simp (disch := omega) only [go_sem, wrap_n, AEntry.rgetD, take_map_len, take_map_snoc, AEntry.rsnoc, strLt_eq]) <;> (repeat' with_reducible refine And.intro ?_ ?_) <;> (try (with_reducible refine hK _ ?_; clear hK K))))
      | ((first | (with_reducible refine aunder_i ?_ ?_ <;> intro hg) | with_reducible intro hg) <;> (first | (exfalso; simp at hg; done) | (have hg' := hg; (try simp only [decide_eq_true_eq, decide_eq_false_iff_not, Bool.and_eq_true, Bool.or_eq_true, Bool.or_eq_false_iff, Bool.and_eq_false_iff, Bool.not_eq_true', Bool.not_eq_false', Bool.true_eq_false, Bool.false_eq_true, Bool.not_eq_true, Bool.not_eq_false, Int.not_lt, Int.not_le, Nat.not_lt, Nat.not_le, Int.ofNat_lt, Int.ofNat_le, Int.natCast_eq_zero, not_true_eq_false, not_false_eq_true, beq_iff_eq, Bool.not_true, Bool.not_false, ge_iff_le, gt_iff_lt] at hg'); ((try simp (disch := omega) only [hg, go_sem, wrap_n, AEntry.rgetD, take_map_len, take_map_snoc, AEntry.rsnoc, strLt_eq]) <;> (repeat' with_reducible refine And.intro ?_ ?_) <;> (try (with_reducible refine hK _ ?_; clear hK K))))))
                                                              | omega
    · have hPi : P = i := Classical.byContradiction fun h1 => hc.2.1 (hP1 i (by omega))
      subst hPi
      refine ⟨P + 1, by omega, by omega, ?_⟩
      rw [← insK_at _ _ _ (by assumption)]
      (refine SImp.frame [0, 1, 2, 8] rfl (by intro k hk; simp at hk <;> (simp; omega)) (by decide) (fun k hk => by omega) ?_ ?_ <;> simp (disch := omega) only [go_sem, wrap_n, Int.natCast_add, List.length_append, dec_succ] <;> (try rfl))
    · refine ⟨i + 1, by omega, by omega, ?_⟩
      by_cases hPi : P < i
      · have e0 : decide (P < i) = true := decide_eq_true hPi
        have e1 : decide (P < i + 1) = true := decide_eq_true (by omega)
        rw [← insK_behind _ _ _ _ hPi (by assumption)]
        (refine SImp.frame [0, 1, 2, 6] rfl (by intro k hk; simp at hk <;> (simp; omega)) (by decide) (fun k hk => by omega) ?_ ?_ <;> simp (disch := omega) only [go_sem, wrap_n, Int.natCast_add, List.length_append, e1, e0] <;> (try rfl))
      · have hlt : i < P := Classical.byContradiction fun h1 => by
          have h2 := hP2 i (by omega) (by assumption)
          rcases hc with c | c | c
          · exact hPi c
          · exact List.lt_irrefl _ (List.lt_trans c h2)
          · rw [c] at h2; exact List.lt_irrefl _ h2
        have e1 : decide (P < i + 1) = decide (P < i) := by rw [decide_eq_false (by omega), decide_eq_false (by omega)]
        rw [← insK_before _ _ _ _ hlt (by assumption)]
        (refine SImp.frame [0, 1, 2, 6] rfl (by intro k hk; simp at hk <;> (simp; omega)) (by decide) (fun k hk => by omega) ?_ ?_ <;> simp (disch := omega) only [go_sem, wrap_n, Int.natCast_add, List.length_append, e1] <;> (try rfl))
    · have e1 : i = m.length := by omega
      have e2 : P = m.length := by omega
      subst e1; subst e2
      rw [← insK_last]
      (refine aend_retc ?_ rfl ?_ ?_ ?_ ?_; (focus (first | exact .inl rfl | exact .inr rfl)); (focus ((try simp (disch := omega) only [go_sem, wrap_n, List.length_append, take_map_snoc]) <;> (try omega) <;> fail)); (focus ((try simp (disch := omega) only [go_sem, wrap_n, List.length_append, take_map_snoc]) <;> (try omega) <;> fail)); (focus ((try simp (disch := omega) only [go_sem, wrap_n, List.length_append, take_map_snoc]) <;> (try omega) <;> fail)); (try simp (disch := omega) only [go_sem, wrap_n, List.length_append, take_map_snoc, I, B, S, AV.d.injEq, DV.int.injEq, DV.bool.injEq, DV.str.injEq, DV.sl.injEq, AV.tup.injEq, AV.agg.injEq, List.cons.injEq, and_true, true_and, and_self]))
    · have e1 : i = m.length := by omega
      subst e1
      rw [← insK_end _ _ _ hc]
      (refine aend_retc ?_ rfl ?_ ?_ ?_ ?_; (focus (first | exact .inl rfl | exact .inr rfl)); (focus ((try simp (disch := omega) only [go_sem, wrap_n, true_and]) <;> (try omega) <;> fail)); (focus ((try simp (disch := omega) only [go_sem, wrap_n, true_and]) <;> (try omega) <;> fail)); (focus ((try simp (disch := omega) only [go_sem, wrap_n, true_and]) <;> (try omega) <;> fail)); (try simp (disch := omega) only [go_sem, wrap_n, true_and, I, B, S, AV.d.injEq, DV.int.injEq, DV.bool.injEq, DV.str.injEq, DV.sl.injEq, AV.tup.injEq, AV.agg.injEq, List.cons.injEq, and_true, true_and, and_self]))

def tellL (s : Int) (l : List AEntry) (n : ANote) : List AEntry := if n.session = s ∧ n.event.kind ≠ 4 then witho l n.event.path else l
def tellS (s : Int) (l : List AEntry) (ns : List ANote) : List AEntry := ns.foldl (tellL s) l
theorem tellL_ok {s : Int} {l : List AEntry} (n : ANote) (hr : Rises (l.map AEntry.path)) : Rises ((tellL s l n).map AEntry.path) ∧ (tellL s l n).length ≤ l.length := by
  unfold tellL; split
  · exact ⟨rises_filter hr, witho_len _ _⟩
  · exact ⟨hr, Nat.le_refl _⟩
theorem tellS_ok {s : Int} : ∀ (ns : List ANote) {l : List AEntry}, Rises (l.map AEntry.path) → Rises ((tellS s l ns).map AEntry.path) ∧ (tellS s l ns).length ≤ l.length
  | [], _, hr => ⟨hr, Nat.le_refl _⟩
  | n :: ns, l, hr => by
    obtain ⟨h1, h2⟩ := tellL_ok (s := s) n hr
    obtain ⟨h3, h4⟩ := tellS_ok (s := s) ns h1
    exact ⟨h3, Nat.le_trans h4 h2⟩
theorem tellS_snoc (s : Int) (l : List AEntry) (ns : List ANote) (k : Nat) (h : k < ns.length) : tellS s l (ns.take (k + 1)) = tellL s (tellS s l (ns.take k)) (ns.getD k default) := by
  unfold tellS; rw [take_snoc _ _ h, List.foldl_append]; rfl
theorem tellL_no {s : Int} {l : List AEntry} {n : ANote} (h : ¬ (n.session = s ∧ n.event.kind ≠ 4)) : tellL s l n = l := by unfold tellL; rw [if_neg h]
theorem tellL_yes {s : Int} {l : List AEntry} {n : ANote} (h : n.session = s ∧ n.event.kind ≠ 4) : tellL s l n = witho l n.event.path := by unfold tellL; rw [if_pos h]
theorem tellS_zero (s : Int) (l : List AEntry) : tellS s l [] = l := rfl
theorem tell_c (c : AClient) (l : List ANote) (h : c.cache.length ≤ 100000) (hl : l.length * 32 ≤ 140737488351232) (hr : Rises (c.cache.map AEntry.path)) :
    acall Try.prog [] 17 [c.av, .d (.sl 3 (l.map ANote.row))] (ret (AClient.av ⟨c.session, c.seen, tellS c.session c.cache l⟩)) := by
  have hb : c.cache.length * 40 ≤ 140737488351232 := by omega
  refine acall_of tabOk Try.func17 rfl (by kernel_rfl) (by simp [Try.ntmps17]) ?_; simp only [Try.ntmps17, Try.results17, List.toList_toArray, apar, List.length_nil, List.length_cons, Nat.reduceAdd]
  repeat' first
    | with_reducible refine AWP.seq ?_
    | with_reducible refine thenA_n ?_
    | with_reducible refine thenA_r ?_
    | with_reducible refine thenA_e ?_
    | with_reducible refine blkA_n ?_
    | with_reducible refine blkA_r ?_
    | with_reducible refine blkA_e ?_
    | with_reducible refine blkA_x (by decide) ?_
    | with_reducible refine AWP.skip ?_
    | with_reducible refine AWP.ret ?_
    | with_reducible refine AWP.exit ?_
    | with_reducible refine AWP.block ?_
    | (with_reducible refine AWP.cond rfl ?_ ?_ <;> intro hc <;> (try simp only [decide_eq_true_eq, decide_eq_false_iff_not, Bool.and_eq_true, Bool.or_eq_true, Bool.or_eq_false_iff, Bool.and_eq_false_iff, Bool.not_eq_true', Bool.not_eq_false', Bool.true_eq_false, Bool.false_eq_true, Bool.not_eq_true, Bool.not_eq_false, Int.not_lt, Int.not_le, Nat.not_lt, Nat.not_le, Int.ofNat_lt, Int.ofNat_le, Int.natCast_eq_zero, not_true_eq_false, not_false_eq_true, beq_iff_eq, Bool.not_true, Bool.not_false, ge_iff_le, gt_iff_lt] at hc))
    | ((first | with_reducible refine AWP.region tabOk ?_ | with_reducible refine AWP.quietC mixed tabOk (by decide +kernel) ?_ | with_reducible refine AWP.draw mixed tabOk (by decide +kernel) ?_ | with_reducible refine AWP.drawE mixed tabOk (by decide +kernel) ?_); intro K hK; ((try simp (disch := omega) only [go_sem, wrap_n, true_and]) <;> (repeat' with_reducible refine And.intro ?_ ?_) <;> (try (with_reducible refine hK _ ?_; clear hK K))))
    | ((first | refine acallH_sc (copied_c c hb) rfl rfl ?_ ?_ ?_); (focus ((try simp (disch := omega) only [go_sem, wrap_n, true_and]) <;> (try omega) <;> fail)); (focus ((try simp (disch := omega) only [go_sem, wrap_n, true_and]) <;> (try omega) <;> fail)); ((try simp (disch := omega) only [go_sem, wrap_n, true_and]) <;> (repeat' with_reducible refine And.intro ?_ ?_) <;> (try (with_reducible refine hK _ ?_; clear hK K))))
    | ((first | refine acallQ_sc (copied_c c hb) rfl rfl ?_ ?_ ?_); (focus ((try simp (disch := omega) only [go_sem, wrap_n, true_and]) <;> (try omega) <;> fail)); (focus ((try simp (disch := omega) only [go_sem, wrap_n, true_and]) <;> (try omega) <;> fail)); ((try simp (disch := omega) only [go_sem, wrap_n, true_and]) <;> (repeat' with_reducible refine And.intro ?_ ?_) <;> (try (with_reducible refine hK _ ?_; clear hK K))))
    | ((first | refine acallH_anyr (copied_c c hb) rfl ?_ ?_); (focus ((try simp (disch := omega) only [go_sem, wrap_n, true_and]) <;> (try omega) <;> fail)); ((try simp (disch := omega) only [go_sem, wrap_n, true_and]) <;> (repeat' with_reducible refine And.intro ?_ ?_) <;> (try (with_reducible refine hK _ ?_; clear hK K))))
    | ((first | refine acallH_scx (copied_c c hb) rfl ?_ ?_ | refine acallQ_scx (copied_c c hb) rfl ?_ ?_ | refine acallH_anyx (copied_c c hb) ?_ ?_); (focus ((try simp (disch := omega) only [go_sem, wrap_n, true_and]) <;> (try omega) <;> fail)); ((try simp (disch := omega) only [go_sem, wrap_n, true_and]) <;> (repeat' with_reducible refine And.intro ?_ ?_) <;> (try (with_reducible refine hK _ ?_; clear hK K))))
    | ((first | (with_reducible refine aunder_i ?_ ?_ <;> intro hg) | with_reducible intro hg) <;> (first | (exfalso; simp at hg; done) | (have hg' := hg; (try simp only [decide_eq_true_eq, decide_eq_false_iff_not, Bool.and_eq_true, Bool.or_eq_true, Bool.or_eq_false_iff, Bool.and_eq_false_iff, Bool.not_eq_true', Bool.not_eq_false', Bool.true_eq_false, Bool.false_eq_true, Bool.not_eq_true, Bool.not_eq_false, Int.not_lt, Int.not_le, Nat.not_lt, Nat.not_le, Int.ofNat_lt, Int.ofNat_le, Int.natCast_eq_zero, not_true_eq_false, not_false_eq_true, beq_iff_eq, Bool.not_true, Bool.not_false, ge_iff_le, gt_iff_lt] at hg'); ((try simp (disch := omega) only [hg, go_sem, wrap_n, true_and]) <;> (repeat' with_reducible refine And.intro ?_ ?_) <;> (try (with_reducible refine hK _ ?_; clear hK K))))))
                                                            | omega
  refine AWP.loopB (ι := Nat) (fun k => k ≤ l.length) (fun k => l.length - k) [2, 4, 11, 12] (fun k => [(13, I k)]) (fun k => [.cells [I c.session, I c.seen, .osl 2 3 0 (tellS c.session c.cache (l.take k)).length], .cells [I 0, I 0, .d (.sc (.slice none 0 0))], .rows 3 ((tellS c.session c.cache (l.take k)).map AEntry.row)]) 0 ?_ ?_ ?_
  · omega
  · simp only [go_sem, tellS_zero]; (refine SImp.same ?_; simp (disch := omega) only [go_sem, wrap_n, Int.natCast_add, true_and])
  intro k hk
  obtain ⟨hr1, hn1⟩ := tellS_ok (s := c.session) (l.take k) hr
  have hb1 : (tellS c.session c.cache (l.take k)).length * 40 ≤ 140737488351232 := by omega
  have hpl := eplace_le (l := tellS c.session c.cache (l.take k)) (key := (l.getD k default).event.path)
  simp only [go_sem]
  by_cases hm : (l.getD k default).event.path ∈ (tellS c.session c.cache (l.take k)).map AEntry.path
  · have hlt := eplace_lt hr1 hm
    repeat' first
      | with_reducible refine AWP.seq ?_
      | with_reducible refine thenA_n ?_
      | with_reducible refine thenA_r ?_
      | with_reducible refine thenA_e ?_
      | with_reducible refine blkA_n ?_
      | with_reducible refine blkA_r ?_
      | with_reducible refine blkA_e ?_
      | with_reducible refine blkA_x (by decide) ?_
      | with_reducible refine AWP.skip ?_
      | with_reducible refine AWP.ret ?_
      | with_reducible refine AWP.exit ?_
      | with_reducible refine AWP.block ?_
      | (with_reducible refine AWP.cond rfl ?_ ?_ <;> intro hc <;> (try simp only [decide_eq_true_eq, decide_eq_false_iff_not, Bool.and_eq_true, Bool.or_eq_true, Bool.or_eq_false_iff, Bool.and_eq_false_iff, Bool.not_eq_true', Bool.not_eq_false', Bool.true_eq_false, Bool.false_eq_true, Bool.not_eq_true, Bool.not_eq_false, Int.not_lt, Int.not_le, Nat.not_lt, Nat.not_le, Int.ofNat_lt, Int.ofNat_le, Int.natCast_eq_zero, not_true_eq_false, not_false_eq_true, beq_iff_eq, Bool.not_true, Bool.not_false, ge_iff_le, gt_iff_lt] at hc))
      | ((first | with_reducible refine AWP.region tabOk ?_ | with_reducible refine AWP.quietC mixed tabOk (by decide +kernel) ?_ | with_reducible refine AWP.draw mixed tabOk (by decide +kernel) ?_ | with_reducible refine AWP.drawE mixed tabOk (by decide +kernel) ?_); intro K hK; ((try simp (disch := omega) only [go_sem, wrap_n, ANote.rgetD, erase_map]) <;> (repeat' with_reducible refine And.intro ?_ ?_) <;> (try (with_reducible refine hK _ ?_; clear hK K))))
      | ((first | refine acallH_sc ((cfind_c ⟨c.session, c.seen, tellS c.session c.cache (l.take k)⟩ (l.getD k default).event.path hb1 hr1).re (by simp only; rw [decide_eq_true hm])) rfl rfl ?_ ?_ ?_); (focus ((try simp (disch := omega) only [go_sem, wrap_n, ANote.rgetD, erase_map]) <;> (try omega) <;> fail)); (focus ((try simp (disch := omega) only [go_sem, wrap_n, ANote.rgetD, erase_map]) <;> (try omega) <;> fail)); ((try simp (disch := omega) only [go_sem, wrap_n, ANote.rgetD, erase_map]) <;> (repeat' with_reducible refine And.intro ?_ ?_) <;> (try (with_reducible refine hK _ ?_; clear hK K))))
      | ((first | refine acallQ_sc ((cfind_c ⟨c.session, c.seen, tellS c.session c.cache (l.take k)⟩ (l.getD k default).event.path hb1 hr1).re (by simp only; rw [decide_eq_true hm])) rfl rfl ?_ ?_ ?_); (focus ((try simp (disch := omega) only [go_sem, wrap_n, ANote.rgetD, erase_map]) <;> (try omega) <;> fail)); (focus ((try simp (disch := omega) only [go_sem, wrap_n, ANote.rgetD, erase_map]) <;> (try omega) <;> fail)); ((try simp (disch := omega) only [go_sem, wrap_n, ANote.rgetD, erase_map]) <;> (repeat' with_reducible refine And.intro ?_ ?_) <;> (try (with_reducible refine hK _ ?_; clear hK K))))
      | ((first | refine acallH_anyr ((cfind_c ⟨c.session, c.seen, tellS c.session c.cache (l.take k)⟩ (l.getD k default).event.path hb1 hr1).re (by simp only; rw [decide_eq_true hm])) rfl ?_ ?_); (focus ((try simp (disch := omega) only [go_sem, wrap_n, ANote.rgetD, erase_map]) <;> (try omega) <;> fail)); ((try simp (disch := omega) only [go_sem, wrap_n, ANote.rgetD, erase_map]) <;> (repeat' with_reducible refine And.intro ?_ ?_) <;> (try (with_reducible refine hK _ ?_; clear hK K))))
      | ((first | refine acallH_scx ((cfind_c ⟨c.session, c.seen, tellS c.session c.cache (l.take k)⟩ (l.getD k default).event.path hb1 hr1).re (by simp only; rw [decide_eq_true hm])) rfl ?_ ?_ | refine acallQ_scx ((cfind_c ⟨c.session, c.seen, tellS c.session c.cache (l.take k)⟩ (l.getD k default).event.path hb1 hr1).re (by simp only; rw [decide_eq_true hm])) rfl ?_ ?_ | refine acallH_anyx ((cfind_c ⟨c.session, c.seen, tellS c.session c.cache (l.take k)⟩ (l.getD k default).event.path hb1 hr1).re (by simp only; rw [decide_eq_true hm])) ?_ ?_); (focus ((try simp (disch := omega) only [go_sem, wrap_n, ANote.rgetD, erase_map]) <;> (try omega) <;> fail)); ((try simp (disch := omega) only [go_sem, wrap_n, ANote.rgetD, erase_map]) <;> (repeat' with_reducible refine And.intro ?_ ?_) <;> (try (with_reducible refine hK _ ?_; clear hK K))))
      | (refine acallH_own (delEntry_c ((tellS c.session c.cache (l.take k)).map AEntry.row) (place ((tellS c.session c.cache (l.take k)).map AEntry.path) (l.getD k default).event.path) (by simpa using hlt) (by simpa using hb1)) ?_ ?_ ?_; (focus ((try simp (disch := omega) only [AV.osl.injEq, AV.d.injEq, DV.int.injEq, DV.sl.injEq, List.cons.injEq, AV.ptr.injEq, AV.rp.injEq, and_self, List.nodup_cons, List.not_mem_nil, List.mem_cons, not_false_eq_true, List.nodup_nil, go_sem, wrap_n, ANote.rgetD, erase_map]) <;> (try omega) <;> fail)); (focus ((try simp (disch := omega) only [AV.osl.injEq, AV.d.injEq, DV.int.injEq, DV.sl.injEq, List.cons.injEq, AV.ptr.injEq, AV.rp.injEq, and_self, List.nodup_cons, List.not_mem_nil, List.mem_cons, not_false_eq_true, List.nodup_nil, go_sem, wrap_n, ANote.rgetD, erase_map]) <;> (try omega) <;> (try decide) <;> fail)); ((try simp (disch := omega) only [go_sem, wrap_n, ANote.rgetD, erase_map]) <;> (repeat' with_reducible refine And.intro ?_ ?_) <;> (try (with_reducible refine hK _ ?_; clear hK K))))
      | ((first | (with_reducible refine aunder_i ?_ ?_ <;> intro hg) | with_reducible intro hg) <;> (first | (exfalso; simp at hg; done) | (have hg' := hg; (try simp only [decide_eq_true_eq, decide_eq_false_iff_not, Bool.and_eq_true, Bool.or_eq_true, Bool.or_eq_false_iff, Bool.and_eq_false_iff, Bool.not_eq_true', Bool.not_eq_false', Bool.true_eq_false, Bool.false_eq_true, Bool.not_eq_true, Bool.not_eq_false, Int.not_lt, Int.not_le, Nat.not_lt, Nat.not_le, Int.ofNat_lt, Int.ofNat_le, Int.natCast_eq_zero, not_true_eq_false, not_false_eq_true, beq_iff_eq, Bool.not_true, Bool.not_false, ge_iff_le, gt_iff_lt] at hg'); ((try simp (disch := omega) only [hg, go_sem, wrap_n, ANote.rgetD, erase_map]) <;> (repeat' with_reducible refine And.intro ?_ ?_) <;> (try (with_reducible refine hK _ ?_; clear hK K))))))
                                                              | omega
    · refine ⟨k + 1, by omega, by omega, ?_⟩
      rw [tellS_snoc _ _ _ _ (by assumption), tellL_no (fun h => hc.elim (fun x => x h.1) (fun x => h.2 x))]
      (refine SImp.frame [0, 1, 2] rfl (by intro k hk; simp at hk <;> (simp; omega)) (by decide) (fun k hk => by omega) ?_ ?_ <;> simp (disch := omega) only [go_sem, wrap_n, Int.natCast_add, true_and] <;> (try rfl))
    · refine ⟨k + 1, by omega, by omega, ?_⟩
      rw [tellS_snoc _ _ _ _ (by assumption), tellL_yes (by assumption), witho_erase hr1 hm]
      have hel := erase_len _ _ hlt
      (refine SImp.frame [0, 1, 4] rfl (by intro k hk; simp at hk <;> (simp; omega)) (by decide) (fun k hk => by omega) ?_ ?_ <;> simp (disch := omega) only [go_sem, wrap_n, Int.natCast_add, hel] <;> (try rfl))
    · have e : k = l.length := by omega
      subst e
      simp only [List.take_length]
      (refine aend_retc ?_ rfl ?_ ?_ ?_ ?_; (focus (first | exact .inl rfl | exact .inr rfl)); (focus ((try simp (disch := omega) only [go_sem, wrap_n, true_and]) <;> (try omega) <;> fail)); (focus ((try simp (disch := omega) only [go_sem, wrap_n, true_and]) <;> (try omega) <;> fail)); (focus ((try simp (disch := omega) only [go_sem, wrap_n, true_and]) <;> (try omega) <;> fail)); (try simp (disch := omega) only [go_sem, wrap_n, true_and, I, B, S, AV.d.injEq, DV.int.injEq, DV.bool.injEq, DV.str.injEq, DV.sl.injEq, AV.tup.injEq, AV.agg.injEq, List.cons.injEq, and_true, true_and, and_self]))
  · repeat' first
      | with_reducible refine AWP.seq ?_
      | with_reducible refine thenA_n ?_
      | with_reducible refine thenA_r ?_
      | with_reducible refine thenA_e ?_
      | with_reducible refine blkA_n ?_
      | with_reducible refine blkA_r ?_
      | with_reducible refine blkA_e ?_
      | with_reducible refine blkA_x (by decide) ?_
      | with_reducible refine AWP.skip ?_
      | with_reducible refine AWP.ret ?_
      | with_reducible refine AWP.exit ?_
      | with_reducible refine AWP.block ?_
      | (with_reducible refine AWP.cond rfl ?_ ?_ <;> intro hc <;> (try simp only [decide_eq_true_eq, decide_eq_false_iff_not, Bool.and_eq_true, Bool.or_eq_true, Bool.or_eq_false_iff, Bool.and_eq_false_iff, Bool.not_eq_true', Bool.not_eq_false', Bool.true_eq_false, Bool.false_eq_true, Bool.not_eq_true, Bool.not_eq_false, Int.not_lt, Int.not_le, Nat.not_lt, Nat.not_le, Int.ofNat_lt, Int.ofNat_le, Int.natCast_eq_zero, not_true_eq_false, not_false_eq_true, beq_iff_eq, Bool.not_true, Bool.not_false, ge_iff_le, gt_iff_lt] at hc))
      | ((first | with_reducible refine AWP.region tabOk ?_ | with_reducible refine AWP.quietC mixed tabOk (by decide +kernel) ?_ | with_reducible refine AWP.draw mixed tabOk (by decide +kernel) ?_ | with_reducible refine AWP.drawE mixed tabOk (by decide +kernel) ?_); intro K hK; ((try simp (disch := omega) only [go_sem, wrap_n, ANote.rgetD]) <;> (repeat' with_reducible refine And.intro ?_ ?_) <;> (try (with_reducible refine hK _ ?_; clear hK K))))
      | ((first | refine acallH_sc ((cfind_c ⟨c.session, c.seen, tellS c.session c.cache (l.take k)⟩ (l.getD k default).event.path hb1 hr1).re (by simp only; rw [decide_eq_false hm])) rfl rfl ?_ ?_ ?_); (focus ((try simp (disch := omega) only [go_sem, wrap_n, ANote.rgetD]) <;> (try omega) <;> fail)); (focus ((try simp (disch := omega) only [go_sem, wrap_n, ANote.rgetD]) <;> (try omega) <;> fail)); ((try simp (disch := omega) only [go_sem, wrap_n, ANote.rgetD]) <;> (repeat' with_reducible refine And.intro ?_ ?_) <;> (try (with_reducible refine hK _ ?_; clear hK K))))
      | ((first | refine acallQ_sc ((cfind_c ⟨c.session, c.seen, tellS c.session c.cache (l.take k)⟩ (l.getD k default).event.path hb1 hr1).re (by simp only; rw [decide_eq_false hm])) rfl rfl ?_ ?_ ?_); (focus ((try simp (disch := omega) only [go_sem, wrap_n, ANote.rgetD]) <;> (try omega) <;> fail)); (focus ((try simp (disch := omega) only [go_sem, wrap_n, ANote.rgetD]) <;> (try omega) <;> fail)); ((try simp (disch := omega) only [go_sem, wrap_n, ANote.rgetD]) <;> (repeat' with_reducible refine And.intro ?_ ?_) <;> (try (with_reducible refine hK _ ?_; clear hK K))))
      | ((first | refine acallH_anyr ((cfind_c ⟨c.session, c.seen, tellS c.session c.cache (l.take k)⟩ (l.getD k default).event.path hb1 hr1).re (by simp only; rw [decide_eq_false hm])) rfl ?_ ?_); (focus ((try simp (disch := omega) only [go_sem, wrap_n, ANote.rgetD]) <;> (try omega) <;> fail)); ((try simp (disch := omega) only [go_sem, wrap_n, ANote.rgetD]) <;> (repeat' with_reducible refine And.intro ?_ ?_) <;> (try (with_reducible refine hK _ ?_; clear hK K))))
      | ((first | refine acallH_scx ((cfind_c ⟨c.session, c.seen, tellS c.session c.cache (l.take k)⟩ (l.getD k default).event.path hb1 hr1).re (by simp only; rw [decide_eq_false hm])) rfl ?_ ?_ | refine acallQ_scx ((cfind_c ⟨c.session, c.seen, tellS c.session c.cache (l.take k)⟩ (l.getD k default).event.path hb1 hr1).re (by simp only; rw [decide_eq_false hm])) rfl ?_ ?_ | refine acallH_anyx ((cfind_c ⟨c.session, c.seen, tellS c.session c.cache (l.take k)⟩ (l.getD k default).event.path hb1 hr1).re (by simp only; rw [decide_eq_false hm])) ?_ ?_); (focus ((try simp (disch := omega) only [go_sem, wrap_n, ANote.rgetD]) <;> (try omega) <;> fail)); ((try simp (disch := omega) only [go_sem, wrap_n, ANote.rgetD]) <;> (repeat' with_reducible refine And.intro ?_ ?_) <;> (try (with_reducible refine hK _ ?_; clear hK K))))
      | ((first | (with_reducible refine aunder_i ?_ ?_ <;> intro hg) | with_reducible intro hg) <;> (first | (exfalso; simp at hg; done) | (have hg' := hg; (try simp only [decide_eq_true_eq, decide_eq_false_iff_not, Bool.and_eq_true, Bool.or_eq_true, Bool.or_eq_false_iff, Bool.and_eq_false_iff, Bool.not_eq_true', Bool.not_eq_false', Bool.true_eq_false, Bool.false_eq_true, Bool.not_eq_true, Bool.not_eq_false, Int.not_lt, Int.not_le, Nat.not_lt, Nat.not_le, Int.ofNat_lt, Int.ofNat_le, Int.natCast_eq_zero, not_true_eq_false, not_false_eq_true, beq_iff_eq, Bool.not_true, Bool.not_false, ge_iff_le, gt_iff_lt] at hg'); ((try simp (disch := omega) only [hg, go_sem, wrap_n, ANote.rgetD]) <;> (repeat' with_reducible refine And.intro ?_ ?_) <;> (try (with_reducible refine hK _ ?_; clear hK K))))))
                                                              | omega
    · refine ⟨k + 1, by omega, by omega, ?_⟩
      rw [tellS_snoc _ _ _ _ (by assumption), tellL_no (fun h => hc.elim (fun x => x h.1) (fun x => h.2 x))]
      (refine SImp.frame [0, 1, 2] rfl (by intro k hk; simp at hk <;> (simp; omega)) (by decide) (fun k hk => by omega) ?_ ?_ <;> simp (disch := omega) only [go_sem, wrap_n, Int.natCast_add, true_and] <;> (try rfl))
    · refine ⟨k + 1, by omega, by omega, ?_⟩
      rw [tellS_snoc _ _ _ _ (by assumption), tellL_yes (by assumption), witho_none hm]
      (refine SImp.frame [0, 1, 2] rfl (by intro k hk; simp at hk <;> (simp; omega)) (by decide) (fun k hk => by omega) ?_ ?_ <;> simp (disch := omega) only [go_sem, wrap_n, Int.natCast_add, true_and] <;> (try rfl))
    · have e : k = l.length := by omega
      subst e
      simp only [List.take_length]
      (refine aend_retc ?_ rfl ?_ ?_ ?_ ?_; (focus (first | exact .inl rfl | exact .inr rfl)); (focus ((try simp (disch := omega) only [go_sem, wrap_n, true_and]) <;> (try omega) <;> fail)); (focus ((try simp (disch := omega) only [go_sem, wrap_n, true_and]) <;> (try omega) <;> fail)); (focus ((try simp (disch := omega) only [go_sem, wrap_n, true_and]) <;> (try omega) <;> fail)); (try simp (disch := omega) only [go_sem, wrap_n, true_and, I, B, S, AV.d.injEq, DV.int.injEq, DV.bool.injEq, DV.str.injEq, DV.sl.injEq, AV.tup.injEq, AV.agg.injEq, List.cons.injEq, and_true, true_and, and_self]))
theorem ref_tell_c (c : AClient) (l : List ANote) (h : c.cache.length ≤ 100000) (hl : l.length * 32 ≤ 140737488351232) (hr : Rises (c.cache.map AEntry.path)) :
    acall Try.prog [] 18 [c.av, .d (.sl 3 (l.map ANote.row))] (ret (AClient.av ⟨c.session, c.seen, tellS c.session c.cache l⟩)) := by
  have hb : c.cache.length * 40 ≤ 140737488351232 := by omega
  refine acall_of tabOk Try.func18 rfl (by kernel_rfl) (by simp [Try.ntmps18]) ?_; simp only [Try.ntmps18, Try.results18, List.toList_toArray, apar, List.length_nil, List.length_cons, Nat.reduceAdd]
  repeat' first
    | with_reducible refine AWP.seq ?_
    | with_reducible refine thenA_n ?_
    | with_reducible refine thenA_r ?_
    | with_reducible refine thenA_e ?_
    | with_reducible refine blkA_n ?_
    | with_reducible refine blkA_r ?_
    | with_reducible refine blkA_e ?_
    | with_reducible refine blkA_x (by decide) ?_
    | with_reducible refine AWP.skip ?_
    | with_reducible refine AWP.ret ?_
    | with_reducible refine AWP.exit ?_
    | with_reducible refine AWP.block ?_
    | (with_reducible refine AWP.cond rfl ?_ ?_ <;> intro hc <;> (try simp only [decide_eq_true_eq, decide_eq_false_iff_not, Bool.and_eq_true, Bool.or_eq_true, Bool.or_eq_false_iff, Bool.and_eq_false_iff, Bool.not_eq_true', Bool.not_eq_false', Bool.true_eq_false, Bool.false_eq_true, Bool.not_eq_true, Bool.not_eq_false, Int.not_lt, Int.not_le, Nat.not_lt, Nat.not_le, Int.ofNat_lt, Int.ofNat_le, Int.natCast_eq_zero, not_true_eq_false, not_false_eq_true, beq_iff_eq, Bool.not_true, Bool.not_false, ge_iff_le, gt_iff_lt] at hc))
    | ((first | with_reducible refine AWP.region tabOk ?_ | with_reducible refine AWP.quietC mixed tabOk (by decide +kernel) ?_ | with_reducible refine AWP.draw mixed tabOk (by decide +kernel) ?_ | with_reducible refine AWP.drawE mixed tabOk (by decide +kernel) ?_); intro K hK; ((try simp (disch := omega) only [go_sem, wrap_n, true_and]) <;> (repeat' with_reducible refine And.intro ?_ ?_) <;> (try (with_reducible refine hK _ ?_; clear hK K))))
    | ((first | refine acallH_sc (ref_copied_c c hb) rfl rfl ?_ ?_ ?_); (focus ((try simp (disch := omega) only [go_sem, wrap_n, true_and]) <;> (try omega) <;> fail)); (focus ((try simp (disch := omega) only [go_sem, wrap_n, true_and]) <;> (try omega) <;> fail)); ((try simp (disch := omega) only [go_sem, wrap_n, true_and]) <;> (repeat' with_reducible refine And.intro ?_ ?_) <;> (try (with_reducible refine hK _ ?_; clear hK K))))
    | ((first | refine acallQ_sc (ref_copied_c c hb) rfl rfl ?_ ?_ ?_); (focus ((try simp (disch := omega) only [go_sem, wrap_n, true_and]) <;> (try omega) <;> fail)); (focus ((try simp (disch := omega) only [go_sem, wrap_n, true_and]) <;> (try omega) <;> fail)); ((try simp (disch := omega) only [go_sem, wrap_n, true_and]) <;> (repeat' with_reducible refine And.intro ?_ ?_) <;> (try (with_reducible refine hK _ ?_; clear hK K))))
    | ((first | refine acallH_anyr (ref_copied_c c hb) rfl ?_ ?_); (focus ((try simp (disch := omega) only [go_sem, wrap_n, true_and]) <;> (try omega) <;> fail)); ((try simp (disch := omega) only [go_sem, wrap_n, true_and]) <;> (repeat' with_reducible refine And.intro ?_ ?_) <;> (try (with_reducible refine hK _ ?_; clear hK K))))
    | ((first | refine acallH_scx (ref_copied_c c hb) rfl ?_ ?_ | refine acallQ_scx (ref_copied_c c hb) rfl ?_ ?_ | refine acallH_anyx (ref_copied_c c hb) ?_ ?_); (focus ((try simp (disch := omega) only [go_sem, wrap_n, true_and]) <;> (try omega) <;> fail)); ((try simp (disch := omega) only [go_sem, wrap_n, true_and]) <;> (repeat' with_reducible refine And.intro ?_ ?_) <;> (try (with_reducible refine hK _ ?_; clear hK K))))
    | ((first | (with_reducible refine aunder_i ?_ ?_ <;> intro hg) | with_reducible intro hg) <;> (first | (exfalso; simp at hg; done) | (have hg' := hg; (try simp only [decide_eq_true_eq, decide_eq_false_iff_not, Bool.and_eq_true, Bool.or_eq_true, Bool.or_eq_false_iff, Bool.and_eq_false_iff, Bool.not_eq_true', Bool.not_eq_false', Bool.true_eq_false, Bool.false_eq_true, Bool.not_eq_true, Bool.not_eq_false, Int.not_lt, Int.not_le, Nat.not_lt, Nat.not_le, Int.ofNat_lt, Int.ofNat_le, Int.natCast_eq_zero, not_true_eq_false, not_false_eq_true, beq_iff_eq, Bool.not_true, Bool.not_false, ge_iff_le, gt_iff_lt] at hg'); ((try simp (disch := omega) only [hg, go_sem, wrap_n, true_and]) <;> (repeat' with_reducible refine And.intro ?_ ?_) <;> (try (with_reducible refine hK _ ?_; clear hK K))))))
                                                            | omega
  refine AWP.loopB (ι := Nat) (fun k => k ≤ l.length) (fun k => l.length - k) [2, 4, 9, 10] (fun k => [(11, I k)]) (fun k => [.cells [I c.session, I c.seen, .d (.sl 3 ((tellS c.session c.cache (l.take k)).map AEntry.row))], .cells [I 0, I 0, .d (.sc (.slice none 0 0))]]) 0 ?_ ?_ ?_
  · omega
  · simp only [go_sem, tellS_zero]; (refine SImp.same ?_; simp (disch := omega) only [go_sem, wrap_n, Int.natCast_add, true_and])
  intro k hk
  obtain ⟨hr1, hn1⟩ := tellS_ok (s := c.session) (l.take k) hr
  have hb1 : (tellS c.session c.cache (l.take k)).length * 40 ≤ 140737488351232 := by omega
  simp only [go_sem]
  repeat' first
    | with_reducible refine AWP.seq ?_
    | with_reducible refine thenA_n ?_
    | with_reducible refine thenA_r ?_
    | with_reducible refine thenA_e ?_
    | with_reducible refine blkA_n ?_
    | with_reducible refine blkA_r ?_
    | with_reducible refine blkA_e ?_
    | with_reducible refine blkA_x (by decide) ?_
    | with_reducible refine AWP.skip ?_
    | with_reducible refine AWP.ret ?_
    | with_reducible refine AWP.exit ?_
    | with_reducible refine AWP.block ?_
    | (with_reducible refine AWP.cond rfl ?_ ?_ <;> intro hc <;> (try simp only [decide_eq_true_eq, decide_eq_false_iff_not, Bool.and_eq_true, Bool.or_eq_true, Bool.or_eq_false_iff, Bool.and_eq_false_iff, Bool.not_eq_true', Bool.not_eq_false', Bool.true_eq_false, Bool.false_eq_true, Bool.not_eq_true, Bool.not_eq_false, Int.not_lt, Int.not_le, Nat.not_lt, Nat.not_le, Int.ofNat_lt, Int.ofNat_le, Int.natCast_eq_zero, not_true_eq_false, not_false_eq_true, beq_iff_eq, Bool.not_true, Bool.not_false, ge_iff_le, gt_iff_lt] at hc))
    | ((first | with_reducible refine AWP.region tabOk ?_ | with_reducible refine AWP.quietC mixed tabOk (by decide +kernel) ?_ | with_reducible refine AWP.draw mixed tabOk (by decide +kernel) ?_ | with_reducible refine AWP.drawE mixed tabOk (by decide +kernel) ?_); intro K hK; ((try simp (disch := omega) only [go_sem, wrap_n, ANote.rgetD]) <;> (repeat' with_reducible refine And.intro ?_ ?_) <;> (try (with_reducible refine hK _ ?_; clear hK K))))
    | ((first | refine acallH_sc (without_c (tellS c.session c.cache (l.take k)) (l.getD k default).event.path hb1) rfl rfl ?_ ?_ ?_); (focus ((try simp (disch := omega) only [go_sem, wrap_n, ANote.rgetD]) <;> (try omega) <;> fail)); (focus ((try simp (disch := omega) only [go_sem, wrap_n, ANote.rgetD]) <;> (try omega) <;> fail)); ((try simp (disch := omega) only [go_sem, wrap_n, ANote.rgetD]) <;> (repeat' with_reducible refine And.intro ?_ ?_) <;> (try (with_reducible refine hK _ ?_; clear hK K))))
    | ((first | refine acallQ_sc (without_c (tellS c.session c.cache (l.take k)) (l.getD k default).event.path hb1) rfl rfl ?_ ?_ ?_); (focus ((try simp (disch := omega) only [go_sem, wrap_n, ANote.rgetD]) <;> (try omega) <;> fail)); (focus ((try simp (disch := omega) only [go_sem, wrap_n, ANote.rgetD]) <;> (try omega) <;> fail)); ((try simp (disch := omega) only [go_sem, wrap_n, ANote.rgetD]) <;> (repeat' with_reducible refine And.intro ?_ ?_) <;> (try (with_reducible refine hK _ ?_; clear hK K))))
    | ((first | refine acallH_anyr (without_c (tellS c.session c.cache (l.take k)) (l.getD k default).event.path hb1) rfl ?_ ?_); (focus ((try simp (disch := omega) only [go_sem, wrap_n, ANote.rgetD]) <;> (try omega) <;> fail)); ((try simp (disch := omega) only [go_sem, wrap_n, ANote.rgetD]) <;> (repeat' with_reducible refine And.intro ?_ ?_) <;> (try (with_reducible refine hK _ ?_; clear hK K))))
    | ((first | refine acallH_scx (without_c (tellS c.session c.cache (l.take k)) (l.getD k default).event.path hb1) rfl ?_ ?_ | refine acallQ_scx (without_c (tellS c.session c.cache (l.take k)) (l.getD k default).event.path hb1) rfl ?_ ?_ | refine acallH_anyx (without_c (tellS c.session c.cache (l.take k)) (l.getD k default).event.path hb1) ?_ ?_); (focus ((try simp (disch := omega) only [go_sem, wrap_n, ANote.rgetD]) <;> (try omega) <;> fail)); ((try simp (disch := omega) only [go_sem, wrap_n, ANote.rgetD]) <;> (repeat' with_reducible refine And.intro ?_ ?_) <;> (try (with_reducible refine hK _ ?_; clear hK K))))
    | ((first | (with_reducible refine aunder_i ?_ ?_ <;> intro hg) | with_reducible intro hg) <;> (first | (exfalso; simp at hg; done) | (have hg' := hg; (try simp only [decide_eq_true_eq, decide_eq_false_iff_not, Bool.and_eq_true, Bool.or_eq_true, Bool.or_eq_false_iff, Bool.and_eq_false_iff, Bool.not_eq_true', Bool.not_eq_false', Bool.true_eq_false, Bool.false_eq_true, Bool.not_eq_true, Bool.not_eq_false, Int.not_lt, Int.not_le, Nat.not_lt, Nat.not_le, Int.ofNat_lt, Int.ofNat_le, Int.natCast_eq_zero, not_true_eq_false, not_false_eq_true, beq_iff_eq, Bool.not_true, Bool.not_false, ge_iff_le, gt_iff_lt] at hg'); ((try simp (disch := omega) only [hg, go_sem, wrap_n, ANote.rgetD]) <;> (repeat' with_reducible refine And.intro ?_ ?_) <;> (try (with_reducible refine hK _ ?_; clear hK K))))))
                                                            | omega
  · refine ⟨k + 1, by omega, by omega, ?_⟩
    rw [tellS_snoc _ _ _ _ (by assumption), tellL_yes (by assumption)]
    (refine SImp.frame [0, 1] rfl (by intro k hk; simp at hk <;> (simp; omega)) (by decide) (fun k hk => by omega) ?_ ?_ <;> simp (disch := omega) only [go_sem, wrap_n, Int.natCast_add, true_and] <;> (try rfl))
  · refine ⟨k + 1, by omega, by omega, ?_⟩
    rw [tellS_snoc _ _ _ _ (by assumption), tellL_no (fun h => hc.elim (fun x => x h.1) (fun x => h.2 x))]
    (refine SImp.frame [0, 1] rfl (by intro k hk; simp at hk <;> (simp; omega)) (by decide) (fun k hk => by omega) ?_ ?_ <;> simp (disch := omega) only [go_sem, wrap_n, Int.natCast_add, true_and] <;> (try rfl))
  · have e : k = l.length := by omega
    subst e
    simp only [List.take_length]
    (refine aend_retc ?_ rfl ?_ ?_ ?_ ?_; (focus (first | exact .inl rfl | exact .inr rfl)); (focus ((try simp (disch := omega) only [go_sem, wrap_n, true_and]) <;> (try omega) <;> fail)); (focus ((try simp (disch := omega) only [go_sem, wrap_n, true_and]) <;> (try omega) <;> fail)); (focus ((try simp (disch := omega) only [go_sem, wrap_n, true_and]) <;> (try omega) <;> fail)); (try simp (disch := omega) only [go_sem, wrap_n, true_and, I, B, S, AV.d.injEq, DV.int.injEq, DV.bool.injEq, DV.str.injEq, DV.sl.injEq, AV.tup.injEq, AV.agg.injEq, List.cons.injEq, and_true, true_and, and_self]))

theorem rises_pw (l : List AEntry) : Rises (l.map AEntry.path) ↔ List.Pairwise (fun a b => a.path < b.path) l := by
  rw [← List.pairwise_map (f := AEntry.path) (R := (· < ·))]
  constructor
  · intro h
    rw [List.pairwise_iff_getElem]
    intro i j hi hj hij
    have := rises_lt h hij hj
    rwa [List.getD_eq_getElem?_getD, List.getD_eq_getElem?_getD, List.getElem?_eq_getElem hi, List.getElem?_eq_getElem hj] at this
  · intro h k hk
    rw [List.pairwise_iff_getElem] at h
    have := h k (k + 1) (by omega) hk (by omega)
    rw [List.getD_eq_getElem?_getD, List.getD_eq_getElem?_getD, List.getElem?_eq_getElem (by omega), List.getElem?_eq_getElem hk]; exact this
theorem ins_rises {m : List AEntry} {x : AEntry} (hr : Rises (m.map AEntry.path)) (hn : ¬ x.path ∈ m.map AEntry.path) : Rises ((m.insertIdx (place (m.map AEntry.path) x.path) x).map AEntry.path) := by
  have hle := eplace_le (l := m) (key := x.path)
  have h1 := fun j => @place_before m x.path j
  have h2 := fun j => @place_behind m x.path j hr hn
  generalize place (m.map AEntry.path) x.path = P at *
  rw [ins_eq _ _ _ hle]
  rw [rises_pw] at hr ⊢
  have hd : m = m.take P ++ m.drop P := (List.take_append_drop P m).symm
  have hgd : ∀ j, j < m.length → ∀ z, m[j]? = some z → m.getD j default = z := fun j hj z hz => by rw [List.getD_eq_getElem?_getD, hz]; rfl
  have ht : ∀ y, y ∈ m.take P → y.path < x.path := fun y hy => by
    obtain ⟨j, hj, rfl⟩ := List.mem_take_iff_getElem.1 hy
    have := h1 j (by omega)
    rwa [hgd j (by omega) _ (List.getElem?_eq_getElem (by omega))] at this
  have hb : ∀ y, y ∈ m.drop P → x.path < y.path := fun y hy => by
    obtain ⟨j, hj, rfl⟩ := List.mem_drop_iff_getElem.1 hy
    have := h2 (P + j) (by omega) (by omega)
    rwa [hgd (P + j) (by omega) _ (List.getElem?_eq_getElem (by omega))] at this
  rw [hd] at hr
  rw [List.pairwise_append] at hr ⊢
  refine ⟨hr.1, List.pairwise_cons.2 ⟨hb, hr.2.1⟩, fun a ha b hb' => ?_⟩
  rcases List.mem_cons.1 hb' with e | e
  · subst e; exact ht a ha
  · exact hr.2.2 a ha b e
theorem keepL_ok {l : List AEntry} (e : AEntry) (hr : Rises (l.map AEntry.path)) : Rises ((keepL l e).map AEntry.path) ∧ (keepL l e).length ≤ l.length + 1 := by
  constructor
  · rw [keepL_eq hr]
    have := ins_rises (x := normE e) (rises_filter (key := e.path) hr) (by rw [normE_path]; exact witho_not l e.path)
    rwa [normE_path] at this
  · unfold keepL; split
    · rw [List.length_set]; omega
    · rw [elen_ins _ _ eplace_le]; omega
def keepS (l : List AEntry) : List AEntry := l.foldl keepL []
theorem keepS_snoc (l : List AEntry) (k : Nat) (h : k < l.length) : keepS (l.take (k + 1)) = keepL (keepS (l.take k)) (l.getD k default) := by
  unfold keepS; rw [take_snoc _ _ h, List.foldl_append]; rfl
theorem keepS_ok (l : List AEntry) : ∀ k, k ≤ l.length → Rises ((keepS (l.take k)).map AEntry.path) ∧ (keepS (l.take k)).length ≤ k
  | 0, _ => ⟨fun k hk => by simp [keepS] at hk, by simp [keepS]⟩
  | k + 1, h => by
    obtain ⟨h1, h2⟩ := keepS_ok l k (by omega)
    rw [keepS_snoc _ _ (by omega)]
    obtain ⟨h3, h4⟩ := keepL_ok (l.getD k default) h1
    exact ⟨h3, by omega⟩
theorem SImp.coeC {np nt : Nat} {env : List (Nat × AV)} {hp : List ABlk} (k j : Nat) {cs : List AV} {x : DV} (y : DV) (hk : hp[k]? = some (.cells cs)) (hj : cs[j]? = some (.d x)) (hc : coeD x y) :
    SImp { np := np, nt := nt, env := env, hp := hp } { np := np, nt := nt, env := env, hp := hp.set k (.cells (cs.set j (.d y))) } := by
  intro E ρ a w h
  have hl := h.heap.len
  simp only at hl
  have hkl : k < hp.length := (List.getElem?_eq_some_iff.1 hk).1
  obtain ⟨p, hkp⟩ : ∃ p, ρ[k]? = some p := ⟨ρ[k]'(by omega), List.getElem?_eq_getElem (by omega)⟩
  cases p with
  | none => rcases h.heap.nil k _ hk hkp with e | ⟨_, e⟩ <;> cases e
  | some bm =>
    obtain ⟨b, m⟩ := bm
    have hst := HStep.redo (x' := .cells (cs.set j (.d y))) h.heap hk (by simp) (by simp) hkp (by simp) fun us ty fz hw hm ⟨h1, h2, h3⟩ => ⟨h1, by simp [h2], fun j' c u hc' hu => by
      rcases getElem?_set_cases hc' with ⟨e, e', _⟩ | ⟨_, hc'⟩
      · subst e; subst e'
        have := h3 _ _ _ hj hu
        cases this with | d _ _ hd =>
        exact .d _ _ (coeD_rep hd y hc)
      · exact h3 _ _ _ hc' hu⟩
    exact ⟨_, h.step hst⟩
set_option maxHeartbeats 8000000 in
theorem clientKeeps_b (l : List AEntry) (p : List UInt8) (ns : List ANote) (h : l.length * 40 ≤ 140737488351232) (hn : ns.length * 32 ≤ 140737488351232) :
    acall Try.prog [] 4 [.d (.sl 3 (l.map AEntry.row)), S p, .d (.sl 3 (ns.map ANote.row))] (ret (B true)) := by
  refine acall_of tabOk Try.func4 rfl (by kernel_rfl) (by simp [Try.ntmps4]) ?_; simp only [Try.ntmps4, Try.results4, List.toList_toArray, apar, List.length_nil, List.length_cons, Nat.reduceAdd]
  repeat' first
    | with_reducible refine AWP.seq ?_
    | with_reducible refine thenA_n ?_
    | with_reducible refine thenA_r ?_
    | with_reducible refine thenA_e ?_
    | with_reducible refine blkA_n ?_
    | with_reducible refine blkA_r ?_
    | with_reducible refine blkA_e ?_
    | with_reducible refine blkA_x (by decide) ?_
    | with_reducible refine AWP.skip ?_
    | with_reducible refine AWP.ret ?_
    | with_reducible refine AWP.exit ?_
    | with_reducible refine AWP.block ?_
    | (with_reducible refine AWP.cond rfl ?_ ?_ <;> intro hc <;> (try simp only [decide_eq_true_eq, decide_eq_false_iff_not, Bool.and_eq_true, Bool.or_eq_true, Bool.or_eq_false_iff, Bool.and_eq_false_iff, Bool.not_eq_true', Bool.not_eq_false', Bool.true_eq_false, Bool.false_eq_true, Bool.not_eq_true, Bool.not_eq_false, Int.not_lt, Int.not_le, Nat.not_lt, Nat.not_le, Int.ofNat_lt, Int.ofNat_le, Int.natCast_eq_zero, not_true_eq_false, not_false_eq_true, beq_iff_eq, Bool.not_true, Bool.not_false, ge_iff_le, gt_iff_lt] at hc))
    | ((first | with_reducible refine AWP.region tabOk ?_ | with_reducible refine AWP.quietC mixed tabOk (by decide +kernel) ?_ | with_reducible refine AWP.draw mixed tabOk (by decide +kernel) ?_ | with_reducible refine AWP.drawE mixed tabOk (by decide +kernel) ?_); intro K hK; ((try simp (disch := omega) only [go_sem, wrap_n, true_and]) <;> (repeat' with_reducible refine And.intro ?_ ?_) <;> (try (with_reducible refine hK _ ?_; clear hK K))))
    | ((first | (with_reducible refine aunder_i ?_ ?_ <;> intro hg) | with_reducible intro hg) <;> (first | (exfalso; simp at hg; done) | (have hg' := hg; (try simp only [decide_eq_true_eq, decide_eq_false_iff_not, Bool.and_eq_true, Bool.or_eq_true, Bool.or_eq_false_iff, Bool.and_eq_false_iff, Bool.not_eq_true', Bool.not_eq_false', Bool.true_eq_false, Bool.false_eq_true, Bool.not_eq_true, Bool.not_eq_false, Int.not_lt, Int.not_le, Nat.not_lt, Nat.not_le, Int.ofNat_lt, Int.ofNat_le, Int.natCast_eq_zero, not_true_eq_false, not_false_eq_true, beq_iff_eq, Bool.not_true, Bool.not_false, ge_iff_le, gt_iff_lt] at hg'); ((try simp (disch := omega) only [hg, go_sem, wrap_n, true_and]) <;> (repeat' with_reducible refine And.intro ?_ ?_) <;> (try (with_reducible refine hK _ ?_; clear hK K))))))
                                                            | omega
  refine AWP.weaken (SImp.coeC 0 2 (.sl 3 []) rfl rfl (by simp [coeD])) ?_
  refine AWP.weaken (SImp.coeC 1 2 (.sl 3 []) rfl rfl (by simp [coeD])) ?_
  simp only [go_sem]
  refine AWP.loopB (ι := Nat) (fun k => k ≤ l.length ∧ k ≤ 60) (fun k => 60 - k) [0, 1, 2, 7, 8] (fun k => [(9, I k)]) (fun k => [.cells [I 3, I 0, .d (.sl 3 ((keepS (l.take k)).map AEntry.row))], .cells [I 3, I 0, .d (.sl 3 ((keepS (l.take k)).map AEntry.row))]]) 0 ?_ ?_ ?_
  · exact ⟨by omega, by omega⟩
  · simp only [go_sem]; (refine SImp.same ?_; simp (disch := omega) only [go_sem, wrap_n, Int.natCast_add, keepS])
  intro k ⟨hk, hk60⟩
  obtain ⟨hr, hkn⟩ := keepS_ok l k hk
  obtain ⟨hr2, hkn2⟩ := tellS_ok (s := 3) ns hr
  simp only [go_sem]
  repeat' first
    | with_reducible refine AWP.seq ?_
    | with_reducible refine thenA_n ?_
    | with_reducible refine thenA_r ?_
    | with_reducible refine thenA_e ?_
    | with_reducible refine blkA_n ?_
    | with_reducible refine blkA_r ?_
    | with_reducible refine blkA_e ?_
    | with_reducible refine blkA_x (by decide) ?_
    | with_reducible refine AWP.skip ?_
    | with_reducible refine AWP.ret ?_
    | with_reducible refine AWP.exit ?_
    | with_reducible refine AWP.block ?_
    | (with_reducible refine AWP.cond rfl ?_ ?_ <;> intro hc <;> (try simp only [decide_eq_true_eq, decide_eq_false_iff_not, Bool.and_eq_true, Bool.or_eq_true, Bool.or_eq_false_iff, Bool.and_eq_false_iff, Bool.not_eq_true', Bool.not_eq_false', Bool.true_eq_false, Bool.false_eq_true, Bool.not_eq_true, Bool.not_eq_false, Int.not_lt, Int.not_le, Nat.not_lt, Nat.not_le, Int.ofNat_lt, Int.ofNat_le, Int.natCast_eq_zero, not_true_eq_false, not_false_eq_true, beq_iff_eq, Bool.not_true, Bool.not_false, ge_iff_le, gt_iff_lt] at hc))
    | (refine AWP.plan (Plan.takes [0, 1, 2, 3, 4, 7, 8, 9] (.forks 5 (Plan.takes [6, 10, 11, 12, 13] .done) 6 (.fork 5 (Plan.takes [10, 11, 12, 13] .done) 10 (Plan.takes [5, 11, 12, 13] .done)) 10 (.fork 5 (Plan.takes [6, 11, 12, 13] .done) 6 (Plan.takes [5, 11, 12, 13] .done)))) mixed tabOk (by decide +kernel) ?_; intro K hK; ((try simp (disch := omega) only [go_sem, wrap_n, AEntry.rgetD]) <;> (repeat' with_reducible refine And.intro ?_ ?_) <;> (try (with_reducible refine hK _ ?_; clear hK K))))
    | (refine AWP.plan (Plan.takes [0, 1, 2, 3, 4, 5, 6, 7, 8, 9, 10, 11, 12, 13, 15, 19] (.forks 14 (.fork 16 (.fork 17 (Plan.takes [18, 20, 21, 22, 23, 24, 25, 26] .done) 18 (Plan.takes [17, 20, 21, 22, 23, 24, 25, 26] .done)) 18 (Plan.takes [16, 17, 20, 21, 22, 23, 24, 25, 26] .done)) 16 (Plan.takes [14] (.fork 17 (Plan.takes [18, 20, 21, 22, 23, 24, 25, 26] .done) 18 (Plan.takes [17, 20, 21, 22, 23, 24, 25, 26] .done))) 18 (.fork 14 (Plan.takes [16, 17, 20, 21, 22, 23, 24, 25, 26] .done) 16 (Plan.takes [14, 17, 20, 21, 22, 23, 24, 25, 26] .done)))) mixed tabOk (by decide +kernel) ?_; intro K hK; ((try simp (disch := omega) only [go_sem, wrap_n, AEntry.rgetD]) <;> (repeat' with_reducible refine And.intro ?_ ?_) <;> (try (with_reducible refine hK _ ?_; clear hK K))))
    | ((first | with_reducible refine AWP.region tabOk ?_ | with_reducible refine AWP.quietC mixed tabOk (by decide +kernel) ?_ | with_reducible refine AWP.draw mixed tabOk (by decide +kernel) ?_ | with_reducible refine AWP.drawE mixed tabOk (by decide +kernel) ?_); intro K hK; ((try simp (disch := omega) only [go_sem, wrap_n, AEntry.rgetD]) <;> (repeat' with_reducible refine And.intro ?_ ?_) <;> (try (with_reducible refine hK _ ?_; clear hK K))))
    | ((first | refine acallH_sc (keep_c ⟨3, 0, keepS (l.take k)⟩ (l.getD k default) (by simp only; omega) hr) rfl rfl ?_ ?_ ?_ | refine acallH_sc (ref_keep_c ⟨3, 0, keepS (l.take k)⟩ (l.getD k default) (by simp only; omega) hr) rfl rfl ?_ ?_ ?_ | refine acallH_sc (ref_copied_c ⟨3, 0, keepS (l.take k)⟩ (by simp only; omega)) rfl rfl ?_ ?_ ?_ | refine acallH_sc (look_c ⟨3, 0, keepS (l.take k)⟩ p (by simp only; omega) hr) rfl rfl ?_ ?_ ?_ | refine acallH_sc (ref_look_c ⟨3, 0, keepS (l.take k)⟩ p (by simp only; omega) hr) rfl rfl ?_ ?_ ?_ | refine acallH_sc (same_client_c ⟨3, 0, keepS (l.take k)⟩ ⟨3, 0, keepS (l.take k)⟩ (by simp only; omega) (by simp only; omega)) rfl rfl ?_ ?_ ?_ | refine acallH_sc (tell_c ⟨3, 0, keepS (l.take k)⟩ ns (by simp only; omega) hn hr) rfl rfl ?_ ?_ ?_ | refine acallH_sc (ref_tell_c ⟨3, 0, keepS (l.take k)⟩ ns (by simp only; omega) hn hr) rfl rfl ?_ ?_ ?_ | refine acallH_sc (same_client_c ⟨3, 0, tellS 3 (keepS (l.take k)) ns⟩ ⟨3, 0, tellS 3 (keepS (l.take k)) ns⟩ (by simp only; omega) (by simp only; omega)) rfl rfl ?_ ?_ ?_ | refine acallH_sc (ends_c) rfl rfl ?_ ?_ ?_); (focus ((try simp (disch := omega) only [go_sem, wrap_n, AEntry.rgetD]) <;> (try omega) <;> fail)); (focus ((try simp (disch := omega) only [go_sem, wrap_n, AEntry.rgetD]) <;> (try omega) <;> fail)); ((try simp (disch := omega) only [go_sem, wrap_n, AEntry.rgetD]) <;> (repeat' with_reducible refine And.intro ?_ ?_) <;> (try (with_reducible refine hK _ ?_; clear hK K))))
    | ((first | refine acallQ_sc (keep_c ⟨3, 0, keepS (l.take k)⟩ (l.getD k default) (by simp only; omega) hr) rfl rfl ?_ ?_ ?_ | refine acallQ_sc (ref_keep_c ⟨3, 0, keepS (l.take k)⟩ (l.getD k default) (by simp only; omega) hr) rfl rfl ?_ ?_ ?_ | refine acallQ_sc (ref_copied_c ⟨3, 0, keepS (l.take k)⟩ (by simp only; omega)) rfl rfl ?_ ?_ ?_ | refine acallQ_sc (look_c ⟨3, 0, keepS (l.take k)⟩ p (by simp only; omega) hr) rfl rfl ?_ ?_ ?_ | refine acallQ_sc (ref_look_c ⟨3, 0, keepS (l.take k)⟩ p (by simp only; omega) hr) rfl rfl ?_ ?_ ?_ | refine acallQ_sc (same_client_c ⟨3, 0, keepS (l.take k)⟩ ⟨3, 0, keepS (l.take k)⟩ (by simp only; omega) (by simp only; omega)) rfl rfl ?_ ?_ ?_ | refine acallQ_sc (tell_c ⟨3, 0, keepS (l.take k)⟩ ns (by simp only; omega) hn hr) rfl rfl ?_ ?_ ?_ | refine acallQ_sc (ref_tell_c ⟨3, 0, keepS (l.take k)⟩ ns (by simp only; omega) hn hr) rfl rfl ?_ ?_ ?_ | refine acallQ_sc (same_client_c ⟨3, 0, tellS 3 (keepS (l.take k)) ns⟩ ⟨3, 0, tellS 3 (keepS (l.take k)) ns⟩ (by simp only; omega) (by simp only; omega)) rfl rfl ?_ ?_ ?_ | refine acallQ_sc (ends_c) rfl rfl ?_ ?_ ?_); (focus ((try simp (disch := omega) only [go_sem, wrap_n, AEntry.rgetD]) <;> (try omega) <;> fail)); (focus ((try simp (disch := omega) only [go_sem, wrap_n, AEntry.rgetD]) <;> (try omega) <;> fail)); ((try simp (disch := omega) only [go_sem, wrap_n, AEntry.rgetD]) <;> (repeat' with_reducible refine And.intro ?_ ?_) <;> (try (with_reducible refine hK _ ?_; clear hK K))))
    | ((first | refine acallH_anyr (keep_c ⟨3, 0, keepS (l.take k)⟩ (l.getD k default) (by simp only; omega) hr) rfl ?_ ?_ | refine acallH_anyr (ref_keep_c ⟨3, 0, keepS (l.take k)⟩ (l.getD k default) (by simp only; omega) hr) rfl ?_ ?_ | refine acallH_anyr (ref_copied_c ⟨3, 0, keepS (l.take k)⟩ (by simp only; omega)) rfl ?_ ?_ | refine acallH_anyr (look_c ⟨3, 0, keepS (l.take k)⟩ p (by simp only; omega) hr) rfl ?_ ?_ | refine acallH_anyr (ref_look_c ⟨3, 0, keepS (l.take k)⟩ p (by simp only; omega) hr) rfl ?_ ?_ | refine acallH_anyr (same_client_c ⟨3, 0, keepS (l.take k)⟩ ⟨3, 0, keepS (l.take k)⟩ (by simp only; omega) (by simp only; omega)) rfl ?_ ?_ | refine acallH_anyr (tell_c ⟨3, 0, keepS (l.take k)⟩ ns (by simp only; omega) hn hr) rfl ?_ ?_ | refine acallH_anyr (ref_tell_c ⟨3, 0, keepS (l.take k)⟩ ns (by simp only; omega) hn hr) rfl ?_ ?_ | refine acallH_anyr (same_client_c ⟨3, 0, tellS 3 (keepS (l.take k)) ns⟩ ⟨3, 0, tellS 3 (keepS (l.take k)) ns⟩ (by simp only; omega) (by simp only; omega)) rfl ?_ ?_ | refine acallH_anyr (ends_c) rfl ?_ ?_); (focus ((try simp (disch := omega) only [go_sem, wrap_n, AEntry.rgetD]) <;> (try omega) <;> fail)); ((try simp (disch := omega) only [go_sem, wrap_n, AEntry.rgetD]) <;> (repeat' with_reducible refine And.intro ?_ ?_) <;> (try (with_reducible refine hK _ ?_; clear hK K))))
    | ((first | refine acallH_scx (keep_c ⟨3, 0, keepS (l.take k)⟩ (l.getD k default) (by simp only; omega) hr) rfl ?_ ?_ | refine acallQ_scx (keep_c ⟨3, 0, keepS (l.take k)⟩ (l.getD k default) (by simp only; omega) hr) rfl ?_ ?_ | refine acallH_anyx (keep_c ⟨3, 0, keepS (l.take k)⟩ (l.getD k default) (by simp only; omega) hr) ?_ ?_); (focus ((try simp (disch := omega) only [go_sem, wrap_n, AEntry.rgetD]) <;> (try omega) <;> fail)); ((try simp (disch := omega) only [go_sem, wrap_n, AEntry.rgetD]) <;> (repeat' with_reducible refine And.intro ?_ ?_) <;> (try (with_reducible refine hK _ ?_; clear hK K))))
    | ((first | refine acallH_scx (ref_keep_c ⟨3, 0, keepS (l.take k)⟩ (l.getD k default) (by simp only; omega) hr) rfl ?_ ?_ | refine acallQ_scx (ref_keep_c ⟨3, 0, keepS (l.take k)⟩ (l.getD k default) (by simp only; omega) hr) rfl ?_ ?_ | refine acallH_anyx (ref_keep_c ⟨3, 0, keepS (l.take k)⟩ (l.getD k default) (by simp only; omega) hr) ?_ ?_); (focus ((try simp (disch := omega) only [go_sem, wrap_n, AEntry.rgetD]) <;> (try omega) <;> fail)); ((try simp (disch := omega) only [go_sem, wrap_n, AEntry.rgetD]) <;> (repeat' with_reducible refine And.intro ?_ ?_) <;> (try (with_reducible refine hK _ ?_; clear hK K))))
    | ((first | refine acallH_scx (ref_copied_c ⟨3, 0, keepS (l.take k)⟩ (by simp only; omega)) rfl ?_ ?_ | refine acallQ_scx (ref_copied_c ⟨3, 0, keepS (l.take k)⟩ (by simp only; omega)) rfl ?_ ?_ | refine acallH_anyx (ref_copied_c ⟨3, 0, keepS (l.take k)⟩ (by simp only; omega)) ?_ ?_); (focus ((try simp (disch := omega) only [go_sem, wrap_n, AEntry.rgetD]) <;> (try omega) <;> fail)); ((try simp (disch := omega) only [go_sem, wrap_n, AEntry.rgetD]) <;> (repeat' with_reducible refine And.intro ?_ ?_) <;> (try (with_reducible refine hK _ ?_; clear hK K))))
    | ((first | refine acallH_scx (look_c ⟨3, 0, keepS (l.take k)⟩ p (by simp only; omega) hr) rfl ?_ ?_ | refine acallQ_scx (look_c ⟨3, 0, keepS (l.take k)⟩ p (by simp only; omega) hr) rfl ?_ ?_ | refine acallH_anyx (look_c ⟨3, 0, keepS (l.take k)⟩ p (by simp only; omega) hr) ?_ ?_); (focus ((try simp (disch := omega) only [go_sem, wrap_n, AEntry.rgetD]) <;> (try omega) <;> fail)); ((try simp (disch := omega) only [go_sem, wrap_n, AEntry.rgetD]) <;> (repeat' with_reducible refine And.intro ?_ ?_) <;> (try (with_reducible refine hK _ ?_; clear hK K))))
    | ((first | refine acallH_scx (ref_look_c ⟨3, 0, keepS (l.take k)⟩ p (by simp only; omega) hr) rfl ?_ ?_ | refine acallQ_scx (ref_look_c ⟨3, 0, keepS (l.take k)⟩ p (by simp only; omega) hr) rfl ?_ ?_ | refine acallH_anyx (ref_look_c ⟨3, 0, keepS (l.take k)⟩ p (by simp only; omega) hr) ?_ ?_); (focus ((try simp (disch := omega) only [go_sem, wrap_n, AEntry.rgetD]) <;> (try omega) <;> fail)); ((try simp (disch := omega) only [go_sem, wrap_n, AEntry.rgetD]) <;> (repeat' with_reducible refine And.intro ?_ ?_) <;> (try (with_reducible refine hK _ ?_; clear hK K))))
    | ((first | refine acallH_scx (same_client_c ⟨3, 0, keepS (l.take k)⟩ ⟨3, 0, keepS (l.take k)⟩ (by simp only; omega) (by simp only; omega)) rfl ?_ ?_ | refine acallQ_scx (same_client_c ⟨3, 0, keepS (l.take k)⟩ ⟨3, 0, keepS (l.take k)⟩ (by simp only; omega) (by simp only; omega)) rfl ?_ ?_ | refine acallH_anyx (same_client_c ⟨3, 0, keepS (l.take k)⟩ ⟨3, 0, keepS (l.take k)⟩ (by simp only; omega) (by simp only; omega)) ?_ ?_); (focus ((try simp (disch := omega) only [go_sem, wrap_n, AEntry.rgetD]) <;> (try omega) <;> fail)); ((try simp (disch := omega) only [go_sem, wrap_n, AEntry.rgetD]) <;> (repeat' with_reducible refine And.intro ?_ ?_) <;> (try (with_reducible refine hK _ ?_; clear hK K))))
    | ((first | refine acallH_scx (tell_c ⟨3, 0, keepS (l.take k)⟩ ns (by simp only; omega) hn hr) rfl ?_ ?_ | refine acallQ_scx (tell_c ⟨3, 0, keepS (l.take k)⟩ ns (by simp only; omega) hn hr) rfl ?_ ?_ | refine acallH_anyx (tell_c ⟨3, 0, keepS (l.take k)⟩ ns (by simp only; omega) hn hr) ?_ ?_); (focus ((try simp (disch := omega) only [go_sem, wrap_n, AEntry.rgetD]) <;> (try omega) <;> fail)); ((try simp (disch := omega) only [go_sem, wrap_n, AEntry.rgetD]) <;> (repeat' with_reducible refine And.intro ?_ ?_) <;> (try (with_reducible refine hK _ ?_; clear hK K))))
    | ((first | refine acallH_scx (ref_tell_c ⟨3, 0, keepS (l.take k)⟩ ns (by simp only; omega) hn hr) rfl ?_ ?_ | refine acallQ_scx (ref_tell_c ⟨3, 0, keepS (l.take k)⟩ ns (by simp only; omega) hn hr) rfl ?_ ?_ | refine acallH_anyx (ref_tell_c ⟨3, 0, keepS (l.take k)⟩ ns (by simp only; omega) hn hr) ?_ ?_); (focus ((try simp (disch := omega) only [go_sem, wrap_n, AEntry.rgetD]) <;> (try omega) <;> fail)); ((try simp (disch := omega) only [go_sem, wrap_n, AEntry.rgetD]) <;> (repeat' with_reducible refine And.intro ?_ ?_) <;> (try (with_reducible refine hK _ ?_; clear hK K))))
    | ((first | refine acallH_scx (same_client_c ⟨3, 0, tellS 3 (keepS (l.take k)) ns⟩ ⟨3, 0, tellS 3 (keepS (l.take k)) ns⟩ (by simp only; omega) (by simp only; omega)) rfl ?_ ?_ | refine acallQ_scx (same_client_c ⟨3, 0, tellS 3 (keepS (l.take k)) ns⟩ ⟨3, 0, tellS 3 (keepS (l.take k)) ns⟩ (by simp only; omega) (by simp only; omega)) rfl ?_ ?_ | refine acallH_anyx (same_client_c ⟨3, 0, tellS 3 (keepS (l.take k)) ns⟩ ⟨3, 0, tellS 3 (keepS (l.take k)) ns⟩ (by simp only; omega) (by simp only; omega)) ?_ ?_); (focus ((try simp (disch := omega) only [go_sem, wrap_n, AEntry.rgetD]) <;> (try omega) <;> fail)); ((try simp (disch := omega) only [go_sem, wrap_n, AEntry.rgetD]) <;> (repeat' with_reducible refine And.intro ?_ ?_) <;> (try (with_reducible refine hK _ ?_; clear hK K))))
    | ((first | refine acallH_scx (ends_c) rfl ?_ ?_ | refine acallQ_scx (ends_c) rfl ?_ ?_ | refine acallH_anyx (ends_c) ?_ ?_); (focus ((try simp (disch := omega) only [go_sem, wrap_n, AEntry.rgetD]) <;> (try omega) <;> fail)); ((try simp (disch := omega) only [go_sem, wrap_n, AEntry.rgetD]) <;> (repeat' with_reducible refine And.intro ?_ ?_) <;> (try (with_reducible refine hK _ ?_; clear hK K))))
    | ((first | (with_reducible refine aunder_i ?_ ?_ <;> intro hg) | with_reducible intro hg) <;> (first | (exfalso; simp at hg; done) | (have hg' := hg; (try simp only [decide_eq_true_eq, decide_eq_false_iff_not, Bool.and_eq_true, Bool.or_eq_true, Bool.or_eq_false_iff, Bool.and_eq_false_iff, Bool.not_eq_true', Bool.not_eq_false', Bool.true_eq_false, Bool.false_eq_true, Bool.not_eq_true, Bool.not_eq_false, Int.not_lt, Int.not_le, Nat.not_lt, Nat.not_le, Int.ofNat_lt, Int.ofNat_le, Int.natCast_eq_zero, not_true_eq_false, not_false_eq_true, beq_iff_eq, Bool.not_true, Bool.not_false, ge_iff_le, gt_iff_lt] at hg'); ((try simp (disch := omega) only [hg, go_sem, wrap_n, AEntry.rgetD]) <;> (repeat' with_reducible refine And.intro ?_ ?_) <;> (try (with_reducible refine hK _ ?_; clear hK K))))))
                                                            | omega
  any_goals (refine ⟨k + 1, ⟨by omega, by omega⟩, by omega, ?_⟩; rw [keepS_snoc _ _ (by omega)]; (refine SImp.same ?_; simp (disch := omega) only [go_sem, wrap_n, Int.natCast_add, true_and]))
  all_goals (refine aend_retc ?_ rfl ?_ ?_ ?_ ?_; (focus (first | exact .inl rfl | exact .inr rfl)); (focus ((try simp (disch := omega) only [go_sem, wrap_n, true_and]) <;> (try omega) <;> fail)); (focus ((try simp (disch := omega) only [go_sem, wrap_n, true_and]) <;> (try omega) <;> fail)); (focus ((try simp (disch := omega) only [go_sem, wrap_n, true_and]) <;> (try omega) <;> fail)); (try simp (disch := omega) only [go_sem, wrap_n, true_and, I, B, S, AV.d.injEq, DV.int.injEq, DV.bool.injEq, DV.str.injEq, DV.sl.injEq, AV.tup.injEq, AV.agg.injEq, List.cons.injEq, and_true, true_and, and_self]))
theorem clientKeeps_c (dss : List (List DV)) (h : typeds T 6 Try.f4.params.toList dss) : acall Try.prog [] 4 (aargs T Try.f4.params.toList dss) (fun v _ => v = B true) := by
  rw [Try.params4] at h ⊢
  simp only [List.toList_toArray, typeds] at h
  obtain ⟨c0, d0, rfl, h0, c1, d1, rfl, h1, c2, d2, rfl, h2, rfl⟩ := h
  obtain ⟨l, rfl, v_l, w_l⟩ := ty_sl (m := 5) (e := 38) (sz := 3) (by_ := 40) (f := AEntry.row) (wf := AEntry.wf) (by simp only [T_32, ty32]) (by simp only [T_38, ty38]) (by simp only [T_38, ty38]) (fun r hr => AEntry_typed (m := 3) hr) h0
  obtain ⟨p, rfl, w_p⟩ := ty_str (m := 5) (by simp only [T_9, ty9]) h1
  obtain ⟨ns, rfl, v_ns, w_ns⟩ := ty_sl (m := 5) (e := 60) (sz := 3) (by_ := 32) (f := ANote.row) (wf := ANote.wf) (by simp only [T_33, ty33]) (by simp only [T_60, ty60]) (by simp only [T_60, ty60]) (fun r hr => ANote_typed (m := 2) hr) h2
  simp only [List.toList_toArray, aargs, aarg, TI.agg_mk, T_9, ty9, T_32, ty32, T_33, ty33]
  exact (clientKeeps_b l p ns v_l v_ns).mono fun _ _ h => h.1
end Go.Proofs.Ytecbkeddfjalcaa
