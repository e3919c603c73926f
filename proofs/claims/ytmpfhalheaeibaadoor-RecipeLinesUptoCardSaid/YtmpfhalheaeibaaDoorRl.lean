/- Contracts of recipe.Line, Holder, Before and their references, and the law. No condition. -/
import Derived.Test.YtmpfhalheaeibaaDoorRd
namespace Go.Proofs.YtmpfhalheaeibaaDoor
set_option linter.unusedVariables false
set_option linter.unusedSimpArgs false
open Go Go.RowKit
set_option maxRecDepth 100000
set_option linter.unusedSimpArgs false

def dgt (c : UInt8) : Bool := decide (48 ≤ c.toNat ∧ c.toNat ≤ 57)
/-- Is a step a name and ten digits behind it? -/
def serOk (step name : List UInt8) : Bool := decide (name.length ≤ step.length ∧ step.take name.length = name) && (decide (step.length = name.length + 10) && (step.drop name.length).all dgt)
theorem wrapL_u8c (c : UInt8) (h : 48 ≤ c.toNat) : IntKind.u8.wrap ((c.toNat : Int) - 48) = ((c.toNat - 48 : Nat) : Int) := by
  have := c.toNat_lt
  simp [IntKind.wrap, IntKind.bits, IntKind.signed]; omega
def serN (l : List UInt8) : Nat := l.foldl (fun v c => v * 10 + (c.toNat - 48)) 0
theorem serN_snoc (t : List UInt8) (k : Nat) (h : k < t.length) : serN (t.take (k + 1)) = serN (t.take k) * 10 + ((t.getD k 0).toNat - 48) := by
  unfold serN
  have : t.take (k + 1) = t.take k ++ [t.getD k 0] := take_snoc t k h
  rw [this, List.foldl_append]; rfl
theorem serN_lt (t : List UInt8) : ∀ k, k ≤ t.length → (∀ j, j < k → dgt (t.getD j 0) = true) → serN (t.take k) < 10 ^ k
  | 0, _, _ => by simp [serN]
  | k + 1, h, hd => by
    have h1 := serN_lt t k (by omega) (fun j hj => hd j (by omega))
    have h2 := hd k (by omega)
    unfold dgt at h2
    rw [decide_eq_true_eq] at h2
    rw [serN_snoc t k (by omega), Nat.pow_succ]; omega
def serR (step name : List UInt8) : Int := if serOk step name = true then (serN (step.drop name.length) : Nat) else 0
theorem serial_ok_c (step name : List UInt8) (hs : okS step) (hn : okS name) : acall Tryd.prog [] 98 [S step, S name] (ret (.tup [I (serR step name), B (serOk step name)])) := by
  have hs' := hs
  unfold okS at hs'
  by_cases h1 : name.length ≤ step.length ∧ step.take name.length = name
  case neg =>
    have e : serOk step name = false := by unfold serOk; rw [decide_eq_false h1]; rfl
    unfold serR
    rw [e]
    refine acall_of tabOk Tryd.func98 rfl (by kernel_rfl) (by simp [Tryd.ntmps98]) ?_; simp only [Tryd.ntmps98, Tryd.results98, List.toList_toArray, apar, List.length_nil, List.length_cons, Nat.reduceAdd]
    repeat' first
      | (with_reducible first | refine AWP.seq ?_ | refine thenA_n ?_ | refine thenA_r ?_ | refine thenA_e ?_ | refine blkA_n ?_ | refine blkA_r ?_ | refine blkA_e ?_ | refine blkA_x (by decide) ?_ | refine AWP.skip ?_ | refine AWP.ret ?_ | refine AWP.exit ?_ | refine AWP.block ?_)
      | (with_reducible refine AWP.cond rfl ?_ ?_ <;> intro hc <;> (try simp only [hcs, beq_iff_eq, ge_iff_le, gt_iff_lt] at hc))
      | ((first
        | (with_reducible first | refine AWP.region tabOk ?_ | refine AWP.quietC mixed tabOk (by decide +kernel) ?_ | refine AWP.draw mixed tabOk (by decide +kernel) ?_ | refine AWP.drawE mixed tabOk (by decide +kernel) ?_ | refine AWP.drawG mixed tabOk (by decide +kernel) ?_); intro K hK
        | ((first | refine acallH_sc ((hasPrefixL_c step name hn hs).re (congrArg B (decide_eq_false h1))) rfl rfl ?_ ?_ ?_ | refine acallQ_sc ((hasPrefixL_c step name hn hs).re (congrArg B (decide_eq_false h1))) rfl rfl ?_ ?_ ?_); iterate 2 (focus ((try simp (disch := omega) only [go_sem, wrap_n]) <;> (try omega) <;> fail)))
        | ((first | refine acallH_anyr ((hasPrefixL_c step name hn hs).re (congrArg B (decide_eq_false h1))) rfl ?_ ?_); (focus ((try simp (disch := omega) only [go_sem, wrap_n]) <;> (try omega) <;> fail)))
        | ((first | refine acallH_scx ((hasPrefixL_c step name hn hs).re (congrArg B (decide_eq_false h1))) rfl ?_ ?_ | refine acallQ_scx ((hasPrefixL_c step name hn hs).re (congrArg B (decide_eq_false h1))) rfl ?_ ?_ | refine acallH_anyx ((hasPrefixL_c step name hn hs).re (congrArg B (decide_eq_false h1))) ?_ ?_); (focus ((try simp (disch := omega) only [go_sem, wrap_n]) <;> (try omega) <;> fail)))); ((try simp (disch := omega) only [go_sem, wrap_n]) <;> (repeat' with_reducible refine And.intro ?_ ?_) <;> (try (with_reducible refine hK _ ?_; clear hK K))))
      | (refine acallHK_in fun Kk hKk => (acall_of tabOk Tryd.func147 rfl (by kernel_rfl) (by simp [Tryd.ntmps147]) ?_); simp only [Tryd.ntmps147, Tryd.results147, List.toList_toArray, apar, List.length_nil, List.length_cons, Nat.reduceAdd, List.length_append, List.length_set, go_sem])
      | (refine acallHK_in fun Kk hKk => (acall_of tabOk Tryd.func173 rfl (by kernel_rfl) (by simp [Tryd.ntmps173]) ?_); simp only [Tryd.ntmps173, Tryd.results173, List.toList_toArray, apar, List.length_nil, List.length_cons, Nat.reduceAdd, List.length_append, List.length_set, go_sem])
      | (refine aend_in (v := ?_) hKk (by first | exact .inl rfl | exact .inr rfl) ?_ ?_ ?_; rotate_left; (focus ((try simp (disch := omega) only [go_sem, wrap_n]) <;> (try omega) <;> fail)); (focus ((try simp (disch := omega) only [go_sem, wrap_n]) <;> (first | done | exact rfl))); clear hKk Kk; ((try simp (disch := omega) only [go_sem, wrap_n]) <;> (repeat' with_reducible refine And.intro ?_ ?_) <;> (try (with_reducible refine hK _ ?_; clear hK K))))
      | ((first | (with_reducible refine aunder_i ?_ ?_ <;> intro hg) | with_reducible intro hg) <;> (first | (exfalso; simp at hg; done) | (have hg' := hg; (try simp only [hcs, beq_iff_eq, ge_iff_le, gt_iff_lt] at hg'); ((try simp (disch := omega) only [hg, go_sem, wrap_n]) <;> (repeat' with_reducible refine And.intro ?_ ?_) <;> (try (with_reducible refine hK _ ?_; clear hK K))))))
                                                              | omega
    all_goals (refine aend_retc ?_ rfl ?_ ?_ ?_ ?_; (focus (first | exact .inl rfl | exact .inr rfl)); (iterate 3 (focus ((try simp (disch := omega) only [go_sem, wrap_n]) <;> (try omega) <;> fail))); (try simp (disch := omega) only [go_sem, wrap_n, I, B, S, inj, List.cons.injEq, and_true, true_and, and_self]))
  have hlen := h1.1
  generalize hd : step.drop name.length = s
  have hsl : s.length = step.length - name.length := by rw [← hd, List.length_drop]
  have ed : List.take (step.length - name.length) (List.drop name.length step) = s := by rw [hd, List.take_of_length_le (by omega)]
  by_cases h2 : s.length = 10
  case neg =>
    have e : serOk step name = false := by unfold serOk; rw [decide_eq_false (p := step.length = name.length + 10) (by omega), Bool.false_and, Bool.and_false]
    unfold serR
    rw [e]
    refine acall_of tabOk Tryd.func98 rfl (by kernel_rfl) (by simp [Tryd.ntmps98]) ?_; simp only [Tryd.ntmps98, Tryd.results98, List.toList_toArray, apar, List.length_nil, List.length_cons, Nat.reduceAdd]
    repeat' first
      | (with_reducible first | refine AWP.seq ?_ | refine thenA_n ?_ | refine thenA_r ?_ | refine thenA_e ?_ | refine blkA_n ?_ | refine blkA_r ?_ | refine blkA_e ?_ | refine blkA_x (by decide) ?_ | refine AWP.skip ?_ | refine AWP.ret ?_ | refine AWP.exit ?_ | refine AWP.block ?_)
      | (with_reducible refine AWP.cond rfl ?_ ?_ <;> intro hc <;> (try simp only [hcs, beq_iff_eq, ge_iff_le, gt_iff_lt] at hc))
      | ((first
        | (with_reducible first | refine AWP.region tabOk ?_ | refine AWP.quietC mixed tabOk (by decide +kernel) ?_ | refine AWP.draw mixed tabOk (by decide +kernel) ?_ | refine AWP.drawE mixed tabOk (by decide +kernel) ?_ | refine AWP.drawG mixed tabOk (by decide +kernel) ?_); intro K hK
        | ((first | refine acallH_sc ((hasPrefixL_c step name hn hs).re (congrArg B (decide_eq_true h1))) rfl rfl ?_ ?_ ?_ | refine acallQ_sc ((hasPrefixL_c step name hn hs).re (congrArg B (decide_eq_true h1))) rfl rfl ?_ ?_ ?_); iterate 2 (focus ((try simp (disch := omega) only [go_sem, wrap_n, ed]) <;> (try omega) <;> fail)))
        | ((first | refine acallH_anyr ((hasPrefixL_c step name hn hs).re (congrArg B (decide_eq_true h1))) rfl ?_ ?_); (focus ((try simp (disch := omega) only [go_sem, wrap_n, ed]) <;> (try omega) <;> fail)))
        | ((first | refine acallH_scx ((hasPrefixL_c step name hn hs).re (congrArg B (decide_eq_true h1))) rfl ?_ ?_ | refine acallQ_scx ((hasPrefixL_c step name hn hs).re (congrArg B (decide_eq_true h1))) rfl ?_ ?_ | refine acallH_anyx ((hasPrefixL_c step name hn hs).re (congrArg B (decide_eq_true h1))) ?_ ?_); (focus ((try simp (disch := omega) only [go_sem, wrap_n, ed]) <;> (try omega) <;> fail)))); ((try simp (disch := omega) only [go_sem, wrap_n, ed]) <;> (repeat' with_reducible refine And.intro ?_ ?_) <;> (try (with_reducible refine hK _ ?_; clear hK K))))
      | (refine acallHK_in fun Kk hKk => (acall_of tabOk Tryd.func147 rfl (by kernel_rfl) (by simp [Tryd.ntmps147]) ?_); simp only [Tryd.ntmps147, Tryd.results147, List.toList_toArray, apar, List.length_nil, List.length_cons, Nat.reduceAdd, List.length_append, List.length_set, go_sem])
      | (refine acallHK_in fun Kk hKk => (acall_of tabOk Tryd.func173 rfl (by kernel_rfl) (by simp [Tryd.ntmps173]) ?_); simp only [Tryd.ntmps173, Tryd.results173, List.toList_toArray, apar, List.length_nil, List.length_cons, Nat.reduceAdd, List.length_append, List.length_set, go_sem])
      | (refine aend_in (v := ?_) hKk (by first | exact .inl rfl | exact .inr rfl) ?_ ?_ ?_; rotate_left; (focus ((try simp (disch := omega) only [go_sem, wrap_n, ed]) <;> (try omega) <;> fail)); (focus ((try simp (disch := omega) only [go_sem, wrap_n, ed]) <;> (first | done | exact rfl))); clear hKk Kk; ((try simp (disch := omega) only [go_sem, wrap_n, ed]) <;> (repeat' with_reducible refine And.intro ?_ ?_) <;> (try (with_reducible refine hK _ ?_; clear hK K))))
      | ((first | (with_reducible refine aunder_i ?_ ?_ <;> intro hg) | with_reducible intro hg) <;> (first | (exfalso; simp at hg; done) | (have hg' := hg; (try simp only [hcs, beq_iff_eq, ge_iff_le, gt_iff_lt] at hg'); ((try simp (disch := omega) only [hg, go_sem, wrap_n, ed]) <;> (repeat' with_reducible refine And.intro ?_ ?_) <;> (try (with_reducible refine hK _ ?_; clear hK K))))))
                                                              | omega
    (refine aend_retc ?_ rfl ?_ ?_ ?_ ?_; (focus (first | exact .inl rfl | exact .inr rfl)); (iterate 3 (focus ((try simp (disch := omega) only [go_sem, wrap_n]) <;> (try omega) <;> fail))); (try simp (disch := omega) only [go_sem, wrap_n, I, B, S, inj, List.cons.injEq, and_true, true_and, and_self]))
  have e : serOk step name = s.all dgt := by unfold serOk; rw [decide_eq_true h1, decide_eq_true (p := step.length = name.length + 10) (by omega), hd, Bool.true_and, Bool.true_and]
  unfold serR
  rw [e, hd]
  refine acall_of tabOk Tryd.func98 rfl (by kernel_rfl) (by simp [Tryd.ntmps98]) ?_; simp only [Tryd.ntmps98, Tryd.results98, List.toList_toArray, apar, List.length_nil, List.length_cons, Nat.reduceAdd]
  repeat' first
    | (with_reducible first | refine AWP.seq ?_ | refine thenA_n ?_ | refine thenA_r ?_ | refine thenA_e ?_ | refine blkA_n ?_ | refine blkA_r ?_ | refine blkA_e ?_ | refine blkA_x (by decide) ?_ | refine AWP.skip ?_ | refine AWP.ret ?_ | refine AWP.exit ?_ | refine AWP.block ?_)
    | (with_reducible refine AWP.cond rfl ?_ ?_ <;> intro hc <;> (try simp only [hcs, beq_iff_eq, ge_iff_le, gt_iff_lt] at hc))
    | ((first
      | (with_reducible first | refine AWP.region tabOk ?_ | refine AWP.quietC mixed tabOk (by decide +kernel) ?_ | refine AWP.draw mixed tabOk (by decide +kernel) ?_ | refine AWP.drawE mixed tabOk (by decide +kernel) ?_ | refine AWP.drawG mixed tabOk (by decide +kernel) ?_); intro K hK
      | ((first | refine acallH_sc ((hasPrefixL_c step name hn hs).re (congrArg B (decide_eq_true h1))) rfl rfl ?_ ?_ ?_ | refine acallQ_sc ((hasPrefixL_c step name hn hs).re (congrArg B (decide_eq_true h1))) rfl rfl ?_ ?_ ?_); iterate 2 (focus ((try simp (disch := omega) only [go_sem, wrap_n, ed]) <;> (try omega) <;> fail)))
      | ((first | refine acallH_anyr ((hasPrefixL_c step name hn hs).re (congrArg B (decide_eq_true h1))) rfl ?_ ?_); (focus ((try simp (disch := omega) only [go_sem, wrap_n, ed]) <;> (try omega) <;> fail)))
      | ((first | refine acallH_scx ((hasPrefixL_c step name hn hs).re (congrArg B (decide_eq_true h1))) rfl ?_ ?_ | refine acallQ_scx ((hasPrefixL_c step name hn hs).re (congrArg B (decide_eq_true h1))) rfl ?_ ?_ | refine acallH_anyx ((hasPrefixL_c step name hn hs).re (congrArg B (decide_eq_true h1))) ?_ ?_); (focus ((try simp (disch := omega) only [go_sem, wrap_n, ed]) <;> (try omega) <;> fail)))); ((try simp (disch := omega) only [go_sem, wrap_n, ed]) <;> (repeat' with_reducible refine And.intro ?_ ?_) <;> (try (with_reducible refine hK _ ?_; clear hK K))))
    | (refine acallHK_in fun Kk hKk => (acall_of tabOk Tryd.func147 rfl (by kernel_rfl) (by simp [Tryd.ntmps147]) ?_); simp only [Tryd.ntmps147, Tryd.results147, List.toList_toArray, apar, List.length_nil, List.length_cons, Nat.reduceAdd, List.length_append, List.length_set, go_sem])
    | (refine acallHK_in fun Kk hKk => (acall_of tabOk Tryd.func173 rfl (by kernel_rfl) (by simp [Tryd.ntmps173]) ?_); simp only [Tryd.ntmps173, Tryd.results173, List.toList_toArray, apar, List.length_nil, List.length_cons, Nat.reduceAdd, List.length_append, List.length_set, go_sem])
    | (refine aend_in (v := ?_) hKk (by first | exact .inl rfl | exact .inr rfl) ?_ ?_ ?_; rotate_left; (focus ((try simp (disch := omega) only [go_sem, wrap_n, ed]) <;> (try omega) <;> fail)); (focus ((try simp (disch := omega) only [go_sem, wrap_n, ed]) <;> (first | done | exact rfl))); clear hKk Kk; ((try simp (disch := omega) only [go_sem, wrap_n, ed]) <;> (repeat' with_reducible refine And.intro ?_ ?_) <;> (try (with_reducible refine hK _ ?_; clear hK K))))
    | ((first | (with_reducible refine aunder_i ?_ ?_ <;> intro hg) | with_reducible intro hg) <;> (first | (exfalso; simp at hg; done) | (have hg' := hg; (try simp only [hcs, beq_iff_eq, ge_iff_le, gt_iff_lt] at hg'); ((try simp (disch := omega) only [hg, go_sem, wrap_n, ed]) <;> (repeat' with_reducible refine And.intro ?_ ?_) <;> (try (with_reducible refine hK _ ?_; clear hK K))))))
                                                            | omega
  refine AWP.loopB (ι := Nat) (fun k => k ≤ s.length ∧ ∀ j, j < k → dgt (s.getD j 0) = true) (fun k => s.length - k) [25, 26] (fun k => [(27, I k), (8, I (serN (s.take k) : Nat))]) (fun k => [.bytes s]) 0 ?_ ?_ ?_
  · exact ⟨by omega, fun j hj => by omega⟩
  · simp only [go_sem, List.take_zero, serN, List.foldl_nil]; (refine SImp.same ?_; simp (disch := omega) only [go_sem, wrap_n, Int.natCast_add])
  intro k ⟨hk, hk2⟩
  have hv := serN_lt s k hk hk2
  have hp10 : 10 ^ k ≤ 10 ^ 10 := Nat.pow_le_pow_right (by decide) (by omega)
  have hb := (s.getD k 0).toNat_lt
  simp only [go_sem]
  by_cases hdk : dgt (s.getD k 0) = true
  · have hd2 := hdk
    unfold dgt at hd2
    rw [decide_eq_true_eq] at hd2
    have hw8 := wrapL_u8c (s.getD k 0) hd2.1
    repeat' first
      | (with_reducible first | refine AWP.seq ?_ | refine thenA_n ?_ | refine thenA_r ?_ | refine thenA_e ?_ | refine blkA_n ?_ | refine blkA_r ?_ | refine blkA_e ?_ | refine blkA_x (by decide) ?_ | refine AWP.skip ?_ | refine AWP.ret ?_ | refine AWP.exit ?_ | refine AWP.block ?_)
      | (with_reducible refine AWP.cond rfl ?_ ?_ <;> intro hc <;> (try simp only [hcs, beq_iff_eq, ge_iff_le, gt_iff_lt] at hc))
      | ((first
        | (with_reducible first | refine AWP.region tabOk ?_ | refine AWP.quietC mixed tabOk (by decide +kernel) ?_ | refine AWP.draw mixed tabOk (by decide +kernel) ?_ | refine AWP.drawE mixed tabOk (by decide +kernel) ?_ | refine AWP.drawG mixed tabOk (by decide +kernel) ?_); intro K hK); ((try simp (disch := omega) only [go_sem, wrap_n, u8g, hw8]) <;> (repeat' with_reducible refine And.intro ?_ ?_) <;> (try (with_reducible refine hK _ ?_; clear hK K))))
      | ((first | (with_reducible refine aunder_i ?_ ?_ <;> intro hg) | with_reducible intro hg) <;> (first | (exfalso; simp at hg; done) | (have hg' := hg; (try simp only [hcs, beq_iff_eq, ge_iff_le, gt_iff_lt] at hg'); ((try simp (disch := omega) only [hg, go_sem, wrap_n, u8g, hw8]) <;> (repeat' with_reducible refine And.intro ?_ ?_) <;> (try (with_reducible refine hK _ ?_; clear hK K))))))
                                                              | omega
    · refine ⟨k + 1, ⟨by omega, fun j hj => ?_⟩, by omega, ?_⟩
      · by_cases ej : j = k
        · subst ej; exact hdk
        · exact hk2 j (by omega)
      have en : ((serN (s.take (k + 1)) : Nat) : Int) = (serN (s.take k) : Int) * 10 + (((s.getD k 0).toNat - 48 : Nat) : Int) := by rw [serN_snoc s k (by omega)]; omega
      (refine SImp.same ?_; simp (disch := omega) only [go_sem, wrap_n, Int.natCast_add, hw8, en])
    · rw [all_full dgt s 0 (fun j hj => hk2 j (by omega)), show k = s.length from by omega, List.take_length]
      (refine aend_retc ?_ rfl ?_ ?_ ?_ ?_; (focus (first | exact .inl rfl | exact .inr rfl)); (iterate 3 (focus ((try simp (disch := omega) only [go_sem, wrap_n]) <;> (try omega) <;> fail))); (try simp (disch := omega) only [go_sem, wrap_n, I, B, S, inj, List.cons.injEq, and_true, true_and, and_self]))
  · have hd2 := hdk
    unfold dgt at hd2
    rw [decide_eq_true_eq] at hd2
    repeat' first
      | (with_reducible first | refine AWP.seq ?_ | refine thenA_n ?_ | refine thenA_r ?_ | refine thenA_e ?_ | refine blkA_n ?_ | refine blkA_r ?_ | refine blkA_e ?_ | refine blkA_x (by decide) ?_ | refine AWP.skip ?_ | refine AWP.ret ?_ | refine AWP.exit ?_ | refine AWP.block ?_)
      | (with_reducible refine AWP.cond rfl ?_ ?_ <;> intro hc <;> (try simp only [hcs, beq_iff_eq, ge_iff_le, gt_iff_lt] at hc))
      | ((first
        | (with_reducible first | refine AWP.region tabOk ?_ | refine AWP.quietC mixed tabOk (by decide +kernel) ?_ | refine AWP.draw mixed tabOk (by decide +kernel) ?_ | refine AWP.drawE mixed tabOk (by decide +kernel) ?_ | refine AWP.drawG mixed tabOk (by decide +kernel) ?_); intro K hK); ((try simp (disch := omega) only [go_sem, wrap_n, u8g]) <;> (repeat' with_reducible refine And.intro ?_ ?_) <;> (try (with_reducible refine hK _ ?_; clear hK K))))
      | ((first | (with_reducible refine aunder_i ?_ ?_ <;> intro hg) | with_reducible intro hg) <;> (first | (exfalso; simp at hg; done) | (have hg' := hg; (try simp only [hcs, beq_iff_eq, ge_iff_le, gt_iff_lt] at hg'); ((try simp (disch := omega) only [hg, go_sem, wrap_n, u8g]) <;> (repeat' with_reducible refine And.intro ?_ ?_) <;> (try (with_reducible refine hK _ ?_; clear hK K))))))
                                                              | omega
    · rw [all_not (d := 0) (by assumption : k < s.length) (by simpa using hdk)]
      (refine aend_retc ?_ rfl ?_ ?_ ?_ ?_; (focus (first | exact .inl rfl | exact .inr rfl)); (iterate 3 (focus ((try simp (disch := omega) only [go_sem, wrap_n]) <;> (try omega) <;> fail))); (try simp (disch := omega) only [go_sem, wrap_n, I, B, S, inj, List.cons.injEq, and_true, true_and, and_self]))
    · rw [all_full dgt s 0 (fun j hj => hk2 j (by omega)), show k = s.length from by omega, List.take_length]
      (refine aend_retc ?_ rfl ?_ ?_ ?_ ?_; (focus (first | exact .inl rfl | exact .inr rfl)); (iterate 3 (focus ((try simp (disch := omega) only [go_sem, wrap_n]) <;> (try omega) <;> fail))); (try simp (disch := omega) only [go_sem, wrap_n, I, B, S, inj, List.cons.injEq, and_true, true_and, and_self]))
/-- The steps of a line. -/
def lineL (ks : List (List UInt8)) (name : List UInt8) : List (List UInt8) := ks.filter fun k => serOk k name
theorem lineL_snoc (ks : List (List UInt8)) (name : List UInt8) (k : Nat) (h : k < ks.length) : lineL (ks.take (k + 1)) name = if serOk (ks.getD k []) name = true then lineL (ks.take k) name ++ [ks.getD k []] else lineL (ks.take k) name := by
  unfold lineL
  have : ks.take (k + 1) = ks.take k ++ [ks.getD k []] := take_snoc ks k h
  rw [this, List.filter_append]
  by_cases e : serOk (ks.getD k []) name = true
  · rw [if_pos e, List.filter_cons_of_pos (by simpa using e)]; rfl
  · rw [if_neg e, List.filter_cons_of_neg (by simpa using e), List.filter_nil, List.append_nil]
def lineT (t : ATree) (dir name : List UInt8) : List (List UInt8) × Int :=
  if (kidsT t dir).2 = 0 then (if name ≠ [] ∧ namedP name = false then ([], 2) else (lineL (kidsT t dir).1 name, 0)) else ([], (kidsT t dir).2)
theorem line_a {t : ATree} {dir name : List UInt8} (h : ¬ (kidsT t dir).2 = 0) : lineT t dir name = ([], (kidsT t dir).2) := by unfold lineT; rw [if_neg h]
theorem line_b {t : ATree} {dir name : List UInt8} (h : (kidsT t dir).2 = 0) (h2 : name ≠ [] ∧ namedP name = false) : lineT t dir name = ([], 2) := by unfold lineT; rw [if_pos h, if_pos h2]
theorem line_c {t : ATree} {dir name : List UInt8} (h : (kidsT t dir).2 = 0) (h2 : ¬ (name ≠ [] ∧ namedP name = false)) : lineT t dir name = (lineL (kidsT t dir).1 name, 0) := by unfold lineT; rw [if_pos h, if_neg h2]
theorem splitP_len (s : List UInt8) : (splitP s).1.2.length ≤ 200 := by
  unfold splitP
  split
  · rename_i hg
    split
    · exact Nat.zero_le _
    · show ((stepsOf s).getD _ []).length ≤ 200
      obtain ⟨h1, h2, h3, h4⟩ := good_path hg
      by_cases e : (stepsOf s).length - 1 < (stepsOf s).length
      · have := namedP_len (h2 _ (mem_getD _ [] e)); omega
      · rw [List.getD_eq_getElem?_getD, List.getElem?_eq_none (by omega)]; exact Nat.zero_le _
  · exact Nat.zero_le _
theorem kidsL_okS (t : ATree) (p : List UInt8) (n k : Nat) : ((kidsL t p n).getD k []).length ≤ 200 := by
  by_cases e : k < (kidsL t p n).length
  · have := mem_getD _ [] e
    unfold kidsL at this ⊢
    obtain ⟨x, _, hx⟩ := List.mem_map.1 this
    rw [← hx]; exact splitP_len _
  · rw [List.getD_eq_getElem?_getD, List.getElem?_eq_none (by omega)]; exact Nat.zero_le _
theorem kidsT_okS (t : ATree) (p : List UInt8) (k : Nat) : ((kidsT t p).1.getD k []).length ≤ 200 := by
  unfold kidsT; split
  · exact kidsL_okS t p _ k
  · exact Nat.zero_le _
theorem lineL_le (ks : List (List UInt8)) (name : List UInt8) : (lineL ks name).length ≤ ks.length := List.length_filter_le _ _
theorem line_ct (t : ATree) (dir name : List UInt8) (hw : t.wf) (hn : okS name) (hr : Rises (pathsT t)) : acall Tryd.prog [] 45 [t.av, S dir, S name] (ret (.tup [.d (.sl 1 ((lineT t dir name).1.map srow)), I (lineT t dir name).2])) := by
  have hkl := kidsT_len t dir hw.2.1.1
  refine acall_of tabOk Tryd.func45 rfl (by kernel_rfl) (by simp [Tryd.ntmps45]) ?_; simp only [Tryd.ntmps45, Tryd.results45, List.toList_toArray, apar, List.length_nil, List.length_cons, Nat.reduceAdd]
  repeat' first
    | (with_reducible first | refine AWP.seq ?_ | refine thenA_n ?_ | refine thenA_r ?_ | refine thenA_e ?_ | refine blkA_n ?_ | refine blkA_r ?_ | refine blkA_e ?_ | refine blkA_x (by decide) ?_ | refine AWP.skip ?_ | refine AWP.ret ?_ | refine AWP.exit ?_ | refine AWP.block ?_)
    | (with_reducible refine AWP.cond rfl ?_ ?_ <;> intro hc <;> (try simp only [hcs, beq_iff_eq, ge_iff_le, gt_iff_lt] at hc))
    | ((first
      | (with_reducible first | refine AWP.region tabOk ?_ | refine AWP.quietC mixed tabOk (by decide +kernel) ?_ | refine AWP.draw mixed tabOk (by decide +kernel) ?_ | refine AWP.drawE mixed tabOk (by decide +kernel) ?_ | refine AWP.drawG mixed tabOk (by decide +kernel) ?_); intro K hK
      | ((first | refine acallH_sc (kids_c t dir hw hr) rfl rfl ?_ ?_ ?_ | refine acallQ_sc (kids_c t dir hw hr) rfl rfl ?_ ?_ ?_ | refine acallH_sc (named_c name hn) rfl rfl ?_ ?_ ?_ | refine acallQ_sc (named_c name hn) rfl rfl ?_ ?_ ?_); iterate 2 (focus ((try simp (disch := omega) only [go_sem, wrap_n]) <;> (try omega) <;> fail)))
      | ((first | refine acallH_anyr (kids_c t dir hw hr) rfl ?_ ?_ | refine acallH_anyr (named_c name hn) rfl ?_ ?_); (focus ((try simp (disch := omega) only [go_sem, wrap_n]) <;> (try omega) <;> fail)))
      | ((first | refine acallH_scx (kids_c t dir hw hr) rfl ?_ ?_ | refine acallQ_scx (kids_c t dir hw hr) rfl ?_ ?_ | refine acallH_anyx (kids_c t dir hw hr) ?_ ?_); (focus ((try simp (disch := omega) only [go_sem, wrap_n]) <;> (try omega) <;> fail)))
      | ((first | refine acallH_scx (named_c name hn) rfl ?_ ?_ | refine acallQ_scx (named_c name hn) rfl ?_ ?_ | refine acallH_anyx (named_c name hn) ?_ ?_); (focus ((try simp (disch := omega) only [go_sem, wrap_n]) <;> (try omega) <;> fail)))); ((try simp (disch := omega) only [go_sem, wrap_n]) <;> (repeat' with_reducible refine And.intro ?_ ?_) <;> (try (with_reducible refine hK _ ?_; clear hK K))))
    | ((first | (with_reducible refine aunder_i ?_ ?_ <;> intro hg) | with_reducible intro hg) <;> (first | (exfalso; simp at hg; done) | (have hg' := hg; (try simp only [hcs, beq_iff_eq, ge_iff_le, gt_iff_lt] at hg'); ((try simp (disch := omega) only [hg, go_sem, wrap_n]) <;> (repeat' with_reducible refine And.intro ?_ ?_) <;> (try (with_reducible refine hK _ ?_; clear hK K))))))
                                                            | omega
  · rw [line_a (by assumption)]; (refine aend_retc ?_ rfl ?_ ?_ ?_ ?_; (focus (first | exact .inl rfl | exact .inr rfl)); (iterate 3 (focus ((try simp (disch := omega) only [go_sem, wrap_n]) <;> (try omega) <;> fail))); (try simp (disch := omega) only [go_sem, wrap_n, I, B, S, inj, List.cons.injEq, and_true, true_and, and_self]))
  · rw [line_b (by assumption) ⟨hg', hc⟩]; (refine aend_retc ?_ rfl ?_ ?_ ?_ ?_; (focus (first | exact .inl rfl | exact .inr rfl)); (iterate 3 (focus ((try simp (disch := omega) only [go_sem, wrap_n]) <;> (try omega) <;> fail))); (try simp (disch := omega) only [go_sem, wrap_n, I, B, S, inj, List.cons.injEq, and_true, true_and, and_self]))
  all_goals
    have hno : ¬ (name ≠ [] ∧ namedP name = false) := by first | exact fun ⟨_, b⟩ => by rw [hc] at b; cases b | exact fun ⟨a, _⟩ => a hg'
    rw [line_c (by assumption) hno]
    have hks := kidsT_okS t dir
    generalize (kidsT t dir).1 = ks at hks hkl
    refine AWP.weaken (SImp.nilOwn 10 1 rfl) ?_
    simp only [go_sem]
    refine AWP.loopB (ι := Nat) (fun k => k ≤ ks.length) (fun k => ks.length - k) [2, 31, 32] (fun k => [(33, I k), (10, .osl 1 1 0 (lineL (ks.take k) name).length)]) (fun k => [.cells [.d (.int .i64 t.zxid), .d (.sl 9 (t.nodes.map ANode.row)), .d (.sl 1 (t.sessions.map irow))], .rows 1 ((lineL (ks.take k) name).map srow)]) 0 ?_ ?_ ?_
    · omega
    · simp only [go_sem, lineL, List.filter_nil]; (refine SImp.same ?_; simp (disch := omega) only [go_sem, wrap_n, Int.natCast_add])
    intro k hk
    have hks1 : okS (ks.getD k []) := by have := hks k; unfold okS; omega
    have hll := lineL_le (ks.take k) name
    have hlt : (ks.take k).length ≤ ks.length := by rw [List.length_take]; omega
    simp only [go_sem]
    repeat' first
      | (with_reducible first | refine AWP.seq ?_ | refine thenA_n ?_ | refine thenA_r ?_ | refine thenA_e ?_ | refine blkA_n ?_ | refine blkA_r ?_ | refine blkA_e ?_ | refine blkA_x (by decide) ?_ | refine AWP.skip ?_ | refine AWP.ret ?_ | refine AWP.exit ?_ | refine AWP.block ?_)
      | (with_reducible refine AWP.cond rfl ?_ ?_ <;> intro hc <;> (try simp only [hcs, beq_iff_eq, ge_iff_le, gt_iff_lt] at hc))
      | ((first
        | (with_reducible first | refine AWP.region tabOk ?_ | refine AWP.quietC mixed tabOk (by decide +kernel) ?_ | refine AWP.draw mixed tabOk (by decide +kernel) ?_ | refine AWP.drawE mixed tabOk (by decide +kernel) ?_ | refine AWP.drawG mixed tabOk (by decide +kernel) ?_); intro K hK
        | ((first | refine acallH_sc (serial_ok_c _ _ hks1 hn) rfl rfl ?_ ?_ ?_ | refine acallQ_sc (serial_ok_c _ _ hks1 hn) rfl rfl ?_ ?_ ?_); iterate 2 (focus ((try simp (disch := omega) only [go_sem, wrap_n, srow_rgetD, srow_rsnoc, take_map_len]) <;> (try omega) <;> fail)))
        | ((first | refine acallH_anyr (serial_ok_c _ _ hks1 hn) rfl ?_ ?_); (focus ((try simp (disch := omega) only [go_sem, wrap_n, srow_rgetD, srow_rsnoc, take_map_len]) <;> (try omega) <;> fail)))
        | ((first | refine acallH_scx (serial_ok_c _ _ hks1 hn) rfl ?_ ?_ | refine acallQ_scx (serial_ok_c _ _ hks1 hn) rfl ?_ ?_ | refine acallH_anyx (serial_ok_c _ _ hks1 hn) ?_ ?_); (focus ((try simp (disch := omega) only [go_sem, wrap_n, srow_rgetD, srow_rsnoc, take_map_len]) <;> (try omega) <;> fail)))); ((try simp (disch := omega) only [go_sem, wrap_n, srow_rgetD, srow_rsnoc, take_map_len]) <;> (repeat' with_reducible refine And.intro ?_ ?_) <;> (try (with_reducible refine hK _ ?_; clear hK K))))
      | ((first | (with_reducible refine aunder_i ?_ ?_ <;> intro hg) | with_reducible intro hg) <;> (first | (exfalso; simp at hg; done) | (have hg' := hg; (try simp only [hcs, beq_iff_eq, ge_iff_le, gt_iff_lt] at hg'); ((try simp (disch := omega) only [hg, go_sem, wrap_n, srow_rgetD, srow_rsnoc, take_map_len]) <;> (repeat' with_reducible refine And.intro ?_ ?_) <;> (try (with_reducible refine hK _ ?_; clear hK K))))))
                                                              | omega
    · refine ⟨k + 1, by omega, by omega, ?_⟩
      rw [lineL_snoc ks name k (by assumption), if_pos hc]
      (refine SImp.frame [0, 3] rfl (by intro k hk; first | (simp at hk <;> (simp; omega)) | (simp only [List.mem_cons, List.not_mem_nil, or_false] at hk; simp only [List.length_cons, List.length_nil]; omega)) (by decide) (fun k hk => by first | omega | (rcases k with _ | _ | _ | _ | k <;> first | rfl | omega)) ?_ ?_ <;> simp (disch := omega) only [go_sem, wrap_n, Int.natCast_add, List.length_append] <;> (try rfl))
    · refine ⟨k + 1, by omega, by omega, ?_⟩
      rw [lineL_snoc ks name k (by assumption), if_neg (by simpa using hc)]
      (refine SImp.frame [0, 1] rfl (by intro k hk; first | (simp at hk <;> (simp; omega)) | (simp only [List.mem_cons, List.not_mem_nil, or_false] at hk; simp only [List.length_cons, List.length_nil]; omega)) (by decide) (fun k hk => by first | omega | (rcases k with _ | _ | _ | _ | k <;> first | rfl | omega)) ?_ ?_ <;> simp (disch := omega) only [go_sem, wrap_n, Int.natCast_add, true_and] <;> (try rfl))
    · rw [show k = ks.length from by omega, List.take_length]
      (refine aend_retc ?_ rfl ?_ ?_ ?_ ?_; (focus (first | exact .inl rfl | exact .inr rfl)); (iterate 3 (focus ((try simp (disch := omega) only [go_sem, wrap_n]) <;> (try omega) <;> fail))); (try simp (disch := omega) only [go_sem, wrap_n, I, B, S, inj, List.cons.injEq, and_true, true_and, and_self]))
theorem ser_split (step name : List UInt8) : serOk step name = (decide (step.length = name.length + 10 ∧ step.take name.length = name) && (step.drop name.length).all dgt) := by
  unfold serOk
  by_cases h : step.length = name.length + 10
  · by_cases h2 : step.take name.length = name
    · rw [decide_eq_true (p := name.length ≤ step.length ∧ _) ⟨by omega, h2⟩, decide_eq_true h, decide_eq_true (p := _ ∧ _) ⟨h, h2⟩]; rfl
    · rw [decide_eq_false (p := name.length ≤ step.length ∧ _) (fun x => h2 x.2), decide_eq_false (p := _ ∧ _) (fun x => h2 x.2)]; rfl
  · rw [decide_eq_false h, decide_eq_false (p := _ ∧ _) (fun x => h x.1)]; simp
theorem all_step (d : List UInt8) (j : Nat) (h : j < d.length) : (d.take (j + 1)).all dgt = ((d.take j).all dgt && dgt (d.getD j 0)) := by
  have : d.take (j + 1) = d.take j ++ [d.getD j 0] := take_snoc d j h
  rw [this, List.all_append]; simp
theorem all_early {d : List UInt8} {j : Nat} (h : (d.take j).all dgt = false) : d.all dgt = false := by
  cases e : d.all dgt
  · rfl
  · rw [List.all_eq_true] at e
    rw [show (d.take j).all dgt = true from List.all_eq_true.2 fun x hx => e x (List.mem_of_mem_take hx)] at h; exact h
theorem getD_drop0 (l : List UInt8) (n j : Nat) : l.getD (n + j) 0 = (l.drop n).getD j 0 := by
  simp only [List.getD_eq_getElem?_getD, List.getElem?_drop]
set_option maxHeartbeats 2000000 in
theorem ref_line_ct (t : ATree) (dir name : List UInt8) (hw : t.wf) (hp : ∀ x, x ∈ t.nodes → x.path.length ≤ 1048576) (hn : okS name) (hr : Rises (pathsT t)) : acall Tryd.prog [] 46 [t.av, S dir, S name] (ret (.tup [.d (.sl 1 ((lineT t dir name).1.map srow)), I (lineT t dir name).2])) := by
  have hkl := kidsT_len t dir hw.2.1.1
  have hn' := hn
  unfold okS at hn'
  refine acall_of tabOk Tryd.func46 rfl (by kernel_rfl) (by simp [Tryd.ntmps46]) ?_; simp only [Tryd.ntmps46, Tryd.results46, List.toList_toArray, apar, List.length_nil, List.length_cons, Nat.reduceAdd]
  repeat' first
    | (with_reducible first | refine AWP.seq ?_ | refine thenA_n ?_ | refine thenA_r ?_ | refine thenA_e ?_ | refine blkA_n ?_ | refine blkA_r ?_ | refine blkA_e ?_ | refine blkA_x (by decide) ?_ | refine AWP.skip ?_ | refine AWP.ret ?_ | refine AWP.exit ?_ | refine AWP.block ?_)
    | (with_reducible refine AWP.cond rfl ?_ ?_ <;> intro hc <;> (try simp only [hcs, beq_iff_eq, ge_iff_le, gt_iff_lt] at hc))
    | ((first
      | (with_reducible first | refine AWP.region tabOk ?_ | refine AWP.quietC mixed tabOk (by decide +kernel) ?_ | refine AWP.draw mixed tabOk (by decide +kernel) ?_ | refine AWP.drawE mixed tabOk (by decide +kernel) ?_ | refine AWP.drawG mixed tabOk (by decide +kernel) ?_); intro K hK
      | ((first | refine acallH_sc (kidsOf_c t dir hw hp hr) rfl rfl ?_ ?_ ?_ | refine acallQ_sc (kidsOf_c t dir hw hp hr) rfl rfl ?_ ?_ ?_ | refine acallH_sc (ref_named_c name hn) rfl rfl ?_ ?_ ?_ | refine acallQ_sc (ref_named_c name hn) rfl rfl ?_ ?_ ?_); iterate 2 (focus ((try simp (disch := omega) only [go_sem, wrap_n]) <;> (try omega) <;> fail)))
      | ((first | refine acallH_anyr (kidsOf_c t dir hw hp hr) rfl ?_ ?_ | refine acallH_anyr (ref_named_c name hn) rfl ?_ ?_); (focus ((try simp (disch := omega) only [go_sem, wrap_n]) <;> (try omega) <;> fail)))
      | ((first | refine acallH_scx (kidsOf_c t dir hw hp hr) rfl ?_ ?_ | refine acallQ_scx (kidsOf_c t dir hw hp hr) rfl ?_ ?_ | refine acallH_anyx (kidsOf_c t dir hw hp hr) ?_ ?_); (focus ((try simp (disch := omega) only [go_sem, wrap_n]) <;> (try omega) <;> fail)))
      | ((first | refine acallH_scx (ref_named_c name hn) rfl ?_ ?_ | refine acallQ_scx (ref_named_c name hn) rfl ?_ ?_ | refine acallH_anyx (ref_named_c name hn) ?_ ?_); (focus ((try simp (disch := omega) only [go_sem, wrap_n]) <;> (try omega) <;> fail)))); ((try simp (disch := omega) only [go_sem, wrap_n]) <;> (repeat' with_reducible refine And.intro ?_ ?_) <;> (try (with_reducible refine hK _ ?_; clear hK K))))
    | ((first | (with_reducible refine aunder_i ?_ ?_ <;> intro hg) | with_reducible intro hg) <;> (first | (exfalso; simp at hg; done) | (have hg' := hg; (try simp only [hcs, beq_iff_eq, ge_iff_le, gt_iff_lt] at hg'); ((try simp (disch := omega) only [hg, go_sem, wrap_n]) <;> (repeat' with_reducible refine And.intro ?_ ?_) <;> (try (with_reducible refine hK _ ?_; clear hK K))))))
                                                            | omega
  · rw [line_a (by assumption)]; (refine aend_retc ?_ rfl ?_ ?_ ?_ ?_; (focus (first | exact .inl rfl | exact .inr rfl)); (iterate 3 (focus ((try simp (disch := omega) only [go_sem, wrap_n]) <;> (try omega) <;> fail))); (try simp (disch := omega) only [go_sem, wrap_n, I, B, S, inj, List.cons.injEq, and_true, true_and, and_self]))
  · rw [line_b (by assumption) ⟨hg', hc⟩]; (refine aend_retc ?_ rfl ?_ ?_ ?_ ?_; (focus (first | exact .inl rfl | exact .inr rfl)); (iterate 3 (focus ((try simp (disch := omega) only [go_sem, wrap_n]) <;> (try omega) <;> fail))); (try simp (disch := omega) only [go_sem, wrap_n, I, B, S, inj, List.cons.injEq, and_true, true_and, and_self]))
  all_goals
    have hno : ¬ (name ≠ [] ∧ namedP name = false) := by first | exact fun ⟨_, b⟩ => by rw [hc] at b; cases b | exact fun ⟨a, _⟩ => a hg'
    rw [line_c (by assumption) hno]
    have hks := kidsT_okS t dir
    generalize (kidsT t dir).1 = ks at hks hkl
    refine AWP.weaken (SImp.nilOwn 10 1 rfl) ?_
    simp only [go_sem]
    refine AWP.loopB (ι := Nat) (fun k => k ≤ ks.length) (fun k => ks.length - k) [2, 32, 33] (fun k => [(34, I k), (10, .osl 1 1 0 (lineL (ks.take k) name).length)]) (fun k => [.cells [.d (.int .i64 t.zxid), .d (.sl 9 (t.nodes.map ANode.row)), .d (.sl 1 (t.sessions.map irow))], .rows 1 ((lineL (ks.take k) name).map srow)]) 0 ?_ ?_ ?_
    · omega
    · simp only [go_sem, lineL, List.filter_nil]; (refine SImp.same ?_; simp (disch := omega) only [go_sem, wrap_n, Int.natCast_add])
    intro k hk
    have hll := lineL_le (ks.take k) name
    have hlt : (ks.take k).length ≤ ks.length := by rw [List.length_take]; omega
    simp only [go_sem]
    by_cases hkk : k < ks.length
    case neg =>
      repeat' first
        | (with_reducible first | refine AWP.seq ?_ | refine thenA_n ?_ | refine thenA_r ?_ | refine thenA_e ?_ | refine blkA_n ?_ | refine blkA_r ?_ | refine blkA_e ?_ | refine blkA_x (by decide) ?_ | refine AWP.skip ?_ | refine AWP.ret ?_ | refine AWP.exit ?_ | refine AWP.block ?_)
        | (with_reducible refine AWP.cond rfl ?_ ?_ <;> intro hc <;> (try simp only [hcs, beq_iff_eq, ge_iff_le, gt_iff_lt] at hc))
        | ((first
          | (with_reducible first | refine AWP.region tabOk ?_ | refine AWP.quietC mixed tabOk (by decide +kernel) ?_ | refine AWP.draw mixed tabOk (by decide +kernel) ?_ | refine AWP.drawE mixed tabOk (by decide +kernel) ?_ | refine AWP.drawG mixed tabOk (by decide +kernel) ?_); intro K hK); ((try simp (disch := omega) only [go_sem, wrap_n]) <;> (repeat' with_reducible refine And.intro ?_ ?_) <;> (try (with_reducible refine hK _ ?_; clear hK K))))
        | ((first | (with_reducible refine aunder_i ?_ ?_ <;> intro hg) | with_reducible intro hg) <;> (first | (exfalso; simp at hg; done) | (have hg' := hg; (try simp only [hcs, beq_iff_eq, ge_iff_le, gt_iff_lt] at hg'); ((try simp (disch := omega) only [hg, go_sem, wrap_n]) <;> (repeat' with_reducible refine And.intro ?_ ?_) <;> (try (with_reducible refine hK _ ?_; clear hK K))))))
                                                                | omega
      rw [show k = ks.length from by omega, List.take_length]
      (refine aend_retc ?_ rfl ?_ ?_ ?_ ?_; (focus (first | exact .inl rfl | exact .inr rfl)); (iterate 3 (focus ((try simp (disch := omega) only [go_sem, wrap_n]) <;> (try omega) <;> fail))); (try simp (disch := omega) only [go_sem, wrap_n, I, B, S, inj, List.cons.injEq, and_true, true_and, and_self]))
    have hks1 := hks k
    have hsn := lineL_snoc ks name k hkk
    generalize hst : ks.getD k [] = step at hks1 hsn
    have hst' : ks.getD k default = step := hst
    rw [ser_split] at hsn
    by_cases h1 : step.length = name.length + 10 ∧ step.take name.length = name
    · obtain ⟨h2, h3⟩ := h1
      rw [decide_eq_true (p := _ ∧ _) ⟨h2, h3⟩, Bool.true_and] at hsn
      have h2' : (step.length : Int) = (name.length : Int) + 10 := by omega
      generalize hd : step.drop name.length = d at hsn
      have hdl : d.length = 10 := by rw [← hd, List.length_drop]; omega
      have hgd (j : Nat) : step.getD (name.length + j) 0 = d.getD j 0 := by rw [getD_drop0, hd]
      repeat' first
        | (with_reducible first | refine AWP.seq ?_ | refine thenA_n ?_ | refine thenA_r ?_ | refine thenA_e ?_ | refine blkA_n ?_ | refine blkA_r ?_ | refine blkA_e ?_ | refine blkA_x (by decide) ?_ | refine AWP.skip ?_ | refine AWP.ret ?_ | refine AWP.exit ?_ | refine AWP.block ?_)
        | (with_reducible refine AWP.cond rfl ?_ ?_ <;> intro hc <;> (try simp only [hcs, beq_iff_eq, ge_iff_le, gt_iff_lt] at hc))
        | ((first
          | (with_reducible first | refine AWP.region tabOk ?_ | refine AWP.quietC mixed tabOk (by decide +kernel) ?_ | refine AWP.draw mixed tabOk (by decide +kernel) ?_ | refine AWP.drawE mixed tabOk (by decide +kernel) ?_ | refine AWP.drawG mixed tabOk (by decide +kernel) ?_); intro K hK); ((try simp (disch := omega) only [go_sem, wrap_n, hst', Nat.sub_zero, h2', h3]) <;> (repeat' with_reducible refine And.intro ?_ ?_) <;> (try (with_reducible refine hK _ ?_; clear hK K))))
        | ((first | (with_reducible refine aunder_i ?_ ?_ <;> intro hg) | with_reducible intro hg) <;> (first | (exfalso; simp at hg; done) | (have hg' := hg; (try simp only [hcs, beq_iff_eq, ge_iff_le, gt_iff_lt] at hg'); ((try simp (disch := omega) only [hg, go_sem, wrap_n, hst', Nat.sub_zero, h2', h3]) <;> (repeat' with_reducible refine And.intro ?_ ?_) <;> (try (with_reducible refine hK _ ?_; clear hK K))))))
                                                                | omega
      refine AWP.loopB (ι := Nat) (fun j => j ≤ 10) (fun j => 10 - j) [2, 10, 12, 32, 33, 34] (fun j => [(14, B ((d.take j).all dgt)), (15, I ((name.length + j : Nat) : Int))]) (fun j => [.cells [.d (.int .i64 t.zxid), .d (.sl 9 (t.nodes.map ANode.row)), .d (.sl 1 (t.sessions.map irow))], .rows 1 ((lineL (ks.take k) name).map srow)]) 0 ?_ ?_ ?_
      · omega
      · simp only [go_sem, List.all_nil, Nat.add_zero]; (refine SImp.same ?_; simp (disch := omega) only [go_sem, wrap_n, Int.natCast_add, hst', Nat.sub_zero, h2', h3])
      intro j hj
      simp only [go_sem]
      repeat' first
        | (with_reducible first | refine AWP.seq ?_ | refine thenA_n ?_ | refine thenA_r ?_ | refine thenA_e ?_ | refine blkA_n ?_ | refine blkA_r ?_ | refine blkA_e ?_ | refine blkA_x (by decide) ?_ | refine AWP.skip ?_ | refine AWP.ret ?_ | refine AWP.exit ?_ | refine AWP.block ?_)
        | (with_reducible refine AWP.cond rfl ?_ ?_ <;> intro hc <;> (try simp only [hcs, beq_iff_eq, ge_iff_le, gt_iff_lt] at hc))
        | ((first
          | (with_reducible first | refine AWP.region tabOk ?_ | refine AWP.quietC mixed tabOk (by decide +kernel) ?_ | refine AWP.draw mixed tabOk (by decide +kernel) ?_ | refine AWP.drawE mixed tabOk (by decide +kernel) ?_ | refine AWP.drawG mixed tabOk (by decide +kernel) ?_); intro K hK); ((try simp (disch := omega) only [go_sem, wrap_n, hgd, srow_rsnoc, take_map_len]) <;> (repeat' with_reducible refine And.intro ?_ ?_) <;> (try (with_reducible refine hK _ ?_; clear hK K))))
        | ((first | (with_reducible refine aunder_i ?_ ?_ <;> intro hg) | with_reducible intro hg) <;> (first | (exfalso; simp at hg; done) | (have hg' := hg; (try simp only [hcs, beq_iff_eq, ge_iff_le, gt_iff_lt] at hg'); ((try simp (disch := omega) only [hg, go_sem, wrap_n, hgd, srow_rsnoc, take_map_len]) <;> (repeat' with_reducible refine And.intro ?_ ?_) <;> (try (with_reducible refine hK _ ?_; clear hK K))))))
                                                                | omega
      · have e1 : (decide (48 ≤ ((d.getD j 0).toNat : Int)) && decide (((d.getD j 0).toNat : Int) ≤ 57)) = (d.take (j + 1)).all dgt := by
          rw [all_step d j (by omega), hc.1, Bool.true_and]
          unfold dgt
          rw [Bool.eq_iff_iff, Bool.and_eq_true, decide_eq_true_eq, decide_eq_true_eq, decide_eq_true_eq]; omega
        refine ⟨j + 1, by omega, by omega, ?_⟩
        (refine SImp.same ?_; simp (disch := omega) only [go_sem, wrap_n, Int.natCast_add, e1, Int.add_assoc, hgd])
      · refine ⟨k + 1, by omega, by omega, ?_⟩
        have hj10 : j = d.length := by
          rename_i hcc
          rcases hcc with h | h
          · rw [hc] at h; cases h
          · omega
        rw [hj10, List.take_length] at hc
        rw [hsn, if_pos hc]
        (refine SImp.frame [0, 3] rfl (by intro k hk; first | (simp at hk <;> (simp; omega)) | (simp only [List.mem_cons, List.not_mem_nil, or_false] at hk; simp only [List.length_cons, List.length_nil]; omega)) (by decide) (fun k hk => by first | omega | (rcases k with _ | _ | _ | _ | k <;> first | rfl | omega)) ?_ ?_ <;> simp (disch := omega) only [go_sem, wrap_n, Int.natCast_add, List.length_append] <;> (try rfl))
      · refine ⟨k + 1, by omega, by omega, ?_⟩
        rw [hsn, all_early hc, if_neg (by decide)]
        (refine SImp.frame [0, 1] rfl (by intro k hk; first | (simp at hk <;> (simp; omega)) | (simp only [List.mem_cons, List.not_mem_nil, or_false] at hk; simp only [List.length_cons, List.length_nil]; omega)) (by decide) (fun k hk => by first | omega | (rcases k with _ | _ | _ | _ | k <;> first | rfl | omega)) ?_ ?_ <;> simp (disch := omega) only [go_sem, wrap_n, Int.natCast_add, true_and] <;> (try rfl))
    · rw [decide_eq_false h1, Bool.false_and, if_neg (by decide)] at hsn
      have hok0 : (decide ((step.length : Int) = (name.length : Int) + 10) && decide (step.take name.length = name)) = false := by
        rw [Bool.and_eq_false_iff, decide_eq_false_iff_not, decide_eq_false_iff_not]
        by_cases h2 : step.length = name.length + 10
        · exact .inr fun h3 => h1 ⟨h2, h3⟩
        · exact .inl (by omega)
      repeat' first
        | (with_reducible first | refine AWP.seq ?_ | refine thenA_n ?_ | refine thenA_r ?_ | refine thenA_e ?_ | refine blkA_n ?_ | refine blkA_r ?_ | refine blkA_e ?_ | refine blkA_x (by decide) ?_ | refine AWP.skip ?_ | refine AWP.ret ?_ | refine AWP.exit ?_ | refine AWP.block ?_)
        | (with_reducible refine AWP.cond rfl ?_ ?_ <;> intro hc <;> (try simp only [hcs, beq_iff_eq, ge_iff_le, gt_iff_lt] at hc))
        | ((first
          | (with_reducible first | refine AWP.region tabOk ?_ | refine AWP.quietC mixed tabOk (by decide +kernel) ?_ | refine AWP.draw mixed tabOk (by decide +kernel) ?_ | refine AWP.drawE mixed tabOk (by decide +kernel) ?_ | refine AWP.drawG mixed tabOk (by decide +kernel) ?_); intro K hK); ((try simp (disch := omega) only [go_sem, wrap_n, hst', Nat.sub_zero, hok0]) <;> (repeat' with_reducible refine And.intro ?_ ?_) <;> (try (with_reducible refine hK _ ?_; clear hK K))))
        | ((first | (with_reducible refine aunder_i ?_ ?_ <;> intro hg) | with_reducible intro hg) <;> (first | (exfalso; simp at hg; done) | (have hg' := hg; (try simp only [hcs, beq_iff_eq, ge_iff_le, gt_iff_lt] at hg'); ((try simp (disch := omega) only [hg, go_sem, wrap_n, hst', Nat.sub_zero, hok0]) <;> (repeat' with_reducible refine And.intro ?_ ?_) <;> (try (with_reducible refine hK _ ?_; clear hK K))))))
                                                                | omega
      refine AWP.loopB (ι := Nat) (fun j => j = 0) (fun j => 0) [2, 10, 12, 32, 33, 34] (fun j => [(14, B false), (15, I name.length)]) (fun j => [.cells [.d (.int .i64 t.zxid), .d (.sl 9 (t.nodes.map ANode.row)), .d (.sl 1 (t.sessions.map irow))], .rows 1 ((lineL (ks.take k) name).map srow)]) 0 ?_ ?_ ?_
      · rfl
      · simp only [go_sem]; (refine SImp.same ?_; simp (disch := omega) only [go_sem, wrap_n, Int.natCast_add, hst', Nat.sub_zero, hok0])
      intro j hj
      simp only [go_sem]
      repeat' first
        | (with_reducible first | refine AWP.seq ?_ | refine thenA_n ?_ | refine thenA_r ?_ | refine thenA_e ?_ | refine blkA_n ?_ | refine blkA_r ?_ | refine blkA_e ?_ | refine blkA_x (by decide) ?_ | refine AWP.skip ?_ | refine AWP.ret ?_ | refine AWP.exit ?_ | refine AWP.block ?_)
        | (with_reducible refine AWP.cond rfl ?_ ?_ <;> intro hc <;> (try simp only [hcs, beq_iff_eq, ge_iff_le, gt_iff_lt] at hc))
        | ((first
          | (with_reducible first | refine AWP.region tabOk ?_ | refine AWP.quietC mixed tabOk (by decide +kernel) ?_ | refine AWP.draw mixed tabOk (by decide +kernel) ?_ | refine AWP.drawE mixed tabOk (by decide +kernel) ?_ | refine AWP.drawG mixed tabOk (by decide +kernel) ?_); intro K hK); ((try simp (disch := omega) only [go_sem, wrap_n]) <;> (repeat' with_reducible refine And.intro ?_ ?_) <;> (try (with_reducible refine hK _ ?_; clear hK K))))
        | ((first | (with_reducible refine aunder_i ?_ ?_ <;> intro hg) | with_reducible intro hg) <;> (first | (exfalso; simp at hg; done) | (have hg' := hg; (try simp only [hcs, beq_iff_eq, ge_iff_le, gt_iff_lt] at hg'); ((try simp (disch := omega) only [hg, go_sem, wrap_n]) <;> (repeat' with_reducible refine And.intro ?_ ?_) <;> (try (with_reducible refine hK _ ?_; clear hK K))))))
                                                                | omega
      refine ⟨k + 1, by omega, by omega, ?_⟩
      rw [hsn]
      (refine SImp.frame [0, 1] rfl (by intro k hk; first | (simp at hk <;> (simp; omega)) | (simp only [List.mem_cons, List.not_mem_nil, or_false] at hk; simp only [List.length_cons, List.length_nil]; omega)) (by decide) (fun k hk => by first | omega | (rcases k with _ | _ | _ | _ | k <;> first | rfl | omega)) ?_ ?_ <;> simp (disch := omega) only [go_sem, wrap_n, Int.natCast_add, true_and] <;> (try rfl))
theorem line_wf (t : ATree) (dir name : List UInt8) (h : t.nodes.length * 88 ≤ 140737488351232) : (lineT t dir name).1.length * 16 ≤ 140737488351232 := by
  have a := kidsT_len t dir h
  unfold lineT
  split
  · split
    · exact (by decide : ([] : List (List UInt8)).length * 16 ≤ 140737488351232)
    · have := lineL_le (kidsT t dir).1 name
      simp only; omega
  · exact (by decide : ([] : List (List UInt8)).length * 16 ≤ 140737488351232)
theorem line_mem {t : ATree} {dir name x : List UInt8} (hm : x ∈ (lineT t dir name).1) : x.length ≤ 200 := by
  unfold lineT at hm
  split at hm
  · split at hm
    · cases hm
    · have h2 := (List.mem_filter.1 hm).1
      obtain ⟨j, hj, hx⟩ := (mem_iff_getD _ [] _).1 h2
      rw [← hx]; exact kidsT_okS t dir j
  · cases hm
theorem line_step (t : ATree) (dir name : List UInt8) (k : Nat) : ((lineT t dir name).1.getD k []).length ≤ 200 := by
  by_cases e : k < (lineT t dir name).1.length
  · exact line_mem (mem_getD _ [] e)
  · rw [List.getD_eq_getElem?_getD, List.getElem?_eq_none (by omega)]; exact Nat.zero_le _
def holdT (t : ATree) (dir name : List UInt8) : Int × Int × Int :=
  if (lineT t dir name).2 = 0 ∧ (lineT t dir name).1.length ≠ 0 then
    (if (getT t (joinP dir ((lineT t dir name).1.getD 0 [])).1).2 = 0 then ((getT t (joinP dir ((lineT t dir name).1.getD 0 [])).1).1.stat.owner, (getT t (joinP dir ((lineT t dir name).1.getD 0 [])).1).1.stat.czxid, 0) else (0, 0, (getT t (joinP dir ((lineT t dir name).1.getD 0 [])).1).2))
  else (0, 0, (lineT t dir name).2)
theorem hold_a {t : ATree} {dir name : List UInt8} (h : ¬ ((lineT t dir name).2 = 0 ∧ (lineT t dir name).1.length ≠ 0)) : holdT t dir name = (0, 0, (lineT t dir name).2) := by unfold holdT; rw [if_neg h]
theorem hold_b {t : ATree} {dir name : List UInt8} (h : (lineT t dir name).2 = 0 ∧ (lineT t dir name).1.length ≠ 0) (h2 : (getT t (joinP dir ((lineT t dir name).1.getD 0 [])).1).2 = 0) : holdT t dir name = ((getT t (joinP dir ((lineT t dir name).1.getD 0 [])).1).1.stat.owner, (getT t (joinP dir ((lineT t dir name).1.getD 0 [])).1).1.stat.czxid, 0) := by unfold holdT; rw [if_pos h, if_pos h2]
theorem hold_c {t : ATree} {dir name : List UInt8} (h : (lineT t dir name).2 = 0 ∧ (lineT t dir name).1.length ≠ 0) (h2 : ¬ (getT t (joinP dir ((lineT t dir name).1.getD 0 [])).1).2 = 0) : holdT t dir name = (0, 0, (getT t (joinP dir ((lineT t dir name).1.getD 0 [])).1).2) := by unfold holdT; rw [if_pos h, if_neg h2]
theorem hold_ct (t : ATree) (dir name : List UInt8) (hw : t.wf) (hd : okS dir) (hn : okS name) (hr : Rises (pathsT t)) : acall Tryd.prog [] 47 [t.av, S dir, S name] (ret (.tup [I (holdT t dir name).1, I (holdT t dir name).2.1, I (holdT t dir name).2.2])) := by
  have hs := line_step t dir name 0
  have hl := line_wf t dir name hw.2.1.1
  refine acall_of tabOk Tryd.func47 rfl (by kernel_rfl) (by simp [Tryd.ntmps47]) ?_; simp only [Tryd.ntmps47, Tryd.results47, List.toList_toArray, apar, List.length_nil, List.length_cons, Nat.reduceAdd]
  repeat' first
    | (with_reducible first | refine AWP.seq ?_ | refine thenA_n ?_ | refine thenA_r ?_ | refine thenA_e ?_ | refine blkA_n ?_ | refine blkA_r ?_ | refine blkA_e ?_ | refine blkA_x (by decide) ?_ | refine AWP.skip ?_ | refine AWP.ret ?_ | refine AWP.exit ?_ | refine AWP.block ?_)
    | (with_reducible refine AWP.cond rfl ?_ ?_ <;> intro hc <;> (try simp only [hcs, beq_iff_eq, ge_iff_le, gt_iff_lt] at hc))
    | ((first
      | (with_reducible first | refine AWP.region tabOk ?_ | refine AWP.quietC mixed tabOk (by decide +kernel) ?_ | refine AWP.draw mixed tabOk (by decide +kernel) ?_ | refine AWP.drawE mixed tabOk (by decide +kernel) ?_ | refine AWP.drawG mixed tabOk (by decide +kernel) ?_); intro K hK
      | ((first | refine acallH_sc (line_ct t dir name hw hn hr) rfl rfl ?_ ?_ ?_ | refine acallQ_sc (line_ct t dir name hw hn hr) rfl rfl ?_ ?_ ?_ | refine acallH_sc (join_c dir ((lineT t dir name).1.getD 0 []) hd (by unfold okS; omega)) rfl rfl ?_ ?_ ?_ | refine acallQ_sc (join_c dir ((lineT t dir name).1.getD 0 []) hd (by unfold okS; omega)) rfl rfl ?_ ?_ ?_ | refine acallH_sc (getT_c t (joinP dir ((lineT t dir name).1.getD 0 [])).1 hw.2.1.1 hr) rfl rfl ?_ ?_ ?_ | refine acallQ_sc (getT_c t (joinP dir ((lineT t dir name).1.getD 0 [])).1 hw.2.1.1 hr) rfl rfl ?_ ?_ ?_); iterate 2 (focus ((try simp (disch := omega) only [go_sem, wrap_n, srow_rgetD]) <;> (try omega) <;> fail)))
      | ((first | refine acallH_anyr (line_ct t dir name hw hn hr) rfl ?_ ?_ | refine acallH_anyr (join_c dir ((lineT t dir name).1.getD 0 []) hd (by unfold okS; omega)) rfl ?_ ?_ | refine acallH_anyr (getT_c t (joinP dir ((lineT t dir name).1.getD 0 [])).1 hw.2.1.1 hr) rfl ?_ ?_); (focus ((try simp (disch := omega) only [go_sem, wrap_n, srow_rgetD]) <;> (try omega) <;> fail)))
      | ((first | refine acallH_scx (line_ct t dir name hw hn hr) rfl ?_ ?_ | refine acallQ_scx (line_ct t dir name hw hn hr) rfl ?_ ?_ | refine acallH_anyx (line_ct t dir name hw hn hr) ?_ ?_); (focus ((try simp (disch := omega) only [go_sem, wrap_n, srow_rgetD]) <;> (try omega) <;> fail)))
      | ((first | refine acallH_scx (join_c dir ((lineT t dir name).1.getD 0 []) hd (by unfold okS; omega)) rfl ?_ ?_ | refine acallQ_scx (join_c dir ((lineT t dir name).1.getD 0 []) hd (by unfold okS; omega)) rfl ?_ ?_ | refine acallH_anyx (join_c dir ((lineT t dir name).1.getD 0 []) hd (by unfold okS; omega)) ?_ ?_); (focus ((try simp (disch := omega) only [go_sem, wrap_n, srow_rgetD]) <;> (try omega) <;> fail)))
      | ((first | refine acallH_scx (getT_c t (joinP dir ((lineT t dir name).1.getD 0 [])).1 hw.2.1.1 hr) rfl ?_ ?_ | refine acallQ_scx (getT_c t (joinP dir ((lineT t dir name).1.getD 0 [])).1 hw.2.1.1 hr) rfl ?_ ?_ | refine acallH_anyx (getT_c t (joinP dir ((lineT t dir name).1.getD 0 [])).1 hw.2.1.1 hr) ?_ ?_); (focus ((try simp (disch := omega) only [go_sem, wrap_n, srow_rgetD]) <;> (try omega) <;> fail)))); ((try simp (disch := omega) only [go_sem, wrap_n, srow_rgetD]) <;> (repeat' with_reducible refine And.intro ?_ ?_) <;> (try (with_reducible refine hK _ ?_; clear hK K))))
    | ((first | (with_reducible refine aunder_i ?_ ?_ <;> intro hg) | with_reducible intro hg) <;> (first | (exfalso; simp at hg; done) | (have hg' := hg; (try simp only [hcs, beq_iff_eq, ge_iff_le, gt_iff_lt] at hg'); ((try simp (disch := omega) only [hg, go_sem, wrap_n, srow_rgetD]) <;> (repeat' with_reducible refine And.intro ?_ ?_) <;> (try (with_reducible refine hK _ ?_; clear hK K))))))
                                                            | omega
  · rw [hold_a (by rintro ⟨a, b⟩; rcases hc with h | h; exact h a; exact b h)]; (refine aend_retc ?_ rfl ?_ ?_ ?_ ?_; (focus (first | exact .inl rfl | exact .inr rfl)); (iterate 3 (focus ((try simp (disch := omega) only [go_sem, wrap_n]) <;> (try omega) <;> fail))); (try simp (disch := omega) only [go_sem, wrap_n, I, B, S, inj, List.cons.injEq, and_true, true_and, and_self]))
  · rw [hold_c (by assumption) hc]; (refine aend_retc ?_ rfl ?_ ?_ ?_ ?_; (focus (first | exact .inl rfl | exact .inr rfl)); (iterate 3 (focus ((try simp (disch := omega) only [go_sem, wrap_n]) <;> (try omega) <;> fail))); (try simp (disch := omega) only [go_sem, wrap_n, I, B, S, inj, List.cons.injEq, and_true, true_and, and_self]))
  · rw [hold_b (by assumption) hc]; (refine aend_retc ?_ rfl ?_ ?_ ?_ ?_; (focus (first | exact .inl rfl | exact .inr rfl)); (iterate 3 (focus ((try simp (disch := omega) only [go_sem, wrap_n]) <;> (try omega) <;> fail))); (try simp (disch := omega) only [go_sem, wrap_n, I, B, S, inj, List.cons.injEq, and_true, true_and, and_self]))
theorem ref_hold_ct (t : ATree) (dir name : List UInt8) (hw : t.wf) (hp : ∀ x, x ∈ t.nodes → x.path.length ≤ 1048576) (hd : dir.length ≤ 1048576) (hn : okS name) (hr : Rises (pathsT t)) : acall Tryd.prog [] 48 [t.av, S dir, S name] (ret (.tup [I (holdT t dir name).1, I (holdT t dir name).2.1, I (holdT t dir name).2.2])) := by
  have hs := line_step t dir name 0
  have hl := line_wf t dir name hw.2.1.1
  refine acall_of tabOk Tryd.func48 rfl (by kernel_rfl) (by simp [Tryd.ntmps48]) ?_; simp only [Tryd.ntmps48, Tryd.results48, List.toList_toArray, apar, List.length_nil, List.length_cons, Nat.reduceAdd]
  repeat' first
    | (with_reducible first | refine AWP.seq ?_ | refine thenA_n ?_ | refine thenA_r ?_ | refine thenA_e ?_ | refine blkA_n ?_ | refine blkA_r ?_ | refine blkA_e ?_ | refine blkA_x (by decide) ?_ | refine AWP.skip ?_ | refine AWP.ret ?_ | refine AWP.exit ?_ | refine AWP.block ?_)
    | (with_reducible refine AWP.cond rfl ?_ ?_ <;> intro hc <;> (try simp only [hcs, beq_iff_eq, ge_iff_le, gt_iff_lt] at hc))
    | ((first
      | (with_reducible first | refine AWP.region tabOk ?_ | refine AWP.quietC mixed tabOk (by decide +kernel) ?_ | refine AWP.draw mixed tabOk (by decide +kernel) ?_ | refine AWP.drawE mixed tabOk (by decide +kernel) ?_ | refine AWP.drawG mixed tabOk (by decide +kernel) ?_); intro K hK
      | ((first | refine acallH_sc (ref_line_ct t dir name hw hp hn hr) rfl rfl ?_ ?_ ?_ | refine acallQ_sc (ref_line_ct t dir name hw hp hn hr) rfl rfl ?_ ?_ ?_ | refine acallH_sc (ref_join_c dir ((lineT t dir name).1.getD 0 []) hd (by unfold okS; omega)) rfl rfl ?_ ?_ ?_ | refine acallQ_sc (ref_join_c dir ((lineT t dir name).1.getD 0 []) hd (by unfold okS; omega)) rfl rfl ?_ ?_ ?_ | refine acallH_sc (getN_c t (joinP dir ((lineT t dir name).1.getD 0 [])).1 hw.2.1.1 hr) rfl rfl ?_ ?_ ?_ | refine acallQ_sc (getN_c t (joinP dir ((lineT t dir name).1.getD 0 [])).1 hw.2.1.1 hr) rfl rfl ?_ ?_ ?_); iterate 2 (focus ((try simp (disch := omega) only [go_sem, wrap_n, srow_rgetD]) <;> (try omega) <;> fail)))
      | ((first | refine acallH_anyr (ref_line_ct t dir name hw hp hn hr) rfl ?_ ?_ | refine acallH_anyr (ref_join_c dir ((lineT t dir name).1.getD 0 []) hd (by unfold okS; omega)) rfl ?_ ?_ | refine acallH_anyr (getN_c t (joinP dir ((lineT t dir name).1.getD 0 [])).1 hw.2.1.1 hr) rfl ?_ ?_); (focus ((try simp (disch := omega) only [go_sem, wrap_n, srow_rgetD]) <;> (try omega) <;> fail)))
      | ((first | refine acallH_scx (ref_line_ct t dir name hw hp hn hr) rfl ?_ ?_ | refine acallQ_scx (ref_line_ct t dir name hw hp hn hr) rfl ?_ ?_ | refine acallH_anyx (ref_line_ct t dir name hw hp hn hr) ?_ ?_); (focus ((try simp (disch := omega) only [go_sem, wrap_n, srow_rgetD]) <;> (try omega) <;> fail)))
      | ((first | refine acallH_scx (ref_join_c dir ((lineT t dir name).1.getD 0 []) hd (by unfold okS; omega)) rfl ?_ ?_ | refine acallQ_scx (ref_join_c dir ((lineT t dir name).1.getD 0 []) hd (by unfold okS; omega)) rfl ?_ ?_ | refine acallH_anyx (ref_join_c dir ((lineT t dir name).1.getD 0 []) hd (by unfold okS; omega)) ?_ ?_); (focus ((try simp (disch := omega) only [go_sem, wrap_n, srow_rgetD]) <;> (try omega) <;> fail)))
      | ((first | refine acallH_scx (getN_c t (joinP dir ((lineT t dir name).1.getD 0 [])).1 hw.2.1.1 hr) rfl ?_ ?_ | refine acallQ_scx (getN_c t (joinP dir ((lineT t dir name).1.getD 0 [])).1 hw.2.1.1 hr) rfl ?_ ?_ | refine acallH_anyx (getN_c t (joinP dir ((lineT t dir name).1.getD 0 [])).1 hw.2.1.1 hr) ?_ ?_); (focus ((try simp (disch := omega) only [go_sem, wrap_n, srow_rgetD]) <;> (try omega) <;> fail)))); ((try simp (disch := omega) only [go_sem, wrap_n, srow_rgetD]) <;> (repeat' with_reducible refine And.intro ?_ ?_) <;> (try (with_reducible refine hK _ ?_; clear hK K))))
    | ((first | (with_reducible refine aunder_i ?_ ?_ <;> intro hg) | with_reducible intro hg) <;> (first | (exfalso; simp at hg; done) | (have hg' := hg; (try simp only [hcs, beq_iff_eq, ge_iff_le, gt_iff_lt] at hg'); ((try simp (disch := omega) only [hg, go_sem, wrap_n, srow_rgetD]) <;> (repeat' with_reducible refine And.intro ?_ ?_) <;> (try (with_reducible refine hK _ ?_; clear hK K))))))
                                                            | omega
  · rw [hold_a (by rintro ⟨a, b⟩; rcases hc with h | h; exact h a; exact b h)]; (refine aend_retc ?_ rfl ?_ ?_ ?_ ?_; (focus (first | exact .inl rfl | exact .inr rfl)); (iterate 3 (focus ((try simp (disch := omega) only [go_sem, wrap_n]) <;> (try omega) <;> fail))); (try simp (disch := omega) only [go_sem, wrap_n, I, B, S, inj, List.cons.injEq, and_true, true_and, and_self]))
  · rw [hold_c (by assumption) hc]; (refine aend_retc ?_ rfl ?_ ?_ ?_ ?_; (focus (first | exact .inl rfl | exact .inr rfl)); (iterate 3 (focus ((try simp (disch := omega) only [go_sem, wrap_n]) <;> (try omega) <;> fail))); (try simp (disch := omega) only [go_sem, wrap_n, I, B, S, inj, List.cons.injEq, and_true, true_and, and_self]))
  · rw [hold_b (by assumption) hc]; (refine aend_retc ?_ rfl ?_ ?_ ?_ ?_; (focus (first | exact .inl rfl | exact .inr rfl)); (iterate 3 (focus ((try simp (disch := omega) only [go_sem, wrap_n]) <;> (try omega) <;> fail))); (try simp (disch := omega) only [go_sem, wrap_n, I, B, S, inj, List.cons.injEq, and_true, true_and, and_self]))
def fi (l : List (List UInt8)) (x : List UInt8) : Nat := l.findIdx fun y => decide (y = x)
theorem fi_eq {l : List (List UInt8)} {x : List UInt8} {i : Nat} (h : i < l.length) (h1 : l.getD i [] = x) (h2 : ∀ j, j < i → l.getD j [] ≠ x) : fi l x = i := by
  unfold fi
  rw [List.findIdx_eq h]
  rw [List.getD_eq_getElem?_getD, List.getElem?_eq_getElem h] at h1
  refine ⟨by simpa using h1, fun j hj => ?_⟩
  have := h2 j hj
  rw [List.getD_eq_getElem?_getD, List.getElem?_eq_getElem (by omega)] at this
  simpa using this
theorem fi_none {l : List (List UInt8)} {x : List UInt8} (h : ∀ j, j < l.length → l.getD j [] ≠ x) : fi l x = l.length := by
  unfold fi
  rw [List.findIdx_eq_length]
  intro y hy
  obtain ⟨j, hj, rfl⟩ := List.getElem_of_mem hy
  have := h j hj
  rw [List.getD_eq_getElem?_getD, List.getElem?_eq_getElem hj] at this
  simpa using this
def idxS (l : List (List UInt8)) (x : List UInt8) : Int := if fi l x < l.length then (fi l x : Nat) else -1
theorem index_c (l : List (List UInt8)) (x : List UInt8) (h : l.length * 16 ≤ 140737488351232) : acall Tryd.prog [] 102 [.d (.sl 1 (l.map srow)), S x] (ret (I (idxS l x))) := by
  refine acall_of tabOk Tryd.func102 rfl (by kernel_rfl) (by simp [Tryd.ntmps102]) ?_; simp only [Tryd.ntmps102, Tryd.results102, List.toList_toArray, apar, List.length_nil, List.length_cons, Nat.reduceAdd]
  repeat' first
    | (with_reducible first | refine AWP.seq ?_ | refine thenA_n ?_ | refine thenA_r ?_ | refine thenA_e ?_ | refine blkA_n ?_ | refine blkA_r ?_ | refine blkA_e ?_ | refine blkA_x (by decide) ?_ | refine AWP.skip ?_ | refine AWP.ret ?_ | refine AWP.exit ?_ | refine AWP.block ?_)
    | (with_reducible refine AWP.cond rfl ?_ ?_ <;> intro hc <;> (try simp only [hcs, beq_iff_eq, ge_iff_le, gt_iff_lt] at hc))
    | ((first
      | (with_reducible first | refine AWP.region tabOk ?_ | refine AWP.quietC mixed tabOk (by decide +kernel) ?_ | refine AWP.draw mixed tabOk (by decide +kernel) ?_ | refine AWP.drawE mixed tabOk (by decide +kernel) ?_ | refine AWP.drawG mixed tabOk (by decide +kernel) ?_); intro K hK); ((try simp (disch := omega) only [go_sem, wrap_n]) <;> (repeat' with_reducible refine And.intro ?_ ?_) <;> (try (with_reducible refine hK _ ?_; clear hK K))))
    | ((first | (with_reducible refine aunder_i ?_ ?_ <;> intro hg) | with_reducible intro hg) <;> (first | (exfalso; simp at hg; done) | (have hg' := hg; (try simp only [hcs, beq_iff_eq, ge_iff_le, gt_iff_lt] at hg'); ((try simp (disch := omega) only [hg, go_sem, wrap_n]) <;> (repeat' with_reducible refine And.intro ?_ ?_) <;> (try (with_reducible refine hK _ ?_; clear hK K))))))
                                                            | omega
  refine AWP.loopS (ι := Nat) (fun k => k ≤ l.length ∧ ∀ j, j < k → l.getD j [] ≠ x) (fun k => l.length - k) [0, 1, 7] (fun k => [(8, I k)]) 0 ?_ (by simp (disch := omega) only [go_sem, wrap_n, true_and]) ?_
  · exact ⟨by omega, fun j hj => by omega⟩
  intro k ⟨hk, hk2⟩
  simp only [go_sem]
  repeat' first
    | (with_reducible first | refine AWP.seq ?_ | refine thenA_n ?_ | refine thenA_r ?_ | refine thenA_e ?_ | refine blkA_n ?_ | refine blkA_r ?_ | refine blkA_e ?_ | refine blkA_x (by decide) ?_ | refine AWP.skip ?_ | refine AWP.ret ?_ | refine AWP.exit ?_ | refine AWP.block ?_)
    | (with_reducible refine AWP.cond rfl ?_ ?_ <;> intro hc <;> (try simp only [hcs, beq_iff_eq, ge_iff_le, gt_iff_lt] at hc))
    | ((first
      | (with_reducible first | refine AWP.region tabOk ?_ | refine AWP.quietC mixed tabOk (by decide +kernel) ?_ | refine AWP.draw mixed tabOk (by decide +kernel) ?_ | refine AWP.drawE mixed tabOk (by decide +kernel) ?_ | refine AWP.drawG mixed tabOk (by decide +kernel) ?_); intro K hK); ((try simp (disch := omega) only [go_sem, wrap_n, srow_rgetD]) <;> (repeat' with_reducible refine And.intro ?_ ?_) <;> (try (with_reducible refine hK _ ?_; clear hK K))))
    | ((first | (with_reducible refine aunder_i ?_ ?_ <;> intro hg) | with_reducible intro hg) <;> (first | (exfalso; simp at hg; done) | (have hg' := hg; (try simp only [hcs, beq_iff_eq, ge_iff_le, gt_iff_lt] at hg'); ((try simp (disch := omega) only [hg, go_sem, wrap_n, srow_rgetD]) <;> (repeat' with_reducible refine And.intro ?_ ?_) <;> (try (with_reducible refine hK _ ?_; clear hK K))))))
                                                            | omega
  · (refine aend_retc ?_ rfl ?_ ?_ ?_ ?_; (focus (first | exact .inl rfl | exact .inr rfl)); (iterate 3 (focus ((try simp (disch := omega) only [go_sem, wrap_n]) <;> (try omega) <;> fail))); (try simp (disch := omega) only [go_sem, wrap_n, I, B, S, inj, List.cons.injEq, and_true, true_and, and_self]))
    have e : fi l x = k := fi_eq (by assumption) hc.symm hk2
    unfold idxS; rw [e, if_pos (by assumption)]
  · refine ⟨k + 1, ⟨by omega, fun j hj => ?_⟩, by omega, ?_⟩
    · by_cases e : j = k
      · subst e; exact fun e2 => hc e2.symm
      · exact hk2 j (by omega)
    (refine SImp.same ?_; simp (disch := omega) only [go_sem, wrap_n, Int.natCast_add])
  · (refine aend_retc ?_ rfl ?_ ?_ ?_ ?_; (focus (first | exact .inl rfl | exact .inr rfl)); (iterate 3 (focus ((try simp (disch := omega) only [go_sem, wrap_n]) <;> (try omega) <;> fail))); (try simp (disch := omega) only [go_sem, wrap_n, I, B, S, inj, List.cons.injEq, and_true, true_and, and_self]))
    have e : fi l x = l.length := fi_none fun j hj => hk2 j (by omega)
    unfold idxS; rw [e, if_neg (by omega)]
def befT (l : List (List UInt8)) (step : List UInt8) : List UInt8 × Bool := if 0 < fi l step ∧ fi l step < l.length then (l.getD (fi l step - 1) [], true) else ([], false)
def beforeT (t : ATree) (dir name step : List UInt8) : List UInt8 × Bool := befT (lineT t dir name).1 step
theorem line_err {t : ATree} {dir name : List UInt8} (h : ¬ (lineT t dir name).2 = 0) : (lineT t dir name).1 = [] := by
  by_cases h0 : (kidsT t dir).2 = 0
  · by_cases h1 : name ≠ [] ∧ namedP name = false
    · rw [line_b h0 h1]
    · rw [line_c h0 h1] at h; exact absurd rfl h
  · rw [line_a h0]
theorem before_ct (t : ATree) (dir name step : List UInt8) (hw : t.wf) (hn : okS name) (hr : Rises (pathsT t)) : acall Tryd.prog [] 49 [t.av, S dir, S name, S step] (ret (.tup [S (beforeT t dir name step).1, B (beforeT t dir name step).2])) := by
  have hl := line_wf t dir name hw.2.1.1
  have he := line_err (t := t) (dir := dir) (name := name)
  unfold beforeT
  by_cases h0 : (lineT t dir name).2 = 0
  · by_cases h1 : 0 < fi (lineT t dir name).1 step ∧ fi (lineT t dir name).1 step < (lineT t dir name).1.length
    · have e : idxS (lineT t dir name).1 step = (fi (lineT t dir name).1 step : Nat) := by unfold idxS; rw [if_pos h1.2]
      unfold befT; rw [if_pos h1]
      refine acall_of tabOk Tryd.func49 rfl (by kernel_rfl) (by simp [Tryd.ntmps49]) ?_; simp only [Tryd.ntmps49, Tryd.results49, List.toList_toArray, apar, List.length_nil, List.length_cons, Nat.reduceAdd]
      repeat' first
        | (with_reducible first | refine AWP.seq ?_ | refine thenA_n ?_ | refine thenA_r ?_ | refine thenA_e ?_ | refine blkA_n ?_ | refine blkA_r ?_ | refine blkA_e ?_ | refine blkA_x (by decide) ?_ | refine AWP.skip ?_ | refine AWP.ret ?_ | refine AWP.exit ?_ | refine AWP.block ?_)
        | (with_reducible refine AWP.cond rfl ?_ ?_ <;> intro hc <;> (try simp only [hcs, beq_iff_eq, ge_iff_le, gt_iff_lt] at hc))
        | ((first
          | (with_reducible first | refine AWP.region tabOk ?_ | refine AWP.quietC mixed tabOk (by decide +kernel) ?_ | refine AWP.draw mixed tabOk (by decide +kernel) ?_ | refine AWP.drawE mixed tabOk (by decide +kernel) ?_ | refine AWP.drawG mixed tabOk (by decide +kernel) ?_); intro K hK
          | ((first | refine acallH_sc (line_ct t dir name hw hn hr) rfl rfl ?_ ?_ ?_ | refine acallQ_sc (line_ct t dir name hw hn hr) rfl rfl ?_ ?_ ?_ | refine acallH_sc ((index_c (lineT t dir name).1 step hl).re (congrArg I e)) rfl rfl ?_ ?_ ?_ | refine acallQ_sc ((index_c (lineT t dir name).1 step hl).re (congrArg I e)) rfl rfl ?_ ?_ ?_); iterate 2 (focus ((try simp (disch := omega) only [go_sem, wrap_n, srow_rgetD, toNat_pr2]) <;> (try omega) <;> fail)))
          | ((first | refine acallH_anyr (line_ct t dir name hw hn hr) rfl ?_ ?_ | refine acallH_anyr ((index_c (lineT t dir name).1 step hl).re (congrArg I e)) rfl ?_ ?_); (focus ((try simp (disch := omega) only [go_sem, wrap_n, srow_rgetD, toNat_pr2]) <;> (try omega) <;> fail)))
          | ((first | refine acallH_scx (line_ct t dir name hw hn hr) rfl ?_ ?_ | refine acallQ_scx (line_ct t dir name hw hn hr) rfl ?_ ?_ | refine acallH_anyx (line_ct t dir name hw hn hr) ?_ ?_); (focus ((try simp (disch := omega) only [go_sem, wrap_n, srow_rgetD, toNat_pr2]) <;> (try omega) <;> fail)))
          | ((first | refine acallH_scx ((index_c (lineT t dir name).1 step hl).re (congrArg I e)) rfl ?_ ?_ | refine acallQ_scx ((index_c (lineT t dir name).1 step hl).re (congrArg I e)) rfl ?_ ?_ | refine acallH_anyx ((index_c (lineT t dir name).1 step hl).re (congrArg I e)) ?_ ?_); (focus ((try simp (disch := omega) only [go_sem, wrap_n, srow_rgetD, toNat_pr2]) <;> (try omega) <;> fail)))); ((try simp (disch := omega) only [go_sem, wrap_n, srow_rgetD, toNat_pr2]) <;> (repeat' with_reducible refine And.intro ?_ ?_) <;> (try (with_reducible refine hK _ ?_; clear hK K))))
        | ((first | (with_reducible refine aunder_i ?_ ?_ <;> intro hg) | with_reducible intro hg) <;> (first | (exfalso; simp at hg; done) | (have hg' := hg; (try simp only [hcs, beq_iff_eq, ge_iff_le, gt_iff_lt] at hg'); ((try simp (disch := omega) only [hg, go_sem, wrap_n, srow_rgetD, toNat_pr2]) <;> (repeat' with_reducible refine And.intro ?_ ?_) <;> (try (with_reducible refine hK _ ?_; clear hK K))))))
                                                                | omega
      all_goals (refine aend_retc ?_ rfl ?_ ?_ ?_ ?_; (focus (first | exact .inl rfl | exact .inr rfl)); (iterate 3 (focus ((try simp (disch := omega) only [go_sem, wrap_n]) <;> (try omega) <;> fail))); (try simp (disch := omega) only [go_sem, wrap_n, I, B, S, inj, List.cons.injEq, and_true, true_and, and_self]))
    · have e : idxS (lineT t dir name).1 step < 1 := by unfold idxS; split <;> omega
      unfold befT; rw [if_neg h1]
      refine acall_of tabOk Tryd.func49 rfl (by kernel_rfl) (by simp [Tryd.ntmps49]) ?_; simp only [Tryd.ntmps49, Tryd.results49, List.toList_toArray, apar, List.length_nil, List.length_cons, Nat.reduceAdd]
      repeat' first
        | (with_reducible first | refine AWP.seq ?_ | refine thenA_n ?_ | refine thenA_r ?_ | refine thenA_e ?_ | refine blkA_n ?_ | refine blkA_r ?_ | refine blkA_e ?_ | refine blkA_x (by decide) ?_ | refine AWP.skip ?_ | refine AWP.ret ?_ | refine AWP.exit ?_ | refine AWP.block ?_)
        | (with_reducible refine AWP.cond rfl ?_ ?_ <;> intro hc <;> (try simp only [hcs, beq_iff_eq, ge_iff_le, gt_iff_lt] at hc))
        | ((first
          | (with_reducible first | refine AWP.region tabOk ?_ | refine AWP.quietC mixed tabOk (by decide +kernel) ?_ | refine AWP.draw mixed tabOk (by decide +kernel) ?_ | refine AWP.drawE mixed tabOk (by decide +kernel) ?_ | refine AWP.drawG mixed tabOk (by decide +kernel) ?_); intro K hK
          | ((first | refine acallH_sc (line_ct t dir name hw hn hr) rfl rfl ?_ ?_ ?_ | refine acallQ_sc (line_ct t dir name hw hn hr) rfl rfl ?_ ?_ ?_ | refine acallH_sc (index_c (lineT t dir name).1 step hl) rfl rfl ?_ ?_ ?_ | refine acallQ_sc (index_c (lineT t dir name).1 step hl) rfl rfl ?_ ?_ ?_); iterate 2 (focus ((try simp (disch := omega) only [go_sem, wrap_n, srow_rgetD]) <;> (try omega) <;> fail)))
          | ((first | refine acallH_anyr (line_ct t dir name hw hn hr) rfl ?_ ?_ | refine acallH_anyr (index_c (lineT t dir name).1 step hl) rfl ?_ ?_); (focus ((try simp (disch := omega) only [go_sem, wrap_n, srow_rgetD]) <;> (try omega) <;> fail)))
          | ((first | refine acallH_scx (line_ct t dir name hw hn hr) rfl ?_ ?_ | refine acallQ_scx (line_ct t dir name hw hn hr) rfl ?_ ?_ | refine acallH_anyx (line_ct t dir name hw hn hr) ?_ ?_); (focus ((try simp (disch := omega) only [go_sem, wrap_n, srow_rgetD]) <;> (try omega) <;> fail)))
          | ((first | refine acallH_scx (index_c (lineT t dir name).1 step hl) rfl ?_ ?_ | refine acallQ_scx (index_c (lineT t dir name).1 step hl) rfl ?_ ?_ | refine acallH_anyx (index_c (lineT t dir name).1 step hl) ?_ ?_); (focus ((try simp (disch := omega) only [go_sem, wrap_n, srow_rgetD]) <;> (try omega) <;> fail)))); ((try simp (disch := omega) only [go_sem, wrap_n, srow_rgetD]) <;> (repeat' with_reducible refine And.intro ?_ ?_) <;> (try (with_reducible refine hK _ ?_; clear hK K))))
        | ((first | (with_reducible refine aunder_i ?_ ?_ <;> intro hg) | with_reducible intro hg) <;> (first | (exfalso; simp at hg; done) | (have hg' := hg; (try simp only [hcs, beq_iff_eq, ge_iff_le, gt_iff_lt] at hg'); ((try simp (disch := omega) only [hg, go_sem, wrap_n, srow_rgetD]) <;> (repeat' with_reducible refine And.intro ?_ ?_) <;> (try (with_reducible refine hK _ ?_; clear hK K))))))
                                                                | omega
      all_goals (refine aend_retc ?_ rfl ?_ ?_ ?_ ?_; (focus (first | exact .inl rfl | exact .inr rfl)); (iterate 3 (focus ((try simp (disch := omega) only [go_sem, wrap_n]) <;> (try omega) <;> fail))); (try simp (disch := omega) only [go_sem, wrap_n, I, B, S, inj, List.cons.injEq, and_true, true_and, and_self]))
  · unfold befT; rw [he h0, if_neg (by simp)]
    refine acall_of tabOk Tryd.func49 rfl (by kernel_rfl) (by simp [Tryd.ntmps49]) ?_; simp only [Tryd.ntmps49, Tryd.results49, List.toList_toArray, apar, List.length_nil, List.length_cons, Nat.reduceAdd]
    repeat' first
      | (with_reducible first | refine AWP.seq ?_ | refine thenA_n ?_ | refine thenA_r ?_ | refine thenA_e ?_ | refine blkA_n ?_ | refine blkA_r ?_ | refine blkA_e ?_ | refine blkA_x (by decide) ?_ | refine AWP.skip ?_ | refine AWP.ret ?_ | refine AWP.exit ?_ | refine AWP.block ?_)
      | (with_reducible refine AWP.cond rfl ?_ ?_ <;> intro hc <;> (try simp only [hcs, beq_iff_eq, ge_iff_le, gt_iff_lt] at hc))
      | ((first
        | (with_reducible first | refine AWP.region tabOk ?_ | refine AWP.quietC mixed tabOk (by decide +kernel) ?_ | refine AWP.draw mixed tabOk (by decide +kernel) ?_ | refine AWP.drawE mixed tabOk (by decide +kernel) ?_ | refine AWP.drawG mixed tabOk (by decide +kernel) ?_); intro K hK
        | ((first | refine acallH_sc (line_ct t dir name hw hn hr) rfl rfl ?_ ?_ ?_ | refine acallQ_sc (line_ct t dir name hw hn hr) rfl rfl ?_ ?_ ?_ | refine acallH_sc (index_c (lineT t dir name).1 step hl) rfl rfl ?_ ?_ ?_ | refine acallQ_sc (index_c (lineT t dir name).1 step hl) rfl rfl ?_ ?_ ?_); iterate 2 (focus ((try simp (disch := omega) only [go_sem, wrap_n, srow_rgetD]) <;> (try omega) <;> fail)))
        | ((first | refine acallH_anyr (line_ct t dir name hw hn hr) rfl ?_ ?_ | refine acallH_anyr (index_c (lineT t dir name).1 step hl) rfl ?_ ?_); (focus ((try simp (disch := omega) only [go_sem, wrap_n, srow_rgetD]) <;> (try omega) <;> fail)))
        | ((first | refine acallH_scx (line_ct t dir name hw hn hr) rfl ?_ ?_ | refine acallQ_scx (line_ct t dir name hw hn hr) rfl ?_ ?_ | refine acallH_anyx (line_ct t dir name hw hn hr) ?_ ?_); (focus ((try simp (disch := omega) only [go_sem, wrap_n, srow_rgetD]) <;> (try omega) <;> fail)))
        | ((first | refine acallH_scx (index_c (lineT t dir name).1 step hl) rfl ?_ ?_ | refine acallQ_scx (index_c (lineT t dir name).1 step hl) rfl ?_ ?_ | refine acallH_anyx (index_c (lineT t dir name).1 step hl) ?_ ?_); (focus ((try simp (disch := omega) only [go_sem, wrap_n, srow_rgetD]) <;> (try omega) <;> fail)))); ((try simp (disch := omega) only [go_sem, wrap_n, srow_rgetD]) <;> (repeat' with_reducible refine And.intro ?_ ?_) <;> (try (with_reducible refine hK _ ?_; clear hK K))))
      | ((first | (with_reducible refine aunder_i ?_ ?_ <;> intro hg) | with_reducible intro hg) <;> (first | (exfalso; simp at hg; done) | (have hg' := hg; (try simp only [hcs, beq_iff_eq, ge_iff_le, gt_iff_lt] at hg'); ((try simp (disch := omega) only [hg, go_sem, wrap_n, srow_rgetD]) <;> (repeat' with_reducible refine And.intro ?_ ?_) <;> (try (with_reducible refine hK _ ?_; clear hK K))))))
                                                              | omega
    all_goals (refine aend_retc ?_ rfl ?_ ?_ ?_ ?_; (focus (first | exact .inl rfl | exact .inr rfl)); (iterate 3 (focus ((try simp (disch := omega) only [go_sem, wrap_n]) <;> (try omega) <;> fail))); (try simp (disch := omega) only [go_sem, wrap_n, I, B, S, inj, List.cons.injEq, and_true, true_and, and_self]))
theorem ref_before_ct (t : ATree) (dir name step : List UInt8) (hw : t.wf) (hp : ∀ x, x ∈ t.nodes → x.path.length ≤ 1048576) (hn : okS name) (hr : Rises (pathsT t)) : acall Tryd.prog [] 50 [t.av, S dir, S name, S step] (ret (.tup [S (beforeT t dir name step).1, B (beforeT t dir name step).2])) := by
  have hl := line_wf t dir name hw.2.1.1
  unfold beforeT
  have hlc := ref_line_ct t dir name hw hp hn hr
  generalize (lineT t dir name).1 = l at hl hlc
  refine acall_of tabOk Tryd.func50 rfl (by kernel_rfl) (by simp [Tryd.ntmps50]) ?_; simp only [Tryd.ntmps50, Tryd.results50, List.toList_toArray, apar, List.length_nil, List.length_cons, Nat.reduceAdd]
  repeat' first
    | (with_reducible first | refine AWP.seq ?_ | refine thenA_n ?_ | refine thenA_r ?_ | refine thenA_e ?_ | refine blkA_n ?_ | refine blkA_r ?_ | refine blkA_e ?_ | refine blkA_x (by decide) ?_ | refine AWP.skip ?_ | refine AWP.ret ?_ | refine AWP.exit ?_ | refine AWP.block ?_)
    | (with_reducible refine AWP.cond rfl ?_ ?_ <;> intro hc <;> (try simp only [hcs, beq_iff_eq, ge_iff_le, gt_iff_lt] at hc))
    | ((first
      | (with_reducible first | refine AWP.region tabOk ?_ | refine AWP.quietC mixed tabOk (by decide +kernel) ?_ | refine AWP.draw mixed tabOk (by decide +kernel) ?_ | refine AWP.drawE mixed tabOk (by decide +kernel) ?_ | refine AWP.drawG mixed tabOk (by decide +kernel) ?_); intro K hK
      | ((first | refine acallH_sc (hlc) rfl rfl ?_ ?_ ?_ | refine acallQ_sc (hlc) rfl rfl ?_ ?_ ?_); iterate 2 (focus ((try simp (disch := omega) only [go_sem, wrap_n]) <;> (try omega) <;> fail)))
      | ((first | refine acallH_anyr (hlc) rfl ?_ ?_); (focus ((try simp (disch := omega) only [go_sem, wrap_n]) <;> (try omega) <;> fail)))
      | ((first | refine acallH_scx (hlc) rfl ?_ ?_ | refine acallQ_scx (hlc) rfl ?_ ?_ | refine acallH_anyx (hlc) ?_ ?_); (focus ((try simp (disch := omega) only [go_sem, wrap_n]) <;> (try omega) <;> fail)))); ((try simp (disch := omega) only [go_sem, wrap_n]) <;> (repeat' with_reducible refine And.intro ?_ ?_) <;> (try (with_reducible refine hK _ ?_; clear hK K))))
    | ((first | (with_reducible refine aunder_i ?_ ?_ <;> intro hg) | with_reducible intro hg) <;> (first | (exfalso; simp at hg; done) | (have hg' := hg; (try simp only [hcs, beq_iff_eq, ge_iff_le, gt_iff_lt] at hg'); ((try simp (disch := omega) only [hg, go_sem, wrap_n]) <;> (repeat' with_reducible refine And.intro ?_ ?_) <;> (try (with_reducible refine hK _ ?_; clear hK K))))))
                                                            | omega
  refine AWP.loopS (ι := Nat) (fun k => 1 ≤ k ∧ ∀ j, 1 ≤ j → j < k → j < l.length → ¬ (l.getD j [] = step ∧ l.getD 0 [] ≠ step)) (fun k => l.length + 1 - k) [3, 10] (fun k => [(12, I k)]) 1 ?_ (by simp (disch := omega) only [go_sem, wrap_n, true_and]) ?_
  · exact ⟨by omega, fun j h1 h2 => by omega⟩
  intro k ⟨hk, hk2⟩
  simp only [go_sem]
  repeat' first
    | (with_reducible first | refine AWP.seq ?_ | refine thenA_n ?_ | refine thenA_r ?_ | refine thenA_e ?_ | refine blkA_n ?_ | refine blkA_r ?_ | refine blkA_e ?_ | refine blkA_x (by decide) ?_ | refine AWP.skip ?_ | refine AWP.ret ?_ | refine AWP.exit ?_ | refine AWP.block ?_)
    | (with_reducible refine AWP.cond rfl ?_ ?_ <;> intro hc <;> (try simp only [hcs, beq_iff_eq, ge_iff_le, gt_iff_lt] at hc))
    | ((first
      | (with_reducible first | refine AWP.region tabOk ?_ | refine AWP.quietC mixed tabOk (by decide +kernel) ?_ | refine AWP.draw mixed tabOk (by decide +kernel) ?_ | refine AWP.drawE mixed tabOk (by decide +kernel) ?_ | refine AWP.drawG mixed tabOk (by decide +kernel) ?_); intro K hK); ((try simp (disch := omega) only [go_sem, wrap_n, srow_rgetD, toNat_pr2]) <;> (repeat' with_reducible refine And.intro ?_ ?_) <;> (try (with_reducible refine hK _ ?_; clear hK K))))
    | ((first | (with_reducible refine aunder_i ?_ ?_ <;> intro hg) | with_reducible intro hg) <;> (first | (exfalso; simp at hg; done) | (have hg' := hg; (try simp only [hcs, beq_iff_eq, ge_iff_le, gt_iff_lt] at hg'); ((try simp (disch := omega) only [hg, go_sem, wrap_n, srow_rgetD, toNat_pr2]) <;> (repeat' with_reducible refine And.intro ?_ ?_) <;> (try (with_reducible refine hK _ ?_; clear hK K))))))
                                                            | omega
  · have e : fi l step = k := fi_eq (by assumption) hc.1 fun j hj => by
      by_cases e0 : j = 0
      · subst e0; exact hc.2
      · intro ej; exact hk2 j (by omega) hj (by omega) ⟨ej, hc.2⟩
    unfold befT; rw [e, if_pos ⟨by omega, by assumption⟩]
    (refine aend_retc ?_ rfl ?_ ?_ ?_ ?_; (focus (first | exact .inl rfl | exact .inr rfl)); (iterate 3 (focus ((try simp (disch := omega) only [go_sem, wrap_n]) <;> (try omega) <;> fail))); (try simp (disch := omega) only [go_sem, wrap_n, I, B, S, inj, List.cons.injEq, and_true, true_and, and_self]))
  · refine ⟨k + 1, ⟨by omega, fun j h1 h2 h3 => ?_⟩, by omega, ?_⟩
    · by_cases ej : j = k
      · subst ej; rintro ⟨q1, q2⟩
        rcases hc with h | h
        · exact h q1
        · exact q2 h
      · exact hk2 j h1 (by omega) h3
    (refine SImp.same ?_; simp (disch := omega) only [go_sem, wrap_n, Int.natCast_add])
  · have hno : ¬ (0 < fi l step ∧ fi l step < l.length) := by
      rintro ⟨q1, q2⟩
      have hx : l.getD (fi l step) [] = step := by
        have := List.findIdx_getElem (p := fun y => decide (y = step)) (xs := l) (w := q2)
        rw [decide_eq_true_eq] at this
        rw [List.getD_eq_getElem?_getD, List.getElem?_eq_getElem q2]; exact this
      have h0 : l.getD 0 [] ≠ step := fun e => by
        have := fi_eq (l := l) (i := 0) (by omega) e (fun j hj => by omega)
        omega
      exact hk2 _ q1 (by omega) q2 ⟨hx, h0⟩
    unfold befT; rw [if_neg hno]
    (refine aend_retc ?_ rfl ?_ ?_ ?_ ?_; (focus (first | exact .inl rfl | exact .inr rfl)); (iterate 3 (focus ((try simp (disch := omega) only [go_sem, wrap_n]) <;> (try omega) <;> fail))); (try simp (disch := omega) only [go_sem, wrap_n, I, B, S, inj, List.cons.injEq, and_true, true_and, and_self]))
set_option maxHeartbeats 8000000 in
theorem recipeLines_w (t : ATree) (dir name step : List UInt8) (hw : t.wf) (hp : ∀ x, x ∈ t.nodes → x.path.length ≤ 1048576) (hd : dir.length ≤ 1048576) (hn : okS name) : acall Tryd.prog [] 9 [t.av, S dir, S name, S step] (ret (B true)) := by
  have hl := line_wf t dir name hw.2.1.1
  have hd' : okS dir := by unfold okS; omega
  by_cases hg : goodTr t = true
  · have hr := good_rises hg
    refine acall_of tabOk Tryd.func9 rfl (by kernel_rfl) (by simp [Tryd.ntmps9]) ?_; simp only [Tryd.ntmps9, Tryd.results9, List.toList_toArray, apar, List.length_nil, List.length_cons, Nat.reduceAdd]
    repeat' first
      | (with_reducible first | refine AWP.seq ?_ | refine thenA_n ?_ | refine thenA_r ?_ | refine thenA_e ?_ | refine blkA_n ?_ | refine blkA_r ?_ | refine blkA_e ?_ | refine blkA_x (by decide) ?_ | refine AWP.skip ?_ | refine AWP.ret ?_ | refine AWP.exit ?_ | refine AWP.block ?_)
      | (with_reducible refine AWP.cond rfl ?_ ?_ <;> intro hc <;> (try simp only [hcs, beq_iff_eq, ge_iff_le, gt_iff_lt] at hc))
      | ((first
        | (with_reducible first | refine AWP.region tabOk ?_ | refine AWP.quietC mixed tabOk (by decide +kernel) ?_ | refine AWP.draw mixed tabOk (by decide +kernel) ?_ | refine AWP.drawE mixed tabOk (by decide +kernel) ?_ | refine AWP.drawG mixed tabOk (by decide +kernel) ?_); intro K hK
        | ((first | refine acallH_sc ((ref_tgood_c t hw hp).re (congrArg B hg)) rfl rfl ?_ ?_ ?_ | refine acallQ_sc ((ref_tgood_c t hw hp).re (congrArg B hg)) rfl rfl ?_ ?_ ?_ | refine acallH_sc (copyT_c t hw) rfl rfl ?_ ?_ ?_ | refine acallQ_sc (copyT_c t hw) rfl rfl ?_ ?_ ?_ | refine acallH_sc (line_ct t dir name hw hn hr) rfl rfl ?_ ?_ ?_ | refine acallQ_sc (line_ct t dir name hw hn hr) rfl rfl ?_ ?_ ?_ | refine acallH_sc (ref_line_ct t dir name hw hp hn hr) rfl rfl ?_ ?_ ?_ | refine acallQ_sc (ref_line_ct t dir name hw hp hn hr) rfl rfl ?_ ?_ ?_ | refine acallH_sc (hold_ct t dir name hw hd' hn hr) rfl rfl ?_ ?_ ?_ | refine acallQ_sc (hold_ct t dir name hw hd' hn hr) rfl rfl ?_ ?_ ?_ | refine acallH_sc (ref_hold_ct t dir name hw hp hd hn hr) rfl rfl ?_ ?_ ?_ | refine acallQ_sc (ref_hold_ct t dir name hw hp hd hn hr) rfl rfl ?_ ?_ ?_ | refine acallH_sc (before_ct t dir name step hw hn hr) rfl rfl ?_ ?_ ?_ | refine acallQ_sc (before_ct t dir name step hw hn hr) rfl rfl ?_ ?_ ?_ | refine acallH_sc (ref_before_ct t dir name step hw hp hn hr) rfl rfl ?_ ?_ ?_ | refine acallQ_sc (ref_before_ct t dir name step hw hp hn hr) rfl rfl ?_ ?_ ?_ | refine acallH_sc (locks_c) rfl rfl ?_ ?_ ?_ | refine acallQ_sc (locks_c) rfl rfl ?_ ?_ ?_); iterate 2 (focus ((try simp (disch := omega) only [go_sem, wrap_n]) <;> (try omega) <;> fail)))
        | ((first | refine acallH_anyr ((ref_tgood_c t hw hp).re (congrArg B hg)) rfl ?_ ?_ | refine acallH_anyr (copyT_c t hw) rfl ?_ ?_ | refine acallH_anyr (line_ct t dir name hw hn hr) rfl ?_ ?_ | refine acallH_anyr (ref_line_ct t dir name hw hp hn hr) rfl ?_ ?_ | refine acallH_anyr (hold_ct t dir name hw hd' hn hr) rfl ?_ ?_ | refine acallH_anyr (ref_hold_ct t dir name hw hp hd hn hr) rfl ?_ ?_ | refine acallH_anyr (before_ct t dir name step hw hn hr) rfl ?_ ?_ | refine acallH_anyr (ref_before_ct t dir name step hw hp hn hr) rfl ?_ ?_ | refine acallH_anyr (locks_c) rfl ?_ ?_); (focus ((try simp (disch := omega) only [go_sem, wrap_n]) <;> (try omega) <;> fail)))
        | ((first | refine acallH_scx ((ref_tgood_c t hw hp).re (congrArg B hg)) rfl ?_ ?_ | refine acallQ_scx ((ref_tgood_c t hw hp).re (congrArg B hg)) rfl ?_ ?_ | refine acallH_anyx ((ref_tgood_c t hw hp).re (congrArg B hg)) ?_ ?_); (focus ((try simp (disch := omega) only [go_sem, wrap_n]) <;> (try omega) <;> fail)))
        | ((first | refine acallH_scx (copyT_c t hw) rfl ?_ ?_ | refine acallQ_scx (copyT_c t hw) rfl ?_ ?_ | refine acallH_anyx (copyT_c t hw) ?_ ?_); (focus ((try simp (disch := omega) only [go_sem, wrap_n]) <;> (try omega) <;> fail)))
        | ((first | refine acallH_scx (line_ct t dir name hw hn hr) rfl ?_ ?_ | refine acallQ_scx (line_ct t dir name hw hn hr) rfl ?_ ?_ | refine acallH_anyx (line_ct t dir name hw hn hr) ?_ ?_); (focus ((try simp (disch := omega) only [go_sem, wrap_n]) <;> (try omega) <;> fail)))
        | ((first | refine acallH_scx (ref_line_ct t dir name hw hp hn hr) rfl ?_ ?_ | refine acallQ_scx (ref_line_ct t dir name hw hp hn hr) rfl ?_ ?_ | refine acallH_anyx (ref_line_ct t dir name hw hp hn hr) ?_ ?_); (focus ((try simp (disch := omega) only [go_sem, wrap_n]) <;> (try omega) <;> fail)))
        | ((first | refine acallH_scx (hold_ct t dir name hw hd' hn hr) rfl ?_ ?_ | refine acallQ_scx (hold_ct t dir name hw hd' hn hr) rfl ?_ ?_ | refine acallH_anyx (hold_ct t dir name hw hd' hn hr) ?_ ?_); (focus ((try simp (disch := omega) only [go_sem, wrap_n]) <;> (try omega) <;> fail)))
        | ((first | refine acallH_scx (ref_hold_ct t dir name hw hp hd hn hr) rfl ?_ ?_ | refine acallQ_scx (ref_hold_ct t dir name hw hp hd hn hr) rfl ?_ ?_ | refine acallH_anyx (ref_hold_ct t dir name hw hp hd hn hr) ?_ ?_); (focus ((try simp (disch := omega) only [go_sem, wrap_n]) <;> (try omega) <;> fail)))
        | ((first | refine acallH_scx (before_ct t dir name step hw hn hr) rfl ?_ ?_ | refine acallQ_scx (before_ct t dir name step hw hn hr) rfl ?_ ?_ | refine acallH_anyx (before_ct t dir name step hw hn hr) ?_ ?_); (focus ((try simp (disch := omega) only [go_sem, wrap_n]) <;> (try omega) <;> fail)))
        | ((first | refine acallH_scx (ref_before_ct t dir name step hw hp hn hr) rfl ?_ ?_ | refine acallQ_scx (ref_before_ct t dir name step hw hp hn hr) rfl ?_ ?_ | refine acallH_anyx (ref_before_ct t dir name step hw hp hn hr) ?_ ?_); (focus ((try simp (disch := omega) only [go_sem, wrap_n]) <;> (try omega) <;> fail)))
        | ((first | refine acallH_scx (locks_c) rfl ?_ ?_ | refine acallQ_scx (locks_c) rfl ?_ ?_ | refine acallH_anyx (locks_c) ?_ ?_); (focus ((try simp (disch := omega) only [go_sem, wrap_n]) <;> (try omega) <;> fail)))); ((try simp (disch := omega) only [go_sem, wrap_n]) <;> (repeat' with_reducible refine And.intro ?_ ?_) <;> (try (with_reducible refine hK _ ?_; clear hK K))))
      | ((first | (with_reducible refine aunder_i ?_ ?_ <;> intro hg) | with_reducible intro hg) <;> (first | (exfalso; simp at hg; done) | (have hg' := hg; (try simp only [hcs, beq_iff_eq, ge_iff_le, gt_iff_lt] at hg'); ((try simp (disch := omega) only [hg, go_sem, wrap_n]) <;> (repeat' with_reducible refine And.intro ?_ ?_) <;> (try (with_reducible refine hK _ ?_; clear hK K))))))
                                                              | omega
    refine AWP.loopS (ι := Nat) (fun k => k ≤ (lineT t dir name).1.length) (fun k => (lineT t dir name).1.length - k) [9, 11] (fun k => [(23, I k)]) 0 ?_ (by simp (disch := omega) only [go_sem, wrap_n, true_and]) ?_
    · omega
    intro k hk
    simp only [go_sem]
    repeat' first
      | (with_reducible first | refine AWP.seq ?_ | refine thenA_n ?_ | refine thenA_r ?_ | refine thenA_e ?_ | refine blkA_n ?_ | refine blkA_r ?_ | refine blkA_e ?_ | refine blkA_x (by decide) ?_ | refine AWP.skip ?_ | refine AWP.ret ?_ | refine AWP.exit ?_ | refine AWP.block ?_)
      | (with_reducible refine AWP.cond rfl ?_ ?_ <;> intro hc <;> (try simp only [hcs, beq_iff_eq, ge_iff_le, gt_iff_lt] at hc))
      | ((first
        | (with_reducible first | refine AWP.region tabOk ?_ | refine AWP.quietC mixed tabOk (by decide +kernel) ?_ | refine AWP.draw mixed tabOk (by decide +kernel) ?_ | refine AWP.drawE mixed tabOk (by decide +kernel) ?_ | refine AWP.drawG mixed tabOk (by decide +kernel) ?_); intro K hK
        | ((first | refine acallH_sc (locks_c) rfl rfl ?_ ?_ ?_ | refine acallQ_sc (locks_c) rfl rfl ?_ ?_ ?_); iterate 2 (focus ((try simp (disch := omega) only [go_sem, wrap_n, srow_rgetD]) <;> (try omega) <;> fail)))
        | ((first | refine acallH_anyr (locks_c) rfl ?_ ?_); (focus ((try simp (disch := omega) only [go_sem, wrap_n, srow_rgetD]) <;> (try omega) <;> fail)))
        | ((first | refine acallH_scx (locks_c) rfl ?_ ?_ | refine acallQ_scx (locks_c) rfl ?_ ?_ | refine acallH_anyx (locks_c) ?_ ?_); (focus ((try simp (disch := omega) only [go_sem, wrap_n, srow_rgetD]) <;> (try omega) <;> fail)))); ((try simp (disch := omega) only [go_sem, wrap_n, srow_rgetD]) <;> (repeat' with_reducible refine And.intro ?_ ?_) <;> (try (with_reducible refine hK _ ?_; clear hK K))))
      | ((first | (with_reducible refine aunder_i ?_ ?_ <;> intro hg) | with_reducible intro hg) <;> (first | (exfalso; simp at hg; done) | (have hg' := hg; (try simp only [hcs, beq_iff_eq, ge_iff_le, gt_iff_lt] at hg'); ((try simp (disch := omega) only [hg, go_sem, wrap_n, srow_rgetD]) <;> (repeat' with_reducible refine And.intro ?_ ?_) <;> (try (with_reducible refine hK _ ?_; clear hK K))))))
                                                              | omega
    · refine ⟨k + 1, by omega, by omega, ?_⟩
      (refine SImp.same ?_; simp (disch := omega) only [go_sem, wrap_n, Int.natCast_add])
    all_goals (refine aend_retc ?_ rfl ?_ ?_ ?_ ?_; (focus (first | exact .inl rfl | exact .inr rfl)); (iterate 3 (focus ((try simp (disch := omega) only [go_sem, wrap_n]) <;> (try omega) <;> fail))); (try simp (disch := omega) only [go_sem, wrap_n, I, B, S, inj, List.cons.injEq, and_true, true_and, and_self]))
  · have hg2 : goodTr t = false := by simpa using hg
    refine acall_of tabOk Tryd.func9 rfl (by kernel_rfl) (by simp [Tryd.ntmps9]) ?_; simp only [Tryd.ntmps9, Tryd.results9, List.toList_toArray, apar, List.length_nil, List.length_cons, Nat.reduceAdd]
    repeat' first
      | (with_reducible first | refine AWP.seq ?_ | refine thenA_n ?_ | refine thenA_r ?_ | refine thenA_e ?_ | refine blkA_n ?_ | refine blkA_r ?_ | refine blkA_e ?_ | refine blkA_x (by decide) ?_ | refine AWP.skip ?_ | refine AWP.ret ?_ | refine AWP.exit ?_ | refine AWP.block ?_)
      | (with_reducible refine AWP.cond rfl ?_ ?_ <;> intro hc <;> (try simp only [hcs, beq_iff_eq, ge_iff_le, gt_iff_lt] at hc))
      | ((first
        | (with_reducible first | refine AWP.region tabOk ?_ | refine AWP.quietC mixed tabOk (by decide +kernel) ?_ | refine AWP.draw mixed tabOk (by decide +kernel) ?_ | refine AWP.drawE mixed tabOk (by decide +kernel) ?_ | refine AWP.drawG mixed tabOk (by decide +kernel) ?_); intro K hK
        | ((first | refine acallH_sc ((ref_tgood_c t hw hp).re (congrArg B hg2)) rfl rfl ?_ ?_ ?_ | refine acallQ_sc ((ref_tgood_c t hw hp).re (congrArg B hg2)) rfl rfl ?_ ?_ ?_ | refine acallH_sc (locks_c) rfl rfl ?_ ?_ ?_ | refine acallQ_sc (locks_c) rfl rfl ?_ ?_ ?_); iterate 2 (focus ((try simp (disch := omega) only [go_sem, wrap_n]) <;> (try omega) <;> fail)))
        | ((first | refine acallH_anyr ((ref_tgood_c t hw hp).re (congrArg B hg2)) rfl ?_ ?_ | refine acallH_anyr (locks_c) rfl ?_ ?_); (focus ((try simp (disch := omega) only [go_sem, wrap_n]) <;> (try omega) <;> fail)))
        | ((first | refine acallH_scx ((ref_tgood_c t hw hp).re (congrArg B hg2)) rfl ?_ ?_ | refine acallQ_scx ((ref_tgood_c t hw hp).re (congrArg B hg2)) rfl ?_ ?_ | refine acallH_anyx ((ref_tgood_c t hw hp).re (congrArg B hg2)) ?_ ?_); (focus ((try simp (disch := omega) only [go_sem, wrap_n]) <;> (try omega) <;> fail)))
        | ((first | refine acallH_scx (locks_c) rfl ?_ ?_ | refine acallQ_scx (locks_c) rfl ?_ ?_ | refine acallH_anyx (locks_c) ?_ ?_); (focus ((try simp (disch := omega) only [go_sem, wrap_n]) <;> (try omega) <;> fail)))); ((try simp (disch := omega) only [go_sem, wrap_n]) <;> (repeat' with_reducible refine And.intro ?_ ?_) <;> (try (with_reducible refine hK _ ?_; clear hK K))))
      | ((first | (with_reducible refine aunder_i ?_ ?_ <;> intro hg) | with_reducible intro hg) <;> (first | (exfalso; simp at hg; done) | (have hg' := hg; (try simp only [hcs, beq_iff_eq, ge_iff_le, gt_iff_lt] at hg'); ((try simp (disch := omega) only [hg, go_sem, wrap_n]) <;> (repeat' with_reducible refine And.intro ?_ ?_) <;> (try (with_reducible refine hK _ ?_; clear hK K))))))
                                                              | omega
    all_goals (refine aend_retc ?_ rfl ?_ ?_ ?_ ?_; (focus (first | exact .inl rfl | exact .inr rfl)); (iterate 3 (focus ((try simp (disch := omega) only [go_sem, wrap_n]) <;> (try omega) <;> fail))); (try simp (disch := omega) only [go_sem, wrap_n, I, B, S, inj, List.cons.injEq, and_true, true_and, and_self]))
theorem recipeLines_u (dss : List (List DV)) (h : typeds T 6 Tryd.f9.params.toList dss) (hs : ∀ cs, cs ∈ dss → ∀ c, c ∈ cs → SmallD 1048576 c) : acall Tryd.prog [] 9 (aargs T Tryd.f9.params.toList dss) (fun v _ => v = B true) := by
  rw [Tryd.params9] at h ⊢
  simp only [List.toList_toArray, typeds] at h
  obtain ⟨c0, d0, rfl, h0, c1, d1, rfl, h1, c2, d2, rfl, h2, c3, d3, rfl, h3, rfl⟩ := h
  have s0 := hs c0 (by simp)
  have s1 := hs c1 (by simp)
  have s2 := hs c2 (by simp)
  have s3 := hs c3 (by simp)
  obtain ⟨t, rfl, w_t⟩ := ATree_typed (m := 1) h0
  obtain ⟨dir, rfl, w_dir⟩ := ty_str (m := 5) (by simp only [T_9, ty9]) h1
  obtain ⟨name, rfl, w_name⟩ := ty_str (m := 5) (by simp only [T_9, ty9]) h2
  obtain ⟨step, rfl, w_step⟩ := ty_str (m := 5) (by simp only [T_9, ty9]) h3
  have u_t := s0
  have u_dir := (s1 _ (List.mem_singleton.2 rfl)).len
  have u_name := (s2 _ (List.mem_singleton.2 rfl)).len
  have u_step := (s3 _ (List.mem_singleton.2 rfl)).len
  simp only [List.toList_toArray, aargs, aarg, TI.agg_mk, T_9, ty9, T_44, ty44]
  exact (recipeLines_w t dir name step w_t (fun x hx => tree_small u_t hx) u_dir w_name).mono fun _ _ h => h.1
end Go.Proofs.YtmpfhalheaeibaaDoor
