/- Contracts of zxid.Read and its reference. No condition. -/
import Derived.Test.YtplgghpnijmllaaIx
import Derived.Test.YtplgghpnijmllaaDe
import Derived.Test.YtplgghpnijmllaaZx
import Derived.Test.YtplgghpnijmllaaPn
import Derived.Lib.IndexLaws
namespace Go.Proofs.Ytplgghpnijmllaa
open Go Go.RowKit
set_option maxRecDepth 100000
set_option linter.unusedSimpArgs false

def isDig (c : UInt8) : Bool := decide (48 ≤ c.toNat ∧ c.toNat ≤ 57)
def valS (t : List UInt8) : Nat := t.foldl (fun n c => n * 10 + (c.toNat - 48)) 0
theorem valS_snoc (t : List UInt8) (k : Nat) (h : k < t.length) : valS (t.take (k + 1)) = valS (t.take k) * 10 + ((t.getD k 0).toNat - 48) := by
  unfold valS
  have : t.take (k + 1) = t.take k ++ [t.getD k 0] := take_snoc t k h
  rw [this, List.foldl_append]; rfl
theorem valS_lt (t : List UInt8) : t.all isDig = true → valS t < 10 ^ t.length := by
  have : ∀ (t : List UInt8) (n : Nat), t.all isDig = true → t.foldl (fun n c => n * 10 + (c.toNat - 48)) n < (n + 1) * 10 ^ t.length := by
    intro t
    induction t with
    | nil => intro n _; simp
    | cons c t ih =>
      intro n h
      simp only [List.all_cons, Bool.and_eq_true] at h
      have hc := h.1
      unfold isDig at hc
      rw [decide_eq_true_eq] at hc
      have := ih (n * 10 + (c.toNat - 48)) h.2
      simp only [List.foldl_cons, List.length_cons, Nat.pow_succ]
      refine Nat.lt_of_lt_of_le this ?_
      have e : (n + 1) * (10 ^ t.length * 10) = ((n + 1) * 10) * 10 ^ t.length := by rw [Nat.mul_comm (10 ^ t.length) 10, Nat.mul_assoc]
      rw [e]
      exact Nat.mul_le_mul_right _ (by omega)
  intro h
  have := this t 0 h
  simpa [valS] using this
def smallB (t : List UInt8) : Bool := !decide (t = []) && (decide (t.length ≤ 10) && (!(decide (1 < t.length) && decide (((t.getD 0 0).toNat : Int) = 48)) && t.all isDig))
def smallP (t : List UInt8) : Int × Bool := if smallB t = true then ((valS t : Nat), true) else (0, false)
def cutP (s : List UInt8) (c : UInt8) : (List UInt8 × List UInt8) × Bool := if 0 ≤ Lib.indexByte s c then ((s.take (Lib.indexByte s c).toNat, s.drop ((Lib.indexByte s c).toNat + 1)), true) else ((s, []), false)
theorem index_lt (s : List UInt8) (c : UInt8) : Lib.indexByte s c < s.length := by
  induction s with
  | nil => simp [Lib.indexByte]
  | cons b s ih =>
    unfold Lib.indexByte
    split
    · simp
    · split <;> simp <;> omega
theorem take_drop_full {α : Type} (l : List α) (k : Nat) : List.take (l.length - k) (List.drop k l) = List.drop k l := List.take_of_length_le (by simp)
theorem toNat_ad1 (n : Nat) : ((n : Int) + 1).toNat = n + 1 := by omega
theorem cutL_c (s : List UInt8) (c : UInt8) (hs : okS s) : acall Try.prog [] 102 [S s, S [c]] (ret (.tup [S (cutP s c).1.1, S (cutP s c).1.2, B (cutP s c).2])) := by
  unfold okS at hs
  have hi := index_lt s c
  by_cases h : 0 ≤ Lib.indexByte s c
  · obtain ⟨n, hn⟩ := Int.eq_ofNat_of_zero_le h
    have e : cutP s c = ((s.take n, s.drop (n + 1)), true) := by unfold cutP; rw [if_pos h, hn]; rfl
    rw [hn] at hi
    rw [e]
    refine acall_of tabOk Try.func102 rfl (by kernel_rfl) (by simp [Try.ntmps102]) ?_; simp only [Try.ntmps102, Try.results102, List.toList_toArray, apar, List.length_nil, List.length_cons, Nat.reduceAdd]
    repeat' first
      | with_reducible refine AWP.seq ?_
      | with_reducible refine thenA_n ?_
      | with_reducible refine thenA_r ?_
      | with_reducible refine thenA_e ?_
      | with_reducible refine blkA_n ?_
      | with_reducible refine blkA_r ?_
      | with_reducible refine blkA_e ?_
      | with_reducible refine blkA_x (by decide) ?_
      | with_reducible refine AWP.skip ?_
      | with_reducible refine AWP.ret ?_
      | with_reducible refine AWP.exit ?_
      | with_reducible refine AWP.block ?_
      | (with_reducible refine AWP.cond rfl ?_ ?_ <;> intro hc <;> (try simp only [decide_eq_true_eq, decide_eq_false_iff_not, Bool.and_eq_true, Bool.or_eq_true, Bool.or_eq_false_iff, Bool.and_eq_false_iff, Bool.not_eq_true', Bool.not_eq_false', Bool.true_eq_false, Bool.false_eq_true, Bool.not_eq_true, Bool.not_eq_false, Int.not_lt, Int.not_le, Nat.not_lt, Nat.not_le, Int.ofNat_lt, Int.ofNat_le, Int.natCast_eq_zero, not_true_eq_false, not_false_eq_true, beq_iff_eq, Bool.not_true, Bool.not_false, ge_iff_le, gt_iff_lt] at hc))
      | ((first | with_reducible refine AWP.region tabOk ?_ | with_reducible refine AWP.quietC mixed tabOk (by decide +kernel) ?_ | with_reducible refine AWP.draw mixed tabOk (by decide +kernel) ?_ | with_reducible refine AWP.drawE mixed tabOk (by decide +kernel) ?_); intro K hK; ((try simp (disch := omega) only [go_sem, wrap_n, toNat_ad1, take_drop_full, Nat.sub_zero]) <;> (repeat' with_reducible refine And.intro ?_ ?_) <;> (try (with_reducible refine hK _ ?_; clear hK K))))
      | ((first | refine acallH_sc ((indexL_c s c).re (by rw [hn])) rfl rfl ?_ ?_ ?_); (focus ((try simp (disch := omega) only [go_sem, wrap_n, toNat_ad1, take_drop_full, Nat.sub_zero]) <;> (try omega) <;> fail)); (focus ((try simp (disch := omega) only [go_sem, wrap_n, toNat_ad1, take_drop_full, Nat.sub_zero]) <;> (try omega) <;> fail)); ((try simp (disch := omega) only [go_sem, wrap_n, toNat_ad1, take_drop_full, Nat.sub_zero]) <;> (repeat' with_reducible refine And.intro ?_ ?_) <;> (try (with_reducible refine hK _ ?_; clear hK K))))
      | ((first | refine acallQ_sc ((indexL_c s c).re (by rw [hn])) rfl rfl ?_ ?_ ?_); (focus ((try simp (disch := omega) only [go_sem, wrap_n, toNat_ad1, take_drop_full, Nat.sub_zero]) <;> (try omega) <;> fail)); (focus ((try simp (disch := omega) only [go_sem, wrap_n, toNat_ad1, take_drop_full, Nat.sub_zero]) <;> (try omega) <;> fail)); ((try simp (disch := omega) only [go_sem, wrap_n, toNat_ad1, take_drop_full, Nat.sub_zero]) <;> (repeat' with_reducible refine And.intro ?_ ?_) <;> (try (with_reducible refine hK _ ?_; clear hK K))))
      | ((first | refine acallH_anyr ((indexL_c s c).re (by rw [hn])) rfl ?_ ?_); (focus ((try simp (disch := omega) only [go_sem, wrap_n, toNat_ad1, take_drop_full, Nat.sub_zero]) <;> (try omega) <;> fail)); ((try simp (disch := omega) only [go_sem, wrap_n, toNat_ad1, take_drop_full, Nat.sub_zero]) <;> (repeat' with_reducible refine And.intro ?_ ?_) <;> (try (with_reducible refine hK _ ?_; clear hK K))))
      | ((first | refine acallH_scx ((indexL_c s c).re (by rw [hn])) rfl ?_ ?_ | refine acallQ_scx ((indexL_c s c).re (by rw [hn])) rfl ?_ ?_ | refine acallH_anyx ((indexL_c s c).re (by rw [hn])) ?_ ?_); (focus ((try simp (disch := omega) only [go_sem, wrap_n, toNat_ad1, take_drop_full, Nat.sub_zero]) <;> (try omega) <;> fail)); ((try simp (disch := omega) only [go_sem, wrap_n, toNat_ad1, take_drop_full, Nat.sub_zero]) <;> (repeat' with_reducible refine And.intro ?_ ?_) <;> (try (with_reducible refine hK _ ?_; clear hK K))))
      | ((first | (with_reducible refine aunder_i ?_ ?_ <;> intro hg) | with_reducible intro hg) <;> (first | (exfalso; simp at hg; done) | (have hg' := hg; (try simp only [decide_eq_true_eq, decide_eq_false_iff_not, Bool.and_eq_true, Bool.or_eq_true, Bool.or_eq_false_iff, Bool.and_eq_false_iff, Bool.not_eq_true', Bool.not_eq_false', Bool.true_eq_false, Bool.false_eq_true, Bool.not_eq_true, Bool.not_eq_false, Int.not_lt, Int.not_le, Nat.not_lt, Nat.not_le, Int.ofNat_lt, Int.ofNat_le, Int.natCast_eq_zero, not_true_eq_false, not_false_eq_true, beq_iff_eq, Bool.not_true, Bool.not_false, ge_iff_le, gt_iff_lt] at hg'); ((try simp (disch := omega) only [hg, go_sem, wrap_n, toNat_ad1, take_drop_full, Nat.sub_zero]) <;> (repeat' with_reducible refine And.intro ?_ ?_) <;> (try (with_reducible refine hK _ ?_; clear hK K))))))
                                                              | omega
    (refine aend_retc ?_ rfl ?_ ?_ ?_ ?_; (focus (first | exact .inl rfl | exact .inr rfl)); (focus ((try simp (disch := omega) only [go_sem, wrap_n, true_and]) <;> (try omega) <;> fail)); (focus ((try simp (disch := omega) only [go_sem, wrap_n, true_and]) <;> (try omega) <;> fail)); (focus ((try simp (disch := omega) only [go_sem, wrap_n, true_and]) <;> (try omega) <;> fail)); (try simp (disch := omega) only [go_sem, wrap_n, true_and, I, B, S, AV.d.injEq, DV.int.injEq, DV.bool.injEq, DV.str.injEq, DV.sl.injEq, AV.tup.injEq, AV.agg.injEq, List.cons.injEq, and_true, true_and, and_self]))
  · have e : cutP s c = ((s, []), false) := by unfold cutP; rw [if_neg h]
    rw [e]
    have hi2 := Lib.indexByte_ge s c
    have hn : Lib.indexByte s c = -1 := by omega
    refine acall_of tabOk Try.func102 rfl (by kernel_rfl) (by simp [Try.ntmps102]) ?_; simp only [Try.ntmps102, Try.results102, List.toList_toArray, apar, List.length_nil, List.length_cons, Nat.reduceAdd]
    repeat' first
      | with_reducible refine AWP.seq ?_
      | with_reducible refine thenA_n ?_
      | with_reducible refine thenA_r ?_
      | with_reducible refine thenA_e ?_
      | with_reducible refine blkA_n ?_
      | with_reducible refine blkA_r ?_
      | with_reducible refine blkA_e ?_
      | with_reducible refine blkA_x (by decide) ?_
      | with_reducible refine AWP.skip ?_
      | with_reducible refine AWP.ret ?_
      | with_reducible refine AWP.exit ?_
      | with_reducible refine AWP.block ?_
      | (with_reducible refine AWP.cond rfl ?_ ?_ <;> intro hc <;> (try simp only [decide_eq_true_eq, decide_eq_false_iff_not, Bool.and_eq_true, Bool.or_eq_true, Bool.or_eq_false_iff, Bool.and_eq_false_iff, Bool.not_eq_true', Bool.not_eq_false', Bool.true_eq_false, Bool.false_eq_true, Bool.not_eq_true, Bool.not_eq_false, Int.not_lt, Int.not_le, Nat.not_lt, Nat.not_le, Int.ofNat_lt, Int.ofNat_le, Int.natCast_eq_zero, not_true_eq_false, not_false_eq_true, beq_iff_eq, Bool.not_true, Bool.not_false, ge_iff_le, gt_iff_lt] at hc))
      | ((first | with_reducible refine AWP.region tabOk ?_ | with_reducible refine AWP.quietC mixed tabOk (by decide +kernel) ?_ | with_reducible refine AWP.draw mixed tabOk (by decide +kernel) ?_ | with_reducible refine AWP.drawE mixed tabOk (by decide +kernel) ?_); intro K hK; ((try simp (disch := omega) only [go_sem, wrap_n, true_and]) <;> (repeat' with_reducible refine And.intro ?_ ?_) <;> (try (with_reducible refine hK _ ?_; clear hK K))))
      | ((first | refine acallH_sc ((indexL_c s c).re (by rw [hn])) rfl rfl ?_ ?_ ?_); (focus ((try simp (disch := omega) only [go_sem, wrap_n, true_and]) <;> (try omega) <;> fail)); (focus ((try simp (disch := omega) only [go_sem, wrap_n, true_and]) <;> (try omega) <;> fail)); ((try simp (disch := omega) only [go_sem, wrap_n, true_and]) <;> (repeat' with_reducible refine And.intro ?_ ?_) <;> (try (with_reducible refine hK _ ?_; clear hK K))))
      | ((first | refine acallQ_sc ((indexL_c s c).re (by rw [hn])) rfl rfl ?_ ?_ ?_); (focus ((try simp (disch := omega) only [go_sem, wrap_n, true_and]) <;> (try omega) <;> fail)); (focus ((try simp (disch := omega) only [go_sem, wrap_n, true_and]) <;> (try omega) <;> fail)); ((try simp (disch := omega) only [go_sem, wrap_n, true_and]) <;> (repeat' with_reducible refine And.intro ?_ ?_) <;> (try (with_reducible refine hK _ ?_; clear hK K))))
      | ((first | refine acallH_anyr ((indexL_c s c).re (by rw [hn])) rfl ?_ ?_); (focus ((try simp (disch := omega) only [go_sem, wrap_n, true_and]) <;> (try omega) <;> fail)); ((try simp (disch := omega) only [go_sem, wrap_n, true_and]) <;> (repeat' with_reducible refine And.intro ?_ ?_) <;> (try (with_reducible refine hK _ ?_; clear hK K))))
      | ((first | refine acallH_scx ((indexL_c s c).re (by rw [hn])) rfl ?_ ?_ | refine acallQ_scx ((indexL_c s c).re (by rw [hn])) rfl ?_ ?_ | refine acallH_anyx ((indexL_c s c).re (by rw [hn])) ?_ ?_); (focus ((try simp (disch := omega) only [go_sem, wrap_n, true_and]) <;> (try omega) <;> fail)); ((try simp (disch := omega) only [go_sem, wrap_n, true_and]) <;> (repeat' with_reducible refine And.intro ?_ ?_) <;> (try (with_reducible refine hK _ ?_; clear hK K))))
      | ((first | (with_reducible refine aunder_i ?_ ?_ <;> intro hg) | with_reducible intro hg) <;> (first | (exfalso; simp at hg; done) | (have hg' := hg; (try simp only [decide_eq_true_eq, decide_eq_false_iff_not, Bool.and_eq_true, Bool.or_eq_true, Bool.or_eq_false_iff, Bool.and_eq_false_iff, Bool.not_eq_true', Bool.not_eq_false', Bool.true_eq_false, Bool.false_eq_true, Bool.not_eq_true, Bool.not_eq_false, Int.not_lt, Int.not_le, Nat.not_lt, Nat.not_le, Int.ofNat_lt, Int.ofNat_le, Int.natCast_eq_zero, not_true_eq_false, not_false_eq_true, beq_iff_eq, Bool.not_true, Bool.not_false, ge_iff_le, gt_iff_lt] at hg'); ((try simp (disch := omega) only [hg, go_sem, wrap_n, true_and]) <;> (repeat' with_reducible refine And.intro ?_ ?_) <;> (try (with_reducible refine hK _ ?_; clear hK K))))))
                                                              | omega
    (refine aend_retc ?_ rfl ?_ ?_ ?_ ?_; (focus (first | exact .inl rfl | exact .inr rfl)); (focus ((try simp (disch := omega) only [go_sem, wrap_n, true_and]) <;> (try omega) <;> fail)); (focus ((try simp (disch := omega) only [go_sem, wrap_n, true_and]) <;> (try omega) <;> fail)); (focus ((try simp (disch := omega) only [go_sem, wrap_n, true_and]) <;> (try omega) <;> fail)); (try simp (disch := omega) only [go_sem, wrap_n, true_and, I, B, S, AV.d.injEq, DV.int.injEq, DV.bool.injEq, DV.str.injEq, DV.sl.injEq, AV.tup.injEq, AV.agg.injEq, List.cons.injEq, and_true, true_and, and_self]))
theorem cut_c (s : List UInt8) (c : UInt8) (hs : okS s) : acall Try.prog [] 91 [S s, S [c]] (ret (.tup [S (cutP s c).1.1, S (cutP s c).1.2, B (cutP s c).2])) := by
  refine acall_of tabOk Try.func91 rfl (by kernel_rfl) (by simp [Try.ntmps91]) ?_; simp only [Try.ntmps91, Try.results91, List.toList_toArray, apar, List.length_nil, List.length_cons, Nat.reduceAdd]
  repeat' first
    | with_reducible refine AWP.seq ?_
    | with_reducible refine thenA_n ?_
    | with_reducible refine thenA_r ?_
    | with_reducible refine thenA_e ?_
    | with_reducible refine blkA_n ?_
    | with_reducible refine blkA_r ?_
    | with_reducible refine blkA_e ?_
    | with_reducible refine blkA_x (by decide) ?_
    | with_reducible refine AWP.skip ?_
    | with_reducible refine AWP.ret ?_
    | with_reducible refine AWP.exit ?_
    | with_reducible refine AWP.block ?_
    | (with_reducible refine AWP.cond rfl ?_ ?_ <;> intro hc <;> (try simp only [decide_eq_true_eq, decide_eq_false_iff_not, Bool.and_eq_true, Bool.or_eq_true, Bool.or_eq_false_iff, Bool.and_eq_false_iff, Bool.not_eq_true', Bool.not_eq_false', Bool.true_eq_false, Bool.false_eq_true, Bool.not_eq_true, Bool.not_eq_false, Int.not_lt, Int.not_le, Nat.not_lt, Nat.not_le, Int.ofNat_lt, Int.ofNat_le, Int.natCast_eq_zero, not_true_eq_false, not_false_eq_true, beq_iff_eq, Bool.not_true, Bool.not_false, ge_iff_le, gt_iff_lt] at hc))
    | ((first | with_reducible refine AWP.region tabOk ?_ | with_reducible refine AWP.quietC mixed tabOk (by decide +kernel) ?_ | with_reducible refine AWP.draw mixed tabOk (by decide +kernel) ?_ | with_reducible refine AWP.drawE mixed tabOk (by decide +kernel) ?_); intro K hK; ((try simp (disch := omega) only [go_sem, wrap_n, true_and]) <;> (repeat' with_reducible refine And.intro ?_ ?_) <;> (try (with_reducible refine hK _ ?_; clear hK K))))
    | ((first | refine acallH_sc (cutL_c s c hs) rfl rfl ?_ ?_ ?_); (focus ((try simp (disch := omega) only [go_sem, wrap_n, true_and]) <;> (try omega) <;> fail)); (focus ((try simp (disch := omega) only [go_sem, wrap_n, true_and]) <;> (try omega) <;> fail)); ((try simp (disch := omega) only [go_sem, wrap_n, true_and]) <;> (repeat' with_reducible refine And.intro ?_ ?_) <;> (try (with_reducible refine hK _ ?_; clear hK K))))
    | ((first | refine acallQ_sc (cutL_c s c hs) rfl rfl ?_ ?_ ?_); (focus ((try simp (disch := omega) only [go_sem, wrap_n, true_and]) <;> (try omega) <;> fail)); (focus ((try simp (disch := omega) only [go_sem, wrap_n, true_and]) <;> (try omega) <;> fail)); ((try simp (disch := omega) only [go_sem, wrap_n, true_and]) <;> (repeat' with_reducible refine And.intro ?_ ?_) <;> (try (with_reducible refine hK _ ?_; clear hK K))))
    | ((first | refine acallH_anyr (cutL_c s c hs) rfl ?_ ?_); (focus ((try simp (disch := omega) only [go_sem, wrap_n, true_and]) <;> (try omega) <;> fail)); ((try simp (disch := omega) only [go_sem, wrap_n, true_and]) <;> (repeat' with_reducible refine And.intro ?_ ?_) <;> (try (with_reducible refine hK _ ?_; clear hK K))))
    | ((first | refine acallH_scx (cutL_c s c hs) rfl ?_ ?_ | refine acallQ_scx (cutL_c s c hs) rfl ?_ ?_ | refine acallH_anyx (cutL_c s c hs) ?_ ?_); (focus ((try simp (disch := omega) only [go_sem, wrap_n, true_and]) <;> (try omega) <;> fail)); ((try simp (disch := omega) only [go_sem, wrap_n, true_and]) <;> (repeat' with_reducible refine And.intro ?_ ?_) <;> (try (with_reducible refine hK _ ?_; clear hK K))))
    | ((first | (with_reducible refine aunder_i ?_ ?_ <;> intro hg) | with_reducible intro hg) <;> (first | (exfalso; simp at hg; done) | (have hg' := hg; (try simp only [decide_eq_true_eq, decide_eq_false_iff_not, Bool.and_eq_true, Bool.or_eq_true, Bool.or_eq_false_iff, Bool.and_eq_false_iff, Bool.not_eq_true', Bool.not_eq_false', Bool.true_eq_false, Bool.false_eq_true, Bool.not_eq_true, Bool.not_eq_false, Int.not_lt, Int.not_le, Nat.not_lt, Nat.not_le, Int.ofNat_lt, Int.ofNat_le, Int.natCast_eq_zero, not_true_eq_false, not_false_eq_true, beq_iff_eq, Bool.not_true, Bool.not_false, ge_iff_le, gt_iff_lt] at hg'); ((try simp (disch := omega) only [hg, go_sem, wrap_n, true_and]) <;> (repeat' with_reducible refine And.intro ?_ ?_) <;> (try (with_reducible refine hK _ ?_; clear hK K))))))
                                                            | omega
  (refine aend_retc ?_ rfl ?_ ?_ ?_ ?_; (focus (first | exact .inl rfl | exact .inr rfl)); (focus ((try simp (disch := omega) only [go_sem, wrap_n, true_and]) <;> (try omega) <;> fail)); (focus ((try simp (disch := omega) only [go_sem, wrap_n, true_and]) <;> (try omega) <;> fail)); (focus ((try simp (disch := omega) only [go_sem, wrap_n, true_and]) <;> (try omega) <;> fail)); (try simp (disch := omega) only [go_sem, wrap_n, true_and, I, B, S, AV.d.injEq, DV.int.injEq, DV.bool.injEq, DV.str.injEq, DV.sl.injEq, AV.tup.injEq, AV.agg.injEq, List.cons.injEq, and_true, true_and, and_self]))
theorem wrap_u8c (c : UInt8) (h : 48 ≤ c.toNat) : IntKind.u8.wrap ((c.toNat : Int) - 48) = ((c.toNat - 48 : Nat) : Int) := by
  have := c.toNat_lt
  simp [IntKind.wrap, IntKind.bits, IntKind.signed]; omega
theorem valS_le {t : List UInt8} (h : t.all isDig = true) (hl : t.length ≤ 10) : valS t ≤ 9999999999 := by
  have := valS_lt t h
  have h2 : 10 ^ t.length ≤ 10 ^ 10 := Nat.pow_le_pow_right (by decide) hl
  omega
theorem small_c (t : List UInt8) (ht : okS t) : acall Try.prog [] 92 [S t] (ret (.tup [I (smallP t).1, B (smallP t).2])) := by
  unfold okS at ht
  refine acall_of tabOk Try.func92 rfl (by kernel_rfl) (by simp [Try.ntmps92]) ?_; simp only [Try.ntmps92, Try.results92, List.toList_toArray, apar, List.length_nil, List.length_cons, Nat.reduceAdd]
  repeat' first
    | with_reducible refine AWP.seq ?_
    | with_reducible refine thenA_n ?_
    | with_reducible refine thenA_r ?_
    | with_reducible refine thenA_e ?_
    | with_reducible refine blkA_n ?_
    | with_reducible refine blkA_r ?_
    | with_reducible refine blkA_e ?_
    | with_reducible refine blkA_x (by decide) ?_
    | with_reducible refine AWP.skip ?_
    | with_reducible refine AWP.ret ?_
    | with_reducible refine AWP.exit ?_
    | with_reducible refine AWP.block ?_
    | (with_reducible refine AWP.cond rfl ?_ ?_ <;> intro hc <;> (try simp only [decide_eq_true_eq, decide_eq_false_iff_not, Bool.and_eq_true, Bool.or_eq_true, Bool.or_eq_false_iff, Bool.and_eq_false_iff, Bool.not_eq_true', Bool.not_eq_false', Bool.true_eq_false, Bool.false_eq_true, Bool.not_eq_true, Bool.not_eq_false, Int.not_lt, Int.not_le, Nat.not_lt, Nat.not_le, Int.ofNat_lt, Int.ofNat_le, Int.natCast_eq_zero, not_true_eq_false, not_false_eq_true, beq_iff_eq, Bool.not_true, Bool.not_false, ge_iff_le, gt_iff_lt] at hc))
    | ((first | with_reducible refine AWP.region tabOk ?_ | with_reducible refine AWP.quietC mixed tabOk (by decide +kernel) ?_ | with_reducible refine AWP.draw mixed tabOk (by decide +kernel) ?_ | with_reducible refine AWP.drawE mixed tabOk (by decide +kernel) ?_); intro K hK; ((try simp (disch := omega) only [go_sem, wrap_n, true_and]) <;> (repeat' with_reducible refine And.intro ?_ ?_) <;> (try (with_reducible refine hK _ ?_; clear hK K))))
    | ((first | (with_reducible refine aunder_i ?_ ?_ <;> intro hg) | with_reducible intro hg) <;> (first | (exfalso; simp at hg; done) | (have hg' := hg; (try simp only [decide_eq_true_eq, decide_eq_false_iff_not, Bool.and_eq_true, Bool.or_eq_true, Bool.or_eq_false_iff, Bool.and_eq_false_iff, Bool.not_eq_true', Bool.not_eq_false', Bool.true_eq_false, Bool.false_eq_true, Bool.not_eq_true, Bool.not_eq_false, Int.not_lt, Int.not_le, Nat.not_lt, Nat.not_le, Int.ofNat_lt, Int.ofNat_le, Int.natCast_eq_zero, not_true_eq_false, not_false_eq_true, beq_iff_eq, Bool.not_true, Bool.not_false, ge_iff_le, gt_iff_lt] at hg'); ((try simp (disch := omega) only [hg, go_sem, wrap_n, true_and]) <;> (repeat' with_reducible refine And.intro ?_ ?_) <;> (try (with_reducible refine hK _ ?_; clear hK K))))))
                                                            | omega
  · have e : smallP t = (0, false) := by
      unfold smallP
      rw [if_neg]
      unfold smallB
      rcases hc with (c | c) | c
      · simp [c]
      · rw [decide_eq_false (p := t.length ≤ 10) (by omega)]; simp
      · rw [decide_eq_true (p := 1 < t.length) (by omega), decide_eq_true c.2]; simp
    rw [e]
    (refine aend_retc ?_ rfl ?_ ?_ ?_ ?_; (focus (first | exact .inl rfl | exact .inr rfl)); (focus ((try simp (disch := omega) only [go_sem, wrap_n, true_and]) <;> (try omega) <;> fail)); (focus ((try simp (disch := omega) only [go_sem, wrap_n, true_and]) <;> (try omega) <;> fail)); (focus ((try simp (disch := omega) only [go_sem, wrap_n, true_and]) <;> (try omega) <;> fail)); (try simp (disch := omega) only [go_sem, wrap_n, true_and, I, B, S, AV.d.injEq, DV.int.injEq, DV.bool.injEq, DV.str.injEq, DV.sl.injEq, AV.tup.injEq, AV.agg.injEq, List.cons.injEq, and_true, true_and, and_self]))
  have hsm : smallB t = t.all isDig := by
    unfold smallB
    rw [decide_eq_false hc.1.1, decide_eq_true (p := t.length ≤ 10) (by omega)]
    rcases hc.2 with c | c
    · rw [decide_eq_false (p := 1 < t.length) (by omega)]; simp
    · rw [decide_eq_false c]; simp
  have hl10 : t.length ≤ 10 := by omega
  refine AWP.loopB (ι := Nat) (fun k => k ≤ t.length ∧ (t.take k).all isDig = true) (fun k => t.length - k) [25, 26] (fun k => [(27, I k), (4, I (valS (t.take k) : Nat))]) (fun k => [.bytes t]) 0 ?_ ?_ ?_
  · exact ⟨by omega, rfl⟩
  · simp only [go_sem]; (refine SImp.same ?_; simp (disch := omega) only [go_sem, wrap_n, Int.natCast_add, valS, List.foldl_nil])
  intro k ⟨hk, hk2⟩
  have hv := valS_le hk2 (by simp; omega)
  simp only [go_sem]
  repeat' first
    | with_reducible refine AWP.seq ?_
    | with_reducible refine thenA_n ?_
    | with_reducible refine thenA_r ?_
    | with_reducible refine thenA_e ?_
    | with_reducible refine blkA_n ?_
    | with_reducible refine blkA_r ?_
    | with_reducible refine blkA_e ?_
    | with_reducible refine blkA_x (by decide) ?_
    | with_reducible refine AWP.skip ?_
    | with_reducible refine AWP.ret ?_
    | with_reducible refine AWP.exit ?_
    | with_reducible refine AWP.block ?_
    | (with_reducible refine AWP.cond rfl ?_ ?_ <;> intro hc <;> (try simp only [decide_eq_true_eq, decide_eq_false_iff_not, Bool.and_eq_true, Bool.or_eq_true, Bool.or_eq_false_iff, Bool.and_eq_false_iff, Bool.not_eq_true', Bool.not_eq_false', Bool.true_eq_false, Bool.false_eq_true, Bool.not_eq_true, Bool.not_eq_false, Int.not_lt, Int.not_le, Nat.not_lt, Nat.not_le, Int.ofNat_lt, Int.ofNat_le, Int.natCast_eq_zero, not_true_eq_false, not_false_eq_true, beq_iff_eq, Bool.not_true, Bool.not_false, ge_iff_le, gt_iff_lt] at hc))
    | ((first | with_reducible refine AWP.region tabOk ?_ | with_reducible refine AWP.quietC mixed tabOk (by decide +kernel) ?_ | with_reducible refine AWP.draw mixed tabOk (by decide +kernel) ?_ | with_reducible refine AWP.drawE mixed tabOk (by decide +kernel) ?_); intro K hK; ((try simp (disch := omega) only [go_sem, wrap_n, u8g]) <;> (repeat' with_reducible refine And.intro ?_ ?_) <;> (try (with_reducible refine hK _ ?_; clear hK K))))
    | ((first | (with_reducible refine aunder_i ?_ ?_ <;> intro hg) | with_reducible intro hg) <;> (first | (exfalso; simp at hg; done) | (have hg' := hg; (try simp only [decide_eq_true_eq, decide_eq_false_iff_not, Bool.and_eq_true, Bool.or_eq_true, Bool.or_eq_false_iff, Bool.and_eq_false_iff, Bool.not_eq_true', Bool.not_eq_false', Bool.true_eq_false, Bool.false_eq_true, Bool.not_eq_true, Bool.not_eq_false, Int.not_lt, Int.not_le, Nat.not_lt, Nat.not_le, Int.ofNat_lt, Int.ofNat_le, Int.natCast_eq_zero, not_true_eq_false, not_false_eq_true, beq_iff_eq, Bool.not_true, Bool.not_false, ge_iff_le, gt_iff_lt] at hg'); ((try simp (disch := omega) only [hg, go_sem, wrap_n, u8g]) <;> (repeat' with_reducible refine And.intro ?_ ?_) <;> (try (with_reducible refine hK _ ?_; clear hK K))))))
                                                            | omega
  · have e : smallP t = (0, false) := by
      unfold smallP
      rw [if_neg]
      rw [hsm, all_not (d := 0) (by assumption) (by unfold isDig; rw [decide_eq_false_iff_not]; omega)]
      simp
    rw [e]
    (refine aend_retc ?_ rfl ?_ ?_ ?_ ?_; (focus (first | exact .inl rfl | exact .inr rfl)); (focus ((try simp (disch := omega) only [go_sem, wrap_n, true_and]) <;> (try omega) <;> fail)); (focus ((try simp (disch := omega) only [go_sem, wrap_n, true_and]) <;> (try omega) <;> fail)); (focus ((try simp (disch := omega) only [go_sem, wrap_n, true_and]) <;> (try omega) <;> fail)); (try simp (disch := omega) only [go_sem, wrap_n, true_and, I, B, S, AV.d.injEq, DV.int.injEq, DV.bool.injEq, DV.str.injEq, DV.sl.injEq, AV.tup.injEq, AV.agg.injEq, List.cons.injEq, and_true, true_and, and_self]))
  · have hcc : 48 ≤ (t.getD k 0).toNat := by omega
    refine ⟨k + 1, ⟨by omega, ?_⟩, by omega, ?_⟩
    · have : t.take (k + 1) = t.take k ++ [t.getD k 0] := take_snoc t k (by assumption)
      rw [this, List.all_append, hk2]
      simp only [List.all_cons, List.all_nil, Bool.and_true, Bool.true_and]
      unfold isDig; rw [decide_eq_true_eq]; omega
    rw [valS_snoc _ _ (by assumption)]
    (refine SImp.same ?_; simp (disch := omega) only [go_sem, wrap_n, Int.natCast_add, wrap_u8c _ hcc, Int.natCast_mul])
  · have e0 : k = t.length := by omega
    subst e0
    rw [List.take_length] at *
    have e : smallP t = (((valS t : Nat) : Int), true) := by unfold smallP; rw [if_pos (by rw [hsm]; exact hk2)]
    rw [e]
    (refine aend_retc ?_ rfl ?_ ?_ ?_ ?_; (focus (first | exact .inl rfl | exact .inr rfl)); (focus ((try simp (disch := omega) only [go_sem, wrap_n, true_and]) <;> (try omega) <;> fail)); (focus ((try simp (disch := omega) only [go_sem, wrap_n, true_and]) <;> (try omega) <;> fail)); (focus ((try simp (disch := omega) only [go_sem, wrap_n, true_and]) <;> (try omega) <;> fail)); (try simp (disch := omega) only [go_sem, wrap_n, true_and, I, B, S, AV.d.injEq, DV.int.injEq, DV.bool.injEq, DV.str.injEq, DV.sl.injEq, AV.tup.injEq, AV.agg.injEq, List.cons.injEq, and_true, true_and, and_self]))
theorem cutP_ok (s : List UInt8) (c : UInt8) (h : okS s) : okS (cutP s c).1.1 ∧ okS (cutP s c).1.2 := by
  unfold okS at *
  unfold cutP
  split
  · simp only [List.length_take, List.length_drop]; omega
  · simp only [List.length_nil]; omega
def readZ (s : List UInt8) : Int × Int := if (cutP s 46).2 = true ∧ smallB (cutP s 46).1.1 = true ∧ smallB (cutP s 46).1.2 = true then mkZ (valS (cutP s 46).1.1) (valS (cutP s 46).1.2) else (0, 2)
theorem smallP_2 (t : List UInt8) : (smallP t).2 = smallB t := by unfold smallP; cases h : smallB t <;> simp
theorem smallP_1 {t : List UInt8} (h : smallB t = true) : (smallP t).1 = valS t := by unfold smallP; rw [if_pos h]
theorem read_z_c (s : List UInt8) (hs : okS s) : acall Try.prog [] 62 [S s] (ret (.tup [I (readZ s).1, I (readZ s).2])) := by
  refine acall_of tabOk Try.func62 rfl (by kernel_rfl) (by simp [Try.ntmps62]) ?_; simp only [Try.ntmps62, Try.results62, List.toList_toArray, apar, List.length_nil, List.length_cons, Nat.reduceAdd]
  repeat' first
    | with_reducible refine AWP.seq ?_
    | with_reducible refine thenA_n ?_
    | with_reducible refine thenA_r ?_
    | with_reducible refine thenA_e ?_
    | with_reducible refine blkA_n ?_
    | with_reducible refine blkA_r ?_
    | with_reducible refine blkA_e ?_
    | with_reducible refine blkA_x (by decide) ?_
    | with_reducible refine AWP.skip ?_
    | with_reducible refine AWP.ret ?_
    | with_reducible refine AWP.exit ?_
    | with_reducible refine AWP.block ?_
    | (with_reducible refine AWP.cond rfl ?_ ?_ <;> intro hc <;> (try simp only [decide_eq_true_eq, decide_eq_false_iff_not, Bool.and_eq_true, Bool.or_eq_true, Bool.or_eq_false_iff, Bool.and_eq_false_iff, Bool.not_eq_true', Bool.not_eq_false', Bool.true_eq_false, Bool.false_eq_true, Bool.not_eq_true, Bool.not_eq_false, Int.not_lt, Int.not_le, Nat.not_lt, Nat.not_le, Int.ofNat_lt, Int.ofNat_le, Int.natCast_eq_zero, not_true_eq_false, not_false_eq_true, beq_iff_eq, Bool.not_true, Bool.not_false, ge_iff_le, gt_iff_lt] at hc))
    | ((first | with_reducible refine AWP.region tabOk ?_ | with_reducible refine AWP.quietC mixed tabOk (by decide +kernel) ?_ | with_reducible refine AWP.draw mixed tabOk (by decide +kernel) ?_ | with_reducible refine AWP.drawE mixed tabOk (by decide +kernel) ?_); intro K hK; ((try simp (disch := omega) only [go_sem, wrap_n, two]) <;> (repeat' with_reducible refine And.intro ?_ ?_) <;> (try (with_reducible refine hK _ ?_; clear hK K))))
    | ((first | refine acallH_sc (cut_c s 46 hs) rfl rfl ?_ ?_ ?_ | refine acallH_sc (small_c (cutP s 46).1.1 (cutP_ok s 46 hs).1) rfl rfl ?_ ?_ ?_ | refine acallH_sc (small_c (cutP s 46).1.2 (cutP_ok s 46 hs).2) rfl rfl ?_ ?_ ?_ | refine acallH_sc (make_c _ _) rfl rfl ?_ ?_ ?_); (focus ((try simp (disch := omega) only [go_sem, wrap_n, two]) <;> (try omega) <;> fail)); (focus ((try simp (disch := omega) only [go_sem, wrap_n, two]) <;> (try omega) <;> fail)); ((try simp (disch := omega) only [go_sem, wrap_n, two]) <;> (repeat' with_reducible refine And.intro ?_ ?_) <;> (try (with_reducible refine hK _ ?_; clear hK K))))
    | ((first | refine acallQ_sc (cut_c s 46 hs) rfl rfl ?_ ?_ ?_ | refine acallQ_sc (small_c (cutP s 46).1.1 (cutP_ok s 46 hs).1) rfl rfl ?_ ?_ ?_ | refine acallQ_sc (small_c (cutP s 46).1.2 (cutP_ok s 46 hs).2) rfl rfl ?_ ?_ ?_ | refine acallQ_sc (make_c _ _) rfl rfl ?_ ?_ ?_); (focus ((try simp (disch := omega) only [go_sem, wrap_n, two]) <;> (try omega) <;> fail)); (focus ((try simp (disch := omega) only [go_sem, wrap_n, two]) <;> (try omega) <;> fail)); ((try simp (disch := omega) only [go_sem, wrap_n, two]) <;> (repeat' with_reducible refine And.intro ?_ ?_) <;> (try (with_reducible refine hK _ ?_; clear hK K))))
    | ((first | refine acallH_anyr (cut_c s 46 hs) rfl ?_ ?_ | refine acallH_anyr (small_c (cutP s 46).1.1 (cutP_ok s 46 hs).1) rfl ?_ ?_ | refine acallH_anyr (small_c (cutP s 46).1.2 (cutP_ok s 46 hs).2) rfl ?_ ?_ | refine acallH_anyr (make_c _ _) rfl ?_ ?_); (focus ((try simp (disch := omega) only [go_sem, wrap_n, two]) <;> (try omega) <;> fail)); ((try simp (disch := omega) only [go_sem, wrap_n, two]) <;> (repeat' with_reducible refine And.intro ?_ ?_) <;> (try (with_reducible refine hK _ ?_; clear hK K))))
    | ((first | refine acallH_scx (cut_c s 46 hs) rfl ?_ ?_ | refine acallQ_scx (cut_c s 46 hs) rfl ?_ ?_ | refine acallH_anyx (cut_c s 46 hs) ?_ ?_); (focus ((try simp (disch := omega) only [go_sem, wrap_n, two]) <;> (try omega) <;> fail)); ((try simp (disch := omega) only [go_sem, wrap_n, two]) <;> (repeat' with_reducible refine And.intro ?_ ?_) <;> (try (with_reducible refine hK _ ?_; clear hK K))))
    | ((first | refine acallH_scx (small_c (cutP s 46).1.1 (cutP_ok s 46 hs).1) rfl ?_ ?_ | refine acallQ_scx (small_c (cutP s 46).1.1 (cutP_ok s 46 hs).1) rfl ?_ ?_ | refine acallH_anyx (small_c (cutP s 46).1.1 (cutP_ok s 46 hs).1) ?_ ?_); (focus ((try simp (disch := omega) only [go_sem, wrap_n, two]) <;> (try omega) <;> fail)); ((try simp (disch := omega) only [go_sem, wrap_n, two]) <;> (repeat' with_reducible refine And.intro ?_ ?_) <;> (try (with_reducible refine hK _ ?_; clear hK K))))
    | ((first | refine acallH_scx (small_c (cutP s 46).1.2 (cutP_ok s 46 hs).2) rfl ?_ ?_ | refine acallQ_scx (small_c (cutP s 46).1.2 (cutP_ok s 46 hs).2) rfl ?_ ?_ | refine acallH_anyx (small_c (cutP s 46).1.2 (cutP_ok s 46 hs).2) ?_ ?_); (focus ((try simp (disch := omega) only [go_sem, wrap_n, two]) <;> (try omega) <;> fail)); ((try simp (disch := omega) only [go_sem, wrap_n, two]) <;> (repeat' with_reducible refine And.intro ?_ ?_) <;> (try (with_reducible refine hK _ ?_; clear hK K))))
    | ((first | refine acallH_scx (make_c _ _) rfl ?_ ?_ | refine acallQ_scx (make_c _ _) rfl ?_ ?_ | refine acallH_anyx (make_c _ _) ?_ ?_); (focus ((try simp (disch := omega) only [go_sem, wrap_n, two]) <;> (try omega) <;> fail)); ((try simp (disch := omega) only [go_sem, wrap_n, two]) <;> (repeat' with_reducible refine And.intro ?_ ?_) <;> (try (with_reducible refine hK _ ?_; clear hK K))))
    | ((first | (with_reducible refine aunder_i ?_ ?_ <;> intro hg) | with_reducible intro hg) <;> (first | (exfalso; simp at hg; done) | (have hg' := hg; (try simp only [decide_eq_true_eq, decide_eq_false_iff_not, Bool.and_eq_true, Bool.or_eq_true, Bool.or_eq_false_iff, Bool.and_eq_false_iff, Bool.not_eq_true', Bool.not_eq_false', Bool.true_eq_false, Bool.false_eq_true, Bool.not_eq_true, Bool.not_eq_false, Int.not_lt, Int.not_le, Nat.not_lt, Nat.not_le, Int.ofNat_lt, Int.ofNat_le, Int.natCast_eq_zero, not_true_eq_false, not_false_eq_true, beq_iff_eq, Bool.not_true, Bool.not_false, ge_iff_le, gt_iff_lt] at hg'); ((try simp (disch := omega) only [hg, go_sem, wrap_n, two]) <;> (repeat' with_reducible refine And.intro ?_ ?_) <;> (try (with_reducible refine hK _ ?_; clear hK K))))))
                                                            | omega
  · rw [smallP_2, smallP_2] at hc
    have e : readZ s = (0, 2) := by
      unfold readZ; rw [if_neg]
      rintro ⟨h1, h2, h3⟩
      rw [h1, h2, h3] at hc; simp at hc
    rw [e]; (refine aend_retc ?_ rfl ?_ ?_ ?_ ?_; (focus (first | exact .inl rfl | exact .inr rfl)); (focus ((try simp (disch := omega) only [go_sem, wrap_n, true_and]) <;> (try omega) <;> fail)); (focus ((try simp (disch := omega) only [go_sem, wrap_n, true_and]) <;> (try omega) <;> fail)); (focus ((try simp (disch := omega) only [go_sem, wrap_n, true_and]) <;> (try omega) <;> fail)); (try simp (disch := omega) only [go_sem, wrap_n, true_and, I, B, S, AV.d.injEq, DV.int.injEq, DV.bool.injEq, DV.str.injEq, DV.sl.injEq, AV.tup.injEq, AV.agg.injEq, List.cons.injEq, and_true, true_and, and_self]))
  · rw [smallP_2, smallP_2] at hc
    have e : readZ s = mkZ (valS (cutP s 46).1.1) (valS (cutP s 46).1.2) := by
      unfold readZ; rw [if_pos ⟨hc.1.1, hc.1.2, hc.2⟩]
    rw [e, smallP_1 hc.1.2, smallP_1 hc.2]; (refine aend_retc ?_ rfl ?_ ?_ ?_ ?_; (focus (first | exact .inl rfl | exact .inr rfl)); (focus ((try simp (disch := omega) only [go_sem, wrap_n, true_and]) <;> (try omega) <;> fail)); (focus ((try simp (disch := omega) only [go_sem, wrap_n, true_and]) <;> (try omega) <;> fail)); (focus ((try simp (disch := omega) only [go_sem, wrap_n, true_and]) <;> (try omega) <;> fail)); (try simp (disch := omega) only [go_sem, wrap_n, true_and, I, B, S, AV.d.injEq, DV.int.injEq, DV.bool.injEq, DV.str.injEq, DV.sl.injEq, AV.tup.injEq, AV.agg.injEq, List.cons.injEq, and_true, true_and, and_self]))
/-! The plain law. -/
theorem dg_lt {c : UInt8} (h : isDig c = true) : c.toNat - 48 < 10 ∧ 48 ≤ c.toNat := by
  unfold isDig at h; rw [decide_eq_true_eq] at h; omega
theorem dig_back {c : UInt8} (h : isDig c = true) (m : Nat) : dig (m * 10 + (c.toNat - 48)) = c := by
  have := dg_lt h
  unfold dig
  rw [show 48 + (m * 10 + (c.toNat - 48)) % 10 = c.toNat from by omega]
  simp
theorem valS_app (u : List UInt8) (c : UInt8) : valS (u ++ [c]) = valS u * 10 + (c.toNat - 48) := by
  unfold valS; rw [List.foldl_append]; rfl
theorem val_mono (t : List UInt8) : ∀ n, n ≤ t.foldl (fun n c => n * 10 + (c.toNat - 48)) n := by
  induction t with
  | nil => intro n; exact Nat.le_refl _
  | cons c t ih => intro n; exact Nat.le_trans (by omega) (ih (n * 10 + (c.toNat - 48)))
theorem valS_pos {t : List UInt8} (h : t.all isDig = true) (h0 : t ≠ []) (h1 : (t.getD 0 0).toNat ≠ 48) : 0 < valS t := by
  cases t with
  | nil => exact absurd rfl h0
  | cons c t =>
    simp only [List.all_cons, Bool.and_eq_true] at h
    have := dg_lt h.1
    have h1' : c.toNat ≠ 48 := h1
    exact Nat.lt_of_lt_of_le (by show 0 < 0 * 10 + (c.toNat - 48); omega) (val_mono t _)
theorem decB_val : ∀ (k : Nat) (t : List UInt8), t.length = k → t.all isDig = true → t ≠ [] → (1 < t.length → (t.getD 0 0).toNat ≠ 48) → decB (valS t) = t := by
  intro k
  induction k using Nat.strongRecOn with
  | _ k ih =>
    intro t hl hd h0 hz
    rcases List.eq_nil_or_concat t with e | ⟨u, c, e⟩
    · exact absurd e h0
    rw [List.concat_eq_append] at e
    subst e
    have hd2 := hd
    rw [List.all_append, Bool.and_eq_true] at hd2
    have hc : isDig c = true := by simpa using hd2.2
    have hc2 := dg_lt hc
    rw [valS_app]
    by_cases hu : u = []
    · subst hu
      have e0 : valS ([] : List UInt8) = 0 := rfl
      rw [e0, decB_lt (by omega), dig_back hc]; rfl
    · obtain ⟨b, u', rfl⟩ : ∃ b u', u = b :: u' := by cases u with | nil => exact absurd rfl hu | cons b u' => exact ⟨b, u', rfl⟩
      have hz2 : b.toNat ≠ 48 := hz (by simp)
      have hp := valS_pos hd2.1 hu hz2
      rw [decB_ge (by omega), dig_back hc, show (valS (b :: u') * 10 + (c.toNat - 48)) / 10 = valS (b :: u') from by omega]
      rw [ih (b :: u').length (by rw [← hl]; simp) (b :: u') rfl hd2.1 hu (fun _ => hz2)]
theorem decB_head (n : Nat) (h : 0 < n) : ((decB n).getD 0 0).toNat ≠ 48 := by
  induction n using Nat.strongRecOn with
  | _ n ih =>
    by_cases h10 : n < 10
    · rw [decB_lt h10]
      show (dig n).toNat ≠ 48
      rw [dig_toNat]; omega
    · rw [decB_ge h10]
      have := ih (n / 10) (by omega) (by omega)
      have hp := decB_pos (n / 10)
      rw [List.getD_eq_getElem?_getD, List.getElem?_append_left hp, ← List.getD_eq_getElem?_getD]
      exact this
theorem decB_iff {t : List UInt8} (hd : t.all isDig = true) (hl : t.length ≤ 10) : decB (valS t) = t ↔ smallB t = true := by
  have e : smallB t = true ↔ (t ≠ [] ∧ (1 < t.length → (t.getD 0 0).toNat ≠ 48)) := by
    unfold smallB
    rw [decide_eq_true hl, hd]
    simp only [Bool.true_and, Bool.and_true, Bool.and_eq_true, Bool.not_eq_true', decide_eq_false_iff_not, Bool.and_eq_false_iff]
    refine and_congr_right fun _ => ?_
    rw [← Decidable.imp_iff_not_or]
    exact imp_congr Iff.rfl (not_congr (by omega))
  rw [e]
  constructor
  · intro h
    refine ⟨fun h0 => ?_, fun h1 => ?_⟩
    · have := decB_pos (valS t)
      rw [h, h0] at this; simp at this
    · rw [← h] at h1
      have hv : ¬ valS t < 10 := by
        intro hv
        rw [decB_lt hv] at h1; simp at h1
      have := decB_head (valS t) (by omega)
      rwa [h] at this
  · rintro ⟨h0, h1⟩
    exact decB_val _ t rfl hd h0 h1
theorem cut_at {s : List UInt8} {n : Nat} (h : Lib.indexByte s 46 = n) : cutP s 46 = ((s.take n, s.drop (n + 1)), true) := by
  unfold cutP; rw [h, if_pos (by omega)]; rfl
theorem cut_no {s : List UInt8} (h : Lib.indexByte s 46 < 0) : readZ s = (0, 2) := by
  have e : cutP s 46 = ((s, []), false) := by unfold cutP; rw [if_neg (by omega)]
  unfold readZ; rw [e]; simp
theorem smallB_bad {t : List UInt8} {k : Nat} (hk : k < t.length) (h : isDig (t.getD k 0) = false) : smallB t = false := by
  unfold smallB; rw [all_not hk h]; simp
theorem readZ_bad {s : List UInt8} {k : Nat} (hk : k < s.length) (h : isDig (s.getD k 0) = false) (hx : Lib.indexByte s 46 ≠ k) : readZ s = (0, 2) := by
  by_cases h0 : Lib.indexByte s 46 < 0
  · exact cut_no h0
  obtain ⟨n, hn⟩ := Int.eq_ofNat_of_zero_le (Int.not_lt.1 h0)
  unfold readZ
  rw [cut_at hn, if_neg]
  rintro ⟨_, h1, h2⟩
  rw [hn] at hx
  by_cases hkn : k < n
  · have := smallB_bad (t := s.take n) (k := k) (by simp; omega) (by rw [List.getD_eq_getElem?_getD, List.getElem?_take_of_lt hkn, ← List.getD_eq_getElem?_getD]; exact h)
    rw [this] at h1; cases h1
  · have := smallB_bad (t := s.drop (n + 1)) (k := k - (n + 1)) (by simp; omega) (by rw [List.getD_eq_getElem?_getD, List.getElem?_drop, show n + 1 + (k - (n + 1)) = k from by omega, ← List.getD_eq_getElem?_getD]; exact h)
    rw [this] at h2; cases h2
theorem getD_some {s : List UInt8} {k : Nat} {c : UInt8} (h : s[k]? = some c) : k < s.length ∧ s.getD k 0 = c := by
  rw [List.getD_eq_getElem?_getD, h]
  exact ⟨(List.getElem?_eq_some_iff.1 h).1, rfl⟩
theorem some_getD {s : List UInt8} {k : Nat} (h : k < s.length) : s[k]? = some (s.getD k 0) := by
  rw [List.getD_eq_getElem?_getD, List.getElem?_eq_getElem h]; rfl
theorem idx_dig {s : List UInt8} (h : ∀ j, j < s.length → isDig (s.getD j 0) = true) : Lib.indexByte s 46 < 0 := by
  refine Int.not_le.1 fun h0 => ?_
  obtain ⟨n, hn⟩ := Int.eq_ofNat_of_zero_le h0
  have h1 := getD_some (Lib.indexByte_some hn).1
  have := h n h1.1
  rw [h1.2] at this; cases this
theorem idx_at {s : List UInt8} {d : Nat} (hd : d < s.length) (h1 : s.getD d 0 = 46) (h : ∀ j, j < d → isDig (s.getD j 0) = true) : Lib.indexByte s 46 = d := by
  have hge := Lib.indexByte_ge s 46
  by_cases h0 : Lib.indexByte s 46 = -1
  · exact absurd (by rw [some_getD hd, h1]) (Lib.indexByte_none h0 d)
  obtain ⟨n, hn⟩ := Int.eq_ofNat_of_zero_le (a := Lib.indexByte s 46) (by omega)
  have h2 := Lib.indexByte_some hn
  have h3 := getD_some h2.1
  by_cases hlt : n < d
  · have := h n hlt
    rw [h3.2] at this; cases this
  · by_cases e : n = d
    · rw [hn, e]
    · exact absurd (by rw [some_getD hd, h1]) (h2.2 d (by omega))
def dotAt (s : List UInt8) (k : Nat) (d : Int) : Prop := (d = -1 ∧ ∀ j, j < k → isDig (s.getD j 0) = true) ∨ ∃ n : Nat, d = n ∧ n < k ∧ s.getD n 0 = 46 ∧ ∀ j, j < k → j ≠ n → isDig (s.getD j 0) = true
theorem all_of {t : List UInt8} (h : ∀ j, j < t.length → isDig (t.getD j 0) = true) : t.all isDig = true := by
  rw [List.all_eq_true]
  intro x hx
  obtain ⟨j, hj, e⟩ := List.getElem_of_mem hx
  have := h j hj
  rw [List.getD_eq_getElem?_getD, List.getElem?_eq_getElem hj] at this
  rw [← e]; exact this
theorem dot_end {s : List UInt8} {d : Int} (h : dotAt s s.length d) : (d < 0 ∧ readZ s = (0, 2)) ∨ ∃ n : Nat, d = n ∧ n < s.length ∧ cutP s 46 = ((s.take n, s.drop (n + 1)), true) ∧ (s.take n).all isDig = true ∧ (s.drop (n + 1)).all isDig = true := by
  rcases h with ⟨h1, h2⟩ | ⟨n, h1, h2, h3, h4⟩
  · exact .inl ⟨by omega, cut_no (idx_dig h2)⟩
  · refine .inr ⟨n, h1, h2, cut_at (idx_at h2 h3 fun j hj => h4 j (by omega) (by omega)), ?_, ?_⟩
    · refine all_of fun j hj => ?_
      simp only [List.length_take] at hj
      rw [List.getD_eq_getElem?_getD, List.getElem?_take_of_lt (by omega), ← List.getD_eq_getElem?_getD]
      exact h4 j (by omega) (by omega)
    · refine all_of fun j hj => ?_
      simp only [List.length_drop] at hj
      rw [List.getD_eq_getElem?_getD, List.getElem?_drop, ← List.getD_eq_getElem?_getD]
      exact h4 _ (by omega) (by omega)
theorem u8_ne {c : UInt8} {n : Nat} (h : (c.toNat : Int) = n) (hn : n < 256) : c = UInt8.ofNat n := by
  apply UInt8.toNat.inj
  rw [UInt8.toNat_ofNat']; omega
theorem val_nil : ((valS [] : Nat) : Int) = 0 := rfl
theorem step_wr {c : UInt8} (h : isDig c = true) {v : Nat} (hv : v ≤ 9999999999) : IntKind.i64.wrap (IntKind.i64.wrap (10 * (v : Int) + IntKind.i64.wrap (c.toNat : Int)) - 48) = ((v * 10 + (c.toNat - 48) : Nat) : Int) := by
  have := dg_lt h
  have := c.toNat_lt
  rw [wrap_n (c.toNat : Int) (by omega) (by omega), wrap_n (10 * (v : Int) + _) (by omega) (by omega), wrap_n _ (by omega) (by omega)]; omega
theorem step_val {c : UInt8} (h : isDig c = true) (v : Nat) : 10 * (v : Int) + (c.toNat : Int) - 48 = ((v * 10 + (c.toNat - 48) : Nat) : Int) := by
  have := dg_lt h; omega
theorem dig_at {t : List UInt8} (h : t.all isDig = true) {i : Nat} (hi : i < t.length) : isDig (t.getD i 0) = true := by
  rw [List.all_eq_true] at h
  rw [List.getD_eq_getElem?_getD, List.getElem?_eq_getElem hi]
  exact h _ (List.getElem_mem hi)
theorem dig_take {t : List UInt8} (h : t.all isDig = true) (i : Nat) : (t.take i).all isDig = true := by
  rw [List.all_eq_true] at *
  exact fun x hx => h x (List.mem_of_mem_take hx)
theorem readZ_cut {s : List UInt8} {n : Nat} (h : cutP s 46 = ((s.take n, s.drop (n + 1)), true)) : readZ s = if smallB (s.take n) = true ∧ smallB (s.drop (n + 1)) = true then mkZ (valS (s.take n)) (valS (s.drop (n + 1))) else (0, 2) := by
  unfold readZ; rw [h]; simp
theorem small_len {t : List UInt8} (h : ¬ t.length ≤ 10) : smallB t = false := by unfold smallB; rw [decide_eq_false h]; simp
theorem ref_read_c (s : List UInt8) (hs : okS s) : acall Try.prog [] 63 [S s] (ret (.tup [I (readZ s).1, I (readZ s).2])) := by
  unfold okS at hs
  refine acall_of tabOk Try.func63 rfl (by kernel_rfl) (by simp [Try.ntmps63]) ?_; simp only [Try.ntmps63, Try.results63, List.toList_toArray, apar, List.length_nil, List.length_cons, Nat.reduceAdd]
  repeat' first
    | with_reducible refine AWP.seq ?_
    | with_reducible refine thenA_n ?_
    | with_reducible refine thenA_r ?_
    | with_reducible refine thenA_e ?_
    | with_reducible refine blkA_n ?_
    | with_reducible refine blkA_r ?_
    | with_reducible refine blkA_e ?_
    | with_reducible refine blkA_x (by decide) ?_
    | with_reducible refine AWP.skip ?_
    | with_reducible refine AWP.ret ?_
    | with_reducible refine AWP.exit ?_
    | with_reducible refine AWP.block ?_
    | (with_reducible refine AWP.cond rfl ?_ ?_ <;> intro hc <;> (try simp only [decide_eq_true_eq, decide_eq_false_iff_not, Bool.and_eq_true, Bool.or_eq_true, Bool.or_eq_false_iff, Bool.and_eq_false_iff, Bool.not_eq_true', Bool.not_eq_false', Bool.true_eq_false, Bool.false_eq_true, Bool.not_eq_true, Bool.not_eq_false, Int.not_lt, Int.not_le, Nat.not_lt, Nat.not_le, Int.ofNat_lt, Int.ofNat_le, Int.natCast_eq_zero, not_true_eq_false, not_false_eq_true, beq_iff_eq, Bool.not_true, Bool.not_false, ge_iff_le, gt_iff_lt] at hc))
    | ((first | with_reducible refine AWP.region tabOk ?_ | with_reducible refine AWP.quietC mixed tabOk (by decide +kernel) ?_ | with_reducible refine AWP.draw mixed tabOk (by decide +kernel) ?_ | with_reducible refine AWP.drawE mixed tabOk (by decide +kernel) ?_); intro K hK; ((try simp (disch := omega) only [go_sem, wrap_n, true_and]) <;> (repeat' with_reducible refine And.intro ?_ ?_) <;> (try (with_reducible refine hK _ ?_; clear hK K))))
    | ((first | (with_reducible refine aunder_i ?_ ?_ <;> intro hg) | with_reducible intro hg) <;> (first | (exfalso; simp at hg; done) | (have hg' := hg; (try simp only [decide_eq_true_eq, decide_eq_false_iff_not, Bool.and_eq_true, Bool.or_eq_true, Bool.or_eq_false_iff, Bool.and_eq_false_iff, Bool.not_eq_true', Bool.not_eq_false', Bool.true_eq_false, Bool.false_eq_true, Bool.not_eq_true, Bool.not_eq_false, Int.not_lt, Int.not_le, Nat.not_lt, Nat.not_le, Int.ofNat_lt, Int.ofNat_le, Int.natCast_eq_zero, not_true_eq_false, not_false_eq_true, beq_iff_eq, Bool.not_true, Bool.not_false, ge_iff_le, gt_iff_lt] at hg'); ((try simp (disch := omega) only [hg, go_sem, wrap_n, true_and]) <;> (repeat' with_reducible refine And.intro ?_ ?_) <;> (try (with_reducible refine hK _ ?_; clear hK K))))))
                                                            | omega
  refine AWP.loopB (ι := Nat × Int) (fun p => p.1 ≤ s.length ∧ dotAt s p.1 p.2) (fun p => s.length - p.1) [0, 13, 14] (fun p => [(4, I p.2), (15, I p.1)]) (fun p => [.bytes s]) (0, -1) ?_ ?_ ?_
  · exact ⟨Nat.zero_le _, .inl ⟨rfl, fun j hj => absurd hj (Nat.not_lt_zero j)⟩⟩
  · simp only [go_sem]; (refine SImp.same ?_; simp (disch := omega) only [go_sem, wrap_n, Int.natCast_add, true_and])
  intro ⟨k, d⟩ ⟨hk, hd⟩
  dsimp only at hk hd
  simp only [go_sem]
  repeat' first
    | with_reducible refine AWP.seq ?_
    | with_reducible refine thenA_n ?_
    | with_reducible refine thenA_r ?_
    | with_reducible refine thenA_e ?_
    | with_reducible refine blkA_n ?_
    | with_reducible refine blkA_r ?_
    | with_reducible refine blkA_e ?_
    | with_reducible refine blkA_x (by decide) ?_
    | with_reducible refine AWP.skip ?_
    | with_reducible refine AWP.ret ?_
    | with_reducible refine AWP.exit ?_
    | with_reducible refine AWP.block ?_
    | (with_reducible refine AWP.cond rfl ?_ ?_ <;> intro hc <;> (try simp only [decide_eq_true_eq, decide_eq_false_iff_not, Bool.and_eq_true, Bool.or_eq_true, Bool.or_eq_false_iff, Bool.and_eq_false_iff, Bool.not_eq_true', Bool.not_eq_false', Bool.true_eq_false, Bool.false_eq_true, Bool.not_eq_true, Bool.not_eq_false, Int.not_lt, Int.not_le, Nat.not_lt, Nat.not_le, Int.ofNat_lt, Int.ofNat_le, Int.natCast_eq_zero, not_true_eq_false, not_false_eq_true, beq_iff_eq, Bool.not_true, Bool.not_false, ge_iff_le, gt_iff_lt] at hc))
    | ((first | with_reducible refine AWP.region tabOk ?_ | with_reducible refine AWP.quietC mixed tabOk (by decide +kernel) ?_ | with_reducible refine AWP.draw mixed tabOk (by decide +kernel) ?_ | with_reducible refine AWP.drawE mixed tabOk (by decide +kernel) ?_); intro K hK; ((try simp (disch := omega) only [go_sem, wrap_n, u8g]) <;> (repeat' with_reducible refine And.intro ?_ ?_) <;> (try (with_reducible refine hK _ ?_; clear hK K))))
    | ((first | (with_reducible refine aunder_i ?_ ?_ <;> intro hg) | with_reducible intro hg) <;> (first | (exfalso; simp at hg; done) | (have hg' := hg; (try simp only [decide_eq_true_eq, decide_eq_false_iff_not, Bool.and_eq_true, Bool.or_eq_true, Bool.or_eq_false_iff, Bool.and_eq_false_iff, Bool.not_eq_true', Bool.not_eq_false', Bool.true_eq_false, Bool.false_eq_true, Bool.not_eq_true, Bool.not_eq_false, Int.not_lt, Int.not_le, Nat.not_lt, Nat.not_le, Int.ofNat_lt, Int.ofNat_le, Int.natCast_eq_zero, not_true_eq_false, not_false_eq_true, beq_iff_eq, Bool.not_true, Bool.not_false, ge_iff_le, gt_iff_lt] at hg'); ((try simp (disch := omega) only [hg, go_sem, wrap_n, u8g]) <;> (repeat' with_reducible refine And.intro ?_ ?_) <;> (try (with_reducible refine hK _ ?_; clear hK K))))))
                                                            | omega
  · have h46 : s.getD k 0 = 46 := u8_ne (n := 46) (by assumption) (by decide)
    have e : readZ s = (0, 2) := by
      rcases hd with ⟨h1, _⟩ | ⟨n, h1, h2, h3, h4⟩
      · omega
      refine readZ_bad (k := k) (by assumption) (by rw [h46]; rfl) fun hx => ?_
      exact (Lib.indexByte_some hx).2 n h2 (by rw [some_getD (by omega), h3])
    rw [e]; (refine aend_retc ?_ rfl ?_ ?_ ?_ ?_; (focus (first | exact .inl rfl | exact .inr rfl)); (focus ((try simp (disch := omega) only [go_sem, wrap_n, true_and]) <;> (try omega) <;> fail)); (focus ((try simp (disch := omega) only [go_sem, wrap_n, true_and]) <;> (try omega) <;> fail)); (focus ((try simp (disch := omega) only [go_sem, wrap_n, true_and]) <;> (try omega) <;> fail)); (try simp (disch := omega) only [go_sem, wrap_n, true_and, I, B, S, AV.d.injEq, DV.int.injEq, DV.bool.injEq, DV.str.injEq, DV.sl.injEq, AV.tup.injEq, AV.agg.injEq, List.cons.injEq, and_true, true_and, and_self]))
  · have h46 : s.getD k 0 = 46 := u8_ne (n := 46) (by assumption) (by decide)
    refine ⟨(k + 1, (k : Int)), ⟨by dsimp only; omega, .inr ⟨k, rfl, Nat.lt_succ_self k, h46, fun j hj hjn => ?_⟩⟩, by dsimp only; omega, ?_⟩
    · rcases hd with ⟨_, h2⟩ | ⟨n, h1, _⟩
      · exact h2 j (by omega)
      · omega
    (refine SImp.same ?_; simp (disch := omega) only [go_sem, wrap_n, Int.natCast_add, true_and])
  · have e : readZ s = (0, 2) := by
      have hnd : isDig (s.getD k 0) = false := by unfold isDig; rw [decide_eq_false_iff_not]; omega
      refine readZ_bad (k := k) (by assumption) hnd fun hx => ?_
      have := (getD_some (Lib.indexByte_some hx).1).2
      have hne : ¬ ((s.getD k 0).toNat : Int) = 46 := by assumption
      rw [this] at hne; exact hne rfl
    rw [e]; (refine aend_retc ?_ rfl ?_ ?_ ?_ ?_; (focus (first | exact .inl rfl | exact .inr rfl)); (focus ((try simp (disch := omega) only [go_sem, wrap_n, true_and]) <;> (try omega) <;> fail)); (focus ((try simp (disch := omega) only [go_sem, wrap_n, true_and]) <;> (try omega) <;> fail)); (focus ((try simp (disch := omega) only [go_sem, wrap_n, true_and]) <;> (try omega) <;> fail)); (try simp (disch := omega) only [go_sem, wrap_n, true_and, I, B, S, AV.d.injEq, DV.int.injEq, DV.bool.injEq, DV.str.injEq, DV.sl.injEq, AV.tup.injEq, AV.agg.injEq, List.cons.injEq, and_true, true_and, and_self]))
  · have hdg : isDig (s.getD k 0) = true := by unfold isDig; rw [decide_eq_true_eq]; omega
    refine ⟨(k + 1, d), ⟨by dsimp only; omega, ?_⟩, by dsimp only; omega, ?_⟩
    · rcases hd with ⟨h1, h2⟩ | ⟨n, h1, h2, h3, h4⟩
      · refine .inl ⟨h1, fun j hj => ?_⟩
        by_cases e : j = k
        · subst e; exact hdg
        · exact h2 j (by omega)
      · refine .inr ⟨n, h1, by omega, h3, fun j hj hjn => ?_⟩
        by_cases e : j = k
        · subst e; exact hdg
        · exact h4 j (by omega) hjn
    (refine SImp.same ?_; simp (disch := omega) only [go_sem, wrap_n, Int.natCast_add, true_and])
  · have e0 : k = s.length := by omega
    subst e0
    rcases dot_end hd with ⟨_, e⟩ | ⟨n, h1, _⟩
    · rw [e]; (refine aend_retc ?_ rfl ?_ ?_ ?_ ?_; (focus (first | exact .inl rfl | exact .inr rfl)); (focus ((try simp (disch := omega) only [go_sem, wrap_n, true_and]) <;> (try omega) <;> fail)); (focus ((try simp (disch := omega) only [go_sem, wrap_n, true_and]) <;> (try omega) <;> fail)); (focus ((try simp (disch := omega) only [go_sem, wrap_n, true_and]) <;> (try omega) <;> fail)); (try simp (disch := omega) only [go_sem, wrap_n, true_and, I, B, S, AV.d.injEq, DV.int.injEq, DV.bool.injEq, DV.str.injEq, DV.sl.injEq, AV.tup.injEq, AV.agg.injEq, List.cons.injEq, and_true, true_and, and_self]))
    · omega
  have e0 : k = s.length := by omega
  subst e0
  rcases dot_end hd with ⟨hneg, _⟩ | ⟨n, h1, hn, hcut, hd0, hd1⟩
  · omega
  subst h1
  clear hd hc hk
  repeat' first
    | with_reducible refine AWP.seq ?_
    | with_reducible refine thenA_n ?_
    | with_reducible refine thenA_r ?_
    | with_reducible refine thenA_e ?_
    | with_reducible refine blkA_n ?_
    | with_reducible refine blkA_r ?_
    | with_reducible refine blkA_e ?_
    | with_reducible refine blkA_x (by decide) ?_
    | with_reducible refine AWP.skip ?_
    | with_reducible refine AWP.ret ?_
    | with_reducible refine AWP.exit ?_
    | with_reducible refine AWP.block ?_
    | (with_reducible refine AWP.cond rfl ?_ ?_ <;> intro hc <;> (try simp only [decide_eq_true_eq, decide_eq_false_iff_not, Bool.and_eq_true, Bool.or_eq_true, Bool.or_eq_false_iff, Bool.and_eq_false_iff, Bool.not_eq_true', Bool.not_eq_false', Bool.true_eq_false, Bool.false_eq_true, Bool.not_eq_true, Bool.not_eq_false, Int.not_lt, Int.not_le, Nat.not_lt, Nat.not_le, Int.ofNat_lt, Int.ofNat_le, Int.natCast_eq_zero, not_true_eq_false, not_false_eq_true, beq_iff_eq, Bool.not_true, Bool.not_false, ge_iff_le, gt_iff_lt] at hc))
    | (refine AWP.plan ((Plan.takes [0, 1, 2, 3, 4, 5, 6, 9, 7, 8] .done)) mixed tabOk (by decide +kernel) ?_; intro K hK; ((try simp (disch := omega) only [go_sem, wrap_n, toNat_ad1, take_drop_full, Nat.sub_zero, List.drop_zero, List.length_take, List.length_drop]) <;> (repeat' with_reducible refine And.intro ?_ ?_) <;> (try (with_reducible refine hK _ ?_; clear hK K))))
    | ((first | with_reducible refine AWP.region tabOk ?_ | with_reducible refine AWP.quietC mixed tabOk (by decide +kernel) ?_ | with_reducible refine AWP.draw mixed tabOk (by decide +kernel) ?_ | with_reducible refine AWP.drawE mixed tabOk (by decide +kernel) ?_); intro K hK; ((try simp (disch := omega) only [go_sem, wrap_n, toNat_ad1, take_drop_full, Nat.sub_zero, List.drop_zero, List.length_take, List.length_drop]) <;> (repeat' with_reducible refine And.intro ?_ ?_) <;> (try (with_reducible refine hK _ ?_; clear hK K))))
    | ((first | (with_reducible refine aunder_i ?_ ?_ <;> intro hg) | with_reducible intro hg) <;> (first | (exfalso; simp at hg; done) | (have hg' := hg; (try simp only [decide_eq_true_eq, decide_eq_false_iff_not, Bool.and_eq_true, Bool.or_eq_true, Bool.or_eq_false_iff, Bool.and_eq_false_iff, Bool.not_eq_true', Bool.not_eq_false', Bool.true_eq_false, Bool.false_eq_true, Bool.not_eq_true, Bool.not_eq_false, Int.not_lt, Int.not_le, Nat.not_lt, Nat.not_le, Int.ofNat_lt, Int.ofNat_le, Int.natCast_eq_zero, not_true_eq_false, not_false_eq_true, beq_iff_eq, Bool.not_true, Bool.not_false, ge_iff_le, gt_iff_lt] at hg'); ((try simp (disch := omega) only [hg, go_sem, wrap_n, toNat_ad1, take_drop_full, Nat.sub_zero, List.drop_zero, List.length_take, List.length_drop]) <;> (repeat' with_reducible refine And.intro ?_ ?_) <;> (try (with_reducible refine hK _ ?_; clear hK K))))))
                                                            | omega
  have hr := readZ_cut hcut
  have l0 : (s.take n).length ≤ s.length := by rw [List.length_take]; omega
  have l1 : (s.drop (n + 1)).length ≤ s.length := by rw [List.length_drop]; omega
  clear hcut
  generalize s.take n = p0 at *
  generalize s.drop (n + 1) = p1 at *
  refine AWP.loopB (ι := Nat) (fun k => k ≤ 2 ∧ (0 < k → smallB p0 = true) ∧ (1 < k → smallB p1 = true)) (fun k => 2 - k) [7, 41, 42] (fun k => [(43, I k)]) (fun k => [.bytes s, .cells [I (if 0 < k then (valS p0 : Int) else 0), I (if 1 < k then (valS p1 : Int) else 0)], .rows 1 [[.str p0], [.str p1]]]) 0 ?_ ?_ ?_
  · exact ⟨by omega, fun h => absurd h (by decide), fun h => absurd h (by decide)⟩
  · simp only [go_sem]; (refine SImp.same ?_; simp (disch := omega) only [go_sem, wrap_n, Int.natCast_add, true_and])
  intro k ⟨hk, k0, k1⟩
  have hcs : k = 0 ∨ k = 1 ∨ k = 2 := by omega
  rcases hcs with rfl | rfl | rfl
  all_goals simp only [go_sem]
  · repeat' first
      | with_reducible refine AWP.seq ?_
      | with_reducible refine thenA_n ?_
      | with_reducible refine thenA_r ?_
      | with_reducible refine thenA_e ?_
      | with_reducible refine blkA_n ?_
      | with_reducible refine blkA_r ?_
      | with_reducible refine blkA_e ?_
      | with_reducible refine blkA_x (by decide) ?_
      | with_reducible refine AWP.skip ?_
      | with_reducible refine AWP.ret ?_
      | with_reducible refine AWP.exit ?_
      | with_reducible refine AWP.block ?_
      | (with_reducible refine AWP.cond rfl ?_ ?_ <;> intro hc <;> (try simp only [decide_eq_true_eq, decide_eq_false_iff_not, Bool.and_eq_true, Bool.or_eq_true, Bool.or_eq_false_iff, Bool.and_eq_false_iff, Bool.not_eq_true', Bool.not_eq_false', Bool.true_eq_false, Bool.false_eq_true, Bool.not_eq_true, Bool.not_eq_false, Int.not_lt, Int.not_le, Nat.not_lt, Nat.not_le, Int.ofNat_lt, Int.ofNat_le, Int.natCast_eq_zero, not_true_eq_false, not_false_eq_true, beq_iff_eq, Bool.not_true, Bool.not_false, ge_iff_le, gt_iff_lt] at hc))
      | ((first | with_reducible refine AWP.region tabOk ?_ | with_reducible refine AWP.quietC mixed tabOk (by decide +kernel) ?_ | with_reducible refine AWP.draw mixed tabOk (by decide +kernel) ?_ | with_reducible refine AWP.drawE mixed tabOk (by decide +kernel) ?_); intro K hK; ((try simp (disch := omega) only [go_sem, wrap_n, true_and]) <;> (repeat' with_reducible refine And.intro ?_ ?_) <;> (try (with_reducible refine hK _ ?_; clear hK K))))
      | ((first | (with_reducible refine aunder_i ?_ ?_ <;> intro hg) | with_reducible intro hg) <;> (first | (exfalso; simp at hg; done) | (have hg' := hg; (try simp only [decide_eq_true_eq, decide_eq_false_iff_not, Bool.and_eq_true, Bool.or_eq_true, Bool.or_eq_false_iff, Bool.and_eq_false_iff, Bool.not_eq_true', Bool.not_eq_false', Bool.true_eq_false, Bool.false_eq_true, Bool.not_eq_true, Bool.not_eq_false, Int.not_lt, Int.not_le, Nat.not_lt, Nat.not_le, Int.ofNat_lt, Int.ofNat_le, Int.natCast_eq_zero, not_true_eq_false, not_false_eq_true, beq_iff_eq, Bool.not_true, Bool.not_false, ge_iff_le, gt_iff_lt] at hg'); ((try simp (disch := omega) only [hg, go_sem, wrap_n, true_and]) <;> (repeat' with_reducible refine And.intro ?_ ?_) <;> (try (with_reducible refine hK _ ?_; clear hK K))))))
                                                              | omega
    · rw [hr, if_neg (fun h => by rw [small_len (t := p0) (by omega)] at h; exact absurd h.1 (by decide))]; (refine aend_retc ?_ rfl ?_ ?_ ?_ ?_; (focus (first | exact .inl rfl | exact .inr rfl)); (focus ((try simp (disch := omega) only [go_sem, wrap_n, true_and]) <;> (try omega) <;> fail)); (focus ((try simp (disch := omega) only [go_sem, wrap_n, true_and]) <;> (try omega) <;> fail)); (focus ((try simp (disch := omega) only [go_sem, wrap_n, true_and]) <;> (try omega) <;> fail)); (try simp (disch := omega) only [go_sem, wrap_n, true_and, I, B, S, AV.d.injEq, DV.int.injEq, DV.bool.injEq, DV.str.injEq, DV.sl.injEq, AV.tup.injEq, AV.agg.injEq, List.cons.injEq, and_true, true_and, and_self]))
    have hle : p0.length ≤ 10 := by omega
    refine AWP.loopB (ι := Nat) (fun i => i ≤ p0.length) (fun i => p0.length - i) [7, 8, 9, 41, 42, 43, 52, 53] (fun i => [(54, I i)]) (fun i => [.bytes s, .cells [I (valS (p0.take i) : Nat), I 0], .rows 1 [[.str p0], [.str p1]], .bytes p0]) 0 ?_ ?_ ?_
    · omega
    · simp only [go_sem, val_nil]; (refine SImp.same ?_; simp (disch := omega) only [go_sem, wrap_n, Int.natCast_add, true_and])
    intro i hi
    have hv := valS_le (dig_take hd0 i) (by rw [List.length_take]; omega)
    simp only [go_sem]
    repeat' first
      | with_reducible refine AWP.seq ?_
      | with_reducible refine thenA_n ?_
      | with_reducible refine thenA_r ?_
      | with_reducible refine thenA_e ?_
      | with_reducible refine blkA_n ?_
      | with_reducible refine blkA_r ?_
      | with_reducible refine blkA_e ?_
      | with_reducible refine blkA_x (by decide) ?_
      | with_reducible refine AWP.skip ?_
      | with_reducible refine AWP.ret ?_
      | with_reducible refine AWP.exit ?_
      | with_reducible refine AWP.block ?_
      | (with_reducible refine AWP.cond rfl ?_ ?_ <;> intro hc <;> (try simp only [decide_eq_true_eq, decide_eq_false_iff_not, Bool.and_eq_true, Bool.or_eq_true, Bool.or_eq_false_iff, Bool.and_eq_false_iff, Bool.not_eq_true', Bool.not_eq_false', Bool.true_eq_false, Bool.false_eq_true, Bool.not_eq_true, Bool.not_eq_false, Int.not_lt, Int.not_le, Nat.not_lt, Nat.not_le, Int.ofNat_lt, Int.ofNat_le, Int.natCast_eq_zero, not_true_eq_false, not_false_eq_true, beq_iff_eq, Bool.not_true, Bool.not_false, ge_iff_le, gt_iff_lt] at hc))
      | ((first | with_reducible refine AWP.region tabOk ?_ | with_reducible refine AWP.quietC mixed tabOk (by decide +kernel) ?_ | with_reducible refine AWP.draw mixed tabOk (by decide +kernel) ?_ | with_reducible refine AWP.drawE mixed tabOk (by decide +kernel) ?_); intro K hK; ((try simp (disch := omega) only [go_sem, wrap_n, u8g]) <;> (repeat' with_reducible refine And.intro ?_ ?_) <;> (try (with_reducible refine hK _ ?_; clear hK K))))
      | ((first | (with_reducible refine aunder_i ?_ ?_ <;> intro hg) | with_reducible intro hg) <;> (first | (exfalso; simp at hg; done) | (have hg' := hg; (try simp only [decide_eq_true_eq, decide_eq_false_iff_not, Bool.and_eq_true, Bool.or_eq_true, Bool.or_eq_false_iff, Bool.and_eq_false_iff, Bool.not_eq_true', Bool.not_eq_false', Bool.true_eq_false, Bool.false_eq_true, Bool.not_eq_true, Bool.not_eq_false, Int.not_lt, Int.not_le, Nat.not_lt, Nat.not_le, Int.ofNat_lt, Int.ofNat_le, Int.natCast_eq_zero, not_true_eq_false, not_false_eq_true, beq_iff_eq, Bool.not_true, Bool.not_false, ge_iff_le, gt_iff_lt] at hg'); ((try simp (disch := omega) only [hg, go_sem, wrap_n, u8g]) <;> (repeat' with_reducible refine And.intro ?_ ?_) <;> (try (with_reducible refine hK _ ?_; clear hK K))))))
                                                              | omega
    · have hd := dig_at hd0 (by assumption : i < p0.length)
      have hd2 := dg_lt hd
      have hd3 := (p0.getD i 0).toNat_lt
      refine ⟨i + 1, by omega, by omega, ?_⟩
      rw [valS_snoc _ _ (by assumption)]
      rw [step_wr hd hv]; (refine SImp.same ?_; simp (disch := omega) only [go_sem, wrap_n, Int.natCast_add, true_and])
    have e0 : i = p0.length := by omega
    subst e0
    rw [List.take_length] at *
    repeat' first
      | with_reducible refine AWP.seq ?_
      | with_reducible refine thenA_n ?_
      | with_reducible refine thenA_r ?_
      | with_reducible refine thenA_e ?_
      | with_reducible refine blkA_n ?_
      | with_reducible refine blkA_r ?_
      | with_reducible refine blkA_e ?_
      | with_reducible refine blkA_x (by decide) ?_
      | with_reducible refine AWP.skip ?_
      | with_reducible refine AWP.ret ?_
      | with_reducible refine AWP.exit ?_
      | with_reducible refine AWP.block ?_
      | (with_reducible refine AWP.cond rfl ?_ ?_ <;> intro hc <;> (try simp only [decide_eq_true_eq, decide_eq_false_iff_not, Bool.and_eq_true, Bool.or_eq_true, Bool.or_eq_false_iff, Bool.and_eq_false_iff, Bool.not_eq_true', Bool.not_eq_false', Bool.true_eq_false, Bool.false_eq_true, Bool.not_eq_true, Bool.not_eq_false, Int.not_lt, Int.not_le, Nat.not_lt, Nat.not_le, Int.ofNat_lt, Int.ofNat_le, Int.natCast_eq_zero, not_true_eq_false, not_false_eq_true, beq_iff_eq, Bool.not_true, Bool.not_false, ge_iff_le, gt_iff_lt] at hc))
      | ((first | with_reducible refine AWP.region tabOk ?_ | with_reducible refine AWP.quietC mixed tabOk (by decide +kernel) ?_ | with_reducible refine AWP.draw mixed tabOk (by decide +kernel) ?_ | with_reducible refine AWP.drawE mixed tabOk (by decide +kernel) ?_); intro K hK; ((try simp (disch := omega) only [go_sem, wrap_n, true_and]) <;> (repeat' with_reducible refine And.intro ?_ ?_) <;> (try (with_reducible refine hK _ ?_; clear hK K))))
      | ((first | refine acallH_sc (decimal_c (valS p0) (by omega)) rfl rfl ?_ ?_ ?_); (focus ((try simp (disch := omega) only [go_sem, wrap_n, true_and]) <;> (try omega) <;> fail)); (focus ((try simp (disch := omega) only [go_sem, wrap_n, true_and]) <;> (try omega) <;> fail)); ((try simp (disch := omega) only [go_sem, wrap_n, true_and]) <;> (repeat' with_reducible refine And.intro ?_ ?_) <;> (try (with_reducible refine hK _ ?_; clear hK K))))
      | ((first | refine acallQ_sc (decimal_c (valS p0) (by omega)) rfl rfl ?_ ?_ ?_); (focus ((try simp (disch := omega) only [go_sem, wrap_n, true_and]) <;> (try omega) <;> fail)); (focus ((try simp (disch := omega) only [go_sem, wrap_n, true_and]) <;> (try omega) <;> fail)); ((try simp (disch := omega) only [go_sem, wrap_n, true_and]) <;> (repeat' with_reducible refine And.intro ?_ ?_) <;> (try (with_reducible refine hK _ ?_; clear hK K))))
      | ((first | refine acallH_anyr (decimal_c (valS p0) (by omega)) rfl ?_ ?_); (focus ((try simp (disch := omega) only [go_sem, wrap_n, true_and]) <;> (try omega) <;> fail)); ((try simp (disch := omega) only [go_sem, wrap_n, true_and]) <;> (repeat' with_reducible refine And.intro ?_ ?_) <;> (try (with_reducible refine hK _ ?_; clear hK K))))
      | ((first | refine acallH_scx (decimal_c (valS p0) (by omega)) rfl ?_ ?_ | refine acallQ_scx (decimal_c (valS p0) (by omega)) rfl ?_ ?_ | refine acallH_anyx (decimal_c (valS p0) (by omega)) ?_ ?_); (focus ((try simp (disch := omega) only [go_sem, wrap_n, true_and]) <;> (try omega) <;> fail)); ((try simp (disch := omega) only [go_sem, wrap_n, true_and]) <;> (repeat' with_reducible refine And.intro ?_ ?_) <;> (try (with_reducible refine hK _ ?_; clear hK K))))
      | ((first | (with_reducible refine aunder_i ?_ ?_ <;> intro hg) | with_reducible intro hg) <;> (first | (exfalso; simp at hg; done) | (have hg' := hg; (try simp only [decide_eq_true_eq, decide_eq_false_iff_not, Bool.and_eq_true, Bool.or_eq_true, Bool.or_eq_false_iff, Bool.and_eq_false_iff, Bool.not_eq_true', Bool.not_eq_false', Bool.true_eq_false, Bool.false_eq_true, Bool.not_eq_true, Bool.not_eq_false, Int.not_lt, Int.not_le, Nat.not_lt, Nat.not_le, Int.ofNat_lt, Int.ofNat_le, Int.natCast_eq_zero, not_true_eq_false, not_false_eq_true, beq_iff_eq, Bool.not_true, Bool.not_false, ge_iff_le, gt_iff_lt] at hg'); ((try simp (disch := omega) only [hg, go_sem, wrap_n, true_and]) <;> (repeat' with_reducible refine And.intro ?_ ?_) <;> (try (with_reducible refine hK _ ?_; clear hK K))))))
                                                              | omega
    · have hns : smallB p0 ≠ true := fun h => hc ((decB_iff hd0 hle).2 h)
      rw [hr, if_neg (fun h => hns h.1)]; (refine aend_retc ?_ rfl ?_ ?_ ?_ ?_; (focus (first | exact .inl rfl | exact .inr rfl)); (focus ((try simp (disch := omega) only [go_sem, wrap_n, true_and]) <;> (try omega) <;> fail)); (focus ((try simp (disch := omega) only [go_sem, wrap_n, true_and]) <;> (try omega) <;> fail)); (focus ((try simp (disch := omega) only [go_sem, wrap_n, true_and]) <;> (try omega) <;> fail)); (try simp (disch := omega) only [go_sem, wrap_n, true_and, I, B, S, AV.d.injEq, DV.int.injEq, DV.bool.injEq, DV.str.injEq, DV.sl.injEq, AV.tup.injEq, AV.agg.injEq, List.cons.injEq, and_true, true_and, and_self]))
    · have hss := (decB_iff hd0 hle).1 hc
      refine ⟨1, ⟨by omega, fun _ => hss, fun h => absurd h (by decide)⟩, by omega, ?_⟩
      (refine SImp.frame [0, 1, 2] rfl (by intro k hk; simp at hk <;> (simp; omega)) (by decide) (fun k hk => by omega) ?_ ?_ <;> simp (disch := omega) only [go_sem, wrap_n, Int.natCast_add, true_and] <;> (try rfl))
  · repeat' first
      | with_reducible refine AWP.seq ?_
      | with_reducible refine thenA_n ?_
      | with_reducible refine thenA_r ?_
      | with_reducible refine thenA_e ?_
      | with_reducible refine blkA_n ?_
      | with_reducible refine blkA_r ?_
      | with_reducible refine blkA_e ?_
      | with_reducible refine blkA_x (by decide) ?_
      | with_reducible refine AWP.skip ?_
      | with_reducible refine AWP.ret ?_
      | with_reducible refine AWP.exit ?_
      | with_reducible refine AWP.block ?_
      | (with_reducible refine AWP.cond rfl ?_ ?_ <;> intro hc <;> (try simp only [decide_eq_true_eq, decide_eq_false_iff_not, Bool.and_eq_true, Bool.or_eq_true, Bool.or_eq_false_iff, Bool.and_eq_false_iff, Bool.not_eq_true', Bool.not_eq_false', Bool.true_eq_false, Bool.false_eq_true, Bool.not_eq_true, Bool.not_eq_false, Int.not_lt, Int.not_le, Nat.not_lt, Nat.not_le, Int.ofNat_lt, Int.ofNat_le, Int.natCast_eq_zero, not_true_eq_false, not_false_eq_true, beq_iff_eq, Bool.not_true, Bool.not_false, ge_iff_le, gt_iff_lt] at hc))
      | ((first | with_reducible refine AWP.region tabOk ?_ | with_reducible refine AWP.quietC mixed tabOk (by decide +kernel) ?_ | with_reducible refine AWP.draw mixed tabOk (by decide +kernel) ?_ | with_reducible refine AWP.drawE mixed tabOk (by decide +kernel) ?_); intro K hK; ((try simp (disch := omega) only [go_sem, wrap_n, true_and]) <;> (repeat' with_reducible refine And.intro ?_ ?_) <;> (try (with_reducible refine hK _ ?_; clear hK K))))
      | ((first | (with_reducible refine aunder_i ?_ ?_ <;> intro hg) | with_reducible intro hg) <;> (first | (exfalso; simp at hg; done) | (have hg' := hg; (try simp only [decide_eq_true_eq, decide_eq_false_iff_not, Bool.and_eq_true, Bool.or_eq_true, Bool.or_eq_false_iff, Bool.and_eq_false_iff, Bool.not_eq_true', Bool.not_eq_false', Bool.true_eq_false, Bool.false_eq_true, Bool.not_eq_true, Bool.not_eq_false, Int.not_lt, Int.not_le, Nat.not_lt, Nat.not_le, Int.ofNat_lt, Int.ofNat_le, Int.natCast_eq_zero, not_true_eq_false, not_false_eq_true, beq_iff_eq, Bool.not_true, Bool.not_false, ge_iff_le, gt_iff_lt] at hg'); ((try simp (disch := omega) only [hg, go_sem, wrap_n, true_and]) <;> (repeat' with_reducible refine And.intro ?_ ?_) <;> (try (with_reducible refine hK _ ?_; clear hK K))))))
                                                              | omega
    · rw [hr, if_neg (fun h => by rw [small_len (t := p1) (by omega)] at h; exact absurd h.2 (by decide))]; (refine aend_retc ?_ rfl ?_ ?_ ?_ ?_; (focus (first | exact .inl rfl | exact .inr rfl)); (focus ((try simp (disch := omega) only [go_sem, wrap_n, true_and]) <;> (try omega) <;> fail)); (focus ((try simp (disch := omega) only [go_sem, wrap_n, true_and]) <;> (try omega) <;> fail)); (focus ((try simp (disch := omega) only [go_sem, wrap_n, true_and]) <;> (try omega) <;> fail)); (try simp (disch := omega) only [go_sem, wrap_n, true_and, I, B, S, AV.d.injEq, DV.int.injEq, DV.bool.injEq, DV.str.injEq, DV.sl.injEq, AV.tup.injEq, AV.agg.injEq, List.cons.injEq, and_true, true_and, and_self]))
    have hle : p1.length ≤ 10 := by omega
    refine AWP.loopB (ι := Nat) (fun i => i ≤ p1.length) (fun i => p1.length - i) [7, 8, 9, 41, 42, 43, 52, 53] (fun i => [(54, I i)]) (fun i => [.bytes s, .cells [I (valS p0 : Nat), I (valS (p1.take i) : Nat)], .rows 1 [[.str p0], [.str p1]], .bytes p1]) 0 ?_ ?_ ?_
    · omega
    · simp only [go_sem, val_nil]; (refine SImp.same ?_; simp (disch := omega) only [go_sem, wrap_n, Int.natCast_add, true_and])
    intro i hi
    have hv := valS_le (dig_take hd1 i) (by rw [List.length_take]; omega)
    simp only [go_sem]
    repeat' first
      | with_reducible refine AWP.seq ?_
      | with_reducible refine thenA_n ?_
      | with_reducible refine thenA_r ?_
      | with_reducible refine thenA_e ?_
      | with_reducible refine blkA_n ?_
      | with_reducible refine blkA_r ?_
      | with_reducible refine blkA_e ?_
      | with_reducible refine blkA_x (by decide) ?_
      | with_reducible refine AWP.skip ?_
      | with_reducible refine AWP.ret ?_
      | with_reducible refine AWP.exit ?_
      | with_reducible refine AWP.block ?_
      | (with_reducible refine AWP.cond rfl ?_ ?_ <;> intro hc <;> (try simp only [decide_eq_true_eq, decide_eq_false_iff_not, Bool.and_eq_true, Bool.or_eq_true, Bool.or_eq_false_iff, Bool.and_eq_false_iff, Bool.not_eq_true', Bool.not_eq_false', Bool.true_eq_false, Bool.false_eq_true, Bool.not_eq_true, Bool.not_eq_false, Int.not_lt, Int.not_le, Nat.not_lt, Nat.not_le, Int.ofNat_lt, Int.ofNat_le, Int.natCast_eq_zero, not_true_eq_false, not_false_eq_true, beq_iff_eq, Bool.not_true, Bool.not_false, ge_iff_le, gt_iff_lt] at hc))
      | ((first | with_reducible refine AWP.region tabOk ?_ | with_reducible refine AWP.quietC mixed tabOk (by decide +kernel) ?_ | with_reducible refine AWP.draw mixed tabOk (by decide +kernel) ?_ | with_reducible refine AWP.drawE mixed tabOk (by decide +kernel) ?_); intro K hK; ((try simp (disch := omega) only [go_sem, wrap_n, u8g]) <;> (repeat' with_reducible refine And.intro ?_ ?_) <;> (try (with_reducible refine hK _ ?_; clear hK K))))
      | ((first | (with_reducible refine aunder_i ?_ ?_ <;> intro hg) | with_reducible intro hg) <;> (first | (exfalso; simp at hg; done) | (have hg' := hg; (try simp only [decide_eq_true_eq, decide_eq_false_iff_not, Bool.and_eq_true, Bool.or_eq_true, Bool.or_eq_false_iff, Bool.and_eq_false_iff, Bool.not_eq_true', Bool.not_eq_false', Bool.true_eq_false, Bool.false_eq_true, Bool.not_eq_true, Bool.not_eq_false, Int.not_lt, Int.not_le, Nat.not_lt, Nat.not_le, Int.ofNat_lt, Int.ofNat_le, Int.natCast_eq_zero, not_true_eq_false, not_false_eq_true, beq_iff_eq, Bool.not_true, Bool.not_false, ge_iff_le, gt_iff_lt] at hg'); ((try simp (disch := omega) only [hg, go_sem, wrap_n, u8g]) <;> (repeat' with_reducible refine And.intro ?_ ?_) <;> (try (with_reducible refine hK _ ?_; clear hK K))))))
                                                              | omega
    · have hd := dig_at hd1 (by assumption : i < p1.length)
      have hd2 := dg_lt hd
      have hd3 := (p1.getD i 0).toNat_lt
      refine ⟨i + 1, by omega, by omega, ?_⟩
      rw [valS_snoc _ _ (by assumption)]
      rw [step_wr hd hv]; (refine SImp.same ?_; simp (disch := omega) only [go_sem, wrap_n, Int.natCast_add, true_and])
    have e0 : i = p1.length := by omega
    subst e0
    rw [List.take_length] at *
    repeat' first
      | with_reducible refine AWP.seq ?_
      | with_reducible refine thenA_n ?_
      | with_reducible refine thenA_r ?_
      | with_reducible refine thenA_e ?_
      | with_reducible refine blkA_n ?_
      | with_reducible refine blkA_r ?_
      | with_reducible refine blkA_e ?_
      | with_reducible refine blkA_x (by decide) ?_
      | with_reducible refine AWP.skip ?_
      | with_reducible refine AWP.ret ?_
      | with_reducible refine AWP.exit ?_
      | with_reducible refine AWP.block ?_
      | (with_reducible refine AWP.cond rfl ?_ ?_ <;> intro hc <;> (try simp only [decide_eq_true_eq, decide_eq_false_iff_not, Bool.and_eq_true, Bool.or_eq_true, Bool.or_eq_false_iff, Bool.and_eq_false_iff, Bool.not_eq_true', Bool.not_eq_false', Bool.true_eq_false, Bool.false_eq_true, Bool.not_eq_true, Bool.not_eq_false, Int.not_lt, Int.not_le, Nat.not_lt, Nat.not_le, Int.ofNat_lt, Int.ofNat_le, Int.natCast_eq_zero, not_true_eq_false, not_false_eq_true, beq_iff_eq, Bool.not_true, Bool.not_false, ge_iff_le, gt_iff_lt] at hc))
      | ((first | with_reducible refine AWP.region tabOk ?_ | with_reducible refine AWP.quietC mixed tabOk (by decide +kernel) ?_ | with_reducible refine AWP.draw mixed tabOk (by decide +kernel) ?_ | with_reducible refine AWP.drawE mixed tabOk (by decide +kernel) ?_); intro K hK; ((try simp (disch := omega) only [go_sem, wrap_n, true_and]) <;> (repeat' with_reducible refine And.intro ?_ ?_) <;> (try (with_reducible refine hK _ ?_; clear hK K))))
      | ((first | refine acallH_sc (decimal_c (valS p1) (by omega)) rfl rfl ?_ ?_ ?_); (focus ((try simp (disch := omega) only [go_sem, wrap_n, true_and]) <;> (try omega) <;> fail)); (focus ((try simp (disch := omega) only [go_sem, wrap_n, true_and]) <;> (try omega) <;> fail)); ((try simp (disch := omega) only [go_sem, wrap_n, true_and]) <;> (repeat' with_reducible refine And.intro ?_ ?_) <;> (try (with_reducible refine hK _ ?_; clear hK K))))
      | ((first | refine acallQ_sc (decimal_c (valS p1) (by omega)) rfl rfl ?_ ?_ ?_); (focus ((try simp (disch := omega) only [go_sem, wrap_n, true_and]) <;> (try omega) <;> fail)); (focus ((try simp (disch := omega) only [go_sem, wrap_n, true_and]) <;> (try omega) <;> fail)); ((try simp (disch := omega) only [go_sem, wrap_n, true_and]) <;> (repeat' with_reducible refine And.intro ?_ ?_) <;> (try (with_reducible refine hK _ ?_; clear hK K))))
      | ((first | refine acallH_anyr (decimal_c (valS p1) (by omega)) rfl ?_ ?_); (focus ((try simp (disch := omega) only [go_sem, wrap_n, true_and]) <;> (try omega) <;> fail)); ((try simp (disch := omega) only [go_sem, wrap_n, true_and]) <;> (repeat' with_reducible refine And.intro ?_ ?_) <;> (try (with_reducible refine hK _ ?_; clear hK K))))
      | ((first | refine acallH_scx (decimal_c (valS p1) (by omega)) rfl ?_ ?_ | refine acallQ_scx (decimal_c (valS p1) (by omega)) rfl ?_ ?_ | refine acallH_anyx (decimal_c (valS p1) (by omega)) ?_ ?_); (focus ((try simp (disch := omega) only [go_sem, wrap_n, true_and]) <;> (try omega) <;> fail)); ((try simp (disch := omega) only [go_sem, wrap_n, true_and]) <;> (repeat' with_reducible refine And.intro ?_ ?_) <;> (try (with_reducible refine hK _ ?_; clear hK K))))
      | ((first | (with_reducible refine aunder_i ?_ ?_ <;> intro hg) | with_reducible intro hg) <;> (first | (exfalso; simp at hg; done) | (have hg' := hg; (try simp only [decide_eq_true_eq, decide_eq_false_iff_not, Bool.and_eq_true, Bool.or_eq_true, Bool.or_eq_false_iff, Bool.and_eq_false_iff, Bool.not_eq_true', Bool.not_eq_false', Bool.true_eq_false, Bool.false_eq_true, Bool.not_eq_true, Bool.not_eq_false, Int.not_lt, Int.not_le, Nat.not_lt, Nat.not_le, Int.ofNat_lt, Int.ofNat_le, Int.natCast_eq_zero, not_true_eq_false, not_false_eq_true, beq_iff_eq, Bool.not_true, Bool.not_false, ge_iff_le, gt_iff_lt] at hg'); ((try simp (disch := omega) only [hg, go_sem, wrap_n, true_and]) <;> (repeat' with_reducible refine And.intro ?_ ?_) <;> (try (with_reducible refine hK _ ?_; clear hK K))))))
                                                              | omega
    · have hns : smallB p1 ≠ true := fun h => hc ((decB_iff hd1 hle).2 h)
      rw [hr, if_neg (fun h => hns h.2)]; (refine aend_retc ?_ rfl ?_ ?_ ?_ ?_; (focus (first | exact .inl rfl | exact .inr rfl)); (focus ((try simp (disch := omega) only [go_sem, wrap_n, true_and]) <;> (try omega) <;> fail)); (focus ((try simp (disch := omega) only [go_sem, wrap_n, true_and]) <;> (try omega) <;> fail)); (focus ((try simp (disch := omega) only [go_sem, wrap_n, true_and]) <;> (try omega) <;> fail)); (try simp (disch := omega) only [go_sem, wrap_n, true_and, I, B, S, AV.d.injEq, DV.int.injEq, DV.bool.injEq, DV.str.injEq, DV.sl.injEq, AV.tup.injEq, AV.agg.injEq, List.cons.injEq, and_true, true_and, and_self]))
    · have hss := (decB_iff hd1 hle).1 hc
      refine ⟨2, ⟨by omega, fun _ => k0 (by decide), fun _ => hss⟩, by omega, ?_⟩
      (refine SImp.frame [0, 1, 2] rfl (by intro k hk; simp at hk <;> (simp; omega)) (by decide) (fun k hk => by omega) ?_ ?_ <;> simp (disch := omega) only [go_sem, wrap_n, Int.natCast_add, true_and] <;> (try rfl))
  · repeat' first
      | with_reducible refine AWP.seq ?_
      | with_reducible refine thenA_n ?_
      | with_reducible refine thenA_r ?_
      | with_reducible refine thenA_e ?_
      | with_reducible refine blkA_n ?_
      | with_reducible refine blkA_r ?_
      | with_reducible refine blkA_e ?_
      | with_reducible refine blkA_x (by decide) ?_
      | with_reducible refine AWP.skip ?_
      | with_reducible refine AWP.ret ?_
      | with_reducible refine AWP.exit ?_
      | with_reducible refine AWP.block ?_
      | (with_reducible refine AWP.cond rfl ?_ ?_ <;> intro hc <;> (try simp only [decide_eq_true_eq, decide_eq_false_iff_not, Bool.and_eq_true, Bool.or_eq_true, Bool.or_eq_false_iff, Bool.and_eq_false_iff, Bool.not_eq_true', Bool.not_eq_false', Bool.true_eq_false, Bool.false_eq_true, Bool.not_eq_true, Bool.not_eq_false, Int.not_lt, Int.not_le, Nat.not_lt, Nat.not_le, Int.ofNat_lt, Int.ofNat_le, Int.natCast_eq_zero, not_true_eq_false, not_false_eq_true, beq_iff_eq, Bool.not_true, Bool.not_false, ge_iff_le, gt_iff_lt] at hc))
      | ((first | with_reducible refine AWP.region tabOk ?_ | with_reducible refine AWP.quietC mixed tabOk (by decide +kernel) ?_ | with_reducible refine AWP.draw mixed tabOk (by decide +kernel) ?_ | with_reducible refine AWP.drawE mixed tabOk (by decide +kernel) ?_); intro K hK; ((try simp (disch := omega) only [go_sem, wrap_n, two]) <;> (repeat' with_reducible refine And.intro ?_ ?_) <;> (try (with_reducible refine hK _ ?_; clear hK K))))
      | ((first | refine acallH_sc (ref_make_c _ _) rfl rfl ?_ ?_ ?_); (focus ((try simp (disch := omega) only [go_sem, wrap_n, two]) <;> (try omega) <;> fail)); (focus ((try simp (disch := omega) only [go_sem, wrap_n, two]) <;> (try omega) <;> fail)); ((try simp (disch := omega) only [go_sem, wrap_n, two]) <;> (repeat' with_reducible refine And.intro ?_ ?_) <;> (try (with_reducible refine hK _ ?_; clear hK K))))
      | ((first | refine acallQ_sc (ref_make_c _ _) rfl rfl ?_ ?_ ?_); (focus ((try simp (disch := omega) only [go_sem, wrap_n, two]) <;> (try omega) <;> fail)); (focus ((try simp (disch := omega) only [go_sem, wrap_n, two]) <;> (try omega) <;> fail)); ((try simp (disch := omega) only [go_sem, wrap_n, two]) <;> (repeat' with_reducible refine And.intro ?_ ?_) <;> (try (with_reducible refine hK _ ?_; clear hK K))))
      | ((first | refine acallH_anyr (ref_make_c _ _) rfl ?_ ?_); (focus ((try simp (disch := omega) only [go_sem, wrap_n, two]) <;> (try omega) <;> fail)); ((try simp (disch := omega) only [go_sem, wrap_n, two]) <;> (repeat' with_reducible refine And.intro ?_ ?_) <;> (try (with_reducible refine hK _ ?_; clear hK K))))
      | ((first | refine acallH_scx (ref_make_c _ _) rfl ?_ ?_ | refine acallQ_scx (ref_make_c _ _) rfl ?_ ?_ | refine acallH_anyx (ref_make_c _ _) ?_ ?_); (focus ((try simp (disch := omega) only [go_sem, wrap_n, two]) <;> (try omega) <;> fail)); ((try simp (disch := omega) only [go_sem, wrap_n, two]) <;> (repeat' with_reducible refine And.intro ?_ ?_) <;> (try (with_reducible refine hK _ ?_; clear hK K))))
      | ((first | (with_reducible refine aunder_i ?_ ?_ <;> intro hg) | with_reducible intro hg) <;> (first | (exfalso; simp at hg; done) | (have hg' := hg; (try simp only [decide_eq_true_eq, decide_eq_false_iff_not, Bool.and_eq_true, Bool.or_eq_true, Bool.or_eq_false_iff, Bool.and_eq_false_iff, Bool.not_eq_true', Bool.not_eq_false', Bool.true_eq_false, Bool.false_eq_true, Bool.not_eq_true, Bool.not_eq_false, Int.not_lt, Int.not_le, Nat.not_lt, Nat.not_le, Int.ofNat_lt, Int.ofNat_le, Int.natCast_eq_zero, not_true_eq_false, not_false_eq_true, beq_iff_eq, Bool.not_true, Bool.not_false, ge_iff_le, gt_iff_lt] at hg'); ((try simp (disch := omega) only [hg, go_sem, wrap_n, two]) <;> (repeat' with_reducible refine And.intro ?_ ?_) <;> (try (with_reducible refine hK _ ?_; clear hK K))))))
                                                              | omega
    rw [hr, if_pos ⟨k0 (by decide), k1 (by decide)⟩]; (refine aend_retc ?_ rfl ?_ ?_ ?_ ?_; (focus (first | exact .inl rfl | exact .inr rfl)); (focus ((try simp (disch := omega) only [go_sem, wrap_n, true_and]) <;> (try omega) <;> fail)); (focus ((try simp (disch := omega) only [go_sem, wrap_n, true_and]) <;> (try omega) <;> fail)); (focus ((try simp (disch := omega) only [go_sem, wrap_n, true_and]) <;> (try omega) <;> fail)); (try simp (disch := omega) only [go_sem, wrap_n, true_and, I, B, S, AV.d.injEq, DV.int.injEq, DV.bool.injEq, DV.str.injEq, DV.sl.injEq, AV.tup.injEq, AV.agg.injEq, List.cons.injEq, and_true, true_and, and_self]))
theorem readZ_known : readZ [48, 46, 55] = (7, 0) := by decide
theorem zxidReads_b (s : List UInt8) (hs : okS s) : acall Try.prog [] 14 [S s] (ret (B true)) := by
  refine acall_of tabOk Try.func14 rfl (by kernel_rfl) (by simp [Try.ntmps14]) ?_; simp only [Try.ntmps14, Try.results14, List.toList_toArray, apar, List.length_nil, List.length_cons, Nat.reduceAdd]
  repeat' first
    | with_reducible refine AWP.seq ?_
    | with_reducible refine thenA_n ?_
    | with_reducible refine thenA_r ?_
    | with_reducible refine thenA_e ?_
    | with_reducible refine blkA_n ?_
    | with_reducible refine blkA_r ?_
    | with_reducible refine blkA_e ?_
    | with_reducible refine blkA_x (by decide) ?_
    | with_reducible refine AWP.skip ?_
    | with_reducible refine AWP.ret ?_
    | with_reducible refine AWP.exit ?_
    | with_reducible refine AWP.block ?_
    | (with_reducible refine AWP.cond rfl ?_ ?_ <;> intro hc <;> (try simp only [decide_eq_true_eq, decide_eq_false_iff_not, Bool.and_eq_true, Bool.or_eq_true, Bool.or_eq_false_iff, Bool.and_eq_false_iff, Bool.not_eq_true', Bool.not_eq_false', Bool.true_eq_false, Bool.false_eq_true, Bool.not_eq_true, Bool.not_eq_false, Int.not_lt, Int.not_le, Nat.not_lt, Nat.not_le, Int.ofNat_lt, Int.ofNat_le, Int.natCast_eq_zero, not_true_eq_false, not_false_eq_true, beq_iff_eq, Bool.not_true, Bool.not_false, ge_iff_le, gt_iff_lt] at hc))
    | ((first | with_reducible refine AWP.region tabOk ?_ | with_reducible refine AWP.quietC mixed tabOk (by decide +kernel) ?_ | with_reducible refine AWP.draw mixed tabOk (by decide +kernel) ?_ | with_reducible refine AWP.drawE mixed tabOk (by decide +kernel) ?_); intro K hK; ((try simp (disch := omega) only [go_sem, wrap_n, true_and]) <;> (repeat' with_reducible refine And.intro ?_ ?_) <;> (try (with_reducible refine hK _ ?_; clear hK K))))
    | ((first | refine acallH_sc (read_z_c s hs) rfl rfl ?_ ?_ ?_ | refine acallH_sc (ref_read_c s hs) rfl rfl ?_ ?_ ?_ | refine acallH_sc ((read_z_c [48, 46, 55] (by unfold okS; decide)).re (by rw [readZ_known])) rfl rfl ?_ ?_ ?_); (focus ((try simp (disch := omega) only [go_sem, wrap_n, true_and]) <;> (try omega) <;> fail)); (focus ((try simp (disch := omega) only [go_sem, wrap_n, true_and]) <;> (try omega) <;> fail)); ((try simp (disch := omega) only [go_sem, wrap_n, true_and]) <;> (repeat' with_reducible refine And.intro ?_ ?_) <;> (try (with_reducible refine hK _ ?_; clear hK K))))
    | ((first | refine acallQ_sc (read_z_c s hs) rfl rfl ?_ ?_ ?_ | refine acallQ_sc (ref_read_c s hs) rfl rfl ?_ ?_ ?_ | refine acallQ_sc ((read_z_c [48, 46, 55] (by unfold okS; decide)).re (by rw [readZ_known])) rfl rfl ?_ ?_ ?_); (focus ((try simp (disch := omega) only [go_sem, wrap_n, true_and]) <;> (try omega) <;> fail)); (focus ((try simp (disch := omega) only [go_sem, wrap_n, true_and]) <;> (try omega) <;> fail)); ((try simp (disch := omega) only [go_sem, wrap_n, true_and]) <;> (repeat' with_reducible refine And.intro ?_ ?_) <;> (try (with_reducible refine hK _ ?_; clear hK K))))
    | ((first | refine acallH_anyr (read_z_c s hs) rfl ?_ ?_ | refine acallH_anyr (ref_read_c s hs) rfl ?_ ?_ | refine acallH_anyr ((read_z_c [48, 46, 55] (by unfold okS; decide)).re (by rw [readZ_known])) rfl ?_ ?_); (focus ((try simp (disch := omega) only [go_sem, wrap_n, true_and]) <;> (try omega) <;> fail)); ((try simp (disch := omega) only [go_sem, wrap_n, true_and]) <;> (repeat' with_reducible refine And.intro ?_ ?_) <;> (try (with_reducible refine hK _ ?_; clear hK K))))
    | ((first | refine acallH_scx (read_z_c s hs) rfl ?_ ?_ | refine acallQ_scx (read_z_c s hs) rfl ?_ ?_ | refine acallH_anyx (read_z_c s hs) ?_ ?_); (focus ((try simp (disch := omega) only [go_sem, wrap_n, true_and]) <;> (try omega) <;> fail)); ((try simp (disch := omega) only [go_sem, wrap_n, true_and]) <;> (repeat' with_reducible refine And.intro ?_ ?_) <;> (try (with_reducible refine hK _ ?_; clear hK K))))
    | ((first | refine acallH_scx (ref_read_c s hs) rfl ?_ ?_ | refine acallQ_scx (ref_read_c s hs) rfl ?_ ?_ | refine acallH_anyx (ref_read_c s hs) ?_ ?_); (focus ((try simp (disch := omega) only [go_sem, wrap_n, true_and]) <;> (try omega) <;> fail)); ((try simp (disch := omega) only [go_sem, wrap_n, true_and]) <;> (repeat' with_reducible refine And.intro ?_ ?_) <;> (try (with_reducible refine hK _ ?_; clear hK K))))
    | ((first | refine acallH_scx ((read_z_c [48, 46, 55] (by unfold okS; decide)).re (by rw [readZ_known])) rfl ?_ ?_ | refine acallQ_scx ((read_z_c [48, 46, 55] (by unfold okS; decide)).re (by rw [readZ_known])) rfl ?_ ?_ | refine acallH_anyx ((read_z_c [48, 46, 55] (by unfold okS; decide)).re (by rw [readZ_known])) ?_ ?_); (focus ((try simp (disch := omega) only [go_sem, wrap_n, true_and]) <;> (try omega) <;> fail)); ((try simp (disch := omega) only [go_sem, wrap_n, true_and]) <;> (repeat' with_reducible refine And.intro ?_ ?_) <;> (try (with_reducible refine hK _ ?_; clear hK K))))
    | ((first | (with_reducible refine aunder_i ?_ ?_ <;> intro hg) | with_reducible intro hg) <;> (first | (exfalso; simp at hg; done) | (have hg' := hg; (try simp only [decide_eq_true_eq, decide_eq_false_iff_not, Bool.and_eq_true, Bool.or_eq_true, Bool.or_eq_false_iff, Bool.and_eq_false_iff, Bool.not_eq_true', Bool.not_eq_false', Bool.true_eq_false, Bool.false_eq_true, Bool.not_eq_true, Bool.not_eq_false, Int.not_lt, Int.not_le, Nat.not_lt, Nat.not_le, Int.ofNat_lt, Int.ofNat_le, Int.natCast_eq_zero, not_true_eq_false, not_false_eq_true, beq_iff_eq, Bool.not_true, Bool.not_false, ge_iff_le, gt_iff_lt] at hg'); ((try simp (disch := omega) only [hg, go_sem, wrap_n, true_and]) <;> (repeat' with_reducible refine And.intro ?_ ?_) <;> (try (with_reducible refine hK _ ?_; clear hK K))))))
                                                            | omega
  (refine aend_retc ?_ rfl ?_ ?_ ?_ ?_; (focus (first | exact .inl rfl | exact .inr rfl)); (focus ((try simp (disch := omega) only [go_sem, wrap_n, true_and]) <;> (try omega) <;> fail)); (focus ((try simp (disch := omega) only [go_sem, wrap_n, true_and]) <;> (try omega) <;> fail)); (focus ((try simp (disch := omega) only [go_sem, wrap_n, true_and]) <;> (try omega) <;> fail)); (try simp (disch := omega) only [go_sem, wrap_n, true_and, I, B, S, AV.d.injEq, DV.int.injEq, DV.bool.injEq, DV.str.injEq, DV.sl.injEq, AV.tup.injEq, AV.agg.injEq, List.cons.injEq, and_true, true_and, and_self]))
theorem zxidReads_c (dss : List (List DV)) (h : typeds T 6 Try.f14.params.toList dss) : acall Try.prog [] 14 (aargs T Try.f14.params.toList dss) (fun v _ => v = B true) := by
  rw [Try.params14] at h ⊢
  simp only [List.toList_toArray, typeds] at h
  obtain ⟨c0, d0, rfl, h0, rfl⟩ := h
  obtain ⟨s, rfl, w_s⟩ := ty_str (m := 5) (by simp only [T_9, ty9]) h0
  simp only [List.toList_toArray, aargs, aarg, TI.agg_mk, T_9, ty9]
  exact (zxidReads_b s w_s).mono fun _ _ h => h.1
end Go.Proofs.Ytplgghpnijmllaa
