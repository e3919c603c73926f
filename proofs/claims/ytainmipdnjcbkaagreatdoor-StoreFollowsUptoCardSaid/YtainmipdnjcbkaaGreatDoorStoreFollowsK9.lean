/- A part of what StoreFollows leans on: texts of this claim, one behind the other. No condition. -/
import Derived.Test.YtainmipdnjcbkaaGreatDoorStoreFollowsK8
namespace Go.Proofs.YtainmipdnjcbkaaGreatDoor
set_option linter.unusedVariables false
set_option linter.unusedSimpArgs false
open Go Go.RowKit
set_option maxRecDepth 100000
def lastZ (l : List ATxn) : Int := if l = [] then 0 else (l.getD (l.length - 1) default).zxid
theorem lastZ_nil : lastZ [] = 0 := rfl
theorem lastZ_pos {l : List ATxn} (h : 0 < l.length) : lastZ l = (l.getD (l.length - 1) default).zxid := by
  unfold lastZ; rw [if_neg (fun e => by rw [e] at h; exact absurd h (by decide))]
theorem lastZ_snoc (l : List ATxn) (t : ATxn) : lastZ (l ++ [t]) = t.zxid := by
  rw [lastZ_pos (by simp)]; simp
theorem last_c (l : List ATxn) (h : l.length * 72 ≤ 140737488351232) : acall Tryz.prog [] 139 [.d (.sl 7 (l.map ATxn.row))] (ret (I (lastZ l))) := by
  refine zI Tryz.func139 rfl (by kernel_rfl) (by simp [Tryz.ntmps139]) ?_; simp only [Tryz.ntmps139, Tryz.results139, go_sem]
  (repeat' first
| (with_reducible refine AR.f ?_)
| refine zb (by decide) ?_
| (with_reducible refine AWP.cond rfl ?_ ?_ <;> intro hc <;> (try simp only [hcs, beq_iff_eq, ge_iff_le, gt_iff_lt] at hc))
| ((first | ((first | (with_reducible first | refine zR ?_ | refine zQ (by decide +kernel) ?_ | refine zD (by decide +kernel) ?_ | refine zE (by decide +kernel) ?_ | refine zG (by decide +kernel) ?_)); intro K hK) | ((first | (with_reducible refine zu ?_ ?_ <;> intro hg) | with_reducible intro hg) <;> (first | (exfalso; simp at hg; done) | (have hg' := hg; (try simp only [hcs, beq_iff_eq, ge_iff_le, gt_iff_lt] at hg'); (try simp only [hg]))))) <;> (try simp (disch := omega) only [go_sem, wn, ATxn.rgetD]) <;> (repeat' with_reducible refine And.intro ?_ ?_) <;> (try (with_reducible refine hK _ ?_; clear hK K)))
| omega)
  · have e : l = [] := List.eq_nil_of_length_eq_zero (by omega)
    rw [e, lastZ_nil]; (refine zF rfl ?_ ?_ ?_ ?_; (iterate 3 (focus ((try simp (disch := omega) only [go_sem, wn]) <;> (try omega) <;> fail))); (try simp (disch := omega) only [go_sem, wn, I, B, S, zj]))
  all_goals first | omega | skip
  rw [lastZ_pos (by omega)]
  have e : (((l.length : Int) - 1).toNat) = l.length - 1 := by omega
  (refine zF rfl ?_ ?_ ?_ ?_; (iterate 3 (focus ((try simp (disch := omega) only [go_sem, wn, ATxn.rgetD, e]) <;> (try omega) <;> fail))); (try simp (disch := omega) only [go_sem, wn, ATxn.rgetD, e, I, B, S, zj]))
  all_goals trace_state
theorem ref_last_c (l : List ATxn) (h : l.length * 72 ≤ 140737488351232) : acall Tryz.prog [] 142 [.d (.sl 7 (l.map ATxn.row))] (ret (I (lastZ l))) := by
  refine zI Tryz.func142 rfl (by kernel_rfl) (by simp [Tryz.ntmps142]) ?_; simp only [Tryz.ntmps142, Tryz.results142, go_sem]
  (repeat' first
| (with_reducible refine AR.f ?_)
| refine zb (by decide) ?_
| (with_reducible refine AWP.cond rfl ?_ ?_ <;> intro hc <;> (try simp only [hcs, beq_iff_eq, ge_iff_le, gt_iff_lt] at hc))
| ((first | ((first | (with_reducible first | refine zR ?_ | refine zQ (by decide +kernel) ?_ | refine zD (by decide +kernel) ?_ | refine zE (by decide +kernel) ?_ | refine zG (by decide +kernel) ?_)); intro K hK) | ((first | (with_reducible refine zu ?_ ?_ <;> intro hg) | with_reducible intro hg) <;> (first | (exfalso; simp at hg; done) | (have hg' := hg; (try simp only [hcs, beq_iff_eq, ge_iff_le, gt_iff_lt] at hg'); (try simp only [hg]))))) <;> (try simp (disch := omega) only [go_sem, wn]) <;> (repeat' with_reducible refine And.intro ?_ ?_) <;> (try (with_reducible refine hK _ ?_; clear hK K)))
| omega)
  refine AWP.loopB (ι := Nat) (fun k => k ≤ l.length) (fun k => l.length - k) [6, 7] (fun k => [(8, I k), (3, I (lastZ (l.take k)))]) (fun k => []) 0 ?_ ?_ ?_
  · omega
  · simp only [go_sem, lastZ_nil]; (refine SImp.same ?_; simp (disch := omega) only [go_sem, wn, Int.natCast_add])
  intro k hk
  simp only [go_sem]
  (repeat' first
| (with_reducible refine AR.f ?_)
| refine zb (by decide) ?_
| (with_reducible refine AWP.cond rfl ?_ ?_ <;> intro hc <;> (try simp only [hcs, beq_iff_eq, ge_iff_le, gt_iff_lt] at hc))
| ((first | ((first | (with_reducible first | refine zR ?_ | refine zQ (by decide +kernel) ?_ | refine zD (by decide +kernel) ?_ | refine zE (by decide +kernel) ?_ | refine zG (by decide +kernel) ?_)); intro K hK) | ((first | (with_reducible refine zu ?_ ?_ <;> intro hg) | with_reducible intro hg) <;> (first | (exfalso; simp at hg; done) | (have hg' := hg; (try simp only [hcs, beq_iff_eq, ge_iff_le, gt_iff_lt] at hg'); (try simp only [hg]))))) <;> (try simp (disch := omega) only [go_sem, wn, ATxn.rgetD]) <;> (repeat' with_reducible refine And.intro ?_ ?_) <;> (try (with_reducible refine hK _ ?_; clear hK K)))
| omega)
  · refine ⟨k + 1, by omega, by omega, ?_⟩
    have e : l.take (k + 1) = l.take k ++ [l.getD k default] := take_snoc l k (by assumption)
    rw [e, lastZ_snoc]
    (refine zV [] rfl rfl rfl rfl ?_ ?_ <;> simp (disch := omega) only [go_sem, wn, Int.natCast_add] <;> (try rfl))
  · rw [show k = l.length from by omega, List.take_length]; (refine zF rfl ?_ ?_ ?_ ?_; (iterate 3 (focus ((try simp (disch := omega) only [go_sem, wn]) <;> (try omega) <;> fail))); (try simp (disch := omega) only [go_sem, wn, I, B, S, zj]))
theorem sameLog_c (a b : List ATxn) (h : a.length * 72 ≤ 140737488351232) (h2 : b.length * 72 ≤ 140737488351232) : acall Tryz.prog [] 39 [.d (.sl 7 (a.map ATxn.row)), .d (.sl 7 (b.map ATxn.row))] (ret (B (decide (a = b)))) := by
  refine zI Tryz.func39 rfl (by kernel_rfl) (by simp [Tryz.ntmps39]) ?_; simp only [Tryz.ntmps39, Tryz.results39, go_sem]
  (repeat' first
| (with_reducible refine AR.f ?_)
| refine zb (by decide) ?_
| (with_reducible refine AWP.cond rfl ?_ ?_ <;> intro hc <;> (try simp only [hcs, beq_iff_eq, ge_iff_le, gt_iff_lt] at hc))
| ((first | ((first | (with_reducible first | refine zR ?_ | refine zQ (by decide +kernel) ?_ | refine zD (by decide +kernel) ?_ | refine zE (by decide +kernel) ?_ | refine zG (by decide +kernel) ?_)); intro K hK) | ((first | (with_reducible refine zu ?_ ?_ <;> intro hg) | with_reducible intro hg) <;> (first | (exfalso; simp at hg; done) | (have hg' := hg; (try simp only [hcs, beq_iff_eq, ge_iff_le, gt_iff_lt] at hg'); (try simp only [hg]))))) <;> (try simp (disch := omega) only [go_sem, wn]) <;> (repeat' with_reducible refine And.intro ?_ ?_) <;> (try (with_reducible refine hK _ ?_; clear hK K)))
| omega)
  · (refine zF rfl ?_ ?_ ?_ ?_; (iterate 3 (focus ((try simp (disch := omega) only [go_sem, wn]) <;> (try omega) <;> fail))); (try simp (disch := omega) only [go_sem, wn, I, B, S, zj]))
    symm; rw [decide_eq_false_iff_not]; intro e; subst e; simp at hc
  have h3 := hc
  refine AWP.loopS (ι := Nat) (fun k => k ≤ a.length ∧ ∀ j, j < k → a.getD j default = b.getD j default) (fun k => a.length - k) [0, 1, 12] (fun k => [(13, I k)]) 0 ?_ (by simp (disch := omega) only [go_sem, wn, true_and]) ?_
  · exact ⟨by omega, by omega⟩
  intro k ⟨hk, hk2⟩
  simp only [go_sem]
  (repeat' first
| (with_reducible refine AR.f ?_)
| refine zb (by decide) ?_
| (with_reducible refine AWP.cond rfl ?_ ?_ <;> intro hc <;> (try simp only [hcs, beq_iff_eq, ge_iff_le, gt_iff_lt] at hc))
| ((first | ((first | (with_reducible first | refine zR ?_ | refine zQ (by decide +kernel) ?_ | refine zD (by decide +kernel) ?_ | refine zE (by decide +kernel) ?_ | refine zG (by decide +kernel) ?_)); intro K hK) | ((first | (with_reducible refine zu ?_ ?_ <;> intro hg) | with_reducible intro hg) <;> (first | (exfalso; simp at hg; done) | (have hg' := hg; (try simp only [hcs, beq_iff_eq, ge_iff_le, gt_iff_lt] at hg'); (try simp only [hg]))))) <;> (try simp (disch := omega) only [go_sem, wn, ATxn.rgetD]) <;> (repeat' with_reducible refine And.intro ?_ ?_) <;> (try (with_reducible refine hK _ ?_; clear hK K)))
| omega)
  · (refine zF rfl ?_ ?_ ?_ ?_; (iterate 3 (focus ((try simp (disch := omega) only [go_sem, wn]) <;> (try omega) <;> fail))); (try simp (disch := omega) only [go_sem, wn, I, B, S, zj]))
    symm; rw [decide_eq_false_iff_not]; intro e; subst e; simp at hc
  · refine ⟨k + 1, ⟨by omega, fun j hj => ?_⟩, by omega, ?_⟩
    · by_cases e : j = k
      · subst e; exact hc
      · exact hk2 j (by omega)
    (refine SImp.same ?_; simp (disch := omega) only [go_sem, wn, Int.natCast_add])
  · (refine zF rfl ?_ ?_ ?_ ?_; (iterate 3 (focus ((try simp (disch := omega) only [go_sem, wn]) <;> (try omega) <;> fail))); (try simp (disch := omega) only [go_sem, wn, I, B, S, zj]))
    symm; rw [decide_eq_true_eq]
    exact eq_of_getD (by omega) fun j hj => hk2 j (by omega)
def scanG (s : List UInt8) : Nat → Nat → List ATxn → List ATxn × Nat
  | 0, at_, l => (l, at_)
  | f + 1, at_, l => if (decT (s.drop at_)).2.2 ≠ 0 ∨ (0 < l.length ∧ (decT (s.drop at_)).1.zxid ≤ lastZ l) then (l, at_) else scanG s f (at_ + (decT (s.drop at_)).2.1.toNat) (l ++ [(decT (s.drop at_)).1])
def scanT (s : List UInt8) : List ATxn × Nat := scanG s (s.length + 1) 0 []
theorem decT_cases (s : List UInt8) : ((decT s).2.2 ≠ 0 ∧ (decT s).2.1 = 0) ∨ ((decT s).2.2 = 0 ∧ (decT s).2.1 = ((sN s + 7 : Nat) : Int) ∧ sN s + 7 ≤ s.length ∧ sN s ≤ 1024 ∧ goodT (decT s).1 = 0) := by
  by_cases h1 : noHead s
  · rw [decT_a h1]; left; simp
  by_cases h2 : noRoom s
  · rw [decT_b h1 h2]; left; simp
  by_cases h3 : noSum s
  · rw [decT_c h1 h2 h3]; left; simp
  by_cases h4 : bodyOk (sB s)
  case neg => rw [decT_d h1 h2 h3 h4]; left; simp
  by_cases h5 : goodT (bodyT (sB s)) = 0
  · rw [decT_f h1 h2 h3 h4 h5]; right
    unfold noRoom at h2
    exact ⟨rfl, rfl, by omega, by omega, h5⟩
  · rw [decT_e h1 h2 h3 h4 h5]; left; exact ⟨h5, rfl⟩
theorem scanG_stop {s : List UInt8} {f at_ : Nat} {l : List ATxn} (h : (decT (s.drop at_)).2.2 ≠ 0 ∨ (0 < l.length ∧ (decT (s.drop at_)).1.zxid ≤ lastZ l)) : scanG s f at_ l = (l, at_) := by
  cases f with
  | zero => rfl
  | succ f => rw [scanG, if_pos h]
theorem scanG_end {s : List UInt8} {f at_ : Nat} {l : List ATxn} (h : s.length ≤ at_) : scanG s f at_ l = (l, at_) :=
  scanG_stop (.inl (by rw [decT_a (.inl (by rw [List.length_drop]; omega))]; decide))
theorem scanG_next {s : List UInt8} {f at_ n : Nat} {l : List ATxn} (h1 : (decT (s.drop at_)).2.2 = 0) (h2 : ¬ (0 < l.length ∧ (decT (s.drop at_)).1.zxid ≤ lastZ l)) (hn : (decT (s.drop at_)).2.1 = (n : Int)) : scanG s (f + 1) at_ l = scanG s f (at_ + n) (l ++ [(decT (s.drop at_)).1]) := by
  rw [scanG, if_neg (by rintro (h | h); exact h h1; exact h2 h), hn]; rfl
theorem scan_c (s : List UInt8) (hs : s.length ≤ 1048576) : acall Tryz.prog [] 117 [S s] (ret (.tup [.d (.sl 7 ((scanT s).1.map ATxn.row)), I (scanT s).2])) := by
  refine zI Tryz.func117 rfl (by kernel_rfl) (by simp [Tryz.ntmps117]) ?_; simp only [Tryz.ntmps117, Tryz.results117, go_sem]
  (repeat' first
| (with_reducible refine AR.f ?_)
| refine zb (by decide) ?_
| (with_reducible refine AWP.cond rfl ?_ ?_ <;> intro hc <;> (try simp only [hcs, beq_iff_eq, ge_iff_le, gt_iff_lt] at hc))
| ((first | ((first | (with_reducible first | refine zR ?_ | refine zQ (by decide +kernel) ?_ | refine zD (by decide +kernel) ?_ | refine zE (by decide +kernel) ?_ | refine zG (by decide +kernel) ?_)); intro K hK) | ((first | (with_reducible refine zu ?_ ?_ <;> intro hg) | with_reducible intro hg) <;> (first | (exfalso; simp at hg; done) | (have hg' := hg; (try simp only [hcs, beq_iff_eq, ge_iff_le, gt_iff_lt] at hg'); (try simp only [hg]))))) <;> (try simp (disch := omega) only [go_sem, wn]) <;> (repeat' with_reducible refine And.intro ?_ ?_) <;> (try (with_reducible refine hK _ ?_; clear hK K)))
| omega)
  refine AWP.weaken (SImp.nilOwn 4 7 rfl) ?_
  simp only [go_sem]
  refine AWP.loopB (ι := Nat × Nat × List ATxn) (fun v => v.2.1 ≤ s.length ∧ s.length < v.2.1 + v.1 ∧ v.2.2.length ≤ v.2.1 ∧ scanG s v.1 v.2.1 v.2.2 = scanT s) (fun v => v.1) [0] (fun v => [(5, I v.2.1), (4, .osl 0 7 0 v.2.2.length)]) (fun v => [.rows 7 (v.2.2.map ATxn.row)]) (s.length + 1, 0, []) ?_ ?_ ?_
  · exact ⟨by simp, by simp, by simp, rfl⟩
  · simp only [go_sem]; (refine SImp.same ?_; simp (disch := omega) only [go_sem, wn, Int.natCast_add])
  intro ⟨f, k, l⟩ ⟨h1, h2, h3, h4⟩
  simp only at h1 h2 h3 h4
  simp only [go_sem]
  have ed : List.take (s.length - k) (List.drop k s) = List.drop k s := List.take_of_length_le (by rw [List.length_drop]; omega)
  (repeat' first
| (with_reducible refine AR.f ?_)
| refine zb (by decide) ?_
| (with_reducible refine AWP.cond rfl ?_ ?_ <;> intro hc <;> (try simp only [hcs, beq_iff_eq, ge_iff_le, gt_iff_lt] at hc))
| ((first | ((first | (with_reducible first | refine zR ?_ | refine zQ (by decide +kernel) ?_ | refine zD (by decide +kernel) ?_ | refine zE (by decide +kernel) ?_ | refine zG (by decide +kernel) ?_)); intro K hK) | ((first | refine zA (decode_c (s.drop k) (by rw [List.length_drop]; omega)) ?_ ?_ ?_ ?_ ?_ | refine zA (last_c l (by omega)) ?_ ?_ ?_ ?_ ?_); (focus exact rfl); (focus exact rfl); iterate 2 (focus ((try simp (disch := omega) only [go_sem, wn, ed, zl, ATxn.rsnoc]) <;> (try omega) <;> fail))) | ((first | refine zN (decode_c (s.drop k) (by rw [List.length_drop]; omega)) rfl ?_ ?_ | refine zX (decode_c (s.drop k) (by rw [List.length_drop]; omega)) rfl ?_ ?_ | refine zY (decode_c (s.drop k) (by rw [List.length_drop]; omega)) ?_ ?_ | refine zX (last_c l (by omega)) rfl ?_ ?_); (focus ((try simp (disch := omega) only [go_sem, wn, ed, zl, ATxn.rsnoc]) <;> (try omega) <;> fail))) | ((first | (with_reducible refine zu ?_ ?_ <;> intro hg) | with_reducible intro hg) <;> (first | (exfalso; simp at hg; done) | (have hg' := hg; (try simp only [hcs, beq_iff_eq, ge_iff_le, gt_iff_lt] at hg'); (try simp only [hg]))))) <;> (try simp (disch := omega) only [go_sem, wn, ed, zl, ATxn.rsnoc]) <;> (repeat' with_reducible refine And.intro ?_ ?_) <;> (try (with_reducible refine hK _ ?_; clear hK K)))
| omega)
  · rw [← h4, scanG_stop (hc.imp id fun h => ⟨by omega, h.2⟩)]; (refine zF rfl ?_ ?_ ?_ ?_; (iterate 3 (focus ((try simp (disch := omega) only [go_sem, wn]) <;> (try omega) <;> fail))); (try simp (disch := omega) only [go_sem, wn, I, B, S, zj]))
  · rcases decT_cases (s.drop k) with ⟨q, _⟩ | ⟨q1, q2, q3, q4, _⟩
    · exact absurd hc.1 q
    rw [List.length_drop] at q3
    have q5 := scanG_next (s := s) (f := f - 1) (at_ := k) (n := sN (s.drop k) + 7) (l := l) q1 (fun h => by omega) q2
    rw [show f - 1 + 1 = f from by omega] at q5
    refine ⟨(f - 1, k + (sN (s.drop k) + 7), l ++ [(decT (s.drop k)).1]), ⟨by simp only; omega, by simp only; omega, by simp; omega, q5.symm.trans h4⟩, by simp only; omega, ?_⟩
    (refine zV [3] rfl rfl rfl rfl ?_ ?_ <;> simp (disch := omega) only [go_sem, wn, Int.natCast_add, q2, List.length_append, ATxn.rsnoc] <;> (try rfl))
  · have hx : (decT (s.drop k)).2.2 ≠ 0 ∨ (0 < l.length ∧ (decT (s.drop k)).1.zxid ≤ lastZ l) := by
      by_cases e : (decT (s.drop k)).2.2 = 0
      · rcases hc with h | h
        · exact .inl h
        · rw [e] at hg; simp at hg; omega
      · exact .inl e
    rw [← h4, scanG_stop hx]; (refine zF rfl ?_ ?_ ?_ ?_; (iterate 3 (focus ((try simp (disch := omega) only [go_sem, wn]) <;> (try omega) <;> fail))); (try simp (disch := omega) only [go_sem, wn, I, B, S, zj]))
  · rcases decT_cases (s.drop k) with ⟨q, _⟩ | ⟨q1, q2, q3, q4, _⟩
    · exact absurd hc.1 q
    have hl0 : l.length = 0 := by rw [q1] at hg; simp at hg; rw [hg]; rfl
    rw [List.length_drop] at q3
    have q5 := scanG_next (s := s) (f := f - 1) (at_ := k) (n := sN (s.drop k) + 7) (l := l) q1 (fun h => by omega) q2
    rw [show f - 1 + 1 = f from by omega] at q5
    refine ⟨(f - 1, k + (sN (s.drop k) + 7), l ++ [(decT (s.drop k)).1]), ⟨by simp only; omega, by simp only; omega, by simp; omega, q5.symm.trans h4⟩, by simp only; omega, ?_⟩
    (refine zV [3] rfl rfl rfl rfl ?_ ?_ <;> simp (disch := omega) only [go_sem, wn, Int.natCast_add, q2, List.length_append, ATxn.rsnoc] <;> (try rfl))
  · rw [← h4, scanG_end (by omega)]; (refine zF rfl ?_ ?_ ?_ ?_; (iterate 3 (focus ((try simp (disch := omega) only [go_sem, wn]) <;> (try omega) <;> fail))); (try simp (disch := omega) only [go_sem, wn, I, B, S, zj]))
  all_goals trace_state
theorem scanT_none {s : List UInt8} (h : (decT s).2.2 ≠ 0) : scanT s = ([], 0) := scanG_stop (.inl h)
theorem scanT_some {s : List UInt8} {n : Nat} (h : (decT s).2.2 = 0) (hn : (decT s).2.1 = (n : Int)) : scanG s s.length n [(decT s).1] = scanT s := by
  have := scanG_next (s := s) (f := s.length) (at_ := 0) (n := n) (l := []) (by rw [List.drop_zero]; exact h) (by simp) (by rw [List.drop_zero]; exact hn)
  rw [List.drop_zero, Nat.zero_add, List.nil_append] at this
  exact this.symm
theorem ref_scan_c (s : List UInt8) (hs : s.length ≤ 1048576) : acall Tryz.prog [] 119 [S s] (ret (.tup [.d (.sl 7 ((scanT s).1.map ATxn.row)), I (scanT s).2])) := by
  refine zI Tryz.func119 rfl (by kernel_rfl) (by simp [Tryz.ntmps119]) ?_; simp only [Tryz.ntmps119, Tryz.results119, go_sem]
  (repeat' first
| (with_reducible refine AR.f ?_)
| refine zb (by decide) ?_
| (with_reducible refine AWP.cond rfl ?_ ?_ <;> intro hc <;> (try simp only [hcs, beq_iff_eq, ge_iff_le, gt_iff_lt] at hc))
| ((first | ((first | (with_reducible first | refine zR ?_ | refine zQ (by decide +kernel) ?_ | refine zD (by decide +kernel) ?_ | refine zE (by decide +kernel) ?_ | refine zG (by decide +kernel) ?_)); intro K hK) | ((first | refine zA (ref_decode_c s hs) ?_ ?_ ?_ ?_ ?_); (focus exact rfl); (focus exact rfl); iterate 2 (focus ((try simp (disch := omega) only [go_sem, wn]) <;> (try omega) <;> fail))) | ((first | refine zN (ref_decode_c s hs) rfl ?_ ?_ | refine zX (ref_decode_c s hs) rfl ?_ ?_ | refine zY (ref_decode_c s hs) ?_ ?_); (focus ((try simp (disch := omega) only [go_sem, wn]) <;> (try omega) <;> fail))) | ((first | (with_reducible refine zu ?_ ?_ <;> intro hg) | with_reducible intro hg) <;> (first | (exfalso; simp at hg; done) | (have hg' := hg; (try simp only [hcs, beq_iff_eq, ge_iff_le, gt_iff_lt] at hg'); (try simp only [hg]))))) <;> (try simp (disch := omega) only [go_sem, wn]) <;> (repeat' with_reducible refine And.intro ?_ ?_) <;> (try (with_reducible refine hK _ ?_; clear hK K)))
| omega)
  · rw [scanT_none hc]; (refine zF rfl ?_ ?_ ?_ ?_; (iterate 3 (focus ((try simp (disch := omega) only [go_sem, wn]) <;> (try omega) <;> fail))); (try simp (disch := omega) only [go_sem, wn, I, B, S, zj]))
  rcases decT_cases s with ⟨q, _⟩ | ⟨q1, q2, q3, q4, _⟩
  · exact absurd hc q
  refine AWP.loopB (ι := Nat × Nat × List ATxn × ATxn) (fun v => v.2.1 ≤ s.length ∧ s.length < v.2.1 + v.1 ∧ v.2.2.1.length ≤ v.2.1 ∧ 0 < v.2.2.1.length ∧ scanG s v.1 v.2.1 v.2.2.1 = scanT s) (fun v => v.1) [0, 4] (fun v => [(8, I v.2.1), (7, .osl 1 7 0 v.2.2.1.length)]) (fun v => [.cells [I v.2.2.2.zxid, I v.2.2.2.op, I v.2.2.2.session, S v.2.2.2.path, S v.2.2.2.data, I v.2.2.2.version, I v.2.2.2.owner], .rows 7 (v.2.2.1.map ATxn.row)]) (s.length, sN s + 7, [(decT s).1], (decT s).1) ?_ ?_ ?_
  · exact ⟨q3, by simp only; omega, by simp, by simp, scanT_some q1 q2⟩
  · simp only [go_sem, q2]; (refine SImp.same ?_; simp (disch := omega) only [go_sem, wn, Int.natCast_add])
  intro ⟨f, k, l, t⟩ ⟨h1, h2, h3, h5, h4⟩
  simp only at h1 h2 h3 h4 h5
  simp only [go_sem]
  have ed : List.take (s.length - k) (List.drop k s) = List.drop k s := List.take_of_length_le (by rw [List.length_drop]; omega)
  have el : ((l.length : Int) - 1).toNat = l.length - 1 := by omega
  have lz := (lastZ_pos h5).symm
  (repeat' first
| (with_reducible refine AR.f ?_)
| refine zb (by decide) ?_
| (with_reducible refine AWP.cond rfl ?_ ?_ <;> intro hc <;> (try simp only [hcs, beq_iff_eq, ge_iff_le, gt_iff_lt] at hc))
| ((first | ((first | (with_reducible first | refine zR ?_ | refine zQ (by decide +kernel) ?_ | refine zD (by decide +kernel) ?_ | refine zE (by decide +kernel) ?_ | refine zG (by decide +kernel) ?_)); intro K hK) | ((first | refine zA (ref_decode_c (s.drop k) (by rw [List.length_drop]; omega)) ?_ ?_ ?_ ?_ ?_); (focus exact rfl); (focus exact rfl); iterate 2 (focus ((try simp (disch := omega) only [go_sem, wn, ed, zl, ATxn.rsnoc, ATxn.rgetD, el, lz]) <;> (try omega) <;> fail))) | ((first | refine zN (ref_decode_c (s.drop k) (by rw [List.length_drop]; omega)) rfl ?_ ?_ | refine zX (ref_decode_c (s.drop k) (by rw [List.length_drop]; omega)) rfl ?_ ?_ | refine zY (ref_decode_c (s.drop k) (by rw [List.length_drop]; omega)) ?_ ?_); (focus ((try simp (disch := omega) only [go_sem, wn, ed, zl, ATxn.rsnoc, ATxn.rgetD, el, lz]) <;> (try omega) <;> fail))) | ((first | (with_reducible refine zu ?_ ?_ <;> intro hg) | with_reducible intro hg) <;> (first | (exfalso; simp at hg; done) | (have hg' := hg; (try simp only [hcs, beq_iff_eq, ge_iff_le, gt_iff_lt] at hg'); (try simp only [hg]))))) <;> (try simp (disch := omega) only [go_sem, wn, ed, zl, ATxn.rsnoc, ATxn.rgetD, el, lz]) <;> (repeat' with_reducible refine And.intro ?_ ?_) <;> (try (with_reducible refine hK _ ?_; clear hK K)))
| omega)
  · rw [← h4, scanG_stop (hc.imp id fun h => ⟨h5, h⟩)]; (refine zF rfl ?_ ?_ ?_ ?_; (iterate 3 (focus ((try simp (disch := omega) only [go_sem, wn]) <;> (try omega) <;> fail))); (try simp (disch := omega) only [go_sem, wn, I, B, S, zj]))
  · rcases decT_cases (s.drop k) with ⟨q, _⟩ | ⟨q1, q2, q3, q4, _⟩
    · exact absurd hc.1 q
    rw [List.length_drop] at q3
    have q5 := scanG_next (s := s) (f := f - 1) (at_ := k) (n := sN (s.drop k) + 7) (l := l) q1 (fun h => by omega) q2
    rw [show f - 1 + 1 = f from by omega] at q5
    refine ⟨(f - 1, k + (sN (s.drop k) + 7), l ++ [(decT (s.drop k)).1], (decT (s.drop k)).1), ⟨by simp only; omega, by simp only; omega, by simp; omega, by simp, q5.symm.trans h4⟩, by simp only; omega, ?_⟩
    (refine zV [0, 3] rfl rfl rfl rfl ?_ ?_ <;> simp (disch := omega) only [go_sem, wn, Int.natCast_add, q2, List.length_append, ATxn.rsnoc] <;> (try rfl))
def t1 : ATxn := ⟨1, 1, 1, [], [], 0, 0⟩
theorem scanG_len (s : List UInt8) : ∀ (f at_ : Nat) (l : List ATxn), (scanG s f at_ l).1.length ≤ l.length + f
  | 0, _, l => Nat.le_refl _
  | f + 1, at_, l => by
    rw [scanG]
    split
    · simp
    · have := scanG_len s f (at_ + (decT (s.drop at_)).2.1.toNat) (l ++ [(decT (s.drop at_)).1])
      rw [List.length_append, List.length_singleton] at this
      omega
theorem scanT_len (s : List UInt8) : (scanT s).1.length ≤ s.length + 1 := by
  have := scanG_len s (s.length + 1) 0 []
  simpa [scanT] using this
end Go.Proofs.YtainmipdnjcbkaaGreatDoor
namespace Go.Proofs.YtainmipdnjcbkaaGreatDoor
set_option linter.unusedVariables false
set_option linter.unusedSimpArgs false
open Go Go.RowKit
set_option maxRecDepth 100000
set_option linter.unusedSimpArgs false
theorem halfw (i j : Nat) (h : i + j < 9223372036854775808) : IntKind.i64.wrap (IntKind.u64.wrap ((i : Int) + j) / 2) = (((i + j) / 2 : Nat) : Int) := by
  have e : IntKind.u64.wrap ((i : Int) + j) = ((i + j : Nat) : Int) := by simp [IntKind.wrap, IntKind.bits, IntKind.signed]; omega
  rw [e]
  have e2 : (((i + j : Nat) : Int) / 2) = (((i + j) / 2 : Nat) : Int) := by omega
  rw [e2]; simp [IntKind.wrap, IntKind.bits, IntKind.signed]; omega
theorem diskCmp_c (f : AFile) (n : List UInt8) : acall Tryz.prog [] 190 [f.av, S n] (ret (I (cmpB f.name n))) := by
  refine zI Tryz.func190 rfl (by kernel_rfl) (by simp [Tryz.ntmps190]) ?_; simp only [Tryz.ntmps190, Tryz.results190, go_sem]
  (repeat' first
| (with_reducible refine AR.f ?_)
| refine zb (by decide) ?_
| (with_reducible refine AWP.cond rfl ?_ ?_ <;> intro hc <;> (try simp only [hcs, beq_iff_eq, ge_iff_le, gt_iff_lt] at hc))
| ((first | ((first | (with_reducible first | refine zR ?_ | refine zQ (by decide +kernel) ?_ | refine zD (by decide +kernel) ?_ | refine zE (by decide +kernel) ?_ | refine zG (by decide +kernel) ?_)); intro K hK) | ((first | refine acallH_sc (compare_c _ _) rfl rfl ?_ ?_ ?_ | refine acallQ_sc (compare_c _ _) rfl rfl ?_ ?_ ?_); iterate 2 (focus ((try simp (disch := omega) only [go_sem, wn]) <;> (try omega) <;> fail))) | ((first | refine zX (compare_c _ _) rfl ?_ ?_); (focus ((try simp (disch := omega) only [go_sem, wn]) <;> (try omega) <;> fail))) | ((first | (with_reducible refine zu ?_ ?_ <;> intro hg) | with_reducible intro hg) <;> (first | (exfalso; simp at hg; done) | (have hg' := hg; (try simp only [hcs, beq_iff_eq, ge_iff_le, gt_iff_lt] at hg'); (try simp only [hg]))))) <;> (try simp (disch := omega) only [go_sem, wn]) <;> (repeat' with_reducible refine And.intro ?_ ?_) <;> (try (with_reducible refine hK _ ?_; clear hK K)))
| omega)
  (refine zF rfl ?_ ?_ ?_ ?_; (iterate 3 (focus ((try simp (disch := omega) only [go_sem, wn, cmpB]) <;> (try omega) <;> fail))); (try simp (disch := omega) only [go_sem, wn, cmpB, I, B, S, zj]))
theorem bsFile_c (l : List AFile) (key : List UInt8) (h : l.length * 48 ≤ 140737488351232) (hr : Rises (l.map AFile.name)) :
    acall Tryz.prog [] 189 [.d (.sl 3 (l.map AFile.row)), S key, .d (.sc (.func (.func 190) #[] #[]))]
      (ret (.tup [I (place (l.map AFile.name) key), B (decide (key ∈ l.map AFile.name))])) := by
  have hn : ∀ k, (l.map AFile.name).getD k [] = (l.getD k default).name := fun k => getD_map AFile.name l k default
  refine zI Tryz.func189 rfl (by kernel_rfl) (by simp [Tryz.ntmps189]) ?_; simp only [Tryz.ntmps189, Tryz.results189, go_sem]
  (repeat' first
| (with_reducible refine AR.f ?_)
| refine zb (by decide) ?_
| (with_reducible refine AWP.cond rfl ?_ ?_ <;> intro hc <;> (try simp only [hcs, beq_iff_eq, ge_iff_le, gt_iff_lt] at hc))
| ((first | ((first | (with_reducible first | refine zR ?_ | refine zQ (by decide +kernel) ?_ | refine zD (by decide +kernel) ?_ | refine zE (by decide +kernel) ?_ | refine zG (by decide +kernel) ?_)); intro K hK) | ((first | (with_reducible refine zu ?_ ?_ <;> intro hg) | with_reducible intro hg) <;> (first | (exfalso; simp at hg; done) | (have hg' := hg; (try simp only [hcs, beq_iff_eq, ge_iff_le, gt_iff_lt] at hg'); (try simp only [hg]))))) <;> (try simp (disch := omega) only [go_sem, wn]) <;> (repeat' with_reducible refine And.intro ?_ ?_) <;> (try (with_reducible refine hK _ ?_; clear hK K)))
| omega)
  refine AWP.loopS (ι := Nat × Nat) (fun v => v.1 ≤ v.2 ∧ v.2 ≤ l.length ∧ (∀ k, k < v.1 → (l.map AFile.name).getD k [] < key) ∧ (v.2 < l.length → ¬ (l.map AFile.name).getD v.2 [] < key)) (fun v => v.2 - v.1) [0, 1, 2, 8] (fun v => [(9, I v.1), (10, I v.2)]) (0, l.length) ?_ (by simp (disch := omega) only [go_sem, wn, true_and]) ?_
  · exact ⟨by simp, by simp, fun k hk => by simp at hk, fun k => by simp at k⟩
  intro ⟨i, j⟩ ⟨h1, h2, h3, h4⟩
  simp only at h1 h2 h3 h4
  simp only [go_sem]
  (repeat' first
| (with_reducible refine AR.f ?_)
| refine zb (by decide) ?_
| (with_reducible refine AWP.cond rfl ?_ ?_ <;> intro hc <;> (try simp only [hcs, beq_iff_eq, ge_iff_le, gt_iff_lt] at hc))
| ((first | ((first | (with_reducible first | refine zR ?_ | refine zQ (by decide +kernel) ?_ | refine zD (by decide +kernel) ?_ | refine zE (by decide +kernel) ?_ | refine zG (by decide +kernel) ?_)); intro K hK) | ((first | refine acallH_sc (diskCmp_c _ _) rfl rfl ?_ ?_ ?_ | refine acallQ_sc (diskCmp_c _ _) rfl rfl ?_ ?_ ?_); iterate 2 (focus ((try simp (disch := omega) only [go_sem, wn, halfw]) <;> (try omega) <;> fail))) | ((first | refine zX (diskCmp_c _ _) rfl ?_ ?_); (focus ((try simp (disch := omega) only [go_sem, wn, halfw]) <;> (try omega) <;> fail))) | ((first | (with_reducible refine zu ?_ ?_ <;> intro hg) | with_reducible intro hg) <;> (first | (exfalso; simp at hg; done) | (have hg' := hg; (try simp only [hcs, beq_iff_eq, ge_iff_le, gt_iff_lt] at hg'); (try simp only [hg]))))) <;> (try simp (disch := omega) only [go_sem, wn, halfw]) <;> (repeat' with_reducible refine And.intro ?_ ?_) <;> (try (with_reducible refine hK _ ?_; clear hK K)))
| omega)
  · rw [cmpB_neg] at hc
    refine ⟨((i + j) / 2 + 1, j), ⟨by simp only; omega, h2, fun k hk => ?_, h4⟩, by simp only; omega, ?_⟩
    · by_cases e : k = (i + j) / 2
      · rw [e, hn]; exact hc
      · refine List.lt_trans (rises_lt (j := (i + j) / 2) hr (by simp only at hk; omega) (by simp; omega)) ?_
        rw [hn]; exact hc
    (refine SImp.same ?_; simp (disch := omega) only [go_sem, wn, Int.natCast_add])
  · have hc2 : ¬ cmpB (l.getD ((i + j) / 2) default).name key < 0 := by omega
    rw [cmpB_neg, ← hn] at hc2
    refine ⟨(i, (i + j) / 2), ⟨by simp only; omega, by simp only; omega, h3, fun _ => hc2⟩, by simp only; omega, ?_⟩
    (refine SImp.same ?_; simp (disch := omega) only [go_sem, wn, Int.natCast_add])
  · have e0 : i = j := by omega
    subst e0
    have e1 : place (l.map AFile.name) key = i := place_eq (by simp; omega) h3 (fun h => h4 (by simpa using h))
    have e2 : key ∈ l.map AFile.name ↔ i < (l.map AFile.name).length ∧ (l.map AFile.name).getD i [] = key := found_iff hr h3 (fun h => h4 (by simpa using h))
    (refine zF rfl ?_ ?_ ?_ ?_; (iterate 3 (focus ((try simp (disch := omega) only [go_sem, wn, e1]) <;> (try omega) <;> fail))); (try simp (disch := omega) only [go_sem, wn, e1, I, B, S, zj]))
    simp only [cmpB_eq, e2, hn, List.length_map]
    simp at hg; simp [hg]
  · have e0 : i = j := by omega
    subst e0
    have e1 : place (l.map AFile.name) key = i := place_eq (by simp; omega) h3 (fun h => h4 (by simpa using h))
    have e2 : key ∈ l.map AFile.name ↔ i < (l.map AFile.name).length ∧ (l.map AFile.name).getD i [] = key := found_iff hr h3 (fun h => h4 (by simpa using h))
    (refine zF rfl ?_ ?_ ?_ ?_; (iterate 3 (focus ((try simp (disch := omega) only [go_sem, wn, e1]) <;> (try omega) <;> fail))); (try simp (disch := omega) only [go_sem, wn, e1, I, B, S, zj]))
    simp only [e2, List.length_map]
    simp at hg; simp; omega
end Go.Proofs.YtainmipdnjcbkaaGreatDoor
namespace Go.Proofs.YtainmipdnjcbkaaGreatDoor
set_option linter.unusedVariables false
set_option linter.unusedSimpArgs false
open Go Go.RowKit
set_option maxRecDepth 100000
set_option linter.unusedSimpArgs false
theorem arith1 (i : Nat) : ((i : Int) + 1).toNat = i + 1 := by omega
theorem arith2 (i n : Nat) (h : i ≤ n) : ((n : Int) - i).toNat = n - i := by omega
theorem arith3 (i n : Nat) (h : i ≤ n + 1) : ((n : Int) + 1 - i).toNat = n + 1 - i := by omega
theorem arith4 (i n : Nat) (h : i ≤ n + 1) : ((n : Int) + 1 - i) = ((n + 1 - i : Nat) : Int) := by omega
theorem erase_eq {α : Type} (R : List α) (i : Nat) : R.eraseIdx i = R.take i ++ R.drop (i + 1) := List.eraseIdx_eq_take_drop_succ R i
theorem del_rows {α : Type} {R junk X z t : List α} {i q m : Nat} (h : i < R.length) (hq : q = R.length - 1) (hm : m = R.length - (i + 1)) :
    List.take q (List.take q (List.take i (R ++ junk) ++ List.take m (List.drop (i + 1) (R ++ junk)) ++ X) ++ z ++ t) = R.eraseIdx i := by
  have e1 : List.take i (R ++ junk) = R.take i := List.take_append_of_le_length (by omega)
  have e2 : List.take m (List.drop (i + 1) (R ++ junk)) = R.drop (i + 1) := by
    rw [List.drop_append_of_le_length (by omega), hm]
    have : R.length - (i + 1) = (R.drop (i + 1)).length := by simp
    rw [this, List.take_append_of_le_length (Nat.le_refl _), List.take_length]
  have e3 : (R.take i ++ R.drop (i + 1)).length = q := by simp; omega
  rw [e1, e2, erase_eq]
  have e4 : List.take q (R.take i ++ R.drop (i + 1) ++ X) = R.take i ++ R.drop (i + 1) := by
    rw [← e3, List.take_append_of_le_length (Nat.le_refl _), List.take_length]
  rw [e4, List.append_assoc, ← e3, List.take_append_of_le_length (Nat.le_refl _), List.take_length]
theorem del_last {α : Type} {R junk X z t : List α} {i q : Nat} (h : i + 1 = R.length) (hq : q = i) :
    List.take q (List.take q (List.take i (R ++ junk) ++ X) ++ z ++ t) = R.eraseIdx i := by
  subst hq
  have e1 : List.take q (R ++ junk) = R.take q := List.take_append_of_le_length (by omega)
  have e3 : (R.take q).length = q := by simp; omega
  have e2 : R.drop (q + 1) = [] := List.drop_eq_nil_of_le (by omega)
  have e4 : List.take q (R.take q ++ X) = R.take q := by
    have := List.take_append_of_le_length (l₁ := R.take q) (l₂ := X) (i := q) (by omega)
    rw [this, List.take_of_length_le (by omega)]
  rw [e1, e4, erase_eq, e2, List.append_nil, List.append_assoc]
  have := List.take_append_of_le_length (l₁ := R.take q) (l₂ := z ++ t) (i := q) (by omega)
  rw [this, List.take_of_length_le (by omega)]
theorem ins_eq {α : Type} (R : List α) (i : Nat) (x : α) (h : i ≤ R.length) : R.insertIdx i x = R.take i ++ x :: R.drop i := by
  induction R generalizing i with
  | nil => have : i = 0 := by simpa using h
           subst this; rfl
  | cons a R ih =>
    cases i with
    | zero => rfl
    | succ i => simp only [List.insertIdx_succ_cons, List.take_succ_cons, List.drop_succ_cons, List.cons_append]; rw [ih i (by simpa using h)]
theorem zr {α β : Type} (f : α → β) (l : List α) (i : Nat) : (l.map f).eraseIdx i = (l.eraseIdx i).map f := by rw [erase_eq, erase_eq, List.map_append, List.map_take, List.map_drop]
theorem erase_len {α : Type} (l : List α) (i : Nat) (h : i < l.length) : (l.eraseIdx i).length = l.length - 1 := List.length_eraseIdx_of_lt h
theorem take_map_erase {α β : Type} (f : α → β) (l : List α) (i : Nat) (h : i < l.length) : ((l.eraseIdx i).map f).take (l.length - 1) = (l.eraseIdx i).map f := List.take_of_length_le (by rw [List.length_map, erase_len _ _ h]; omega)
theorem getD_ins {α : Type} (l : List α) (i : Nat) (x z : α) (h : i ≤ l.length) : (l.insertIdx i x).getD i z = x := by
  rw [ins_eq _ _ _ h, List.getD_eq_getElem?_getD, List.getElem?_append_right (by rw [List.length_take]; omega)]
  have : i - (l.take i).length = 0 := by rw [List.length_take]; omega
  rw [this]; rfl
theorem getD_insmap {α β : Type} (f : α → β) (l : List α) (i : Nat) (x : α) (z : β) (h : i ≤ l.length) : ((l.insertIdx i x).map f).getD i z = f x := by
  rw [← ins_map]; exact getD_ins _ _ _ _ (by simpa using h)
theorem set_ins {α : Type} (l : List α) (i : Nat) (x y : α) (h : i ≤ l.length) : (l.insertIdx i x).set i y = l.insertIdx i y := by
  rw [ins_eq _ _ _ h, ins_eq _ _ _ h]
  have e : (l.take i).length = i := by simp; omega
  rw [List.set_append_right _ _ (by omega), e, Nat.sub_self]; rfl
theorem ins_len {α : Type} (l : List α) (i : Nat) (x : α) (h : i ≤ l.length) : (l.insertIdx i x).length = l.length + 1 := by rw [ins_eq _ _ _ h]; simp; omega
theorem take_map_ins {α β : Type} (f : α → β) (l : List α) (i : Nat) (x : α) (h : i ≤ l.length) : ((l.insertIdx i x).map f).take (l.length + 1) = (l.insertIdx i x).map f := List.take_of_length_le (by rw [List.length_map, ins_len _ _ _ h]; omega)
theorem ins_get_lt {α : Type} (l : List α) (i k : Nat) (x z : α) (h : i ≤ l.length) (hk : k < i) : (l.insertIdx i x).getD k z = l.getD k z := by
  rw [ins_eq _ _ _ h, List.getD_eq_getElem?_getD, List.getElem?_append_left (by rw [List.length_take]; omega), List.getElem?_take_of_lt hk, List.getD_eq_getElem?_getD]
theorem ins_swap {α : Type} (l : List α) (k : Nat) (x z : α) (h : k ≤ l.length) (h0 : 0 < k) : ((l.insertIdx k x).set (k - 1) x).set k (l.getD (k - 1) z) = l.insertIdx (k - 1) x := by
  rw [ins_eq _ _ _ h, ins_eq _ _ _ (Nat.le_trans (Nat.sub_le _ _) h)]
  have e1 : l.take k = l.take (k - 1) ++ [l.getD (k - 1) z] := by
    have : k = (k - 1) + 1 := by omega
    conv => lhs; rw [this]
    rw [List.take_add_one, List.getElem?_eq_getElem (by omega), List.getD_eq_getElem?_getD, List.getElem?_eq_getElem (by omega)]; rfl
  have e2 : l.drop (k - 1) = l.getD (k - 1) z :: l.drop k := by
    rw [List.drop_eq_getElem_cons (by omega), List.getD_eq_getElem?_getD, List.getElem?_eq_getElem (by omega), show k - 1 + 1 = k from by omega]; rfl
  have e3 : (l.take (k - 1)).length = k - 1 := by rw [List.length_take]; omega
  rw [e1, e2]
  generalize l.getD (k - 1) z = y
  generalize hA : l.take (k - 1) = A at *
  generalize l.drop k = B
  have hk : k = A.length + 1 := by omega
  subst hk
  rw [Nat.add_sub_cancel]
  simp [List.set_append_right]
theorem ins_end {α : Type} (l : List α) (x : α) : l.insertIdx l.length x = l ++ [x] := by rw [ins_eq _ _ _ (Nat.le_refl _), List.take_length, List.drop_length]
theorem take_exact {α : Type} {A B : List α} {n : Nat} (h : n = A.length) : (A ++ B).take n = A := by subst h; simp
theorem drop_exact {α : Type} {A B : List α} {n : Nat} (h : n = A.length) : (A ++ B).drop n = B := by subst h; simp
theorem mid_rows {α : Type} {R J : List α} {i a b : Nat} (h : i ≤ R.length) (ha : a = R.length - i) (hb : R.length - i ≤ b) : List.take a (List.take b (List.drop i (R ++ J))) = R.drop i := by
  rw [List.take_take, Nat.min_eq_left (by omega), List.drop_append_of_le_length h]
  exact take_exact (by simp; omega)
theorem ins_in {α : Type} {R J X : List α} {r : α} {i a b c d : Nat} (h : i < R.length) (ha : a = R.length - i) (hb : R.length - i ≤ b) (hc : 1 ≤ c) (hd : d = 1) :
    List.take (R.length + 1) (List.take i (List.take (i + 1) (R ++ J) ++ List.take a (List.take b (List.drop i (R ++ J))) ++ X) ++ List.take c [r] ++ List.drop (i + d) (List.take (i + 1) (R ++ J) ++ List.take a (List.take b (List.drop i (R ++ J))) ++ X)) = R.insertIdx i r := by
  subst hd
  have e1 : List.take (i + 1) (R ++ J) = R.take (i + 1) := List.take_append_of_le_length (by omega)
  have e2 : (R.take (i + 1)).length = i + 1 := by simp; omega
  have e3 : List.take c [r] = [r] := List.take_of_length_le (by simpa using hc)
  rw [mid_rows (by omega) ha hb, e1, e3, List.append_assoc (List.take (i + 1) R), drop_exact (n := i + 1) e2.symm, ins_eq _ _ _ (by omega)]
  have e4 : List.take i (List.take (i + 1) R ++ (List.drop i R ++ X)) = R.take i := by
    rw [List.take_append_of_le_length (by rw [e2]; omega), List.take_take, Nat.min_eq_left (by omega)]
  rw [e4]
  have : List.take i R ++ [r] ++ (List.drop i R ++ X) = (List.take i R ++ r :: List.drop i R) ++ X := by simp
  rw [this]
  exact take_exact (by simp; omega)
theorem ins_grow {α : Type} {R J : List α} {r z : α} {i m c d e f g : Nat} (h : i < R.length) (hm : m = R.length + 1 - i) (hc : 1 ≤ c) (hd : d = 1) (he : e = R.length - i) (hf : R.length - i ≤ f) (hg : g = R.length + 1) :
    List.take (i + 1) (List.take i (List.take i (R ++ J) ++ List.replicate m z) ++ List.take c [r] ++ List.drop (i + d) (List.take i (R ++ J) ++ List.replicate m z)) ++ List.take e (List.take f (List.drop i (R ++ J))) ++
      List.drop g (List.take i (List.take i (R ++ J) ++ List.replicate m z) ++ List.take c [r] ++ List.drop (i + d) (List.take i (R ++ J) ++ List.replicate m z)) = R.insertIdx i r := by
  subst hd; subst hm; subst hg
  have e1 : List.take i (R ++ J) = R.take i := List.take_append_of_le_length (by omega)
  have e2 : (R.take i).length = i := by simp; omega
  have e3 : List.take c [r] = [r] := List.take_of_length_le (by simpa using hc)
  rw [mid_rows (by omega) he hf, e1, e3, take_exact (n := i) e2.symm, ins_eq _ _ _ (by omega)]
  have e4 : (List.take i R ++ [r]).length = i + 1 := by simp; omega
  have e5 : List.drop (R.length + 1) (List.take i R ++ [r] ++ List.drop (i + 1) (List.take i R ++ List.replicate (R.length + 1 - i) z)) = [] := List.drop_eq_nil_of_le (by simp; omega)
  rw [e5, take_exact e4.symm, List.append_nil, List.append_assoc]; rfl
theorem delFile_c (rs : List (List DV)) (i : Nat) (hi : i < rs.length) (hb : rs.length * 48 ≤ 140737488351232) : acall Tryz.prog [.rows 3 rs] 125 [.osl 0 3 0 rs.length, I i, I ((i : Int) + 1)] (outs (.osl 1 3 0 (rs.length - 1)) [.dead, .rows 3 (rs.eraseIdx i)]) := by
  refine zI Tryz.func125 rfl (by kernel_rfl) (by simp [Tryz.ntmps125]) ?_; simp only [Tryz.ntmps125, Tryz.results125, go_sem]
  refine AWP.reveal 0 (k := 0) (sz := 3) (off := 0) (n := rs.length) rfl (by omega) rfl (by decide) fun junk hj hjl => ?_
  simp only [go_sem, Nat.zero_add] at hjl ⊢
  by_cases hN : i + 1 < rs.length + junk.length
  · (repeat' first
  | (with_reducible refine AR.f ?_)
  | refine zb (by decide) ?_
  | (with_reducible refine AWP.cond rfl ?_ ?_ <;> intro hc <;> (try simp only [hcs, beq_iff_eq, ge_iff_le, gt_iff_lt] at hc))
  | ((first | ((first | (with_reducible first | refine zR ?_ | refine zQ (by decide +kernel) ?_ | refine zD (by decide +kernel) ?_ | refine zE (by decide +kernel) ?_ | refine zG (by decide +kernel) ?_)); intro K hK) | ((first | (with_reducible refine zu ?_ ?_ <;> intro hg) | with_reducible intro hg) <;> (first | (exfalso; simp at hg; done) | (have hg' := hg; (try simp only [hcs, beq_iff_eq, ge_iff_le, gt_iff_lt] at hg'); (try simp only [hg]))))) <;> (try simp (disch := omega) only [go_sem, wn, if_pos, if_neg, arith1, arith2, List.length_take, List.length_drop, Nat.min_eq_left]) <;> (repeat' with_reducible refine And.intro ?_ ?_) <;> (try (with_reducible refine hK _ ?_; clear hK K)))
  | omega)
    refine aend_out (by first | exact .inl rfl | exact .inr rfl) (by simp (disch := omega) only [go_sem]) ?_
    simp (disch := omega) only [go_sem]
    rw [show i + (rs.length - (i + 1)) = rs.length - 1 from by omega]
    refine AOut.moved rfl (AOut.done rfl ?_)
    rw [del_rows hi rfl rfl]; rfl
  · (repeat' first
  | (with_reducible refine AR.f ?_)
  | refine zb (by decide) ?_
  | (with_reducible refine AWP.cond rfl ?_ ?_ <;> intro hc <;> (try simp only [hcs, beq_iff_eq, ge_iff_le, gt_iff_lt] at hc))
  | ((first | ((first | (with_reducible first | refine zR ?_ | refine zQ (by decide +kernel) ?_ | refine zD (by decide +kernel) ?_ | refine zE (by decide +kernel) ?_ | refine zG (by decide +kernel) ?_)); intro K hK) | ((first | (with_reducible refine zu ?_ ?_ <;> intro hg) | with_reducible intro hg) <;> (first | (exfalso; simp at hg; done) | (have hg' := hg; (try simp only [hcs, beq_iff_eq, ge_iff_le, gt_iff_lt] at hg'); (try simp only [hg]))))) <;> (try simp (disch := omega) only [go_sem, wn, if_pos, if_neg, arith1, arith2, List.length_take, List.length_drop, Nat.min_eq_left]) <;> (repeat' with_reducible refine And.intro ?_ ?_) <;> (try (with_reducible refine hK _ ?_; clear hK K)))
  | omega)
    refine aend_out (by first | exact .inl rfl | exact .inr rfl) (by simp (disch := omega) only [go_sem]) ?_
    simp (disch := omega) only [go_sem]
    rw [show i + 0 = rs.length - 1 from by omega]
    refine AOut.moved rfl (AOut.done rfl ?_)
    rw [del_last (by omega) (by omega)]; rfl
set_option maxHeartbeats 1000000 in
theorem insFile_c (rs : List (List DV)) (r : List DV) (i : Nat) (hi : i ≤ rs.length) (hb : (rs.length + 1) * 48 ≤ 140737488351232) :
    acall Tryz.prog [.rows 3 rs, .rows 3 [r]] 126 [.osl 0 3 0 rs.length, I i, .osl 1 3 0 1] (outs (.osl 2 3 0 (rs.length + 1)) [.dead, .dead, .rows 3 (rs.insertIdx i r)]) := by
  refine zI Tryz.func126 rfl (by kernel_rfl) (by simp [Tryz.ntmps126]) ?_; simp only [Tryz.ntmps126, Tryz.results126, go_sem]
  by_cases hin : i = rs.length
  · subst hin
    (repeat' first
  | (with_reducible refine AR.f ?_)
  | refine zb (by decide) ?_
  | (with_reducible refine AWP.cond rfl ?_ ?_ <;> intro hc <;> (try simp only [hcs, beq_iff_eq, ge_iff_le, gt_iff_lt] at hc))
  | ((first | ((first | (with_reducible first | refine zR ?_ | refine zQ (by decide +kernel) ?_ | refine zD (by decide +kernel) ?_ | refine zE (by decide +kernel) ?_ | refine zG (by decide +kernel) ?_)); intro K hK) | ((first | (with_reducible refine zu ?_ ?_ <;> intro hg) | with_reducible intro hg) <;> (first | (exfalso; simp at hg; done) | (have hg' := hg; (try simp only [hcs, beq_iff_eq, ge_iff_le, gt_iff_lt] at hg'); (try simp only [hg]))))) <;> (try simp (disch := omega) only [go_sem, wn, if_pos, if_neg, arith1, arith2]) <;> (repeat' with_reducible refine And.intro ?_ ?_) <;> (try (with_reducible refine hK _ ?_; clear hK K)))
  | omega)
    refine aend_out (by first | exact .inl rfl | exact .inr rfl) (by simp (disch := omega) only [go_sem]) ?_
    simp (disch := omega) only [go_sem]
    refine AOut.framed [0, 1, 2] rfl (by simp) (by decide) (by intro k hk; match k, hk with | 0, _ => rfl | 1, _ => rfl) ⟨rfl, by simp [inV]⟩ ?_ (AOut.done (hp := [.dead, .dead, .rows 3 (List.take rs.length rs ++ [r])]) rfl ?_)
    · simp only [go_sem]
    · rw [ins_eq _ _ _ (Nat.le_refl _), List.drop_length]
  refine AWP.reveal 0 (k := 0) (sz := 3) (off := 0) (n := rs.length) rfl (by omega) rfl (by decide) fun junk hj hjl => ?_
  simp only [go_sem, Nat.zero_add] at hjl ⊢
  by_cases hN : rs.length + 1 ≤ rs.length + junk.length
  · (repeat' first
  | (with_reducible refine AR.f ?_)
  | refine zb (by decide) ?_
  | (with_reducible refine AWP.cond rfl ?_ ?_ <;> intro hc <;> (try simp only [hcs, beq_iff_eq, ge_iff_le, gt_iff_lt] at hc))
  | ((first | ((first | (with_reducible first | refine zR ?_ | refine zQ (by decide +kernel) ?_ | refine zD (by decide +kernel) ?_ | refine zE (by decide +kernel) ?_ | refine zG (by decide +kernel) ?_)); intro K hK) | refine acallHK_ext (ext_overlaps Tryz.func192 (by kernel_rfl) (by kernel_rfl) (by kernel_rfl) (tS := 22) (tR := 4) (e := 114) (by kernel_rfl) tabOk (by simp only [T_22, ty22]) (by simp [T_114, ty114]) (k := 1) (k' := 0) rfl (.inl ⟨rfl, rfl⟩) rfl (.inr ⟨rfl, rfl⟩) (by decide) (by omega) (by omega) (by decide)) ?_ | ((first | (with_reducible refine zu ?_ ?_ <;> intro hg) | with_reducible intro hg) <;> (first | (exfalso; simp at hg; done) | (have hg' := hg; (try simp only [hcs, beq_iff_eq, ge_iff_le, gt_iff_lt] at hg'); (try simp only [hg]))))) <;> (try simp (disch := omega) only [go_sem, wn, if_pos, if_neg, arith1, arith2, List.length_take, List.length_drop, Nat.min_eq_left]) <;> (repeat' with_reducible refine And.intro ?_ ?_) <;> (try (with_reducible refine hK _ ?_; clear hK K)))
  | omega)
    refine aend_out (by first | exact .inl rfl | exact .inr rfl) (by simp (disch := omega) only [go_sem]) ?_
    simp (disch := omega) only [go_sem]
    refine AOut.moved rfl ?_
    refine AOut.framed [0, 1, 2] rfl (by simp) (by decide) (by intro k hk; match k, hk with | 0, _ => rfl | 1, _ => rfl) ⟨rfl, by simp [inV]⟩ ?_ (AOut.done (hp := [.dead, .dead, .rows 3 (rs.insertIdx i r)]) rfl rfl)
    rw [ins_in (by omega) (by omega) (by omega) (by omega) (by omega)]
    simp only [go_sem]
  · (repeat' first
  | (with_reducible refine AR.f ?_)
  | refine zb (by decide) ?_
  | (with_reducible refine AWP.cond rfl ?_ ?_ <;> intro hc <;> (try simp only [hcs, beq_iff_eq, ge_iff_le, gt_iff_lt] at hc))
  | ((first | ((first | (with_reducible first | refine zR ?_ | refine zQ (by decide +kernel) ?_ | refine zD (by decide +kernel) ?_ | refine zE (by decide +kernel) ?_ | refine zG (by decide +kernel) ?_)); intro K hK) | ((first | (with_reducible refine zu ?_ ?_ <;> intro hg) | with_reducible intro hg) <;> (first | (exfalso; simp at hg; done) | (have hg' := hg; (try simp only [hcs, beq_iff_eq, ge_iff_le, gt_iff_lt] at hg'); (try simp only [hg]))))) <;> (try simp (disch := omega) only [go_sem, wn, if_pos, if_neg, arith1, arith2, arith3, arith4, List.length_take, List.length_drop, Nat.min_eq_left]) <;> (repeat' with_reducible refine And.intro ?_ ?_) <;> (try (with_reducible refine hK _ ?_; clear hK K)))
  | omega)
    refine aend_out (by first | exact .inl rfl | exact .inr rfl) (by simp (disch := omega) only [go_sem]) ?_
    simp (disch := omega) only [go_sem]
    rw [ins_grow (by omega) rfl (by omega) (by omega) (by omega) (by omega) (by omega), show i + (rs.length + 1 - i) = rs.length + 1 from by omega]
    refine AOut.framed [0, 1, 2] rfl (by simp) (by decide) (by intro k hk; match k, hk with | 0, _ => rfl | 1, _ => rfl) ⟨rfl, by simp [inV]⟩ ?_ (AOut.done (hp := [.dead, .dead, .rows 3 (rs.insertIdx i r)]) rfl rfl)
    simp only [go_sem]
end Go.Proofs.YtainmipdnjcbkaaGreatDoor
