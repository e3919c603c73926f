/- A part of what SnapReads leans on: texts of this claim, one behind the other. No condition. -/
import Derived.Test.YtmpfhalheaeibaaDoorSnapReadsK8
namespace Go.Proofs.YtmpfhalheaeibaaDoor
set_option linter.unusedVariables false
set_option linter.unusedSimpArgs false
open Go Go.RowKit
set_option maxRecDepth 100000
set_option linter.unusedSimpArgs false
set_option maxHeartbeats 16000000 in
theorem ref_snapRead_c (s : List UInt8) (hs : s.length ≤ 1048576) : acall Tryd.prog [] 30 [S s] (ret (.tup [(snapR s).1.av, I (snapR s).2])) := by
  by_cases h1 : s.length < 5 ∨ s.getD 0 0 ≠ 83
  · rw [snapR_head h1]
    have h1' := s_head.2 h1
    refine zi tabOk Tryd.func30 rfl (by kernel_rfl) (by simp [Tryd.ntmps30]) ?_; simp only [Tryd.ntmps30, Tryd.results30, List.toList_toArray, apar, List.length_nil, List.length_cons, Nat.reduceAdd]
    (repeat' first
  | (with_reducible refine AR.f ?_)
  | refine zb (by decide) ?_
  | (with_reducible refine AWP.cond rfl ?_ ?_ <;> intro hc <;> (try simp only [hcs, beq_iff_eq, ge_iff_le, gt_iff_lt] at hc))
  | ((first | ((first | (with_reducible first | refine zR ?_ | refine zQ (by decide +kernel) ?_ | refine zD (by decide +kernel) ?_ | refine zE (by decide +kernel) ?_ | refine zG (by decide +kernel) ?_)); intro K hK) | ((first | (with_reducible refine zu ?_ ?_ <;> intro hg) | with_reducible intro hg) <;> (first | (exfalso; simp at hg; done) | (have hg' := hg; (try simp only [hcs, beq_iff_eq, ge_iff_le, gt_iff_lt] at hg'); (try simp only [hg]))))) <;> (try simp (disch := omega) only [go_sem, wn]) <;> (repeat' with_reducible refine And.intro ?_ ?_) <;> (try (with_reducible refine hK _ ?_; clear hK K)))
  | omega)
    all_goals (refine zF rfl ?_ ?_ ?_ ?_; (iterate 3 (focus ((try simp (disch := omega) only [go_sem, wn, default]) <;> (try omega) <;> fail))); (try simp (disch := omega) only [go_sem, wn, default, I, B, S, inj, List.cons.injEq, and_true, true_and, and_self]))
  have h1' : ¬ ((s.length : Int) < 5 ∨ ¬ ((s.getD 0 0).toNat : Int) = 83) := fun h => h1 (s_head.1 h)
  have hlen : 5 ≤ s.length := by omega
  have q4 : ((s.length : Int) - 4).toNat = s.length - 4 := by omega
  have htl : (s.drop (s.length - 4)).length = 4 := by rw [List.length_drop]; omega
  have hdl : List.take (s.length - (s.length - 4)) (List.drop (s.length - 4) s) = List.drop (s.length - 4) s := List.take_of_length_le (by rw [List.length_drop]; omega)
  have ok {t : List UInt8} (h : t.length ≤ 1048576) : okS t := by unfold okS; omega
  have hbl : (s.take (s.length - 4)).length ≤ 1048576 := by rw [List.length_take]; omega
  have hsum := ref_sum_c (s.take (s.length - 4)) (ok hbl)
  have ct := numberOf_s (s.drop (s.length - 4)) (by omega)
  by_cases h2 : sumN (s.take (s.length - 4)) ≠ numN (s.drop (s.length - 4))
  · rw [snapR_sum h1 h2]
    refine zi tabOk Tryd.func30 rfl (by kernel_rfl) (by simp [Tryd.ntmps30]) ?_; simp only [Tryd.ntmps30, Tryd.results30, List.toList_toArray, apar, List.length_nil, List.length_cons, Nat.reduceAdd]
    (repeat' first
  | (with_reducible refine AR.f ?_)
  | refine zb (by decide) ?_
  | (with_reducible refine AWP.cond rfl ?_ ?_ <;> intro hc <;> (try simp only [hcs, beq_iff_eq, ge_iff_le, gt_iff_lt] at hc))
  | ((first | ((first | (with_reducible first | refine zR ?_ | refine zQ (by decide +kernel) ?_ | refine zD (by decide +kernel) ?_ | refine zE (by decide +kernel) ?_ | refine zG (by decide +kernel) ?_)); intro K hK) | ((first | refine zA hsum ?_ ?_ ?_ ?_ ?_ | refine zA ct ?_ ?_ ?_ ?_ ?_); (focus exact rfl); (focus exact rfl); iterate 2 (focus ((try simp (disch := omega) only [go_sem, wn, q4, hdl, Nat.sub_zero]) <;> (try omega) <;> fail))) | ((first | refine zN hsum rfl ?_ ?_ | refine zN ct rfl ?_ ?_); (focus ((try simp (disch := omega) only [go_sem, wn, q4, hdl, Nat.sub_zero]) <;> (try omega) <;> fail))) | (first | ((first | refine zX hsum rfl ?_ ?_ | refine zy hsum ?_ ?_); (focus ((try simp (disch := omega) only [go_sem, wn, q4, hdl, Nat.sub_zero]) <;> (try omega) <;> fail))) | ((first | refine zX ct rfl ?_ ?_ | refine zy ct ?_ ?_); (focus ((try simp (disch := omega) only [go_sem, wn, q4, hdl, Nat.sub_zero]) <;> (try omega) <;> fail)))) | ((first | (with_reducible refine zu ?_ ?_ <;> intro hg) | with_reducible intro hg) <;> (first | (exfalso; simp at hg; done) | (have hg' := hg; (try simp only [hcs, beq_iff_eq, ge_iff_le, gt_iff_lt] at hg'); (try simp only [hg]))))) <;> (try simp (disch := omega) only [go_sem, wn, q4, hdl, Nat.sub_zero]) <;> (repeat' with_reducible refine And.intro ?_ ?_) <;> (try (with_reducible refine hK _ ?_; clear hK K)))
  | omega)
    all_goals first | (exfalso; omega) | skip
    all_goals (refine zF rfl ?_ ?_ ?_ ?_; (iterate 3 (focus ((try simp (disch := omega) only [go_sem, wn, default]) <;> (try omega) <;> fail))); (try simp (disch := omega) only [go_sem, wn, default, I, B, S, inj, List.cons.injEq, and_true, true_and, and_self]))
  rw [snapR_body h1 h2]
  have hb1' : List.take (s.length - 4 - 1) (List.drop 1 s) = (s.take (s.length - 4)).drop 1 := by rw [List.drop_take]
  have hbb : ((s.take (s.length - 4)).drop 1).length ≤ 1048576 := by rw [List.length_drop]; omega
  generalize hbe : (s.take (s.length - 4)).drop 1 = b at hb1' hbb ⊢
  have q0 : sumN (s.take (s.length - 4)) = numN (s.drop (s.length - 4)) := by omega
  obtain ⟨o3, o5, l1, l2, l4⟩ := z_ok b hbb
  have c1 := rtake_c b false 8 (ok hbb) 8 rfl
  rw [show curT b false 8 = z1 b from rfl] at c1
  have g1 := signed_c (z1 b).t (ok (Nat.le_trans (curT_t _ _ _) (by decide)))
  have c2 := rtake_c (z1 b).s (z1 b).bad 4 (ok l1) 4 rfl
  rw [show curT (z1 b).s (z1 b).bad 4 = z2 b from rfl] at c2
  have g2 := numberOf_s (z2 b).t (Nat.le_trans (curT_t _ _ _) (by decide))
  refine zi tabOk Tryd.func30 rfl (by kernel_rfl) (by simp [Tryd.ntmps30]) ?_; simp only [Tryd.ntmps30, Tryd.results30, List.toList_toArray, apar, List.length_nil, List.length_cons, Nat.reduceAdd]
  (repeat' first
| (with_reducible refine AR.f ?_)
| refine zb (by decide) ?_
| (with_reducible refine AWP.cond rfl ?_ ?_ <;> intro hc <;> (try simp only [hcs, beq_iff_eq, ge_iff_le, gt_iff_lt] at hc))
| ((first | ((first | (with_reducible first | refine zR ?_ | refine zQ (by decide +kernel) ?_ | refine zD (by decide +kernel) ?_ | refine zE (by decide +kernel) ?_ | refine zG (by decide +kernel) ?_)); intro K hK) | ((first | refine zA hsum ?_ ?_ ?_ ?_ ?_ | refine zA ct ?_ ?_ ?_ ?_ ?_ | refine zA g1 ?_ ?_ ?_ ?_ ?_ | refine zA g2 ?_ ?_ ?_ ?_ ?_); (focus exact rfl); (focus exact rfl); iterate 2 (focus ((try simp (disch := omega) only [go_sem, wn, q4, hdl, hb1', Nat.sub_zero]) <;> (try omega) <;> fail))) | ((first | refine zN hsum rfl ?_ ?_ | refine zN ct rfl ?_ ?_ | refine zN g1 rfl ?_ ?_ | refine zN g2 rfl ?_ ?_); (focus ((try simp (disch := omega) only [go_sem, wn, q4, hdl, hb1', Nat.sub_zero]) <;> (try omega) <;> fail))) | (first | ((first | refine zX hsum rfl ?_ ?_ | refine zy hsum ?_ ?_); (focus ((try simp (disch := omega) only [go_sem, wn, q4, hdl, hb1', Nat.sub_zero]) <;> (try omega) <;> fail))) | ((first | refine zX ct rfl ?_ ?_ | refine zy ct ?_ ?_); (focus ((try simp (disch := omega) only [go_sem, wn, q4, hdl, hb1', Nat.sub_zero]) <;> (try omega) <;> fail))) | ((first | refine zX g1 rfl ?_ ?_ | refine zy g1 ?_ ?_); (focus ((try simp (disch := omega) only [go_sem, wn, q4, hdl, hb1', Nat.sub_zero]) <;> (try omega) <;> fail))) | ((first | refine zX g2 rfl ?_ ?_ | refine zy g2 ?_ ?_); (focus ((try simp (disch := omega) only [go_sem, wn, q4, hdl, hb1', Nat.sub_zero]) <;> (try omega) <;> fail)))) | (refine acallH_at [1] (c1) ?_ ?_ ?_; (focus ((try simp (disch := omega) only [inj, List.cons.injEq, and_self, List.nodup_cons, List.not_mem_nil, List.mem_cons, not_false_eq_true, List.nodup_nil, go_sem, wn, q4, hdl, hb1', Nat.sub_zero]) <;> (try omega) <;> fail)); (focus ((try simp (disch := omega) only [inj, List.cons.injEq, and_self, List.nodup_cons, List.not_mem_nil, List.mem_cons, not_false_eq_true, List.nodup_nil, go_sem, wn, q4, hdl, hb1', Nat.sub_zero]) <;> (try omega) <;> (try decide) <;> fail))) | (refine acallH_at [1] (c2) ?_ ?_ ?_; (focus ((try simp (disch := omega) only [inj, List.cons.injEq, and_self, List.nodup_cons, List.not_mem_nil, List.mem_cons, not_false_eq_true, List.nodup_nil, go_sem, wn, q4, hdl, hb1', Nat.sub_zero]) <;> (try omega) <;> fail)); (focus ((try simp (disch := omega) only [inj, List.cons.injEq, and_self, List.nodup_cons, List.not_mem_nil, List.mem_cons, not_false_eq_true, List.nodup_nil, go_sem, wn, q4, hdl, hb1', Nat.sub_zero]) <;> (try omega) <;> (try decide) <;> fail))) | ((first | (with_reducible refine zu ?_ ?_ <;> intro hg) | with_reducible intro hg) <;> (first | (exfalso; simp at hg; done) | (have hg' := hg; (try simp only [hcs, beq_iff_eq, ge_iff_le, gt_iff_lt] at hg'); (try simp only [hg]))))) <;> (try simp (disch := omega) only [go_sem, wn, q4, hdl, hb1', Nat.sub_zero]) <;> (repeat' with_reducible refine And.intro ?_ ?_) <;> (try (with_reducible refine hK _ ?_; clear hK K)))
| omega)
  refine AWP.weaken (SImp.nilOwnC 2 2 1 rfl rfl) ?_
  simp only [go_sem]
  have hN1 : numN (z2 b).t < 4294967296 := numN_lt (k := 4) (curT_t _ _ _) (by decide)
  refine AWP.loopB (ι := Nat × PSt Int) (fun v => runP rdS v.1 v.2 = z3 b ∧ OkP okI 1048576 v.2 ∧ v.1 ≤ numN (z2 b).t) (fun v => v.1) [2, 5, 6, 7] (fun v => [(8, I ((numN (z2 b).t - v.1 : Nat) : Int))]) (fun v => [.cells [I 0, .d (.sc (.slice none 0 0)), .d (.sc (.slice none 0 0))], .cells [S v.2.s, B v.2.bad], .cells [I (numW (z1 b).t), .d (.sc (.slice none 0 0)), .osl 3 1 0 v.2.l.length], .rows 1 (v.2.l.map irow)]) (numN (z2 b).t, ⟨[], (z2 b).s, (z2 b).bad⟩) ?_ ?_ ?_
  · exact ⟨rfl, ⟨l2, Nat.zero_le _, fun _ => by show 0 + (z2 b).s.length ≤ _; omega, fun _ h => by cases h⟩, Nat.le_refl _⟩
  · simp only [go_sem, Nat.sub_self]; (refine SImp.same ?_; simp (disch := omega) only [go_sem, wn, Int.natCast_add])
  intro ⟨m, p⟩ ⟨hr, hp, hm⟩
  simp only at hr hp hm
  simp only [go_sem]
  by_cases hgo : 0 < m ∧ p.bad = false
  · obtain ⟨m, rfl⟩ : ∃ k, m = k + 1 := ⟨m - 1, by omega⟩
    rw [runP_go hgo.2] at hr
    have hp2 := hp.step (rdS_ok _) hgo.2
    have hb := hp.b hgo.2
    have c3 := rtake_c p.s p.bad 4 (ok hp.s) 4 rfl
    have hbad := hgo.2
    obtain ⟨pl, ps, pb⟩ := p
    simp only at hbad hb c3
    subst hbad
    have g3 := numberOf_s (curT ps false 4).t (Nat.le_trans (curT_t _ _ _) (by decide))
    generalize hcc : curT ps false 4 = c at c3 g3
    (repeat' first
  | (with_reducible refine AR.f ?_)
  | refine zb (by decide) ?_
  | (with_reducible refine AWP.cond rfl ?_ ?_ <;> intro hc <;> (try simp only [hcs, beq_iff_eq, ge_iff_le, gt_iff_lt] at hc))
  | ((first | ((first | refine zP ((Plan.takes [0, 2] (.fork 1 (Plan.takes [3, 4, 5, 6, 7, 8] .done) 3 (.fork 1 (Plan.takes [4, 5, 6, 7, 8] .done) 4 (.fork 1 (Plan.takes [5, 6, 7, 8] .done) 5 (Plan.takes [1, 6, 7, 8] .done)))))) (by decide +kernel) ?_ | (with_reducible first | refine zR ?_ | refine zQ (by decide +kernel) ?_ | refine zD (by decide +kernel) ?_ | refine zE (by decide +kernel) ?_ | refine zG (by decide +kernel) ?_)); intro K hK) | ((first | refine zA g3 ?_ ?_ ?_ ?_ ?_); (focus exact rfl); (focus exact rfl); iterate 2 (focus ((try simp (disch := omega) only [go_sem, wn]) <;> (try omega) <;> fail))) | ((first | refine zN g3 rfl ?_ ?_); (focus ((try simp (disch := omega) only [go_sem, wn]) <;> (try omega) <;> fail))) | (first | ((first | refine zX g3 rfl ?_ ?_ | refine zy g3 ?_ ?_); (focus ((try simp (disch := omega) only [go_sem, wn]) <;> (try omega) <;> fail)))) | (refine acallH_at [1] (c3) ?_ ?_ ?_; (focus ((try simp (disch := omega) only [inj, List.cons.injEq, and_self, List.nodup_cons, List.not_mem_nil, List.mem_cons, not_false_eq_true, List.nodup_nil, go_sem, wn]) <;> (try omega) <;> fail)); (focus ((try simp (disch := omega) only [inj, List.cons.injEq, and_self, List.nodup_cons, List.not_mem_nil, List.mem_cons, not_false_eq_true, List.nodup_nil, go_sem, wn]) <;> (try omega) <;> (try decide) <;> fail))) | ((first | (with_reducible refine zu ?_ ?_ <;> intro hg) | with_reducible intro hg) <;> (first | (exfalso; simp at hg; done) | (have hg' := hg; (try simp only [hcs, beq_iff_eq, ge_iff_le, gt_iff_lt] at hg'); (try simp only [hg]))))) <;> (try simp (disch := omega) only [go_sem, wn]) <;> (repeat' with_reducible refine And.intro ?_ ?_) <;> (try (with_reducible refine hK _ ?_; clear hK K)))
  | omega)
    all_goals
      refine ⟨(m, stepP rdS ⟨pl, ps, false⟩), ⟨hr, hp2, by omega⟩, Nat.lt_succ_self m, ?_⟩
      simp only [stepP, rdS, hcc, List.length_append, List.length_singleton, List.map_append, List.map_cons, List.map_nil]
      rw [show ((numN (z2 b).t - m : Nat) : Int) = ((numN (z2 b).t - (m + 1) : Nat) : Int) + 1 from by omega]
      (refine SImp.frame [0, 1, 2, 5] rfl (by intro k hk; first | (simp at hk <;> (simp; omega)) | (simp only [List.mem_cons, List.not_mem_nil, or_false] at hk; simp only [List.length_cons, List.length_nil]; omega)) (by decide) (fun k hk => by first | omega | (rcases k with _ | _ | _ | _ | _ | _ | _ | _ | k <;> first | rfl | omega)) ?_ ?_ <;> simp (disch := omega) only [go_sem, wn, Int.natCast_add, irow] <;> (try rfl))
  have hz : z3 b = p := by rw [← hr]; exact runP_bad (by rcases Nat.eq_zero_or_pos m with h | h; exact .inl h; right; cases e : p.bad with | true => rfl | false => exact absurd ⟨h, e⟩ hgo)
  have c4 := rtake_c p.s p.bad 4 (ok hp.s) 4 rfl
  rw [show curT p.s p.bad 4 = z4 b from by rw [← hz]; rfl] at c4
  have g4 := numberOf_s (z4 b).t (Nat.le_trans (curT_t _ _ _) (by decide))
  (repeat' first
| (with_reducible refine AR.f ?_)
| refine zb (by decide) ?_
| (with_reducible refine AWP.cond rfl ?_ ?_ <;> intro hc <;> (try simp only [hcs, beq_iff_eq, ge_iff_le, gt_iff_lt] at hc))
| ((first | ((first | (with_reducible first | refine zR ?_ | refine zQ (by decide +kernel) ?_ | refine zD (by decide +kernel) ?_ | refine zE (by decide +kernel) ?_ | refine zG (by decide +kernel) ?_)); intro K hK) | ((first | refine zA g4 ?_ ?_ ?_ ?_ ?_); (focus exact rfl); (focus exact rfl); iterate 2 (focus ((try simp (disch := omega) only [go_sem, wn]) <;> (try omega) <;> fail))) | ((first | refine zN g4 rfl ?_ ?_); (focus ((try simp (disch := omega) only [go_sem, wn]) <;> (try omega) <;> fail))) | (first | ((first | refine zX g4 rfl ?_ ?_ | refine zy g4 ?_ ?_); (focus ((try simp (disch := omega) only [go_sem, wn]) <;> (try omega) <;> fail)))) | (refine acallH_at [1] (c4) ?_ ?_ ?_; (focus ((try simp (disch := omega) only [inj, List.cons.injEq, and_self, List.nodup_cons, List.not_mem_nil, List.mem_cons, not_false_eq_true, List.nodup_nil, go_sem, wn]) <;> (try omega) <;> fail)); (focus ((try simp (disch := omega) only [inj, List.cons.injEq, and_self, List.nodup_cons, List.not_mem_nil, List.mem_cons, not_false_eq_true, List.nodup_nil, go_sem, wn]) <;> (try omega) <;> (try decide) <;> fail))) | ((first | (with_reducible refine zu ?_ ?_ <;> intro hg) | with_reducible intro hg) <;> (first | (exfalso; simp at hg; done) | (have hg' := hg; (try simp only [hcs, beq_iff_eq, ge_iff_le, gt_iff_lt] at hg'); (try simp only [hg]))))) <;> (try simp (disch := omega) only [go_sem, wn]) <;> (repeat' with_reducible refine And.intro ?_ ?_) <;> (try (with_reducible refine hK _ ?_; clear hK K)))
| omega)
  · exact absurd ⟨by omega, hc.2⟩ hgo
  clear hr hp hm hgo hc
  subst hz
  have hzl := o3.l
  refine AWP.weaken (SImp.nilOwnC 2 1 9 rfl rfl) ?_
  simp only [go_sem]
  have hN2 : numN (z4 b).t < 4294967296 := numN_lt (k := 4) (curT_t _ _ _) (by decide)
  refine AWP.loopB (ι := Nat × PSt ANode) (fun v => runP rdN v.1 v.2 = z5 b ∧ OkP nodeW 1048576 v.2 ∧ v.1 ≤ numN (z4 b).t) (fun v => v.1) [2, 5, 6, 7] (fun v => [(9, I ((numN (z4 b).t - v.1 : Nat) : Int))]) (fun v => [.cells [I 0, .d (.sc (.slice none 0 0)), .d (.sc (.slice none 0 0))], .cells [S v.2.s, B v.2.bad], .cells [I (numW (z1 b).t), .osl 4 9 0 v.2.l.length, .osl 3 1 0 (z3 b).l.length], .rows 1 ((z3 b).l.map irow), .rows 9 (v.2.l.map ANode.row)]) (numN (z4 b).t, ⟨[], (z4 b).s, (z4 b).bad⟩) ?_ ?_ ?_
  · exact ⟨rfl, ⟨l4, Nat.zero_le _, fun _ => by show 0 + (z4 b).s.length ≤ _; omega, fun _ h => by cases h⟩, Nat.le_refl _⟩
  · simp only [go_sem, Nat.sub_self]; (refine SImp.same ?_; simp (disch := omega) only [go_sem, wn, Int.natCast_add])
  intro ⟨m, p⟩ ⟨hr, hp, hm⟩
  simp only at hr hp hm
  simp only [go_sem]
  by_cases hgo : 0 < m ∧ p.bad = false
  · obtain ⟨m, rfl⟩ : ∃ k, m = k + 1 := ⟨m - 1, by omega⟩
    rw [runP_go hgo.2] at hr
    have hp2 := hp.step (rdN_ok _ (Nat.le_refl _)) hgo.2
    have hb := hp.b hgo.2
    have hps := hp.s
    have hbad := hgo.2
    obtain ⟨pl, ps, pb⟩ := p
    simp only at hbad hb hps
    subst hbad
    obtain ⟨a4, a3, a2, a1, a5, a6⟩ := n4_le ps false
    have d1 := rtake_c ps false 1 (ok hps) 1 rfl
    rw [show curT ps false 1 = n1 ps false from rfl] at d1
    have d2 := rtake_c (n1 ps false).s (n1 ps false).bad (numN (n1 ps false).t) (ok (by omega)) (numN (n1 ps false).t : Nat) rfl
    rw [show curT (n1 ps false).s (n1 ps false).bad (numN (n1 ps false).t) = n2 ps false from rfl] at d2
    have d3 := rtake_c (n2 ps false).s (n2 ps false).bad 2 (ok (by omega)) 2 rfl
    rw [show curT (n2 ps false).s (n2 ps false).bad 2 = n3 ps false from rfl] at d3
    have d4 := rtake_c (n3 ps false).s (n3 ps false).bad (numN (n3 ps false).t) (ok (by omega)) (numN (n3 ps false).t : Nat) rfl
    rw [show curT (n3 ps false).s (n3 ps false).bad (numN (n3 ps false).t) = n4 ps false from rfl] at d4
    have g5 := numberOf_s (n1 ps false).t (Nat.le_trans (curT_t _ _ _) (by decide))
    have g6 := numberOf_s (n3 ps false).t (Nat.le_trans (curT_t _ _ _) (by decide))
    (repeat' first
  | (with_reducible refine AR.f ?_)
  | refine zb (by decide) ?_
  | (with_reducible refine AWP.cond rfl ?_ ?_ <;> intro hc <;> (try simp only [hcs, beq_iff_eq, ge_iff_le, gt_iff_lt] at hc))
  | ((first | ((first | (with_reducible first | refine zR ?_ | refine zQ (by decide +kernel) ?_ | refine zD (by decide +kernel) ?_ | refine zE (by decide +kernel) ?_ | refine zG (by decide +kernel) ?_)); intro K hK) | ((first | refine zA g5 ?_ ?_ ?_ ?_ ?_ | refine zA g6 ?_ ?_ ?_ ?_ ?_); (focus exact rfl); (focus exact rfl); iterate 2 (focus ((try simp (disch := omega) only [go_sem, wn]) <;> (try omega) <;> fail))) | ((first | refine zN g5 rfl ?_ ?_ | refine zN g6 rfl ?_ ?_); (focus ((try simp (disch := omega) only [go_sem, wn]) <;> (try omega) <;> fail))) | (first | ((first | refine zX g5 rfl ?_ ?_ | refine zy g5 ?_ ?_); (focus ((try simp (disch := omega) only [go_sem, wn]) <;> (try omega) <;> fail))) | ((first | refine zX g6 rfl ?_ ?_ | refine zy g6 ?_ ?_); (focus ((try simp (disch := omega) only [go_sem, wn]) <;> (try omega) <;> fail)))) | (refine acallH_at [1] (d1) ?_ ?_ ?_; (focus ((try simp (disch := omega) only [inj, List.cons.injEq, and_self, List.nodup_cons, List.not_mem_nil, List.mem_cons, not_false_eq_true, List.nodup_nil, go_sem, wn]) <;> (try omega) <;> fail)); (focus ((try simp (disch := omega) only [inj, List.cons.injEq, and_self, List.nodup_cons, List.not_mem_nil, List.mem_cons, not_false_eq_true, List.nodup_nil, go_sem, wn]) <;> (try omega) <;> (try decide) <;> fail))) | (refine acallH_at [1] (d2) ?_ ?_ ?_; (focus ((try simp (disch := omega) only [inj, List.cons.injEq, and_self, List.nodup_cons, List.not_mem_nil, List.mem_cons, not_false_eq_true, List.nodup_nil, go_sem, wn]) <;> (try omega) <;> fail)); (focus ((try simp (disch := omega) only [inj, List.cons.injEq, and_self, List.nodup_cons, List.not_mem_nil, List.mem_cons, not_false_eq_true, List.nodup_nil, go_sem, wn]) <;> (try omega) <;> (try decide) <;> fail))) | (refine acallH_at [1] (d3) ?_ ?_ ?_; (focus ((try simp (disch := omega) only [inj, List.cons.injEq, and_self, List.nodup_cons, List.not_mem_nil, List.mem_cons, not_false_eq_true, List.nodup_nil, go_sem, wn]) <;> (try omega) <;> fail)); (focus ((try simp (disch := omega) only [inj, List.cons.injEq, and_self, List.nodup_cons, List.not_mem_nil, List.mem_cons, not_false_eq_true, List.nodup_nil, go_sem, wn]) <;> (try omega) <;> (try decide) <;> fail))) | (refine acallH_at [1] (d4) ?_ ?_ ?_; (focus ((try simp (disch := omega) only [inj, List.cons.injEq, and_self, List.nodup_cons, List.not_mem_nil, List.mem_cons, not_false_eq_true, List.nodup_nil, go_sem, wn]) <;> (try omega) <;> fail)); (focus ((try simp (disch := omega) only [inj, List.cons.injEq, and_self, List.nodup_cons, List.not_mem_nil, List.mem_cons, not_false_eq_true, List.nodup_nil, go_sem, wn]) <;> (try omega) <;> (try decide) <;> fail))) | ((first | (with_reducible refine zu ?_ ?_ <;> intro hg) | with_reducible intro hg) <;> (first | (exfalso; simp at hg; done) | (have hg' := hg; (try simp only [hcs, beq_iff_eq, ge_iff_le, gt_iff_lt] at hg'); (try simp only [hg]))))) <;> (try simp (disch := omega) only [go_sem, wn]) <;> (repeat' with_reducible refine And.intro ?_ ?_) <;> (try (with_reducible refine hK _ ?_; clear hK K)))
  | omega)
    refine AWP.loopB (ι := Nat) (fun j => j ≤ 7) (fun j => 7 - j) [2, 5, 6, 7, 9, 10, 11] (fun j => [(94, I j)]) (fun j => [.cells [I 0, .d (.sc (.slice none 0 0)), .d (.sc (.slice none 0 0))], .cells [S (n5 ps false j).s, B (n5 ps false j).bad], .cells [I (numW (z1 b).t), .osl 4 9 0 pl.length, .osl 3 1 0 (z3 b).l.length], .rows 1 ((z3 b).l.map irow), .rows 9 (pl.map ANode.row), .cells [S (n2 ps false).t, S (n4 ps false).t, I 0, I 0, I 0, I 0, I 0, I 0, I 0], .cells (arrC (n5 ps false j).l)]) 0 ?_ ?_ ?_
    · omega
    · simp only [go_sem]; (refine SImp.same ?_; simp (disch := omega) only [go_sem, wn, Int.natCast_add])
    intro j hj
    simp only [go_sem]
    by_cases hj7 : j < 7
    · have hq : (n5 ps false j).s.length ≤ 1048576 := by have := numsK_le (n4 ps false).s (n4 ps false).bad j; show (numsK _ _ j).s.length ≤ _; omega
      have d5 := rtake_c (n5 ps false j).s (n5 ps false j).bad 8 (ok hq) 8 rfl
      have g7 := signed_c (curT (n5 ps false j).s (n5 ps false j).bad 8).t (ok (Nat.le_trans (curT_t _ _ _) (by decide)))
      have e2 := snoc7 (numsK_len (n4 ps false).s (n4 ps false).bad j) hj7 (numW (curT (n5 ps false j).s (n5 ps false j).bad 8).t)
      rw [show (numsK (n4 ps false).s (n4 ps false).bad j).l = (n5 ps false j).l from rfl] at e2
      (repeat' first
    | (with_reducible refine AR.f ?_)
    | refine zb (by decide) ?_
    | (with_reducible refine AWP.cond rfl ?_ ?_ <;> intro hc <;> (try simp only [hcs, beq_iff_eq, ge_iff_le, gt_iff_lt] at hc))
    | ((first | ((first | (with_reducible first | refine zR ?_ | refine zQ (by decide +kernel) ?_ | refine zD (by decide +kernel) ?_ | refine zE (by decide +kernel) ?_ | refine zG (by decide +kernel) ?_)); intro K hK) | ((first | refine zA g7 ?_ ?_ ?_ ?_ ?_); (focus exact rfl); (focus exact rfl); iterate 2 (focus ((try simp (disch := omega) only [go_sem, wn, e2, arrC_len, Nat.mul_one, Nat.zero_add, Nat.add_zero]) <;> (try omega) <;> fail))) | ((first | refine zN g7 rfl ?_ ?_); (focus ((try simp (disch := omega) only [go_sem, wn, e2, arrC_len, Nat.mul_one, Nat.zero_add, Nat.add_zero]) <;> (try omega) <;> fail))) | (first | ((first | refine zX g7 rfl ?_ ?_ | refine zy g7 ?_ ?_); (focus ((try simp (disch := omega) only [go_sem, wn, e2, arrC_len, Nat.mul_one, Nat.zero_add, Nat.add_zero]) <;> (try omega) <;> fail)))) | (refine acallH_at [1] (d5) ?_ ?_ ?_; (focus ((try simp (disch := omega) only [inj, List.cons.injEq, and_self, List.nodup_cons, List.not_mem_nil, List.mem_cons, not_false_eq_true, List.nodup_nil, go_sem, wn, e2, arrC_len, Nat.mul_one, Nat.zero_add, Nat.add_zero]) <;> (try omega) <;> fail)); (focus ((try simp (disch := omega) only [inj, List.cons.injEq, and_self, List.nodup_cons, List.not_mem_nil, List.mem_cons, not_false_eq_true, List.nodup_nil, go_sem, wn, e2, arrC_len, Nat.mul_one, Nat.zero_add, Nat.add_zero]) <;> (try omega) <;> (try decide) <;> fail))) | ((first | (with_reducible refine zu ?_ ?_ <;> intro hg) | with_reducible intro hg) <;> (first | (exfalso; simp at hg; done) | (have hg' := hg; (try simp only [hcs, beq_iff_eq, ge_iff_le, gt_iff_lt] at hg'); (try simp only [hg]))))) <;> (try simp (disch := omega) only [go_sem, wn, e2, arrC_len, Nat.mul_one, Nat.zero_add, Nat.add_zero]) <;> (repeat' with_reducible refine And.intro ?_ ?_) <;> (try (with_reducible refine hK _ ?_; clear hK K)))
    | omega)
      refine ⟨j + 1, by omega, by omega, ?_⟩
      rw [show n5 ps false (j + 1) = ⟨(n5 ps false j).l ++ [numW (curT (n5 ps false j).s (n5 ps false j).bad 8).t], (curT (n5 ps false j).s (n5 ps false j).bad 8).s, (curT (n5 ps false j).s (n5 ps false j).bad 8).bad⟩ from rfl]
      (refine SImp.same ?_; simp (disch := omega) only [go_sem, wn, Int.natCast_add])
    have hje : j = 7 := by omega
    subst hje
    (repeat' first
  | (with_reducible refine AR.f ?_)
  | refine zb (by decide) ?_
  | (with_reducible refine AWP.cond rfl ?_ ?_ <;> intro hc <;> (try simp only [hcs, beq_iff_eq, ge_iff_le, gt_iff_lt] at hc))
  | ((first | ((first | (with_reducible first | refine zR ?_ | refine zQ (by decide +kernel) ?_ | refine zD (by decide +kernel) ?_ | refine zE (by decide +kernel) ?_ | refine zG (by decide +kernel) ?_)); intro K hK) | ((first | (with_reducible refine zu ?_ ?_ <;> intro hg) | with_reducible intro hg) <;> (first | (exfalso; simp at hg; done) | (have hg' := hg; (try simp only [hcs, beq_iff_eq, ge_iff_le, gt_iff_lt] at hg'); (try simp only [hg]))))) <;> (try simp (disch := omega) only [go_sem, wn, arrC]) <;> (repeat' with_reducible refine And.intro ?_ ?_) <;> (try (with_reducible refine hK _ ?_; clear hK K)))
  | omega)
    refine ⟨(m, stepP rdN ⟨pl, ps, false⟩), ⟨hr, hp2, by omega⟩, Nat.lt_succ_self m, ?_⟩
    simp only [stepP, rdN, statO, List.length_append, List.length_singleton, List.map_append, List.map_cons, List.map_nil, ANode.row]
    rw [show ((numN (z4 b).t - m : Nat) : Int) = ((numN (z4 b).t - (m + 1) : Nat) : Int) + 1 from by omega]
    (refine SImp.frame [0, 1, 2, 3, 8] rfl (by intro k hk; first | (simp at hk <;> (simp; omega)) | (simp only [List.mem_cons, List.not_mem_nil, or_false] at hk; simp only [List.length_cons, List.length_nil]; omega)) (by decide) (fun k hk => by first | omega | (rcases k with _ | _ | _ | _ | _ | _ | _ | _ | k <;> first | rfl | omega)) ?_ ?_ <;> simp (disch := omega) only [go_sem, wn, Int.natCast_add, true_and] <;> (try rfl))
  have hz : z5 b = p := by rw [← hr]; exact runP_bad (by rcases Nat.eq_zero_or_pos m with h | h; exact .inl h; right; cases e : p.bad with | true => rfl | false => exact absurd ⟨h, e⟩ hgo)
  obtain ⟨tw, tp⟩ := treeR_wf b hbb
  have cg := ref_tgood_c (treeR b) tw tp
  have hwl := o5.l
  subst hz
  have t5 : List.take (z5 b).l.length (List.map ANode.row (z5 b).l) = List.map ANode.row (z5 b).l := List.take_of_length_le (by simp)
  have t3 : List.take (z3 b).l.length (List.map irow (z3 b).l) = List.map irow (z3 b).l := List.take_of_length_le (by simp)
  by_cases hbd : (z5 b).bad = true ∨ (z5 b).s ≠ []
  · rw [bodyR_bad hbd]
    (repeat' first
  | (with_reducible refine AR.f ?_)
  | refine zb (by decide) ?_
  | (with_reducible refine AWP.cond rfl ?_ ?_ <;> intro hc <;> (try simp only [hcs, beq_iff_eq, ge_iff_le, gt_iff_lt] at hc))
  | ((first | ((first | (with_reducible first | refine zR ?_ | refine zQ (by decide +kernel) ?_ | refine zD (by decide +kernel) ?_ | refine zE (by decide +kernel) ?_ | refine zG (by decide +kernel) ?_)); intro K hK) | ((first | (with_reducible refine zu ?_ ?_ <;> intro hg) | with_reducible intro hg) <;> (first | (exfalso; simp at hg; done) | (have hg' := hg; (try simp only [hcs, beq_iff_eq, ge_iff_le, gt_iff_lt] at hg'); (try simp only [hg]))))) <;> (try simp (disch := omega) only [go_sem, wn]) <;> (repeat' with_reducible refine And.intro ?_ ?_) <;> (try (with_reducible refine hK _ ?_; clear hK K)))
  | omega)
    all_goals first
      | exact absurd ⟨by omega, hc.2⟩ hgo
      | (exfalso; rcases hbd with h | h <;> simp_all; done)
      | ((refine zF rfl ?_ ?_ ?_ ?_; (iterate 3 (focus ((try simp (disch := omega) only [go_sem, wn, default]) <;> (try omega) <;> fail))); (try simp (disch := omega) only [go_sem, wn, default, I, B, S, inj, List.cons.injEq, and_true, true_and, and_self])); done)
      | (exfalso; rcases hbd with h | h
         · rw [h] at hc; exact absurd hc.1 (by decide)
         · exact h hc.2)
  rw [bodyR_ok hbd]
  by_cases hg : goodTr (treeR b) = true
  · rw [if_pos hg]
    rw [hg] at cg
    unfold ATree.av treeR at cg
    (repeat' first
  | (with_reducible refine AR.f ?_)
  | refine zb (by decide) ?_
  | (with_reducible refine AWP.cond rfl ?_ ?_ <;> intro hc <;> (try simp only [hcs, beq_iff_eq, ge_iff_le, gt_iff_lt] at hc))
  | ((first | ((first | (with_reducible first | refine zR ?_ | refine zQ (by decide +kernel) ?_ | refine zD (by decide +kernel) ?_ | refine zE (by decide +kernel) ?_ | refine zG (by decide +kernel) ?_)); intro K hK) | ((first | refine zA cg ?_ ?_ ?_ ?_ ?_); (focus exact rfl); (focus exact rfl); iterate 2 (focus ((try simp (disch := omega) only [go_sem, wn, t5, t3]) <;> (try omega) <;> fail))) | ((first | refine zN cg rfl ?_ ?_); (focus ((try simp (disch := omega) only [go_sem, wn, t5, t3]) <;> (try omega) <;> fail))) | (first | ((first | refine zX cg rfl ?_ ?_ | refine zy cg ?_ ?_); (focus ((try simp (disch := omega) only [go_sem, wn, t5, t3]) <;> (try omega) <;> fail)))) | ((first | (with_reducible refine zu ?_ ?_ <;> intro hg) | with_reducible intro hg) <;> (first | (exfalso; simp at hg; done) | (have hg' := hg; (try simp only [hcs, beq_iff_eq, ge_iff_le, gt_iff_lt] at hg'); (try simp only [hg]))))) <;> (try simp (disch := omega) only [go_sem, wn, t5, t3]) <;> (repeat' with_reducible refine And.intro ?_ ?_) <;> (try (with_reducible refine hK _ ?_; clear hK K)))
  | omega)
    all_goals first
      | exact absurd ⟨by omega, hc.2⟩ hgo
      | exact absurd hc hbd
      | skip
    all_goals (refine zF rfl ?_ ?_ ?_ ?_; (iterate 3 (focus ((try simp (disch := omega) only [go_sem, wn, t5, t3, treeR]) <;> (try omega) <;> fail))); (try simp (disch := omega) only [go_sem, wn, t5, t3, treeR, I, B, S, inj, List.cons.injEq, and_true, true_and, and_self]))
  · rw [if_neg hg]
    rw [eq_false_of_ne_true hg] at cg
    unfold ATree.av treeR at cg
    (repeat' first
  | (with_reducible refine AR.f ?_)
  | refine zb (by decide) ?_
  | (with_reducible refine AWP.cond rfl ?_ ?_ <;> intro hc <;> (try simp only [hcs, beq_iff_eq, ge_iff_le, gt_iff_lt] at hc))
  | ((first | ((first | (with_reducible first | refine zR ?_ | refine zQ (by decide +kernel) ?_ | refine zD (by decide +kernel) ?_ | refine zE (by decide +kernel) ?_ | refine zG (by decide +kernel) ?_)); intro K hK) | ((first | refine zA cg ?_ ?_ ?_ ?_ ?_); (focus exact rfl); (focus exact rfl); iterate 2 (focus ((try simp (disch := omega) only [go_sem, wn, t5, t3]) <;> (try omega) <;> fail))) | ((first | refine zN cg rfl ?_ ?_); (focus ((try simp (disch := omega) only [go_sem, wn, t5, t3]) <;> (try omega) <;> fail))) | (first | ((first | refine zX cg rfl ?_ ?_ | refine zy cg ?_ ?_); (focus ((try simp (disch := omega) only [go_sem, wn, t5, t3]) <;> (try omega) <;> fail)))) | ((first | (with_reducible refine zu ?_ ?_ <;> intro hg) | with_reducible intro hg) <;> (first | (exfalso; simp at hg; done) | (have hg' := hg; (try simp only [hcs, beq_iff_eq, ge_iff_le, gt_iff_lt] at hg'); (try simp only [hg]))))) <;> (try simp (disch := omega) only [go_sem, wn, t5, t3]) <;> (repeat' with_reducible refine And.intro ?_ ?_) <;> (try (with_reducible refine hK _ ?_; clear hK K)))
  | omega)
    all_goals first
      | exact absurd ⟨by omega, hc.2⟩ hgo
      | exact absurd hc hbd
      | skip
    all_goals (refine zF rfl ?_ ?_ ?_ ?_; (iterate 3 (focus ((try simp (disch := omega) only [go_sem, wn, default]) <;> (try omega) <;> fail))); (try simp (disch := omega) only [go_sem, wn, default, I, B, S, inj, List.cons.injEq, and_true, true_and, and_self]))
theorem snapR_wf (s : List UInt8) (hs : s.length ≤ 1048576) : (snapR s).1.wf := by
  have hd : (default : ATree).wf := ⟨⟨by decide, by decide⟩, ⟨by decide, fun _ h => by cases h⟩, ⟨by decide, fun _ h => by cases h⟩⟩
  unfold snapR
  split
  · exact hd
  split
  · exact hd
  unfold bodyR
  split
  · exact hd
  split
  · exact (treeR_wf _ (by rw [List.length_drop, List.length_take]; omega)).1
  · exact hd
theorem t00_small : smallT t00 := ⟨by decide, by decide, fun x hx => by rw [List.mem_singleton.1 hx]; decide⟩
theorem t00_back : snapR (snapW t00).1 = (t00, 0) := by decide +kernel
theorem t00_len : (snapW t00).1.length ≤ 1048576 := by decide +kernel
set_option maxHeartbeats 8000000 in
theorem snapReads_w (s : List UInt8) (hs : s.length ≤ 1048576) : acall Tryd.prog [] 6 [S s] (ret (B true)) := by
  have h1 := snapRead_c s hs
  have h2 := ref_snapRead_c s hs
  have h3 := ref_snapWrite_c t00 t00_wf t00_small
  have h4 := snapRead_c (snapW t00).1 t00_len
  rw [t00_back] at h4
  have hw := snapR_wf s hs
  have h5 := (sameTree_c (snapR s).1 (snapR s).1 hw hw).re (congrArg B (decide_eq_true rfl))
  generalize snapR s = q at h1 h2 h5
  obtain ⟨a, e⟩ := q
  simp only at h1 h2 h5
  generalize snapW t00 = w at h3 h4
  obtain ⟨x, y⟩ := w
  simp only at h3 h4
  refine zi tabOk Tryd.func6 rfl (by kernel_rfl) (by simp [Tryd.ntmps6]) ?_; simp only [Tryd.ntmps6, Tryd.results6, List.toList_toArray, apar, List.length_nil, List.length_cons, Nat.reduceAdd]
  (repeat' first
| (with_reducible refine AR.f ?_)
| refine zb (by decide) ?_
| (with_reducible refine AWP.cond rfl ?_ ?_ <;> intro hc <;> (try simp only [hcs, beq_iff_eq, ge_iff_le, gt_iff_lt] at hc))
| ((first | ((first | (with_reducible first | refine zR ?_ | refine zQ (by decide +kernel) ?_ | refine zD (by decide +kernel) ?_ | refine zE (by decide +kernel) ?_ | refine zG (by decide +kernel) ?_)); intro K hK) | ((first | refine zA h1 ?_ ?_ ?_ ?_ ?_ | refine zA h2 ?_ ?_ ?_ ?_ ?_ | refine zA h3 ?_ ?_ ?_ ?_ ?_ | refine zA h4 ?_ ?_ ?_ ?_ ?_ | refine zA h5 ?_ ?_ ?_ ?_ ?_ | refine zA ref_new_c ?_ ?_ ?_ ?_ ?_); (focus exact rfl); (focus exact rfl); iterate 2 (focus ((try simp (disch := omega) only [go_sem, wn]) <;> (try omega) <;> fail))) | ((first | refine zN h1 rfl ?_ ?_ | refine zN h2 rfl ?_ ?_ | refine zN h3 rfl ?_ ?_ | refine zN h4 rfl ?_ ?_ | refine zN h5 rfl ?_ ?_ | refine zN ref_new_c rfl ?_ ?_); (focus ((try simp (disch := omega) only [go_sem, wn]) <;> (try omega) <;> fail))) | (first | ((first | refine zX h1 rfl ?_ ?_ | refine zy h1 ?_ ?_); (focus ((try simp (disch := omega) only [go_sem, wn]) <;> (try omega) <;> fail))) | ((first | refine zX h2 rfl ?_ ?_ | refine zy h2 ?_ ?_); (focus ((try simp (disch := omega) only [go_sem, wn]) <;> (try omega) <;> fail))) | ((first | refine zX h3 rfl ?_ ?_ | refine zy h3 ?_ ?_); (focus ((try simp (disch := omega) only [go_sem, wn]) <;> (try omega) <;> fail))) | ((first | refine zX h4 rfl ?_ ?_ | refine zy h4 ?_ ?_); (focus ((try simp (disch := omega) only [go_sem, wn]) <;> (try omega) <;> fail))) | ((first | refine zX h5 rfl ?_ ?_ | refine zy h5 ?_ ?_); (focus ((try simp (disch := omega) only [go_sem, wn]) <;> (try omega) <;> fail))) | ((first | refine zX ref_new_c rfl ?_ ?_ | refine zy ref_new_c ?_ ?_); (focus ((try simp (disch := omega) only [go_sem, wn]) <;> (try omega) <;> fail)))) | ((first | (with_reducible refine zu ?_ ?_ <;> intro hg) | with_reducible intro hg) <;> (first | (exfalso; simp at hg; done) | (have hg' := hg; (try simp only [hcs, beq_iff_eq, ge_iff_le, gt_iff_lt] at hg'); (try simp only [hg]))))) <;> (try simp (disch := omega) only [go_sem, wn]) <;> (repeat' with_reducible refine And.intro ?_ ?_) <;> (try (with_reducible refine hK _ ?_; clear hK K)))
| omega)
  all_goals (refine zF rfl ?_ ?_ ?_ ?_; (iterate 3 (focus ((try simp (disch := omega) only [go_sem, wn, t00]) <;> (try omega) <;> fail))); (try simp (disch := omega) only [go_sem, wn, t00, I, B, S, inj, List.cons.injEq, and_true, true_and, and_self]))
theorem snapReads_u (dss : List (List DV)) (h : typeds T 6 Tryd.f6.params.toList dss) (hs : ∀ cs, cs ∈ dss → ∀ c, c ∈ cs → SmallD 1048576 c) : acall Tryd.prog [] 6 (aargs T Tryd.f6.params.toList dss) (fun v _ => v = B true) := by
  rw [Tryd.params6] at h ⊢
  simp only [List.toList_toArray, typeds] at h
  obtain ⟨c0, d0, rfl, h0, rfl⟩ := h
  have s0 := hs c0 (by simp)
  obtain ⟨s, rfl, w_s⟩ := ty_str (m := 5) (by simp only [T_9, ty9]) h0
  have u_s := (s0 _ (List.mem_singleton.2 rfl)).len
  simp only [List.toList_toArray, aargs, aarg, TI.agg_mk, T_9, ty9]
  exact (snapReads_w s u_s).mono fun _ _ h => h.1
end Go.Proofs.YtmpfhalheaeibaaDoor
