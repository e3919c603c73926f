/- A part of what PrepMakes leans on: texts of this claim, one behind the other. No condition. -/
import Derived.Test.YtmpfhalheaeibaaDoorPrepMakesK11
namespace Go.Proofs.YtmpfhalheaeibaaDoor
set_option linter.unusedVariables false
set_option linter.unusedSimpArgs false
open Go Go.RowKit
set_option maxRecDepth 100000
set_option linter.unusedSimpArgs false
theorem prepX3 {t : ATree} {z : Int} {r : ARequest} (o : r.op = 3) : prepX t z r = (⟨z, 3, r.session, creP t r, r.data, 0, creO r⟩, creE t r) := by unfold prepX; rw [if_neg (by omega), if_pos o]
inductive CreC (t : ATree) (r : ARequest) : Prop where
  | flags (h : r.flags < 0 ∨ 3 < r.flags) (e : creE t r = 3)
  | form (h : 0 ≤ r.flags ∧ r.flags ≤ 3) (h2 : ¬ (splitP r.path).2 = 0) (e : creE t r = 2)
  | shut (h : 0 ≤ r.flags ∧ r.flags ≤ 3) (h2 : (splitP r.path).2 = 0) (h3 : ¬ r.session ∈ t.sessions) (e : creE t r = 12)
  | plain (h : r.flags = 0 ∨ r.flags = 1) (h2 : (splitP r.path).2 = 0) (h3 : r.session ∈ t.sessions) (e : creE t r = 0)
  | lack (h : r.flags = 2 ∨ r.flags = 3) (h2 : (splitP r.path).2 = 0) (h3 : r.session ∈ t.sessions) (h4 : ¬ (getT t (splitP r.path).1.1).2 = 0) (e : creE t r = (getT t (splitP r.path).1.1).2)
  | ser (h : r.flags = 2 ∨ r.flags = 3) (h2 : (splitP r.path).2 = 0) (h3 : r.session ∈ t.sessions) (h4 : (getT t (splitP r.path).1.1).2 = 0) (h5 : ¬ (serP (splitP r.path).1.2 (getT t (splitP r.path).1.1).1.stat.cversion).2 = 0) (e : creE t r = (serP (splitP r.path).1.2 (getT t (splitP r.path).1.1).1.stat.cversion).2)
  | join (h : r.flags = 2 ∨ r.flags = 3) (h2 : (splitP r.path).2 = 0) (h3 : r.session ∈ t.sessions) (h4 : (getT t (splitP r.path).1.1).2 = 0) (h5 : (serP (splitP r.path).1.2 (getT t (splitP r.path).1.1).1.stat.cversion).2 = 0) (h6 : ¬ (joinP (splitP r.path).1.1 (serP (splitP r.path).1.2 (getT t (splitP r.path).1.1).1.stat.cversion).1).2 = 0) (e : creE t r = (joinP (splitP r.path).1.1 (serP (splitP r.path).1.2 (getT t (splitP r.path).1.1).1.stat.cversion).1).2)
  | done (h : r.flags = 2 ∨ r.flags = 3) (h2 : (splitP r.path).2 = 0) (h3 : r.session ∈ t.sessions) (h4 : (getT t (splitP r.path).1.1).2 = 0) (h5 : (serP (splitP r.path).1.2 (getT t (splitP r.path).1.1).1.stat.cversion).2 = 0) (h6 : (joinP (splitP r.path).1.1 (serP (splitP r.path).1.2 (getT t (splitP r.path).1.1).1.stat.cversion).1).2 = 0) (e : creE t r = 0)
theorem creE_cases (t : ATree) (r : ARequest) : CreC t r := by
  by_cases a : r.flags < 0 ∨ 3 < r.flags
  · exact .flags a (by unfold creE serR dirR; rw [if_pos a])
  by_cases b : (splitP r.path).2 = 0
  case neg => exact .form (by omega) b (by unfold creE serR dirR; rw [if_neg a, if_neg b])
  by_cases c : r.session ∈ t.sessions
  case neg => exact .shut (by omega) b c (by unfold creE serR dirR; rw [if_neg a, if_pos b, if_neg c])
  by_cases d : 2 ≤ r.flags
  case neg => exact .plain (by omega) b c (by unfold creE serR dirR; rw [if_neg a, if_pos b, if_pos c, if_neg d])
  by_cases e : (getT t (splitP r.path).1.1).2 = 0
  case neg => exact .lack (by omega) b c e (by unfold creE serR dirR; rw [if_neg a, if_pos b, if_pos c, if_pos d, if_neg e])
  by_cases f : (serP (splitP r.path).1.2 (getT t (splitP r.path).1.1).1.stat.cversion).2 = 0
  case neg => exact .ser (by omega) b c e f (by unfold creE serR dirR; rw [if_neg a, if_pos b, if_pos c, if_pos d, if_pos e, if_neg f])
  by_cases g : (joinP (splitP r.path).1.1 (serP (splitP r.path).1.2 (getT t (splitP r.path).1.1).1.stat.cversion).1).2 = 0
  · exact .done (by omega) b c e f g (by unfold creE serR dirR; rw [if_neg a, if_pos b, if_pos c, if_pos d, if_pos e, if_pos f, g])
  · exact .join (by omega) b c e f g (by unfold creE serR dirR; rw [if_neg a, if_pos b, if_pos c, if_pos d, if_pos e, if_pos f])
set_option maxHeartbeats 8000000 in
theorem prep3_c (t : ATree) (z : Int) (r : ARequest) (ht : okT t) (hr : r.wf) (hp : r.path.length ≤ 1048576) (hz : okI z) (hq : askOk t z r) (o : r.op = 3) : acall Tryd.prog [] 54 [t.av, I z, r.av] (ret (.tup [(prepN t z r).1.av, I (prepN t z r).2])) := by
  have hgc := (tgood_c t ht.1).re (congrArg B hq.1)
  have hzc := (zgood_c z).re (congrArg B (decide_eq_true hq.2.1))
  obtain ⟨hs1, hs2⟩ := hq.2.2
  have hri := good_rises hq.1
  have hrs := good_sess hq.1
  obtain ⟨sl1, sl2⟩ := split_small r.path
  have hcv := (getT_wf ht.1 (splitP r.path).1.1).2.2.2.2.2.2.1
  have hsr := serP_le (splitP r.path).1.2 (getT t (splitP r.path).1.1).1.stat.cversion
  have hx := prepX3 (t := t) (z := z) (r := r) o
  have hcc := creE_cases t r
  have m0 : Int.tmod 0 2 = 0 := by decide
  have m1 : Int.tmod 1 2 = 1 := by decide
  have m2 : Int.tmod 2 2 = 0 := by decide
  have m3 : Int.tmod 3 2 = 1 := by decide
  have b1 : bits .and .i64 0 2 = 0 := by decide +kernel
  have b2 : bits .and .i64 1 2 = 0 := by decide +kernel
  have b3 : bits .and .i64 2 2 = 2 := by decide +kernel
  have b4 : bits .and .i64 3 2 = 2 := by decide +kernel
  have b5 : bits .and .i64 0 1 = 0 := by decide +kernel
  have b6 : bits .and .i64 1 1 = 1 := by decide +kernel
  have b7 : bits .and .i64 2 1 = 0 := by decide +kernel
  have b8 : bits .and .i64 3 1 = 1 := by decide +kernel
  rcases hcc with ⟨h, e⟩ | ⟨h, h2, e⟩ | ⟨h, h2, h3, e⟩ | ⟨h, h2, h3, e⟩ | ⟨h, h2, h3, h4, e⟩ | ⟨h, h2, h3, h4, h5, e⟩ | ⟨h, h2, h3, h4, h5, h6, e⟩ | ⟨h, h2, h3, h4, h5, h6, e⟩
  · skip
    rw [prep_bad hq hx (by omega), e]
    refine zi tabOk Tryd.func54 rfl (by kernel_rfl) (by simp [Tryd.ntmps54]) ?_; simp only [Tryd.ntmps54, Tryd.results54, List.toList_toArray, apar, List.length_nil, List.length_cons, Nat.reduceAdd]
    (repeat' first
  | (with_reducible refine AR.f ?_)
  | refine zb (by decide) ?_
  | (with_reducible refine AWP.cond rfl ?_ ?_ <;> intro hc <;> (try simp only [hcs, beq_iff_eq, ge_iff_le, gt_iff_lt] at hc))
  | (refine zh fun Kk hKk => (zi tabOk Tryd.func115 rfl (by kernel_rfl) (by simp [Tryd.ntmps115]) ?_); simp only [Tryd.ntmps115, Tryd.results115, List.toList_toArray, apar, List.length_nil, List.length_cons, Nat.reduceAdd, List.length_append, List.length_set, go_sem])
  | ((first | ((first | refine zP ((Plan.takes [0, 1, 2, 3, 4, 6, 7] (.fork 5 (Plan.takes [8, 9, 10, 11] .done) 8 (Plan.takes [5, 9, 10, 11] .done)))) (by decide +kernel) ?_ | (with_reducible first | refine zR ?_ | refine zQ (by decide +kernel) ?_ | refine zD (by decide +kernel) ?_ | refine zE (by decide +kernel) ?_ | refine zG (by decide +kernel) ?_)); intro K hK) | ((first | refine zA hgc ?_ ?_ ?_ ?_ ?_ | refine zA hzc ?_ ?_ ?_ ?_ ?_); (focus exact rfl); (focus exact rfl); iterate 2 (focus ((try simp (disch := omega) only [go_sem, wn, o]) <;> (try omega) <;> fail))) | ((first | refine zN hgc rfl ?_ ?_ | refine zN hzc rfl ?_ ?_); (focus ((try simp (disch := omega) only [go_sem, wn, o]) <;> (try omega) <;> fail))) | (first | ((first | refine zX hgc rfl ?_ ?_ | refine zy hgc ?_ ?_); (focus ((try simp (disch := omega) only [go_sem, wn, o]) <;> (try omega) <;> fail))) | ((first | refine zX hzc rfl ?_ ?_ | refine zy hzc ?_ ?_); (focus ((try simp (disch := omega) only [go_sem, wn, o]) <;> (try omega) <;> fail)))) | (refine zw (v := ?_) hKk (by first | exact .inl rfl | exact .inr rfl) ?_ ?_ ?_; rotate_left; (focus ((try simp (disch := omega) only [go_sem, wn, o]) <;> (try omega) <;> fail)); (focus ((try simp (disch := omega) only [go_sem, wn, o]) <;> (first | done | exact rfl))); clear hKk Kk) | ((first | (with_reducible refine zu ?_ ?_ <;> intro hg) | with_reducible intro hg) <;> (first | (exfalso; simp at hg; done) | (have hg' := hg; (try simp only [hcs, beq_iff_eq, ge_iff_le, gt_iff_lt] at hg'); (try simp only [hg]))))) <;> (try simp (disch := omega) only [go_sem, wn, o]) <;> (repeat' with_reducible refine And.intro ?_ ?_) <;> (try (with_reducible refine hK _ ?_; clear hK K)))
  | omega)
    all_goals first | (exfalso; omega) | ((refine zF rfl ?_ ?_ ?_ ?_; (iterate 3 (focus ((try simp (disch := omega) only [go_sem, wn, default]) <;> (try omega) <;> fail))); (try simp (disch := omega) only [go_sem, wn, default, I, B, S, inj, List.cons.injEq, and_true, true_and, and_self])); done)
  · skip
    rw [prep_bad hq hx (by omega), e]
    have hsp := split_c r.path hr.2.2.1
    refine zi tabOk Tryd.func54 rfl (by kernel_rfl) (by simp [Tryd.ntmps54]) ?_; simp only [Tryd.ntmps54, Tryd.results54, List.toList_toArray, apar, List.length_nil, List.length_cons, Nat.reduceAdd]
    (repeat' first
  | (with_reducible refine AR.f ?_)
  | refine zb (by decide) ?_
  | (with_reducible refine AWP.cond rfl ?_ ?_ <;> intro hc <;> (try simp only [hcs, beq_iff_eq, ge_iff_le, gt_iff_lt] at hc))
  | (refine zh fun Kk hKk => (zi tabOk Tryd.func115 rfl (by kernel_rfl) (by simp [Tryd.ntmps115]) ?_); simp only [Tryd.ntmps115, Tryd.results115, List.toList_toArray, apar, List.length_nil, List.length_cons, Nat.reduceAdd, List.length_append, List.length_set, go_sem])
  | ((first | ((first | refine zP ((Plan.takes [0, 1, 2, 3, 4, 6, 7] (.fork 5 (Plan.takes [8, 9, 10, 11] .done) 8 (Plan.takes [5, 9, 10, 11] .done)))) (by decide +kernel) ?_ | (with_reducible first | refine zR ?_ | refine zQ (by decide +kernel) ?_ | refine zD (by decide +kernel) ?_ | refine zE (by decide +kernel) ?_ | refine zG (by decide +kernel) ?_)); intro K hK) | ((first | refine zA hgc ?_ ?_ ?_ ?_ ?_ | refine zA hzc ?_ ?_ ?_ ?_ ?_ | refine zA hsp ?_ ?_ ?_ ?_ ?_); (focus exact rfl); (focus exact rfl); iterate 2 (focus ((try simp (disch := omega) only [go_sem, wn, o]) <;> (try omega) <;> fail))) | ((first | refine zN hgc rfl ?_ ?_ | refine zN hzc rfl ?_ ?_ | refine zN hsp rfl ?_ ?_); (focus ((try simp (disch := omega) only [go_sem, wn, o]) <;> (try omega) <;> fail))) | (first | ((first | refine zX hgc rfl ?_ ?_ | refine zy hgc ?_ ?_); (focus ((try simp (disch := omega) only [go_sem, wn, o]) <;> (try omega) <;> fail))) | ((first | refine zX hzc rfl ?_ ?_ | refine zy hzc ?_ ?_); (focus ((try simp (disch := omega) only [go_sem, wn, o]) <;> (try omega) <;> fail))) | ((first | refine zX hsp rfl ?_ ?_ | refine zy hsp ?_ ?_); (focus ((try simp (disch := omega) only [go_sem, wn, o]) <;> (try omega) <;> fail)))) | (refine zw (v := ?_) hKk (by first | exact .inl rfl | exact .inr rfl) ?_ ?_ ?_; rotate_left; (focus ((try simp (disch := omega) only [go_sem, wn, o]) <;> (try omega) <;> fail)); (focus ((try simp (disch := omega) only [go_sem, wn, o]) <;> (first | done | exact rfl))); clear hKk Kk) | ((first | (with_reducible refine zu ?_ ?_ <;> intro hg) | with_reducible intro hg) <;> (first | (exfalso; simp at hg; done) | (have hg' := hg; (try simp only [hcs, beq_iff_eq, ge_iff_le, gt_iff_lt] at hg'); (try simp only [hg]))))) <;> (try simp (disch := omega) only [go_sem, wn, o]) <;> (repeat' with_reducible refine And.intro ?_ ?_) <;> (try (with_reducible refine hK _ ?_; clear hK K)))
  | omega)
    all_goals first | (exfalso; omega) | ((refine zF rfl ?_ ?_ ?_ ?_; (iterate 3 (focus ((try simp (disch := omega) only [go_sem, wn, default]) <;> (try omega) <;> fail))); (try simp (disch := omega) only [go_sem, wn, default, I, B, S, inj, List.cons.injEq, and_true, true_and, and_self])); done)
  · skip
    rw [prep_bad hq hx (by omega), e]
    have hsp := split_c r.path hr.2.2.1
    rw [h2] at hsp
    have hop := (open_c t r.session ht.1.2.2.1 hrs).re (congrArg B (decide_eq_false h3))
    refine zi tabOk Tryd.func54 rfl (by kernel_rfl) (by simp [Tryd.ntmps54]) ?_; simp only [Tryd.ntmps54, Tryd.results54, List.toList_toArray, apar, List.length_nil, List.length_cons, Nat.reduceAdd]
    (repeat' first
  | (with_reducible refine AR.f ?_)
  | refine zb (by decide) ?_
  | (with_reducible refine AWP.cond rfl ?_ ?_ <;> intro hc <;> (try simp only [hcs, beq_iff_eq, ge_iff_le, gt_iff_lt] at hc))
  | (refine zh fun Kk hKk => (zi tabOk Tryd.func115 rfl (by kernel_rfl) (by simp [Tryd.ntmps115]) ?_); simp only [Tryd.ntmps115, Tryd.results115, List.toList_toArray, apar, List.length_nil, List.length_cons, Nat.reduceAdd, List.length_append, List.length_set, go_sem])
  | ((first | ((first | refine zP ((Plan.takes [0, 1, 2, 3, 4, 6, 7] (.fork 5 (Plan.takes [8, 9, 10, 11] .done) 8 (Plan.takes [5, 9, 10, 11] .done)))) (by decide +kernel) ?_ | (with_reducible first | refine zR ?_ | refine zQ (by decide +kernel) ?_ | refine zD (by decide +kernel) ?_ | refine zE (by decide +kernel) ?_ | refine zG (by decide +kernel) ?_)); intro K hK) | ((first | refine zA hgc ?_ ?_ ?_ ?_ ?_ | refine zA hzc ?_ ?_ ?_ ?_ ?_ | refine zA hsp ?_ ?_ ?_ ?_ ?_ | refine zA hop ?_ ?_ ?_ ?_ ?_); (focus exact rfl); (focus exact rfl); iterate 2 (focus ((try simp (disch := omega) only [go_sem, wn, o]) <;> (try omega) <;> fail))) | ((first | refine zN hgc rfl ?_ ?_ | refine zN hzc rfl ?_ ?_ | refine zN hsp rfl ?_ ?_ | refine zN hop rfl ?_ ?_); (focus ((try simp (disch := omega) only [go_sem, wn, o]) <;> (try omega) <;> fail))) | (first | ((first | refine zX hgc rfl ?_ ?_ | refine zy hgc ?_ ?_); (focus ((try simp (disch := omega) only [go_sem, wn, o]) <;> (try omega) <;> fail))) | ((first | refine zX hzc rfl ?_ ?_ | refine zy hzc ?_ ?_); (focus ((try simp (disch := omega) only [go_sem, wn, o]) <;> (try omega) <;> fail))) | ((first | refine zX hsp rfl ?_ ?_ | refine zy hsp ?_ ?_); (focus ((try simp (disch := omega) only [go_sem, wn, o]) <;> (try omega) <;> fail))) | ((first | refine zX hop rfl ?_ ?_ | refine zy hop ?_ ?_); (focus ((try simp (disch := omega) only [go_sem, wn, o]) <;> (try omega) <;> fail)))) | (refine zw (v := ?_) hKk (by first | exact .inl rfl | exact .inr rfl) ?_ ?_ ?_; rotate_left; (focus ((try simp (disch := omega) only [go_sem, wn, o]) <;> (try omega) <;> fail)); (focus ((try simp (disch := omega) only [go_sem, wn, o]) <;> (first | done | exact rfl))); clear hKk Kk) | ((first | (with_reducible refine zu ?_ ?_ <;> intro hg) | with_reducible intro hg) <;> (first | (exfalso; simp at hg; done) | (have hg' := hg; (try simp only [hcs, beq_iff_eq, ge_iff_le, gt_iff_lt] at hg'); (try simp only [hg]))))) <;> (try simp (disch := omega) only [go_sem, wn, o]) <;> (repeat' with_reducible refine And.intro ?_ ?_) <;> (try (with_reducible refine hK _ ?_; clear hK K)))
  | omega)
    all_goals first | (exfalso; omega) | ((refine zF rfl ?_ ?_ ?_ ?_; (iterate 3 (focus ((try simp (disch := omega) only [go_sem, wn, default]) <;> (try omega) <;> fail))); (try simp (disch := omega) only [go_sem, wn, default, I, B, S, inj, List.cons.injEq, and_true, true_and, and_self])); done)
  · rw [e] at hx
    have hsp := split_c r.path hr.2.2.1
    rw [h2] at hsp
    have hop := (open_c t r.session ht.1.2.2.1 hrs).re (congrArg B (decide_eq_true h3))
    rcases h with h | h
    · skip
      have hcp : creP t r = r.path := by unfold creP; rw [if_neg (by omega)]
      have hco : creO r = 0 := by unfold creO; rw [if_neg (by omega)]
      rw [hcp, hco] at hx
      have hxw := prepX_wf (z := z) ht hr hp hz
      rw [hx] at hxw
      simp only at hxw
      have ha := apply_c t ⟨z, 3, r.session, r.path, r.data, 0, 0⟩ ht.1 hxw.1.2.2.2.1 hxw.1.2.2.2.2.1
      rw [prep_go hq hx]
      generalize applyT t ⟨z, 3, r.session, r.path, r.data, 0, 0⟩ = q at ha ⊢
      obtain ⟨a, es, e⟩ := q
      simp only at ha ⊢
      refine zi tabOk Tryd.func54 rfl (by kernel_rfl) (by simp [Tryd.ntmps54]) ?_; simp only [Tryd.ntmps54, Tryd.results54, List.toList_toArray, apar, List.length_nil, List.length_cons, Nat.reduceAdd]
      (repeat' first
    | (with_reducible refine AR.f ?_)
    | refine zb (by decide) ?_
    | (with_reducible refine AWP.cond rfl ?_ ?_ <;> intro hc <;> (try simp only [hcs, beq_iff_eq, ge_iff_le, gt_iff_lt] at hc))
    | (refine zh fun Kk hKk => (zi tabOk Tryd.func115 rfl (by kernel_rfl) (by simp [Tryd.ntmps115]) ?_); simp only [Tryd.ntmps115, Tryd.results115, List.toList_toArray, apar, List.length_nil, List.length_cons, Nat.reduceAdd, List.length_append, List.length_set, go_sem])
    | ((first | ((first | refine zP ((Plan.takes [0, 1, 2, 3, 4, 6, 7] (.fork 5 (Plan.takes [8, 9, 10, 11] .done) 8 (Plan.takes [5, 9, 10, 11] .done)))) (by decide +kernel) ?_ | (with_reducible first | refine zR ?_ | refine zQ (by decide +kernel) ?_ | refine zD (by decide +kernel) ?_ | refine zE (by decide +kernel) ?_ | refine zG (by decide +kernel) ?_)); intro K hK) | ((first | refine zA hgc ?_ ?_ ?_ ?_ ?_ | refine zA hzc ?_ ?_ ?_ ?_ ?_ | refine zA hsp ?_ ?_ ?_ ?_ ?_ | refine zA hop ?_ ?_ ?_ ?_ ?_ | refine zA ha ?_ ?_ ?_ ?_ ?_); (focus exact rfl); (focus exact rfl); iterate 2 (focus ((try simp (disch := omega) only [go_sem, wn, o, h, b1, b2, b3, b4, b5, b6, b7, b8]) <;> (try omega) <;> fail))) | ((first | refine zN hgc rfl ?_ ?_ | refine zN hzc rfl ?_ ?_ | refine zN hsp rfl ?_ ?_ | refine zN hop rfl ?_ ?_ | refine zN ha rfl ?_ ?_); (focus ((try simp (disch := omega) only [go_sem, wn, o, h, b1, b2, b3, b4, b5, b6, b7, b8]) <;> (try omega) <;> fail))) | (first | ((first | refine zX hgc rfl ?_ ?_ | refine zy hgc ?_ ?_); (focus ((try simp (disch := omega) only [go_sem, wn, o, h, b1, b2, b3, b4, b5, b6, b7, b8]) <;> (try omega) <;> fail))) | ((first | refine zX hzc rfl ?_ ?_ | refine zy hzc ?_ ?_); (focus ((try simp (disch := omega) only [go_sem, wn, o, h, b1, b2, b3, b4, b5, b6, b7, b8]) <;> (try omega) <;> fail))) | ((first | refine zX hsp rfl ?_ ?_ | refine zy hsp ?_ ?_); (focus ((try simp (disch := omega) only [go_sem, wn, o, h, b1, b2, b3, b4, b5, b6, b7, b8]) <;> (try omega) <;> fail))) | ((first | refine zX hop rfl ?_ ?_ | refine zy hop ?_ ?_); (focus ((try simp (disch := omega) only [go_sem, wn, o, h, b1, b2, b3, b4, b5, b6, b7, b8]) <;> (try omega) <;> fail))) | ((first | refine zX ha rfl ?_ ?_ | refine zy ha ?_ ?_); (focus ((try simp (disch := omega) only [go_sem, wn, o, h, b1, b2, b3, b4, b5, b6, b7, b8]) <;> (try omega) <;> fail)))) | (refine zw (v := ?_) hKk (by first | exact .inl rfl | exact .inr rfl) ?_ ?_ ?_; rotate_left; (focus ((try simp (disch := omega) only [go_sem, wn, o, h, b1, b2, b3, b4, b5, b6, b7, b8]) <;> (try omega) <;> fail)); (focus ((try simp (disch := omega) only [go_sem, wn, o, h, b1, b2, b3, b4, b5, b6, b7, b8]) <;> (first | done | exact rfl))); clear hKk Kk) | ((first | (with_reducible refine zu ?_ ?_ <;> intro hg) | with_reducible intro hg) <;> (first | (exfalso; simp at hg; done) | (have hg' := hg; (try simp only [hcs, beq_iff_eq, ge_iff_le, gt_iff_lt] at hg'); (try simp only [hg]))))) <;> (try simp (disch := omega) only [go_sem, wn, o, h, b1, b2, b3, b4, b5, b6, b7, b8]) <;> (repeat' with_reducible refine And.intro ?_ ?_) <;> (try (with_reducible refine hK _ ?_; clear hK K)))
    | omega)
      all_goals first
        | (exfalso; omega)
        | (rw [if_pos (by omega)]; (refine zF rfl ?_ ?_ ?_ ?_; (iterate 3 (focus ((try simp (disch := omega) only [go_sem, wn, I, S]) <;> (try omega) <;> fail))); (try simp (disch := omega) only [go_sem, wn, I, S, I, B, S, inj, List.cons.injEq, and_true, true_and, and_self])); done)
        | (rw [if_neg (by omega)]; (refine zF rfl ?_ ?_ ?_ ?_; (iterate 3 (focus ((try simp (disch := omega) only [go_sem, wn, default]) <;> (try omega) <;> fail))); (try simp (disch := omega) only [go_sem, wn, default, I, B, S, inj, List.cons.injEq, and_true, true_and, and_self])); done)
    · skip
      have hcp : creP t r = r.path := by unfold creP; rw [if_neg (by omega)]
      have hco : creO r = r.session := by unfold creO; rw [if_pos (by omega)]
      rw [hcp, hco] at hx
      have hxw := prepX_wf (z := z) ht hr hp hz
      rw [hx] at hxw
      simp only at hxw
      have ha := apply_c t ⟨z, 3, r.session, r.path, r.data, 0, r.session⟩ ht.1 hxw.1.2.2.2.1 hxw.1.2.2.2.2.1
      rw [prep_go hq hx]
      generalize applyT t ⟨z, 3, r.session, r.path, r.data, 0, r.session⟩ = q at ha ⊢
      obtain ⟨a, es, e⟩ := q
      simp only at ha ⊢
      refine zi tabOk Tryd.func54 rfl (by kernel_rfl) (by simp [Tryd.ntmps54]) ?_; simp only [Tryd.ntmps54, Tryd.results54, List.toList_toArray, apar, List.length_nil, List.length_cons, Nat.reduceAdd]
      (repeat' first
    | (with_reducible refine AR.f ?_)
    | refine zb (by decide) ?_
    | (with_reducible refine AWP.cond rfl ?_ ?_ <;> intro hc <;> (try simp only [hcs, beq_iff_eq, ge_iff_le, gt_iff_lt] at hc))
    | (refine zh fun Kk hKk => (zi tabOk Tryd.func115 rfl (by kernel_rfl) (by simp [Tryd.ntmps115]) ?_); simp only [Tryd.ntmps115, Tryd.results115, List.toList_toArray, apar, List.length_nil, List.length_cons, Nat.reduceAdd, List.length_append, List.length_set, go_sem])
    | ((first | ((first | refine zP ((Plan.takes [0, 1, 2, 3, 4, 6, 7] (.fork 5 (Plan.takes [8, 9, 10, 11] .done) 8 (Plan.takes [5, 9, 10, 11] .done)))) (by decide +kernel) ?_ | (with_reducible first | refine zR ?_ | refine zQ (by decide +kernel) ?_ | refine zD (by decide +kernel) ?_ | refine zE (by decide +kernel) ?_ | refine zG (by decide +kernel) ?_)); intro K hK) | ((first | refine zA hgc ?_ ?_ ?_ ?_ ?_ | refine zA hzc ?_ ?_ ?_ ?_ ?_ | refine zA hsp ?_ ?_ ?_ ?_ ?_ | refine zA hop ?_ ?_ ?_ ?_ ?_ | refine zA ha ?_ ?_ ?_ ?_ ?_); (focus exact rfl); (focus exact rfl); iterate 2 (focus ((try simp (disch := omega) only [go_sem, wn, o, h, b1, b2, b3, b4, b5, b6, b7, b8]) <;> (try omega) <;> fail))) | ((first | refine zN hgc rfl ?_ ?_ | refine zN hzc rfl ?_ ?_ | refine zN hsp rfl ?_ ?_ | refine zN hop rfl ?_ ?_ | refine zN ha rfl ?_ ?_); (focus ((try simp (disch := omega) only [go_sem, wn, o, h, b1, b2, b3, b4, b5, b6, b7, b8]) <;> (try omega) <;> fail))) | (first | ((first | refine zX hgc rfl ?_ ?_ | refine zy hgc ?_ ?_); (focus ((try simp (disch := omega) only [go_sem, wn, o, h, b1, b2, b3, b4, b5, b6, b7, b8]) <;> (try omega) <;> fail))) | ((first | refine zX hzc rfl ?_ ?_ | refine zy hzc ?_ ?_); (focus ((try simp (disch := omega) only [go_sem, wn, o, h, b1, b2, b3, b4, b5, b6, b7, b8]) <;> (try omega) <;> fail))) | ((first | refine zX hsp rfl ?_ ?_ | refine zy hsp ?_ ?_); (focus ((try simp (disch := omega) only [go_sem, wn, o, h, b1, b2, b3, b4, b5, b6, b7, b8]) <;> (try omega) <;> fail))) | ((first | refine zX hop rfl ?_ ?_ | refine zy hop ?_ ?_); (focus ((try simp (disch := omega) only [go_sem, wn, o, h, b1, b2, b3, b4, b5, b6, b7, b8]) <;> (try omega) <;> fail))) | ((first | refine zX ha rfl ?_ ?_ | refine zy ha ?_ ?_); (focus ((try simp (disch := omega) only [go_sem, wn, o, h, b1, b2, b3, b4, b5, b6, b7, b8]) <;> (try omega) <;> fail)))) | (refine zw (v := ?_) hKk (by first | exact .inl rfl | exact .inr rfl) ?_ ?_ ?_; rotate_left; (focus ((try simp (disch := omega) only [go_sem, wn, o, h, b1, b2, b3, b4, b5, b6, b7, b8]) <;> (try omega) <;> fail)); (focus ((try simp (disch := omega) only [go_sem, wn, o, h, b1, b2, b3, b4, b5, b6, b7, b8]) <;> (first | done | exact rfl))); clear hKk Kk) | ((first | (with_reducible refine zu ?_ ?_ <;> intro hg) | with_reducible intro hg) <;> (first | (exfalso; simp at hg; done) | (have hg' := hg; (try simp only [hcs, beq_iff_eq, ge_iff_le, gt_iff_lt] at hg'); (try simp only [hg]))))) <;> (try simp (disch := omega) only [go_sem, wn, o, h, b1, b2, b3, b4, b5, b6, b7, b8]) <;> (repeat' with_reducible refine And.intro ?_ ?_) <;> (try (with_reducible refine hK _ ?_; clear hK K)))
    | omega)
      all_goals first
        | (exfalso; omega)
        | (rw [if_pos (by omega)]; (refine zF rfl ?_ ?_ ?_ ?_; (iterate 3 (focus ((try simp (disch := omega) only [go_sem, wn, I, S]) <;> (try omega) <;> fail))); (try simp (disch := omega) only [go_sem, wn, I, S, I, B, S, inj, List.cons.injEq, and_true, true_and, and_self])); done)
        | (rw [if_neg (by omega)]; (refine zF rfl ?_ ?_ ?_ ?_; (iterate 3 (focus ((try simp (disch := omega) only [go_sem, wn, default]) <;> (try omega) <;> fail))); (try simp (disch := omega) only [go_sem, wn, default, I, B, S, inj, List.cons.injEq, and_true, true_and, and_self])); done)
  · skip
    rw [prep_bad hq hx (by omega), e]
    have hsp := split_c r.path hr.2.2.1
    rw [h2] at hsp
    have hop := (open_c t r.session ht.1.2.2.1 hrs).re (congrArg B (decide_eq_true h3))
    have hgn := getT_c t (splitP r.path).1.1 ht.1.2.1.1 hri
    generalize (getT t (splitP r.path).1.1).2 = e1 at h4 hgn ⊢
    rcases h with h | h
    all_goals
      refine zi tabOk Tryd.func54 rfl (by kernel_rfl) (by simp [Tryd.ntmps54]) ?_; simp only [Tryd.ntmps54, Tryd.results54, List.toList_toArray, apar, List.length_nil, List.length_cons, Nat.reduceAdd]
      (repeat' first
    | (with_reducible refine AR.f ?_)
    | refine zb (by decide) ?_
    | (with_reducible refine AWP.cond rfl ?_ ?_ <;> intro hc <;> (try simp only [hcs, beq_iff_eq, ge_iff_le, gt_iff_lt] at hc))
    | (refine zh fun Kk hKk => (zi tabOk Tryd.func115 rfl (by kernel_rfl) (by simp [Tryd.ntmps115]) ?_); simp only [Tryd.ntmps115, Tryd.results115, List.toList_toArray, apar, List.length_nil, List.length_cons, Nat.reduceAdd, List.length_append, List.length_set, go_sem])
    | ((first | ((first | refine zP ((Plan.takes [0, 1, 2, 3, 4, 6, 7] (.fork 5 (Plan.takes [8, 9, 10, 11] .done) 8 (Plan.takes [5, 9, 10, 11] .done)))) (by decide +kernel) ?_ | (with_reducible first | refine zR ?_ | refine zQ (by decide +kernel) ?_ | refine zD (by decide +kernel) ?_ | refine zE (by decide +kernel) ?_ | refine zG (by decide +kernel) ?_)); intro K hK) | ((first | refine zA hgc ?_ ?_ ?_ ?_ ?_ | refine zA hzc ?_ ?_ ?_ ?_ ?_ | refine zA hsp ?_ ?_ ?_ ?_ ?_ | refine zA hop ?_ ?_ ?_ ?_ ?_ | refine zA hgn ?_ ?_ ?_ ?_ ?_); (focus exact rfl); (focus exact rfl); iterate 2 (focus ((try simp (disch := omega) only [go_sem, wn, o, h, b1, b2, b3, b4, b5, b6, b7, b8]) <;> (try omega) <;> fail))) | ((first | refine zN hgc rfl ?_ ?_ | refine zN hzc rfl ?_ ?_ | refine zN hsp rfl ?_ ?_ | refine zN hop rfl ?_ ?_ | refine zN hgn rfl ?_ ?_); (focus ((try simp (disch := omega) only [go_sem, wn, o, h, b1, b2, b3, b4, b5, b6, b7, b8]) <;> (try omega) <;> fail))) | (first | ((first | refine zX hgc rfl ?_ ?_ | refine zy hgc ?_ ?_); (focus ((try simp (disch := omega) only [go_sem, wn, o, h, b1, b2, b3, b4, b5, b6, b7, b8]) <;> (try omega) <;> fail))) | ((first | refine zX hzc rfl ?_ ?_ | refine zy hzc ?_ ?_); (focus ((try simp (disch := omega) only [go_sem, wn, o, h, b1, b2, b3, b4, b5, b6, b7, b8]) <;> (try omega) <;> fail))) | ((first | refine zX hsp rfl ?_ ?_ | refine zy hsp ?_ ?_); (focus ((try simp (disch := omega) only [go_sem, wn, o, h, b1, b2, b3, b4, b5, b6, b7, b8]) <;> (try omega) <;> fail))) | ((first | refine zX hop rfl ?_ ?_ | refine zy hop ?_ ?_); (focus ((try simp (disch := omega) only [go_sem, wn, o, h, b1, b2, b3, b4, b5, b6, b7, b8]) <;> (try omega) <;> fail))) | ((first | refine zX hgn rfl ?_ ?_ | refine zy hgn ?_ ?_); (focus ((try simp (disch := omega) only [go_sem, wn, o, h, b1, b2, b3, b4, b5, b6, b7, b8]) <;> (try omega) <;> fail)))) | (refine zw (v := ?_) hKk (by first | exact .inl rfl | exact .inr rfl) ?_ ?_ ?_; rotate_left; (focus ((try simp (disch := omega) only [go_sem, wn, o, h, b1, b2, b3, b4, b5, b6, b7, b8]) <;> (try omega) <;> fail)); (focus ((try simp (disch := omega) only [go_sem, wn, o, h, b1, b2, b3, b4, b5, b6, b7, b8]) <;> (first | done | exact rfl))); clear hKk Kk) | ((first | (with_reducible refine zu ?_ ?_ <;> intro hg) | with_reducible intro hg) <;> (first | (exfalso; simp at hg; done) | (have hg' := hg; (try simp only [hcs, beq_iff_eq, ge_iff_le, gt_iff_lt] at hg'); (try simp only [hg]))))) <;> (try simp (disch := omega) only [go_sem, wn, o, h, b1, b2, b3, b4, b5, b6, b7, b8]) <;> (repeat' with_reducible refine And.intro ?_ ?_) <;> (try (with_reducible refine hK _ ?_; clear hK K)))
    | omega)
      all_goals first | (exfalso; omega) | ((refine zF rfl ?_ ?_ ?_ ?_; (iterate 3 (focus ((try simp (disch := omega) only [go_sem, wn, default]) <;> (try omega) <;> fail))); (try simp (disch := omega) only [go_sem, wn, default, I, B, S, inj, List.cons.injEq, and_true, true_and, and_self])); done)
  · skip
    rw [prep_bad hq hx (by omega), e]
    have hsp := split_c r.path hr.2.2.1
    rw [h2] at hsp
    have hop := (open_c t r.session ht.1.2.2.1 hrs).re (congrArg B (decide_eq_true h3))
    have hgn := getT_c t (splitP r.path).1.1 ht.1.2.1.1 hri
    rw [h4] at hgn
    have hse := serial_c (splitP r.path).1.2 (getT t (splitP r.path).1.1).1.stat.cversion (by omega) hcv
    generalize (serP (splitP r.path).1.2 (getT t (splitP r.path).1.1).1.stat.cversion).2 = e1 at h5 hse ⊢
    rcases h with h | h
    all_goals
      refine zi tabOk Tryd.func54 rfl (by kernel_rfl) (by simp [Tryd.ntmps54]) ?_; simp only [Tryd.ntmps54, Tryd.results54, List.toList_toArray, apar, List.length_nil, List.length_cons, Nat.reduceAdd]
      (repeat' first
    | (with_reducible refine AR.f ?_)
    | refine zb (by decide) ?_
    | (with_reducible refine AWP.cond rfl ?_ ?_ <;> intro hc <;> (try simp only [hcs, beq_iff_eq, ge_iff_le, gt_iff_lt] at hc))
    | (refine zh fun Kk hKk => (zi tabOk Tryd.func115 rfl (by kernel_rfl) (by simp [Tryd.ntmps115]) ?_); simp only [Tryd.ntmps115, Tryd.results115, List.toList_toArray, apar, List.length_nil, List.length_cons, Nat.reduceAdd, List.length_append, List.length_set, go_sem])
    | ((first | ((first | refine zP ((Plan.takes [0, 1, 2, 3, 4, 6, 7] (.fork 5 (Plan.takes [8, 9, 10, 11] .done) 8 (Plan.takes [5, 9, 10, 11] .done)))) (by decide +kernel) ?_ | (with_reducible first | refine zR ?_ | refine zQ (by decide +kernel) ?_ | refine zD (by decide +kernel) ?_ | refine zE (by decide +kernel) ?_ | refine zG (by decide +kernel) ?_)); intro K hK) | ((first | refine zA hgc ?_ ?_ ?_ ?_ ?_ | refine zA hzc ?_ ?_ ?_ ?_ ?_ | refine zA hsp ?_ ?_ ?_ ?_ ?_ | refine zA hop ?_ ?_ ?_ ?_ ?_ | refine zA hgn ?_ ?_ ?_ ?_ ?_ | refine zA hse ?_ ?_ ?_ ?_ ?_); (focus exact rfl); (focus exact rfl); iterate 2 (focus ((try simp (disch := omega) only [go_sem, wn, o, h, b1, b2, b3, b4, b5, b6, b7, b8]) <;> (try omega) <;> fail))) | ((first | refine zN hgc rfl ?_ ?_ | refine zN hzc rfl ?_ ?_ | refine zN hsp rfl ?_ ?_ | refine zN hop rfl ?_ ?_ | refine zN hgn rfl ?_ ?_ | refine zN hse rfl ?_ ?_); (focus ((try simp (disch := omega) only [go_sem, wn, o, h, b1, b2, b3, b4, b5, b6, b7, b8]) <;> (try omega) <;> fail))) | (first | ((first | refine zX hgc rfl ?_ ?_ | refine zy hgc ?_ ?_); (focus ((try simp (disch := omega) only [go_sem, wn, o, h, b1, b2, b3, b4, b5, b6, b7, b8]) <;> (try omega) <;> fail))) | ((first | refine zX hzc rfl ?_ ?_ | refine zy hzc ?_ ?_); (focus ((try simp (disch := omega) only [go_sem, wn, o, h, b1, b2, b3, b4, b5, b6, b7, b8]) <;> (try omega) <;> fail))) | ((first | refine zX hsp rfl ?_ ?_ | refine zy hsp ?_ ?_); (focus ((try simp (disch := omega) only [go_sem, wn, o, h, b1, b2, b3, b4, b5, b6, b7, b8]) <;> (try omega) <;> fail))) | ((first | refine zX hop rfl ?_ ?_ | refine zy hop ?_ ?_); (focus ((try simp (disch := omega) only [go_sem, wn, o, h, b1, b2, b3, b4, b5, b6, b7, b8]) <;> (try omega) <;> fail))) | ((first | refine zX hgn rfl ?_ ?_ | refine zy hgn ?_ ?_); (focus ((try simp (disch := omega) only [go_sem, wn, o, h, b1, b2, b3, b4, b5, b6, b7, b8]) <;> (try omega) <;> fail))) | ((first | refine zX hse rfl ?_ ?_ | refine zy hse ?_ ?_); (focus ((try simp (disch := omega) only [go_sem, wn, o, h, b1, b2, b3, b4, b5, b6, b7, b8]) <;> (try omega) <;> fail)))) | (refine zw (v := ?_) hKk (by first | exact .inl rfl | exact .inr rfl) ?_ ?_ ?_; rotate_left; (focus ((try simp (disch := omega) only [go_sem, wn, o, h, b1, b2, b3, b4, b5, b6, b7, b8]) <;> (try omega) <;> fail)); (focus ((try simp (disch := omega) only [go_sem, wn, o, h, b1, b2, b3, b4, b5, b6, b7, b8]) <;> (first | done | exact rfl))); clear hKk Kk) | ((first | (with_reducible refine zu ?_ ?_ <;> intro hg) | with_reducible intro hg) <;> (first | (exfalso; simp at hg; done) | (have hg' := hg; (try simp only [hcs, beq_iff_eq, ge_iff_le, gt_iff_lt] at hg'); (try simp only [hg]))))) <;> (try simp (disch := omega) only [go_sem, wn, o, h, b1, b2, b3, b4, b5, b6, b7, b8]) <;> (repeat' with_reducible refine And.intro ?_ ?_) <;> (try (with_reducible refine hK _ ?_; clear hK K)))
    | omega)
      all_goals first | (exfalso; omega) | ((refine zF rfl ?_ ?_ ?_ ?_; (iterate 3 (focus ((try simp (disch := omega) only [go_sem, wn, default]) <;> (try omega) <;> fail))); (try simp (disch := omega) only [go_sem, wn, default, I, B, S, inj, List.cons.injEq, and_true, true_and, and_self])); done)
  · skip
    rw [prep_bad hq hx (by omega), e]
    have hsp := split_c r.path hr.2.2.1
    rw [h2] at hsp
    have hop := (open_c t r.session ht.1.2.2.1 hrs).re (congrArg B (decide_eq_true h3))
    have hgn := getT_c t (splitP r.path).1.1 ht.1.2.1.1 hri
    rw [h4] at hgn
    have hse := serial_c (splitP r.path).1.2 (getT t (splitP r.path).1.1).1.stat.cversion (by omega) hcv
    rw [h5] at hse
    have hjo := join_c (splitP r.path).1.1 (serP (splitP r.path).1.2 (getT t (splitP r.path).1.1).1.stat.cversion).1 (by unfold okS; omega) (by unfold okS; omega)
    generalize (joinP (splitP r.path).1.1 (serP (splitP r.path).1.2 (getT t (splitP r.path).1.1).1.stat.cversion).1).2 = e1 at h6 hjo ⊢
    rcases h with h | h
    all_goals
      refine zi tabOk Tryd.func54 rfl (by kernel_rfl) (by simp [Tryd.ntmps54]) ?_; simp only [Tryd.ntmps54, Tryd.results54, List.toList_toArray, apar, List.length_nil, List.length_cons, Nat.reduceAdd]
      (repeat' first
    | (with_reducible refine AR.f ?_)
    | refine zb (by decide) ?_
    | (with_reducible refine AWP.cond rfl ?_ ?_ <;> intro hc <;> (try simp only [hcs, beq_iff_eq, ge_iff_le, gt_iff_lt] at hc))
    | (refine zh fun Kk hKk => (zi tabOk Tryd.func115 rfl (by kernel_rfl) (by simp [Tryd.ntmps115]) ?_); simp only [Tryd.ntmps115, Tryd.results115, List.toList_toArray, apar, List.length_nil, List.length_cons, Nat.reduceAdd, List.length_append, List.length_set, go_sem])
    | ((first | ((first | refine zP ((Plan.takes [0, 1, 2, 3, 4, 6, 7] (.fork 5 (Plan.takes [8, 9, 10, 11] .done) 8 (Plan.takes [5, 9, 10, 11] .done)))) (by decide +kernel) ?_ | (with_reducible first | refine zR ?_ | refine zQ (by decide +kernel) ?_ | refine zD (by decide +kernel) ?_ | refine zE (by decide +kernel) ?_ | refine zG (by decide +kernel) ?_)); intro K hK) | ((first | refine zA hgc ?_ ?_ ?_ ?_ ?_ | refine zA hzc ?_ ?_ ?_ ?_ ?_ | refine zA hsp ?_ ?_ ?_ ?_ ?_ | refine zA hop ?_ ?_ ?_ ?_ ?_ | refine zA hgn ?_ ?_ ?_ ?_ ?_ | refine zA hse ?_ ?_ ?_ ?_ ?_ | refine zA hjo ?_ ?_ ?_ ?_ ?_); (focus exact rfl); (focus exact rfl); iterate 2 (focus ((try simp (disch := omega) only [go_sem, wn, o, h, b1, b2, b3, b4, b5, b6, b7, b8]) <;> (try omega) <;> fail))) | ((first | refine zN hgc rfl ?_ ?_ | refine zN hzc rfl ?_ ?_ | refine zN hsp rfl ?_ ?_ | refine zN hop rfl ?_ ?_ | refine zN hgn rfl ?_ ?_ | refine zN hse rfl ?_ ?_ | refine zN hjo rfl ?_ ?_); (focus ((try simp (disch := omega) only [go_sem, wn, o, h, b1, b2, b3, b4, b5, b6, b7, b8]) <;> (try omega) <;> fail))) | (first | ((first | refine zX hgc rfl ?_ ?_ | refine zy hgc ?_ ?_); (focus ((try simp (disch := omega) only [go_sem, wn, o, h, b1, b2, b3, b4, b5, b6, b7, b8]) <;> (try omega) <;> fail))) | ((first | refine zX hzc rfl ?_ ?_ | refine zy hzc ?_ ?_); (focus ((try simp (disch := omega) only [go_sem, wn, o, h, b1, b2, b3, b4, b5, b6, b7, b8]) <;> (try omega) <;> fail))) | ((first | refine zX hsp rfl ?_ ?_ | refine zy hsp ?_ ?_); (focus ((try simp (disch := omega) only [go_sem, wn, o, h, b1, b2, b3, b4, b5, b6, b7, b8]) <;> (try omega) <;> fail))) | ((first | refine zX hop rfl ?_ ?_ | refine zy hop ?_ ?_); (focus ((try simp (disch := omega) only [go_sem, wn, o, h, b1, b2, b3, b4, b5, b6, b7, b8]) <;> (try omega) <;> fail))) | ((first | refine zX hgn rfl ?_ ?_ | refine zy hgn ?_ ?_); (focus ((try simp (disch := omega) only [go_sem, wn, o, h, b1, b2, b3, b4, b5, b6, b7, b8]) <;> (try omega) <;> fail))) | ((first | refine zX hse rfl ?_ ?_ | refine zy hse ?_ ?_); (focus ((try simp (disch := omega) only [go_sem, wn, o, h, b1, b2, b3, b4, b5, b6, b7, b8]) <;> (try omega) <;> fail))) | ((first | refine zX hjo rfl ?_ ?_ | refine zy hjo ?_ ?_); (focus ((try simp (disch := omega) only [go_sem, wn, o, h, b1, b2, b3, b4, b5, b6, b7, b8]) <;> (try omega) <;> fail)))) | (refine zw (v := ?_) hKk (by first | exact .inl rfl | exact .inr rfl) ?_ ?_ ?_; rotate_left; (focus ((try simp (disch := omega) only [go_sem, wn, o, h, b1, b2, b3, b4, b5, b6, b7, b8]) <;> (try omega) <;> fail)); (focus ((try simp (disch := omega) only [go_sem, wn, o, h, b1, b2, b3, b4, b5, b6, b7, b8]) <;> (first | done | exact rfl))); clear hKk Kk) | ((first | (with_reducible refine zu ?_ ?_ <;> intro hg) | with_reducible intro hg) <;> (first | (exfalso; simp at hg; done) | (have hg' := hg; (try simp only [hcs, beq_iff_eq, ge_iff_le, gt_iff_lt] at hg'); (try simp only [hg]))))) <;> (try simp (disch := omega) only [go_sem, wn, o, h, b1, b2, b3, b4, b5, b6, b7, b8]) <;> (repeat' with_reducible refine And.intro ?_ ?_) <;> (try (with_reducible refine hK _ ?_; clear hK K)))
    | omega)
      all_goals first | (exfalso; omega) | ((refine zF rfl ?_ ?_ ?_ ?_; (iterate 3 (focus ((try simp (disch := omega) only [go_sem, wn, default]) <;> (try omega) <;> fail))); (try simp (disch := omega) only [go_sem, wn, default, I, B, S, inj, List.cons.injEq, and_true, true_and, and_self])); done)
  · rw [e] at hx
    have hsp := split_c r.path hr.2.2.1
    rw [h2] at hsp
    have hop := (open_c t r.session ht.1.2.2.1 hrs).re (congrArg B (decide_eq_true h3))
    have hgn := getT_c t (splitP r.path).1.1 ht.1.2.1.1 hri
    rw [h4] at hgn
    have hse := serial_c (splitP r.path).1.2 (getT t (splitP r.path).1.1).1.stat.cversion (by omega) hcv
    rw [h5] at hse
    have hjo := join_c (splitP r.path).1.1 (serP (splitP r.path).1.2 (getT t (splitP r.path).1.1).1.stat.cversion).1 (by unfold okS; omega) (by unfold okS; omega)
    rw [h6] at hjo
    rcases h with h | h
    · skip
      have hcp : creP t r = (joinP (splitP r.path).1.1 (serP (splitP r.path).1.2 (getT t (splitP r.path).1.1).1.stat.cversion).1).1 := by unfold creP; rw [if_pos (by omega)]; rfl
      have hco : creO r = 0 := by unfold creO; rw [if_neg (by omega)]
      rw [hcp, hco] at hx
      have hxw := prepX_wf (z := z) ht hr hp hz
      rw [hx] at hxw
      simp only at hxw
      have ha := apply_c t ⟨z, 3, r.session, (joinP (splitP r.path).1.1 (serP (splitP r.path).1.2 (getT t (splitP r.path).1.1).1.stat.cversion).1).1, r.data, 0, 0⟩ ht.1 hxw.1.2.2.2.1 hxw.1.2.2.2.2.1
      rw [prep_go hq hx]
      generalize applyT t ⟨z, 3, r.session, (joinP (splitP r.path).1.1 (serP (splitP r.path).1.2 (getT t (splitP r.path).1.1).1.stat.cversion).1).1, r.data, 0, 0⟩ = q at ha ⊢
      obtain ⟨a, es, e⟩ := q
      simp only at ha ⊢
      refine zi tabOk Tryd.func54 rfl (by kernel_rfl) (by simp [Tryd.ntmps54]) ?_; simp only [Tryd.ntmps54, Tryd.results54, List.toList_toArray, apar, List.length_nil, List.length_cons, Nat.reduceAdd]
      (repeat' first
    | (with_reducible refine AR.f ?_)
    | refine zb (by decide) ?_
    | (with_reducible refine AWP.cond rfl ?_ ?_ <;> intro hc <;> (try simp only [hcs, beq_iff_eq, ge_iff_le, gt_iff_lt] at hc))
    | (refine zh fun Kk hKk => (zi tabOk Tryd.func115 rfl (by kernel_rfl) (by simp [Tryd.ntmps115]) ?_); simp only [Tryd.ntmps115, Tryd.results115, List.toList_toArray, apar, List.length_nil, List.length_cons, Nat.reduceAdd, List.length_append, List.length_set, go_sem])
    | ((first | ((first | refine zP ((Plan.takes [0, 1, 2, 3, 4, 6, 7] (.fork 5 (Plan.takes [8, 9, 10, 11] .done) 8 (Plan.takes [5, 9, 10, 11] .done)))) (by decide +kernel) ?_ | (with_reducible first | refine zR ?_ | refine zQ (by decide +kernel) ?_ | refine zD (by decide +kernel) ?_ | refine zE (by decide +kernel) ?_ | refine zG (by decide +kernel) ?_)); intro K hK) | ((first | refine zA hgc ?_ ?_ ?_ ?_ ?_ | refine zA hzc ?_ ?_ ?_ ?_ ?_ | refine zA hsp ?_ ?_ ?_ ?_ ?_ | refine zA hop ?_ ?_ ?_ ?_ ?_ | refine zA hgn ?_ ?_ ?_ ?_ ?_ | refine zA hse ?_ ?_ ?_ ?_ ?_ | refine zA hjo ?_ ?_ ?_ ?_ ?_ | refine zA ha ?_ ?_ ?_ ?_ ?_); (focus exact rfl); (focus exact rfl); iterate 2 (focus ((try simp (disch := omega) only [go_sem, wn, o, h, b1, b2, b3, b4, b5, b6, b7, b8]) <;> (try omega) <;> fail))) | ((first | refine zN hgc rfl ?_ ?_ | refine zN hzc rfl ?_ ?_ | refine zN hsp rfl ?_ ?_ | refine zN hop rfl ?_ ?_ | refine zN hgn rfl ?_ ?_ | refine zN hse rfl ?_ ?_ | refine zN hjo rfl ?_ ?_ | refine zN ha rfl ?_ ?_); (focus ((try simp (disch := omega) only [go_sem, wn, o, h, b1, b2, b3, b4, b5, b6, b7, b8]) <;> (try omega) <;> fail))) | (first | ((first | refine zX hgc rfl ?_ ?_ | refine zy hgc ?_ ?_); (focus ((try simp (disch := omega) only [go_sem, wn, o, h, b1, b2, b3, b4, b5, b6, b7, b8]) <;> (try omega) <;> fail))) | ((first | refine zX hzc rfl ?_ ?_ | refine zy hzc ?_ ?_); (focus ((try simp (disch := omega) only [go_sem, wn, o, h, b1, b2, b3, b4, b5, b6, b7, b8]) <;> (try omega) <;> fail))) | ((first | refine zX hsp rfl ?_ ?_ | refine zy hsp ?_ ?_); (focus ((try simp (disch := omega) only [go_sem, wn, o, h, b1, b2, b3, b4, b5, b6, b7, b8]) <;> (try omega) <;> fail))) | ((first | refine zX hop rfl ?_ ?_ | refine zy hop ?_ ?_); (focus ((try simp (disch := omega) only [go_sem, wn, o, h, b1, b2, b3, b4, b5, b6, b7, b8]) <;> (try omega) <;> fail))) | ((first | refine zX hgn rfl ?_ ?_ | refine zy hgn ?_ ?_); (focus ((try simp (disch := omega) only [go_sem, wn, o, h, b1, b2, b3, b4, b5, b6, b7, b8]) <;> (try omega) <;> fail))) | ((first | refine zX hse rfl ?_ ?_ | refine zy hse ?_ ?_); (focus ((try simp (disch := omega) only [go_sem, wn, o, h, b1, b2, b3, b4, b5, b6, b7, b8]) <;> (try omega) <;> fail))) | ((first | refine zX hjo rfl ?_ ?_ | refine zy hjo ?_ ?_); (focus ((try simp (disch := omega) only [go_sem, wn, o, h, b1, b2, b3, b4, b5, b6, b7, b8]) <;> (try omega) <;> fail))) | ((first | refine zX ha rfl ?_ ?_ | refine zy ha ?_ ?_); (focus ((try simp (disch := omega) only [go_sem, wn, o, h, b1, b2, b3, b4, b5, b6, b7, b8]) <;> (try omega) <;> fail)))) | (refine zw (v := ?_) hKk (by first | exact .inl rfl | exact .inr rfl) ?_ ?_ ?_; rotate_left; (focus ((try simp (disch := omega) only [go_sem, wn, o, h, b1, b2, b3, b4, b5, b6, b7, b8]) <;> (try omega) <;> fail)); (focus ((try simp (disch := omega) only [go_sem, wn, o, h, b1, b2, b3, b4, b5, b6, b7, b8]) <;> (first | done | exact rfl))); clear hKk Kk) | ((first | (with_reducible refine zu ?_ ?_ <;> intro hg) | with_reducible intro hg) <;> (first | (exfalso; simp at hg; done) | (have hg' := hg; (try simp only [hcs, beq_iff_eq, ge_iff_le, gt_iff_lt] at hg'); (try simp only [hg]))))) <;> (try simp (disch := omega) only [go_sem, wn, o, h, b1, b2, b3, b4, b5, b6, b7, b8]) <;> (repeat' with_reducible refine And.intro ?_ ?_) <;> (try (with_reducible refine hK _ ?_; clear hK K)))
    | omega)
      all_goals first
        | (exfalso; omega)
        | (rw [if_pos (by omega)]; (refine zF rfl ?_ ?_ ?_ ?_; (iterate 3 (focus ((try simp (disch := omega) only [go_sem, wn, I, S]) <;> (try omega) <;> fail))); (try simp (disch := omega) only [go_sem, wn, I, S, I, B, S, inj, List.cons.injEq, and_true, true_and, and_self])); done)
        | (rw [if_neg (by omega)]; (refine zF rfl ?_ ?_ ?_ ?_; (iterate 3 (focus ((try simp (disch := omega) only [go_sem, wn, default]) <;> (try omega) <;> fail))); (try simp (disch := omega) only [go_sem, wn, default, I, B, S, inj, List.cons.injEq, and_true, true_and, and_self])); done)
    · skip
      have hcp : creP t r = (joinP (splitP r.path).1.1 (serP (splitP r.path).1.2 (getT t (splitP r.path).1.1).1.stat.cversion).1).1 := by unfold creP; rw [if_pos (by omega)]; rfl
      have hco : creO r = r.session := by unfold creO; rw [if_pos (by omega)]
      rw [hcp, hco] at hx
      have hxw := prepX_wf (z := z) ht hr hp hz
      rw [hx] at hxw
      simp only at hxw
      have ha := apply_c t ⟨z, 3, r.session, (joinP (splitP r.path).1.1 (serP (splitP r.path).1.2 (getT t (splitP r.path).1.1).1.stat.cversion).1).1, r.data, 0, r.session⟩ ht.1 hxw.1.2.2.2.1 hxw.1.2.2.2.2.1
      rw [prep_go hq hx]
      generalize applyT t ⟨z, 3, r.session, (joinP (splitP r.path).1.1 (serP (splitP r.path).1.2 (getT t (splitP r.path).1.1).1.stat.cversion).1).1, r.data, 0, r.session⟩ = q at ha ⊢
      obtain ⟨a, es, e⟩ := q
      simp only at ha ⊢
      refine zi tabOk Tryd.func54 rfl (by kernel_rfl) (by simp [Tryd.ntmps54]) ?_; simp only [Tryd.ntmps54, Tryd.results54, List.toList_toArray, apar, List.length_nil, List.length_cons, Nat.reduceAdd]
      (repeat' first
    | (with_reducible refine AR.f ?_)
    | refine zb (by decide) ?_
    | (with_reducible refine AWP.cond rfl ?_ ?_ <;> intro hc <;> (try simp only [hcs, beq_iff_eq, ge_iff_le, gt_iff_lt] at hc))
    | (refine zh fun Kk hKk => (zi tabOk Tryd.func115 rfl (by kernel_rfl) (by simp [Tryd.ntmps115]) ?_); simp only [Tryd.ntmps115, Tryd.results115, List.toList_toArray, apar, List.length_nil, List.length_cons, Nat.reduceAdd, List.length_append, List.length_set, go_sem])
    | ((first | ((first | refine zP ((Plan.takes [0, 1, 2, 3, 4, 6, 7] (.fork 5 (Plan.takes [8, 9, 10, 11] .done) 8 (Plan.takes [5, 9, 10, 11] .done)))) (by decide +kernel) ?_ | (with_reducible first | refine zR ?_ | refine zQ (by decide +kernel) ?_ | refine zD (by decide +kernel) ?_ | refine zE (by decide +kernel) ?_ | refine zG (by decide +kernel) ?_)); intro K hK) | ((first | refine zA hgc ?_ ?_ ?_ ?_ ?_ | refine zA hzc ?_ ?_ ?_ ?_ ?_ | refine zA hsp ?_ ?_ ?_ ?_ ?_ | refine zA hop ?_ ?_ ?_ ?_ ?_ | refine zA hgn ?_ ?_ ?_ ?_ ?_ | refine zA hse ?_ ?_ ?_ ?_ ?_ | refine zA hjo ?_ ?_ ?_ ?_ ?_ | refine zA ha ?_ ?_ ?_ ?_ ?_); (focus exact rfl); (focus exact rfl); iterate 2 (focus ((try simp (disch := omega) only [go_sem, wn, o, h, b1, b2, b3, b4, b5, b6, b7, b8]) <;> (try omega) <;> fail))) | ((first | refine zN hgc rfl ?_ ?_ | refine zN hzc rfl ?_ ?_ | refine zN hsp rfl ?_ ?_ | refine zN hop rfl ?_ ?_ | refine zN hgn rfl ?_ ?_ | refine zN hse rfl ?_ ?_ | refine zN hjo rfl ?_ ?_ | refine zN ha rfl ?_ ?_); (focus ((try simp (disch := omega) only [go_sem, wn, o, h, b1, b2, b3, b4, b5, b6, b7, b8]) <;> (try omega) <;> fail))) | (first | ((first | refine zX hgc rfl ?_ ?_ | refine zy hgc ?_ ?_); (focus ((try simp (disch := omega) only [go_sem, wn, o, h, b1, b2, b3, b4, b5, b6, b7, b8]) <;> (try omega) <;> fail))) | ((first | refine zX hzc rfl ?_ ?_ | refine zy hzc ?_ ?_); (focus ((try simp (disch := omega) only [go_sem, wn, o, h, b1, b2, b3, b4, b5, b6, b7, b8]) <;> (try omega) <;> fail))) | ((first | refine zX hsp rfl ?_ ?_ | refine zy hsp ?_ ?_); (focus ((try simp (disch := omega) only [go_sem, wn, o, h, b1, b2, b3, b4, b5, b6, b7, b8]) <;> (try omega) <;> fail))) | ((first | refine zX hop rfl ?_ ?_ | refine zy hop ?_ ?_); (focus ((try simp (disch := omega) only [go_sem, wn, o, h, b1, b2, b3, b4, b5, b6, b7, b8]) <;> (try omega) <;> fail))) | ((first | refine zX hgn rfl ?_ ?_ | refine zy hgn ?_ ?_); (focus ((try simp (disch := omega) only [go_sem, wn, o, h, b1, b2, b3, b4, b5, b6, b7, b8]) <;> (try omega) <;> fail))) | ((first | refine zX hse rfl ?_ ?_ | refine zy hse ?_ ?_); (focus ((try simp (disch := omega) only [go_sem, wn, o, h, b1, b2, b3, b4, b5, b6, b7, b8]) <;> (try omega) <;> fail))) | ((first | refine zX hjo rfl ?_ ?_ | refine zy hjo ?_ ?_); (focus ((try simp (disch := omega) only [go_sem, wn, o, h, b1, b2, b3, b4, b5, b6, b7, b8]) <;> (try omega) <;> fail))) | ((first | refine zX ha rfl ?_ ?_ | refine zy ha ?_ ?_); (focus ((try simp (disch := omega) only [go_sem, wn, o, h, b1, b2, b3, b4, b5, b6, b7, b8]) <;> (try omega) <;> fail)))) | (refine zw (v := ?_) hKk (by first | exact .inl rfl | exact .inr rfl) ?_ ?_ ?_; rotate_left; (focus ((try simp (disch := omega) only [go_sem, wn, o, h, b1, b2, b3, b4, b5, b6, b7, b8]) <;> (try omega) <;> fail)); (focus ((try simp (disch := omega) only [go_sem, wn, o, h, b1, b2, b3, b4, b5, b6, b7, b8]) <;> (first | done | exact rfl))); clear hKk Kk) | ((first | (with_reducible refine zu ?_ ?_ <;> intro hg) | with_reducible intro hg) <;> (first | (exfalso; simp at hg; done) | (have hg' := hg; (try simp only [hcs, beq_iff_eq, ge_iff_le, gt_iff_lt] at hg'); (try simp only [hg]))))) <;> (try simp (disch := omega) only [go_sem, wn, o, h, b1, b2, b3, b4, b5, b6, b7, b8]) <;> (repeat' with_reducible refine And.intro ?_ ?_) <;> (try (with_reducible refine hK _ ?_; clear hK K)))
    | omega)
      all_goals first
        | (exfalso; omega)
        | (rw [if_pos (by omega)]; (refine zF rfl ?_ ?_ ?_ ?_; (iterate 3 (focus ((try simp (disch := omega) only [go_sem, wn, I, S]) <;> (try omega) <;> fail))); (try simp (disch := omega) only [go_sem, wn, I, S, I, B, S, inj, List.cons.injEq, and_true, true_and, and_self])); done)
        | (rw [if_neg (by omega)]; (refine zF rfl ?_ ?_ ?_ ?_; (iterate 3 (focus ((try simp (disch := omega) only [go_sem, wn, default]) <;> (try omega) <;> fail))); (try simp (disch := omega) only [go_sem, wn, default, I, B, S, inj, List.cons.injEq, and_true, true_and, and_self])); done)
end Go.Proofs.YtmpfhalheaeibaaDoor
namespace Go.Proofs.YtmpfhalheaeibaaDoor
set_option linter.unusedVariables false
set_option linter.unusedSimpArgs false
open Go Go.RowKit
set_option maxRecDepth 100000
set_option linter.unusedSimpArgs false
set_option maxHeartbeats 8000000 in
theorem ref_prep3_c (t : ATree) (z : Int) (r : ARequest) (ht : okT t) (hr : r.wf) (hp : r.path.length ≤ 1048576) (hz : okI z) (hq : askOk t z r) (o : r.op = 3) : acall Tryd.prog [] 55 [t.av, I z, r.av] (ret (.tup [(prepN t z r).1.av, I (prepN t z r).2])) := by
  have hgc := (ref_tgood_c t ht.1 ht.2).re (congrArg B hq.1)
  have hzc := (ref_zgood_c z hz).re (congrArg B (decide_eq_true hq.2.1))
  obtain ⟨hs1, hs2⟩ := hq.2.2
  have hri := good_rises hq.1
  have hrs := good_sess hq.1
  obtain ⟨sl1, sl2⟩ := split_small r.path
  have hcv := (getT_wf ht.1 (splitP r.path).1.1).2.2.2.2.2.2.1
  have hsr := serP_le (splitP r.path).1.2 (getT t (splitP r.path).1.1).1.stat.cversion
  have hx := prepX3 (t := t) (z := z) (r := r) o
  have hcc := creE_cases t r
  have m0 : Int.tmod 0 2 = 0 := by decide
  have m1 : Int.tmod 1 2 = 1 := by decide
  have m2 : Int.tmod 2 2 = 0 := by decide
  have m3 : Int.tmod 3 2 = 1 := by decide
  have b1 : bits .and .i64 0 2 = 0 := by decide +kernel
  have b2 : bits .and .i64 1 2 = 0 := by decide +kernel
  have b3 : bits .and .i64 2 2 = 2 := by decide +kernel
  have b4 : bits .and .i64 3 2 = 2 := by decide +kernel
  have b5 : bits .and .i64 0 1 = 0 := by decide +kernel
  have b6 : bits .and .i64 1 1 = 1 := by decide +kernel
  have b7 : bits .and .i64 2 1 = 0 := by decide +kernel
  have b8 : bits .and .i64 3 1 = 1 := by decide +kernel
  rcases hcc with ⟨h, e⟩ | ⟨h, h2, e⟩ | ⟨h, h2, h3, e⟩ | ⟨h, h2, h3, e⟩ | ⟨h, h2, h3, h4, e⟩ | ⟨h, h2, h3, h4, h5, e⟩ | ⟨h, h2, h3, h4, h5, h6, e⟩ | ⟨h, h2, h3, h4, h5, h6, e⟩
  · skip
    rw [prep_bad hq hx (by omega), e]
    refine zi tabOk Tryd.func55 rfl (by kernel_rfl) (by simp [Tryd.ntmps55]) ?_; simp only [Tryd.ntmps55, Tryd.results55, List.toList_toArray, apar, List.length_nil, List.length_cons, Nat.reduceAdd]
    (repeat' first
  | (with_reducible refine AR.f ?_)
  | refine zb (by decide) ?_
  | (with_reducible refine AWP.cond rfl ?_ ?_ <;> intro hc <;> (try simp only [hcs, beq_iff_eq, ge_iff_le, gt_iff_lt] at hc))
  | ((first | ((first | refine zP ((Plan.takes [0, 1, 2, 4] (.fork 3 (Plan.takes [5, 6, 7] .done) 5 (Plan.takes [3, 6, 7] .done)))) (by decide +kernel) ?_ | (with_reducible first | refine zR ?_ | refine zQ (by decide +kernel) ?_ | refine zD (by decide +kernel) ?_ | refine zE (by decide +kernel) ?_ | refine zG (by decide +kernel) ?_)); intro K hK) | ((first | refine zA hgc ?_ ?_ ?_ ?_ ?_ | refine zA hzc ?_ ?_ ?_ ?_ ?_); (focus exact rfl); (focus exact rfl); iterate 2 (focus ((try simp (disch := omega) only [go_sem, wn, o]) <;> (try omega) <;> fail))) | ((first | refine zN hgc rfl ?_ ?_ | refine zN hzc rfl ?_ ?_); (focus ((try simp (disch := omega) only [go_sem, wn, o]) <;> (try omega) <;> fail))) | (first | ((first | refine zX hgc rfl ?_ ?_ | refine zy hgc ?_ ?_); (focus ((try simp (disch := omega) only [go_sem, wn, o]) <;> (try omega) <;> fail))) | ((first | refine zX hzc rfl ?_ ?_ | refine zy hzc ?_ ?_); (focus ((try simp (disch := omega) only [go_sem, wn, o]) <;> (try omega) <;> fail)))) | ((first | (with_reducible refine zu ?_ ?_ <;> intro hg) | with_reducible intro hg) <;> (first | (exfalso; simp at hg; done) | (have hg' := hg; (try simp only [hcs, beq_iff_eq, ge_iff_le, gt_iff_lt] at hg'); (try simp only [hg]))))) <;> (try simp (disch := omega) only [go_sem, wn, o]) <;> (repeat' with_reducible refine And.intro ?_ ?_) <;> (try (with_reducible refine hK _ ?_; clear hK K)))
  | omega)
    all_goals first | (exfalso; omega) | ((refine zF rfl ?_ ?_ ?_ ?_; (iterate 3 (focus ((try simp (disch := omega) only [go_sem, wn, default]) <;> (try omega) <;> fail))); (try simp (disch := omega) only [go_sem, wn, default, I, B, S, inj, List.cons.injEq, and_true, true_and, and_self])); done)
  · skip
    rw [prep_bad hq hx (by omega), e]
    have hsp := ref_split_c r.path hp
    refine zi tabOk Tryd.func55 rfl (by kernel_rfl) (by simp [Tryd.ntmps55]) ?_; simp only [Tryd.ntmps55, Tryd.results55, List.toList_toArray, apar, List.length_nil, List.length_cons, Nat.reduceAdd]
    (repeat' first
  | (with_reducible refine AR.f ?_)
  | refine zb (by decide) ?_
  | (with_reducible refine AWP.cond rfl ?_ ?_ <;> intro hc <;> (try simp only [hcs, beq_iff_eq, ge_iff_le, gt_iff_lt] at hc))
  | ((first | ((first | refine zP ((Plan.takes [0, 1, 2, 4] (.fork 3 (Plan.takes [5, 6, 7] .done) 5 (Plan.takes [3, 6, 7] .done)))) (by decide +kernel) ?_ | (with_reducible first | refine zR ?_ | refine zQ (by decide +kernel) ?_ | refine zD (by decide +kernel) ?_ | refine zE (by decide +kernel) ?_ | refine zG (by decide +kernel) ?_)); intro K hK) | ((first | refine zA hgc ?_ ?_ ?_ ?_ ?_ | refine zA hzc ?_ ?_ ?_ ?_ ?_ | refine zA hsp ?_ ?_ ?_ ?_ ?_); (focus exact rfl); (focus exact rfl); iterate 2 (focus ((try simp (disch := omega) only [go_sem, wn, o]) <;> (try omega) <;> fail))) | ((first | refine zN hgc rfl ?_ ?_ | refine zN hzc rfl ?_ ?_ | refine zN hsp rfl ?_ ?_); (focus ((try simp (disch := omega) only [go_sem, wn, o]) <;> (try omega) <;> fail))) | (first | ((first | refine zX hgc rfl ?_ ?_ | refine zy hgc ?_ ?_); (focus ((try simp (disch := omega) only [go_sem, wn, o]) <;> (try omega) <;> fail))) | ((first | refine zX hzc rfl ?_ ?_ | refine zy hzc ?_ ?_); (focus ((try simp (disch := omega) only [go_sem, wn, o]) <;> (try omega) <;> fail))) | ((first | refine zX hsp rfl ?_ ?_ | refine zy hsp ?_ ?_); (focus ((try simp (disch := omega) only [go_sem, wn, o]) <;> (try omega) <;> fail)))) | ((first | (with_reducible refine zu ?_ ?_ <;> intro hg) | with_reducible intro hg) <;> (first | (exfalso; simp at hg; done) | (have hg' := hg; (try simp only [hcs, beq_iff_eq, ge_iff_le, gt_iff_lt] at hg'); (try simp only [hg]))))) <;> (try simp (disch := omega) only [go_sem, wn, o]) <;> (repeat' with_reducible refine And.intro ?_ ?_) <;> (try (with_reducible refine hK _ ?_; clear hK K)))
  | omega)
    all_goals first | (exfalso; omega) | ((refine zF rfl ?_ ?_ ?_ ?_; (iterate 3 (focus ((try simp (disch := omega) only [go_sem, wn, default]) <;> (try omega) <;> fail))); (try simp (disch := omega) only [go_sem, wn, default, I, B, S, inj, List.cons.injEq, and_true, true_and, and_self])); done)
  · skip
    rw [prep_bad hq hx (by omega), e]
    have hsp := ref_split_c r.path hp
    rw [h2] at hsp
    have hop := (isOpen_c t r.session ht.1.2.2.1).re (congrArg B (decide_eq_false h3))
    refine zi tabOk Tryd.func55 rfl (by kernel_rfl) (by simp [Tryd.ntmps55]) ?_; simp only [Tryd.ntmps55, Tryd.results55, List.toList_toArray, apar, List.length_nil, List.length_cons, Nat.reduceAdd]
    (repeat' first
  | (with_reducible refine AR.f ?_)
  | refine zb (by decide) ?_
  | (with_reducible refine AWP.cond rfl ?_ ?_ <;> intro hc <;> (try simp only [hcs, beq_iff_eq, ge_iff_le, gt_iff_lt] at hc))
  | ((first | ((first | refine zP ((Plan.takes [0, 1, 2, 4] (.fork 3 (Plan.takes [5, 6, 7] .done) 5 (Plan.takes [3, 6, 7] .done)))) (by decide +kernel) ?_ | (with_reducible first | refine zR ?_ | refine zQ (by decide +kernel) ?_ | refine zD (by decide +kernel) ?_ | refine zE (by decide +kernel) ?_ | refine zG (by decide +kernel) ?_)); intro K hK) | ((first | refine zA hgc ?_ ?_ ?_ ?_ ?_ | refine zA hzc ?_ ?_ ?_ ?_ ?_ | refine zA hsp ?_ ?_ ?_ ?_ ?_ | refine zA hop ?_ ?_ ?_ ?_ ?_); (focus exact rfl); (focus exact rfl); iterate 2 (focus ((try simp (disch := omega) only [go_sem, wn, o]) <;> (try omega) <;> fail))) | ((first | refine zN hgc rfl ?_ ?_ | refine zN hzc rfl ?_ ?_ | refine zN hsp rfl ?_ ?_ | refine zN hop rfl ?_ ?_); (focus ((try simp (disch := omega) only [go_sem, wn, o]) <;> (try omega) <;> fail))) | (first | ((first | refine zX hgc rfl ?_ ?_ | refine zy hgc ?_ ?_); (focus ((try simp (disch := omega) only [go_sem, wn, o]) <;> (try omega) <;> fail))) | ((first | refine zX hzc rfl ?_ ?_ | refine zy hzc ?_ ?_); (focus ((try simp (disch := omega) only [go_sem, wn, o]) <;> (try omega) <;> fail))) | ((first | refine zX hsp rfl ?_ ?_ | refine zy hsp ?_ ?_); (focus ((try simp (disch := omega) only [go_sem, wn, o]) <;> (try omega) <;> fail))) | ((first | refine zX hop rfl ?_ ?_ | refine zy hop ?_ ?_); (focus ((try simp (disch := omega) only [go_sem, wn, o]) <;> (try omega) <;> fail)))) | ((first | (with_reducible refine zu ?_ ?_ <;> intro hg) | with_reducible intro hg) <;> (first | (exfalso; simp at hg; done) | (have hg' := hg; (try simp only [hcs, beq_iff_eq, ge_iff_le, gt_iff_lt] at hg'); (try simp only [hg]))))) <;> (try simp (disch := omega) only [go_sem, wn, o]) <;> (repeat' with_reducible refine And.intro ?_ ?_) <;> (try (with_reducible refine hK _ ?_; clear hK K)))
  | omega)
    all_goals first | (exfalso; omega) | ((refine zF rfl ?_ ?_ ?_ ?_; (iterate 3 (focus ((try simp (disch := omega) only [go_sem, wn, default]) <;> (try omega) <;> fail))); (try simp (disch := omega) only [go_sem, wn, default, I, B, S, inj, List.cons.injEq, and_true, true_and, and_self])); done)
  · rw [e] at hx
    have hsp := ref_split_c r.path hp
    rw [h2] at hsp
    have hop := (isOpen_c t r.session ht.1.2.2.1).re (congrArg B (decide_eq_true h3))
    rcases h with h | h
    · skip
      have hcp : creP t r = r.path := by unfold creP; rw [if_neg (by omega)]
      have hco : creO r = 0 := by unfold creO; rw [if_neg (by omega)]
      rw [hcp, hco] at hx
      have hxw := prepX_wf (z := z) ht hr hp hz
      rw [hx] at hxw
      simp only at hxw
      have ha := ref_apply_c t ⟨z, 3, r.session, r.path, r.data, 0, 0⟩ ht.1 ht.2 hxw.1.1 hxw.2 hxw.1.2.2.2.2.1
      rw [prep_go hq hx]
      generalize applyT t ⟨z, 3, r.session, r.path, r.data, 0, 0⟩ = q at ha ⊢
      obtain ⟨a, es, e⟩ := q
      simp only at ha ⊢
      refine zi tabOk Tryd.func55 rfl (by kernel_rfl) (by simp [Tryd.ntmps55]) ?_; simp only [Tryd.ntmps55, Tryd.results55, List.toList_toArray, apar, List.length_nil, List.length_cons, Nat.reduceAdd]
      (repeat' first
    | (with_reducible refine AR.f ?_)
    | refine zb (by decide) ?_
    | (with_reducible refine AWP.cond rfl ?_ ?_ <;> intro hc <;> (try simp only [hcs, beq_iff_eq, ge_iff_le, gt_iff_lt] at hc))
    | ((first | ((first | refine zP ((Plan.takes [0, 1, 2, 4] (.fork 3 (Plan.takes [5, 6, 7] .done) 5 (Plan.takes [3, 6, 7] .done)))) (by decide +kernel) ?_ | (with_reducible first | refine zR ?_ | refine zQ (by decide +kernel) ?_ | refine zD (by decide +kernel) ?_ | refine zE (by decide +kernel) ?_ | refine zG (by decide +kernel) ?_)); intro K hK) | ((first | refine zA hgc ?_ ?_ ?_ ?_ ?_ | refine zA hzc ?_ ?_ ?_ ?_ ?_ | refine zA hsp ?_ ?_ ?_ ?_ ?_ | refine zA hop ?_ ?_ ?_ ?_ ?_ | refine zA ha ?_ ?_ ?_ ?_ ?_); (focus exact rfl); (focus exact rfl); iterate 2 (focus ((try simp (disch := omega) only [go_sem, wn, o, h, m0, m1, m2, m3]) <;> (try omega) <;> fail))) | ((first | refine zN hgc rfl ?_ ?_ | refine zN hzc rfl ?_ ?_ | refine zN hsp rfl ?_ ?_ | refine zN hop rfl ?_ ?_ | refine zN ha rfl ?_ ?_); (focus ((try simp (disch := omega) only [go_sem, wn, o, h, m0, m1, m2, m3]) <;> (try omega) <;> fail))) | (first | ((first | refine zX hgc rfl ?_ ?_ | refine zy hgc ?_ ?_); (focus ((try simp (disch := omega) only [go_sem, wn, o, h, m0, m1, m2, m3]) <;> (try omega) <;> fail))) | ((first | refine zX hzc rfl ?_ ?_ | refine zy hzc ?_ ?_); (focus ((try simp (disch := omega) only [go_sem, wn, o, h, m0, m1, m2, m3]) <;> (try omega) <;> fail))) | ((first | refine zX hsp rfl ?_ ?_ | refine zy hsp ?_ ?_); (focus ((try simp (disch := omega) only [go_sem, wn, o, h, m0, m1, m2, m3]) <;> (try omega) <;> fail))) | ((first | refine zX hop rfl ?_ ?_ | refine zy hop ?_ ?_); (focus ((try simp (disch := omega) only [go_sem, wn, o, h, m0, m1, m2, m3]) <;> (try omega) <;> fail))) | ((first | refine zX ha rfl ?_ ?_ | refine zy ha ?_ ?_); (focus ((try simp (disch := omega) only [go_sem, wn, o, h, m0, m1, m2, m3]) <;> (try omega) <;> fail)))) | ((first | (with_reducible refine zu ?_ ?_ <;> intro hg) | with_reducible intro hg) <;> (first | (exfalso; simp at hg; done) | (have hg' := hg; (try simp only [hcs, beq_iff_eq, ge_iff_le, gt_iff_lt] at hg'); (try simp only [hg]))))) <;> (try simp (disch := omega) only [go_sem, wn, o, h, m0, m1, m2, m3]) <;> (repeat' with_reducible refine And.intro ?_ ?_) <;> (try (with_reducible refine hK _ ?_; clear hK K)))
    | omega)
      all_goals first
        | (exfalso; omega)
        | (rw [if_pos (by omega)]; (refine zF rfl ?_ ?_ ?_ ?_; (iterate 3 (focus ((try simp (disch := omega) only [go_sem, wn, I, S]) <;> (try omega) <;> fail))); (try simp (disch := omega) only [go_sem, wn, I, S, I, B, S, inj, List.cons.injEq, and_true, true_and, and_self])); done)
        | (rw [if_neg (by omega)]; (refine zF rfl ?_ ?_ ?_ ?_; (iterate 3 (focus ((try simp (disch := omega) only [go_sem, wn, default]) <;> (try omega) <;> fail))); (try simp (disch := omega) only [go_sem, wn, default, I, B, S, inj, List.cons.injEq, and_true, true_and, and_self])); done)
    · skip
      have hcp : creP t r = r.path := by unfold creP; rw [if_neg (by omega)]
      have hco : creO r = r.session := by unfold creO; rw [if_pos (by omega)]
      rw [hcp, hco] at hx
      have hxw := prepX_wf (z := z) ht hr hp hz
      rw [hx] at hxw
      simp only at hxw
      have ha := ref_apply_c t ⟨z, 3, r.session, r.path, r.data, 0, r.session⟩ ht.1 ht.2 hxw.1.1 hxw.2 hxw.1.2.2.2.2.1
      rw [prep_go hq hx]
      generalize applyT t ⟨z, 3, r.session, r.path, r.data, 0, r.session⟩ = q at ha ⊢
      obtain ⟨a, es, e⟩ := q
      simp only at ha ⊢
      refine zi tabOk Tryd.func55 rfl (by kernel_rfl) (by simp [Tryd.ntmps55]) ?_; simp only [Tryd.ntmps55, Tryd.results55, List.toList_toArray, apar, List.length_nil, List.length_cons, Nat.reduceAdd]
      (repeat' first
    | (with_reducible refine AR.f ?_)
    | refine zb (by decide) ?_
    | (with_reducible refine AWP.cond rfl ?_ ?_ <;> intro hc <;> (try simp only [hcs, beq_iff_eq, ge_iff_le, gt_iff_lt] at hc))
    | ((first | ((first | refine zP ((Plan.takes [0, 1, 2, 4] (.fork 3 (Plan.takes [5, 6, 7] .done) 5 (Plan.takes [3, 6, 7] .done)))) (by decide +kernel) ?_ | (with_reducible first | refine zR ?_ | refine zQ (by decide +kernel) ?_ | refine zD (by decide +kernel) ?_ | refine zE (by decide +kernel) ?_ | refine zG (by decide +kernel) ?_)); intro K hK) | ((first | refine zA hgc ?_ ?_ ?_ ?_ ?_ | refine zA hzc ?_ ?_ ?_ ?_ ?_ | refine zA hsp ?_ ?_ ?_ ?_ ?_ | refine zA hop ?_ ?_ ?_ ?_ ?_ | refine zA ha ?_ ?_ ?_ ?_ ?_); (focus exact rfl); (focus exact rfl); iterate 2 (focus ((try simp (disch := omega) only [go_sem, wn, o, h, m0, m1, m2, m3]) <;> (try omega) <;> fail))) | ((first | refine zN hgc rfl ?_ ?_ | refine zN hzc rfl ?_ ?_ | refine zN hsp rfl ?_ ?_ | refine zN hop rfl ?_ ?_ | refine zN ha rfl ?_ ?_); (focus ((try simp (disch := omega) only [go_sem, wn, o, h, m0, m1, m2, m3]) <;> (try omega) <;> fail))) | (first | ((first | refine zX hgc rfl ?_ ?_ | refine zy hgc ?_ ?_); (focus ((try simp (disch := omega) only [go_sem, wn, o, h, m0, m1, m2, m3]) <;> (try omega) <;> fail))) | ((first | refine zX hzc rfl ?_ ?_ | refine zy hzc ?_ ?_); (focus ((try simp (disch := omega) only [go_sem, wn, o, h, m0, m1, m2, m3]) <;> (try omega) <;> fail))) | ((first | refine zX hsp rfl ?_ ?_ | refine zy hsp ?_ ?_); (focus ((try simp (disch := omega) only [go_sem, wn, o, h, m0, m1, m2, m3]) <;> (try omega) <;> fail))) | ((first | refine zX hop rfl ?_ ?_ | refine zy hop ?_ ?_); (focus ((try simp (disch := omega) only [go_sem, wn, o, h, m0, m1, m2, m3]) <;> (try omega) <;> fail))) | ((first | refine zX ha rfl ?_ ?_ | refine zy ha ?_ ?_); (focus ((try simp (disch := omega) only [go_sem, wn, o, h, m0, m1, m2, m3]) <;> (try omega) <;> fail)))) | ((first | (with_reducible refine zu ?_ ?_ <;> intro hg) | with_reducible intro hg) <;> (first | (exfalso; simp at hg; done) | (have hg' := hg; (try simp only [hcs, beq_iff_eq, ge_iff_le, gt_iff_lt] at hg'); (try simp only [hg]))))) <;> (try simp (disch := omega) only [go_sem, wn, o, h, m0, m1, m2, m3]) <;> (repeat' with_reducible refine And.intro ?_ ?_) <;> (try (with_reducible refine hK _ ?_; clear hK K)))
    | omega)
      all_goals first
        | (exfalso; omega)
        | (rw [if_pos (by omega)]; (refine zF rfl ?_ ?_ ?_ ?_; (iterate 3 (focus ((try simp (disch := omega) only [go_sem, wn, I, S]) <;> (try omega) <;> fail))); (try simp (disch := omega) only [go_sem, wn, I, S, I, B, S, inj, List.cons.injEq, and_true, true_and, and_self])); done)
        | (rw [if_neg (by omega)]; (refine zF rfl ?_ ?_ ?_ ?_; (iterate 3 (focus ((try simp (disch := omega) only [go_sem, wn, default]) <;> (try omega) <;> fail))); (try simp (disch := omega) only [go_sem, wn, default, I, B, S, inj, List.cons.injEq, and_true, true_and, and_self])); done)
  · skip
    rw [prep_bad hq hx (by omega), e]
    have hsp := ref_split_c r.path hp
    rw [h2] at hsp
    have hop := (isOpen_c t r.session ht.1.2.2.1).re (congrArg B (decide_eq_true h3))
    have hgn := getN_c t (splitP r.path).1.1 ht.1.2.1.1 hri
    generalize (getT t (splitP r.path).1.1).2 = e1 at h4 hgn ⊢
    rcases h with h | h
    all_goals
      refine zi tabOk Tryd.func55 rfl (by kernel_rfl) (by simp [Tryd.ntmps55]) ?_; simp only [Tryd.ntmps55, Tryd.results55, List.toList_toArray, apar, List.length_nil, List.length_cons, Nat.reduceAdd]
      (repeat' first
    | (with_reducible refine AR.f ?_)
    | refine zb (by decide) ?_
    | (with_reducible refine AWP.cond rfl ?_ ?_ <;> intro hc <;> (try simp only [hcs, beq_iff_eq, ge_iff_le, gt_iff_lt] at hc))
    | ((first | ((first | refine zP ((Plan.takes [0, 1, 2, 4] (.fork 3 (Plan.takes [5, 6, 7] .done) 5 (Plan.takes [3, 6, 7] .done)))) (by decide +kernel) ?_ | (with_reducible first | refine zR ?_ | refine zQ (by decide +kernel) ?_ | refine zD (by decide +kernel) ?_ | refine zE (by decide +kernel) ?_ | refine zG (by decide +kernel) ?_)); intro K hK) | ((first | refine zA hgc ?_ ?_ ?_ ?_ ?_ | refine zA hzc ?_ ?_ ?_ ?_ ?_ | refine zA hsp ?_ ?_ ?_ ?_ ?_ | refine zA hop ?_ ?_ ?_ ?_ ?_ | refine zA hgn ?_ ?_ ?_ ?_ ?_); (focus exact rfl); (focus exact rfl); iterate 2 (focus ((try simp (disch := omega) only [go_sem, wn, o, h, m0, m1, m2, m3]) <;> (try omega) <;> fail))) | ((first | refine zN hgc rfl ?_ ?_ | refine zN hzc rfl ?_ ?_ | refine zN hsp rfl ?_ ?_ | refine zN hop rfl ?_ ?_ | refine zN hgn rfl ?_ ?_); (focus ((try simp (disch := omega) only [go_sem, wn, o, h, m0, m1, m2, m3]) <;> (try omega) <;> fail))) | (first | ((first | refine zX hgc rfl ?_ ?_ | refine zy hgc ?_ ?_); (focus ((try simp (disch := omega) only [go_sem, wn, o, h, m0, m1, m2, m3]) <;> (try omega) <;> fail))) | ((first | refine zX hzc rfl ?_ ?_ | refine zy hzc ?_ ?_); (focus ((try simp (disch := omega) only [go_sem, wn, o, h, m0, m1, m2, m3]) <;> (try omega) <;> fail))) | ((first | refine zX hsp rfl ?_ ?_ | refine zy hsp ?_ ?_); (focus ((try simp (disch := omega) only [go_sem, wn, o, h, m0, m1, m2, m3]) <;> (try omega) <;> fail))) | ((first | refine zX hop rfl ?_ ?_ | refine zy hop ?_ ?_); (focus ((try simp (disch := omega) only [go_sem, wn, o, h, m0, m1, m2, m3]) <;> (try omega) <;> fail))) | ((first | refine zX hgn rfl ?_ ?_ | refine zy hgn ?_ ?_); (focus ((try simp (disch := omega) only [go_sem, wn, o, h, m0, m1, m2, m3]) <;> (try omega) <;> fail)))) | ((first | (with_reducible refine zu ?_ ?_ <;> intro hg) | with_reducible intro hg) <;> (first | (exfalso; simp at hg; done) | (have hg' := hg; (try simp only [hcs, beq_iff_eq, ge_iff_le, gt_iff_lt] at hg'); (try simp only [hg]))))) <;> (try simp (disch := omega) only [go_sem, wn, o, h, m0, m1, m2, m3]) <;> (repeat' with_reducible refine And.intro ?_ ?_) <;> (try (with_reducible refine hK _ ?_; clear hK K)))
    | omega)
      all_goals first | (exfalso; omega) | ((refine zF rfl ?_ ?_ ?_ ?_; (iterate 3 (focus ((try simp (disch := omega) only [go_sem, wn, default]) <;> (try omega) <;> fail))); (try simp (disch := omega) only [go_sem, wn, default, I, B, S, inj, List.cons.injEq, and_true, true_and, and_self])); done)
  · skip
    rw [prep_bad hq hx (by omega), e]
    have hsp := ref_split_c r.path hp
    rw [h2] at hsp
    have hop := (isOpen_c t r.session ht.1.2.2.1).re (congrArg B (decide_eq_true h3))
    have hgn := getN_c t (splitP r.path).1.1 ht.1.2.1.1 hri
    rw [h4] at hgn
    have hse := ref_serial_c (splitP r.path).1.2 (getT t (splitP r.path).1.1).1.stat.cversion (by omega) hcv
    generalize (serP (splitP r.path).1.2 (getT t (splitP r.path).1.1).1.stat.cversion).2 = e1 at h5 hse ⊢
    rcases h with h | h
    all_goals
      refine zi tabOk Tryd.func55 rfl (by kernel_rfl) (by simp [Tryd.ntmps55]) ?_; simp only [Tryd.ntmps55, Tryd.results55, List.toList_toArray, apar, List.length_nil, List.length_cons, Nat.reduceAdd]
      (repeat' first
    | (with_reducible refine AR.f ?_)
    | refine zb (by decide) ?_
    | (with_reducible refine AWP.cond rfl ?_ ?_ <;> intro hc <;> (try simp only [hcs, beq_iff_eq, ge_iff_le, gt_iff_lt] at hc))
    | ((first | ((first | refine zP ((Plan.takes [0, 1, 2, 4] (.fork 3 (Plan.takes [5, 6, 7] .done) 5 (Plan.takes [3, 6, 7] .done)))) (by decide +kernel) ?_ | (with_reducible first | refine zR ?_ | refine zQ (by decide +kernel) ?_ | refine zD (by decide +kernel) ?_ | refine zE (by decide +kernel) ?_ | refine zG (by decide +kernel) ?_)); intro K hK) | ((first | refine zA hgc ?_ ?_ ?_ ?_ ?_ | refine zA hzc ?_ ?_ ?_ ?_ ?_ | refine zA hsp ?_ ?_ ?_ ?_ ?_ | refine zA hop ?_ ?_ ?_ ?_ ?_ | refine zA hgn ?_ ?_ ?_ ?_ ?_ | refine zA hse ?_ ?_ ?_ ?_ ?_); (focus exact rfl); (focus exact rfl); iterate 2 (focus ((try simp (disch := omega) only [go_sem, wn, o, h, m0, m1, m2, m3]) <;> (try omega) <;> fail))) | ((first | refine zN hgc rfl ?_ ?_ | refine zN hzc rfl ?_ ?_ | refine zN hsp rfl ?_ ?_ | refine zN hop rfl ?_ ?_ | refine zN hgn rfl ?_ ?_ | refine zN hse rfl ?_ ?_); (focus ((try simp (disch := omega) only [go_sem, wn, o, h, m0, m1, m2, m3]) <;> (try omega) <;> fail))) | (first | ((first | refine zX hgc rfl ?_ ?_ | refine zy hgc ?_ ?_); (focus ((try simp (disch := omega) only [go_sem, wn, o, h, m0, m1, m2, m3]) <;> (try omega) <;> fail))) | ((first | refine zX hzc rfl ?_ ?_ | refine zy hzc ?_ ?_); (focus ((try simp (disch := omega) only [go_sem, wn, o, h, m0, m1, m2, m3]) <;> (try omega) <;> fail))) | ((first | refine zX hsp rfl ?_ ?_ | refine zy hsp ?_ ?_); (focus ((try simp (disch := omega) only [go_sem, wn, o, h, m0, m1, m2, m3]) <;> (try omega) <;> fail))) | ((first | refine zX hop rfl ?_ ?_ | refine zy hop ?_ ?_); (focus ((try simp (disch := omega) only [go_sem, wn, o, h, m0, m1, m2, m3]) <;> (try omega) <;> fail))) | ((first | refine zX hgn rfl ?_ ?_ | refine zy hgn ?_ ?_); (focus ((try simp (disch := omega) only [go_sem, wn, o, h, m0, m1, m2, m3]) <;> (try omega) <;> fail))) | ((first | refine zX hse rfl ?_ ?_ | refine zy hse ?_ ?_); (focus ((try simp (disch := omega) only [go_sem, wn, o, h, m0, m1, m2, m3]) <;> (try omega) <;> fail)))) | ((first | (with_reducible refine zu ?_ ?_ <;> intro hg) | with_reducible intro hg) <;> (first | (exfalso; simp at hg; done) | (have hg' := hg; (try simp only [hcs, beq_iff_eq, ge_iff_le, gt_iff_lt] at hg'); (try simp only [hg]))))) <;> (try simp (disch := omega) only [go_sem, wn, o, h, m0, m1, m2, m3]) <;> (repeat' with_reducible refine And.intro ?_ ?_) <;> (try (with_reducible refine hK _ ?_; clear hK K)))
    | omega)
      all_goals first | (exfalso; omega) | ((refine zF rfl ?_ ?_ ?_ ?_; (iterate 3 (focus ((try simp (disch := omega) only [go_sem, wn, default]) <;> (try omega) <;> fail))); (try simp (disch := omega) only [go_sem, wn, default, I, B, S, inj, List.cons.injEq, and_true, true_and, and_self])); done)
  · skip
    rw [prep_bad hq hx (by omega), e]
    have hsp := ref_split_c r.path hp
    rw [h2] at hsp
    have hop := (isOpen_c t r.session ht.1.2.2.1).re (congrArg B (decide_eq_true h3))
    have hgn := getN_c t (splitP r.path).1.1 ht.1.2.1.1 hri
    rw [h4] at hgn
    have hse := ref_serial_c (splitP r.path).1.2 (getT t (splitP r.path).1.1).1.stat.cversion (by omega) hcv
    rw [h5] at hse
    have hjo := ref_join_c (splitP r.path).1.1 (serP (splitP r.path).1.2 (getT t (splitP r.path).1.1).1.stat.cversion).1 (by omega) (by unfold okS; omega)
    generalize (joinP (splitP r.path).1.1 (serP (splitP r.path).1.2 (getT t (splitP r.path).1.1).1.stat.cversion).1).2 = e1 at h6 hjo ⊢
    rcases h with h | h
    all_goals
      refine zi tabOk Tryd.func55 rfl (by kernel_rfl) (by simp [Tryd.ntmps55]) ?_; simp only [Tryd.ntmps55, Tryd.results55, List.toList_toArray, apar, List.length_nil, List.length_cons, Nat.reduceAdd]
      (repeat' first
    | (with_reducible refine AR.f ?_)
    | refine zb (by decide) ?_
    | (with_reducible refine AWP.cond rfl ?_ ?_ <;> intro hc <;> (try simp only [hcs, beq_iff_eq, ge_iff_le, gt_iff_lt] at hc))
    | ((first | ((first | refine zP ((Plan.takes [0, 1, 2, 4] (.fork 3 (Plan.takes [5, 6, 7] .done) 5 (Plan.takes [3, 6, 7] .done)))) (by decide +kernel) ?_ | (with_reducible first | refine zR ?_ | refine zQ (by decide +kernel) ?_ | refine zD (by decide +kernel) ?_ | refine zE (by decide +kernel) ?_ | refine zG (by decide +kernel) ?_)); intro K hK) | ((first | refine zA hgc ?_ ?_ ?_ ?_ ?_ | refine zA hzc ?_ ?_ ?_ ?_ ?_ | refine zA hsp ?_ ?_ ?_ ?_ ?_ | refine zA hop ?_ ?_ ?_ ?_ ?_ | refine zA hgn ?_ ?_ ?_ ?_ ?_ | refine zA hse ?_ ?_ ?_ ?_ ?_ | refine zA hjo ?_ ?_ ?_ ?_ ?_); (focus exact rfl); (focus exact rfl); iterate 2 (focus ((try simp (disch := omega) only [go_sem, wn, o, h, m0, m1, m2, m3]) <;> (try omega) <;> fail))) | ((first | refine zN hgc rfl ?_ ?_ | refine zN hzc rfl ?_ ?_ | refine zN hsp rfl ?_ ?_ | refine zN hop rfl ?_ ?_ | refine zN hgn rfl ?_ ?_ | refine zN hse rfl ?_ ?_ | refine zN hjo rfl ?_ ?_); (focus ((try simp (disch := omega) only [go_sem, wn, o, h, m0, m1, m2, m3]) <;> (try omega) <;> fail))) | (first | ((first | refine zX hgc rfl ?_ ?_ | refine zy hgc ?_ ?_); (focus ((try simp (disch := omega) only [go_sem, wn, o, h, m0, m1, m2, m3]) <;> (try omega) <;> fail))) | ((first | refine zX hzc rfl ?_ ?_ | refine zy hzc ?_ ?_); (focus ((try simp (disch := omega) only [go_sem, wn, o, h, m0, m1, m2, m3]) <;> (try omega) <;> fail))) | ((first | refine zX hsp rfl ?_ ?_ | refine zy hsp ?_ ?_); (focus ((try simp (disch := omega) only [go_sem, wn, o, h, m0, m1, m2, m3]) <;> (try omega) <;> fail))) | ((first | refine zX hop rfl ?_ ?_ | refine zy hop ?_ ?_); (focus ((try simp (disch := omega) only [go_sem, wn, o, h, m0, m1, m2, m3]) <;> (try omega) <;> fail))) | ((first | refine zX hgn rfl ?_ ?_ | refine zy hgn ?_ ?_); (focus ((try simp (disch := omega) only [go_sem, wn, o, h, m0, m1, m2, m3]) <;> (try omega) <;> fail))) | ((first | refine zX hse rfl ?_ ?_ | refine zy hse ?_ ?_); (focus ((try simp (disch := omega) only [go_sem, wn, o, h, m0, m1, m2, m3]) <;> (try omega) <;> fail))) | ((first | refine zX hjo rfl ?_ ?_ | refine zy hjo ?_ ?_); (focus ((try simp (disch := omega) only [go_sem, wn, o, h, m0, m1, m2, m3]) <;> (try omega) <;> fail)))) | ((first | (with_reducible refine zu ?_ ?_ <;> intro hg) | with_reducible intro hg) <;> (first | (exfalso; simp at hg; done) | (have hg' := hg; (try simp only [hcs, beq_iff_eq, ge_iff_le, gt_iff_lt] at hg'); (try simp only [hg]))))) <;> (try simp (disch := omega) only [go_sem, wn, o, h, m0, m1, m2, m3]) <;> (repeat' with_reducible refine And.intro ?_ ?_) <;> (try (with_reducible refine hK _ ?_; clear hK K)))
    | omega)
      all_goals first | (exfalso; omega) | ((refine zF rfl ?_ ?_ ?_ ?_; (iterate 3 (focus ((try simp (disch := omega) only [go_sem, wn, default]) <;> (try omega) <;> fail))); (try simp (disch := omega) only [go_sem, wn, default, I, B, S, inj, List.cons.injEq, and_true, true_and, and_self])); done)
  · rw [e] at hx
    have hsp := ref_split_c r.path hp
    rw [h2] at hsp
    have hop := (isOpen_c t r.session ht.1.2.2.1).re (congrArg B (decide_eq_true h3))
    have hgn := getN_c t (splitP r.path).1.1 ht.1.2.1.1 hri
    rw [h4] at hgn
    have hse := ref_serial_c (splitP r.path).1.2 (getT t (splitP r.path).1.1).1.stat.cversion (by omega) hcv
    rw [h5] at hse
    have hjo := ref_join_c (splitP r.path).1.1 (serP (splitP r.path).1.2 (getT t (splitP r.path).1.1).1.stat.cversion).1 (by omega) (by unfold okS; omega)
    rw [h6] at hjo
    rcases h with h | h
    · skip
      have hcp : creP t r = (joinP (splitP r.path).1.1 (serP (splitP r.path).1.2 (getT t (splitP r.path).1.1).1.stat.cversion).1).1 := by unfold creP; rw [if_pos (by omega)]; rfl
      have hco : creO r = 0 := by unfold creO; rw [if_neg (by omega)]
      rw [hcp, hco] at hx
      have hxw := prepX_wf (z := z) ht hr hp hz
      rw [hx] at hxw
      simp only at hxw
      have ha := ref_apply_c t ⟨z, 3, r.session, (joinP (splitP r.path).1.1 (serP (splitP r.path).1.2 (getT t (splitP r.path).1.1).1.stat.cversion).1).1, r.data, 0, 0⟩ ht.1 ht.2 hxw.1.1 hxw.2 hxw.1.2.2.2.2.1
      rw [prep_go hq hx]
      generalize applyT t ⟨z, 3, r.session, (joinP (splitP r.path).1.1 (serP (splitP r.path).1.2 (getT t (splitP r.path).1.1).1.stat.cversion).1).1, r.data, 0, 0⟩ = q at ha ⊢
      obtain ⟨a, es, e⟩ := q
      simp only at ha ⊢
      refine zi tabOk Tryd.func55 rfl (by kernel_rfl) (by simp [Tryd.ntmps55]) ?_; simp only [Tryd.ntmps55, Tryd.results55, List.toList_toArray, apar, List.length_nil, List.length_cons, Nat.reduceAdd]
      (repeat' first
    | (with_reducible refine AR.f ?_)
    | refine zb (by decide) ?_
    | (with_reducible refine AWP.cond rfl ?_ ?_ <;> intro hc <;> (try simp only [hcs, beq_iff_eq, ge_iff_le, gt_iff_lt] at hc))
    | ((first | ((first | refine zP ((Plan.takes [0, 1, 2, 4] (.fork 3 (Plan.takes [5, 6, 7] .done) 5 (Plan.takes [3, 6, 7] .done)))) (by decide +kernel) ?_ | (with_reducible first | refine zR ?_ | refine zQ (by decide +kernel) ?_ | refine zD (by decide +kernel) ?_ | refine zE (by decide +kernel) ?_ | refine zG (by decide +kernel) ?_)); intro K hK) | ((first | refine zA hgc ?_ ?_ ?_ ?_ ?_ | refine zA hzc ?_ ?_ ?_ ?_ ?_ | refine zA hsp ?_ ?_ ?_ ?_ ?_ | refine zA hop ?_ ?_ ?_ ?_ ?_ | refine zA hgn ?_ ?_ ?_ ?_ ?_ | refine zA hse ?_ ?_ ?_ ?_ ?_ | refine zA hjo ?_ ?_ ?_ ?_ ?_ | refine zA ha ?_ ?_ ?_ ?_ ?_); (focus exact rfl); (focus exact rfl); iterate 2 (focus ((try simp (disch := omega) only [go_sem, wn, o, h, m0, m1, m2, m3]) <;> (try omega) <;> fail))) | ((first | refine zN hgc rfl ?_ ?_ | refine zN hzc rfl ?_ ?_ | refine zN hsp rfl ?_ ?_ | refine zN hop rfl ?_ ?_ | refine zN hgn rfl ?_ ?_ | refine zN hse rfl ?_ ?_ | refine zN hjo rfl ?_ ?_ | refine zN ha rfl ?_ ?_); (focus ((try simp (disch := omega) only [go_sem, wn, o, h, m0, m1, m2, m3]) <;> (try omega) <;> fail))) | (first | ((first | refine zX hgc rfl ?_ ?_ | refine zy hgc ?_ ?_); (focus ((try simp (disch := omega) only [go_sem, wn, o, h, m0, m1, m2, m3]) <;> (try omega) <;> fail))) | ((first | refine zX hzc rfl ?_ ?_ | refine zy hzc ?_ ?_); (focus ((try simp (disch := omega) only [go_sem, wn, o, h, m0, m1, m2, m3]) <;> (try omega) <;> fail))) | ((first | refine zX hsp rfl ?_ ?_ | refine zy hsp ?_ ?_); (focus ((try simp (disch := omega) only [go_sem, wn, o, h, m0, m1, m2, m3]) <;> (try omega) <;> fail))) | ((first | refine zX hop rfl ?_ ?_ | refine zy hop ?_ ?_); (focus ((try simp (disch := omega) only [go_sem, wn, o, h, m0, m1, m2, m3]) <;> (try omega) <;> fail))) | ((first | refine zX hgn rfl ?_ ?_ | refine zy hgn ?_ ?_); (focus ((try simp (disch := omega) only [go_sem, wn, o, h, m0, m1, m2, m3]) <;> (try omega) <;> fail))) | ((first | refine zX hse rfl ?_ ?_ | refine zy hse ?_ ?_); (focus ((try simp (disch := omega) only [go_sem, wn, o, h, m0, m1, m2, m3]) <;> (try omega) <;> fail))) | ((first | refine zX hjo rfl ?_ ?_ | refine zy hjo ?_ ?_); (focus ((try simp (disch := omega) only [go_sem, wn, o, h, m0, m1, m2, m3]) <;> (try omega) <;> fail))) | ((first | refine zX ha rfl ?_ ?_ | refine zy ha ?_ ?_); (focus ((try simp (disch := omega) only [go_sem, wn, o, h, m0, m1, m2, m3]) <;> (try omega) <;> fail)))) | ((first | (with_reducible refine zu ?_ ?_ <;> intro hg) | with_reducible intro hg) <;> (first | (exfalso; simp at hg; done) | (have hg' := hg; (try simp only [hcs, beq_iff_eq, ge_iff_le, gt_iff_lt] at hg'); (try simp only [hg]))))) <;> (try simp (disch := omega) only [go_sem, wn, o, h, m0, m1, m2, m3]) <;> (repeat' with_reducible refine And.intro ?_ ?_) <;> (try (with_reducible refine hK _ ?_; clear hK K)))
    | omega)
      all_goals first
        | (exfalso; omega)
        | (rw [if_pos (by omega)]; (refine zF rfl ?_ ?_ ?_ ?_; (iterate 3 (focus ((try simp (disch := omega) only [go_sem, wn, I, S]) <;> (try omega) <;> fail))); (try simp (disch := omega) only [go_sem, wn, I, S, I, B, S, inj, List.cons.injEq, and_true, true_and, and_self])); done)
        | (rw [if_neg (by omega)]; (refine zF rfl ?_ ?_ ?_ ?_; (iterate 3 (focus ((try simp (disch := omega) only [go_sem, wn, default]) <;> (try omega) <;> fail))); (try simp (disch := omega) only [go_sem, wn, default, I, B, S, inj, List.cons.injEq, and_true, true_and, and_self])); done)
    · skip
      have hcp : creP t r = (joinP (splitP r.path).1.1 (serP (splitP r.path).1.2 (getT t (splitP r.path).1.1).1.stat.cversion).1).1 := by unfold creP; rw [if_pos (by omega)]; rfl
      have hco : creO r = r.session := by unfold creO; rw [if_pos (by omega)]
      rw [hcp, hco] at hx
      have hxw := prepX_wf (z := z) ht hr hp hz
      rw [hx] at hxw
      simp only at hxw
      have ha := ref_apply_c t ⟨z, 3, r.session, (joinP (splitP r.path).1.1 (serP (splitP r.path).1.2 (getT t (splitP r.path).1.1).1.stat.cversion).1).1, r.data, 0, r.session⟩ ht.1 ht.2 hxw.1.1 hxw.2 hxw.1.2.2.2.2.1
      rw [prep_go hq hx]
      generalize applyT t ⟨z, 3, r.session, (joinP (splitP r.path).1.1 (serP (splitP r.path).1.2 (getT t (splitP r.path).1.1).1.stat.cversion).1).1, r.data, 0, r.session⟩ = q at ha ⊢
      obtain ⟨a, es, e⟩ := q
      simp only at ha ⊢
      refine zi tabOk Tryd.func55 rfl (by kernel_rfl) (by simp [Tryd.ntmps55]) ?_; simp only [Tryd.ntmps55, Tryd.results55, List.toList_toArray, apar, List.length_nil, List.length_cons, Nat.reduceAdd]
      (repeat' first
    | (with_reducible refine AR.f ?_)
    | refine zb (by decide) ?_
    | (with_reducible refine AWP.cond rfl ?_ ?_ <;> intro hc <;> (try simp only [hcs, beq_iff_eq, ge_iff_le, gt_iff_lt] at hc))
    | ((first | ((first | refine zP ((Plan.takes [0, 1, 2, 4] (.fork 3 (Plan.takes [5, 6, 7] .done) 5 (Plan.takes [3, 6, 7] .done)))) (by decide +kernel) ?_ | (with_reducible first | refine zR ?_ | refine zQ (by decide +kernel) ?_ | refine zD (by decide +kernel) ?_ | refine zE (by decide +kernel) ?_ | refine zG (by decide +kernel) ?_)); intro K hK) | ((first | refine zA hgc ?_ ?_ ?_ ?_ ?_ | refine zA hzc ?_ ?_ ?_ ?_ ?_ | refine zA hsp ?_ ?_ ?_ ?_ ?_ | refine zA hop ?_ ?_ ?_ ?_ ?_ | refine zA hgn ?_ ?_ ?_ ?_ ?_ | refine zA hse ?_ ?_ ?_ ?_ ?_ | refine zA hjo ?_ ?_ ?_ ?_ ?_ | refine zA ha ?_ ?_ ?_ ?_ ?_); (focus exact rfl); (focus exact rfl); iterate 2 (focus ((try simp (disch := omega) only [go_sem, wn, o, h, m0, m1, m2, m3]) <;> (try omega) <;> fail))) | ((first | refine zN hgc rfl ?_ ?_ | refine zN hzc rfl ?_ ?_ | refine zN hsp rfl ?_ ?_ | refine zN hop rfl ?_ ?_ | refine zN hgn rfl ?_ ?_ | refine zN hse rfl ?_ ?_ | refine zN hjo rfl ?_ ?_ | refine zN ha rfl ?_ ?_); (focus ((try simp (disch := omega) only [go_sem, wn, o, h, m0, m1, m2, m3]) <;> (try omega) <;> fail))) | (first | ((first | refine zX hgc rfl ?_ ?_ | refine zy hgc ?_ ?_); (focus ((try simp (disch := omega) only [go_sem, wn, o, h, m0, m1, m2, m3]) <;> (try omega) <;> fail))) | ((first | refine zX hzc rfl ?_ ?_ | refine zy hzc ?_ ?_); (focus ((try simp (disch := omega) only [go_sem, wn, o, h, m0, m1, m2, m3]) <;> (try omega) <;> fail))) | ((first | refine zX hsp rfl ?_ ?_ | refine zy hsp ?_ ?_); (focus ((try simp (disch := omega) only [go_sem, wn, o, h, m0, m1, m2, m3]) <;> (try omega) <;> fail))) | ((first | refine zX hop rfl ?_ ?_ | refine zy hop ?_ ?_); (focus ((try simp (disch := omega) only [go_sem, wn, o, h, m0, m1, m2, m3]) <;> (try omega) <;> fail))) | ((first | refine zX hgn rfl ?_ ?_ | refine zy hgn ?_ ?_); (focus ((try simp (disch := omega) only [go_sem, wn, o, h, m0, m1, m2, m3]) <;> (try omega) <;> fail))) | ((first | refine zX hse rfl ?_ ?_ | refine zy hse ?_ ?_); (focus ((try simp (disch := omega) only [go_sem, wn, o, h, m0, m1, m2, m3]) <;> (try omega) <;> fail))) | ((first | refine zX hjo rfl ?_ ?_ | refine zy hjo ?_ ?_); (focus ((try simp (disch := omega) only [go_sem, wn, o, h, m0, m1, m2, m3]) <;> (try omega) <;> fail))) | ((first | refine zX ha rfl ?_ ?_ | refine zy ha ?_ ?_); (focus ((try simp (disch := omega) only [go_sem, wn, o, h, m0, m1, m2, m3]) <;> (try omega) <;> fail)))) | ((first | (with_reducible refine zu ?_ ?_ <;> intro hg) | with_reducible intro hg) <;> (first | (exfalso; simp at hg; done) | (have hg' := hg; (try simp only [hcs, beq_iff_eq, ge_iff_le, gt_iff_lt] at hg'); (try simp only [hg]))))) <;> (try simp (disch := omega) only [go_sem, wn, o, h, m0, m1, m2, m3]) <;> (repeat' with_reducible refine And.intro ?_ ?_) <;> (try (with_reducible refine hK _ ?_; clear hK K)))
    | omega)
      all_goals first
        | (exfalso; omega)
        | (rw [if_pos (by omega)]; (refine zF rfl ?_ ?_ ?_ ?_; (iterate 3 (focus ((try simp (disch := omega) only [go_sem, wn, I, S]) <;> (try omega) <;> fail))); (try simp (disch := omega) only [go_sem, wn, I, S, I, B, S, inj, List.cons.injEq, and_true, true_and, and_self])); done)
        | (rw [if_neg (by omega)]; (refine zF rfl ?_ ?_ ?_ ?_; (iterate 3 (focus ((try simp (disch := omega) only [go_sem, wn, default]) <;> (try omega) <;> fail))); (try simp (disch := omega) only [go_sem, wn, default, I, B, S, inj, List.cons.injEq, and_true, true_and, and_self])); done)
theorem prep_c (t : ATree) (z : Int) (r : ARequest) (ht : okT t) (hr : r.wf) (hp : r.path.length ≤ 1048576) (hz : okI z) : acall Tryd.prog [] 54 [t.av, I z, r.av] (ret (.tup [(prepN t z r).1.av, I (prepN t z r).2])) := by
  by_cases hq : askOk t z r
  case neg => exact prep0_c t z r ht hr hp hz hq
  rcases (by omega : r.op = 3 ∨ r.op = 4 ∨ r.op = 5 ∨ r.op = 1 ∨ r.op = 2 ∨ ¬ (1 ≤ r.op ∧ r.op ≤ 5)) with o | o | o | o
  · exact prep3_c t z r ht hr hp hz hq o
  · exact prep4_c t z r ht hr hp hz hq o
  · exact prep5_c t z r ht hr hp hz hq o
  · exact prep1_c t z r ht hr hp hz hq o
theorem ref_prep_c (t : ATree) (z : Int) (r : ARequest) (ht : okT t) (hr : r.wf) (hp : r.path.length ≤ 1048576) (hz : okI z) : acall Tryd.prog [] 55 [t.av, I z, r.av] (ret (.tup [(prepN t z r).1.av, I (prepN t z r).2])) := by
  by_cases hq : askOk t z r
  case neg => exact ref_prep0_c t z r ht hr hp hz hq
  rcases (by omega : r.op = 3 ∨ r.op = 4 ∨ r.op = 5 ∨ r.op = 1 ∨ r.op = 2 ∨ ¬ (1 ≤ r.op ∧ r.op ≤ 5)) with o | o | o | o
  · exact ref_prep3_c t z r ht hr hp hz hq o
  · exact ref_prep4_c t z r ht hr hp hz hq o
  · exact ref_prep5_c t z r ht hr hp hz hq o
  · exact ref_prep1_c t z r ht hr hp hz hq o
end Go.Proofs.YtmpfhalheaeibaaDoor
namespace Go.Proofs.YtmpfhalheaeibaaDoor
set_option linter.unusedVariables false
set_option linter.unusedSimpArgs false
open Go Go.RowKit
set_option maxRecDepth 100000
set_option linter.unusedSimpArgs false
theorem t00_ok2 : okT t00 := ⟨t00_wf, fun y hy => by rw [List.mem_singleton.1 hy]; decide⟩
theorem t00_prep : prepN t00 1 ⟨1, 1, [], [], 0, 0⟩ = (t1, 0) := by decide +kernel
set_option maxHeartbeats 8000000 in
theorem prepMakes_w (t : ATree) (z : Int) (r : ARequest) (ht : okT t) (hr : r.wf) (hp : r.path.length ≤ 1048576) (hz : okI z) : acall Tryd.prog [] 12 [t.av, I z, r.av] (ret (B true)) := by
  have ha := prep_c t z r ht hr hp hz
  have hb := ref_prep_c t z r ht hr hp hz
  have h1 := (prep_c t00 1 ⟨1, 1, [], [], 0, 0⟩ t00_ok2 (by unfold ARequest.wf okS okI; decide) (Nat.zero_le _) (by unfold okI; decide)).re (congrArg (fun q : ATxn × Int => AV.tup [q.1.av, I q.2]) t00_prep)
  have hcp := copyT_c t ht.1
  generalize prepN t z r = q at ha hb
  obtain ⟨x, e⟩ := q
  simp only at ha hb
  refine zi tabOk Tryd.func12 rfl (by kernel_rfl) (by simp [Tryd.ntmps12]) ?_; simp only [Tryd.ntmps12, Tryd.results12, List.toList_toArray, apar, List.length_nil, List.length_cons, Nat.reduceAdd]
  (repeat' first
| (with_reducible refine AR.f ?_)
| refine zb (by decide) ?_
| (with_reducible refine AWP.cond rfl ?_ ?_ <;> intro hc <;> (try simp only [hcs, beq_iff_eq, ge_iff_le, gt_iff_lt] at hc))
| ((first | ((first | refine zP ((Plan.takes [2] (.forks 0 (.forks 1 (.fork 3 (.fork 4 (Plan.takes [5, 6, 7, 8, 9, 10] .done) 8 (Plan.takes [4, 5, 6, 7, 9, 10] .done)) 8 (Plan.takes [3, 4, 5, 6, 7, 9, 10] .done)) 3 (.fork 1 (.fork 4 (Plan.takes [5, 6, 7, 8, 9, 10] .done) 8 (Plan.takes [4, 5, 6, 7, 9, 10] .done)) 8 (Plan.takes [1, 4, 5, 6, 7, 9, 10] .done)) 8 (.fork 1 (Plan.takes [3, 4, 5, 6, 7, 9, 10] .done) 3 (Plan.takes [1, 4, 5, 6, 7, 9, 10] .done))) 3 (.fork 0 (.fork 1 (.fork 4 (Plan.takes [5, 6, 7, 8, 9, 10] .done) 8 (Plan.takes [4, 5, 6, 7, 9, 10] .done)) 8 (Plan.takes [1, 4, 5, 6, 7, 9, 10] .done)) 8 (Plan.takes [0, 1, 4, 5, 6, 7, 9, 10] .done)) 8 (Plan.takes [0] (.fork 1 (Plan.takes [3, 4, 5, 6, 7, 9, 10] .done) 3 (Plan.takes [1, 4, 5, 6, 7, 9, 10] .done)))))) (by decide +kernel) ?_ | refine zP ((Plan.takes [0, 1, 2, 3, 4, 5, 6, 7, 8] (.fork 9 (Plan.takes [10, 11, 12, 13, 14, 15] .done) 10 (Plan.takes [9, 11, 12, 13, 14, 15] .done)))) (by decide +kernel) ?_ | (with_reducible first | refine zR ?_ | refine zQ (by decide +kernel) ?_ | refine zD (by decide +kernel) ?_ | refine zE (by decide +kernel) ?_ | refine zG (by decide +kernel) ?_)); intro K hK) | ((first | refine zA hcp ?_ ?_ ?_ ?_ ?_ | refine zA ha ?_ ?_ ?_ ?_ ?_ | refine zA hb ?_ ?_ ?_ ?_ ?_ | refine zA h1 ?_ ?_ ?_ ?_ ?_ | refine zA opened_c ?_ ?_ ?_ ?_ ?_ | refine zA ref_new_c ?_ ?_ ?_ ?_ ?_); (focus exact rfl); (focus exact rfl); iterate 2 (focus ((try simp (disch := omega) only [go_sem, wn]) <;> (try omega) <;> fail))) | ((first | refine zN hcp rfl ?_ ?_ | refine zN ha rfl ?_ ?_ | refine zN hb rfl ?_ ?_ | refine zN h1 rfl ?_ ?_ | refine zN opened_c rfl ?_ ?_ | refine zN ref_new_c rfl ?_ ?_); (focus ((try simp (disch := omega) only [go_sem, wn]) <;> (try omega) <;> fail))) | (first | ((first | refine zX hcp rfl ?_ ?_ | refine zy hcp ?_ ?_); (focus ((try simp (disch := omega) only [go_sem, wn]) <;> (try omega) <;> fail))) | ((first | refine zX ha rfl ?_ ?_ | refine zy ha ?_ ?_); (focus ((try simp (disch := omega) only [go_sem, wn]) <;> (try omega) <;> fail))) | ((first | refine zX hb rfl ?_ ?_ | refine zy hb ?_ ?_); (focus ((try simp (disch := omega) only [go_sem, wn]) <;> (try omega) <;> fail))) | ((first | refine zX h1 rfl ?_ ?_ | refine zy h1 ?_ ?_); (focus ((try simp (disch := omega) only [go_sem, wn]) <;> (try omega) <;> fail))) | ((first | refine zX opened_c rfl ?_ ?_ | refine zy opened_c ?_ ?_); (focus ((try simp (disch := omega) only [go_sem, wn]) <;> (try omega) <;> fail))) | ((first | refine zX ref_new_c rfl ?_ ?_ | refine zy ref_new_c ?_ ?_); (focus ((try simp (disch := omega) only [go_sem, wn]) <;> (try omega) <;> fail)))) | ((first | (with_reducible refine zu ?_ ?_ <;> intro hg) | with_reducible intro hg) <;> (first | (exfalso; simp at hg; done) | (have hg' := hg; (try simp only [hcs, beq_iff_eq, ge_iff_le, gt_iff_lt] at hg'); (try simp only [hg]))))) <;> (try simp (disch := omega) only [go_sem, wn]) <;> (repeat' with_reducible refine And.intro ?_ ?_) <;> (try (with_reducible refine hK _ ?_; clear hK K)))
| omega)
  all_goals (refine zF rfl ?_ ?_ ?_ ?_; (iterate 3 (focus ((try simp (disch := omega) only [go_sem, wn]) <;> (try omega) <;> fail))); (try simp (disch := omega) only [go_sem, wn, I, B, S, inj, List.cons.injEq, and_true, true_and, and_self]))
  all_goals first | rfl | decide +kernel
theorem prepMakes_u (dss : List (List DV)) (h : typeds T 6 Tryd.f12.params.toList dss) (hs : ∀ cs, cs ∈ dss → ∀ c, c ∈ cs → SmallD 1048576 c) : acall Tryd.prog [] 12 (aargs T Tryd.f12.params.toList dss) (fun v _ => v = B true) := by
  rw [Tryd.params12] at h ⊢
  simp only [List.toList_toArray, typeds] at h
  obtain ⟨c0, d0, rfl, h0, c1, d1, rfl, h1, c2, d2, rfl, h2, rfl⟩ := h
  have s0 := hs c0 (by simp)
  have s1 := hs c1 (by simp)
  have s2 := hs c2 (by simp)
  obtain ⟨t, rfl, w_t⟩ := ATree_typed (m := 1) h0
  obtain ⟨z, rfl, w_z⟩ := ty_int (m := 5) (by simp only [T_3, ty3]) h1
  obtain ⟨r, rfl, w_r⟩ := ARequest_typed (m := 4) h2
  have u_t := s0
  have u_z := s1
  have u_r := s2
  simp only [List.toList_toArray, aargs, aarg, TI.agg_mk, T_3, ty3, T_44, ty44, T_81, ty81]
  exact (prepMakes_w t z r ⟨w_t, fun y hy => tree_small u_t hy⟩ w_r (u_r (DV.str r.path) (by simp [ARequest.row])).len w_z).mono fun _ _ h => h.1
end Go.Proofs.YtmpfhalheaeibaaDoor
