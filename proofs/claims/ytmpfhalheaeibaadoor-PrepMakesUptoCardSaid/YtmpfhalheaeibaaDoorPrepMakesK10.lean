/- A part of what PrepMakes leans on: texts of this claim, one behind the other. No condition. -/
import Derived.Test.YtmpfhalheaeibaaDoorPrepMakesK9
namespace Go.Proofs.YtmpfhalheaeibaaDoor
set_option linter.unusedVariables false
set_option linter.unusedSimpArgs false
open Go Go.RowKit
set_option maxRecDepth 100000
set_option linter.unusedSimpArgs false
theorem nodeN_c (z : Int) (ns : List ANode) (ss : List Int) (key : List UInt8) (h : ns.length * 88 ≤ 140737488351232) (hr : Rises (pathsN ns)) : acall Tryd.prog [] 93 [.agg [I z, .d (.sl 9 (ns.map ANode.row)), .d (.sl 1 (ss.map irow))], S key] (ret (I (nodeI ⟨z, ns, ss⟩ key))) :=
  nodeI_c ⟨z, ns, ss⟩ key h hr
set_option maxHeartbeats 8000000 in
theorem ref_apply_no (t : ATree) (x : ATxn) (hw : t.wf) (hps : ∀ n, n ∈ t.nodes → n.path.length ≤ 1048576) (hz : okI x.zxid) (hp : x.path.length ≤ 1048576) (hd : okS x.data) (h0 : ¬ wrongT t x = 0) : acall Tryd.prog [] 52 [t.av, x.av] (ret (.tup [(default : ATree).av, .d (.sl 2 (([] : List AEvent).map AEvent.row)), I (wrongT t x)])) := by
  have h1 := hw.2.1.1
  have h2 := hw.2.2.1
  by_cases a1 : goodTr t = true
  case neg =>
    have e : wrongT t x = 3 := by unfold wrongT; rw [if_pos (by simpa using a1)]
    rw [e]
    refine zi tabOk Tryd.func52 rfl (by kernel_rfl) (by simp [Tryd.ntmps52]) ?_; simp only [Tryd.ntmps52, Tryd.results52, List.toList_toArray, apar, List.length_nil, List.length_cons, Nat.reduceAdd]
    (repeat' first
  | (with_reducible refine AR.f ?_)
  | refine zb (by decide) ?_
  | (with_reducible refine AWP.cond rfl ?_ ?_ <;> intro hc <;> (try simp only [hcs, beq_iff_eq, ge_iff_le, gt_iff_lt] at hc))
  | (refine zh fun Kk hKk => (zi tabOk Tryd.func111 rfl (by kernel_rfl) (by simp [Tryd.ntmps111]) ?_); simp only [Tryd.ntmps111, Tryd.results111, List.toList_toArray, apar, List.length_nil, List.length_cons, Nat.reduceAdd, List.length_append, List.length_set, go_sem])
  | ((first | ((first | (with_reducible first | refine zR ?_ | refine zQ (by decide +kernel) ?_ | refine zD (by decide +kernel) ?_ | refine zE (by decide +kernel) ?_ | refine zG (by decide +kernel) ?_)); intro K hK) | ((first | refine zA ((ref_tgood_c t hw hps).re (congrArg B (by simpa using a1))) ?_ ?_ ?_ ?_ ?_); (focus exact rfl); (focus exact rfl); iterate 2 (focus ((try simp (disch := omega) only [go_sem, wn]) <;> (try omega) <;> fail))) | ((first | refine zN ((ref_tgood_c t hw hps).re (congrArg B (by simpa using a1))) rfl ?_ ?_); (focus ((try simp (disch := omega) only [go_sem, wn]) <;> (try omega) <;> fail))) | (first | ((first | refine zX ((ref_tgood_c t hw hps).re (congrArg B (by simpa using a1))) rfl ?_ ?_ | refine zy ((ref_tgood_c t hw hps).re (congrArg B (by simpa using a1))) ?_ ?_); (focus ((try simp (disch := omega) only [go_sem, wn]) <;> (try omega) <;> fail)))) | (refine zw (v := ?_) hKk (by first | exact .inl rfl | exact .inr rfl) ?_ ?_ ?_; rotate_left; (focus ((try simp (disch := omega) only [go_sem, wn]) <;> (try omega) <;> fail)); (focus ((try simp (disch := omega) only [go_sem, wn]) <;> (first | done | exact rfl))); clear hKk Kk) | ((first | (with_reducible refine zu ?_ ?_ <;> intro hg) | with_reducible intro hg) <;> (first | (exfalso; simp at hg; done) | (have hg' := hg; (try simp only [hcs, beq_iff_eq, ge_iff_le, gt_iff_lt] at hg'); (try simp only [hg]))))) <;> (try simp (disch := omega) only [go_sem, wn]) <;> (repeat' with_reducible refine And.intro ?_ ?_) <;> (try (with_reducible refine hK _ ?_; clear hK K)))
  | omega)
    (refine zF rfl ?_ ?_ ?_ ?_; (iterate 3 (focus ((try simp (disch := omega) only [go_sem, wn, default]) <;> (try omega) <;> fail))); (try simp (disch := omega) only [go_sem, wn, default, I, B, S, inj, List.cons.injEq, and_true, true_and, and_self]))
  have hr := good_rises a1
  have hgc := (ref_tgood_c t hw hps).re (congrArg B a1)
  by_cases a2 : goodT x = 0
  case neg =>
    have e : wrongT t x = goodT x := by unfold wrongT; rw [if_neg (by simp [a1]), if_pos a2]
    rw [e]
    refine zi tabOk Tryd.func52 rfl (by kernel_rfl) (by simp [Tryd.ntmps52]) ?_; simp only [Tryd.ntmps52, Tryd.results52, List.toList_toArray, apar, List.length_nil, List.length_cons, Nat.reduceAdd]
    (repeat' first
  | (with_reducible refine AR.f ?_)
  | refine zb (by decide) ?_
  | (with_reducible refine AWP.cond rfl ?_ ?_ <;> intro hc <;> (try simp only [hcs, beq_iff_eq, ge_iff_le, gt_iff_lt] at hc))
  | (refine zh fun Kk hKk => (zi tabOk Tryd.func111 rfl (by kernel_rfl) (by simp [Tryd.ntmps111]) ?_); simp only [Tryd.ntmps111, Tryd.results111, List.toList_toArray, apar, List.length_nil, List.length_cons, Nat.reduceAdd, List.length_append, List.length_set, go_sem])
  | ((first | ((first | (with_reducible first | refine zR ?_ | refine zQ (by decide +kernel) ?_ | refine zD (by decide +kernel) ?_ | refine zE (by decide +kernel) ?_ | refine zG (by decide +kernel) ?_)); intro K hK) | ((first | refine zA hgc ?_ ?_ ?_ ?_ ?_ | refine zA (ref_wgood_c x hz hp hd) ?_ ?_ ?_ ?_ ?_); (focus exact rfl); (focus exact rfl); iterate 2 (focus ((try simp (disch := omega) only [go_sem, wn]) <;> (try omega) <;> fail))) | ((first | refine zN hgc rfl ?_ ?_ | refine zN (ref_wgood_c x hz hp hd) rfl ?_ ?_); (focus ((try simp (disch := omega) only [go_sem, wn]) <;> (try omega) <;> fail))) | (first | ((first | refine zX hgc rfl ?_ ?_ | refine zy hgc ?_ ?_); (focus ((try simp (disch := omega) only [go_sem, wn]) <;> (try omega) <;> fail))) | ((first | refine zX (ref_wgood_c x hz hp hd) rfl ?_ ?_ | refine zy (ref_wgood_c x hz hp hd) ?_ ?_); (focus ((try simp (disch := omega) only [go_sem, wn]) <;> (try omega) <;> fail)))) | (refine zw (v := ?_) hKk (by first | exact .inl rfl | exact .inr rfl) ?_ ?_ ?_; rotate_left; (focus ((try simp (disch := omega) only [go_sem, wn]) <;> (try omega) <;> fail)); (focus ((try simp (disch := omega) only [go_sem, wn]) <;> (first | done | exact rfl))); clear hKk Kk) | ((first | (with_reducible refine zu ?_ ?_ <;> intro hg) | with_reducible intro hg) <;> (first | (exfalso; simp at hg; done) | (have hg' := hg; (try simp only [hcs, beq_iff_eq, ge_iff_le, gt_iff_lt] at hg'); (try simp only [hg]))))) <;> (try simp (disch := omega) only [go_sem, wn]) <;> (repeat' with_reducible refine And.intro ?_ ?_) <;> (try (with_reducible refine hK _ ?_; clear hK K)))
  | omega)
    all_goals first | (exfalso; omega) | skip
    (refine zF rfl ?_ ?_ ?_ ?_; (iterate 3 (focus ((try simp (disch := omega) only [go_sem, wn, default]) <;> (try omega) <;> fail))); (try simp (disch := omega) only [go_sem, wn, default, I, B, S, inj, List.cons.injEq, and_true, true_and, and_self]))
  have hxc := (ref_wgood_c x hz hp hd).re (congrArg I a2)
  obtain ⟨o1, o2, _, _⟩ := goodT_nums a2
  have hcut : wrongT t x = if x.zxid ≤ t.zxid then 13 else if x.op = 1 then (if x.session ∈ t.sessions then 8 else 0) else if ¬ x.session ∈ t.sessions then 12 else if x.op = 3 then lacksT t x (getT t x.path).2
    else if x.op = 4 then (if (getT t x.path).2 = 0 ∧ 0 < (getT t x.path).1.stat.kids then 10 else (getT t x.path).2) else if x.op = 5 then (if (getT t x.path).2 = 0 ∧ ¬ x.version = (getT t x.path).1.stat.version + 1 then 9 else (getT t x.path).2) else 0 := by
    unfold wrongT; rw [if_neg (by simp [a1]), if_neg (fun h => h a2)]
  have hoc := isOpen_c t x.session h2
  rw [hcut] at h0 ⊢
  clear hcut
  by_cases a3 : x.zxid ≤ t.zxid
  · rw [if_pos a3]
    refine zi tabOk Tryd.func52 rfl (by kernel_rfl) (by simp [Tryd.ntmps52]) ?_; simp only [Tryd.ntmps52, Tryd.results52, List.toList_toArray, apar, List.length_nil, List.length_cons, Nat.reduceAdd]
    (repeat' first
  | (with_reducible refine AR.f ?_)
  | refine zb (by decide) ?_
  | (with_reducible refine AWP.cond rfl ?_ ?_ <;> intro hc <;> (try simp only [hcs, beq_iff_eq, ge_iff_le, gt_iff_lt] at hc))
  | (refine zh fun Kk hKk => (zi tabOk Tryd.func111 rfl (by kernel_rfl) (by simp [Tryd.ntmps111]) ?_); simp only [Tryd.ntmps111, Tryd.results111, List.toList_toArray, apar, List.length_nil, List.length_cons, Nat.reduceAdd, List.length_append, List.length_set, go_sem])
  | ((first | ((first | (with_reducible first | refine zR ?_ | refine zQ (by decide +kernel) ?_ | refine zD (by decide +kernel) ?_ | refine zE (by decide +kernel) ?_ | refine zG (by decide +kernel) ?_)); intro K hK) | ((first | refine zA hgc ?_ ?_ ?_ ?_ ?_ | refine zA hxc ?_ ?_ ?_ ?_ ?_); (focus exact rfl); (focus exact rfl); iterate 2 (focus ((try simp (disch := omega) only [go_sem, wn, a3]) <;> (try omega) <;> fail))) | ((first | refine zN hgc rfl ?_ ?_ | refine zN hxc rfl ?_ ?_); (focus ((try simp (disch := omega) only [go_sem, wn, a3]) <;> (try omega) <;> fail))) | (first | ((first | refine zX hgc rfl ?_ ?_ | refine zy hgc ?_ ?_); (focus ((try simp (disch := omega) only [go_sem, wn, a3]) <;> (try omega) <;> fail))) | ((first | refine zX hxc rfl ?_ ?_ | refine zy hxc ?_ ?_); (focus ((try simp (disch := omega) only [go_sem, wn, a3]) <;> (try omega) <;> fail)))) | (refine zw (v := ?_) hKk (by first | exact .inl rfl | exact .inr rfl) ?_ ?_ ?_; rotate_left; (focus ((try simp (disch := omega) only [go_sem, wn, a3]) <;> (try omega) <;> fail)); (focus ((try simp (disch := omega) only [go_sem, wn, a3]) <;> (first | done | exact rfl))); clear hKk Kk) | ((first | (with_reducible refine zu ?_ ?_ <;> intro hg) | with_reducible intro hg) <;> (first | (exfalso; simp at hg; done) | (have hg' := hg; (try simp only [hcs, beq_iff_eq, ge_iff_le, gt_iff_lt] at hg'); (try simp only [hg]))))) <;> (try simp (disch := omega) only [go_sem, wn, a3]) <;> (repeat' with_reducible refine And.intro ?_ ?_) <;> (try (with_reducible refine hK _ ?_; clear hK K)))
  | omega)
    all_goals first | (exfalso; omega) | skip
    (refine zF rfl ?_ ?_ ?_ ?_; (iterate 3 (focus ((try simp (disch := omega) only [go_sem, wn, default]) <;> (try omega) <;> fail))); (try simp (disch := omega) only [go_sem, wn, default, I, B, S, inj, List.cons.injEq, and_true, true_and, and_self]))
  rw [if_neg a3] at h0 ⊢
  by_cases b1 : x.op = 1
  · rw [if_pos b1] at h0 ⊢
    by_cases m : x.session ∈ t.sessions
    · rw [if_pos m]
      refine zi tabOk Tryd.func52 rfl (by kernel_rfl) (by simp [Tryd.ntmps52]) ?_; simp only [Tryd.ntmps52, Tryd.results52, List.toList_toArray, apar, List.length_nil, List.length_cons, Nat.reduceAdd]
      (repeat' first
    | (with_reducible refine AR.f ?_)
    | refine zb (by decide) ?_
    | (with_reducible refine AWP.cond rfl ?_ ?_ <;> intro hc <;> (try simp only [hcs, beq_iff_eq, ge_iff_le, gt_iff_lt] at hc))
    | (refine zh fun Kk hKk => (zi tabOk Tryd.func111 rfl (by kernel_rfl) (by simp [Tryd.ntmps111]) ?_); simp only [Tryd.ntmps111, Tryd.results111, List.toList_toArray, apar, List.length_nil, List.length_cons, Nat.reduceAdd, List.length_append, List.length_set, go_sem])
    | ((first | ((first | (with_reducible first | refine zR ?_ | refine zQ (by decide +kernel) ?_ | refine zD (by decide +kernel) ?_ | refine zE (by decide +kernel) ?_ | refine zG (by decide +kernel) ?_)); intro K hK) | ((first | refine zA hgc ?_ ?_ ?_ ?_ ?_ | refine zA hxc ?_ ?_ ?_ ?_ ?_ | refine zA (hoc.re (congrArg B (decide_eq_true m))) ?_ ?_ ?_ ?_ ?_); (focus exact rfl); (focus exact rfl); iterate 2 (focus ((try simp (disch := omega) only [go_sem, wn, a3, b1]) <;> (try omega) <;> fail))) | ((first | refine zN hgc rfl ?_ ?_ | refine zN hxc rfl ?_ ?_ | refine zN (hoc.re (congrArg B (decide_eq_true m))) rfl ?_ ?_); (focus ((try simp (disch := omega) only [go_sem, wn, a3, b1]) <;> (try omega) <;> fail))) | (first | ((first | refine zX hgc rfl ?_ ?_ | refine zy hgc ?_ ?_); (focus ((try simp (disch := omega) only [go_sem, wn, a3, b1]) <;> (try omega) <;> fail))) | ((first | refine zX hxc rfl ?_ ?_ | refine zy hxc ?_ ?_); (focus ((try simp (disch := omega) only [go_sem, wn, a3, b1]) <;> (try omega) <;> fail))) | ((first | refine zX (hoc.re (congrArg B (decide_eq_true m))) rfl ?_ ?_ | refine zy (hoc.re (congrArg B (decide_eq_true m))) ?_ ?_); (focus ((try simp (disch := omega) only [go_sem, wn, a3, b1]) <;> (try omega) <;> fail)))) | (refine zw (v := ?_) hKk (by first | exact .inl rfl | exact .inr rfl) ?_ ?_ ?_; rotate_left; (focus ((try simp (disch := omega) only [go_sem, wn, a3, b1]) <;> (try omega) <;> fail)); (focus ((try simp (disch := omega) only [go_sem, wn, a3, b1]) <;> (first | done | exact rfl))); clear hKk Kk) | ((first | (with_reducible refine zu ?_ ?_ <;> intro hg) | with_reducible intro hg) <;> (first | (exfalso; simp at hg; done) | (have hg' := hg; (try simp only [hcs, beq_iff_eq, ge_iff_le, gt_iff_lt] at hg'); (try simp only [hg]))))) <;> (try simp (disch := omega) only [go_sem, wn, a3, b1]) <;> (repeat' with_reducible refine And.intro ?_ ?_) <;> (try (with_reducible refine hK _ ?_; clear hK K)))
    | omega)
      all_goals first | (exfalso; omega) | skip
      (refine zF rfl ?_ ?_ ?_ ?_; (iterate 3 (focus ((try simp (disch := omega) only [go_sem, wn, default]) <;> (try omega) <;> fail))); (try simp (disch := omega) only [go_sem, wn, default, I, B, S, inj, List.cons.injEq, and_true, true_and, and_self]))
    · rw [if_neg m] at h0; exact absurd rfl h0
  rw [if_neg b1] at h0 ⊢
  by_cases m : x.session ∈ t.sessions
  case neg =>
    rw [if_pos m]
    refine zi tabOk Tryd.func52 rfl (by kernel_rfl) (by simp [Tryd.ntmps52]) ?_; simp only [Tryd.ntmps52, Tryd.results52, List.toList_toArray, apar, List.length_nil, List.length_cons, Nat.reduceAdd]
    (repeat' first
  | (with_reducible refine AR.f ?_)
  | refine zb (by decide) ?_
  | (with_reducible refine AWP.cond rfl ?_ ?_ <;> intro hc <;> (try simp only [hcs, beq_iff_eq, ge_iff_le, gt_iff_lt] at hc))
  | (refine zh fun Kk hKk => (zi tabOk Tryd.func111 rfl (by kernel_rfl) (by simp [Tryd.ntmps111]) ?_); simp only [Tryd.ntmps111, Tryd.results111, List.toList_toArray, apar, List.length_nil, List.length_cons, Nat.reduceAdd, List.length_append, List.length_set, go_sem])
  | ((first | ((first | (with_reducible first | refine zR ?_ | refine zQ (by decide +kernel) ?_ | refine zD (by decide +kernel) ?_ | refine zE (by decide +kernel) ?_ | refine zG (by decide +kernel) ?_)); intro K hK) | ((first | refine zA hgc ?_ ?_ ?_ ?_ ?_ | refine zA hxc ?_ ?_ ?_ ?_ ?_ | refine zA (hoc.re (congrArg B (decide_eq_false m))) ?_ ?_ ?_ ?_ ?_); (focus exact rfl); (focus exact rfl); iterate 2 (focus ((try simp (disch := omega) only [go_sem, wn, a3, b1]) <;> (try omega) <;> fail))) | ((first | refine zN hgc rfl ?_ ?_ | refine zN hxc rfl ?_ ?_ | refine zN (hoc.re (congrArg B (decide_eq_false m))) rfl ?_ ?_); (focus ((try simp (disch := omega) only [go_sem, wn, a3, b1]) <;> (try omega) <;> fail))) | (first | ((first | refine zX hgc rfl ?_ ?_ | refine zy hgc ?_ ?_); (focus ((try simp (disch := omega) only [go_sem, wn, a3, b1]) <;> (try omega) <;> fail))) | ((first | refine zX hxc rfl ?_ ?_ | refine zy hxc ?_ ?_); (focus ((try simp (disch := omega) only [go_sem, wn, a3, b1]) <;> (try omega) <;> fail))) | ((first | refine zX (hoc.re (congrArg B (decide_eq_false m))) rfl ?_ ?_ | refine zy (hoc.re (congrArg B (decide_eq_false m))) ?_ ?_); (focus ((try simp (disch := omega) only [go_sem, wn, a3, b1]) <;> (try omega) <;> fail)))) | (refine zw (v := ?_) hKk (by first | exact .inl rfl | exact .inr rfl) ?_ ?_ ?_; rotate_left; (focus ((try simp (disch := omega) only [go_sem, wn, a3, b1]) <;> (try omega) <;> fail)); (focus ((try simp (disch := omega) only [go_sem, wn, a3, b1]) <;> (first | done | exact rfl))); clear hKk Kk) | ((first | (with_reducible refine zu ?_ ?_ <;> intro hg) | with_reducible intro hg) <;> (first | (exfalso; simp at hg; done) | (have hg' := hg; (try simp only [hcs, beq_iff_eq, ge_iff_le, gt_iff_lt] at hg'); (try simp only [hg]))))) <;> (try simp (disch := omega) only [go_sem, wn, a3, b1]) <;> (repeat' with_reducible refine And.intro ?_ ?_) <;> (try (with_reducible refine hK _ ?_; clear hK K)))
  | omega)
    all_goals first | (exfalso; omega) | skip
    (refine zF rfl ?_ ?_ ?_ ?_; (iterate 3 (focus ((try simp (disch := omega) only [go_sem, wn, default]) <;> (try omega) <;> fail))); (try simp (disch := omega) only [go_sem, wn, default, I, B, S, inj, List.cons.injEq, and_true, true_and, and_self]))
  rw [if_neg (fun h => h m)] at h0 ⊢
  have hoc2 := hoc.re (congrArg B (decide_eq_true m))
  have hn1 := nodeN_c t.zxid t.nodes t.sessions x.path h1 hr
  have hn2 := nodeN_c t.zxid t.nodes t.sessions (dirP x.path) h1 hr
  have hsp := ref_split_c x.path hp
  have e1 : (splitP x.path).1.1 = dirP x.path := rfl
  have hpos (p : List UInt8) (q : p ∈ pathsT t) : nodeI t p = (place (pathsT t) p : Nat) ∧ place (pathsT t) p < t.nodes.length ∧ getT t p = (nd t (place (pathsT t) p), 0) := by
    have := (zc hr q).1
    rw [pathsT_len] at this
    exact ⟨nodeI_yes q, this, by unfold getT; rw [if_pos q]⟩
  by_cases b3 : x.op = 3
  · rw [if_pos b3] at h0 ⊢
    unfold lacksT at h0 ⊢
    by_cases q1 : x.path ∈ pathsT t
    · obtain ⟨p1, p2, p3⟩ := hpos _ q1
      rw [if_pos (getT_zero.2 q1)]
      refine zi tabOk Tryd.func52 rfl (by kernel_rfl) (by simp [Tryd.ntmps52]) ?_; simp only [Tryd.ntmps52, Tryd.results52, List.toList_toArray, apar, List.length_nil, List.length_cons, Nat.reduceAdd]
      (repeat' first
    | (with_reducible refine AR.f ?_)
    | refine zb (by decide) ?_
    | (with_reducible refine AWP.cond rfl ?_ ?_ <;> intro hc <;> (try simp only [hcs, beq_iff_eq, ge_iff_le, gt_iff_lt] at hc))
    | (refine zh fun Kk hKk => (zi tabOk Tryd.func111 rfl (by kernel_rfl) (by simp [Tryd.ntmps111]) ?_); simp only [Tryd.ntmps111, Tryd.results111, List.toList_toArray, apar, List.length_nil, List.length_cons, Nat.reduceAdd, List.length_append, List.length_set, go_sem])
    | ((first | ((first | (with_reducible first | refine zR ?_ | refine zQ (by decide +kernel) ?_ | refine zD (by decide +kernel) ?_ | refine zE (by decide +kernel) ?_ | refine zG (by decide +kernel) ?_)); intro K hK) | ((first | refine zA hgc ?_ ?_ ?_ ?_ ?_ | refine zA hxc ?_ ?_ ?_ ?_ ?_ | refine zA hoc2 ?_ ?_ ?_ ?_ ?_ | refine zA (hn1.re (congrArg I p1)) ?_ ?_ ?_ ?_ ?_ | refine zA hn2 ?_ ?_ ?_ ?_ ?_ | refine zA hsp ?_ ?_ ?_ ?_ ?_); (focus exact rfl); (focus exact rfl); iterate 2 (focus ((try simp (disch := omega) only [go_sem, wn, b3, e1]) <;> (try omega) <;> fail))) | ((first | refine zN hgc rfl ?_ ?_ | refine zN hxc rfl ?_ ?_ | refine zN hoc2 rfl ?_ ?_ | refine zN (hn1.re (congrArg I p1)) rfl ?_ ?_ | refine zN hn2 rfl ?_ ?_ | refine zN hsp rfl ?_ ?_); (focus ((try simp (disch := omega) only [go_sem, wn, b3, e1]) <;> (try omega) <;> fail))) | (first | ((first | refine zX hgc rfl ?_ ?_ | refine zy hgc ?_ ?_); (focus ((try simp (disch := omega) only [go_sem, wn, b3, e1]) <;> (try omega) <;> fail))) | ((first | refine zX hxc rfl ?_ ?_ | refine zy hxc ?_ ?_); (focus ((try simp (disch := omega) only [go_sem, wn, b3, e1]) <;> (try omega) <;> fail))) | ((first | refine zX hoc2 rfl ?_ ?_ | refine zy hoc2 ?_ ?_); (focus ((try simp (disch := omega) only [go_sem, wn, b3, e1]) <;> (try omega) <;> fail))) | ((first | refine zX (hn1.re (congrArg I p1)) rfl ?_ ?_ | refine zy (hn1.re (congrArg I p1)) ?_ ?_); (focus ((try simp (disch := omega) only [go_sem, wn, b3, e1]) <;> (try omega) <;> fail))) | ((first | refine zX hn2 rfl ?_ ?_ | refine zy hn2 ?_ ?_); (focus ((try simp (disch := omega) only [go_sem, wn, b3, e1]) <;> (try omega) <;> fail))) | ((first | refine zX hsp rfl ?_ ?_ | refine zy hsp ?_ ?_); (focus ((try simp (disch := omega) only [go_sem, wn, b3, e1]) <;> (try omega) <;> fail)))) | (refine zw (v := ?_) hKk (by first | exact .inl rfl | exact .inr rfl) ?_ ?_ ?_; rotate_left; (focus ((try simp (disch := omega) only [go_sem, wn, b3, e1]) <;> (try omega) <;> fail)); (focus ((try simp (disch := omega) only [go_sem, wn, b3, e1]) <;> (first | done | exact rfl))); clear hKk Kk) | ((first | (with_reducible refine zu ?_ ?_ <;> intro hg) | with_reducible intro hg) <;> (first | (exfalso; simp at hg; done) | (have hg' := hg; (try simp only [hcs, beq_iff_eq, ge_iff_le, gt_iff_lt] at hg'); (try simp only [hg]))))) <;> (try simp (disch := omega) only [go_sem, wn, b3, e1]) <;> (repeat' with_reducible refine And.intro ?_ ?_) <;> (try (with_reducible refine hK _ ?_; clear hK K)))
    | omega)
      all_goals first | (exfalso; omega) | skip
      (refine zF rfl ?_ ?_ ?_ ?_; (iterate 3 (focus ((try simp (disch := omega) only [go_sem, wn, default]) <;> (try omega) <;> fail))); (try simp (disch := omega) only [go_sem, wn, default, I, B, S, inj, List.cons.injEq, and_true, true_and, and_self]))
    rw [if_neg (fun h => q1 (getT_zero.1 h))] at h0 ⊢
    have k1 := hn1.re (congrArg I (nodeI_no q1))
    by_cases q2 : dirP x.path ∈ pathsT t
    case neg =>
      have g7 := getT_seven q2
      unfold dirP at g7
      rw [g7, if_pos (by decide)]
      refine zi tabOk Tryd.func52 rfl (by kernel_rfl) (by simp [Tryd.ntmps52]) ?_; simp only [Tryd.ntmps52, Tryd.results52, List.toList_toArray, apar, List.length_nil, List.length_cons, Nat.reduceAdd]
      (repeat' first
    | (with_reducible refine AR.f ?_)
    | refine zb (by decide) ?_
    | (with_reducible refine AWP.cond rfl ?_ ?_ <;> intro hc <;> (try simp only [hcs, beq_iff_eq, ge_iff_le, gt_iff_lt] at hc))
    | (refine zh fun Kk hKk => (zi tabOk Tryd.func111 rfl (by kernel_rfl) (by simp [Tryd.ntmps111]) ?_); simp only [Tryd.ntmps111, Tryd.results111, List.toList_toArray, apar, List.length_nil, List.length_cons, Nat.reduceAdd, List.length_append, List.length_set, go_sem])
    | ((first | ((first | (with_reducible first | refine zR ?_ | refine zQ (by decide +kernel) ?_ | refine zD (by decide +kernel) ?_ | refine zE (by decide +kernel) ?_ | refine zG (by decide +kernel) ?_)); intro K hK) | ((first | refine zA hgc ?_ ?_ ?_ ?_ ?_ | refine zA hxc ?_ ?_ ?_ ?_ ?_ | refine zA hoc2 ?_ ?_ ?_ ?_ ?_ | refine zA k1 ?_ ?_ ?_ ?_ ?_ | refine zA (hn2.re (congrArg I (nodeI_no q2))) ?_ ?_ ?_ ?_ ?_ | refine zA hsp ?_ ?_ ?_ ?_ ?_); (focus exact rfl); (focus exact rfl); iterate 2 (focus ((try simp (disch := omega) only [go_sem, wn, b3, e1]) <;> (try omega) <;> fail))) | ((first | refine zN hgc rfl ?_ ?_ | refine zN hxc rfl ?_ ?_ | refine zN hoc2 rfl ?_ ?_ | refine zN k1 rfl ?_ ?_ | refine zN (hn2.re (congrArg I (nodeI_no q2))) rfl ?_ ?_ | refine zN hsp rfl ?_ ?_); (focus ((try simp (disch := omega) only [go_sem, wn, b3, e1]) <;> (try omega) <;> fail))) | (first | ((first | refine zX hgc rfl ?_ ?_ | refine zy hgc ?_ ?_); (focus ((try simp (disch := omega) only [go_sem, wn, b3, e1]) <;> (try omega) <;> fail))) | ((first | refine zX hxc rfl ?_ ?_ | refine zy hxc ?_ ?_); (focus ((try simp (disch := omega) only [go_sem, wn, b3, e1]) <;> (try omega) <;> fail))) | ((first | refine zX hoc2 rfl ?_ ?_ | refine zy hoc2 ?_ ?_); (focus ((try simp (disch := omega) only [go_sem, wn, b3, e1]) <;> (try omega) <;> fail))) | ((first | refine zX k1 rfl ?_ ?_ | refine zy k1 ?_ ?_); (focus ((try simp (disch := omega) only [go_sem, wn, b3, e1]) <;> (try omega) <;> fail))) | ((first | refine zX (hn2.re (congrArg I (nodeI_no q2))) rfl ?_ ?_ | refine zy (hn2.re (congrArg I (nodeI_no q2))) ?_ ?_); (focus ((try simp (disch := omega) only [go_sem, wn, b3, e1]) <;> (try omega) <;> fail))) | ((first | refine zX hsp rfl ?_ ?_ | refine zy hsp ?_ ?_); (focus ((try simp (disch := omega) only [go_sem, wn, b3, e1]) <;> (try omega) <;> fail)))) | (refine zw (v := ?_) hKk (by first | exact .inl rfl | exact .inr rfl) ?_ ?_ ?_; rotate_left; (focus ((try simp (disch := omega) only [go_sem, wn, b3, e1]) <;> (try omega) <;> fail)); (focus ((try simp (disch := omega) only [go_sem, wn, b3, e1]) <;> (first | done | exact rfl))); clear hKk Kk) | ((first | (with_reducible refine zu ?_ ?_ <;> intro hg) | with_reducible intro hg) <;> (first | (exfalso; simp at hg; done) | (have hg' := hg; (try simp only [hcs, beq_iff_eq, ge_iff_le, gt_iff_lt] at hg'); (try simp only [hg]))))) <;> (try simp (disch := omega) only [go_sem, wn, b3, e1]) <;> (repeat' with_reducible refine And.intro ?_ ?_) <;> (try (with_reducible refine hK _ ?_; clear hK K)))
    | omega)
      all_goals first | (exfalso; omega) | skip
      (refine zF rfl ?_ ?_ ?_ ?_; (iterate 3 (focus ((try simp (disch := omega) only [go_sem, wn, default]) <;> (try omega) <;> fail))); (try simp (disch := omega) only [go_sem, wn, default, I, B, S, inj, List.cons.injEq, and_true, true_and, and_self]))
    obtain ⟨p1, p2, p3⟩ := hpos _ q2
    have k2 := hn2.re (congrArg I p1)
    have p3' : getT t (splitP x.path).1.1 = (nd t (place (pathsT t) (dirP x.path)), 0) := p3
    rw [p3'] at h0 ⊢
    simp only [not_true_eq_false, if_false] at h0 ⊢
    unfold nd at h0 ⊢
    generalize place (pathsT t) (dirP x.path) = q at p2 k2 h0 ⊢
    by_cases q3 : (t.nodes.getD q default).stat.owner = 0
    case neg =>
      rw [if_pos q3]
      refine zi tabOk Tryd.func52 rfl (by kernel_rfl) (by simp [Tryd.ntmps52]) ?_; simp only [Tryd.ntmps52, Tryd.results52, List.toList_toArray, apar, List.length_nil, List.length_cons, Nat.reduceAdd]
      (repeat' first
    | (with_reducible refine AR.f ?_)
    | refine zb (by decide) ?_
    | (with_reducible refine AWP.cond rfl ?_ ?_ <;> intro hc <;> (try simp only [hcs, beq_iff_eq, ge_iff_le, gt_iff_lt] at hc))
    | (refine zh fun Kk hKk => (zi tabOk Tryd.func111 rfl (by kernel_rfl) (by simp [Tryd.ntmps111]) ?_); simp only [Tryd.ntmps111, Tryd.results111, List.toList_toArray, apar, List.length_nil, List.length_cons, Nat.reduceAdd, List.length_append, List.length_set, go_sem])
    | ((first | ((first | (with_reducible first | refine zR ?_ | refine zQ (by decide +kernel) ?_ | refine zD (by decide +kernel) ?_ | refine zE (by decide +kernel) ?_ | refine zG (by decide +kernel) ?_)); intro K hK) | ((first | refine zA hgc ?_ ?_ ?_ ?_ ?_ | refine zA hxc ?_ ?_ ?_ ?_ ?_ | refine zA hoc2 ?_ ?_ ?_ ?_ ?_ | refine zA k1 ?_ ?_ ?_ ?_ ?_ | refine zA k2 ?_ ?_ ?_ ?_ ?_ | refine zA hsp ?_ ?_ ?_ ?_ ?_); (focus exact rfl); (focus exact rfl); iterate 2 (focus ((try simp (disch := omega) only [go_sem, wn, b3, e1]) <;> (try omega) <;> fail))) | ((first | refine zN hgc rfl ?_ ?_ | refine zN hxc rfl ?_ ?_ | refine zN hoc2 rfl ?_ ?_ | refine zN k1 rfl ?_ ?_ | refine zN k2 rfl ?_ ?_ | refine zN hsp rfl ?_ ?_); (focus ((try simp (disch := omega) only [go_sem, wn, b3, e1]) <;> (try omega) <;> fail))) | (first | ((first | refine zX hgc rfl ?_ ?_ | refine zy hgc ?_ ?_); (focus ((try simp (disch := omega) only [go_sem, wn, b3, e1]) <;> (try omega) <;> fail))) | ((first | refine zX hxc rfl ?_ ?_ | refine zy hxc ?_ ?_); (focus ((try simp (disch := omega) only [go_sem, wn, b3, e1]) <;> (try omega) <;> fail))) | ((first | refine zX hoc2 rfl ?_ ?_ | refine zy hoc2 ?_ ?_); (focus ((try simp (disch := omega) only [go_sem, wn, b3, e1]) <;> (try omega) <;> fail))) | ((first | refine zX k1 rfl ?_ ?_ | refine zy k1 ?_ ?_); (focus ((try simp (disch := omega) only [go_sem, wn, b3, e1]) <;> (try omega) <;> fail))) | ((first | refine zX k2 rfl ?_ ?_ | refine zy k2 ?_ ?_); (focus ((try simp (disch := omega) only [go_sem, wn, b3, e1]) <;> (try omega) <;> fail))) | ((first | refine zX hsp rfl ?_ ?_ | refine zy hsp ?_ ?_); (focus ((try simp (disch := omega) only [go_sem, wn, b3, e1]) <;> (try omega) <;> fail)))) | (refine zw (v := ?_) hKk (by first | exact .inl rfl | exact .inr rfl) ?_ ?_ ?_; rotate_left; (focus ((try simp (disch := omega) only [go_sem, wn, b3, e1]) <;> (try omega) <;> fail)); (focus ((try simp (disch := omega) only [go_sem, wn, b3, e1]) <;> (first | done | exact rfl))); clear hKk Kk) | ((first | (with_reducible refine zu ?_ ?_ <;> intro hg) | with_reducible intro hg) <;> (first | (exfalso; simp at hg; done) | (have hg' := hg; (try simp only [hcs, beq_iff_eq, ge_iff_le, gt_iff_lt] at hg'); (try simp only [hg]))))) <;> (try simp (disch := omega) only [go_sem, wn, b3, e1]) <;> (repeat' with_reducible refine And.intro ?_ ?_) <;> (try (with_reducible refine hK _ ?_; clear hK K)))
    | omega)
      all_goals first | (exfalso; omega) | skip
      (refine zF rfl ?_ ?_ ?_ ?_; (iterate 3 (focus ((try simp (disch := omega) only [go_sem, wn, default]) <;> (try omega) <;> fail))); (try simp (disch := omega) only [go_sem, wn, default, I, B, S, inj, List.cons.injEq, and_true, true_and, and_self]))
    rw [if_neg (fun h => h q3)] at h0 ⊢
    by_cases q4 : ¬ x.owner = 0 ∧ ¬ x.owner = x.session
    · rw [if_pos q4]
      refine zi tabOk Tryd.func52 rfl (by kernel_rfl) (by simp [Tryd.ntmps52]) ?_; simp only [Tryd.ntmps52, Tryd.results52, List.toList_toArray, apar, List.length_nil, List.length_cons, Nat.reduceAdd]
      (repeat' first
    | (with_reducible refine AR.f ?_)
    | refine zb (by decide) ?_
    | (with_reducible refine AWP.cond rfl ?_ ?_ <;> intro hc <;> (try simp only [hcs, beq_iff_eq, ge_iff_le, gt_iff_lt] at hc))
    | (refine zh fun Kk hKk => (zi tabOk Tryd.func111 rfl (by kernel_rfl) (by simp [Tryd.ntmps111]) ?_); simp only [Tryd.ntmps111, Tryd.results111, List.toList_toArray, apar, List.length_nil, List.length_cons, Nat.reduceAdd, List.length_append, List.length_set, go_sem])
    | ((first | ((first | (with_reducible first | refine zR ?_ | refine zQ (by decide +kernel) ?_ | refine zD (by decide +kernel) ?_ | refine zE (by decide +kernel) ?_ | refine zG (by decide +kernel) ?_)); intro K hK) | ((first | refine zA hgc ?_ ?_ ?_ ?_ ?_ | refine zA hxc ?_ ?_ ?_ ?_ ?_ | refine zA hoc2 ?_ ?_ ?_ ?_ ?_ | refine zA k1 ?_ ?_ ?_ ?_ ?_ | refine zA k2 ?_ ?_ ?_ ?_ ?_ | refine zA hsp ?_ ?_ ?_ ?_ ?_); (focus exact rfl); (focus exact rfl); iterate 2 (focus ((try simp (disch := omega) only [go_sem, wn, b3, e1, q3]) <;> (try omega) <;> fail))) | ((first | refine zN hgc rfl ?_ ?_ | refine zN hxc rfl ?_ ?_ | refine zN hoc2 rfl ?_ ?_ | refine zN k1 rfl ?_ ?_ | refine zN k2 rfl ?_ ?_ | refine zN hsp rfl ?_ ?_); (focus ((try simp (disch := omega) only [go_sem, wn, b3, e1, q3]) <;> (try omega) <;> fail))) | (first | ((first | refine zX hgc rfl ?_ ?_ | refine zy hgc ?_ ?_); (focus ((try simp (disch := omega) only [go_sem, wn, b3, e1, q3]) <;> (try omega) <;> fail))) | ((first | refine zX hxc rfl ?_ ?_ | refine zy hxc ?_ ?_); (focus ((try simp (disch := omega) only [go_sem, wn, b3, e1, q3]) <;> (try omega) <;> fail))) | ((first | refine zX hoc2 rfl ?_ ?_ | refine zy hoc2 ?_ ?_); (focus ((try simp (disch := omega) only [go_sem, wn, b3, e1, q3]) <;> (try omega) <;> fail))) | ((first | refine zX k1 rfl ?_ ?_ | refine zy k1 ?_ ?_); (focus ((try simp (disch := omega) only [go_sem, wn, b3, e1, q3]) <;> (try omega) <;> fail))) | ((first | refine zX k2 rfl ?_ ?_ | refine zy k2 ?_ ?_); (focus ((try simp (disch := omega) only [go_sem, wn, b3, e1, q3]) <;> (try omega) <;> fail))) | ((first | refine zX hsp rfl ?_ ?_ | refine zy hsp ?_ ?_); (focus ((try simp (disch := omega) only [go_sem, wn, b3, e1, q3]) <;> (try omega) <;> fail)))) | (refine zw (v := ?_) hKk (by first | exact .inl rfl | exact .inr rfl) ?_ ?_ ?_; rotate_left; (focus ((try simp (disch := omega) only [go_sem, wn, b3, e1, q3]) <;> (try omega) <;> fail)); (focus ((try simp (disch := omega) only [go_sem, wn, b3, e1, q3]) <;> (first | done | exact rfl))); clear hKk Kk) | ((first | (with_reducible refine zu ?_ ?_ <;> intro hg) | with_reducible intro hg) <;> (first | (exfalso; simp at hg; done) | (have hg' := hg; (try simp only [hcs, beq_iff_eq, ge_iff_le, gt_iff_lt] at hg'); (try simp only [hg]))))) <;> (try simp (disch := omega) only [go_sem, wn, b3, e1, q3]) <;> (repeat' with_reducible refine And.intro ?_ ?_) <;> (try (with_reducible refine hK _ ?_; clear hK K)))
    | omega)
      all_goals first | (exfalso; omega) | skip
      (refine zF rfl ?_ ?_ ?_ ?_; (iterate 3 (focus ((try simp (disch := omega) only [go_sem, wn, default]) <;> (try omega) <;> fail))); (try simp (disch := omega) only [go_sem, wn, default, I, B, S, inj, List.cons.injEq, and_true, true_and, and_self]))
    rw [if_neg q4] at h0 ⊢
    by_cases q5 : 400 ≤ t.nodes.length
    · rw [if_pos q5]
      refine zi tabOk Tryd.func52 rfl (by kernel_rfl) (by simp [Tryd.ntmps52]) ?_; simp only [Tryd.ntmps52, Tryd.results52, List.toList_toArray, apar, List.length_nil, List.length_cons, Nat.reduceAdd]
      (repeat' first
    | (with_reducible refine AR.f ?_)
    | refine zb (by decide) ?_
    | (with_reducible refine AWP.cond rfl ?_ ?_ <;> intro hc <;> (try simp only [hcs, beq_iff_eq, ge_iff_le, gt_iff_lt] at hc))
    | (refine zh fun Kk hKk => (zi tabOk Tryd.func111 rfl (by kernel_rfl) (by simp [Tryd.ntmps111]) ?_); simp only [Tryd.ntmps111, Tryd.results111, List.toList_toArray, apar, List.length_nil, List.length_cons, Nat.reduceAdd, List.length_append, List.length_set, go_sem])
    | ((first | ((first | (with_reducible first | refine zR ?_ | refine zQ (by decide +kernel) ?_ | refine zD (by decide +kernel) ?_ | refine zE (by decide +kernel) ?_ | refine zG (by decide +kernel) ?_)); intro K hK) | ((first | refine zA hgc ?_ ?_ ?_ ?_ ?_ | refine zA hxc ?_ ?_ ?_ ?_ ?_ | refine zA hoc2 ?_ ?_ ?_ ?_ ?_ | refine zA k1 ?_ ?_ ?_ ?_ ?_ | refine zA k2 ?_ ?_ ?_ ?_ ?_ | refine zA hsp ?_ ?_ ?_ ?_ ?_); (focus exact rfl); (focus exact rfl); iterate 2 (focus ((try simp (disch := omega) only [go_sem, wn, b3, e1, q3]) <;> (try omega) <;> fail))) | ((first | refine zN hgc rfl ?_ ?_ | refine zN hxc rfl ?_ ?_ | refine zN hoc2 rfl ?_ ?_ | refine zN k1 rfl ?_ ?_ | refine zN k2 rfl ?_ ?_ | refine zN hsp rfl ?_ ?_); (focus ((try simp (disch := omega) only [go_sem, wn, b3, e1, q3]) <;> (try omega) <;> fail))) | (first | ((first | refine zX hgc rfl ?_ ?_ | refine zy hgc ?_ ?_); (focus ((try simp (disch := omega) only [go_sem, wn, b3, e1, q3]) <;> (try omega) <;> fail))) | ((first | refine zX hxc rfl ?_ ?_ | refine zy hxc ?_ ?_); (focus ((try simp (disch := omega) only [go_sem, wn, b3, e1, q3]) <;> (try omega) <;> fail))) | ((first | refine zX hoc2 rfl ?_ ?_ | refine zy hoc2 ?_ ?_); (focus ((try simp (disch := omega) only [go_sem, wn, b3, e1, q3]) <;> (try omega) <;> fail))) | ((first | refine zX k1 rfl ?_ ?_ | refine zy k1 ?_ ?_); (focus ((try simp (disch := omega) only [go_sem, wn, b3, e1, q3]) <;> (try omega) <;> fail))) | ((first | refine zX k2 rfl ?_ ?_ | refine zy k2 ?_ ?_); (focus ((try simp (disch := omega) only [go_sem, wn, b3, e1, q3]) <;> (try omega) <;> fail))) | ((first | refine zX hsp rfl ?_ ?_ | refine zy hsp ?_ ?_); (focus ((try simp (disch := omega) only [go_sem, wn, b3, e1, q3]) <;> (try omega) <;> fail)))) | (refine zw (v := ?_) hKk (by first | exact .inl rfl | exact .inr rfl) ?_ ?_ ?_; rotate_left; (focus ((try simp (disch := omega) only [go_sem, wn, b3, e1, q3]) <;> (try omega) <;> fail)); (focus ((try simp (disch := omega) only [go_sem, wn, b3, e1, q3]) <;> (first | done | exact rfl))); clear hKk Kk) | ((first | (with_reducible refine zu ?_ ?_ <;> intro hg) | with_reducible intro hg) <;> (first | (exfalso; simp at hg; done) | (have hg' := hg; (try simp only [hcs, beq_iff_eq, ge_iff_le, gt_iff_lt] at hg'); (try simp only [hg]))))) <;> (try simp (disch := omega) only [go_sem, wn, b3, e1, q3]) <;> (repeat' with_reducible refine And.intro ?_ ?_) <;> (try (with_reducible refine hK _ ?_; clear hK K)))
    | omega)
      all_goals first | (exfalso; omega) | skip
      (refine zF rfl ?_ ?_ ?_ ?_; (iterate 3 (focus ((try simp (disch := omega) only [go_sem, wn, default]) <;> (try omega) <;> fail))); (try simp (disch := omega) only [go_sem, wn, default, I, B, S, inj, List.cons.injEq, and_true, true_and, and_self]))
    · rw [if_neg q5] at h0; exact absurd rfl h0
  rw [if_neg b3] at h0 ⊢
  by_cases b4 : x.op = 4
  · rw [if_pos b4] at h0 ⊢
    by_cases q1 : x.path ∈ pathsT t
    case neg =>
      have g7 := getT_seven q1
      rw [g7, if_neg (by omega)]
      refine zi tabOk Tryd.func52 rfl (by kernel_rfl) (by simp [Tryd.ntmps52]) ?_; simp only [Tryd.ntmps52, Tryd.results52, List.toList_toArray, apar, List.length_nil, List.length_cons, Nat.reduceAdd]
      (repeat' first
    | (with_reducible refine AR.f ?_)
    | refine zb (by decide) ?_
    | (with_reducible refine AWP.cond rfl ?_ ?_ <;> intro hc <;> (try simp only [hcs, beq_iff_eq, ge_iff_le, gt_iff_lt] at hc))
    | (refine zh fun Kk hKk => (zi tabOk Tryd.func111 rfl (by kernel_rfl) (by simp [Tryd.ntmps111]) ?_); simp only [Tryd.ntmps111, Tryd.results111, List.toList_toArray, apar, List.length_nil, List.length_cons, Nat.reduceAdd, List.length_append, List.length_set, go_sem])
    | ((first | ((first | (with_reducible first | refine zR ?_ | refine zQ (by decide +kernel) ?_ | refine zD (by decide +kernel) ?_ | refine zE (by decide +kernel) ?_ | refine zG (by decide +kernel) ?_)); intro K hK) | ((first | refine zA hgc ?_ ?_ ?_ ?_ ?_ | refine zA hxc ?_ ?_ ?_ ?_ ?_ | refine zA hoc2 ?_ ?_ ?_ ?_ ?_ | refine zA (hn1.re (congrArg I (nodeI_no q1))) ?_ ?_ ?_ ?_ ?_ | refine zA hn2 ?_ ?_ ?_ ?_ ?_ | refine zA hsp ?_ ?_ ?_ ?_ ?_); (focus exact rfl); (focus exact rfl); iterate 2 (focus ((try simp (disch := omega) only [go_sem, wn, b4, e1]) <;> (try omega) <;> fail))) | ((first | refine zN hgc rfl ?_ ?_ | refine zN hxc rfl ?_ ?_ | refine zN hoc2 rfl ?_ ?_ | refine zN (hn1.re (congrArg I (nodeI_no q1))) rfl ?_ ?_ | refine zN hn2 rfl ?_ ?_ | refine zN hsp rfl ?_ ?_); (focus ((try simp (disch := omega) only [go_sem, wn, b4, e1]) <;> (try omega) <;> fail))) | (first | ((first | refine zX hgc rfl ?_ ?_ | refine zy hgc ?_ ?_); (focus ((try simp (disch := omega) only [go_sem, wn, b4, e1]) <;> (try omega) <;> fail))) | ((first | refine zX hxc rfl ?_ ?_ | refine zy hxc ?_ ?_); (focus ((try simp (disch := omega) only [go_sem, wn, b4, e1]) <;> (try omega) <;> fail))) | ((first | refine zX hoc2 rfl ?_ ?_ | refine zy hoc2 ?_ ?_); (focus ((try simp (disch := omega) only [go_sem, wn, b4, e1]) <;> (try omega) <;> fail))) | ((first | refine zX (hn1.re (congrArg I (nodeI_no q1))) rfl ?_ ?_ | refine zy (hn1.re (congrArg I (nodeI_no q1))) ?_ ?_); (focus ((try simp (disch := omega) only [go_sem, wn, b4, e1]) <;> (try omega) <;> fail))) | ((first | refine zX hn2 rfl ?_ ?_ | refine zy hn2 ?_ ?_); (focus ((try simp (disch := omega) only [go_sem, wn, b4, e1]) <;> (try omega) <;> fail))) | ((first | refine zX hsp rfl ?_ ?_ | refine zy hsp ?_ ?_); (focus ((try simp (disch := omega) only [go_sem, wn, b4, e1]) <;> (try omega) <;> fail)))) | (refine zw (v := ?_) hKk (by first | exact .inl rfl | exact .inr rfl) ?_ ?_ ?_; rotate_left; (focus ((try simp (disch := omega) only [go_sem, wn, b4, e1]) <;> (try omega) <;> fail)); (focus ((try simp (disch := omega) only [go_sem, wn, b4, e1]) <;> (first | done | exact rfl))); clear hKk Kk) | ((first | (with_reducible refine zu ?_ ?_ <;> intro hg) | with_reducible intro hg) <;> (first | (exfalso; simp at hg; done) | (have hg' := hg; (try simp only [hcs, beq_iff_eq, ge_iff_le, gt_iff_lt] at hg'); (try simp only [hg]))))) <;> (try simp (disch := omega) only [go_sem, wn, b4, e1]) <;> (repeat' with_reducible refine And.intro ?_ ?_) <;> (try (with_reducible refine hK _ ?_; clear hK K)))
    | omega)
      all_goals first | (exfalso; omega) | skip
      (refine zF rfl ?_ ?_ ?_ ?_; (iterate 3 (focus ((try simp (disch := omega) only [go_sem, wn, default]) <;> (try omega) <;> fail))); (try simp (disch := omega) only [go_sem, wn, default, I, B, S, inj, List.cons.injEq, and_true, true_and, and_self]))
    obtain ⟨p1, p2, p3⟩ := hpos _ q1
    have k1 := hn1.re (congrArg I p1)
    rw [p3] at h0 ⊢
    unfold nd at h0 ⊢
    generalize place (pathsT t) x.path = q at p2 k1 h0 ⊢
    by_cases q2 : 0 < (t.nodes.getD q default).stat.kids
    · rw [if_pos ⟨rfl, q2⟩]
      refine zi tabOk Tryd.func52 rfl (by kernel_rfl) (by simp [Tryd.ntmps52]) ?_; simp only [Tryd.ntmps52, Tryd.results52, List.toList_toArray, apar, List.length_nil, List.length_cons, Nat.reduceAdd]
      (repeat' first
    | (with_reducible refine AR.f ?_)
    | refine zb (by decide) ?_
    | (with_reducible refine AWP.cond rfl ?_ ?_ <;> intro hc <;> (try simp only [hcs, beq_iff_eq, ge_iff_le, gt_iff_lt] at hc))
    | (refine zh fun Kk hKk => (zi tabOk Tryd.func111 rfl (by kernel_rfl) (by simp [Tryd.ntmps111]) ?_); simp only [Tryd.ntmps111, Tryd.results111, List.toList_toArray, apar, List.length_nil, List.length_cons, Nat.reduceAdd, List.length_append, List.length_set, go_sem])
    | ((first | ((first | (with_reducible first | refine zR ?_ | refine zQ (by decide +kernel) ?_ | refine zD (by decide +kernel) ?_ | refine zE (by decide +kernel) ?_ | refine zG (by decide +kernel) ?_)); intro K hK) | ((first | refine zA hgc ?_ ?_ ?_ ?_ ?_ | refine zA hxc ?_ ?_ ?_ ?_ ?_ | refine zA hoc2 ?_ ?_ ?_ ?_ ?_ | refine zA k1 ?_ ?_ ?_ ?_ ?_ | refine zA hn2 ?_ ?_ ?_ ?_ ?_ | refine zA hsp ?_ ?_ ?_ ?_ ?_); (focus exact rfl); (focus exact rfl); iterate 2 (focus ((try simp (disch := omega) only [go_sem, wn, b4, e1]) <;> (try omega) <;> fail))) | ((first | refine zN hgc rfl ?_ ?_ | refine zN hxc rfl ?_ ?_ | refine zN hoc2 rfl ?_ ?_ | refine zN k1 rfl ?_ ?_ | refine zN hn2 rfl ?_ ?_ | refine zN hsp rfl ?_ ?_); (focus ((try simp (disch := omega) only [go_sem, wn, b4, e1]) <;> (try omega) <;> fail))) | (first | ((first | refine zX hgc rfl ?_ ?_ | refine zy hgc ?_ ?_); (focus ((try simp (disch := omega) only [go_sem, wn, b4, e1]) <;> (try omega) <;> fail))) | ((first | refine zX hxc rfl ?_ ?_ | refine zy hxc ?_ ?_); (focus ((try simp (disch := omega) only [go_sem, wn, b4, e1]) <;> (try omega) <;> fail))) | ((first | refine zX hoc2 rfl ?_ ?_ | refine zy hoc2 ?_ ?_); (focus ((try simp (disch := omega) only [go_sem, wn, b4, e1]) <;> (try omega) <;> fail))) | ((first | refine zX k1 rfl ?_ ?_ | refine zy k1 ?_ ?_); (focus ((try simp (disch := omega) only [go_sem, wn, b4, e1]) <;> (try omega) <;> fail))) | ((first | refine zX hn2 rfl ?_ ?_ | refine zy hn2 ?_ ?_); (focus ((try simp (disch := omega) only [go_sem, wn, b4, e1]) <;> (try omega) <;> fail))) | ((first | refine zX hsp rfl ?_ ?_ | refine zy hsp ?_ ?_); (focus ((try simp (disch := omega) only [go_sem, wn, b4, e1]) <;> (try omega) <;> fail)))) | (refine zw (v := ?_) hKk (by first | exact .inl rfl | exact .inr rfl) ?_ ?_ ?_; rotate_left; (focus ((try simp (disch := omega) only [go_sem, wn, b4, e1]) <;> (try omega) <;> fail)); (focus ((try simp (disch := omega) only [go_sem, wn, b4, e1]) <;> (first | done | exact rfl))); clear hKk Kk) | ((first | (with_reducible refine zu ?_ ?_ <;> intro hg) | with_reducible intro hg) <;> (first | (exfalso; simp at hg; done) | (have hg' := hg; (try simp only [hcs, beq_iff_eq, ge_iff_le, gt_iff_lt] at hg'); (try simp only [hg]))))) <;> (try simp (disch := omega) only [go_sem, wn, b4, e1]) <;> (repeat' with_reducible refine And.intro ?_ ?_) <;> (try (with_reducible refine hK _ ?_; clear hK K)))
    | omega)
      all_goals first | (exfalso; omega) | skip
      (refine zF rfl ?_ ?_ ?_ ?_; (iterate 3 (focus ((try simp (disch := omega) only [go_sem, wn, default]) <;> (try omega) <;> fail))); (try simp (disch := omega) only [go_sem, wn, default, I, B, S, inj, List.cons.injEq, and_true, true_and, and_self]))
    · rw [if_neg (fun h => q2 h.2)] at h0; exact absurd rfl h0
  rw [if_neg b4] at h0 ⊢
  by_cases b5 : x.op = 5
  · rw [if_pos b5] at h0 ⊢
    by_cases q1 : x.path ∈ pathsT t
    case neg =>
      have g7 := getT_seven q1
      rw [g7, if_neg (by omega)]
      refine zi tabOk Tryd.func52 rfl (by kernel_rfl) (by simp [Tryd.ntmps52]) ?_; simp only [Tryd.ntmps52, Tryd.results52, List.toList_toArray, apar, List.length_nil, List.length_cons, Nat.reduceAdd]
      (repeat' first
    | (with_reducible refine AR.f ?_)
    | refine zb (by decide) ?_
    | (with_reducible refine AWP.cond rfl ?_ ?_ <;> intro hc <;> (try simp only [hcs, beq_iff_eq, ge_iff_le, gt_iff_lt] at hc))
    | (refine zh fun Kk hKk => (zi tabOk Tryd.func111 rfl (by kernel_rfl) (by simp [Tryd.ntmps111]) ?_); simp only [Tryd.ntmps111, Tryd.results111, List.toList_toArray, apar, List.length_nil, List.length_cons, Nat.reduceAdd, List.length_append, List.length_set, go_sem])
    | ((first | ((first | (with_reducible first | refine zR ?_ | refine zQ (by decide +kernel) ?_ | refine zD (by decide +kernel) ?_ | refine zE (by decide +kernel) ?_ | refine zG (by decide +kernel) ?_)); intro K hK) | ((first | refine zA hgc ?_ ?_ ?_ ?_ ?_ | refine zA hxc ?_ ?_ ?_ ?_ ?_ | refine zA hoc2 ?_ ?_ ?_ ?_ ?_ | refine zA (hn1.re (congrArg I (nodeI_no q1))) ?_ ?_ ?_ ?_ ?_ | refine zA hn2 ?_ ?_ ?_ ?_ ?_ | refine zA hsp ?_ ?_ ?_ ?_ ?_); (focus exact rfl); (focus exact rfl); iterate 2 (focus ((try simp (disch := omega) only [go_sem, wn, b5, e1]) <;> (try omega) <;> fail))) | ((first | refine zN hgc rfl ?_ ?_ | refine zN hxc rfl ?_ ?_ | refine zN hoc2 rfl ?_ ?_ | refine zN (hn1.re (congrArg I (nodeI_no q1))) rfl ?_ ?_ | refine zN hn2 rfl ?_ ?_ | refine zN hsp rfl ?_ ?_); (focus ((try simp (disch := omega) only [go_sem, wn, b5, e1]) <;> (try omega) <;> fail))) | (first | ((first | refine zX hgc rfl ?_ ?_ | refine zy hgc ?_ ?_); (focus ((try simp (disch := omega) only [go_sem, wn, b5, e1]) <;> (try omega) <;> fail))) | ((first | refine zX hxc rfl ?_ ?_ | refine zy hxc ?_ ?_); (focus ((try simp (disch := omega) only [go_sem, wn, b5, e1]) <;> (try omega) <;> fail))) | ((first | refine zX hoc2 rfl ?_ ?_ | refine zy hoc2 ?_ ?_); (focus ((try simp (disch := omega) only [go_sem, wn, b5, e1]) <;> (try omega) <;> fail))) | ((first | refine zX (hn1.re (congrArg I (nodeI_no q1))) rfl ?_ ?_ | refine zy (hn1.re (congrArg I (nodeI_no q1))) ?_ ?_); (focus ((try simp (disch := omega) only [go_sem, wn, b5, e1]) <;> (try omega) <;> fail))) | ((first | refine zX hn2 rfl ?_ ?_ | refine zy hn2 ?_ ?_); (focus ((try simp (disch := omega) only [go_sem, wn, b5, e1]) <;> (try omega) <;> fail))) | ((first | refine zX hsp rfl ?_ ?_ | refine zy hsp ?_ ?_); (focus ((try simp (disch := omega) only [go_sem, wn, b5, e1]) <;> (try omega) <;> fail)))) | (refine zw (v := ?_) hKk (by first | exact .inl rfl | exact .inr rfl) ?_ ?_ ?_; rotate_left; (focus ((try simp (disch := omega) only [go_sem, wn, b5, e1]) <;> (try omega) <;> fail)); (focus ((try simp (disch := omega) only [go_sem, wn, b5, e1]) <;> (first | done | exact rfl))); clear hKk Kk) | ((first | (with_reducible refine zu ?_ ?_ <;> intro hg) | with_reducible intro hg) <;> (first | (exfalso; simp at hg; done) | (have hg' := hg; (try simp only [hcs, beq_iff_eq, ge_iff_le, gt_iff_lt] at hg'); (try simp only [hg]))))) <;> (try simp (disch := omega) only [go_sem, wn, b5, e1]) <;> (repeat' with_reducible refine And.intro ?_ ?_) <;> (try (with_reducible refine hK _ ?_; clear hK K)))
    | omega)
      all_goals first | (exfalso; omega) | skip
      (refine zF rfl ?_ ?_ ?_ ?_; (iterate 3 (focus ((try simp (disch := omega) only [go_sem, wn, default]) <;> (try omega) <;> fail))); (try simp (disch := omega) only [go_sem, wn, default, I, B, S, inj, List.cons.injEq, and_true, true_and, and_self]))
    obtain ⟨p1, p2, p3⟩ := hpos _ q1
    have k1 := hn1.re (congrArg I p1)
    have hB := ((goodTr_iff.1 a1).2.2.2 _ p2).1
    rw [p3] at h0 ⊢
    unfold nd at h0 hB ⊢
    generalize place (pathsT t) x.path = q at p2 k1 h0 hB ⊢
    obtain ⟨v1, v2, _⟩ := hB
    by_cases q2 : x.version = (t.nodes.getD q default).stat.version + 1
    case neg =>
      rw [if_pos ⟨rfl, q2⟩]
      refine zi tabOk Tryd.func52 rfl (by kernel_rfl) (by simp [Tryd.ntmps52]) ?_; simp only [Tryd.ntmps52, Tryd.results52, List.toList_toArray, apar, List.length_nil, List.length_cons, Nat.reduceAdd]
      (repeat' first
    | (with_reducible refine AR.f ?_)
    | refine zb (by decide) ?_
    | (with_reducible refine AWP.cond rfl ?_ ?_ <;> intro hc <;> (try simp only [hcs, beq_iff_eq, ge_iff_le, gt_iff_lt] at hc))
    | (refine zh fun Kk hKk => (zi tabOk Tryd.func111 rfl (by kernel_rfl) (by simp [Tryd.ntmps111]) ?_); simp only [Tryd.ntmps111, Tryd.results111, List.toList_toArray, apar, List.length_nil, List.length_cons, Nat.reduceAdd, List.length_append, List.length_set, go_sem])
    | ((first | ((first | (with_reducible first | refine zR ?_ | refine zQ (by decide +kernel) ?_ | refine zD (by decide +kernel) ?_ | refine zE (by decide +kernel) ?_ | refine zG (by decide +kernel) ?_)); intro K hK) | ((first | refine zA hgc ?_ ?_ ?_ ?_ ?_ | refine zA hxc ?_ ?_ ?_ ?_ ?_ | refine zA hoc2 ?_ ?_ ?_ ?_ ?_ | refine zA k1 ?_ ?_ ?_ ?_ ?_ | refine zA hn2 ?_ ?_ ?_ ?_ ?_ | refine zA hsp ?_ ?_ ?_ ?_ ?_); (focus exact rfl); (focus exact rfl); iterate 2 (focus ((try simp (disch := omega) only [go_sem, wn, b5, e1]) <;> (try omega) <;> fail))) | ((first | refine zN hgc rfl ?_ ?_ | refine zN hxc rfl ?_ ?_ | refine zN hoc2 rfl ?_ ?_ | refine zN k1 rfl ?_ ?_ | refine zN hn2 rfl ?_ ?_ | refine zN hsp rfl ?_ ?_); (focus ((try simp (disch := omega) only [go_sem, wn, b5, e1]) <;> (try omega) <;> fail))) | (first | ((first | refine zX hgc rfl ?_ ?_ | refine zy hgc ?_ ?_); (focus ((try simp (disch := omega) only [go_sem, wn, b5, e1]) <;> (try omega) <;> fail))) | ((first | refine zX hxc rfl ?_ ?_ | refine zy hxc ?_ ?_); (focus ((try simp (disch := omega) only [go_sem, wn, b5, e1]) <;> (try omega) <;> fail))) | ((first | refine zX hoc2 rfl ?_ ?_ | refine zy hoc2 ?_ ?_); (focus ((try simp (disch := omega) only [go_sem, wn, b5, e1]) <;> (try omega) <;> fail))) | ((first | refine zX k1 rfl ?_ ?_ | refine zy k1 ?_ ?_); (focus ((try simp (disch := omega) only [go_sem, wn, b5, e1]) <;> (try omega) <;> fail))) | ((first | refine zX hn2 rfl ?_ ?_ | refine zy hn2 ?_ ?_); (focus ((try simp (disch := omega) only [go_sem, wn, b5, e1]) <;> (try omega) <;> fail))) | ((first | refine zX hsp rfl ?_ ?_ | refine zy hsp ?_ ?_); (focus ((try simp (disch := omega) only [go_sem, wn, b5, e1]) <;> (try omega) <;> fail)))) | (refine zw (v := ?_) hKk (by first | exact .inl rfl | exact .inr rfl) ?_ ?_ ?_; rotate_left; (focus ((try simp (disch := omega) only [go_sem, wn, b5, e1]) <;> (try omega) <;> fail)); (focus ((try simp (disch := omega) only [go_sem, wn, b5, e1]) <;> (first | done | exact rfl))); clear hKk Kk) | ((first | (with_reducible refine zu ?_ ?_ <;> intro hg) | with_reducible intro hg) <;> (first | (exfalso; simp at hg; done) | (have hg' := hg; (try simp only [hcs, beq_iff_eq, ge_iff_le, gt_iff_lt] at hg'); (try simp only [hg]))))) <;> (try simp (disch := omega) only [go_sem, wn, b5, e1]) <;> (repeat' with_reducible refine And.intro ?_ ?_) <;> (try (with_reducible refine hK _ ?_; clear hK K)))
    | omega)
      all_goals first | (exfalso; omega) | skip
      (refine zF rfl ?_ ?_ ?_ ?_; (iterate 3 (focus ((try simp (disch := omega) only [go_sem, wn, default]) <;> (try omega) <;> fail))); (try simp (disch := omega) only [go_sem, wn, default, I, B, S, inj, List.cons.injEq, and_true, true_and, and_self]))
    · rw [if_neg (fun h => h.2 q2)] at h0; exact absurd rfl h0
  rw [if_neg b5] at h0; exact absurd rfl h0
end Go.Proofs.YtmpfhalheaeibaaDoor
namespace Go.Proofs.YtmpfhalheaeibaaDoor
set_option linter.unusedVariables false
set_option linter.unusedSimpArgs false
open Go Go.RowKit
set_option maxRecDepth 100000
set_option linter.unusedSimpArgs false
theorem nodeO_c (z : Int) (ns : List ANode) (ss : List Int) (key : List UInt8) (h : ns.length * 88 ≤ 140737488351232) (hr : Rises (pathsN ns)) (hm : ¬ key ∈ pathsN ns) : acall Tryd.prog [] 93 [.agg [I z, .d (.sl 9 (ns.map ANode.row)), .d (.sl 1 (ss.map irow))], S key] (ret (I (-1))) :=
  (nodeI_c ⟨z, ns, ss⟩ key h hr).re (congrArg I (nodeI_no hm))
set_option maxHeartbeats 8000000 in
theorem ref_apply4_c (t : ATree) (x : ATxn) (hw : t.wf) (hps : ∀ n, n ∈ t.nodes → n.path.length ≤ 1048576) (hz : okI x.zxid) (hp : x.path.length ≤ 1048576) (hd : okS x.data) (h0 : wrongT t x = 0) (o4 : x.op = 4) : acall Tryd.prog [] 52 [t.av, x.av] (ret (.tup [(applyT t x).1.av, .d (.sl 2 ((applyT t x).2.1.map AEvent.row)), I (applyT t x).2.2])) := by
  obtain ⟨g1, g2, g3, g4, g5, g6, g7, g8⟩ := wrong_ok h0
  obtain ⟨h1, h2⟩ : t.nodes.length * 88 ≤ 140737488351232 ∧ t.sessions.length * 8 ≤ 140737488351232 := ⟨hw.2.1.1, hw.2.2.1⟩
  have hgc := (ref_tgood_c t hw hps).re (congrArg B g1)
  have hxc := (ref_wgood_c x hz hp hd).re (congrArg I g2)
  have hcp := copyTO_c t h1 h2
  have h400 : t.nodes.length ≤ 400 := (good_root g1).2.1
  have hr : Rises (pathsN t.nodes) := good_rises g1
  have hsp := ref_split_c x.path hp
  have e1 : (splitP x.path).1.1 = dirP x.path := rfl
  have g3' : ¬ x.zxid ≤ t.zxid := by omega
  have hoc := (isOpen_c t x.session h2).re (congrArg B (decide_eq_true (g5 (by omega))))
  obtain ⟨m1, m2⟩ := g7 o4
  have hnr : x.path ≠ [47] := (goodT_path g2 (by omega)).2
  obtain ⟨m3, m4⟩ := dir_mem g1 m1 hnr
  have hn1 := nodeM_c t.zxid t.nodes t.sessions x.path h1 hr m1
  have hn2 := nodeM_c t.zxid t.nodes t.sessions (dirP x.path) h1 hr m3
  have hq := (zc hr m1).1
  rw [pathsN_len] at hq
  have hk : (t.nodes.getD (place (pathsN t.nodes) x.path) default).stat.kids ≤ 0 := by unfold getT at m2; rw [if_pos m1] at m2; exact m2
  have hgo := gone0_c x.zxid t.nodes t.sessions x x.path h400 h2 hp hr m1 m3 m4
  have hdone : (doneT t x) = (⟨x.zxid, delN t.nodes x.path x.zxid, t.sessions⟩, goneE x.path) := by unfold doneT; rw [if_neg (by omega), if_neg (by omega), if_neg (by omega), if_pos o4]
  have hln : (delN t.nodes x.path x.zxid).length ≤ 400 := by unfold delN; rw [kidN_len, erase_len _ _ hq]; omega
  generalize delN t.nodes x.path x.zxid = ns2 at hgo hdone hln
  rw [o4] at hgo
  refine zi tabOk Tryd.func52 rfl (by kernel_rfl) (by simp [Tryd.ntmps52]) ?_; simp only [Tryd.ntmps52, Tryd.results52, List.toList_toArray, apar, List.length_nil, List.length_cons, Nat.reduceAdd]
  (repeat' first
| (with_reducible refine AR.f ?_)
| refine zb (by decide) ?_
| (with_reducible refine AWP.cond rfl ?_ ?_ <;> intro hc <;> (try simp only [hcs, beq_iff_eq, ge_iff_le, gt_iff_lt] at hc))
| (refine zh fun Kk hKk => (zi tabOk Tryd.func111 rfl (by kernel_rfl) (by simp [Tryd.ntmps111]) ?_); simp only [Tryd.ntmps111, Tryd.results111, List.toList_toArray, apar, List.length_nil, List.length_cons, Nat.reduceAdd, List.length_append, List.length_set, go_sem])
| ((first | ((first | (with_reducible first | refine zR ?_ | refine zQ (by decide +kernel) ?_ | refine zD (by decide +kernel) ?_ | refine zE (by decide +kernel) ?_ | refine zG (by decide +kernel) ?_)); intro K hK) | ((first | refine zA hgc ?_ ?_ ?_ ?_ ?_ | refine zA hxc ?_ ?_ ?_ ?_ ?_ | refine zA hoc ?_ ?_ ?_ ?_ ?_ | refine zA hn1 ?_ ?_ ?_ ?_ ?_ | refine zA hn2 ?_ ?_ ?_ ?_ ?_ | refine zA hsp ?_ ?_ ?_ ?_ ?_ | refine zA hcp ?_ ?_ ?_ ?_ ?_); (focus exact rfl); (focus exact rfl); iterate 2 (focus ((try simp (disch := omega) only [go_sem, wn, o4, e1, g3']) <;> (try omega) <;> fail))) | ((first | refine zN hgc rfl ?_ ?_ | refine zN hxc rfl ?_ ?_ | refine zN hoc rfl ?_ ?_ | refine zN hn1 rfl ?_ ?_ | refine zN hn2 rfl ?_ ?_ | refine zN hsp rfl ?_ ?_ | refine zN hcp rfl ?_ ?_); (focus ((try simp (disch := omega) only [go_sem, wn, o4, e1, g3']) <;> (try omega) <;> fail))) | (first | ((first | refine zX hgc rfl ?_ ?_ | refine zy hgc ?_ ?_); (focus ((try simp (disch := omega) only [go_sem, wn, o4, e1, g3']) <;> (try omega) <;> fail))) | ((first | refine zX hxc rfl ?_ ?_ | refine zy hxc ?_ ?_); (focus ((try simp (disch := omega) only [go_sem, wn, o4, e1, g3']) <;> (try omega) <;> fail))) | ((first | refine zX hoc rfl ?_ ?_ | refine zy hoc ?_ ?_); (focus ((try simp (disch := omega) only [go_sem, wn, o4, e1, g3']) <;> (try omega) <;> fail))) | ((first | refine zX hn1 rfl ?_ ?_ | refine zy hn1 ?_ ?_); (focus ((try simp (disch := omega) only [go_sem, wn, o4, e1, g3']) <;> (try omega) <;> fail))) | ((first | refine zX hn2 rfl ?_ ?_ | refine zy hn2 ?_ ?_); (focus ((try simp (disch := omega) only [go_sem, wn, o4, e1, g3']) <;> (try omega) <;> fail))) | ((first | refine zX hsp rfl ?_ ?_ | refine zy hsp ?_ ?_); (focus ((try simp (disch := omega) only [go_sem, wn, o4, e1, g3']) <;> (try omega) <;> fail))) | ((first | refine zX hcp rfl ?_ ?_ | refine zy hcp ?_ ?_); (focus ((try simp (disch := omega) only [go_sem, wn, o4, e1, g3']) <;> (try omega) <;> fail)))) | (refine acallH_at [5, 3, 4, 6, 7, 1] (hgo) ?_ ?_ ?_; (focus ((try simp (disch := omega) only [inj, List.cons.injEq, and_self, List.nodup_cons, List.not_mem_nil, List.mem_cons, not_false_eq_true, List.nodup_nil, go_sem, wn, o4, e1, g3']) <;> (try omega) <;> fail)); (focus ((try simp (disch := omega) only [inj, List.cons.injEq, and_self, List.nodup_cons, List.not_mem_nil, List.mem_cons, not_false_eq_true, List.nodup_nil, go_sem, wn, o4, e1, g3']) <;> (try omega) <;> (try decide) <;> fail))) | (refine zw (v := ?_) hKk (by first | exact .inl rfl | exact .inr rfl) ?_ ?_ ?_; rotate_left; (focus ((try simp (disch := omega) only [go_sem, wn, o4, e1, g3']) <;> (try omega) <;> fail)); (focus ((try simp (disch := omega) only [go_sem, wn, o4, e1, g3']) <;> (first | done | exact rfl))); clear hKk Kk) | ((first | (with_reducible refine zu ?_ ?_ <;> intro hg) | with_reducible intro hg) <;> (first | (exfalso; simp at hg; done) | (have hg' := hg; (try simp only [hcs, beq_iff_eq, ge_iff_le, gt_iff_lt] at hg'); (try simp only [hg]))))) <;> (try simp (disch := omega) only [go_sem, wn, o4, e1, g3']) <;> (repeat' with_reducible refine And.intro ?_ ?_) <;> (try (with_reducible refine hK _ ?_; clear hK K)))
| omega)
  refine AWP.loopB (ι := Nat) (fun k => k ≤ ns2.length ∧ ∀ j, j < k → bigN (ns2.getD j default) = false) (fun k => ns2.length - k) [4, 7, 15, 16, 404, 405] (fun k => [(406, I k)]) (fun k => [.cells [.d (.int .i64 t.zxid), .d (.sl 9 (t.nodes.map ANode.row)), .d (.sl 1 (t.sessions.map irow))], .cells [I x.zxid, I 4, I x.session, S x.path, S x.data, I x.version, I x.owner], .cells [I 0, .d (.sc (.slice none 0 0)), .d (.sc (.slice none 0 0))], .dead, .rows 1 (t.sessions.map irow), .cells [I x.zxid, .osl 8 9 0 ns2.length, .osl 4 1 0 t.sessions.length], .cells [.osl 9 2 0 (goneE x.path).length], .cells [.clo 113 [] [.ptr 5 0, .ptr 1 0, .ptr 6 0]], .rows 9 (ns2.map ANode.row), .rows 2 ((goneE x.path).map AEvent.row)]) 0 ?_ ?_ ?_
  · exact ⟨by omega, fun j hj => by omega⟩
  · simp only [go_sem]; (refine SImp.same ?_; simp (disch := omega) only [go_sem, wn, Int.natCast_add])
  intro k ⟨hk, hk2⟩
  simp only [go_sem]
  (repeat' first
| (with_reducible refine AR.f ?_)
| refine zb (by decide) ?_
| (with_reducible refine AWP.cond rfl ?_ ?_ <;> intro hc <;> (try simp only [hcs, beq_iff_eq, ge_iff_le, gt_iff_lt] at hc))
| (refine zh fun Kk hKk => (zi tabOk Tryd.func111 rfl (by kernel_rfl) (by simp [Tryd.ntmps111]) ?_); simp only [Tryd.ntmps111, Tryd.results111, List.toList_toArray, apar, List.length_nil, List.length_cons, Nat.reduceAdd, List.length_append, List.length_set, go_sem])
| ((first | ((first | refine zP ((Plan.takes [0] (.fork 1 (Plan.takes [2, 3, 4] .done) 2 (Plan.takes [1, 3, 4] .done)))) (by decide +kernel) ?_ | (with_reducible first | refine zR ?_ | refine zQ (by decide +kernel) ?_ | refine zD (by decide +kernel) ?_ | refine zE (by decide +kernel) ?_ | refine zG (by decide +kernel) ?_)); intro K hK) | (refine zw (v := ?_) hKk (by first | exact .inl rfl | exact .inr rfl) ?_ ?_ ?_; rotate_left; (focus ((try simp (disch := omega) only [go_sem, wn, ANode.rgetD]) <;> (try omega) <;> fail)); (focus ((try simp (disch := omega) only [go_sem, wn, ANode.rgetD]) <;> (first | done | exact rfl))); clear hKk Kk) | ((first | (with_reducible refine zu ?_ ?_ <;> intro hg) | with_reducible intro hg) <;> (first | (exfalso; simp at hg; done) | (have hg' := hg; (try simp only [hcs, beq_iff_eq, ge_iff_le, gt_iff_lt] at hg'); (try simp only [hg]))))) <;> (try simp (disch := omega) only [go_sem, wn, ANode.rgetD]) <;> (repeat' with_reducible refine And.intro ?_ ?_) <;> (try (with_reducible refine hK _ ?_; clear hK K)))
| omega)
  · have hbig : ns2.any bigN = true := List.any_eq_true.2 ⟨_, getD_mem ns2 k (by omega), by unfold bigN; rw [decide_eq_true_eq]; omega⟩
    rw [apply_full h0 (by rw [hdone]; exact hbig)]
    (refine zF rfl ?_ ?_ ?_ ?_; (iterate 3 (focus ((try simp (disch := omega) only [go_sem, wn, default]) <;> (try omega) <;> fail))); (try simp (disch := omega) only [go_sem, wn, default, I, B, S, inj, List.cons.injEq, and_true, true_and, and_self]))
  · refine ⟨k + 1, ⟨by omega, fun j hj => ?_⟩, by omega, ?_⟩
    · by_cases e : j = k
      · subst e; unfold bigN; rw [decide_eq_false_iff_not]; omega
      · exact hk2 j (by omega)
    (refine SImp.frame [0, 1, 2, 3, 4, 5, 6, 7, 8, 9] rfl (by intro k hk; first | (simp at hk <;> (simp; omega)) | (simp only [List.mem_cons, List.not_mem_nil, or_false] at hk; simp only [List.length_cons, List.length_nil]; omega)) (by decide) (fun k hk => by first | omega | (rcases k with _ | _ | _ | _ | _ | _ | _ | _ | k <;> first | rfl | omega)) ?_ ?_ <;> simp (disch := omega) only [go_sem, wn, Int.natCast_add, true_and] <;> (try rfl))
  all_goals
    have hbig := (bigI_no (l := ns2) (fun j hj => hk2 j (by omega))).1
    rw [apply_ok h0 (by rw [hdone]; exact hbig), hdone]
    (refine zF rfl ?_ ?_ ?_ ?_; (iterate 3 (focus ((try simp (disch := omega) only [go_sem, wn, I, S]) <;> (try omega) <;> fail))); (try simp (disch := omega) only [go_sem, wn, I, S, I, B, S, inj, List.cons.injEq, and_true, true_and, and_self]))
end Go.Proofs.YtmpfhalheaeibaaDoor
namespace Go.Proofs.YtmpfhalheaeibaaDoor
set_option linter.unusedVariables false
set_option linter.unusedSimpArgs false
open Go Go.RowKit
set_option maxRecDepth 100000
set_option linter.unusedSimpArgs false
theorem irow_rsnoc (l : List Int) (x : Int) : l.map irow ++ [[.int .i64 x]] = (l ++ [x]).map irow := by rw [List.map_append]; rfl
def lessI (l : List Int) (key : Int) : List Int := l.filter fun s => decide (s < key)
def moreI (l : List Int) (key : Int) : List Int := l.filter fun s => decide (key < s)
theorem lessI_snoc (l : List Int) (key : Int) (k : Nat) (h : k < l.length) : lessI (l.take (k + 1)) key = if l.getD k default < key then lessI (l.take k) key ++ [l.getD k default] else lessI (l.take k) key := by
  unfold lessI
  rw [take_snoc l k h, List.filter_append]
  by_cases e : l.getD k default < key
  · rw [if_pos e, List.filter_cons_of_pos (by simpa using e)]; rfl
  · rw [if_neg e, List.filter_cons_of_neg (by simpa using e), List.filter_nil, List.append_nil]
theorem moreI_snoc (l : List Int) (key : Int) (k : Nat) (h : k < l.length) : moreI (l.take (k + 1)) key = if key < l.getD k default then moreI (l.take k) key ++ [l.getD k default] else moreI (l.take k) key := by
  unfold moreI
  rw [take_snoc l k h, List.filter_append]
  by_cases e : key < l.getD k default
  · rw [if_pos e, List.filter_cons_of_pos (by simpa using e)]; rfl
  · rw [if_neg e, List.filter_cons_of_neg (by simpa using e), List.filter_nil, List.append_nil]
theorem less_moreI {l : List Int} {key : Int} (hr : RisesI l) (h : ¬ key ∈ l) : lessI l key ++ key :: moreI l key = l.insertIdx (placeI l key) key := by
  have hp : placeI l key ≤ l.length := List.findIdx_le_length
  have gd (j : Nat) (hj : j < l.length) : l.getD j default = l[j] := by rw [List.getD_eq_getElem?_getD, List.getElem?_eq_getElem hj]; rfl
  have lo : ∀ j, j < placeI l key → l.getD j default < key := fun j hj => by
    have := List.not_of_lt_findIdx (p := fun x => !decide (x < key)) (xs := l) hj
    rw [gd j (by omega)]
    simpa using this
  have hi : ∀ j, placeI l key ≤ j → j < l.length → key < l.getD j default := fun j h1 h2 => by
    have a : ¬ l.getD (placeI l key) default < key := by
      have := List.findIdx_getElem (p := fun x => !decide (x < key)) (xs := l) (w := (by unfold placeI at h1; omega))
      rw [Bool.not_eq_true', decide_eq_false_iff_not] at this
      rw [gd _ (by omega)]
      exact this
    have c : l.getD (placeI l key) default ≠ key := fun e => h (by rw [← e]; exact mem_getD _ _ (by omega))
    by_cases e : placeI l key = j
    · rw [← e]; omega
    · have := risesI_lt hr (i := placeI l key) (j := j) (by omega) h2; omega
  generalize placeI l key = p at *
  have e1 : lessI l key = l.take p := by
    unfold lessI
    conv => lhs; rw [← List.take_append_drop p l]
    rw [List.filter_append]
    have a1 : (l.take p).filter (fun s => decide (s < key)) = l.take p := by
      rw [List.filter_eq_self]
      intro f hf
      obtain ⟨j, hj, rfl⟩ := List.mem_take_iff_getElem.1 hf
      have := lo j (by omega)
      rw [gd j (by omega)] at this; simpa using this
    have a2 : (l.drop p).filter (fun s => decide (s < key)) = [] := by
      rw [List.filter_eq_nil_iff]
      intro f hf
      obtain ⟨j, hj, rfl⟩ := List.mem_drop_iff_getElem.1 hf
      have := hi (p + j) (by omega) (by omega)
      rw [gd _ (by omega)] at this
      rw [decide_eq_true_eq]; omega
    rw [a1, a2, List.append_nil]
  have e2 : moreI l key = l.drop p := by
    unfold moreI
    conv => lhs; rw [← List.take_append_drop p l]
    rw [List.filter_append]
    have a1 : (l.drop p).filter (fun s => decide (key < s)) = l.drop p := by
      rw [List.filter_eq_self]
      intro f hf
      obtain ⟨j, hj, rfl⟩ := List.mem_drop_iff_getElem.1 hf
      have := hi (p + j) (by omega) (by omega)
      rw [gd _ (by omega)] at this; simpa using this
    have a2 : (l.take p).filter (fun s => decide (key < s)) = [] := by
      rw [List.filter_eq_nil_iff]
      intro f hf
      obtain ⟨j, hj, rfl⟩ := List.mem_take_iff_getElem.1 hf
      have := lo j (by omega)
      rw [gd _ (by omega)] at this
      rw [decide_eq_true_eq]; omega
    rw [a1, a2, List.nil_append]
  rw [e1, e2, ins_eq _ _ _ hp]
set_option maxHeartbeats 8000000 in
theorem ref_apply1_c (t : ATree) (x : ATxn) (hw : t.wf) (hps : ∀ n, n ∈ t.nodes → n.path.length ≤ 1048576) (hz : okI x.zxid) (hp : x.path.length ≤ 1048576) (hd : okS x.data) (h0 : wrongT t x = 0) (o1 : x.op = 1) : acall Tryd.prog [] 52 [t.av, x.av] (ret (.tup [(applyT t x).1.av, .d (.sl 2 ((applyT t x).2.1.map AEvent.row)), I (applyT t x).2.2])) := by
  obtain ⟨g1, g2, g3, g4, g5, g6, g7, g8⟩ := wrong_ok h0
  obtain ⟨h1, h2⟩ : t.nodes.length * 88 ≤ 140737488351232 ∧ t.sessions.length * 8 ≤ 140737488351232 := ⟨hw.2.1.1, hw.2.2.1⟩
  have hgc := (ref_tgood_c t hw hps).re (congrArg B g1)
  have hxc := (ref_wgood_c x hz hp hd).re (congrArg I g2)
  have hcp := copyTO_c t h1 h2
  have h400 : t.nodes.length ≤ 400 := (good_root g1).2.1
  have hr : Rises (pathsN t.nodes) := good_rises g1
  have hsp := ref_split_c x.path hp
  have e1 : (splitP x.path).1.1 = dirP x.path := rfl
  have g3' : ¬ x.zxid ≤ t.zxid := by omega
  have m1 := g4 o1
  have hoc := (isOpen_c t x.session h2).re (congrArg B (decide_eq_false m1))
  have hn1 := nodeN_c t.zxid t.nodes t.sessions x.path h1 hr
  have hn2 := nodeN_c t.zxid t.nodes t.sessions (dirP x.path) h1 hr
  have hri : RisesI t.sessions := good_sess g1
  have hss : t.sessions.length ≤ 2147483647 := sess_len g1
  have hdone : (doneT t x) = (⟨x.zxid, t.nodes, t.sessions.insertIdx (placeI t.sessions x.session) x.session⟩, []) := by unfold doneT; rw [if_pos o1]
  refine zi tabOk Tryd.func52 rfl (by kernel_rfl) (by simp [Tryd.ntmps52]) ?_; simp only [Tryd.ntmps52, Tryd.results52, List.toList_toArray, apar, List.length_nil, List.length_cons, Nat.reduceAdd]
  (repeat' first
| (with_reducible refine AR.f ?_)
| refine zb (by decide) ?_
| (with_reducible refine AWP.cond rfl ?_ ?_ <;> intro hc <;> (try simp only [hcs, beq_iff_eq, ge_iff_le, gt_iff_lt] at hc))
| (refine zh fun Kk hKk => (zi tabOk Tryd.func111 rfl (by kernel_rfl) (by simp [Tryd.ntmps111]) ?_); simp only [Tryd.ntmps111, Tryd.results111, List.toList_toArray, apar, List.length_nil, List.length_cons, Nat.reduceAdd, List.length_append, List.length_set, go_sem])
| ((first | ((first | (with_reducible first | refine zR ?_ | refine zQ (by decide +kernel) ?_ | refine zD (by decide +kernel) ?_ | refine zE (by decide +kernel) ?_ | refine zG (by decide +kernel) ?_)); intro K hK) | ((first | refine zA hgc ?_ ?_ ?_ ?_ ?_ | refine zA hxc ?_ ?_ ?_ ?_ ?_ | refine zA hoc ?_ ?_ ?_ ?_ ?_ | refine zA hn1 ?_ ?_ ?_ ?_ ?_ | refine zA hn2 ?_ ?_ ?_ ?_ ?_ | refine zA hsp ?_ ?_ ?_ ?_ ?_ | refine zA hcp ?_ ?_ ?_ ?_ ?_); (focus exact rfl); (focus exact rfl); iterate 2 (focus ((try simp (disch := omega) only [go_sem, wn, o1, e1, g3']) <;> (try omega) <;> fail))) | ((first | refine zN hgc rfl ?_ ?_ | refine zN hxc rfl ?_ ?_ | refine zN hoc rfl ?_ ?_ | refine zN hn1 rfl ?_ ?_ | refine zN hn2 rfl ?_ ?_ | refine zN hsp rfl ?_ ?_ | refine zN hcp rfl ?_ ?_); (focus ((try simp (disch := omega) only [go_sem, wn, o1, e1, g3']) <;> (try omega) <;> fail))) | (first | ((first | refine zX hgc rfl ?_ ?_ | refine zy hgc ?_ ?_); (focus ((try simp (disch := omega) only [go_sem, wn, o1, e1, g3']) <;> (try omega) <;> fail))) | ((first | refine zX hxc rfl ?_ ?_ | refine zy hxc ?_ ?_); (focus ((try simp (disch := omega) only [go_sem, wn, o1, e1, g3']) <;> (try omega) <;> fail))) | ((first | refine zX hoc rfl ?_ ?_ | refine zy hoc ?_ ?_); (focus ((try simp (disch := omega) only [go_sem, wn, o1, e1, g3']) <;> (try omega) <;> fail))) | ((first | refine zX hn1 rfl ?_ ?_ | refine zy hn1 ?_ ?_); (focus ((try simp (disch := omega) only [go_sem, wn, o1, e1, g3']) <;> (try omega) <;> fail))) | ((first | refine zX hn2 rfl ?_ ?_ | refine zy hn2 ?_ ?_); (focus ((try simp (disch := omega) only [go_sem, wn, o1, e1, g3']) <;> (try omega) <;> fail))) | ((first | refine zX hsp rfl ?_ ?_ | refine zy hsp ?_ ?_); (focus ((try simp (disch := omega) only [go_sem, wn, o1, e1, g3']) <;> (try omega) <;> fail))) | ((first | refine zX hcp rfl ?_ ?_ | refine zy hcp ?_ ?_); (focus ((try simp (disch := omega) only [go_sem, wn, o1, e1, g3']) <;> (try omega) <;> fail)))) | (refine zw (v := ?_) hKk (by first | exact .inl rfl | exact .inr rfl) ?_ ?_ ?_; rotate_left; (focus ((try simp (disch := omega) only [go_sem, wn, o1, e1, g3']) <;> (try omega) <;> fail)); (focus ((try simp (disch := omega) only [go_sem, wn, o1, e1, g3']) <;> (first | done | exact rfl))); clear hKk Kk) | ((first | (with_reducible refine zu ?_ ?_ <;> intro hg) | with_reducible intro hg) <;> (first | (exfalso; simp at hg; done) | (have hg' := hg; (try simp only [hcs, beq_iff_eq, ge_iff_le, gt_iff_lt] at hg'); (try simp only [hg]))))) <;> (try simp (disch := omega) only [go_sem, wn, o1, e1, g3']) <;> (repeat' with_reducible refine And.intro ?_ ?_) <;> (try (with_reducible refine hK _ ?_; clear hK K)))
| omega)
  refine AWP.weaken (SImp.nilOwn 19 1 rfl) ?_
  simp only [go_sem]
  refine AWP.loopB (ι := Nat) (fun k => k ≤ t.sessions.length) (fun k => t.sessions.length - k) [2, 3, 4, 7, 15, 16, 226, 227] (fun k => [(228, I k), (19, .osl 8 1 0 (lessI (t.sessions.take k) x.session).length)]) (fun k => [.cells [.d (.int .i64 t.zxid), .d (.sl 9 (t.nodes.map ANode.row)), .d (.sl 1 (t.sessions.map irow))], .cells [I x.zxid, I 1, I x.session, S x.path, S x.data, I x.version, I x.owner], .cells [I 0, .d (.sc (.slice none 0 0)), .d (.sc (.slice none 0 0))], .rows 9 (t.nodes.map ANode.row), .rows 1 (t.sessions.map irow), .cells [I x.zxid, .osl 3 9 0 t.nodes.length, .osl 4 1 0 t.sessions.length], .cells [.d (.sc (.slice none 0 0))], .cells [.clo 113 [] [.ptr 5 0, .ptr 1 0, .ptr 6 0]], .rows 1 ((lessI (t.sessions.take k) x.session).map irow)]) 0 ?_ ?_ ?_
  · omega
  · simp only [go_sem, lessI, List.filter_nil]; (refine SImp.same ?_; simp (disch := omega) only [go_sem, wn, Int.natCast_add])
  intro k hk
  have hol : (lessI (t.sessions.take k) x.session).length ≤ k := Nat.le_trans (List.length_filter_le _ _) (List.length_take_le _ _)
  simp only [go_sem]
  by_cases hkk : k < t.sessions.length
  · (repeat' first
  | (with_reducible refine AR.f ?_)
  | refine zb (by decide) ?_
  | (with_reducible refine AWP.cond rfl ?_ ?_ <;> intro hc <;> (try simp only [hcs, beq_iff_eq, ge_iff_le, gt_iff_lt] at hc))
  | ((first | ((first | (with_reducible first | refine zR ?_ | refine zQ (by decide +kernel) ?_ | refine zD (by decide +kernel) ?_ | refine zE (by decide +kernel) ?_ | refine zG (by decide +kernel) ?_)); intro K hK) | ((first | (with_reducible refine zu ?_ ?_ <;> intro hg) | with_reducible intro hg) <;> (first | (exfalso; simp at hg; done) | (have hg' := hg; (try simp only [hcs, beq_iff_eq, ge_iff_le, gt_iff_lt] at hg'); (try simp only [hg]))))) <;> (try simp (disch := omega) only [go_sem, wn, irow_rsnoc, zl]) <;> (repeat' with_reducible refine And.intro ?_ ?_) <;> (try (with_reducible refine hK _ ?_; clear hK K)))
  | omega)
    · refine ⟨k + 1, by omega, by omega, ?_⟩
      rw [lessI_snoc _ _ _ hkk, if_pos hc]
      (refine SImp.frame [0, 1, 2, 3, 4, 5, 6, 7, 10] rfl (by intro k hk; first | (simp at hk <;> (simp; omega)) | (simp only [List.mem_cons, List.not_mem_nil, or_false] at hk; simp only [List.length_cons, List.length_nil]; omega)) (by decide) (fun k hk => by first | omega | (rcases k with _ | _ | _ | _ | _ | _ | _ | _ | k <;> first | rfl | omega)) ?_ ?_ <;> simp (disch := omega) only [go_sem, wn, Int.natCast_add, List.length_append] <;> (try rfl))
    · refine ⟨k + 1, by omega, by omega, ?_⟩
      rw [lessI_snoc _ _ _ hkk, if_neg (by omega)]
      (refine SImp.frame [0, 1, 2, 3, 4, 5, 6, 7, 8] rfl (by intro k hk; first | (simp at hk <;> (simp; omega)) | (simp only [List.mem_cons, List.not_mem_nil, or_false] at hk; simp only [List.length_cons, List.length_nil]; omega)) (by decide) (fun k hk => by first | omega | (rcases k with _ | _ | _ | _ | _ | _ | _ | _ | k <;> first | rfl | omega)) ?_ ?_ <;> simp (disch := omega) only [go_sem, wn, Int.natCast_add, true_and] <;> (try rfl))
  obtain rfl : k = t.sessions.length := by omega
  rw [List.take_length] at hol ⊢
  have hlm := less_moreI hri m1
  generalize lessI t.sessions x.session = l1 at hol hlm ⊢
  (repeat' first
| (with_reducible refine AR.f ?_)
| refine zb (by decide) ?_
| (with_reducible refine AWP.cond rfl ?_ ?_ <;> intro hc <;> (try simp only [hcs, beq_iff_eq, ge_iff_le, gt_iff_lt] at hc))
| ((first | ((first | (with_reducible first | refine zR ?_ | refine zQ (by decide +kernel) ?_ | refine zD (by decide +kernel) ?_ | refine zE (by decide +kernel) ?_ | refine zG (by decide +kernel) ?_)); intro K hK) | ((first | (with_reducible refine zu ?_ ?_ <;> intro hg) | with_reducible intro hg) <;> (first | (exfalso; simp at hg; done) | (have hg' := hg; (try simp only [hcs, beq_iff_eq, ge_iff_le, gt_iff_lt] at hg'); (try simp only [hg]))))) <;> (try simp (disch := omega) only [go_sem, wn, irow_rsnoc, zl]) <;> (repeat' with_reducible refine And.intro ?_ ?_) <;> (try (with_reducible refine hK _ ?_; clear hK K)))
| omega)
  refine AWP.loopB (ι := Nat) (fun k => k ≤ t.sessions.length) (fun k => t.sessions.length - k) [3, 4, 7, 15, 16, 247, 248] (fun k => [(249, I k), (19, .osl 10 1 0 (l1 ++ x.session :: moreI (t.sessions.take k) x.session).length)]) (fun k => [.cells [.d (.int .i64 t.zxid), .d (.sl 9 (t.nodes.map ANode.row)), .d (.sl 1 (t.sessions.map irow))], .cells [I x.zxid, I 1, I x.session, S x.path, S x.data, I x.version, I x.owner], .cells [I 0, .d (.sc (.slice none 0 0)), .d (.sc (.slice none 0 0))], .rows 9 (t.nodes.map ANode.row), .rows 1 (t.sessions.map irow), .cells [I x.zxid, .osl 3 9 0 t.nodes.length, .osl 4 1 0 t.sessions.length], .cells [.d (.sc (.slice none 0 0))], .cells [.clo 113 [] [.ptr 5 0, .ptr 1 0, .ptr 6 0]], .dead, .rows 1 [[.int .i64 x.session]], .rows 1 ((l1 ++ x.session :: moreI (t.sessions.take k) x.session).map irow)]) 0 ?_ ?_ ?_
  · omega
  · simp only [go_sem, moreI, List.filter_nil, List.length_append, List.length_cons, List.length_nil]; (refine SImp.same ?_; simp (disch := omega) only [go_sem, wn, Int.natCast_add])
  intro k hk
  have hol2 : (moreI (t.sessions.take k) x.session).length ≤ k := Nat.le_trans (List.length_filter_le _ _) (List.length_take_le _ _)
  have hLl : (l1 ++ x.session :: moreI (t.sessions.take k) x.session).length ≤ 2 * t.sessions.length + 1 := by rw [List.length_append, List.length_cons]; omega
  generalize hL : (l1 ++ x.session :: moreI (t.sessions.take k) x.session) = L at hLl ⊢
  simp only [go_sem]
  by_cases hkk : k < t.sessions.length
  · (repeat' first
  | (with_reducible refine AR.f ?_)
  | refine zb (by decide) ?_
  | (with_reducible refine AWP.cond rfl ?_ ?_ <;> intro hc <;> (try simp only [hcs, beq_iff_eq, ge_iff_le, gt_iff_lt] at hc))
  | ((first | ((first | (with_reducible first | refine zR ?_ | refine zQ (by decide +kernel) ?_ | refine zD (by decide +kernel) ?_ | refine zE (by decide +kernel) ?_ | refine zG (by decide +kernel) ?_)); intro K hK) | ((first | (with_reducible refine zu ?_ ?_ <;> intro hg) | with_reducible intro hg) <;> (first | (exfalso; simp at hg; done) | (have hg' := hg; (try simp only [hcs, beq_iff_eq, ge_iff_le, gt_iff_lt] at hg'); (try simp only [hg]))))) <;> (try simp (disch := omega) only [go_sem, wn, irow_rsnoc, zl]) <;> (repeat' with_reducible refine And.intro ?_ ?_) <;> (try (with_reducible refine hK _ ?_; clear hK K)))
  | omega)
    · refine ⟨k + 1, by omega, by omega, ?_⟩
      have hn : l1 ++ x.session :: moreI (t.sessions.take (k + 1)) x.session = L ++ [t.sessions.getD k default] := by rw [moreI_snoc _ _ _ hkk, if_pos hc, ← hL]; simp
      have hnl : l1.length + ((moreI (t.sessions.take (k + 1)) x.session).length + 1) = L.length + 1 := by have := congrArg List.length hn; simpa using this
      rw [hn]
      (refine SImp.frame [0, 1, 2, 3, 4, 5, 6, 7, 8, 9, 12] rfl (by intro k hk; first | (simp at hk <;> (simp; omega)) | (simp only [List.mem_cons, List.not_mem_nil, or_false] at hk; simp only [List.length_cons, List.length_nil]; omega)) (by decide) (fun k hk => by first | omega | (rcases k with _ | _ | _ | _ | _ | _ | _ | _ | k <;> first | rfl | omega)) ?_ ?_ <;> simp (disch := omega) only [go_sem, wn, Int.natCast_add, List.length_append, hnl] <;> (try rfl))
    · refine ⟨k + 1, by omega, by omega, ?_⟩
      have hnl : l1.length + ((moreI (t.sessions.take k) x.session).length + 1) = L.length := by have := congrArg List.length hL; simpa using this
      rw [moreI_snoc _ _ _ hkk, if_neg (by omega), hL]
      (refine SImp.frame [0, 1, 2, 3, 4, 5, 6, 7, 8, 9, 10] rfl (by intro k hk; first | (simp at hk <;> (simp; omega)) | (simp only [List.mem_cons, List.not_mem_nil, or_false] at hk; simp only [List.length_cons, List.length_nil]; omega)) (by decide) (fun k hk => by first | omega | (rcases k with _ | _ | _ | _ | _ | _ | _ | _ | k <;> first | rfl | omega)) ?_ ?_ <;> simp (disch := omega) only [go_sem, wn, Int.natCast_add, hnl] <;> (try rfl))
  obtain rfl : k = t.sessions.length := by omega
  rw [List.take_length] at hL hol2
  rw [← hlm, hL] at hdone
  clear hL hlm
  (repeat' first
| (with_reducible refine AR.f ?_)
| refine zb (by decide) ?_
| (with_reducible refine AWP.cond rfl ?_ ?_ <;> intro hc <;> (try simp only [hcs, beq_iff_eq, ge_iff_le, gt_iff_lt] at hc))
| ((first | ((first | (with_reducible first | refine zR ?_ | refine zQ (by decide +kernel) ?_ | refine zD (by decide +kernel) ?_ | refine zE (by decide +kernel) ?_ | refine zG (by decide +kernel) ?_)); intro K hK) | ((first | (with_reducible refine zu ?_ ?_ <;> intro hg) | with_reducible intro hg) <;> (first | (exfalso; simp at hg; done) | (have hg' := hg; (try simp only [hcs, beq_iff_eq, ge_iff_le, gt_iff_lt] at hg'); (try simp only [hg]))))) <;> (try simp (disch := omega) only [go_sem, wn]) <;> (repeat' with_reducible refine And.intro ?_ ?_) <;> (try (with_reducible refine hK _ ?_; clear hK K)))
| omega)
  refine AWP.loopB (ι := Nat) (fun k => k ≤ t.nodes.length ∧ ∀ j, j < k → bigN (t.nodes.getD j default) = false) (fun k => t.nodes.length - k) [4, 7, 15, 16, 404, 405] (fun k => [(406, I k)]) (fun k => [.cells [.d (.int .i64 t.zxid), .d (.sl 9 (t.nodes.map ANode.row)), .d (.sl 1 (t.sessions.map irow))], .cells [I x.zxid, I 1, I x.session, S x.path, S x.data, I x.version, I x.owner], .cells [I 0, .d (.sc (.slice none 0 0)), .d (.sc (.slice none 0 0))], .rows 9 (t.nodes.map ANode.row), .rows 1 (t.sessions.map irow), .cells [I x.zxid, .osl 3 9 0 t.nodes.length, .osl 10 1 0 L.length], .cells [.d (.sc (.slice none 0 0))], .cells [.clo 113 [] [.ptr 5 0, .ptr 1 0, .ptr 6 0]], .dead, .rows 1 [[.int .i64 x.session]], .rows 1 (L.map irow)]) 0 ?_ ?_ ?_
  · exact ⟨by omega, fun j hj => by omega⟩
  · simp only [go_sem]; (refine SImp.same ?_; simp (disch := omega) only [go_sem, wn, Int.natCast_add])
  intro k ⟨hk, hk2⟩
  simp only [go_sem]
  (repeat' first
| (with_reducible refine AR.f ?_)
| refine zb (by decide) ?_
| (with_reducible refine AWP.cond rfl ?_ ?_ <;> intro hc <;> (try simp only [hcs, beq_iff_eq, ge_iff_le, gt_iff_lt] at hc))
| (refine zh fun Kk hKk => (zi tabOk Tryd.func111 rfl (by kernel_rfl) (by simp [Tryd.ntmps111]) ?_); simp only [Tryd.ntmps111, Tryd.results111, List.toList_toArray, apar, List.length_nil, List.length_cons, Nat.reduceAdd, List.length_append, List.length_set, go_sem])
| ((first | ((first | refine zP ((Plan.takes [0] (.fork 1 (Plan.takes [2, 3, 4] .done) 2 (Plan.takes [1, 3, 4] .done)))) (by decide +kernel) ?_ | (with_reducible first | refine zR ?_ | refine zQ (by decide +kernel) ?_ | refine zD (by decide +kernel) ?_ | refine zE (by decide +kernel) ?_ | refine zG (by decide +kernel) ?_)); intro K hK) | (refine zw (v := ?_) hKk (by first | exact .inl rfl | exact .inr rfl) ?_ ?_ ?_; rotate_left; (focus ((try simp (disch := omega) only [go_sem, wn, ANode.rgetD]) <;> (try omega) <;> fail)); (focus ((try simp (disch := omega) only [go_sem, wn, ANode.rgetD]) <;> (first | done | exact rfl))); clear hKk Kk) | ((first | (with_reducible refine zu ?_ ?_ <;> intro hg) | with_reducible intro hg) <;> (first | (exfalso; simp at hg; done) | (have hg' := hg; (try simp only [hcs, beq_iff_eq, ge_iff_le, gt_iff_lt] at hg'); (try simp only [hg]))))) <;> (try simp (disch := omega) only [go_sem, wn, ANode.rgetD]) <;> (repeat' with_reducible refine And.intro ?_ ?_) <;> (try (with_reducible refine hK _ ?_; clear hK K)))
| omega)
  · have hbig : t.nodes.any bigN = true := List.any_eq_true.2 ⟨_, getD_mem t.nodes k (by omega), by unfold bigN; rw [decide_eq_true_eq]; omega⟩
    rw [apply_full h0 (by rw [hdone]; exact hbig)]
    (refine zF rfl ?_ ?_ ?_ ?_; (iterate 3 (focus ((try simp (disch := omega) only [go_sem, wn, default]) <;> (try omega) <;> fail))); (try simp (disch := omega) only [go_sem, wn, default, I, B, S, inj, List.cons.injEq, and_true, true_and, and_self]))
  · refine ⟨k + 1, ⟨by omega, fun j hj => ?_⟩, by omega, ?_⟩
    · by_cases e : j = k
      · subst e; unfold bigN; rw [decide_eq_false_iff_not]; omega
      · exact hk2 j (by omega)
    (refine SImp.frame [0, 1, 2, 3, 4, 5, 6, 7, 8, 9, 10] rfl (by intro k hk; first | (simp at hk <;> (simp; omega)) | (simp only [List.mem_cons, List.not_mem_nil, or_false] at hk; simp only [List.length_cons, List.length_nil]; omega)) (by decide) (fun k hk => by first | omega | (rcases k with _ | _ | _ | _ | _ | _ | _ | _ | k <;> first | rfl | omega)) ?_ ?_ <;> simp (disch := omega) only [go_sem, wn, Int.natCast_add, true_and] <;> (try rfl))
  all_goals
    have hbig := (bigI_no (l := t.nodes) (fun j hj => hk2 j (by omega))).1
    rw [apply_ok h0 (by rw [hdone]; exact hbig), hdone]
    (refine zF rfl ?_ ?_ ?_ ?_; (iterate 3 (focus ((try simp (disch := omega) only [go_sem, wn, I, S]) <;> (try omega) <;> fail))); (try simp (disch := omega) only [go_sem, wn, I, S, I, B, S, inj, List.cons.injEq, and_true, true_and, and_self]))
end Go.Proofs.YtmpfhalheaeibaaDoor
namespace Go.Proofs.YtmpfhalheaeibaaDoor
set_option linter.unusedVariables false
set_option linter.unusedSimpArgs false
open Go Go.RowKit
set_option maxRecDepth 100000
set_option linter.unusedSimpArgs false
def othersI (l : List Int) (key : Int) : List Int := l.filter fun s => decide (s ≠ key)
theorem othersI_snoc (l : List Int) (key : Int) (k : Nat) (h : k < l.length) : othersI (l.take (k + 1)) key = if l.getD k default ≠ key then othersI (l.take k) key ++ [l.getD k default] else othersI (l.take k) key := by
  unfold othersI
  rw [take_snoc l k h, List.filter_append]
  by_cases e : l.getD k default ≠ key
  · rw [if_pos e, List.filter_cons_of_pos (by simpa using e)]; rfl
  · rw [if_neg e, List.filter_cons_of_neg (by simpa using e), List.filter_nil, List.append_nil]
theorem placeI_get {l : List Int} {key : Int} (hr : RisesI l) (h : key ∈ l) : l.getD (placeI l key) default = key := by
  obtain ⟨k, hk, e⟩ := List.mem_iff_getElem.1 h
  have e2 : l.getD k default = key := by rw [List.getD_eq_getElem?_getD, List.getElem?_eq_getElem hk]; exact e
  have : placeI l key = k := placeI_eq (by omega) (fun j hj => by rw [← e2]; exact risesI_lt hr hj hk) (fun _ => by rw [e2]; omega)
  rw [this, e2]
theorem othersI_erase {l : List Int} {key : Int} (hr : RisesI l) (h : key ∈ l) : othersI l key = l.eraseIdx (placeI l key) := by
  have hpl : placeI l key < l.length := placeI_lt hr h
  have hpk : l.getD (placeI l key) default = key := placeI_get hr h
  generalize placeI l key = p at *
  have hne : ∀ j, j < l.length → j ≠ p → l.getD j default ≠ key := fun j hj hjp e => by
    rcases Nat.lt_or_gt_of_ne hjp with h1 | h1
    · have := risesI_lt hr h1 hpl; omega
    · have := risesI_lt hr h1 hj; omega
  have hs : l = l.take p ++ l.getD p default :: l.drop (p + 1) := by
    rw [List.getD_eq_getElem?_getD, List.getElem?_eq_getElem hpl]
    simp
  have h1 : (l.take p).filter (fun f => decide (f ≠ key)) = l.take p := by
    rw [List.filter_eq_self]
    intro f hf
    obtain ⟨j, hj, rfl⟩ := List.mem_take_iff_getElem.1 hf
    have := hne j (by omega) (by omega)
    rw [List.getD_eq_getElem?_getD, List.getElem?_eq_getElem (by omega)] at this
    simpa using this
  have h2 : (l.drop (p + 1)).filter (fun f => decide (f ≠ key)) = l.drop (p + 1) := by
    rw [List.filter_eq_self]
    intro f hf
    obtain ⟨j, hj, rfl⟩ := List.mem_drop_iff_getElem.1 hf
    have := hne (p + 1 + j) (by omega) (by omega)
    rw [List.getD_eq_getElem?_getD, List.getElem?_eq_getElem (by omega)] at this
    simpa using this
  rw [erase_eq]
  unfold othersI
  conv => lhs; rw [hs]
  rw [List.filter_append, List.filter_cons_of_neg (by simp only [hpk]; simp), h1, h2]
set_option maxHeartbeats 8000000 in
theorem ref_apply2_c (t : ATree) (x : ATxn) (hw : t.wf) (hps : ∀ n, n ∈ t.nodes → n.path.length ≤ 1048576) (hz : okI x.zxid) (hp : x.path.length ≤ 1048576) (hd : okS x.data) (h0 : wrongT t x = 0) (o2 : x.op = 2) : acall Tryd.prog [] 52 [t.av, x.av] (ret (.tup [(applyT t x).1.av, .d (.sl 2 ((applyT t x).2.1.map AEvent.row)), I (applyT t x).2.2])) := by
  obtain ⟨g1, g2, g3, g4, g5, g6, g7, g8⟩ := wrong_ok h0
  obtain ⟨h1, h2⟩ : t.nodes.length * 88 ≤ 140737488351232 ∧ t.sessions.length * 8 ≤ 140737488351232 := ⟨hw.2.1.1, hw.2.2.1⟩
  have hgc := (ref_tgood_c t hw hps).re (congrArg B g1)
  have hxc := (ref_wgood_c x hz hp hd).re (congrArg I g2)
  have hcp := copyTO_c t h1 h2
  have h400 : t.nodes.length ≤ 400 := (good_root g1).2.1
  have hr : Rises (pathsN t.nodes) := good_rises g1
  have hsp := ref_split_c x.path hp
  have e1 : (splitP x.path).1.1 = dirP x.path := rfl
  have g3' : ¬ x.zxid ≤ t.zxid := by omega
  have ms := g5 (by omega)
  have hoc := (isOpen_c t x.session h2).re (congrArg B (decide_eq_true ms))
  have hn1 := nodeN_c t.zxid t.nodes t.sessions x.path h1 hr
  have hn2 := nodeN_c t.zxid t.nodes t.sessions (dirP x.path) h1 hr
  have hri : RisesI t.sessions := good_sess g1
  have hss : t.sessions.length ≤ 2147483647 := sess_len g1
  have hdone : (doneT t x) = (⟨x.zxid, (closeN t x.session x.zxid t.nodes.length).1, t.sessions.eraseIdx (placeI t.sessions x.session)⟩, (closeN t x.session x.zxid t.nodes.length).2) := by unfold doneT; rw [if_neg (by omega), if_pos o2]
  refine zi tabOk Tryd.func52 rfl (by kernel_rfl) (by simp [Tryd.ntmps52]) ?_; simp only [Tryd.ntmps52, Tryd.results52, List.toList_toArray, apar, List.length_nil, List.length_cons, Nat.reduceAdd]
  (repeat' first
| (with_reducible refine AR.f ?_)
| refine zb (by decide) ?_
| (with_reducible refine AWP.cond rfl ?_ ?_ <;> intro hc <;> (try simp only [hcs, beq_iff_eq, ge_iff_le, gt_iff_lt] at hc))
| (refine zh fun Kk hKk => (zi tabOk Tryd.func111 rfl (by kernel_rfl) (by simp [Tryd.ntmps111]) ?_); simp only [Tryd.ntmps111, Tryd.results111, List.toList_toArray, apar, List.length_nil, List.length_cons, Nat.reduceAdd, List.length_append, List.length_set, go_sem])
| ((first | ((first | (with_reducible first | refine zR ?_ | refine zQ (by decide +kernel) ?_ | refine zD (by decide +kernel) ?_ | refine zE (by decide +kernel) ?_ | refine zG (by decide +kernel) ?_)); intro K hK) | ((first | refine zA hgc ?_ ?_ ?_ ?_ ?_ | refine zA hxc ?_ ?_ ?_ ?_ ?_ | refine zA hoc ?_ ?_ ?_ ?_ ?_ | refine zA hn1 ?_ ?_ ?_ ?_ ?_ | refine zA hn2 ?_ ?_ ?_ ?_ ?_ | refine zA hsp ?_ ?_ ?_ ?_ ?_ | refine zA hcp ?_ ?_ ?_ ?_ ?_); (focus exact rfl); (focus exact rfl); iterate 2 (focus ((try simp (disch := omega) only [go_sem, wn, o2, e1, g3']) <;> (try omega) <;> fail))) | ((first | refine zN hgc rfl ?_ ?_ | refine zN hxc rfl ?_ ?_ | refine zN hoc rfl ?_ ?_ | refine zN hn1 rfl ?_ ?_ | refine zN hn2 rfl ?_ ?_ | refine zN hsp rfl ?_ ?_ | refine zN hcp rfl ?_ ?_); (focus ((try simp (disch := omega) only [go_sem, wn, o2, e1, g3']) <;> (try omega) <;> fail))) | (first | ((first | refine zX hgc rfl ?_ ?_ | refine zy hgc ?_ ?_); (focus ((try simp (disch := omega) only [go_sem, wn, o2, e1, g3']) <;> (try omega) <;> fail))) | ((first | refine zX hxc rfl ?_ ?_ | refine zy hxc ?_ ?_); (focus ((try simp (disch := omega) only [go_sem, wn, o2, e1, g3']) <;> (try omega) <;> fail))) | ((first | refine zX hoc rfl ?_ ?_ | refine zy hoc ?_ ?_); (focus ((try simp (disch := omega) only [go_sem, wn, o2, e1, g3']) <;> (try omega) <;> fail))) | ((first | refine zX hn1 rfl ?_ ?_ | refine zy hn1 ?_ ?_); (focus ((try simp (disch := omega) only [go_sem, wn, o2, e1, g3']) <;> (try omega) <;> fail))) | ((first | refine zX hn2 rfl ?_ ?_ | refine zy hn2 ?_ ?_); (focus ((try simp (disch := omega) only [go_sem, wn, o2, e1, g3']) <;> (try omega) <;> fail))) | ((first | refine zX hsp rfl ?_ ?_ | refine zy hsp ?_ ?_); (focus ((try simp (disch := omega) only [go_sem, wn, o2, e1, g3']) <;> (try omega) <;> fail))) | ((first | refine zX hcp rfl ?_ ?_ | refine zy hcp ?_ ?_); (focus ((try simp (disch := omega) only [go_sem, wn, o2, e1, g3']) <;> (try omega) <;> fail)))) | (refine zw (v := ?_) hKk (by first | exact .inl rfl | exact .inr rfl) ?_ ?_ ?_; rotate_left; (focus ((try simp (disch := omega) only [go_sem, wn, o2, e1, g3']) <;> (try omega) <;> fail)); (focus ((try simp (disch := omega) only [go_sem, wn, o2, e1, g3']) <;> (first | done | exact rfl))); clear hKk Kk) | ((first | (with_reducible refine zu ?_ ?_ <;> intro hg) | with_reducible intro hg) <;> (first | (exfalso; simp at hg; done) | (have hg' := hg; (try simp only [hcs, beq_iff_eq, ge_iff_le, gt_iff_lt] at hg'); (try simp only [hg]))))) <;> (try simp (disch := omega) only [go_sem, wn, o2, e1, g3']) <;> (repeat' with_reducible refine And.intro ?_ ?_) <;> (try (with_reducible refine hK _ ?_; clear hK K)))
| omega)
  refine AWP.weaken (SImp.nilOwn 24 1 rfl) ?_
  simp only [go_sem]
  refine AWP.loopB (ι := Nat) (fun k => k ≤ t.sessions.length) (fun k => t.sessions.length - k) [2, 3, 4, 7, 15, 16, 18, 267, 268] (fun k => [(269, I k), (24, .osl 8 1 0 (othersI (t.sessions.take k) x.session).length)]) (fun k => [.cells [.d (.int .i64 t.zxid), .d (.sl 9 (t.nodes.map ANode.row)), .d (.sl 1 (t.sessions.map irow))], .cells [I x.zxid, I 2, I x.session, S x.path, S x.data, I x.version, I x.owner], .cells [I 0, .d (.sc (.slice none 0 0)), .d (.sc (.slice none 0 0))], .rows 9 (t.nodes.map ANode.row), .rows 1 (t.sessions.map irow), .cells [I x.zxid, .osl 3 9 0 t.nodes.length, .osl 4 1 0 t.sessions.length], .cells [.d (.sc (.slice none 0 0))], .cells [.clo 113 [] [.ptr 5 0, .ptr 1 0, .ptr 6 0]], .rows 1 ((othersI (t.sessions.take k) x.session).map irow)]) 0 ?_ ?_ ?_
  · omega
  · simp only [go_sem, othersI, List.filter_nil]; (refine SImp.same ?_; simp (disch := omega) only [go_sem, wn, Int.natCast_add])
  intro k hk
  have hol : (othersI (t.sessions.take k) x.session).length ≤ k := Nat.le_trans (List.length_filter_le _ _) (List.length_take_le _ _)
  simp only [go_sem]
  by_cases hkk : k < t.sessions.length
  · (repeat' first
  | (with_reducible refine AR.f ?_)
  | refine zb (by decide) ?_
  | (with_reducible refine AWP.cond rfl ?_ ?_ <;> intro hc <;> (try simp only [hcs, beq_iff_eq, ge_iff_le, gt_iff_lt] at hc))
  | ((first | ((first | (with_reducible first | refine zR ?_ | refine zQ (by decide +kernel) ?_ | refine zD (by decide +kernel) ?_ | refine zE (by decide +kernel) ?_ | refine zG (by decide +kernel) ?_)); intro K hK) | ((first | (with_reducible refine zu ?_ ?_ <;> intro hg) | with_reducible intro hg) <;> (first | (exfalso; simp at hg; done) | (have hg' := hg; (try simp only [hcs, beq_iff_eq, ge_iff_le, gt_iff_lt] at hg'); (try simp only [hg]))))) <;> (try simp (disch := omega) only [go_sem, wn, irow_rsnoc, zl]) <;> (repeat' with_reducible refine And.intro ?_ ?_) <;> (try (with_reducible refine hK _ ?_; clear hK K)))
  | omega)
    · refine ⟨k + 1, by omega, by omega, ?_⟩
      rw [othersI_snoc _ _ _ hkk, if_pos (by omega)]
      (refine SImp.frame [0, 1, 2, 3, 4, 5, 6, 7, 10] rfl (by intro k hk; first | (simp at hk <;> (simp; omega)) | (simp only [List.mem_cons, List.not_mem_nil, or_false] at hk; simp only [List.length_cons, List.length_nil]; omega)) (by decide) (fun k hk => by first | omega | (rcases k with _ | _ | _ | _ | _ | _ | _ | _ | k <;> first | rfl | omega)) ?_ ?_ <;> simp (disch := omega) only [go_sem, wn, Int.natCast_add, List.length_append] <;> (try rfl))
    · refine ⟨k + 1, by omega, by omega, ?_⟩
      rw [othersI_snoc _ _ _ hkk, if_neg (by omega)]
      (refine SImp.frame [0, 1, 2, 3, 4, 5, 6, 7, 8] rfl (by intro k hk; first | (simp at hk <;> (simp; omega)) | (simp only [List.mem_cons, List.not_mem_nil, or_false] at hk; simp only [List.length_cons, List.length_nil]; omega)) (by decide) (fun k hk => by first | omega | (rcases k with _ | _ | _ | _ | _ | _ | _ | _ | k <;> first | rfl | omega)) ?_ ?_ <;> simp (disch := omega) only [go_sem, wn, Int.natCast_add, true_and] <;> (try rfl))
  obtain rfl : k = t.sessions.length := by omega
  rw [List.take_length, othersI_erase hri ms] at hol ⊢
  generalize t.sessions.eraseIdx (placeI t.sessions x.session) = ss1 at hol hdone ⊢
  (repeat' first
| (with_reducible refine AR.f ?_)
| refine zb (by decide) ?_
| (with_reducible refine AWP.cond rfl ?_ ?_ <;> intro hc <;> (try simp only [hcs, beq_iff_eq, ge_iff_le, gt_iff_lt] at hc))
| ((first | ((first | (with_reducible first | refine zR ?_ | refine zQ (by decide +kernel) ?_ | refine zD (by decide +kernel) ?_ | refine zE (by decide +kernel) ?_ | refine zG (by decide +kernel) ?_)); intro K hK) | ((first | (with_reducible refine zu ?_ ?_ <;> intro hg) | with_reducible intro hg) <;> (first | (exfalso; simp at hg; done) | (have hg' := hg; (try simp only [hcs, beq_iff_eq, ge_iff_le, gt_iff_lt] at hg'); (try simp only [hg]))))) <;> (try simp (disch := omega) only [go_sem, wn, irow_rsnoc, zl]) <;> (repeat' with_reducible refine And.intro ?_ ?_) <;> (try (with_reducible refine hK _ ?_; clear hK K)))
| omega)
  refine AWP.weaken (SImp.nilOwnC 6 0 2 rfl rfl) ?_
  simp only [go_sem]
  refine AWP.loopB (ι := Nat) (fun k => k ≤ t.nodes.length) (fun k => t.nodes.length - k) [3, 4, 7, 15, 16, 18, 285, 286] (fun k => [(287, I k)]) (fun k => [.cells [.d (.int .i64 t.zxid), .d (.sl 9 (t.nodes.map ANode.row)), .d (.sl 1 (t.sessions.map irow))], .cells [I x.zxid, I 2, I x.session, S x.path, S x.data, I x.version, I x.owner], .cells [I 0, .d (.sc (.slice none 0 0)), .d (.sc (.slice none 0 0))], .rows 9 ((closeN t x.session x.zxid k).1.map ANode.row), .rows 1 (t.sessions.map irow), .cells [I x.zxid, .osl 3 9 0 (closeN t x.session x.zxid k).1.length, .osl 8 1 0 ss1.length], .cells [.osl 9 2 0 (closeN t x.session x.zxid k).2.length], .cells [.clo 113 [] [.ptr 5 0, .ptr 1 0, .ptr 6 0]], .rows 1 (ss1.map irow), .rows 2 ((closeN t x.session x.zxid k).2.map AEvent.row)]) 0 ?_ ?_ ?_
  · omega
  · simp only [go_sem, closeN]; (refine SImp.same ?_; simp (disch := omega) only [go_sem, wn, Int.natCast_add])
  intro k hk
  have ci := close_ok (z := x.zxid) g1 (goodT_nums g2).2.2.1 k hk
  have hnext : closeN t x.session x.zxid (k + 1) = if (t.nodes.getD k default).stat.owner = x.session then (delN (closeN t x.session x.zxid k).1 (t.nodes.getD k default).path x.zxid, (closeN t x.session x.zxid k).2 ++ goneE (t.nodes.getD k default).path) else closeN t x.session x.zxid k := rfl
  simp only [go_sem]
  by_cases hkk : k < t.nodes.length
  case neg =>
    obtain rfl : k = t.nodes.length := by omega
    generalize closeN t x.session x.zxid t.nodes.length = cl at ci hdone ⊢
    obtain ⟨ns2, es⟩ := cl
    have hl2 : ns2.length ≤ 400 := Nat.le_trans ci.len h400
    have helen : es.length ≤ 2 * t.nodes.length := ci.elen
    simp only at hdone
    simp only [go_sem]
    (repeat' first
  | (with_reducible refine AR.f ?_)
  | refine zb (by decide) ?_
  | (with_reducible refine AWP.cond rfl ?_ ?_ <;> intro hc <;> (try simp only [hcs, beq_iff_eq, ge_iff_le, gt_iff_lt] at hc))
  | ((first | ((first | (with_reducible first | refine zR ?_ | refine zQ (by decide +kernel) ?_ | refine zD (by decide +kernel) ?_ | refine zE (by decide +kernel) ?_ | refine zG (by decide +kernel) ?_)); intro K hK) | ((first | (with_reducible refine zu ?_ ?_ <;> intro hg) | with_reducible intro hg) <;> (first | (exfalso; simp at hg; done) | (have hg' := hg; (try simp only [hcs, beq_iff_eq, ge_iff_le, gt_iff_lt] at hg'); (try simp only [hg]))))) <;> (try simp (disch := omega) only [go_sem, wn]) <;> (repeat' with_reducible refine And.intro ?_ ?_) <;> (try (with_reducible refine hK _ ?_; clear hK K)))
  | omega)
    refine AWP.loopB (ι := Nat) (fun k => k ≤ ns2.length ∧ ∀ j, j < k → bigN (ns2.getD j default) = false) (fun k => ns2.length - k) [4, 7, 15, 16, 404, 405] (fun k => [(406, I k)]) (fun k => [.cells [.d (.int .i64 t.zxid), .d (.sl 9 (t.nodes.map ANode.row)), .d (.sl 1 (t.sessions.map irow))], .cells [I x.zxid, I 2, I x.session, S x.path, S x.data, I x.version, I x.owner], .cells [I 0, .d (.sc (.slice none 0 0)), .d (.sc (.slice none 0 0))], .rows 9 (ns2.map ANode.row), .rows 1 (t.sessions.map irow), .cells [I x.zxid, .osl 3 9 0 ns2.length, .osl 8 1 0 ss1.length], .cells [.osl 9 2 0 es.length], .cells [.clo 113 [] [.ptr 5 0, .ptr 1 0, .ptr 6 0]], .rows 1 (ss1.map irow), .rows 2 (es.map AEvent.row)]) 0 ?_ ?_ ?_
    · exact ⟨by omega, fun j hj => by omega⟩
    · simp only [go_sem]; (refine SImp.same ?_; simp (disch := omega) only [go_sem, wn, Int.natCast_add])
    intro k ⟨hk, hk2⟩
    simp only [go_sem]
    (repeat' first
  | (with_reducible refine AR.f ?_)
  | refine zb (by decide) ?_
  | (with_reducible refine AWP.cond rfl ?_ ?_ <;> intro hc <;> (try simp only [hcs, beq_iff_eq, ge_iff_le, gt_iff_lt] at hc))
  | (refine zh fun Kk hKk => (zi tabOk Tryd.func111 rfl (by kernel_rfl) (by simp [Tryd.ntmps111]) ?_); simp only [Tryd.ntmps111, Tryd.results111, List.toList_toArray, apar, List.length_nil, List.length_cons, Nat.reduceAdd, List.length_append, List.length_set, go_sem])
  | ((first | ((first | refine zP ((Plan.takes [0] (.fork 1 (Plan.takes [2, 3, 4] .done) 2 (Plan.takes [1, 3, 4] .done)))) (by decide +kernel) ?_ | (with_reducible first | refine zR ?_ | refine zQ (by decide +kernel) ?_ | refine zD (by decide +kernel) ?_ | refine zE (by decide +kernel) ?_ | refine zG (by decide +kernel) ?_)); intro K hK) | (refine zw (v := ?_) hKk (by first | exact .inl rfl | exact .inr rfl) ?_ ?_ ?_; rotate_left; (focus ((try simp (disch := omega) only [go_sem, wn, ANode.rgetD]) <;> (try omega) <;> fail)); (focus ((try simp (disch := omega) only [go_sem, wn, ANode.rgetD]) <;> (first | done | exact rfl))); clear hKk Kk) | ((first | (with_reducible refine zu ?_ ?_ <;> intro hg) | with_reducible intro hg) <;> (first | (exfalso; simp at hg; done) | (have hg' := hg; (try simp only [hcs, beq_iff_eq, ge_iff_le, gt_iff_lt] at hg'); (try simp only [hg]))))) <;> (try simp (disch := omega) only [go_sem, wn, ANode.rgetD]) <;> (repeat' with_reducible refine And.intro ?_ ?_) <;> (try (with_reducible refine hK _ ?_; clear hK K)))
  | omega)
    · have hbig : ns2.any bigN = true := List.any_eq_true.2 ⟨_, getD_mem ns2 k (by omega), by unfold bigN; rw [decide_eq_true_eq]; omega⟩
      rw [apply_full h0 (by rw [hdone]; exact hbig)]
      (refine zF rfl ?_ ?_ ?_ ?_; (iterate 3 (focus ((try simp (disch := omega) only [go_sem, wn, default]) <;> (try omega) <;> fail))); (try simp (disch := omega) only [go_sem, wn, default, I, B, S, inj, List.cons.injEq, and_true, true_and, and_self]))
    · refine ⟨k + 1, ⟨by omega, fun j hj => ?_⟩, by omega, ?_⟩
      · by_cases e : j = k
        · subst e; unfold bigN; rw [decide_eq_false_iff_not]; omega
        · exact hk2 j (by omega)
      (refine SImp.frame [0, 1, 2, 3, 4, 5, 6, 7, 8, 9] rfl (by intro k hk; first | (simp at hk <;> (simp; omega)) | (simp only [List.mem_cons, List.not_mem_nil, or_false] at hk; simp only [List.length_cons, List.length_nil]; omega)) (by decide) (fun k hk => by first | omega | (rcases k with _ | _ | _ | _ | _ | _ | _ | _ | k <;> first | rfl | omega)) ?_ ?_ <;> simp (disch := omega) only [go_sem, wn, Int.natCast_add, true_and] <;> (try rfl))
    all_goals
      have hbig := (bigI_no (l := ns2) (fun j hj => hk2 j (by omega))).1
      rw [apply_ok h0 (by rw [hdone]; exact hbig), hdone]
      (refine zF rfl ?_ ?_ ?_ ?_; (iterate 3 (focus ((try simp (disch := omega) only [go_sem, wn, I, S]) <;> (try omega) <;> fail))); (try simp (disch := omega) only [go_sem, wn, I, S, I, B, S, inj, List.cons.injEq, and_true, true_and, and_self]))
  by_cases how : (t.nodes.getD k default).stat.owner = x.session
  · rw [if_pos how] at hnext
    have hone := close_one (z := x.zxid) g1 (goodT_nums g2).2.2.1 hkk how
    have hpb : (t.nodes.getD k default).path.length ≤ 1048576 := hps _ (getD_mem t.nodes k (by omega))
    have hm := ci.rest k (Nat.le_refl _) hkk
    have hdir := ci.dirs k hkk how
    have hr := ci.rises
    have hlen := ci.len
    have helen := ci.elen
    clear ci
    unfold nd at hone hm hdir
    generalize closeN t x.session x.zxid k = cl at hnext hm hdir hr hlen helen
    obtain ⟨ns, es⟩ := cl
    simp only at hnext hm hdir hr hlen helen
    generalize hpp : (t.nodes.getD k default).path = p at hnext hm hdir hone hpb
    have hgo := gone_c x.zxid ns ss1 es x p (by omega) (by omega) (by omega) hpb hr hm hdir hone.2.2.1
    rw [o2] at hgo
    (repeat' first
  | (with_reducible refine AR.f ?_)
  | refine zb (by decide) ?_
  | (with_reducible refine AWP.cond rfl ?_ ?_ <;> intro hc <;> (try simp only [hcs, beq_iff_eq, ge_iff_le, gt_iff_lt] at hc))
  | ((first | ((first | (with_reducible first | refine zR ?_ | refine zQ (by decide +kernel) ?_ | refine zD (by decide +kernel) ?_ | refine zE (by decide +kernel) ?_ | refine zG (by decide +kernel) ?_)); intro K hK) | (refine acallH_at [5, 3, 8, 6, 9, 7, 1] (hgo) ?_ ?_ ?_; (focus ((try simp (disch := omega) only [inj, List.cons.injEq, and_self, List.nodup_cons, List.not_mem_nil, List.mem_cons, not_false_eq_true, List.nodup_nil, go_sem, wn, how, hpp, ANode.rgetD]) <;> (try omega) <;> fail)); (focus ((try simp (disch := omega) only [inj, List.cons.injEq, and_self, List.nodup_cons, List.not_mem_nil, List.mem_cons, not_false_eq_true, List.nodup_nil, go_sem, wn, how, hpp, ANode.rgetD]) <;> (try omega) <;> (try decide) <;> fail))) | ((first | (with_reducible refine zu ?_ ?_ <;> intro hg) | with_reducible intro hg) <;> (first | (exfalso; simp at hg; done) | (have hg' := hg; (try simp only [hcs, beq_iff_eq, ge_iff_le, gt_iff_lt] at hg'); (try simp only [hg]))))) <;> (try simp (disch := omega) only [go_sem, wn, how, hpp, ANode.rgetD]) <;> (repeat' with_reducible refine And.intro ?_ ?_) <;> (try (with_reducible refine hK _ ?_; clear hK K)))
  | omega)
    refine ⟨k + 1, by omega, by omega, ?_⟩
    rw [hnext]
    (refine SImp.frame [0, 1, 2, 11, 4, 5, 6, 7, 8, 12] rfl (by intro k hk; first | (simp at hk <;> (simp; omega)) | (simp only [List.mem_cons, List.not_mem_nil, or_false] at hk; simp only [List.length_cons, List.length_nil]; omega)) (by decide) (fun k hk => by first | omega | (rcases k with _ | _ | _ | _ | _ | _ | _ | _ | k <;> first | rfl | omega)) ?_ ?_ <;> simp (disch := omega) only [go_sem, wn, Int.natCast_add, true_and] <;> (try rfl))
  · rw [if_neg how] at hnext
    (repeat' first
  | (with_reducible refine AR.f ?_)
  | refine zb (by decide) ?_
  | (with_reducible refine AWP.cond rfl ?_ ?_ <;> intro hc <;> (try simp only [hcs, beq_iff_eq, ge_iff_le, gt_iff_lt] at hc))
  | ((first | ((first | (with_reducible first | refine zR ?_ | refine zQ (by decide +kernel) ?_ | refine zD (by decide +kernel) ?_ | refine zE (by decide +kernel) ?_ | refine zG (by decide +kernel) ?_)); intro K hK) | ((first | (with_reducible refine zu ?_ ?_ <;> intro hg) | with_reducible intro hg) <;> (first | (exfalso; simp at hg; done) | (have hg' := hg; (try simp only [hcs, beq_iff_eq, ge_iff_le, gt_iff_lt] at hg'); (try simp only [hg]))))) <;> (try simp (disch := omega) only [go_sem, wn, ANode.rgetD]) <;> (repeat' with_reducible refine And.intro ?_ ?_) <;> (try (with_reducible refine hK _ ?_; clear hK K)))
  | omega)
    refine ⟨k + 1, by omega, by omega, ?_⟩
    rw [hnext]
    (refine SImp.frame [0, 1, 2, 3, 4, 5, 6, 7, 8, 9] rfl (by intro k hk; first | (simp at hk <;> (simp; omega)) | (simp only [List.mem_cons, List.not_mem_nil, or_false] at hk; simp only [List.length_cons, List.length_nil]; omega)) (by decide) (fun k hk => by first | omega | (rcases k with _ | _ | _ | _ | _ | _ | _ | _ | k <;> first | rfl | omega)) ?_ ?_ <;> simp (disch := omega) only [go_sem, wn, Int.natCast_add, true_and] <;> (try rfl))
end Go.Proofs.YtmpfhalheaeibaaDoor
