/- A part of what PrepMakes leans on: texts of this claim, one behind the other. No condition. -/
import Derived.Test.YtmpfhalheaeibaaDoorPrepMakesK8
namespace Go.Proofs.YtmpfhalheaeibaaDoor
set_option linter.unusedVariables false
set_option linter.unusedSimpArgs false
open Go Go.RowKit
set_option maxRecDepth 100000
set_option linter.unusedSimpArgs false
def lacksT (t : ATree) (x : ATxn) (there : Int) : Int :=
  if there = 0 then 8 else if ¬ (getT t (splitP x.path).1.1).2 = 0 then (getT t (splitP x.path).1.1).2 else if ¬ (getT t (splitP x.path).1.1).1.stat.owner = 0 then 11
  else if ¬ x.owner = 0 ∧ ¬ x.owner = x.session then 12 else if 400 ≤ t.nodes.length then 6 else 0
theorem lacks_c (t : ATree) (x : ATxn) (there : Int) (h : t.nodes.length * 88 ≤ 140737488351232) (hp : okS x.path) (hr : Rises (pathsT t)) : acall Tryd.prog [] 148 [t.av, x.av, .d (.int .i64 there)] (ret (I (lacksT t x there))) := by
  unfold lacksT
  refine zi tabOk Tryd.func148 rfl (by kernel_rfl) (by simp [Tryd.ntmps148]) ?_; simp only [Tryd.ntmps148, Tryd.results148, List.toList_toArray, apar, List.length_nil, List.length_cons, Nat.reduceAdd]
  (repeat' first
| (with_reducible refine AR.f ?_)
| refine zb (by decide) ?_
| (with_reducible refine AWP.cond rfl ?_ ?_ <;> intro hc <;> (try simp only [hcs, beq_iff_eq, ge_iff_le, gt_iff_lt] at hc))
| ((first | ((first | (with_reducible first | refine zR ?_ | refine zQ (by decide +kernel) ?_ | refine zD (by decide +kernel) ?_ | refine zE (by decide +kernel) ?_ | refine zG (by decide +kernel) ?_)); intro K hK) | ((first | refine zA (split_c x.path hp) ?_ ?_ ?_ ?_ ?_ | refine zA (getT_c t (splitP x.path).1.1 h hr) ?_ ?_ ?_ ?_ ?_); (focus exact rfl); (focus exact rfl); iterate 2 (focus ((try simp (disch := omega) only [go_sem, wn]) <;> (try omega) <;> fail))) | ((first | refine zN (split_c x.path hp) rfl ?_ ?_ | refine zN (getT_c t (splitP x.path).1.1 h hr) rfl ?_ ?_); (focus ((try simp (disch := omega) only [go_sem, wn]) <;> (try omega) <;> fail))) | (first | ((first | refine zX (split_c x.path hp) rfl ?_ ?_ | refine zy (split_c x.path hp) ?_ ?_); (focus ((try simp (disch := omega) only [go_sem, wn]) <;> (try omega) <;> fail))) | ((first | refine zX (getT_c t (splitP x.path).1.1 h hr) rfl ?_ ?_ | refine zy (getT_c t (splitP x.path).1.1 h hr) ?_ ?_); (focus ((try simp (disch := omega) only [go_sem, wn]) <;> (try omega) <;> fail)))) | ((first | (with_reducible refine zu ?_ ?_ <;> intro hg) | with_reducible intro hg) <;> (first | (exfalso; simp at hg; done) | (have hg' := hg; (try simp only [hcs, beq_iff_eq, ge_iff_le, gt_iff_lt] at hg'); (try simp only [hg]))))) <;> (try simp (disch := omega) only [go_sem, wn]) <;> (repeat' with_reducible refine And.intro ?_ ?_) <;> (try (with_reducible refine hK _ ?_; clear hK K)))
| omega)
  all_goals (refine zF rfl ?_ ?_ ?_ ?_; (iterate 3 (focus ((try simp (disch := omega) only [go_sem, wn]) <;> (try omega) <;> fail))); (try simp (disch := omega) only [go_sem, wn, I, B, S, inj, List.cons.injEq, and_true, true_and, and_self]))
  all_goals first | (simp [*]; done) | (simp only [*, not_true_eq_false, not_false_eq_true, if_true, if_false]; split <;> first | rfl | omega | (exfalso; rename_i h; revert h; simp_all; done) | (exfalso; omega)) | skip
def wrongT (t : ATree) (x : ATxn) : Int :=
  if goodTr t = false then 3 else if ¬ goodT x = 0 then goodT x else if x.zxid ≤ t.zxid then 13
  else if x.op = 1 then (if x.session ∈ t.sessions then 8 else 0)
  else if ¬ x.session ∈ t.sessions then 12
  else if x.op = 3 then lacksT t x (getT t x.path).2
  else if x.op = 4 then (if (getT t x.path).2 = 0 ∧ 0 < (getT t x.path).1.stat.kids then 10 else (getT t x.path).2)
  else if x.op = 5 then (if (getT t x.path).2 = 0 ∧ ¬ x.version = (getT t x.path).1.stat.version + 1 then 9 else (getT t x.path).2)
  else 0
set_option maxHeartbeats 4000000 in
theorem wrong_c (t : ATree) (x : ATxn) (hw : t.wf) (hp : okS x.path) (hd : okS x.data) : acall Tryd.prog [] 103 [t.av, x.av] (ret (I (wrongT t x))) := by
  obtain ⟨h1, h2⟩ : t.nodes.length * 88 ≤ 140737488351232 ∧ t.sessions.length * 8 ≤ 140737488351232 := ⟨hw.2.1.1, hw.2.2.1⟩
  unfold wrongT
  by_cases hg : goodTr t = true
  · have hr := good_rises hg
    have hri := good_sess hg
    have hv : -1000 ≤ (getT t x.path).1.stat.version ∧ (getT t x.path).1.stat.version ≤ 2147483647 := by
      unfold getT; split
      · rename_i hm
        have hpl := (zc hr hm).1
        rw [pathsT_len] at hpl
        obtain ⟨b1, b2, _⟩ := ((goodTr_iff.1 hg).2.2.2 _ hpl).1
        exact ⟨by simp only; omega, b2⟩
      · exact ⟨by decide, by decide⟩
    refine zi tabOk Tryd.func103 rfl (by kernel_rfl) (by simp [Tryd.ntmps103]) ?_; simp only [Tryd.ntmps103, Tryd.results103, List.toList_toArray, apar, List.length_nil, List.length_cons, Nat.reduceAdd]
    (repeat' first
  | (with_reducible refine AR.f ?_)
  | refine zb (by decide) ?_
  | (with_reducible refine AWP.cond rfl ?_ ?_ <;> intro hc <;> (try simp only [hcs, beq_iff_eq, ge_iff_le, gt_iff_lt] at hc))
  | ((first | ((first | (with_reducible first | refine zR ?_ | refine zQ (by decide +kernel) ?_ | refine zD (by decide +kernel) ?_ | refine zE (by decide +kernel) ?_ | refine zG (by decide +kernel) ?_)); intro K hK) | ((first | refine zA ((tgood_c t hw).re (congrArg B hg)) ?_ ?_ ?_ ?_ ?_ | refine zA (wgood_c x hp hd) ?_ ?_ ?_ ?_ ?_ | refine zA (open_c t x.session h2 hri) ?_ ?_ ?_ ?_ ?_ | refine zA (getT_c t x.path h1 hr) ?_ ?_ ?_ ?_ ?_); (focus exact rfl); (focus exact rfl); iterate 2 (focus ((try simp (disch := omega) only [go_sem, wn]) <;> (try omega) <;> fail))) | ((first | refine acallH_sc (lacks_c t x _ h1 hp hr) rfl rfl ?_ ?_ ?_ | refine acallQ_sc (lacks_c t x _ h1 hp hr) rfl rfl ?_ ?_ ?_); iterate 2 (focus ((try simp (disch := omega) only [go_sem, wn]) <;> (try omega) <;> fail))) | ((first | refine zN ((tgood_c t hw).re (congrArg B hg)) rfl ?_ ?_ | refine zN (wgood_c x hp hd) rfl ?_ ?_ | refine zN (open_c t x.session h2 hri) rfl ?_ ?_ | refine zN (getT_c t x.path h1 hr) rfl ?_ ?_ | refine zN (lacks_c t x _ h1 hp hr) rfl ?_ ?_); (focus ((try simp (disch := omega) only [go_sem, wn]) <;> (try omega) <;> fail))) | (first | ((first | refine zX ((tgood_c t hw).re (congrArg B hg)) rfl ?_ ?_ | refine zy ((tgood_c t hw).re (congrArg B hg)) ?_ ?_); (focus ((try simp (disch := omega) only [go_sem, wn]) <;> (try omega) <;> fail))) | ((first | refine zX (wgood_c x hp hd) rfl ?_ ?_ | refine zy (wgood_c x hp hd) ?_ ?_); (focus ((try simp (disch := omega) only [go_sem, wn]) <;> (try omega) <;> fail))) | ((first | refine zX (open_c t x.session h2 hri) rfl ?_ ?_ | refine zy (open_c t x.session h2 hri) ?_ ?_); (focus ((try simp (disch := omega) only [go_sem, wn]) <;> (try omega) <;> fail))) | ((first | refine zX (getT_c t x.path h1 hr) rfl ?_ ?_ | refine zy (getT_c t x.path h1 hr) ?_ ?_); (focus ((try simp (disch := omega) only [go_sem, wn]) <;> (try omega) <;> fail))) | ((first | refine zX (lacks_c t x _ h1 hp hr) rfl ?_ ?_ | refine zy (lacks_c t x _ h1 hp hr) ?_ ?_); (focus ((try simp (disch := omega) only [go_sem, wn]) <;> (try omega) <;> fail)))) | ((first | (with_reducible refine zu ?_ ?_ <;> intro hg) | with_reducible intro hg) <;> (first | (exfalso; simp at hg; done) | (have hg' := hg; (try simp only [hcs, beq_iff_eq, ge_iff_le, gt_iff_lt] at hg'); (try simp only [hg]))))) <;> (try simp (disch := omega) only [go_sem, wn]) <;> (repeat' with_reducible refine And.intro ?_ ?_) <;> (try (with_reducible refine hK _ ?_; clear hK K)))
  | omega)
    all_goals (refine zF rfl ?_ ?_ ?_ ?_; (iterate 3 (focus ((try simp (disch := omega) only [go_sem, wn]) <;> (try omega) <;> fail))); (try simp (disch := omega) only [go_sem, wn, I, B, S, inj, List.cons.injEq, and_true, true_and, and_self]))
    all_goals (repeat' split)
    all_goals first | rfl | (exfalso; omega) | (exfalso; simp_all; done)
  · have hg2 : goodTr t = false := by simpa using hg
    refine zi tabOk Tryd.func103 rfl (by kernel_rfl) (by simp [Tryd.ntmps103]) ?_; simp only [Tryd.ntmps103, Tryd.results103, List.toList_toArray, apar, List.length_nil, List.length_cons, Nat.reduceAdd]
    (repeat' first
  | (with_reducible refine AR.f ?_)
  | refine zb (by decide) ?_
  | (with_reducible refine AWP.cond rfl ?_ ?_ <;> intro hc <;> (try simp only [hcs, beq_iff_eq, ge_iff_le, gt_iff_lt] at hc))
  | ((first | ((first | (with_reducible first | refine zR ?_ | refine zQ (by decide +kernel) ?_ | refine zD (by decide +kernel) ?_ | refine zE (by decide +kernel) ?_ | refine zG (by decide +kernel) ?_)); intro K hK) | ((first | refine zA ((tgood_c t hw).re (congrArg B hg2)) ?_ ?_ ?_ ?_ ?_); (focus exact rfl); (focus exact rfl); iterate 2 (focus ((try simp (disch := omega) only [go_sem, wn]) <;> (try omega) <;> fail))) | ((first | refine zN ((tgood_c t hw).re (congrArg B hg2)) rfl ?_ ?_); (focus ((try simp (disch := omega) only [go_sem, wn]) <;> (try omega) <;> fail))) | (first | ((first | refine zX ((tgood_c t hw).re (congrArg B hg2)) rfl ?_ ?_ | refine zy ((tgood_c t hw).re (congrArg B hg2)) ?_ ?_); (focus ((try simp (disch := omega) only [go_sem, wn]) <;> (try omega) <;> fail)))) | ((first | (with_reducible refine zu ?_ ?_ <;> intro hg) | with_reducible intro hg) <;> (first | (exfalso; simp at hg; done) | (have hg' := hg; (try simp only [hcs, beq_iff_eq, ge_iff_le, gt_iff_lt] at hg'); (try simp only [hg]))))) <;> (try simp (disch := omega) only [go_sem, wn]) <;> (repeat' with_reducible refine And.intro ?_ ?_) <;> (try (with_reducible refine hK _ ?_; clear hK K)))
  | omega)
    all_goals (refine zF rfl ?_ ?_ ?_ ?_; (iterate 3 (focus ((try simp (disch := omega) only [go_sem, wn]) <;> (try omega) <;> fail))); (try simp (disch := omega) only [go_sem, wn, I, B, S, inj, List.cons.injEq, and_true, true_and, and_self]))
    rw [if_pos hg2]
theorem cloneNode_c (l : List ANode) (h : l.length * 88 ≤ 140737488351232) : acall Tryd.prog [] 149 [.d (.sl 9 (l.map ANode.row))] (own 9 (l.map ANode.row)) := by
  refine zi tabOk Tryd.func149 rfl (by kernel_rfl) (by simp [Tryd.ntmps149]) ?_; simp only [Tryd.ntmps149, Tryd.results149, List.toList_toArray, apar, List.length_nil, List.length_cons, Nat.reduceAdd]
  (repeat' first
| (with_reducible refine AR.f ?_)
| refine zb (by decide) ?_
| (with_reducible refine AWP.cond rfl ?_ ?_ <;> intro hc <;> (try simp only [hcs, beq_iff_eq, ge_iff_le, gt_iff_lt] at hc))
| ((first | ((first | (with_reducible first | refine zR ?_ | refine zQ (by decide +kernel) ?_ | refine zD (by decide +kernel) ?_ | refine zE (by decide +kernel) ?_ | refine zG (by decide +kernel) ?_)); intro K hK) | ((first | (with_reducible refine zu ?_ ?_ <;> intro hg) | with_reducible intro hg) <;> (first | (exfalso; simp at hg; done) | (have hg' := hg; (try simp only [hcs, beq_iff_eq, ge_iff_le, gt_iff_lt] at hg'); (try simp only [hg]))))) <;> (try simp (disch := omega) only [go_sem, wn]) <;> (repeat' with_reducible refine And.intro ?_ ?_) <;> (try (with_reducible refine hK _ ?_; clear hK K)))
| omega)
  · have e : l.length = 0 := by
      rcases Nat.eq_zero_or_pos l.length with h0 | h0
      · exact h0
      · rw [hg h0] at hc; simp at hc
    rw [nil_of_len e]
    (refine aend_nil (by first | exact .inl rfl | exact .inr rfl) rfl ?_ ?_ <;> simp (disch := omega) only [go_sem, wn])
  · (refine aend_own 1 (by first | exact .inl rfl | exact .inr rfl) rfl ?_ rfl rfl ?_ <;> (try simp (disch := omega) only [go_sem, wn, List.length_map]))
theorem cloneInt_c (l : List Int) (h : l.length * 8 ≤ 140737488351232) : acall Tryd.prog [] 150 [.d (.sl 1 (l.map irow))] (own 1 (l.map irow)) := by
  refine zi tabOk Tryd.func150 rfl (by kernel_rfl) (by simp [Tryd.ntmps150]) ?_; simp only [Tryd.ntmps150, Tryd.results150, List.toList_toArray, apar, List.length_nil, List.length_cons, Nat.reduceAdd]
  (repeat' first
| (with_reducible refine AR.f ?_)
| refine zb (by decide) ?_
| (with_reducible refine AWP.cond rfl ?_ ?_ <;> intro hc <;> (try simp only [hcs, beq_iff_eq, ge_iff_le, gt_iff_lt] at hc))
| ((first | ((first | (with_reducible first | refine zR ?_ | refine zQ (by decide +kernel) ?_ | refine zD (by decide +kernel) ?_ | refine zE (by decide +kernel) ?_ | refine zG (by decide +kernel) ?_)); intro K hK) | ((first | (with_reducible refine zu ?_ ?_ <;> intro hg) | with_reducible intro hg) <;> (first | (exfalso; simp at hg; done) | (have hg' := hg; (try simp only [hcs, beq_iff_eq, ge_iff_le, gt_iff_lt] at hg'); (try simp only [hg]))))) <;> (try simp (disch := omega) only [go_sem, wn]) <;> (repeat' with_reducible refine And.intro ?_ ?_) <;> (try (with_reducible refine hK _ ?_; clear hK K)))
| omega)
  · have e : l.length = 0 := by
      rcases Nat.eq_zero_or_pos l.length with h0 | h0
      · exact h0
      · rw [hg h0] at hc; simp at hc
    rw [nil_of_len e]
    (refine aend_nil (by first | exact .inl rfl | exact .inr rfl) rfl ?_ ?_ <;> simp (disch := omega) only [go_sem, wn])
  · (refine aend_own 1 (by first | exact .inl rfl | exact .inr rfl) rfl ?_ rfl rfl ?_ <;> (try simp (disch := omega) only [go_sem, wn, List.length_map]))
theorem copiedT_c (t : ATree) (h : t.nodes.length * 88 ≤ 140737488351232) (h2 : t.sessions.length * 8 ≤ 140737488351232) : acall Tryd.prog [] 104 [t.av] (outs (.agg [I t.zxid, .osl 0 9 0 t.nodes.length, .osl 1 1 0 t.sessions.length]) [.rows 9 (t.nodes.map ANode.row), .rows 1 (t.sessions.map irow)]) := by
  refine zi tabOk Tryd.func104 rfl (by kernel_rfl) (by simp [Tryd.ntmps104]) ?_; simp only [Tryd.ntmps104, Tryd.results104, List.toList_toArray, apar, List.length_nil, List.length_cons, Nat.reduceAdd]
  (repeat' first
| (with_reducible refine AR.f ?_)
| refine zb (by decide) ?_
| (with_reducible refine AWP.cond rfl ?_ ?_ <;> intro hc <;> (try simp only [hcs, beq_iff_eq, ge_iff_le, gt_iff_lt] at hc))
| ((first | ((first | refine zP ((Plan.takes [0, 1, 3] (.fork 2 (Plan.takes [4, 6, 5, 7, 8, 9] .done) 4 (Plan.takes [2, 6, 5, 7, 8, 9] .done)))) (by decide +kernel) ?_ | (with_reducible first | refine zR ?_ | refine zQ (by decide +kernel) ?_ | refine zD (by decide +kernel) ?_ | refine zE (by decide +kernel) ?_ | refine zG (by decide +kernel) ?_)); intro K hK) | ((first | refine acallH_sc (cloneNode_c _ h) rfl rfl ?_ ?_ ?_ | refine acallQ_sc (cloneNode_c _ h) rfl rfl ?_ ?_ ?_ | refine acallH_sc (cloneInt_c _ h2) rfl rfl ?_ ?_ ?_ | refine acallQ_sc (cloneInt_c _ h2) rfl rfl ?_ ?_ ?_); iterate 2 (focus ((try simp (disch := omega) only [go_sem, wn]) <;> (try omega) <;> fail))) | ((first | refine zN (cloneNode_c _ h) rfl ?_ ?_ | refine zN (cloneInt_c _ h2) rfl ?_ ?_); (focus ((try simp (disch := omega) only [go_sem, wn]) <;> (try omega) <;> fail))) | (first | ((first | refine zX (cloneNode_c _ h) rfl ?_ ?_ | refine zy (cloneNode_c _ h) ?_ ?_); (focus ((try simp (disch := omega) only [go_sem, wn]) <;> (try omega) <;> fail))) | ((first | refine zX (cloneInt_c _ h2) rfl ?_ ?_ | refine zy (cloneInt_c _ h2) ?_ ?_); (focus ((try simp (disch := omega) only [go_sem, wn]) <;> (try omega) <;> fail)))) | ((first | (with_reducible refine zu ?_ ?_ <;> intro hg) | with_reducible intro hg) <;> (first | (exfalso; simp at hg; done) | (have hg' := hg; (try simp only [hcs, beq_iff_eq, ge_iff_le, gt_iff_lt] at hg'); (try simp only [hg]))))) <;> (try simp (disch := omega) only [go_sem, wn]) <;> (repeat' with_reducible refine And.intro ?_ ?_) <;> (try (with_reducible refine hK _ ?_; clear hK K)))
| omega)
  all_goals (refine aend_out (by first | exact .inl rfl | exact .inr rfl) ?_ ?_; (focus ((try simp (disch := omega) only [go_sem, wn]) <;> fail)); simp (disch := omega) only [go_sem, wn, true_and]; refine AOut.of_simp ?_ (AOut.same ⟨rfl, rfl⟩); refine SImp.frame [2, 3] rfl (by intro k hk; first | (simp at hk <;> (simp; omega)) | (simp only [List.mem_cons, List.not_mem_nil, or_false] at hk; simp only [List.length_cons, List.length_nil]; omega)) (by decide) (fun k hk => by first | omega | (rcases k with _ | _ | _ | _ | _ | _ | _ | _ | k <;> first | rfl | omega)) ?_ ?_ <;> simp (disch := omega) only [go_sem, wn, true_or, or_true, true_and])
def bigN (n : ANode) : Bool := decide (2147483647 < n.stat.cversion)
def bigI (l : List ANode) : Int := if l.any bigN = true then (l.findIdx bigN : Nat) else -1
theorem bigI_yes {l : List ANode} {k : Nat} (h : k < l.length) (h1 : bigN (l.getD k default) = true) (h2 : ∀ j, j < k → bigN (l.getD j default) = false) : bigI l = (k : Nat) := by
  rw [List.getD_eq_getElem?_getD, List.getElem?_eq_getElem h] at h1
  have e : l.findIdx bigN = k := (List.findIdx_eq h).2 ⟨h1, fun j hj => by
    have := h2 j hj
    rwa [List.getD_eq_getElem?_getD, List.getElem?_eq_getElem (by omega)] at this⟩
  unfold bigI
  rw [if_pos (List.any_eq_true.2 ⟨l[k], List.getElem_mem h, h1⟩), e]
theorem bigI_no {l : List ANode} (h2 : ∀ j, j < l.length → bigN (l.getD j default) = false) : l.any bigN = false ∧ bigI l = -1 := by
  have e : l.any bigN = false := by
    rw [List.any_eq_false]
    intro x hx
    obtain ⟨j, hj, rfl⟩ := List.getElem_of_mem hx
    have := h2 j hj
    rw [List.getD_eq_getElem?_getD, List.getElem?_eq_getElem hj] at this
    simpa using this
  exact ⟨e, by unfold bigI; rw [e]; rfl⟩
theorem indexF_c (l : List ANode) (h : l.length * 88 ≤ 140737488351232) : acall Tryd.prog [] 156 [.d (.sl 9 (l.map ANode.row)), .d (.sc (.func (.func 110) #[] #[]))] (ret (I (bigI l))) := by
  refine zi tabOk Tryd.func156 rfl (by kernel_rfl) (by simp [Tryd.ntmps156]) ?_; simp only [Tryd.ntmps156, Tryd.results156, List.toList_toArray, apar, List.length_nil, List.length_cons, Nat.reduceAdd]
  (repeat' first
| (with_reducible refine AR.f ?_)
| refine zb (by decide) ?_
| (with_reducible refine AWP.cond rfl ?_ ?_ <;> intro hc <;> (try simp only [hcs, beq_iff_eq, ge_iff_le, gt_iff_lt] at hc))
| ((first | ((first | (with_reducible first | refine zR ?_ | refine zQ (by decide +kernel) ?_ | refine zD (by decide +kernel) ?_ | refine zE (by decide +kernel) ?_ | refine zG (by decide +kernel) ?_)); intro K hK) | ((first | (with_reducible refine zu ?_ ?_ <;> intro hg) | with_reducible intro hg) <;> (first | (exfalso; simp at hg; done) | (have hg' := hg; (try simp only [hcs, beq_iff_eq, ge_iff_le, gt_iff_lt] at hg'); (try simp only [hg]))))) <;> (try simp (disch := omega) only [go_sem, wn]) <;> (repeat' with_reducible refine And.intro ?_ ?_) <;> (try (with_reducible refine hK _ ?_; clear hK K)))
| omega)
  refine AWP.loopS (ι := Nat) (fun k => k ≤ l.length ∧ ∀ j, j < k → bigN (l.getD j default) = false) (fun k => l.length - k) [0, 1, 7] (fun k => [(8, I k)]) 0 ?_ (by simp (disch := omega) only [go_sem, wn, true_and]) ?_
  · exact ⟨by omega, fun j hj => by omega⟩
  intro k ⟨hk, hk2⟩
  simp only [go_sem]
  (repeat' first
| (with_reducible refine AR.f ?_)
| refine zb (by decide) ?_
| (with_reducible refine AWP.cond rfl ?_ ?_ <;> intro hc <;> (try simp only [hcs, beq_iff_eq, ge_iff_le, gt_iff_lt] at hc))
| (refine zh fun Kk hKk => (zi tabOk Tryd.func110 rfl (by kernel_rfl) (by simp [Tryd.ntmps110]) ?_); simp only [Tryd.ntmps110, Tryd.results110, List.toList_toArray, apar, List.length_nil, List.length_cons, Nat.reduceAdd, List.length_append, List.length_set, go_sem])
| ((first | ((first | (with_reducible first | refine zR ?_ | refine zQ (by decide +kernel) ?_ | refine zD (by decide +kernel) ?_ | refine zE (by decide +kernel) ?_ | refine zG (by decide +kernel) ?_)); intro K hK) | (refine zw (v := ?_) hKk (by first | exact .inl rfl | exact .inr rfl) ?_ ?_ ?_; rotate_left; (focus ((try simp (disch := omega) only [go_sem, wn]) <;> (try omega) <;> fail)); (focus ((try simp (disch := omega) only [go_sem, wn]) <;> (first | done | exact rfl))); clear hKk Kk) | ((first | (with_reducible refine zu ?_ ?_ <;> intro hg) | with_reducible intro hg) <;> (first | (exfalso; simp at hg; done) | (have hg' := hg; (try simp only [hcs, beq_iff_eq, ge_iff_le, gt_iff_lt] at hg'); (try simp only [hg]))))) <;> (try simp (disch := omega) only [go_sem, wn]) <;> (repeat' with_reducible refine And.intro ?_ ?_) <;> (try (with_reducible refine hK _ ?_; clear hK K)))
| omega)
  · rw [bigI_yes (by assumption) (by unfold bigN; rw [decide_eq_true_eq]; exact hc) hk2]
    (refine zF rfl ?_ ?_ ?_ ?_; (iterate 3 (focus ((try simp (disch := omega) only [go_sem, wn]) <;> (try omega) <;> fail))); (try simp (disch := omega) only [go_sem, wn, I, B, S, inj, List.cons.injEq, and_true, true_and, and_self]))
  · refine ⟨k + 1, ⟨by omega, fun j hj => ?_⟩, by omega, ?_⟩
    · by_cases e : j = k
      · subst e; unfold bigN; rw [decide_eq_false_iff_not]; omega
      · exact hk2 j (by omega)
    (refine SImp.frame [] rfl (by intro k hk; first | (simp at hk <;> (simp; omega)) | (simp only [List.mem_cons, List.not_mem_nil, or_false] at hk; simp only [List.length_cons, List.length_nil]; omega)) (by decide) (fun k hk => by first | omega | (rcases k with _ | _ | _ | _ | _ | _ | _ | _ | k <;> first | rfl | omega)) ?_ ?_ <;> simp (disch := omega) only [go_sem, wn, Int.natCast_add, true_and] <;> (try rfl))
  · rw [(bigI_no (fun j hj => hk2 j (by omega))).2]
    (refine zF rfl ?_ ?_ ?_ ?_; (iterate 3 (focus ((try simp (disch := omega) only [go_sem, wn]) <;> (try omega) <;> fail))); (try simp (disch := omega) only [go_sem, wn, I, B, S, inj, List.cons.injEq, and_true, true_and, and_self]))
theorem bigI_iff (l : List ANode) : decide (0 ≤ bigI l) = l.any bigN := by
  unfold bigI; split
  · rename_i h; rw [h, decide_eq_true_eq]; omega
  · rename_i h; rw [show l.any bigN = false from by simpa using h]; rfl
theorem contains_c (l : List ANode) (h : l.length * 88 ≤ 140737488351232) : acall Tryd.prog [] 109 [.d (.sl 9 (l.map ANode.row)), .d (.sc (.func (.func 110) #[] #[]))] (ret (B (l.any bigN))) := by
  rw [← bigI_iff]
  refine zi tabOk Tryd.func109 rfl (by kernel_rfl) (by simp [Tryd.ntmps109]) ?_; simp only [Tryd.ntmps109, Tryd.results109, List.toList_toArray, apar, List.length_nil, List.length_cons, Nat.reduceAdd]
  (repeat' first
| (with_reducible refine AR.f ?_)
| refine zb (by decide) ?_
| (with_reducible refine AWP.cond rfl ?_ ?_ <;> intro hc <;> (try simp only [hcs, beq_iff_eq, ge_iff_le, gt_iff_lt] at hc))
| ((first | ((first | (with_reducible first | refine zR ?_ | refine zQ (by decide +kernel) ?_ | refine zD (by decide +kernel) ?_ | refine zE (by decide +kernel) ?_ | refine zG (by decide +kernel) ?_)); intro K hK) | ((first | refine zA (indexF_c l h) ?_ ?_ ?_ ?_ ?_); (focus exact rfl); (focus exact rfl); iterate 2 (focus ((try simp (disch := omega) only [go_sem, wn]) <;> (try omega) <;> fail))) | ((first | refine zN (indexF_c l h) rfl ?_ ?_); (focus ((try simp (disch := omega) only [go_sem, wn]) <;> (try omega) <;> fail))) | (first | ((first | refine zX (indexF_c l h) rfl ?_ ?_ | refine zy (indexF_c l h) ?_ ?_); (focus ((try simp (disch := omega) only [go_sem, wn]) <;> (try omega) <;> fail)))) | ((first | (with_reducible refine zu ?_ ?_ <;> intro hg) | with_reducible intro hg) <;> (first | (exfalso; simp at hg; done) | (have hg' := hg; (try simp only [hcs, beq_iff_eq, ge_iff_le, gt_iff_lt] at hg'); (try simp only [hg]))))) <;> (try simp (disch := omega) only [go_sem, wn]) <;> (repeat' with_reducible refine And.intro ?_ ?_) <;> (try (with_reducible refine hK _ ?_; clear hK K)))
| omega)
  (refine zF rfl ?_ ?_ ?_ ?_; (iterate 3 (focus ((try simp (disch := omega) only [go_sem, wn]) <;> (try omega) <;> fail))); (try simp (disch := omega) only [go_sem, wn, I, B, S, inj, List.cons.injEq, and_true, true_and, and_self]))
end Go.Proofs.YtmpfhalheaeibaaDoor
namespace Go.Proofs.YtmpfhalheaeibaaDoor
set_option linter.unusedVariables false
set_option linter.unusedSimpArgs false
open Go Go.RowKit
set_option maxRecDepth 100000
set_option linter.unusedSimpArgs false
def pathsN (ns : List ANode) : List (List UInt8) := ns.map ANode.path
def dirP (p : List UInt8) : List UInt8 := (splitP p).1.1
def kidF (more z : Int) (n : ANode) : ANode := ⟨n.path, n.data, ⟨n.stat.czxid, n.stat.mzxid, z, n.stat.version, IntKind.i64.wrap (n.stat.cversion + 1), n.stat.owner, IntKind.i64.wrap (n.stat.kids + more)⟩⟩
def kidN (ns : List ANode) (p : List UInt8) (more z : Int) : List ANode := if dirP p ∈ pathsN ns then ns.set (place (pathsN ns) (dirP p)) (kidF more z (ns.getD (place (pathsN ns) (dirP p)) default)) else ns
def delN (ns : List ANode) (p : List UInt8) (z : Int) : List ANode := kidN (ns.eraseIdx (place (pathsN ns) p)) p (-1) z
def mkN (x : ATxn) : ANode := ⟨x.path, x.data, ⟨x.zxid, x.zxid, x.zxid, 0, 0, x.owner, 0⟩⟩
def addN (ns : List ANode) (x : ATxn) : List ANode := kidN (ns.insertIdx (place (pathsN ns) x.path) (mkN x)) x.path 1 x.zxid
def setF (x : ATxn) (n : ANode) : ANode := ⟨n.path, x.data, ⟨n.stat.czxid, x.zxid, n.stat.pzxid, x.version, n.stat.cversion, n.stat.owner, n.stat.kids⟩⟩
def setN (ns : List ANode) (x : ATxn) : List ANode := ns.set (place (pathsN ns) x.path) (setF x (ns.getD (place (pathsN ns) x.path) default))
def goneE (p : List UInt8) : List AEvent := [⟨2, p⟩, ⟨4, dirP p⟩]
def closeN (t : ATree) (s z : Int) : Nat → List ANode × List AEvent
  | 0 => (t.nodes, [])
  | k + 1 => if (t.nodes.getD k default).stat.owner = s then (delN (closeN t s z k).1 (t.nodes.getD k default).path z, (closeN t s z k).2 ++ goneE (t.nodes.getD k default).path) else closeN t s z k
def doneT (t : ATree) (x : ATxn) : ATree × List AEvent :=
  if x.op = 1 then (⟨x.zxid, t.nodes, t.sessions.insertIdx (placeI t.sessions x.session) x.session⟩, [])
  else if x.op = 2 then (⟨x.zxid, (closeN t x.session x.zxid t.nodes.length).1, t.sessions.eraseIdx (placeI t.sessions x.session)⟩, (closeN t x.session x.zxid t.nodes.length).2)
  else if x.op = 3 then (⟨x.zxid, addN t.nodes x, t.sessions⟩, [⟨1, x.path⟩, ⟨4, dirP x.path⟩])
  else if x.op = 4 then (⟨x.zxid, delN t.nodes x.path x.zxid, t.sessions⟩, goneE x.path)
  else (⟨x.zxid, setN t.nodes x, t.sessions⟩, [⟨3, x.path⟩])
def applyT (t : ATree) (x : ATxn) : ATree × List AEvent × Int :=
  if ¬ wrongT t x = 0 then (default, [], wrongT t x) else if (doneT t x).1.nodes.any bigN = true then (default, [], 6) else ((doneT t x).1, (doneT t x).2, 0)
theorem apply_no {t : ATree} {x : ATxn} (h : ¬ wrongT t x = 0) : applyT t x = (default, [], wrongT t x) := by unfold applyT; rw [if_pos h]
theorem apply_full {t : ATree} {x : ATxn} (h : wrongT t x = 0) (h2 : (doneT t x).1.nodes.any bigN = true) : applyT t x = (default, [], 6) := by unfold applyT; rw [if_neg (fun h' => h' h), if_pos h2]
theorem apply_ok {t : ATree} {x : ATxn} (h : wrongT t x = 0) (h2 : (doneT t x).1.nodes.any bigN = false) : applyT t x = ((doneT t x).1, (doneT t x).2, 0) := by unfold applyT; rw [if_neg (fun h' => h' h), if_neg (by rw [h2]; decide)]
theorem getT_zero {t : ATree} {p : List UInt8} : (getT t p).2 = 0 ↔ p ∈ pathsT t := by
  by_cases h : p ∈ pathsT t
  · unfold getT; rw [if_pos h]; exact ⟨fun _ => h, fun _ => rfl⟩
  · unfold getT; rw [if_neg h]; exact ⟨fun h' => (by cases h'), fun h' => absurd h' h⟩
theorem getT_seven {t : ATree} {p : List UInt8} (h : ¬ p ∈ pathsT t) : (getT t p).2 = 7 := by unfold getT; rw [if_neg h]
theorem wrong_ok {t : ATree} {x : ATxn} (h : wrongT t x = 0) : goodTr t = true ∧ goodT x = 0 ∧ t.zxid < x.zxid ∧ (x.op = 1 → ¬ x.session ∈ t.sessions) ∧ (¬ x.op = 1 → x.session ∈ t.sessions) ∧
    (x.op = 3 → ¬ x.path ∈ pathsT t ∧ dirP x.path ∈ pathsT t ∧ t.nodes.length < 400) ∧ (x.op = 4 → x.path ∈ pathsT t ∧ (getT t x.path).1.stat.kids ≤ 0) ∧ (x.op = 5 → x.path ∈ pathsT t) := by
  unfold wrongT at h
  by_cases a1 : goodTr t = true
  case neg => rw [if_pos (by simpa using a1)] at h; cases h
  rw [if_neg (by simp [a1])] at h
  by_cases a2 : goodT x = 0
  case neg => rw [if_pos a2] at h; exact absurd h a2
  rw [if_neg (fun h => h a2)] at h
  by_cases a3 : x.zxid ≤ t.zxid
  · rw [if_pos a3] at h; cases h
  rw [if_neg a3] at h
  have a5 : ¬ x.op = 1 → x.session ∈ t.sessions := fun o => by
    rw [if_neg o] at h
    by_cases m : x.session ∈ t.sessions
    · exact m
    · rw [if_pos m] at h; cases h
  refine ⟨a1, a2, by omega, fun o => ?_, a5, fun o => ?_, fun o => ?_, fun o => ?_⟩
  · rw [if_pos o] at h
    intro m; rw [if_pos m] at h; cases h
  · rw [if_neg (by omega), if_neg (fun h => h (a5 (by omega))), if_pos o] at h
    unfold lacksT at h
    by_cases q1 : (getT t x.path).2 = 0
    · rw [if_pos q1] at h; cases h
    rw [if_neg q1] at h
    by_cases q2 : (getT t (splitP x.path).1.1).2 = 0
    case neg => rw [if_pos q2] at h; exact absurd h q2
    rw [if_neg (fun h => h q2)] at h
    split at h
    · cases h
    · split at h
      · cases h
      · split at h
        · cases h
        · exact ⟨fun m => q1 (getT_zero.2 m), getT_zero.1 q2, by omega⟩
  · rw [if_neg (by omega), if_neg (fun h => h (a5 (by omega))), if_neg (by omega), if_pos o] at h
    split at h
    · cases h
    · rename_i q; exact ⟨getT_zero.1 h, by omega⟩
  · rw [if_neg (by omega), if_neg (fun h => h (a5 (by omega))), if_neg (by omega), if_neg (by omega), if_pos o] at h
    split at h
    · cases h
    · exact getT_zero.1 h
theorem goodT_nums {x : ATxn} (h : goodT x = 0) : 1 ≤ x.op ∧ x.op ≤ 5 ∧ 1 ≤ x.session ∧ badT x = false := by
  by_cases h1 : x.op < 1 ∨ 5 < x.op
  · rw [goodT_op h1] at h; cases h
  by_cases h2 : numsB x = true
  case neg => rw [goodT_num (by omega) h2] at h; cases h
  by_cases h3 : 256 < x.data.length
  · rw [goodT_long (by omega) h2 h3] at h; cases h
  rw [goodT_ok (by omega) h2 (by omega)] at h
  refine ⟨by omega, by omega, ((numsB_iff x).1 h2).2.1.1, ?_⟩
  cases e : badT x
  · rfl
  · rw [e, if_pos rfl] at h; cases h
theorem goodT_path {x : ATxn} (h : goodT x = 0) (ho : 3 ≤ x.op ∧ x.op ≤ 4) : goodP x.path = true ∧ x.path ≠ [47] := by
  obtain ⟨_, _, _, hb⟩ := goodT_nums h
  unfold badT at hb
  rw [if_neg (by omega)] at hb
  split at hb
  · simp at hb; exact ⟨hb.1, hb.2.1⟩
  · rw [if_pos (by omega)] at hb; simp at hb; exact ⟨hb.1, hb.2.1⟩
theorem kidN_len (ns : List ANode) (p : List UInt8) (m z : Int) : (kidN ns p m z).length = ns.length := by unfold kidN; split <;> simp
theorem mem_ins {l : List (List UInt8)} {i : Nat} {x y : List UInt8} (h : i ≤ l.length) : y ∈ l.insertIdx i x ↔ y = x ∨ y ∈ l := List.mem_insertIdx h
theorem rises_ins {l : List (List UInt8)} {key : List UInt8} (hr : Rises l) (hm : ¬ key ∈ l) : Rises (l.insertIdx (place l key) key) := by
  have hp := place_le l key
  have lo : ∀ j, j < place l key → l.getD j [] < key := fun j hj => by
    have := List.not_of_lt_findIdx (p := fun x => !decide (x < key)) (xs := l) hj
    rw [List.getD_eq_getElem?_getD, List.getElem?_eq_getElem (by omega)]
    simpa using this
  have hi : ∀ j, place l key ≤ j → j < l.length → key < l.getD j [] := fun j h1 h2 => by
    have a : ¬ l.getD (place l key) [] < key := by
      have := List.findIdx_getElem (p := fun x => !decide (x < key)) (xs := l) (w := (by unfold place at h1; omega))
      rw [Bool.not_eq_true', decide_eq_false_iff_not] at this
      rw [List.getD_eq_getElem?_getD, List.getElem?_eq_getElem (by omega)]
      exact this
    have b : key < l.getD (place l key) [] := lt_of_not a fun e => hm (by rw [← e]; exact mem_getD _ _ (by omega))
    by_cases e : place l key = j
    · rw [← e]; exact b
    · exact List.lt_trans b (rises_lt hr (by omega) h2)
  generalize place l key = p at *
  intro k hk
  rw [ins_len _ _ _ hp] at hk
  have gt (q : Nat) (hq : p < q) : (l.insertIdx p key).getD q [] = l.getD (q - 1) [] := by
    rw [ins_eq _ _ _ hp, List.getD_eq_getElem?_getD, List.getElem?_append_right (by rw [List.length_take]; omega), List.length_take, Nat.min_eq_left hp, show q - p = (q - p - 1) + 1 from by omega, List.getElem?_cons_succ, List.getElem?_drop, List.getD_eq_getElem?_getD]
    congr 2; omega
  rcases Nat.lt_trichotomy (k + 1) p with h | h | h
  · rw [ins_get_lt _ _ _ _ _ hp (by omega), ins_get_lt _ _ _ _ _ hp (by omega)]; exact hr k (by omega)
  · subst h
    rw [ins_get_lt _ _ _ _ _ hp (by omega), getD_ins _ _ _ _ hp]; exact lo k (by omega)
  · rw [gt _ h, Nat.add_sub_cancel]
    by_cases e : k = p
    · subst e; rw [getD_ins _ _ _ _ hp]; exact hi _ (Nat.le_refl _) (by omega)
    · rw [gt _ (by omega)]
      have := hr (k - 1) (by omega)
      rwa [show k - 1 + 1 = k from by omega] at this
theorem rises_erase {l : List (List UInt8)} (hr : Rises l) (i : Nat) : Rises (l.eraseIdx i) := by
  by_cases h : i < l.length
  · intro k hk
    rw [erase_len _ _ h] at hk
    have g (q : Nat) : (l.eraseIdx i).getD q [] = if q < i then l.getD q [] else l.getD (q + 1) [] := by
      rw [List.getD_eq_getElem?_getD, List.getElem?_eraseIdx]; split <;> rw [List.getD_eq_getElem?_getD]
    rw [g, g]
    split <;> split
    · exact hr k (by omega)
    · exact rises_lt hr (by omega) (by omega)
    · omega
    · exact hr (k + 1) (by omega)
  · rw [List.eraseIdx_of_length_le (by omega)]; exact hr
theorem pathsN_ins (ns : List ANode) (i : Nat) (n : ANode) : pathsN (ns.insertIdx i n) = (pathsN ns).insertIdx i n.path := by unfold pathsN; exact (ins_map ANode.path ns i n).symm
theorem pathsN_erase (ns : List ANode) (i : Nat) : pathsN (ns.eraseIdx i) = (pathsN ns).eraseIdx i := by unfold pathsN; exact (zr ANode.path ns i).symm
theorem pathsN_set (ns : List ANode) (i : Nat) (n : ANode) (h : n.path = (ns.getD i default).path) : pathsN (ns.set i n) = pathsN ns := by
  unfold pathsN
  apply List.ext_getElem?
  intro j
  rw [List.getElem?_map, List.getElem?_map, List.getElem?_set]
  split
  · rename_i e; subst e
    split
    · rename_i h2; rw [List.getD_eq_getElem?_getD, List.getElem?_eq_getElem h2] at h; rw [List.getElem?_eq_getElem h2]; simp [h]
    · rename_i h2; rw [List.getElem?_eq_none (by omega)]
  · rfl
theorem pathsN_kid (ns : List ANode) (p : List UInt8) (m z : Int) : pathsN (kidN ns p m z) = pathsN ns := by
  unfold kidN; split
  · exact pathsN_set _ _ _ rfl
  · rfl
theorem pathsN_len (ns : List ANode) : (pathsN ns).length = ns.length := by unfold pathsN; simp
theorem dir_ne {s : List UInt8} (hg : goodP s = true) (h : s ≠ [47]) : dirP s ≠ s := by
  rcases good_cases hg with e | ⟨ps, p, h1, h2, h3, _⟩
  · exact absurd e h
  · unfold dirP
    rw [h2, split_snoc h1 h3]
    intro e
    have := congrArg stepsOf e
    rw [steps_pathOf h1, steps_pathOf (fun q hq => h1 q (List.mem_append.2 (.inl hq)))] at this
    have := congrArg List.length this
    simp at this
theorem mem_erase {l : List (List UInt8)} {i : Nat} {y : List UInt8} (h : y ∈ l) (hy : l.getD i [] ≠ y) : y ∈ l.eraseIdx i := by
  by_cases hi : i < l.length
  · rw [erase_eq, List.mem_append]
    have : l = l.take i ++ l.getD i [] :: l.drop (i + 1) := by
      rw [List.getD_eq_getElem?_getD, List.getElem?_eq_getElem hi]; simp
    rw [this, List.mem_append, List.mem_cons] at h
    rcases h with h | h | h
    · exact .inl h
    · exact absurd h.symm hy
    · exact .inr h
  · rw [List.eraseIdx_of_length_le (by omega)]; exact h
theorem dir_mem {t : ATree} (hg : goodTr t = true) {p : List UInt8} (hm : p ∈ pathsT t) (h : p ≠ [47]) : dirP p ∈ pathsT t ∧ dirP p ≠ p := by
  have hr := good_rises hg
  have hpl := (zc hr hm).1
  have hpe := (zc hr hm).2
  rw [pathsT_len] at hpl
  rw [pathsT_get] at hpe
  obtain ⟨_, _, a, b⟩ := goodTr_iff.1 hg
  have hgp := (a _ hpl).1
  rw [hpe] at hgp
  refine ⟨?_, dir_ne hgp h⟩
  rcases (b _ hpl).2.2.1 with e | e
  · rw [e, (good_root hg).2.2.1] at hpe; exact absurd hpe.symm h
  · unfold dirT at e; rw [hpe] at e; exact e
theorem findN_c (z : Int) (ns : List ANode) (ss : List Int) (key : List UInt8) (h : ns.length * 88 ≤ 140737488351232) (hr : Rises (pathsN ns)) : acall Tryd.prog [] 92 [.agg [I z, .d (.sl 9 (ns.map ANode.row)), .d (.sl 1 (ss.map irow))], S key] (ret (.tup [I (place (pathsN ns) key), B (decide (key ∈ pathsN ns))])) :=
  findT_c ⟨z, ns, ss⟩ key h hr
theorem placeI_lt {l : List Int} {key : Int} (hr : RisesI l) (h : key ∈ l) : placeI l key < l.length := by
  obtain ⟨k, hk, e⟩ := (mem_iff_getD l default key).1 h
  have : placeI l key = k := placeI_eq (by omega) (fun j hj => by rw [← e]; exact risesI_lt hr hj hk) (fun _ => by rw [e]; omega)
  omega
theorem sess_lo {l : List Int} (h : ∀ k, k < l.length → sessOk l k) : ∀ k, k < l.length → ((k : Nat) : Int) + 1 ≤ l.getD k default
  | 0, hk => by have := (h 0 hk).1; omega
  | k + 1, hk => by
    have a := sess_lo h k (by omega)
    have b := (h (k + 1) hk).2.2 (by omega)
    rw [Nat.add_sub_cancel] at b; omega
theorem sess_len {t : ATree} (hg : goodTr t = true) : t.sessions.length ≤ 2147483647 := by
  have h := (goodTr_iff.1 hg).2.1
  rcases Nat.eq_zero_or_pos t.sessions.length with e | e
  · omega
  · have a := sess_lo h (t.sessions.length - 1) (by omega)
    have b := (h (t.sessions.length - 1) (by omega)).2.1
    omega
set_option maxHeartbeats 8000000 in
theorem apply3_c (t : ATree) (x : ATxn) (hw : t.wf) (hp : okS x.path) (hd : okS x.data) (h0 : wrongT t x = 0) (o3 : x.op = 3) : acall Tryd.prog [] 51 [t.av, x.av] (ret (.tup [(applyT t x).1.av, .d (.sl 2 ((applyT t x).2.1.map AEvent.row)), I (applyT t x).2.2])) := by
  have hwc := wrong_c t x hw hp hd
  obtain ⟨g1, g2, g3, g4, g5, g6, g7, g8⟩ := wrong_ok h0
  obtain ⟨h1, h2⟩ : t.nodes.length * 88 ≤ 140737488351232 ∧ t.sessions.length * 8 ≤ 140737488351232 := ⟨hw.2.1.1, hw.2.2.1⟩
  have hcp := copiedT_c t h1 h2
  have h400 : t.nodes.length ≤ 400 := (good_root g1).2.1
  rw [h0] at hwc
  have hr : Rises (pathsN t.nodes) := good_rises g1
  obtain ⟨m1, m2, hlt⟩ := g6 o3
  have hf1 := findN_c x.zxid t.nodes t.sessions x.path h1 hr
  have hpl : place (pathsN t.nodes) x.path ≤ (t.nodes.map ANode.row).length := by have := place_le (pathsN t.nodes) x.path; rw [pathsN_len] at this; rw [List.length_map]; exact this
  have hpl2 : place (pathsN t.nodes) x.path ≤ t.nodes.length := by rw [List.length_map] at hpl; exact hpl
  have hdone : (doneT t x) = (⟨x.zxid, addN t.nodes x, t.sessions⟩, [⟨1, x.path⟩, ⟨4, dirP x.path⟩]) := by unfold doneT; rw [if_neg (by omega), if_neg (by omega), if_pos o3]
  generalize hN : t.nodes.insertIdx (place (pathsN t.nodes) x.path) (⟨x.path, x.data, ⟨x.zxid, x.zxid, x.zxid, 0, 0, x.owner, 0⟩⟩ : ANode) = ns1
  have hN' : t.nodes.insertIdx (place (pathsN t.nodes) x.path) (mkN x) = ns1 := hN
  have hl1 : ns1.length = t.nodes.length + 1 := by rw [← hN, ins_len _ _ _ hpl2]
  have hp1 : pathsN ns1 = (pathsN t.nodes).insertIdx (place (pathsN t.nodes) x.path) x.path := by rw [← hN, pathsN_ins]
  have hr1 : Rises (pathsN ns1) := by rw [hp1]; exact rises_ins hr m1
  have hm1 : dirP x.path ∈ pathsN ns1 := by rw [hp1, mem_ins (by rw [pathsN_len]; exact hpl2)]; exact .inr m2
  have hq := (zc hr1 hm1).1
  rw [pathsN_len] at hq
  have hadd : addN t.nodes x = ns1.set (place (pathsN ns1) (dirP x.path)) (kidF 1 x.zxid (ns1.getD (place (pathsN ns1) (dirP x.path)) default)) := by unfold addN kidN; rw [hN', if_pos hm1]
  have hf2 := (findN_c x.zxid ns1 t.sessions (dirP x.path) (by omega) hr1).re (by rw [decide_eq_true hm1])
  rw [hadd] at hdone
  generalize hn2 : ns1.set (place (pathsN ns1) (dirP x.path)) (kidF 1 x.zxid (ns1.getD (place (pathsN ns1) (dirP x.path)) default)) = ns2 at hdone
  have hl2 : ns2.length = t.nodes.length + 1 := by rw [← hn2, List.length_set, hl1]
  have hcc := contains_c ns2 (by omega)
  unfold kidF at hn2
  have e1 : (splitP x.path).1.1 = dirP x.path := rfl
  have tk1 : List.take (t.nodes.length + 1) (ns1.map ANode.row) = ns1.map ANode.row := List.take_of_length_le (by rw [List.length_map]; omega)
  have tk2 : List.take (t.nodes.length + 1) (ns2.map ANode.row) = ns2.map ANode.row := List.take_of_length_le (by rw [List.length_map]; omega)
  refine zi tabOk Tryd.func51 rfl (by kernel_rfl) (by simp [Tryd.ntmps51]) ?_; simp only [Tryd.ntmps51, Tryd.results51, List.toList_toArray, apar, List.length_nil, List.length_cons, Nat.reduceAdd]
  (repeat' first
| (with_reducible refine AR.f ?_)
| refine zb (by decide) ?_
| (with_reducible refine AWP.cond rfl ?_ ?_ <;> intro hc <;> (try simp only [hcs, beq_iff_eq, ge_iff_le, gt_iff_lt] at hc))
| (refine zh fun Kk hKk => (zi tabOk Tryd.func108 rfl (by kernel_rfl) (by simp [Tryd.ntmps108]) ?_); simp only [Tryd.ntmps108, Tryd.results108, List.toList_toArray, apar, List.length_nil, List.length_cons, Nat.reduceAdd, List.length_append, List.length_set, go_sem])
| (refine zh fun Kk hKk => (zi tabOk Tryd.func154 rfl (by kernel_rfl) (by simp [Tryd.ntmps154]) ?_); simp only [Tryd.ntmps154, Tryd.results154, List.toList_toArray, apar, List.length_nil, List.length_cons, Nat.reduceAdd, List.length_append, List.length_set, go_sem])
| ((first | ((first | refine zP ((Plan.takes [0, 1, 2, 3, 4, 6, 7, 8, 9, 10, 11, 12, 13, 14, 15, 16, 17, 18, 19, 20] (.fork 5 (Plan.takes [21, 22, 23, 24, 25, 26] .done) 21 (Plan.takes [5, 22, 23, 24, 25, 26] .done)))) (by decide +kernel) ?_ | refine zP ((Plan.takes [0, 1, 2, 3, 5, 6, 7] (.fork 4 (Plan.takes [8, 9, 10, 11, 12] .done) 8 (Plan.takes [4, 9, 10, 11, 12] .done)))) (by decide +kernel) ?_ | refine zP ((Plan.takes [0, 1, 2, 3, 4, 5, 6] (.fork 7 (Plan.takes [8, 9, 10] .done) 8 (Plan.takes [7, 9, 10] .done)))) (by decide +kernel) ?_ | (with_reducible first | refine zR ?_ | refine zQ (by decide +kernel) ?_ | refine zD (by decide +kernel) ?_ | refine zE (by decide +kernel) ?_ | refine zG (by decide +kernel) ?_)); intro K hK) | ((first | refine zA hwc ?_ ?_ ?_ ?_ ?_ | refine zA hcp ?_ ?_ ?_ ?_ ?_ | refine zA hf1 ?_ ?_ ?_ ?_ ?_ | refine zA hf2 ?_ ?_ ?_ ?_ ?_ | refine zA hcc ?_ ?_ ?_ ?_ ?_ | refine zA (split_c x.path hp) ?_ ?_ ?_ ?_ ?_); (focus exact rfl); (focus exact rfl); iterate 2 (focus ((try simp (disch := omega) only [go_sem, wn, o3, ANode.rins, hN, hl1, e1, hn2, hl2, tk1, tk2, ANode.rgetD, zg, ANode.rset, zm, List.set_set]) <;> (try omega) <;> fail))) | ((first | refine zN hwc rfl ?_ ?_ | refine zN hcp rfl ?_ ?_ | refine zN hf1 rfl ?_ ?_ | refine zN hf2 rfl ?_ ?_ | refine zN hcc rfl ?_ ?_ | refine zN (split_c x.path hp) rfl ?_ ?_); (focus ((try simp (disch := omega) only [go_sem, wn, o3, ANode.rins, hN, hl1, e1, hn2, hl2, tk1, tk2, ANode.rgetD, zg, ANode.rset, zm, List.set_set]) <;> (try omega) <;> fail))) | (first | ((first | refine zX hwc rfl ?_ ?_ | refine zy hwc ?_ ?_); (focus ((try simp (disch := omega) only [go_sem, wn, o3, ANode.rins, hN, hl1, e1, hn2, hl2, tk1, tk2, ANode.rgetD, zg, ANode.rset, zm, List.set_set]) <;> (try omega) <;> fail))) | ((first | refine zX hcp rfl ?_ ?_ | refine zy hcp ?_ ?_); (focus ((try simp (disch := omega) only [go_sem, wn, o3, ANode.rins, hN, hl1, e1, hn2, hl2, tk1, tk2, ANode.rgetD, zg, ANode.rset, zm, List.set_set]) <;> (try omega) <;> fail))) | ((first | refine zX hf1 rfl ?_ ?_ | refine zy hf1 ?_ ?_); (focus ((try simp (disch := omega) only [go_sem, wn, o3, ANode.rins, hN, hl1, e1, hn2, hl2, tk1, tk2, ANode.rgetD, zg, ANode.rset, zm, List.set_set]) <;> (try omega) <;> fail))) | ((first | refine zX hf2 rfl ?_ ?_ | refine zy hf2 ?_ ?_); (focus ((try simp (disch := omega) only [go_sem, wn, o3, ANode.rins, hN, hl1, e1, hn2, hl2, tk1, tk2, ANode.rgetD, zg, ANode.rset, zm, List.set_set]) <;> (try omega) <;> fail))) | ((first | refine zX hcc rfl ?_ ?_ | refine zy hcc ?_ ?_); (focus ((try simp (disch := omega) only [go_sem, wn, o3, ANode.rins, hN, hl1, e1, hn2, hl2, tk1, tk2, ANode.rgetD, zg, ANode.rset, zm, List.set_set]) <;> (try omega) <;> fail))) | ((first | refine zX (split_c x.path hp) rfl ?_ ?_ | refine zy (split_c x.path hp) ?_ ?_); (focus ((try simp (disch := omega) only [go_sem, wn, o3, ANode.rins, hN, hl1, e1, hn2, hl2, tk1, tk2, ANode.rgetD, zg, ANode.rset, zm, List.set_set]) <;> (try omega) <;> fail)))) | (refine acallH_own (insNode_c (t.nodes.map ANode.row) [.str x.path, .str x.data, .int .i64 x.zxid, .int .i64 x.zxid, .int .i64 x.zxid, .int .i64 0, .int .i64 0, .int .i64 x.owner, .int .i64 0] (place (pathsN t.nodes) x.path) hpl (by rw [List.length_map]; omega)) ?_ ?_ ?_; (focus ((try simp (disch := omega) only [inj, List.cons.injEq, and_self, List.nodup_cons, List.not_mem_nil, List.mem_cons, not_false_eq_true, List.nodup_nil, go_sem, wn, o3, ANode.rins, hN, hl1, e1, hn2, hl2, tk1, tk2, ANode.rgetD, zg, ANode.rset, zm, List.set_set]) <;> (try omega) <;> fail)); (focus ((try simp (disch := omega) only [inj, List.cons.injEq, and_self, List.nodup_cons, List.not_mem_nil, List.mem_cons, not_false_eq_true, List.nodup_nil, go_sem, wn, o3, ANode.rins, hN, hl1, e1, hn2, hl2, tk1, tk2, ANode.rgetD, zg, ANode.rset, zm, List.set_set]) <;> (try omega) <;> (try decide) <;> fail))) | (refine zw (v := ?_) hKk (by first | exact .inl rfl | exact .inr rfl) ?_ ?_ ?_; rotate_left; (focus ((try simp (disch := omega) only [go_sem, wn, o3, ANode.rins, hN, hl1, e1, hn2, hl2, tk1, tk2, ANode.rgetD, zg, ANode.rset, zm, List.set_set]) <;> (try omega) <;> fail)); (focus ((try simp (disch := omega) only [go_sem, wn, o3, ANode.rins, hN, hl1, e1, hn2, hl2, tk1, tk2, ANode.rgetD, zg, ANode.rset, zm, List.set_set]) <;> (first | done | exact rfl))); clear hKk Kk) | ((first | (with_reducible refine zu ?_ ?_ <;> intro hg) | with_reducible intro hg) <;> (first | (exfalso; simp at hg; done) | (have hg' := hg; (try simp only [hcs, beq_iff_eq, ge_iff_le, gt_iff_lt] at hg'); (try simp only [hg]))))) <;> (try simp (disch := omega) only [go_sem, wn, o3, ANode.rins, hN, hl1, e1, hn2, hl2, tk1, tk2, ANode.rgetD, zg, ANode.rset, zm, List.set_set]) <;> (repeat' with_reducible refine And.intro ?_ ?_) <;> (try (with_reducible refine hK _ ?_; clear hK K)))
| omega)
  all_goals first
    | (rw [apply_full h0 (by rw [hdone]; exact hc)]; (refine zF rfl ?_ ?_ ?_ ?_; (iterate 3 (focus ((try simp (disch := omega) only [go_sem, wn, default]) <;> (try omega) <;> fail))); (try simp (disch := omega) only [go_sem, wn, default, I, B, S, inj, List.cons.injEq, and_true, true_and, and_self])); done)
    | (rw [apply_ok h0 (by rw [hdone]; exact hc), hdone]; (refine zF rfl ?_ ?_ ?_ ?_; (iterate 3 (focus ((try simp (disch := omega) only [go_sem, wn, tk2]) <;> (try omega) <;> fail))); (try simp (disch := omega) only [go_sem, wn, tk2, I, B, S, inj, List.cons.injEq, and_true, true_and, and_self])); done)
set_option maxHeartbeats 8000000 in
theorem apply4_c (t : ATree) (x : ATxn) (hw : t.wf) (hp : okS x.path) (hd : okS x.data) (h0 : wrongT t x = 0) (o4 : x.op = 4) : acall Tryd.prog [] 51 [t.av, x.av] (ret (.tup [(applyT t x).1.av, .d (.sl 2 ((applyT t x).2.1.map AEvent.row)), I (applyT t x).2.2])) := by
  have hwc := wrong_c t x hw hp hd
  obtain ⟨g1, g2, g3, g4, g5, g6, g7, g8⟩ := wrong_ok h0
  obtain ⟨h1, h2⟩ : t.nodes.length * 88 ≤ 140737488351232 ∧ t.sessions.length * 8 ≤ 140737488351232 := ⟨hw.2.1.1, hw.2.2.1⟩
  have hcp := copiedT_c t h1 h2
  have h400 : t.nodes.length ≤ 400 := (good_root g1).2.1
  rw [h0] at hwc
  have hr : Rises (pathsN t.nodes) := good_rises g1
  obtain ⟨m1, _⟩ := g7 o4
  have hnr : x.path ≠ [47] := (goodT_path g2 (by omega)).2
  obtain ⟨m2, m3⟩ := dir_mem g1 m1 hnr
  have hf1 := (findN_c x.zxid t.nodes t.sessions x.path h1 hr).re (by rw [decide_eq_true (show x.path ∈ pathsN t.nodes from m1)])
  have hpf := zc hr m1
  have hpl : place (pathsN t.nodes) x.path < (t.nodes.map ANode.row).length := by have := hpf.1; rw [List.length_map]; rwa [pathsN_len] at this
  have hpl2 : place (pathsN t.nodes) x.path < t.nodes.length := by rw [List.length_map] at hpl; exact hpl
  have hdone : (doneT t x) = (⟨x.zxid, delN t.nodes x.path x.zxid, t.sessions⟩, goneE x.path) := by unfold doneT; rw [if_neg (by omega), if_neg (by omega), if_neg (by omega), if_pos o4]
  generalize hN : t.nodes.eraseIdx (place (pathsN t.nodes) x.path) = ns1
  have hl1 : ns1.length = t.nodes.length - 1 := by rw [← hN, erase_len _ _ hpl2]
  have hp1 : pathsN ns1 = (pathsN t.nodes).eraseIdx (place (pathsN t.nodes) x.path) := by rw [← hN, pathsN_erase]
  have hr1 : Rises (pathsN ns1) := by rw [hp1]; exact rises_erase hr _
  have hm1 : dirP x.path ∈ pathsN ns1 := by rw [hp1]; exact mem_erase m2 (by rw [hpf.2]; exact m3.symm)
  have hq := (zc hr1 hm1).1
  rw [pathsN_len] at hq
  have hadd : delN t.nodes x.path x.zxid = ns1.set (place (pathsN ns1) (dirP x.path)) (kidF (-1) x.zxid (ns1.getD (place (pathsN ns1) (dirP x.path)) default)) := by unfold delN kidN; rw [hN, if_pos hm1]
  have hf2 := (findN_c x.zxid ns1 t.sessions (dirP x.path) (by omega) hr1).re (by rw [decide_eq_true hm1])
  rw [hadd] at hdone
  generalize hn2 : ns1.set (place (pathsN ns1) (dirP x.path)) (kidF (-1) x.zxid (ns1.getD (place (pathsN ns1) (dirP x.path)) default)) = ns2 at hdone
  have hl2 : ns2.length = t.nodes.length - 1 := by rw [← hn2, List.length_set, hl1]
  have hcc := contains_c ns2 (by omega)
  unfold kidF at hn2
  have e1 : (splitP x.path).1.1 = dirP x.path := rfl
  have tk1 : List.take (t.nodes.length - 1) (ns1.map ANode.row) = ns1.map ANode.row := List.take_of_length_le (by rw [List.length_map]; omega)
  have tk2 : List.take (t.nodes.length - 1) (ns2.map ANode.row) = ns2.map ANode.row := List.take_of_length_le (by rw [List.length_map]; omega)
  refine zi tabOk Tryd.func51 rfl (by kernel_rfl) (by simp [Tryd.ntmps51]) ?_; simp only [Tryd.ntmps51, Tryd.results51, List.toList_toArray, apar, List.length_nil, List.length_cons, Nat.reduceAdd]
  (repeat' first
| (with_reducible refine AR.f ?_)
| refine zb (by decide) ?_
| (with_reducible refine AWP.cond rfl ?_ ?_ <;> intro hc <;> (try simp only [hcs, beq_iff_eq, ge_iff_le, gt_iff_lt] at hc))
| (refine zh fun Kk hKk => (zi tabOk Tryd.func107 rfl (by kernel_rfl) (by simp [Tryd.ntmps107]) ?_); simp only [Tryd.ntmps107, Tryd.results107, List.toList_toArray, apar, List.length_nil, List.length_cons, Nat.reduceAdd, List.length_append, List.length_set, go_sem])
| (refine zh fun Kk hKk => (zi tabOk Tryd.func154 rfl (by kernel_rfl) (by simp [Tryd.ntmps154]) ?_); simp only [Tryd.ntmps154, Tryd.results154, List.toList_toArray, apar, List.length_nil, List.length_cons, Nat.reduceAdd, List.length_append, List.length_set, go_sem])
| ((first | ((first | refine zP ((Plan.takes [0, 1, 2, 3, 4, 5, 6] (.fork 7 (Plan.takes [8, 9, 10] .done) 8 (Plan.takes [7, 9, 10] .done)))) (by decide +kernel) ?_ | (with_reducible first | refine zR ?_ | refine zQ (by decide +kernel) ?_ | refine zD (by decide +kernel) ?_ | refine zE (by decide +kernel) ?_ | refine zG (by decide +kernel) ?_)); intro K hK) | ((first | refine zA hwc ?_ ?_ ?_ ?_ ?_ | refine zA hcp ?_ ?_ ?_ ?_ ?_ | refine zA hf1 ?_ ?_ ?_ ?_ ?_ | refine zA hf2 ?_ ?_ ?_ ?_ ?_ | refine zA hcc ?_ ?_ ?_ ?_ ?_ | refine zA (split_c x.path hp) ?_ ?_ ?_ ?_ ?_); (focus exact rfl); (focus exact rfl); iterate 2 (focus ((try simp (disch := omega) only [go_sem, wn, o4, zr, hN, hl1, e1, hn2, hl2, tk1, tk2, ANode.rgetD, zg, ANode.rset, zm, List.set_set]) <;> (try omega) <;> fail))) | ((first | refine zN hwc rfl ?_ ?_ | refine zN hcp rfl ?_ ?_ | refine zN hf1 rfl ?_ ?_ | refine zN hf2 rfl ?_ ?_ | refine zN hcc rfl ?_ ?_ | refine zN (split_c x.path hp) rfl ?_ ?_); (focus ((try simp (disch := omega) only [go_sem, wn, o4, zr, hN, hl1, e1, hn2, hl2, tk1, tk2, ANode.rgetD, zg, ANode.rset, zm, List.set_set]) <;> (try omega) <;> fail))) | (first | ((first | refine zX hwc rfl ?_ ?_ | refine zy hwc ?_ ?_); (focus ((try simp (disch := omega) only [go_sem, wn, o4, zr, hN, hl1, e1, hn2, hl2, tk1, tk2, ANode.rgetD, zg, ANode.rset, zm, List.set_set]) <;> (try omega) <;> fail))) | ((first | refine zX hcp rfl ?_ ?_ | refine zy hcp ?_ ?_); (focus ((try simp (disch := omega) only [go_sem, wn, o4, zr, hN, hl1, e1, hn2, hl2, tk1, tk2, ANode.rgetD, zg, ANode.rset, zm, List.set_set]) <;> (try omega) <;> fail))) | ((first | refine zX hf1 rfl ?_ ?_ | refine zy hf1 ?_ ?_); (focus ((try simp (disch := omega) only [go_sem, wn, o4, zr, hN, hl1, e1, hn2, hl2, tk1, tk2, ANode.rgetD, zg, ANode.rset, zm, List.set_set]) <;> (try omega) <;> fail))) | ((first | refine zX hf2 rfl ?_ ?_ | refine zy hf2 ?_ ?_); (focus ((try simp (disch := omega) only [go_sem, wn, o4, zr, hN, hl1, e1, hn2, hl2, tk1, tk2, ANode.rgetD, zg, ANode.rset, zm, List.set_set]) <;> (try omega) <;> fail))) | ((first | refine zX hcc rfl ?_ ?_ | refine zy hcc ?_ ?_); (focus ((try simp (disch := omega) only [go_sem, wn, o4, zr, hN, hl1, e1, hn2, hl2, tk1, tk2, ANode.rgetD, zg, ANode.rset, zm, List.set_set]) <;> (try omega) <;> fail))) | ((first | refine zX (split_c x.path hp) rfl ?_ ?_ | refine zy (split_c x.path hp) ?_ ?_); (focus ((try simp (disch := omega) only [go_sem, wn, o4, zr, hN, hl1, e1, hn2, hl2, tk1, tk2, ANode.rgetD, zg, ANode.rset, zm, List.set_set]) <;> (try omega) <;> fail)))) | (refine acallH_own (delNode_c (t.nodes.map ANode.row) (place (pathsN t.nodes) x.path) hpl (by rw [List.length_map]; omega)) ?_ ?_ ?_; (focus ((try simp (disch := omega) only [inj, List.cons.injEq, and_self, List.nodup_cons, List.not_mem_nil, List.mem_cons, not_false_eq_true, List.nodup_nil, go_sem, wn, o4, zr, hN, hl1, e1, hn2, hl2, tk1, tk2, ANode.rgetD, zg, ANode.rset, zm, List.set_set]) <;> (try omega) <;> fail)); (focus ((try simp (disch := omega) only [inj, List.cons.injEq, and_self, List.nodup_cons, List.not_mem_nil, List.mem_cons, not_false_eq_true, List.nodup_nil, go_sem, wn, o4, zr, hN, hl1, e1, hn2, hl2, tk1, tk2, ANode.rgetD, zg, ANode.rset, zm, List.set_set]) <;> (try omega) <;> (try decide) <;> fail))) | (refine zw (v := ?_) hKk (by first | exact .inl rfl | exact .inr rfl) ?_ ?_ ?_; rotate_left; (focus ((try simp (disch := omega) only [go_sem, wn, o4, zr, hN, hl1, e1, hn2, hl2, tk1, tk2, ANode.rgetD, zg, ANode.rset, zm, List.set_set]) <;> (try omega) <;> fail)); (focus ((try simp (disch := omega) only [go_sem, wn, o4, zr, hN, hl1, e1, hn2, hl2, tk1, tk2, ANode.rgetD, zg, ANode.rset, zm, List.set_set]) <;> (first | done | exact rfl))); clear hKk Kk) | ((first | (with_reducible refine zu ?_ ?_ <;> intro hg) | with_reducible intro hg) <;> (first | (exfalso; simp at hg; done) | (have hg' := hg; (try simp only [hcs, beq_iff_eq, ge_iff_le, gt_iff_lt] at hg'); (try simp only [hg]))))) <;> (try simp (disch := omega) only [go_sem, wn, o4, zr, hN, hl1, e1, hn2, hl2, tk1, tk2, ANode.rgetD, zg, ANode.rset, zm, List.set_set]) <;> (repeat' with_reducible refine And.intro ?_ ?_) <;> (try (with_reducible refine hK _ ?_; clear hK K)))
| omega)
  all_goals first
    | (rw [apply_full h0 (by rw [hdone]; exact hc)]; (refine zF rfl ?_ ?_ ?_ ?_; (iterate 3 (focus ((try simp (disch := omega) only [go_sem, wn, default]) <;> (try omega) <;> fail))); (try simp (disch := omega) only [go_sem, wn, default, I, B, S, inj, List.cons.injEq, and_true, true_and, and_self])); done)
    | (rw [apply_ok h0 (by rw [hdone]; exact hc), hdone]; (refine zF rfl ?_ ?_ ?_ ?_; (iterate 3 (focus ((try simp (disch := omega) only [go_sem, wn, tk2, goneE]) <;> (try omega) <;> fail))); (try simp (disch := omega) only [go_sem, wn, tk2, goneE, I, B, S, inj, List.cons.injEq, and_true, true_and, and_self])); done)
set_option maxHeartbeats 8000000 in
theorem apply5_c (t : ATree) (x : ATxn) (hw : t.wf) (hp : okS x.path) (hd : okS x.data) (h0 : wrongT t x = 0) (o5 : x.op = 5) : acall Tryd.prog [] 51 [t.av, x.av] (ret (.tup [(applyT t x).1.av, .d (.sl 2 ((applyT t x).2.1.map AEvent.row)), I (applyT t x).2.2])) := by
  have hwc := wrong_c t x hw hp hd
  obtain ⟨g1, g2, g3, g4, g5, g6, g7, g8⟩ := wrong_ok h0
  obtain ⟨h1, h2⟩ : t.nodes.length * 88 ≤ 140737488351232 ∧ t.sessions.length * 8 ≤ 140737488351232 := ⟨hw.2.1.1, hw.2.2.1⟩
  have hcp := copiedT_c t h1 h2
  have h400 : t.nodes.length ≤ 400 := (good_root g1).2.1
  rw [h0] at hwc
  have hr : Rises (pathsN t.nodes) := good_rises g1
  have m1 := g8 o5
  have hf1 := (findN_c x.zxid t.nodes t.sessions x.path h1 hr).re (by rw [decide_eq_true (show x.path ∈ pathsN t.nodes from m1)])
  have hq := (zc hr m1).1
  rw [pathsN_len] at hq
  have hdone : (doneT t x) = (⟨x.zxid, setN t.nodes x, t.sessions⟩, [⟨3, x.path⟩]) := by unfold doneT; rw [if_neg (by omega), if_neg (by omega), if_neg (by omega), if_neg (by omega)]
  have hadd : setN t.nodes x = t.nodes.set (place (pathsN t.nodes) x.path) (setF x (t.nodes.getD (place (pathsN t.nodes) x.path) default)) := rfl
  rw [hadd] at hdone
  generalize hn2 : t.nodes.set (place (pathsN t.nodes) x.path) (setF x (t.nodes.getD (place (pathsN t.nodes) x.path) default)) = ns2 at hdone
  have hl2 : ns2.length = t.nodes.length := by rw [← hn2, List.length_set]
  have hcc := contains_c ns2 (by omega)
  unfold setF at hn2
  have tk2 : List.take t.nodes.length (ns2.map ANode.row) = ns2.map ANode.row := List.take_of_length_le (by rw [List.length_map]; omega)
  refine zi tabOk Tryd.func51 rfl (by kernel_rfl) (by simp [Tryd.ntmps51]) ?_; simp only [Tryd.ntmps51, Tryd.results51, List.toList_toArray, apar, List.length_nil, List.length_cons, Nat.reduceAdd]
  (repeat' first
| (with_reducible refine AR.f ?_)
| refine zb (by decide) ?_
| (with_reducible refine AWP.cond rfl ?_ ?_ <;> intro hc <;> (try simp only [hcs, beq_iff_eq, ge_iff_le, gt_iff_lt] at hc))
| ((first | ((first | refine zP ((Plan.takes [0, 1, 2, 3, 4, 5, 6, 7, 8, 9, 10] .done)) (by decide +kernel) ?_ | refine zP ((Plan.takes [0, 1, 2, 3, 4, 5, 6, 7, 8, 9, 10, 11, 12, 13, 14, 16, 17, 18] (.fork 15 (Plan.takes [19, 20, 21, 22, 23] .done) 19 (Plan.takes [15, 20, 21, 22, 23] .done)))) (by decide +kernel) ?_ | refine zP ((Plan.takes [0, 1, 2, 3, 5, 6, 7] (.fork 4 (Plan.takes [8, 9, 10, 11, 12] .done) 8 (Plan.takes [4, 9, 10, 11, 12] .done)))) (by decide +kernel) ?_ | refine zP ((Plan.takes [0, 1, 2, 3, 4, 5, 6] (.fork 7 (Plan.takes [8, 9, 10] .done) 8 (Plan.takes [7, 9, 10] .done)))) (by decide +kernel) ?_ | (with_reducible first | refine zR ?_ | refine zQ (by decide +kernel) ?_ | refine zD (by decide +kernel) ?_ | refine zE (by decide +kernel) ?_ | refine zG (by decide +kernel) ?_)); intro K hK) | ((first | refine zA hwc ?_ ?_ ?_ ?_ ?_ | refine zA hcp ?_ ?_ ?_ ?_ ?_ | refine zA hf1 ?_ ?_ ?_ ?_ ?_ | refine zA hcc ?_ ?_ ?_ ?_ ?_); (focus exact rfl); (focus exact rfl); iterate 2 (focus ((try simp (disch := omega) only [go_sem, wn, o5, hn2, hl2, tk2, ANode.rgetD, zg, ANode.rset, zm, List.set_set]) <;> (try omega) <;> fail))) | ((first | refine zN hwc rfl ?_ ?_ | refine zN hcp rfl ?_ ?_ | refine zN hf1 rfl ?_ ?_ | refine zN hcc rfl ?_ ?_); (focus ((try simp (disch := omega) only [go_sem, wn, o5, hn2, hl2, tk2, ANode.rgetD, zg, ANode.rset, zm, List.set_set]) <;> (try omega) <;> fail))) | (first | ((first | refine zX hwc rfl ?_ ?_ | refine zy hwc ?_ ?_); (focus ((try simp (disch := omega) only [go_sem, wn, o5, hn2, hl2, tk2, ANode.rgetD, zg, ANode.rset, zm, List.set_set]) <;> (try omega) <;> fail))) | ((first | refine zX hcp rfl ?_ ?_ | refine zy hcp ?_ ?_); (focus ((try simp (disch := omega) only [go_sem, wn, o5, hn2, hl2, tk2, ANode.rgetD, zg, ANode.rset, zm, List.set_set]) <;> (try omega) <;> fail))) | ((first | refine zX hf1 rfl ?_ ?_ | refine zy hf1 ?_ ?_); (focus ((try simp (disch := omega) only [go_sem, wn, o5, hn2, hl2, tk2, ANode.rgetD, zg, ANode.rset, zm, List.set_set]) <;> (try omega) <;> fail))) | ((first | refine zX hcc rfl ?_ ?_ | refine zy hcc ?_ ?_); (focus ((try simp (disch := omega) only [go_sem, wn, o5, hn2, hl2, tk2, ANode.rgetD, zg, ANode.rset, zm, List.set_set]) <;> (try omega) <;> fail)))) | ((first | (with_reducible refine zu ?_ ?_ <;> intro hg) | with_reducible intro hg) <;> (first | (exfalso; simp at hg; done) | (have hg' := hg; (try simp only [hcs, beq_iff_eq, ge_iff_le, gt_iff_lt] at hg'); (try simp only [hg]))))) <;> (try simp (disch := omega) only [go_sem, wn, o5, hn2, hl2, tk2, ANode.rgetD, zg, ANode.rset, zm, List.set_set]) <;> (repeat' with_reducible refine And.intro ?_ ?_) <;> (try (with_reducible refine hK _ ?_; clear hK K)))
| omega)
  all_goals first
    | (rw [apply_full h0 (by rw [hdone]; exact hc)]; (refine zF rfl ?_ ?_ ?_ ?_; (iterate 3 (focus ((try simp (disch := omega) only [go_sem, wn, default]) <;> (try omega) <;> fail))); (try simp (disch := omega) only [go_sem, wn, default, I, B, S, inj, List.cons.injEq, and_true, true_and, and_self])); done)
    | (rw [apply_ok h0 (by rw [hdone]; exact hc), hdone]; (refine zF rfl ?_ ?_ ?_ ?_; (iterate 3 (focus ((try simp (disch := omega) only [go_sem, wn, tk2]) <;> (try omega) <;> fail))); (try simp (disch := omega) only [go_sem, wn, tk2, I, B, S, inj, List.cons.injEq, and_true, true_and, and_self])); done)
set_option maxHeartbeats 8000000 in
theorem apply1_c (t : ATree) (x : ATxn) (hw : t.wf) (hp : okS x.path) (hd : okS x.data) (h0 : wrongT t x = 0) (o1 : x.op = 1) : acall Tryd.prog [] 51 [t.av, x.av] (ret (.tup [(applyT t x).1.av, .d (.sl 2 ((applyT t x).2.1.map AEvent.row)), I (applyT t x).2.2])) := by
  have hwc := wrong_c t x hw hp hd
  obtain ⟨g1, g2, g3, g4, g5, g6, g7, g8⟩ := wrong_ok h0
  obtain ⟨h1, h2⟩ : t.nodes.length * 88 ≤ 140737488351232 ∧ t.sessions.length * 8 ≤ 140737488351232 := ⟨hw.2.1.1, hw.2.2.1⟩
  have hcp := copiedT_c t h1 h2
  have h400 : t.nodes.length ≤ 400 := (good_root g1).2.1
  rw [h0] at hwc
  have hri : RisesI t.sessions := good_sess g1
  have hss : t.sessions.length ≤ 2147483647 := sess_len g1
  have hb1 := bsInt_c t.sessions x.session h2 hri
  have hpl : placeI t.sessions x.session ≤ (t.sessions.map irow).length := by rw [List.length_map]; exact List.findIdx_le_length
  have hpl2 : placeI t.sessions x.session ≤ t.sessions.length := List.findIdx_le_length
  have hdone : (doneT t x) = (⟨x.zxid, t.nodes, t.sessions.insertIdx (placeI t.sessions x.session) x.session⟩, []) := by unfold doneT; rw [if_pos o1]
  generalize hN : t.sessions.insertIdx (placeI t.sessions x.session) x.session = ss1 at hdone
  have hl1 : ss1.length = t.sessions.length + 1 := by rw [← hN, ins_len _ _ _ hpl2]
  have hri1 : (t.sessions.map irow).insertIdx (placeI t.sessions x.session) [DV.int .i64 x.session] = ss1.map irow := by rw [← hN]; exact ins_map irow t.sessions _ x.session
  have tk2 : List.take (t.sessions.length + 1) (ss1.map irow) = ss1.map irow := List.take_of_length_le (by rw [List.length_map]; omega)
  have hcc := contains_c t.nodes h1
  refine zi tabOk Tryd.func51 rfl (by kernel_rfl) (by simp [Tryd.ntmps51]) ?_; simp only [Tryd.ntmps51, Tryd.results51, List.toList_toArray, apar, List.length_nil, List.length_cons, Nat.reduceAdd]
  (repeat' first
| (with_reducible refine AR.f ?_)
| refine zb (by decide) ?_
| (with_reducible refine AWP.cond rfl ?_ ?_ <;> intro hc <;> (try simp only [hcs, beq_iff_eq, ge_iff_le, gt_iff_lt] at hc))
| ((first | ((first | refine zP ((Plan.takes [0, 1, 2, 3, 4, 6, 7, 8] (.fork 5 (Plan.takes [9, 10, 11, 12, 13, 14] .done) 9 (Plan.takes [5, 10, 11, 12, 13, 14] .done)))) (by decide +kernel) ?_ | refine zP ((Plan.takes [0, 1, 2, 3, 4, 5, 6] (.fork 7 (Plan.takes [8, 9, 10] .done) 8 (Plan.takes [7, 9, 10] .done)))) (by decide +kernel) ?_ | (with_reducible first | refine zR ?_ | refine zQ (by decide +kernel) ?_ | refine zD (by decide +kernel) ?_ | refine zE (by decide +kernel) ?_ | refine zG (by decide +kernel) ?_)); intro K hK) | ((first | refine zA hwc ?_ ?_ ?_ ?_ ?_ | refine zA hcp ?_ ?_ ?_ ?_ ?_ | refine zA hb1 ?_ ?_ ?_ ?_ ?_ | refine zA hcc ?_ ?_ ?_ ?_ ?_); (focus exact rfl); (focus exact rfl); iterate 2 (focus ((try simp (disch := omega) only [go_sem, wn, o1, hri1, hl1, tk2]) <;> (try omega) <;> fail))) | ((first | refine zN hwc rfl ?_ ?_ | refine zN hcp rfl ?_ ?_ | refine zN hb1 rfl ?_ ?_ | refine zN hcc rfl ?_ ?_); (focus ((try simp (disch := omega) only [go_sem, wn, o1, hri1, hl1, tk2]) <;> (try omega) <;> fail))) | (first | ((first | refine zX hwc rfl ?_ ?_ | refine zy hwc ?_ ?_); (focus ((try simp (disch := omega) only [go_sem, wn, o1, hri1, hl1, tk2]) <;> (try omega) <;> fail))) | ((first | refine zX hcp rfl ?_ ?_ | refine zy hcp ?_ ?_); (focus ((try simp (disch := omega) only [go_sem, wn, o1, hri1, hl1, tk2]) <;> (try omega) <;> fail))) | ((first | refine zX hb1 rfl ?_ ?_ | refine zy hb1 ?_ ?_); (focus ((try simp (disch := omega) only [go_sem, wn, o1, hri1, hl1, tk2]) <;> (try omega) <;> fail))) | ((first | refine zX hcc rfl ?_ ?_ | refine zy hcc ?_ ?_); (focus ((try simp (disch := omega) only [go_sem, wn, o1, hri1, hl1, tk2]) <;> (try omega) <;> fail)))) | (refine acallH_own (insInt_c (t.sessions.map irow) [.int .i64 x.session] (placeI t.sessions x.session) hpl (by rw [List.length_map]; omega)) ?_ ?_ ?_; (focus ((try simp (disch := omega) only [inj, List.cons.injEq, and_self, List.nodup_cons, List.not_mem_nil, List.mem_cons, not_false_eq_true, List.nodup_nil, go_sem, wn, o1, hri1, hl1, tk2]) <;> (try omega) <;> fail)); (focus ((try simp (disch := omega) only [inj, List.cons.injEq, and_self, List.nodup_cons, List.not_mem_nil, List.mem_cons, not_false_eq_true, List.nodup_nil, go_sem, wn, o1, hri1, hl1, tk2]) <;> (try omega) <;> (try decide) <;> fail))) | ((first | (with_reducible refine zu ?_ ?_ <;> intro hg) | with_reducible intro hg) <;> (first | (exfalso; simp at hg; done) | (have hg' := hg; (try simp only [hcs, beq_iff_eq, ge_iff_le, gt_iff_lt] at hg'); (try simp only [hg]))))) <;> (try simp (disch := omega) only [go_sem, wn, o1, hri1, hl1, tk2]) <;> (repeat' with_reducible refine And.intro ?_ ?_) <;> (try (with_reducible refine hK _ ?_; clear hK K)))
| omega)
  all_goals first
    | (rw [apply_full h0 (by rw [hdone]; exact hc)]; (refine zF rfl ?_ ?_ ?_ ?_; (iterate 3 (focus ((try simp (disch := omega) only [go_sem, wn, default]) <;> (try omega) <;> fail))); (try simp (disch := omega) only [go_sem, wn, default, I, B, S, inj, List.cons.injEq, and_true, true_and, and_self])); done)
    | (rw [apply_ok h0 (by rw [hdone]; exact hc), hdone]; (refine zF rfl ?_ ?_ ?_ ?_; (iterate 3 (focus ((try simp (disch := omega) only [go_sem, wn, tk2]) <;> (try omega) <;> fail))); (try simp (disch := omega) only [go_sem, wn, tk2, I, B, S, inj, List.cons.injEq, and_true, true_and, and_self])); done)
end Go.Proofs.YtmpfhalheaeibaaDoor
namespace Go.Proofs.YtmpfhalheaeibaaDoor
set_option linter.unusedVariables false
set_option linter.unusedSimpArgs false
open Go Go.RowKit
set_option maxRecDepth 100000
set_option linter.unusedSimpArgs false
theorem kids_none {t : ATree} {p : List UInt8} {n : Nat} (h : kidsN t p n = 0) {j : Nat} (hj : j < n) : dirT t j ≠ p := by
  unfold kidsN at h
  rw [List.length_eq_zero_iff, List.filter_eq_nil_iff] at h
  have := h j (List.mem_range.2 hj)
  simpa using this
structure CloseOk (t : ATree) (s : Int) (k : Nat) (ns : List ANode) (es : List AEvent) : Prop where
  rises : Rises (pathsN ns)
  rest : ∀ j, k ≤ j → j < t.nodes.length → (nd t j).path ∈ pathsN ns
  dirs : ∀ j, j < t.nodes.length → (nd t j).stat.owner = s → dirP (nd t j).path ∈ pathsN ns
  len : ns.length ≤ t.nodes.length
  elen : es.length ≤ 2 * k
theorem close_one {t : ATree} {s z : Int} (hg : goodTr t = true) (hs : 1 ≤ s) {k : Nat} (hk : k < t.nodes.length) (ho : (nd t k).stat.owner = s) : goodP (nd t k).path = true ∧ dirP (nd t k).path ∈ pathsT t ∧ dirP (nd t k).path ≠ (nd t k).path ∧ ∀ j, j < t.nodes.length → dirP (nd t j).path ≠ (nd t k).path := by
  obtain ⟨hh, _, hA, hB⟩ := goodTr_iff.1 hg
  have hmem : (nd t k).path ∈ pathsT t := by rw [← pathsT_get]; exact mem_getD _ _ (by rw [pathsT_len]; exact hk)
  have hnr : (nd t k).path ≠ [47] := fun e => by
    have h0 : k = 0 := by
      apply Classical.byContradiction; intro hk0
      have := first_lt (t := t) (i := k) (fun j hj => hA j (by omega)) (by omega)
      rw [hh.2.2.1, e] at this; exact List.lt_irrefl _ this
    subst h0; rw [hh.2.2.2.1] at ho; omega
  obtain ⟨a, b⟩ := dir_mem hg hmem hnr
  refine ⟨(hA k hk).1, a, b, fun j hj => ?_⟩
  obtain ⟨_, c, _, d⟩ := hB k hk
  have hz := (c (by omega)).2
  rw [hz] at d
  exact kids_none (by omega) hj
theorem close_ok {t : ATree} {s z : Int} (hg : goodTr t = true) (hs : 1 ≤ s) : ∀ k, k ≤ t.nodes.length → CloseOk t s k (closeN t s z k).1 (closeN t s z k).2
  | 0, _ => ⟨good_rises hg, fun j _ hj => by show (nd t j).path ∈ pathsT t; rw [← pathsT_get]; exact mem_getD _ _ (by rw [pathsT_len]; exact hj), fun j hj ho => (close_one (z := z) hg hs hj ho).2.1, Nat.le_refl _, Nat.le_refl _⟩
  | k + 1, h => by
    have ih := close_ok (z := z) hg hs k (by omega)
    unfold closeN
    by_cases ho : (t.nodes.getD k default).stat.owner = s
    · rw [if_pos ho]
      have hm := ih.rest k (Nat.le_refl _) (by omega)
      have hpf := zc ih.rises hm
      obtain ⟨_, _, _, hne⟩ := close_one (z := z) hg hs (k := k) (by omega) ho
      have hp : pathsN (delN (closeN t s z k).1 (t.nodes.getD k default).path z) = (pathsN (closeN t s z k).1).eraseIdx (place (pathsN (closeN t s z k).1) (nd t k).path) := by
        unfold delN; rw [pathsN_kid, pathsN_erase]; rfl
      refine ⟨by rw [hp]; exact rises_erase ih.rises _, fun j hj hj2 => ?_, fun j hj hjo => ?_, ?_, ?_⟩
      · rw [hp]
        refine mem_erase (ih.rest j (by omega) hj2) ?_
        rw [hpf.2]
        have := rises_lt (good_rises hg) (i := k) (j := j) (by omega) (by rw [pathsT_len]; exact hj2)
        rw [pathsT_get, pathsT_get] at this
        intro e; rw [e] at this; exact List.lt_irrefl _ this
      · rw [hp]
        refine mem_erase (ih.dirs j hj hjo) ?_
        rw [hpf.2]; exact (hne j hj).symm
      · have hl := hpf.1
        rw [pathsN_len] at hl
        show (delN _ _ _).length ≤ _
        unfold delN
        rw [kidN_len]
        have := erase_len _ _ hl
        unfold nd at this
        rw [this]
        have := ih.len; omega
      · show ((closeN t s z k).2 ++ goneE _).length ≤ _
        rw [List.length_append]; have := ih.elen
        unfold goneE; simp only [List.length_cons, List.length_nil]; omega
    · rw [if_neg ho]
      exact ⟨ih.rises, fun j hj hj2 => ih.rest j (by omega) hj2, ih.dirs, ih.len, by have := ih.elen; omega⟩
set_option maxHeartbeats 8000000 in
theorem apply2_c (t : ATree) (x : ATxn) (hw : t.wf) (hp : okS x.path) (hd : okS x.data) (h0 : wrongT t x = 0) (o2 : x.op = 2) : acall Tryd.prog [] 51 [t.av, x.av] (ret (.tup [(applyT t x).1.av, .d (.sl 2 ((applyT t x).2.1.map AEvent.row)), I (applyT t x).2.2])) := by
  have hwc := wrong_c t x hw hp hd
  obtain ⟨g1, g2, g3, g4, g5, g6, g7, g8⟩ := wrong_ok h0
  obtain ⟨h1, h2⟩ : t.nodes.length * 88 ≤ 140737488351232 ∧ t.sessions.length * 8 ≤ 140737488351232 := ⟨hw.2.1.1, hw.2.2.1⟩
  have hcp := copiedT_c t h1 h2
  have h400 : t.nodes.length ≤ 400 := (good_root g1).2.1
  rw [h0] at hwc
  have hri : RisesI t.sessions := good_sess g1
  have ms := g5 (by omega)
  have hb1 := (bsInt_c t.sessions x.session h2 hri).re (by rw [decide_eq_true ms])
  have hpl : placeI t.sessions x.session < (t.sessions.map irow).length := by rw [List.length_map]; exact placeI_lt hri ms
  have hpl2 : placeI t.sessions x.session < t.sessions.length := by rw [List.length_map] at hpl; exact hpl
  have hdone : (doneT t x) = (⟨x.zxid, (closeN t x.session x.zxid t.nodes.length).1, t.sessions.eraseIdx (placeI t.sessions x.session)⟩, (closeN t x.session x.zxid t.nodes.length).2) := by unfold doneT; rw [if_neg (by omega), if_pos o2]
  generalize hN : t.sessions.eraseIdx (placeI t.sessions x.session) = ss1 at hdone
  have hl1 : ss1.length = t.sessions.length - 1 := by rw [← hN, erase_len _ _ hpl2]
  refine zi tabOk Tryd.func51 rfl (by kernel_rfl) (by simp [Tryd.ntmps51]) ?_; simp only [Tryd.ntmps51, Tryd.results51, List.toList_toArray, apar, List.length_nil, List.length_cons, Nat.reduceAdd]
  (repeat' first
| (with_reducible refine AR.f ?_)
| refine zb (by decide) ?_
| (with_reducible refine AWP.cond rfl ?_ ?_ <;> intro hc <;> (try simp only [hcs, beq_iff_eq, ge_iff_le, gt_iff_lt] at hc))
| ((first | ((first | (with_reducible first | refine zR ?_ | refine zQ (by decide +kernel) ?_ | refine zD (by decide +kernel) ?_ | refine zE (by decide +kernel) ?_ | refine zG (by decide +kernel) ?_)); intro K hK) | ((first | refine zA hwc ?_ ?_ ?_ ?_ ?_ | refine zA hcp ?_ ?_ ?_ ?_ ?_ | refine zA hb1 ?_ ?_ ?_ ?_ ?_); (focus exact rfl); (focus exact rfl); iterate 2 (focus ((try simp (disch := omega) only [go_sem, wn, o2, zr, hN, hl1]) <;> (try omega) <;> fail))) | ((first | refine zN hwc rfl ?_ ?_ | refine zN hcp rfl ?_ ?_ | refine zN hb1 rfl ?_ ?_); (focus ((try simp (disch := omega) only [go_sem, wn, o2, zr, hN, hl1]) <;> (try omega) <;> fail))) | (first | ((first | refine zX hwc rfl ?_ ?_ | refine zy hwc ?_ ?_); (focus ((try simp (disch := omega) only [go_sem, wn, o2, zr, hN, hl1]) <;> (try omega) <;> fail))) | ((first | refine zX hcp rfl ?_ ?_ | refine zy hcp ?_ ?_); (focus ((try simp (disch := omega) only [go_sem, wn, o2, zr, hN, hl1]) <;> (try omega) <;> fail))) | ((first | refine zX hb1 rfl ?_ ?_ | refine zy hb1 ?_ ?_); (focus ((try simp (disch := omega) only [go_sem, wn, o2, zr, hN, hl1]) <;> (try omega) <;> fail)))) | (refine acallH_own (delInt_c (t.sessions.map irow) (placeI t.sessions x.session) hpl (by rw [List.length_map]; omega)) ?_ ?_ ?_; (focus ((try simp (disch := omega) only [inj, List.cons.injEq, and_self, List.nodup_cons, List.not_mem_nil, List.mem_cons, not_false_eq_true, List.nodup_nil, go_sem, wn, o2, zr, hN, hl1]) <;> (try omega) <;> fail)); (focus ((try simp (disch := omega) only [inj, List.cons.injEq, and_self, List.nodup_cons, List.not_mem_nil, List.mem_cons, not_false_eq_true, List.nodup_nil, go_sem, wn, o2, zr, hN, hl1]) <;> (try omega) <;> (try decide) <;> fail))) | ((first | (with_reducible refine zu ?_ ?_ <;> intro hg) | with_reducible intro hg) <;> (first | (exfalso; simp at hg; done) | (have hg' := hg; (try simp only [hcs, beq_iff_eq, ge_iff_le, gt_iff_lt] at hg'); (try simp only [hg]))))) <;> (try simp (disch := omega) only [go_sem, wn, o2, zr, hN, hl1]) <;> (repeat' with_reducible refine And.intro ?_ ?_) <;> (try (with_reducible refine hK _ ?_; clear hK K)))
| omega)
  refine AWP.weaken (SImp.nilOwnC 5 3 2 rfl rfl) ?_
  simp only [go_sem]
  refine AWP.loopB (ι := Nat) (fun k => k ≤ t.nodes.length) (fun k => t.nodes.length - k) [3, 4, 8, 90, 91] (fun k => [(92, I k)]) (fun k => [.cells [.d (.int .i64 t.zxid), .d (.sl 9 (t.nodes.map ANode.row)), .d (.sl 1 (t.sessions.map irow))], .cells [I x.zxid, I 2, I x.session, S x.path, S x.data, I x.version, I x.owner], .cells [I 0, .d (.sc (.slice none 0 0)), .d (.sc (.slice none 0 0))], .rows 9 ((closeN t x.session x.zxid k).1.map ANode.row), .dead, .cells [I x.zxid, .osl 3 9 0 (closeN t x.session x.zxid k).1.length, .osl 6 1 0 (t.sessions.length - 1), .osl 7 2 0 (closeN t x.session x.zxid k).2.length], .rows 1 (ss1.map irow), .rows 2 ((closeN t x.session x.zxid k).2.map AEvent.row)]) 0 ?_ ?_ ?_
  · omega
  · simp only [go_sem, closeN]; (refine SImp.same ?_; simp (disch := omega) only [go_sem, wn, Int.natCast_add])
  intro k hk
  have ci := close_ok (z := x.zxid) g1 (goodT_nums g2).2.2.1 k hk
  have hnext : closeN t x.session x.zxid (k + 1) = if (t.nodes.getD k default).stat.owner = x.session then (delN (closeN t x.session x.zxid k).1 (t.nodes.getD k default).path x.zxid, (closeN t x.session x.zxid k).2 ++ goneE (t.nodes.getD k default).path) else closeN t x.session x.zxid k := rfl
  simp only [go_sem]
  by_cases hkk : k < t.nodes.length
  case neg =>
    obtain rfl : k = t.nodes.length := by omega
    generalize closeN t x.session x.zxid t.nodes.length = cl at ci hdone
    obtain ⟨ns, es⟩ := cl
    have hcc := contains_c ns (by have := ci.len; simp only at this; omega)
    have tks : List.take (t.sessions.length - 1) (ss1.map irow) = ss1.map irow := List.take_of_length_le (by rw [List.length_map]; omega)
    (repeat' first
  | (with_reducible refine AR.f ?_)
  | refine zb (by decide) ?_
  | (with_reducible refine AWP.cond rfl ?_ ?_ <;> intro hc <;> (try simp only [hcs, beq_iff_eq, ge_iff_le, gt_iff_lt] at hc))
  | ((first | ((first | refine zP ((Plan.takes [0, 1, 2, 3, 4, 5, 6] (.fork 7 (Plan.takes [8, 9, 10] .done) 8 (Plan.takes [7, 9, 10] .done)))) (by decide +kernel) ?_ | (with_reducible first | refine zR ?_ | refine zQ (by decide +kernel) ?_ | refine zD (by decide +kernel) ?_ | refine zE (by decide +kernel) ?_ | refine zG (by decide +kernel) ?_)); intro K hK) | ((first | refine zA hcc ?_ ?_ ?_ ?_ ?_); (focus exact rfl); (focus exact rfl); iterate 2 (focus ((try simp (disch := omega) only [go_sem, wn]) <;> (try omega) <;> fail))) | ((first | refine zN hcc rfl ?_ ?_); (focus ((try simp (disch := omega) only [go_sem, wn]) <;> (try omega) <;> fail))) | (first | ((first | refine zX hcc rfl ?_ ?_ | refine zy hcc ?_ ?_); (focus ((try simp (disch := omega) only [go_sem, wn]) <;> (try omega) <;> fail)))) | ((first | (with_reducible refine zu ?_ ?_ <;> intro hg) | with_reducible intro hg) <;> (first | (exfalso; simp at hg; done) | (have hg' := hg; (try simp only [hcs, beq_iff_eq, ge_iff_le, gt_iff_lt] at hg'); (try simp only [hg]))))) <;> (try simp (disch := omega) only [go_sem, wn]) <;> (repeat' with_reducible refine And.intro ?_ ?_) <;> (try (with_reducible refine hK _ ?_; clear hK K)))
  | omega)
    all_goals first
      | (rw [apply_full h0 (by rw [hdone]; exact hc)]; (refine zF rfl ?_ ?_ ?_ ?_; (iterate 3 (focus ((try simp (disch := omega) only [go_sem, wn, default]) <;> (try omega) <;> fail))); (try simp (disch := omega) only [go_sem, wn, default, I, B, S, inj, List.cons.injEq, and_true, true_and, and_self])); done)
      | (rw [apply_ok h0 (by rw [hdone]; exact hc), hdone]; (refine zF rfl ?_ ?_ ?_ ?_; (iterate 3 (focus ((try simp (disch := omega) only [go_sem, wn, tks, I, S]) <;> (try omega) <;> fail))); (try simp (disch := omega) only [go_sem, wn, tks, I, S, I, B, S, inj, List.cons.injEq, and_true, true_and, and_self])); done)
  by_cases how : (t.nodes.getD k default).stat.owner = x.session
  · rw [if_pos how] at hnext
    have hone := close_one (z := x.zxid) g1 (goodT_nums g2).2.2.1 hkk how
    have hokp := (node_okS hw k).1
    have hm := ci.rest k (Nat.le_refl _) hkk
    have hdir := ci.dirs k hkk how
    have hr := ci.rises
    have hlen := ci.len
    have helen := ci.elen
    clear ci
    unfold nd at hone hm hdir
    generalize closeN t x.session x.zxid k = cl at hnext hm hdir hr hlen helen
    obtain ⟨ns, es⟩ := cl
    simp only at hnext hm hdir hr hlen helen
    generalize hpp : (t.nodes.getD k default).path = p at hnext hm hdir hone hokp
    have hf1 := (findN_c x.zxid ns ss1 p (by omega) hr).re (by rw [decide_eq_true hm])
    have hpf := zc hr hm
    have hdpl : place (pathsN ns) p < (ns.map ANode.row).length := by have := hpf.1; rw [List.length_map]; rwa [pathsN_len] at this
    have hdpl2 : place (pathsN ns) p < ns.length := by rw [List.length_map] at hdpl; exact hdpl
    generalize hM : ns.eraseIdx (place (pathsN ns) p) = ns1
    have hlm : ns1.length = ns.length - 1 := by rw [← hM, erase_len _ _ hdpl2]
    have hp1 : pathsN ns1 = (pathsN ns).eraseIdx (place (pathsN ns) p) := by rw [← hM, pathsN_erase]
    have hr1 : Rises (pathsN ns1) := by rw [hp1]; exact rises_erase hr _
    have hm1 : dirP p ∈ pathsN ns1 := by rw [hp1]; exact mem_erase hdir (by rw [hpf.2]; exact hone.2.2.1.symm)
    have hq := (zc hr1 hm1).1
    rw [pathsN_len] at hq
    have hadd : delN ns p x.zxid = ns1.set (place (pathsN ns1) (dirP p)) (kidF (-1) x.zxid (ns1.getD (place (pathsN ns1) (dirP p)) default)) := by unfold delN kidN; rw [hM, if_pos hm1]
    have hf2 := (findN_c x.zxid ns1 ss1 (dirP p) (by omega) hr1).re (by rw [decide_eq_true hm1])
    rw [hadd] at hnext
    generalize hn2 : ns1.set (place (pathsN ns1) (dirP p)) (kidF (-1) x.zxid (ns1.getD (place (pathsN ns1) (dirP p)) default)) = ns2 at hnext
    have hl2 : ns2.length = ns.length - 1 := by rw [← hn2, List.length_set, hlm]
    unfold kidF at hn2
    have e1 : (splitP p).1.1 = dirP p := rfl
    have tk1 : List.take (ns.length - 1) (ns1.map ANode.row) = ns1.map ANode.row := List.take_of_length_le (by rw [List.length_map]; omega)
    have tks : List.take (t.sessions.length - 1) (ss1.map irow) = ss1.map irow := List.take_of_length_le (by rw [List.length_map]; omega)
    (repeat' first
  | (with_reducible refine AR.f ?_)
  | refine zb (by decide) ?_
  | (with_reducible refine AWP.cond rfl ?_ ?_ <;> intro hc <;> (try simp only [hcs, beq_iff_eq, ge_iff_le, gt_iff_lt] at hc))
  | (refine zh fun Kk hKk => (zi tabOk Tryd.func107 rfl (by kernel_rfl) (by simp [Tryd.ntmps107]) ?_); simp only [Tryd.ntmps107, Tryd.results107, List.toList_toArray, apar, List.length_nil, List.length_cons, Nat.reduceAdd, List.length_append, List.length_set, go_sem])
  | (refine zh fun Kk hKk => (zi tabOk Tryd.func154 rfl (by kernel_rfl) (by simp [Tryd.ntmps154]) ?_); simp only [Tryd.ntmps154, Tryd.results154, List.toList_toArray, apar, List.length_nil, List.length_cons, Nat.reduceAdd, List.length_append, List.length_set, go_sem])
  | ((first | ((first | (with_reducible first | refine zR ?_ | refine zQ (by decide +kernel) ?_ | refine zD (by decide +kernel) ?_ | refine zE (by decide +kernel) ?_ | refine zG (by decide +kernel) ?_)); intro K hK) | ((first | refine zA hf1 ?_ ?_ ?_ ?_ ?_ | refine zA hf2 ?_ ?_ ?_ ?_ ?_ | refine zA (split_c p hokp) ?_ ?_ ?_ ?_ ?_); (focus exact rfl); (focus exact rfl); iterate 2 (focus ((try simp (disch := omega) only [go_sem, wn, how, hpp, zr, hM, hlm, e1, hn2, hl2, tk1, tks, ANode.rgetD, zg, ANode.rset, zm, List.set_set, AEvent.rsnoc, zl, zo]) <;> (try omega) <;> fail))) | ((first | refine zN hf1 rfl ?_ ?_ | refine zN hf2 rfl ?_ ?_ | refine zN (split_c p hokp) rfl ?_ ?_); (focus ((try simp (disch := omega) only [go_sem, wn, how, hpp, zr, hM, hlm, e1, hn2, hl2, tk1, tks, ANode.rgetD, zg, ANode.rset, zm, List.set_set, AEvent.rsnoc, zl, zo]) <;> (try omega) <;> fail))) | (first | ((first | refine zX hf1 rfl ?_ ?_ | refine zy hf1 ?_ ?_); (focus ((try simp (disch := omega) only [go_sem, wn, how, hpp, zr, hM, hlm, e1, hn2, hl2, tk1, tks, ANode.rgetD, zg, ANode.rset, zm, List.set_set, AEvent.rsnoc, zl, zo]) <;> (try omega) <;> fail))) | ((first | refine zX hf2 rfl ?_ ?_ | refine zy hf2 ?_ ?_); (focus ((try simp (disch := omega) only [go_sem, wn, how, hpp, zr, hM, hlm, e1, hn2, hl2, tk1, tks, ANode.rgetD, zg, ANode.rset, zm, List.set_set, AEvent.rsnoc, zl, zo]) <;> (try omega) <;> fail))) | ((first | refine zX (split_c p hokp) rfl ?_ ?_ | refine zy (split_c p hokp) ?_ ?_); (focus ((try simp (disch := omega) only [go_sem, wn, how, hpp, zr, hM, hlm, e1, hn2, hl2, tk1, tks, ANode.rgetD, zg, ANode.rset, zm, List.set_set, AEvent.rsnoc, zl, zo]) <;> (try omega) <;> fail)))) | (refine acallH_own (delNode_c (ns.map ANode.row) (place (pathsN ns) p) hdpl (by rw [List.length_map]; omega)) ?_ ?_ ?_; (focus ((try simp (disch := omega) only [inj, List.cons.injEq, and_self, List.nodup_cons, List.not_mem_nil, List.mem_cons, not_false_eq_true, List.nodup_nil, go_sem, wn, how, hpp, zr, hM, hlm, e1, hn2, hl2, tk1, tks, ANode.rgetD, zg, ANode.rset, zm, List.set_set, AEvent.rsnoc, zl, zo]) <;> (try omega) <;> fail)); (focus ((try simp (disch := omega) only [inj, List.cons.injEq, and_self, List.nodup_cons, List.not_mem_nil, List.mem_cons, not_false_eq_true, List.nodup_nil, go_sem, wn, how, hpp, zr, hM, hlm, e1, hn2, hl2, tk1, tks, ANode.rgetD, zg, ANode.rset, zm, List.set_set, AEvent.rsnoc, zl, zo]) <;> (try omega) <;> (try decide) <;> fail))) | (refine zw (v := ?_) hKk (by first | exact .inl rfl | exact .inr rfl) ?_ ?_ ?_; rotate_left; (focus ((try simp (disch := omega) only [go_sem, wn, how, hpp, zr, hM, hlm, e1, hn2, hl2, tk1, tks, ANode.rgetD, zg, ANode.rset, zm, List.set_set, AEvent.rsnoc, zl, zo]) <;> (try omega) <;> fail)); (focus ((try simp (disch := omega) only [go_sem, wn, how, hpp, zr, hM, hlm, e1, hn2, hl2, tk1, tks, ANode.rgetD, zg, ANode.rset, zm, List.set_set, AEvent.rsnoc, zl, zo]) <;> (first | done | exact rfl))); clear hKk Kk) | ((first | (with_reducible refine zu ?_ ?_ <;> intro hg) | with_reducible intro hg) <;> (first | (exfalso; simp at hg; done) | (have hg' := hg; (try simp only [hcs, beq_iff_eq, ge_iff_le, gt_iff_lt] at hg'); (try simp only [hg]))))) <;> (try simp (disch := omega) only [go_sem, wn, how, hpp, zr, hM, hlm, e1, hn2, hl2, tk1, tks, ANode.rgetD, zg, ANode.rset, zm, List.set_set, AEvent.rsnoc, zl, zo]) <;> (repeat' with_reducible refine And.intro ?_ ?_) <;> (try (with_reducible refine hK _ ?_; clear hK K)))
  | omega)
    refine ⟨k + 1, by omega, by omega, ?_⟩
    rw [hnext]
    (refine SImp.frame [0, 1, 2, 9, 4, 5, 6, 13] rfl (by intro k hk; first | (simp at hk <;> (simp; omega)) | (simp only [List.mem_cons, List.not_mem_nil, or_false] at hk; simp only [List.length_cons, List.length_nil]; omega)) (by decide) (fun k hk => by first | omega | (rcases k with _ | _ | _ | _ | _ | _ | _ | _ | k <;> first | rfl | omega)) ?_ ?_ <;> simp (disch := omega) only [go_sem, wn, Int.natCast_add, goneE, List.length_append, List.append_assoc, List.cons_append, List.nil_append, hl2, tks, Nat.add_assoc, I, S] <;> (try rfl))
  · rw [if_neg how] at hnext
    (repeat' first
  | (with_reducible refine AR.f ?_)
  | refine zb (by decide) ?_
  | (with_reducible refine AWP.cond rfl ?_ ?_ <;> intro hc <;> (try simp only [hcs, beq_iff_eq, ge_iff_le, gt_iff_lt] at hc))
  | ((first | ((first | (with_reducible first | refine zR ?_ | refine zQ (by decide +kernel) ?_ | refine zD (by decide +kernel) ?_ | refine zE (by decide +kernel) ?_ | refine zG (by decide +kernel) ?_)); intro K hK) | ((first | (with_reducible refine zu ?_ ?_ <;> intro hg) | with_reducible intro hg) <;> (first | (exfalso; simp at hg; done) | (have hg' := hg; (try simp only [hcs, beq_iff_eq, ge_iff_le, gt_iff_lt] at hg'); (try simp only [hg]))))) <;> (try simp (disch := omega) only [go_sem, wn]) <;> (repeat' with_reducible refine And.intro ?_ ?_) <;> (try (with_reducible refine hK _ ?_; clear hK K)))
  | omega)
    refine ⟨k + 1, by omega, by omega, ?_⟩
    rw [hnext]
    (refine SImp.frame [0, 1, 2, 3, 4, 5, 6, 7] rfl (by intro k hk; first | (simp at hk <;> (simp; omega)) | (simp only [List.mem_cons, List.not_mem_nil, or_false] at hk; simp only [List.length_cons, List.length_nil]; omega)) (by decide) (fun k hk => by first | omega | (rcases k with _ | _ | _ | _ | _ | _ | _ | _ | k <;> first | rfl | omega)) ?_ ?_ <;> simp (disch := omega) only [go_sem, wn, Int.natCast_add, true_and] <;> (try rfl))
theorem apply_c (t : ATree) (x : ATxn) (hw : t.wf) (hp : okS x.path) (hd : okS x.data) : acall Tryd.prog [] 51 [t.av, x.av] (ret (.tup [(applyT t x).1.av, .d (.sl 2 ((applyT t x).2.1.map AEvent.row)), I (applyT t x).2.2])) := by
  by_cases h0 : wrongT t x = 0
  case neg =>
    have hwc := wrong_c t x hw hp hd
    rw [apply_no h0]
    refine zi tabOk Tryd.func51 rfl (by kernel_rfl) (by simp [Tryd.ntmps51]) ?_; simp only [Tryd.ntmps51, Tryd.results51, List.toList_toArray, apar, List.length_nil, List.length_cons, Nat.reduceAdd]
    (repeat' first
  | (with_reducible refine AR.f ?_)
  | refine zb (by decide) ?_
  | (with_reducible refine AWP.cond rfl ?_ ?_ <;> intro hc <;> (try simp only [hcs, beq_iff_eq, ge_iff_le, gt_iff_lt] at hc))
  | ((first | ((first | (with_reducible first | refine zR ?_ | refine zQ (by decide +kernel) ?_ | refine zD (by decide +kernel) ?_ | refine zE (by decide +kernel) ?_ | refine zG (by decide +kernel) ?_)); intro K hK) | ((first | refine zA hwc ?_ ?_ ?_ ?_ ?_); (focus exact rfl); (focus exact rfl); iterate 2 (focus ((try simp (disch := omega) only [go_sem, wn]) <;> (try omega) <;> fail))) | ((first | refine zN hwc rfl ?_ ?_); (focus ((try simp (disch := omega) only [go_sem, wn]) <;> (try omega) <;> fail))) | (first | ((first | refine zX hwc rfl ?_ ?_ | refine zy hwc ?_ ?_); (focus ((try simp (disch := omega) only [go_sem, wn]) <;> (try omega) <;> fail)))) | ((first | (with_reducible refine zu ?_ ?_ <;> intro hg) | with_reducible intro hg) <;> (first | (exfalso; simp at hg; done) | (have hg' := hg; (try simp only [hcs, beq_iff_eq, ge_iff_le, gt_iff_lt] at hg'); (try simp only [hg]))))) <;> (try simp (disch := omega) only [go_sem, wn]) <;> (repeat' with_reducible refine And.intro ?_ ?_) <;> (try (with_reducible refine hK _ ?_; clear hK K)))
  | omega)
    all_goals first | (exfalso; omega) | skip
    (refine zF rfl ?_ ?_ ?_ ?_; (iterate 3 (focus ((try simp (disch := omega) only [go_sem, wn, default]) <;> (try omega) <;> fail))); (try simp (disch := omega) only [go_sem, wn, default, I, B, S, inj, List.cons.injEq, and_true, true_and, and_self]))
  obtain ⟨o1, o2, _, _⟩ := goodT_nums (wrong_ok h0).2.1
  rcases (by omega : x.op = 1 ∨ x.op = 2 ∨ x.op = 3 ∨ x.op = 4 ∨ x.op = 5) with o | o | o | o | o
  · exact apply1_c t x hw hp hd h0 o
  · exact apply2_c t x hw hp hd h0 o
  · exact apply3_c t x hw hp hd h0 o
  · exact apply4_c t x hw hp hd h0 o
  · exact apply5_c t x hw hp hd h0 o
end Go.Proofs.YtmpfhalheaeibaaDoor
namespace Go.Proofs.YtmpfhalheaeibaaDoor
set_option linter.unusedVariables false
set_option linter.unusedSimpArgs false
open Go Go.RowKit
set_option maxRecDepth 100000
set_option linter.unusedSimpArgs false
theorem nodeM_c (z : Int) (ns : List ANode) (ss : List Int) (key : List UInt8) (h : ns.length * 88 ≤ 140737488351232) (hr : Rises (pathsN ns)) (hm : key ∈ pathsN ns) : acall Tryd.prog [] 93 [.agg [I z, .d (.sl 9 (ns.map ANode.row)), .d (.sl 1 (ss.map irow))], S key] (ret (I (place (pathsN ns) key : Nat))) :=
  (nodeI_c ⟨z, ns, ss⟩ key h hr).re (congrArg I (nodeI_yes hm))
theorem copyTO_c (t : ATree) (h : t.nodes.length * 88 ≤ 140737488351232) (h2 : t.sessions.length * 8 ≤ 140737488351232) : acall Tryd.prog [] 27 [t.av] (outs (.agg [I t.zxid, .osl 0 9 0 t.nodes.length, .osl 1 1 0 t.sessions.length]) [.rows 9 (t.nodes.map ANode.row), .rows 1 (t.sessions.map irow)]) := by
  refine zi tabOk Tryd.func27 rfl (by kernel_rfl) (by simp [Tryd.ntmps27]) ?_; simp only [Tryd.ntmps27, Tryd.results27, List.toList_toArray, apar, List.length_nil, List.length_cons, Nat.reduceAdd]
  (repeat' first
| (with_reducible refine AR.f ?_)
| refine zb (by decide) ?_
| (with_reducible refine AWP.cond rfl ?_ ?_ <;> intro hc <;> (try simp only [hcs, beq_iff_eq, ge_iff_le, gt_iff_lt] at hc))
| ((first | ((first | (with_reducible first | refine zR ?_ | refine zQ (by decide +kernel) ?_ | refine zD (by decide +kernel) ?_ | refine zE (by decide +kernel) ?_ | refine zG (by decide +kernel) ?_)); intro K hK) | ((first | (with_reducible refine zu ?_ ?_ <;> intro hg) | with_reducible intro hg) <;> (first | (exfalso; simp at hg; done) | (have hg' := hg; (try simp only [hcs, beq_iff_eq, ge_iff_le, gt_iff_lt] at hg'); (try simp only [hg]))))) <;> (try simp (disch := omega) only [go_sem, wn]) <;> (repeat' with_reducible refine And.intro ?_ ?_) <;> (try (with_reducible refine hK _ ?_; clear hK K)))
| omega)
  all_goals (refine aend_out (by first | exact .inl rfl | exact .inr rfl) ?_ ?_; (focus ((try simp (disch := omega) only [go_sem, wn]) <;> fail)); simp (disch := omega) only [go_sem, wn, true_and]; refine AOut.of_simp ?_ (AOut.same ⟨rfl, rfl⟩); refine SImp.frame [2, 3] rfl (by intro k hk; first | (simp at hk <;> (simp; omega)) | (simp only [List.mem_cons, List.not_mem_nil, or_false] at hk; simp only [List.length_cons, List.length_nil]; omega)) (by decide) (fun k hk => by first | omega | (rcases k with _ | _ | _ | _ | _ | _ | _ | _ | k <;> first | rfl | omega)) ?_ ?_ <;> simp (disch := omega) only [go_sem, wn, true_or, or_true, true_and])
def othersN (l : List ANode) (key : List UInt8) : List ANode := l.filter fun f => decide (f.path ≠ key)
theorem othersN_snoc (l : List ANode) (key : List UInt8) (k : Nat) (h : k < l.length) : othersN (l.take (k + 1)) key = if (l.getD k default).path ≠ key then othersN (l.take k) key ++ [l.getD k default] else othersN (l.take k) key := by
  unfold othersN
  rw [take_snoc l k h, List.filter_append]
  by_cases e : (l.getD k default).path ≠ key
  · rw [if_pos e, List.filter_cons_of_pos (by simpa using e)]; rfl
  · rw [if_neg e, List.filter_cons_of_neg (by simpa using e), List.filter_nil, List.append_nil]
theorem othersN_erase {l : List ANode} {key : List UInt8} (hr : Rises (pathsN l)) (h : key ∈ pathsN l) : othersN l key = l.eraseIdx (place (pathsN l) key) := by
  have hp := zc hr h
  generalize place (pathsN l) key = p at *
  have hpl : p < l.length := by have := hp.1; rwa [pathsN_len] at this
  have gd (j : Nat) : (pathsN l).getD j [] = (l.getD j default).path := getD_map ANode.path l j default
  have hne : ∀ j, j < l.length → j ≠ p → (l.getD j default).path ≠ key := fun j hj hjp e => by
    have e1 : (pathsN l).getD j [] = key := by rw [gd]; exact e
    rcases Nat.lt_or_gt_of_ne hjp with h1 | h1
    · have := rises_lt hr h1 (by rw [pathsN_len]; exact hpl); rw [e1, hp.2] at this; exact List.lt_irrefl _ this
    · have := rises_lt hr h1 (by rw [pathsN_len]; exact hj); rw [e1, hp.2] at this; exact List.lt_irrefl _ this
  have hpk : (l.getD p default).path = key := by have := hp.2; rwa [gd] at this
  have hs : l = l.take p ++ l.getD p default :: l.drop (p + 1) := by
    rw [List.getD_eq_getElem?_getD, List.getElem?_eq_getElem hpl]
    simp
  have h1 : (l.take p).filter (fun f => decide (f.path ≠ key)) = l.take p := by
    rw [List.filter_eq_self]
    intro f hf
    obtain ⟨j, hj, rfl⟩ := List.mem_take_iff_getElem.1 hf
    have := hne j (by omega) (by omega)
    rw [List.getD_eq_getElem?_getD, List.getElem?_eq_getElem (by omega)] at this
    simpa using this
  have h2 : (l.drop (p + 1)).filter (fun f => decide (f.path ≠ key)) = l.drop (p + 1) := by
    rw [List.filter_eq_self]
    intro f hf
    obtain ⟨j, hj, rfl⟩ := List.mem_drop_iff_getElem.1 hf
    have := hne (p + 1 + j) (by omega) (by omega)
    rw [List.getD_eq_getElem?_getD, List.getElem?_eq_getElem (by omega)] at this
    simpa using this
  rw [erase_eq]
  unfold othersN
  conv => lhs; rw [hs]
  rw [List.filter_append, List.filter_cons_of_neg (by simp only [hpk]; simp), h1, h2]
set_option maxHeartbeats 8000000 in
theorem gone_c (z : Int) (ns : List ANode) (ss : List Int) (es : List AEvent) (x : ATxn) (p : List UInt8) (hl : ns.length ≤ 400) (hss : ss.length * 8 ≤ 140737488351232) (hes : es.length ≤ 100000) (hp : p.length ≤ 1048576) (hr : Rises (pathsN ns)) (hm : p ∈ pathsN ns) (hdir : dirP p ∈ pathsN ns) (hne : dirP p ≠ p) :
    acall Tryd.prog [.cells [I z, .osl 1 9 0 ns.length, .osl 2 1 0 ss.length], .rows 9 (ns.map ANode.row), .rows 1 (ss.map irow), .cells [.osl 4 2 0 es.length], .rows 2 (es.map AEvent.row), .cells [.clo 113 [] [.ptr 0 0, .ptr 6 0, .ptr 3 0]], .cells [I x.zxid, I x.op, I x.session, S x.path, S x.data, I x.version, I x.owner]]
      114 [S p, .ptr 0 0, .ptr 3 0, .ptr 5 0]
      (outs (.tup []) [.cells [I z, .osl 7 9 0 (delN ns p x.zxid).length, .osl 2 1 0 ss.length], .dead, .rows 1 (ss.map irow), .cells [.osl 8 2 0 (es ++ goneE p).length], .dead, .cells [.clo 113 [] [.ptr 0 0, .ptr 6 0, .ptr 3 0]], .cells [I x.zxid, I x.op, I x.session, S x.path, S x.data, I x.version, I x.owner], .rows 9 ((delN ns p x.zxid).map ANode.row), .rows 2 ((es ++ goneE p).map AEvent.row)]) := by
  refine zi tabOk Tryd.func114 rfl (by kernel_rfl) (by simp [Tryd.ntmps114]) ?_; simp only [Tryd.ntmps114, Tryd.results114, List.toList_toArray, apar, List.length_nil, List.length_cons, Nat.reduceAdd]
  (repeat' first
| (with_reducible refine AR.f ?_)
| refine zb (by decide) ?_
| (with_reducible refine AWP.cond rfl ?_ ?_ <;> intro hc <;> (try simp only [hcs, beq_iff_eq, ge_iff_le, gt_iff_lt] at hc))
| ((first | ((first | (with_reducible first | refine zR ?_ | refine zQ (by decide +kernel) ?_ | refine zD (by decide +kernel) ?_ | refine zE (by decide +kernel) ?_ | refine zG (by decide +kernel) ?_)); intro K hK) | ((first | (with_reducible refine zu ?_ ?_ <;> intro hg) | with_reducible intro hg) <;> (first | (exfalso; simp at hg; done) | (have hg' := hg; (try simp only [hcs, beq_iff_eq, ge_iff_le, gt_iff_lt] at hg'); (try simp only [hg]))))) <;> (try simp (disch := omega) only [go_sem, wn]) <;> (repeat' with_reducible refine And.intro ?_ ?_) <;> (try (with_reducible refine hK _ ?_; clear hK K)))
| omega)
  refine AWP.weaken (SImp.nilOwn 5 9 rfl) ?_
  simp only [go_sem]
  refine AWP.loopB (ι := Nat) (fun k => k ≤ ns.length) (fun k => ns.length - k) [0, 1, 2, 3, 9, 10] (fun k => [(11, I k), (5, .osl 7 9 0 (othersN (ns.take k) p).length)]) (fun k => [.cells [I z, .osl 1 9 0 ns.length, .osl 2 1 0 ss.length], .rows 9 (ns.map ANode.row), .rows 1 (ss.map irow), .cells [.osl 4 2 0 es.length], .rows 2 (es.map AEvent.row), .cells [.clo 113 [] [.ptr 0 0, .ptr 6 0, .ptr 3 0]], .cells [I x.zxid, I x.op, I x.session, S x.path, S x.data, I x.version, I x.owner], .rows 9 ((othersN (ns.take k) p).map ANode.row)]) 0 ?_ ?_ ?_
  · omega
  · simp only [go_sem, othersN, List.filter_nil]; (refine SImp.same ?_; simp (disch := omega) only [go_sem, wn, Int.natCast_add])
  intro k hk
  have hol : (othersN (ns.take k) p).length ≤ k := Nat.le_trans (List.length_filter_le _ _) (List.length_take_le _ _)
  simp only [go_sem]
  by_cases hkk : k < ns.length
  · (repeat' first
  | (with_reducible refine AR.f ?_)
  | refine zb (by decide) ?_
  | (with_reducible refine AWP.cond rfl ?_ ?_ <;> intro hc <;> (try simp only [hcs, beq_iff_eq, ge_iff_le, gt_iff_lt] at hc))
  | ((first | ((first | (with_reducible first | refine zR ?_ | refine zQ (by decide +kernel) ?_ | refine zD (by decide +kernel) ?_ | refine zE (by decide +kernel) ?_ | refine zG (by decide +kernel) ?_)); intro K hK) | ((first | (with_reducible refine zu ?_ ?_ <;> intro hg) | with_reducible intro hg) <;> (first | (exfalso; simp at hg; done) | (have hg' := hg; (try simp only [hcs, beq_iff_eq, ge_iff_le, gt_iff_lt] at hg'); (try simp only [hg]))))) <;> (try simp (disch := omega) only [go_sem, wn, ANode.rgetD, ANode.rsnoc, zl]) <;> (repeat' with_reducible refine And.intro ?_ ?_) <;> (try (with_reducible refine hK _ ?_; clear hK K)))
  | omega)
    · refine ⟨k + 1, by omega, by omega, ?_⟩
      rw [othersN_snoc _ _ _ hkk, if_pos hc]
      (refine SImp.frame [0, 1, 2, 3, 4, 5, 6, 10] rfl (by intro k hk; first | (simp at hk <;> (simp; omega)) | (simp only [List.mem_cons, List.not_mem_nil, or_false] at hk; simp only [List.length_cons, List.length_nil]; omega)) (by decide) (fun k hk => by first | omega | (rcases k with _ | _ | _ | _ | _ | _ | _ | _ | k <;> first | rfl | omega)) ?_ ?_ <;> simp (disch := omega) only [go_sem, wn, Int.natCast_add, List.length_append] <;> (try rfl))
    · refine ⟨k + 1, by omega, by omega, ?_⟩
      rw [othersN_snoc _ _ _ hkk, if_neg (by simpa using hc)]
      (refine SImp.frame [0, 1, 2, 3, 4, 5, 6, 7] rfl (by intro k hk; first | (simp at hk <;> (simp; omega)) | (simp only [List.mem_cons, List.not_mem_nil, or_false] at hk; simp only [List.length_cons, List.length_nil]; omega)) (by decide) (fun k hk => by first | omega | (rcases k with _ | _ | _ | _ | _ | _ | _ | _ | k <;> first | rfl | omega)) ?_ ?_ <;> simp (disch := omega) only [go_sem, wn, Int.natCast_add, true_and] <;> (try rfl))
  obtain rfl : k = ns.length := by omega
  clear hol hk
  rw [List.take_length, othersN_erase hr hm]
  have hpf := zc hr hm
  have hdpl2 : place (pathsN ns) p < ns.length := by have := hpf.1; rwa [pathsN_len] at this
  have hadd0 : delN ns p x.zxid = kidN (ns.eraseIdx (place (pathsN ns) p)) p (-1) x.zxid := rfl
  rw [hadd0]
  have hlm0 := erase_len _ _ hdpl2
  have hr10 := rises_erase hr (place (pathsN ns) p)
  have hm10 : dirP p ∈ (pathsN ns).eraseIdx (place (pathsN ns) p) := mem_erase hdir (by rw [hpf.2]; exact hne.symm)
  rw [← pathsN_erase] at hr10 hm10
  generalize ns.eraseIdx (place (pathsN ns) p) = ns1 at hlm0 hr10 hm10 ⊢
  have hq := (zc hr10 hm10).1
  rw [pathsN_len] at hq
  have hadd : kidN ns1 p (-1) x.zxid = ns1.set (place (pathsN ns1) (dirP p)) (kidF (-1) x.zxid (ns1.getD (place (pathsN ns1) (dirP p)) default)) := by unfold kidN; rw [if_pos hm10]
  rw [hadd]
  have hf2 := nodeM_c z ns1 ss (dirP p) (by omega) hr10 hm10
  generalize hn2 : ns1.set (place (pathsN ns1) (dirP p)) (kidF (-1) x.zxid (ns1.getD (place (pathsN ns1) (dirP p)) default)) = ns2
  have hl2 : ns2.length = ns1.length := by rw [← hn2, List.length_set]
  unfold kidF at hn2
  have e1 : (splitP p).1.1 = dirP p := rfl
  have tk2 : List.take ns1.length (ns2.map ANode.row) = ns2.map ANode.row := List.take_of_length_le (by rw [List.length_map]; omega)
  (repeat' first
| (with_reducible refine AR.f ?_)
| refine zb (by decide) ?_
| (with_reducible refine AWP.cond rfl ?_ ?_ <;> intro hc <;> (try simp only [hcs, beq_iff_eq, ge_iff_le, gt_iff_lt] at hc))
| (refine zh fun Kk hKk => (zi tabOk Tryd.func113 rfl (by kernel_rfl) (by simp [Tryd.ntmps113]) ?_); simp only [Tryd.ntmps113, Tryd.results113, List.toList_toArray, apar, List.length_nil, List.length_cons, Nat.reduceAdd, List.length_append, List.length_set, go_sem])
| ((first | ((first | refine zP ((Plan.takes [0, 2, 3] (.fork 1 (Plan.takes [4, 5, 6, 7] .done) 4 (Plan.takes [1, 5, 6, 7] .done)))) (by decide +kernel) ?_ | refine zP ((Plan.takes [0, 1, 2, 3, 4, 5, 6, 7, 8, 9, 10, 11, 12, 13, 14, 16, 17] (.fork 15 (Plan.takes [18, 19, 20, 21, 22, 23, 24] .done) 18 (Plan.takes [19, 20] (.fork 15 (Plan.takes [21, 22, 23, 24] .done) 21 (Plan.takes [15, 22, 23, 24] .done)))))) (by decide +kernel) ?_ | (with_reducible first | refine zR ?_ | refine zQ (by decide +kernel) ?_ | refine zD (by decide +kernel) ?_ | refine zE (by decide +kernel) ?_ | refine zG (by decide +kernel) ?_)); intro K hK) | ((first | refine zA (ref_split_c p hp) ?_ ?_ ?_ ?_ ?_ | refine zA hf2 ?_ ?_ ?_ ?_ ?_); (focus exact rfl); (focus exact rfl); iterate 2 (focus ((try simp (disch := omega) only [go_sem, wn, e1, hn2, hl2, tk2, ANode.rgetD, zg, ANode.rset, zm, List.set_set, AEvent.rsnoc, zl, zo]) <;> (try omega) <;> fail))) | ((first | refine zN (ref_split_c p hp) rfl ?_ ?_ | refine zN hf2 rfl ?_ ?_); (focus ((try simp (disch := omega) only [go_sem, wn, e1, hn2, hl2, tk2, ANode.rgetD, zg, ANode.rset, zm, List.set_set, AEvent.rsnoc, zl, zo]) <;> (try omega) <;> fail))) | (first | ((first | refine zX (ref_split_c p hp) rfl ?_ ?_ | refine zy (ref_split_c p hp) ?_ ?_); (focus ((try simp (disch := omega) only [go_sem, wn, e1, hn2, hl2, tk2, ANode.rgetD, zg, ANode.rset, zm, List.set_set, AEvent.rsnoc, zl, zo]) <;> (try omega) <;> fail))) | ((first | refine zX hf2 rfl ?_ ?_ | refine zy hf2 ?_ ?_); (focus ((try simp (disch := omega) only [go_sem, wn, e1, hn2, hl2, tk2, ANode.rgetD, zg, ANode.rset, zm, List.set_set, AEvent.rsnoc, zl, zo]) <;> (try omega) <;> fail)))) | (refine zw (v := ?_) hKk (by first | exact .inl rfl | exact .inr rfl) ?_ ?_ ?_; rotate_left; (focus ((try simp (disch := omega) only [go_sem, wn, e1, hn2, hl2, tk2, ANode.rgetD, zg, ANode.rset, zm, List.set_set, AEvent.rsnoc, zl, zo]) <;> (try omega) <;> fail)); (focus ((try simp (disch := omega) only [go_sem, wn, e1, hn2, hl2, tk2, ANode.rgetD, zg, ANode.rset, zm, List.set_set, AEvent.rsnoc, zl, zo]) <;> (first | done | exact rfl))); clear hKk Kk) | ((first | (with_reducible refine zu ?_ ?_ <;> intro hg) | with_reducible intro hg) <;> (first | (exfalso; simp at hg; done) | (have hg' := hg; (try simp only [hcs, beq_iff_eq, ge_iff_le, gt_iff_lt] at hg'); (try simp only [hg]))))) <;> (try simp (disch := omega) only [go_sem, wn, e1, hn2, hl2, tk2, ANode.rgetD, zg, ANode.rset, zm, List.set_set, AEvent.rsnoc, zl, zo]) <;> (repeat' with_reducible refine And.intro ?_ ?_) <;> (try (with_reducible refine hK _ ?_; clear hK K)))
| omega)
  all_goals (refine aend_out (by first | exact .inl rfl | exact .inr rfl) ?_ ?_; (focus ((try simp (disch := omega) only [go_sem, wn]) <;> fail)); simp (disch := omega) only [go_sem, wn, goneE, List.append_assoc, List.cons_append, List.nil_append, hl2, List.length_append, List.length_cons, List.length_nil, Nat.add_assoc]; refine AOut.of_simp ?_ (AOut.same ⟨rfl, rfl⟩); refine SImp.frame [0, 1, 2, 3, 4, 5, 6, 7, 11] rfl (by intro k hk; first | (simp at hk <;> (simp; omega)) | (simp only [List.mem_cons, List.not_mem_nil, or_false] at hk; simp only [List.length_cons, List.length_nil]; omega)) (by decide) (fun k hk => by first | omega | (rcases k with _ | _ | _ | _ | _ | _ | _ | _ | k <;> first | rfl | omega)) ?_ ?_ <;> simp (disch := omega) only [go_sem, wn, true_or, or_true, goneE, List.append_assoc, List.cons_append, List.nil_append, hl2, List.length_append, List.length_cons, List.length_nil, Nat.add_assoc])
set_option maxHeartbeats 8000000 in
theorem gone0_c (z : Int) (ns : List ANode) (ss : List Int) (x : ATxn) (p : List UInt8) (hl : ns.length ≤ 400) (hss : ss.length * 8 ≤ 140737488351232) (hp : p.length ≤ 1048576) (hr : Rises (pathsN ns)) (hm : p ∈ pathsN ns) (hdir : dirP p ∈ pathsN ns) (hne : dirP p ≠ p) :
    acall Tryd.prog [.cells [I z, .osl 1 9 0 ns.length, .osl 2 1 0 ss.length], .rows 9 (ns.map ANode.row), .rows 1 (ss.map irow), .cells [.d (.sc (.slice none 0 0))], .cells [.clo 113 [] [.ptr 0 0, .ptr 5 0, .ptr 3 0]], .cells [I x.zxid, I x.op, I x.session, S x.path, S x.data, I x.version, I x.owner]]
      114 [S p, .ptr 0 0, .ptr 3 0, .ptr 4 0]
      (outs (.tup []) [.cells [I z, .osl 6 9 0 (delN ns p x.zxid).length, .osl 2 1 0 ss.length], .dead, .rows 1 (ss.map irow), .cells [.osl 7 2 0 (goneE p).length], .cells [.clo 113 [] [.ptr 0 0, .ptr 5 0, .ptr 3 0]], .cells [I x.zxid, I x.op, I x.session, S x.path, S x.data, I x.version, I x.owner], .rows 9 ((delN ns p x.zxid).map ANode.row), .rows 2 ((goneE p).map AEvent.row)]) := by
  refine zi tabOk Tryd.func114 rfl (by kernel_rfl) (by simp [Tryd.ntmps114]) ?_; simp only [Tryd.ntmps114, Tryd.results114, List.toList_toArray, apar, List.length_nil, List.length_cons, Nat.reduceAdd]
  (repeat' first
| (with_reducible refine AR.f ?_)
| refine zb (by decide) ?_
| (with_reducible refine AWP.cond rfl ?_ ?_ <;> intro hc <;> (try simp only [hcs, beq_iff_eq, ge_iff_le, gt_iff_lt] at hc))
| ((first | ((first | (with_reducible first | refine zR ?_ | refine zQ (by decide +kernel) ?_ | refine zD (by decide +kernel) ?_ | refine zE (by decide +kernel) ?_ | refine zG (by decide +kernel) ?_)); intro K hK) | ((first | (with_reducible refine zu ?_ ?_ <;> intro hg) | with_reducible intro hg) <;> (first | (exfalso; simp at hg; done) | (have hg' := hg; (try simp only [hcs, beq_iff_eq, ge_iff_le, gt_iff_lt] at hg'); (try simp only [hg]))))) <;> (try simp (disch := omega) only [go_sem, wn]) <;> (repeat' with_reducible refine And.intro ?_ ?_) <;> (try (with_reducible refine hK _ ?_; clear hK K)))
| omega)
  refine AWP.weaken (SImp.nilOwnC 3 0 2 rfl rfl) ?_
  simp only [go_sem]
  refine AWP.weaken (SImp.nilOwn 5 9 rfl) ?_
  simp only [go_sem]
  refine AWP.loopB (ι := Nat) (fun k => k ≤ ns.length) (fun k => ns.length - k) [0, 1, 2, 3, 9, 10] (fun k => [(11, I k), (5, .osl 7 9 0 (othersN (ns.take k) p).length)]) (fun k => [.cells [I z, .osl 1 9 0 ns.length, .osl 2 1 0 ss.length], .rows 9 (ns.map ANode.row), .rows 1 (ss.map irow), .cells [.osl 6 2 0 0], .cells [.clo 113 [] [.ptr 0 0, .ptr 5 0, .ptr 3 0]], .cells [I x.zxid, I x.op, I x.session, S x.path, S x.data, I x.version, I x.owner], .rows 2 [], .rows 9 ((othersN (ns.take k) p).map ANode.row)]) 0 ?_ ?_ ?_
  · omega
  · simp only [go_sem, othersN, List.filter_nil]; (refine SImp.same ?_; simp (disch := omega) only [go_sem, wn, Int.natCast_add])
  intro k hk
  have hol : (othersN (ns.take k) p).length ≤ k := Nat.le_trans (List.length_filter_le _ _) (List.length_take_le _ _)
  simp only [go_sem]
  by_cases hkk : k < ns.length
  · (repeat' first
  | (with_reducible refine AR.f ?_)
  | refine zb (by decide) ?_
  | (with_reducible refine AWP.cond rfl ?_ ?_ <;> intro hc <;> (try simp only [hcs, beq_iff_eq, ge_iff_le, gt_iff_lt] at hc))
  | ((first | ((first | (with_reducible first | refine zR ?_ | refine zQ (by decide +kernel) ?_ | refine zD (by decide +kernel) ?_ | refine zE (by decide +kernel) ?_ | refine zG (by decide +kernel) ?_)); intro K hK) | ((first | (with_reducible refine zu ?_ ?_ <;> intro hg) | with_reducible intro hg) <;> (first | (exfalso; simp at hg; done) | (have hg' := hg; (try simp only [hcs, beq_iff_eq, ge_iff_le, gt_iff_lt] at hg'); (try simp only [hg]))))) <;> (try simp (disch := omega) only [go_sem, wn, ANode.rgetD, ANode.rsnoc, zl]) <;> (repeat' with_reducible refine And.intro ?_ ?_) <;> (try (with_reducible refine hK _ ?_; clear hK K)))
  | omega)
    · refine ⟨k + 1, by omega, by omega, ?_⟩
      rw [othersN_snoc _ _ _ hkk, if_pos hc]
      (refine SImp.frame [0, 1, 2, 3, 4, 5, 6, 10] rfl (by intro k hk; first | (simp at hk <;> (simp; omega)) | (simp only [List.mem_cons, List.not_mem_nil, or_false] at hk; simp only [List.length_cons, List.length_nil]; omega)) (by decide) (fun k hk => by first | omega | (rcases k with _ | _ | _ | _ | _ | _ | _ | _ | k <;> first | rfl | omega)) ?_ ?_ <;> simp (disch := omega) only [go_sem, wn, Int.natCast_add, List.length_append] <;> (try rfl))
    · refine ⟨k + 1, by omega, by omega, ?_⟩
      rw [othersN_snoc _ _ _ hkk, if_neg (by simpa using hc)]
      (refine SImp.frame [0, 1, 2, 3, 4, 5, 6, 7] rfl (by intro k hk; first | (simp at hk <;> (simp; omega)) | (simp only [List.mem_cons, List.not_mem_nil, or_false] at hk; simp only [List.length_cons, List.length_nil]; omega)) (by decide) (fun k hk => by first | omega | (rcases k with _ | _ | _ | _ | _ | _ | _ | _ | k <;> first | rfl | omega)) ?_ ?_ <;> simp (disch := omega) only [go_sem, wn, Int.natCast_add, true_and] <;> (try rfl))
  obtain rfl : k = ns.length := by omega
  clear hol hk
  rw [List.take_length, othersN_erase hr hm]
  have hpf := zc hr hm
  have hdpl2 : place (pathsN ns) p < ns.length := by have := hpf.1; rwa [pathsN_len] at this
  have hadd0 : delN ns p x.zxid = kidN (ns.eraseIdx (place (pathsN ns) p)) p (-1) x.zxid := rfl
  rw [hadd0]
  have hlm0 := erase_len _ _ hdpl2
  have hr10 := rises_erase hr (place (pathsN ns) p)
  have hm10 : dirP p ∈ (pathsN ns).eraseIdx (place (pathsN ns) p) := mem_erase hdir (by rw [hpf.2]; exact hne.symm)
  rw [← pathsN_erase] at hr10 hm10
  generalize ns.eraseIdx (place (pathsN ns) p) = ns1 at hlm0 hr10 hm10 ⊢
  have hq := (zc hr10 hm10).1
  rw [pathsN_len] at hq
  have hadd : kidN ns1 p (-1) x.zxid = ns1.set (place (pathsN ns1) (dirP p)) (kidF (-1) x.zxid (ns1.getD (place (pathsN ns1) (dirP p)) default)) := by unfold kidN; rw [if_pos hm10]
  rw [hadd]
  have hf2 := nodeM_c z ns1 ss (dirP p) (by omega) hr10 hm10
  generalize hn2 : ns1.set (place (pathsN ns1) (dirP p)) (kidF (-1) x.zxid (ns1.getD (place (pathsN ns1) (dirP p)) default)) = ns2
  have hl2 : ns2.length = ns1.length := by rw [← hn2, List.length_set]
  unfold kidF at hn2
  have e1 : (splitP p).1.1 = dirP p := rfl
  have hev1 : ([[.int .i64 2, .str p]] : List (List DV)) ++ [[.int .i64 4, .str (dirP p)]] = (goneE p).map AEvent.row := rfl
  have hev2 : ([.int .i64 2, .str p] : List DV) :: [[.int .i64 4, .str (dirP p)]] = (goneE p).map AEvent.row := rfl
  have tk2 : List.take ns1.length (ns2.map ANode.row) = ns2.map ANode.row := List.take_of_length_le (by rw [List.length_map]; omega)
  (repeat' first
| (with_reducible refine AR.f ?_)
| refine zb (by decide) ?_
| (with_reducible refine AWP.cond rfl ?_ ?_ <;> intro hc <;> (try simp only [hcs, beq_iff_eq, ge_iff_le, gt_iff_lt] at hc))
| (refine zh fun Kk hKk => (zi tabOk Tryd.func113 rfl (by kernel_rfl) (by simp [Tryd.ntmps113]) ?_); simp only [Tryd.ntmps113, Tryd.results113, List.toList_toArray, apar, List.length_nil, List.length_cons, Nat.reduceAdd, List.length_append, List.length_set, go_sem])
| ((first | ((first | refine zP ((Plan.takes [0, 2, 3] (.fork 1 (Plan.takes [4, 5, 6, 7] .done) 4 (Plan.takes [1, 5, 6, 7] .done)))) (by decide +kernel) ?_ | refine zP ((Plan.takes [0, 1, 2, 3, 4, 5, 6, 7, 8, 9, 10, 11, 12, 13, 14, 16, 17] (.fork 15 (Plan.takes [18, 19, 20, 21, 22, 23, 24] .done) 18 (Plan.takes [19, 20] (.fork 15 (Plan.takes [21, 22, 23, 24] .done) 21 (Plan.takes [15, 22, 23, 24] .done)))))) (by decide +kernel) ?_ | (with_reducible first | refine zR ?_ | refine zQ (by decide +kernel) ?_ | refine zD (by decide +kernel) ?_ | refine zE (by decide +kernel) ?_ | refine zG (by decide +kernel) ?_)); intro K hK) | ((first | refine zA (ref_split_c p hp) ?_ ?_ ?_ ?_ ?_ | refine zA hf2 ?_ ?_ ?_ ?_ ?_); (focus exact rfl); (focus exact rfl); iterate 2 (focus ((try simp (disch := omega) only [go_sem, wn, e1, hn2, hl2, tk2, ANode.rgetD, zg, ANode.rset, zm, List.set_set, hev1, hev2, zl]) <;> (try omega) <;> fail))) | ((first | refine zN (ref_split_c p hp) rfl ?_ ?_ | refine zN hf2 rfl ?_ ?_); (focus ((try simp (disch := omega) only [go_sem, wn, e1, hn2, hl2, tk2, ANode.rgetD, zg, ANode.rset, zm, List.set_set, hev1, hev2, zl]) <;> (try omega) <;> fail))) | (first | ((first | refine zX (ref_split_c p hp) rfl ?_ ?_ | refine zy (ref_split_c p hp) ?_ ?_); (focus ((try simp (disch := omega) only [go_sem, wn, e1, hn2, hl2, tk2, ANode.rgetD, zg, ANode.rset, zm, List.set_set, hev1, hev2, zl]) <;> (try omega) <;> fail))) | ((first | refine zX hf2 rfl ?_ ?_ | refine zy hf2 ?_ ?_); (focus ((try simp (disch := omega) only [go_sem, wn, e1, hn2, hl2, tk2, ANode.rgetD, zg, ANode.rset, zm, List.set_set, hev1, hev2, zl]) <;> (try omega) <;> fail)))) | (refine zw (v := ?_) hKk (by first | exact .inl rfl | exact .inr rfl) ?_ ?_ ?_; rotate_left; (focus ((try simp (disch := omega) only [go_sem, wn, e1, hn2, hl2, tk2, ANode.rgetD, zg, ANode.rset, zm, List.set_set, hev1, hev2, zl]) <;> (try omega) <;> fail)); (focus ((try simp (disch := omega) only [go_sem, wn, e1, hn2, hl2, tk2, ANode.rgetD, zg, ANode.rset, zm, List.set_set, hev1, hev2, zl]) <;> (first | done | exact rfl))); clear hKk Kk) | ((first | (with_reducible refine zu ?_ ?_ <;> intro hg) | with_reducible intro hg) <;> (first | (exfalso; simp at hg; done) | (have hg' := hg; (try simp only [hcs, beq_iff_eq, ge_iff_le, gt_iff_lt] at hg'); (try simp only [hg]))))) <;> (try simp (disch := omega) only [go_sem, wn, e1, hn2, hl2, tk2, ANode.rgetD, zg, ANode.rset, zm, List.set_set, hev1, hev2, zl]) <;> (repeat' with_reducible refine And.intro ?_ ?_) <;> (try (with_reducible refine hK _ ?_; clear hK K)))
| omega)
  all_goals (refine aend_out (by first | exact .inl rfl | exact .inr rfl) ?_ ?_; (focus ((try simp (disch := omega) only [go_sem, wn]) <;> fail)); simp (disch := omega) only [go_sem, wn, hl2, goneE, List.length_cons, List.length_nil]; refine AOut.of_simp ?_ (AOut.same ⟨rfl, rfl⟩); refine SImp.frame [0, 1, 2, 3, 4, 5, 7, 11] rfl (by intro k hk; first | (simp at hk <;> (simp; omega)) | (simp only [List.mem_cons, List.not_mem_nil, or_false] at hk; simp only [List.length_cons, List.length_nil]; omega)) (by decide) (fun k hk => by first | omega | (rcases k with _ | _ | _ | _ | _ | _ | _ | _ | k <;> first | rfl | omega)) ?_ ?_ <;> simp (disch := omega) only [go_sem, wn, true_or, or_true, hl2, goneE, List.length_cons, List.length_nil])
end Go.Proofs.YtmpfhalheaeibaaDoor
