/- What a good tree is, and contracts of looking into trees. No condition. -/
import Derived.Test.YtmpfhalheaeibaaDoorTb
import Derived.Test.YtmpfhalheaeibaaDoorTi
import Derived.Test.YtmpfhalheaeibaaDoorPy
import Derived.Test.YtmpfhalheaeibaaDoorZx
namespace Go.Proofs.YtmpfhalheaeibaaDoor
set_option linter.unusedVariables false
set_option linter.unusedSimpArgs false
open Go Go.RowKit
set_option maxRecDepth 100000
set_option linter.unusedSimpArgs false

def pathsT (t : ATree) : List (List UInt8) := t.nodes.map ANode.path
def nd (t : ATree) (k : Nat) : ANode := t.nodes.getD k default
def sessOk (l : List Int) (k : Nat) : Prop := 1 ≤ l.getD k default ∧ l.getD k default ≤ 2147483647 ∧ (0 < k → l.getD (k - 1) default < l.getD k default)
instance (l : List Int) (k : Nat) : Decidable (sessOk l k) := by unfold sessOk; infer_instance
/-- What is asked of a node by itself, and of the one ahead of it. -/
def nodeA (t : ATree) (k : Nat) : Prop := goodP (nd t k).path = true ∧ (nd t k).data.length ≤ 256 ∧ (0 < k → (nd t (k - 1)).path < (nd t k).path)
instance (t : ATree) (k : Nat) : Decidable (nodeA t k) := by unfold nodeA; infer_instance
def statB (t : ATree) (s : AStat) : Prop := 0 ≤ s.version ∧ s.version ≤ 2147483647 ∧ 0 ≤ s.cversion ∧ s.cversion ≤ 2147483647 ∧ 0 ≤ s.czxid ∧ s.czxid ≤ s.mzxid ∧ s.czxid ≤ s.pzxid ∧ s.mzxid ≤ t.zxid ∧ s.pzxid ≤ t.zxid
instance (t : ATree) (s : AStat) : Decidable (statB t s) := by unfold statB; infer_instance
def ownB (t : ATree) (s : AStat) : Prop := s.owner ≠ 0 → s.owner ∈ t.sessions ∧ s.kids = 0
instance (t : ATree) (s : AStat) : Decidable (ownB t s) := by unfold ownB; infer_instance
def dirT (t : ATree) (k : Nat) : List UInt8 := (splitP (nd t k).path).1.1
/-- How many of the first n nodes have a parent. -/
def kidsN (t : ATree) (p : List UInt8) (n : Nat) : Nat := ((List.range n).filter fun j => decide (dirT t j = p)).length
def upB (t : ATree) (k : Nat) : Prop := k = 0 ∨ dirT t k ∈ pathsT t
instance (t : ATree) (k : Nat) : Decidable (upB t k) := by unfold upB; infer_instance
def headOk (t : ATree) : Prop := 1 ≤ t.nodes.length ∧ t.nodes.length ≤ 400 ∧ (nd t 0).path = [47] ∧ (nd t 0).stat.owner = 0 ∧ goodZ t.zxid
instance (t : ATree) : Decidable (headOk t) := by unfold headOk; infer_instance
def goodTr (t : ATree) : Bool := decide (headOk t ∧ (∀ k, k < t.sessions.length → sessOk t.sessions k) ∧ (∀ k, k < t.nodes.length → nodeA t k) ∧
  ∀ k, k < t.nodes.length → statB t (nd t k).stat ∧ ownB t (nd t k).stat ∧ upB t k ∧ (nd t k).stat.kids = kidsN t (nd t k).path t.nodes.length)
theorem goodTr_iff {t : ATree} : goodTr t = true ↔ headOk t ∧ (∀ k, k < t.sessions.length → sessOk t.sessions k) ∧ (∀ k, k < t.nodes.length → nodeA t k) ∧
    ∀ k, k < t.nodes.length → statB t (nd t k).stat ∧ ownB t (nd t k).stat ∧ upB t k ∧ (nd t k).stat.kids = kidsN t (nd t k).path t.nodes.length := by unfold goodTr; rw [decide_eq_true_eq]
theorem pathsT_get (t : ATree) (k : Nat) : (pathsT t).getD k [] = (nd t k).path := getD_map ANode.path t.nodes k default
theorem pathsT_len (t : ATree) : (pathsT t).length = t.nodes.length := by unfold pathsT; simp
theorem rises_sess {l : List Int} (h : ∀ k, k < l.length → sessOk l k) : RisesI l := fun k hk => by
  have := (h (k + 1) (by omega)).2.2 (by omega)
  simpa using this
theorem rises_paths {t : ATree} (h : ∀ k, k < t.nodes.length → nodeA t k) : Rises (pathsT t) := fun k hk => by
  rw [pathsT_len] at hk
  have := (h (k + 1) hk).2.2 (by omega)
  rw [pathsT_get, pathsT_get]
  simpa using this
theorem good_rises {t : ATree} (h : goodTr t = true) : Rises (pathsT t) := rises_paths (goodTr_iff.1 h).2.2.1
theorem good_sess {t : ATree} (h : goodTr t = true) : RisesI t.sessions := rises_sess (goodTr_iff.1 h).2.1
theorem good_root {t : ATree} (h : goodTr t = true) : headOk t := (goodTr_iff.1 h).1

theorem findU_c (t : ATree) (key : List UInt8) (h : t.nodes.length * 88 ≤ 140737488351232) : acall Tryd.prog [] 92 [t.av, S key] (ret (.tup [I (bsN (pathsT t) key), B (foundN (pathsT t) key)])) := by
  unfold pathsT
  refine acall_of tabOk Tryd.func92 rfl (by kernel_rfl) (by simp [Tryd.ntmps92]) ?_; simp only [Tryd.ntmps92, Tryd.results92, List.toList_toArray, apar, List.length_nil, List.length_cons, Nat.reduceAdd]
  repeat' first
    | (with_reducible first | refine AWP.seq ?_ | refine thenA_n ?_ | refine thenA_r ?_ | refine thenA_e ?_ | refine blkA_n ?_ | refine blkA_r ?_ | refine blkA_e ?_ | refine blkA_x (by decide) ?_ | refine AWP.skip ?_ | refine AWP.ret ?_ | refine AWP.exit ?_ | refine AWP.block ?_)
    | (with_reducible refine AWP.cond rfl ?_ ?_ <;> intro hc <;> (try simp only [hcs, beq_iff_eq, ge_iff_le, gt_iff_lt] at hc))
    | ((first
      | (with_reducible first | refine AWP.region tabOk ?_ | refine AWP.quietC mixed tabOk (by decide +kernel) ?_ | refine AWP.draw mixed tabOk (by decide +kernel) ?_ | refine AWP.drawE mixed tabOk (by decide +kernel) ?_ | refine AWP.drawG mixed tabOk (by decide +kernel) ?_); intro K hK
      | ((first | refine acallH_sc (bsNodeU_c t.nodes key h) rfl rfl ?_ ?_ ?_ | refine acallQ_sc (bsNodeU_c t.nodes key h) rfl rfl ?_ ?_ ?_); iterate 2 (focus ((try simp (disch := omega) only [go_sem, wrap_n]) <;> (try omega) <;> fail)))
      | ((first | refine acallH_anyr (bsNodeU_c t.nodes key h) rfl ?_ ?_); (focus ((try simp (disch := omega) only [go_sem, wrap_n]) <;> (try omega) <;> fail)))
      | ((first | refine acallH_scx (bsNodeU_c t.nodes key h) rfl ?_ ?_ | refine acallQ_scx (bsNodeU_c t.nodes key h) rfl ?_ ?_ | refine acallH_anyx (bsNodeU_c t.nodes key h) ?_ ?_); (focus ((try simp (disch := omega) only [go_sem, wrap_n]) <;> (try omega) <;> fail)))); ((try simp (disch := omega) only [go_sem, wrap_n]) <;> (repeat' with_reducible refine And.intro ?_ ?_) <;> (try (with_reducible refine hK _ ?_; clear hK K))))
    | ((first | (with_reducible refine aunder_i ?_ ?_ <;> intro hg) | with_reducible intro hg) <;> (first | (exfalso; simp at hg; done) | (have hg' := hg; (try simp only [hcs, beq_iff_eq, ge_iff_le, gt_iff_lt] at hg'); ((try simp (disch := omega) only [hg, go_sem, wrap_n]) <;> (repeat' with_reducible refine And.intro ?_ ?_) <;> (try (with_reducible refine hK _ ?_; clear hK K))))))
                                                            | omega
  (refine aend_retc ?_ rfl ?_ ?_ ?_ ?_; (focus (first | exact .inl rfl | exact .inr rfl)); (iterate 3 (focus ((try simp (disch := omega) only [go_sem, wrap_n]) <;> (try omega) <;> fail))); (try simp (disch := omega) only [go_sem, wrap_n, I, B, S, inj, List.cons.injEq, and_true, true_and, and_self]))
theorem findT_c (t : ATree) (key : List UInt8) (h : t.nodes.length * 88 ≤ 140737488351232) (hr : Rises (pathsT t)) : acall Tryd.prog [] 92 [t.av, S key] (ret (.tup [I (place (pathsT t) key), B (decide (key ∈ pathsT t))])) := by
  have := findU_c t key h
  rwa [bsN_rises hr, foundN_rises hr] at this
theorem open_c (t : ATree) (s : Int) (h : t.sessions.length * 8 ≤ 140737488351232) (hr : RisesI t.sessions) : acall Tryd.prog [] 40 [t.av, I s] (ret (B (decide (s ∈ t.sessions)))) := by
  refine acall_of tabOk Tryd.func40 rfl (by kernel_rfl) (by simp [Tryd.ntmps40]) ?_; simp only [Tryd.ntmps40, Tryd.results40, List.toList_toArray, apar, List.length_nil, List.length_cons, Nat.reduceAdd]
  repeat' first
    | (with_reducible first | refine AWP.seq ?_ | refine thenA_n ?_ | refine thenA_r ?_ | refine thenA_e ?_ | refine blkA_n ?_ | refine blkA_r ?_ | refine blkA_e ?_ | refine blkA_x (by decide) ?_ | refine AWP.skip ?_ | refine AWP.ret ?_ | refine AWP.exit ?_ | refine AWP.block ?_)
    | (with_reducible refine AWP.cond rfl ?_ ?_ <;> intro hc <;> (try simp only [hcs, beq_iff_eq, ge_iff_le, gt_iff_lt] at hc))
    | ((first
      | (with_reducible first | refine AWP.region tabOk ?_ | refine AWP.quietC mixed tabOk (by decide +kernel) ?_ | refine AWP.draw mixed tabOk (by decide +kernel) ?_ | refine AWP.drawE mixed tabOk (by decide +kernel) ?_ | refine AWP.drawG mixed tabOk (by decide +kernel) ?_); intro K hK
      | ((first | refine acallH_sc (bsInt_c t.sessions s h hr) rfl rfl ?_ ?_ ?_ | refine acallQ_sc (bsInt_c t.sessions s h hr) rfl rfl ?_ ?_ ?_); iterate 2 (focus ((try simp (disch := omega) only [go_sem, wrap_n]) <;> (try omega) <;> fail)))
      | ((first | refine acallH_anyr (bsInt_c t.sessions s h hr) rfl ?_ ?_); (focus ((try simp (disch := omega) only [go_sem, wrap_n]) <;> (try omega) <;> fail)))
      | ((first | refine acallH_scx (bsInt_c t.sessions s h hr) rfl ?_ ?_ | refine acallQ_scx (bsInt_c t.sessions s h hr) rfl ?_ ?_ | refine acallH_anyx (bsInt_c t.sessions s h hr) ?_ ?_); (focus ((try simp (disch := omega) only [go_sem, wrap_n]) <;> (try omega) <;> fail)))); ((try simp (disch := omega) only [go_sem, wrap_n]) <;> (repeat' with_reducible refine And.intro ?_ ?_) <;> (try (with_reducible refine hK _ ?_; clear hK K))))
    | ((first | (with_reducible refine aunder_i ?_ ?_ <;> intro hg) | with_reducible intro hg) <;> (first | (exfalso; simp at hg; done) | (have hg' := hg; (try simp only [hcs, beq_iff_eq, ge_iff_le, gt_iff_lt] at hg'); ((try simp (disch := omega) only [hg, go_sem, wrap_n]) <;> (repeat' with_reducible refine And.intro ?_ ?_) <;> (try (with_reducible refine hK _ ?_; clear hK K))))))
                                                            | omega
  (refine aend_retc ?_ rfl ?_ ?_ ?_ ?_; (focus (first | exact .inl rfl | exact .inr rfl)); (iterate 3 (focus ((try simp (disch := omega) only [go_sem, wrap_n]) <;> (try omega) <;> fail))); (try simp (disch := omega) only [go_sem, wrap_n, I, B, S, inj, List.cons.injEq, and_true, true_and, and_self]))
def getT (t : ATree) (key : List UInt8) : ANode × Int := if key ∈ pathsT t then (nd t (place (pathsT t) key), 0) else (default, 7)
theorem getT_c (t : ATree) (key : List UInt8) (h : t.nodes.length * 88 ≤ 140737488351232) (hr : Rises (pathsT t)) : acall Tryd.prog [] 35 [t.av, S key] (ret (.tup [(getT t key).1.av, I (getT t key).2])) := by
  by_cases hm : key ∈ pathsT t
  · have hp := (place_found hr hm).1
    rw [pathsT_len] at hp
    unfold getT
    rw [if_pos hm]
    refine acall_of tabOk Tryd.func35 rfl (by kernel_rfl) (by simp [Tryd.ntmps35]) ?_; simp only [Tryd.ntmps35, Tryd.results35, List.toList_toArray, apar, List.length_nil, List.length_cons, Nat.reduceAdd]
    repeat' first
      | (with_reducible first | refine AWP.seq ?_ | refine thenA_n ?_ | refine thenA_r ?_ | refine thenA_e ?_ | refine blkA_n ?_ | refine blkA_r ?_ | refine blkA_e ?_ | refine blkA_x (by decide) ?_ | refine AWP.skip ?_ | refine AWP.ret ?_ | refine AWP.exit ?_ | refine AWP.block ?_)
      | (with_reducible refine AWP.cond rfl ?_ ?_ <;> intro hc <;> (try simp only [hcs, beq_iff_eq, ge_iff_le, gt_iff_lt] at hc))
      | ((first
        | (with_reducible first | refine AWP.region tabOk ?_ | refine AWP.quietC mixed tabOk (by decide +kernel) ?_ | refine AWP.draw mixed tabOk (by decide +kernel) ?_ | refine AWP.drawE mixed tabOk (by decide +kernel) ?_ | refine AWP.drawG mixed tabOk (by decide +kernel) ?_); intro K hK
        | ((first | refine acallH_sc ((findT_c t key h hr).re (by rw [decide_eq_true hm])) rfl rfl ?_ ?_ ?_ | refine acallQ_sc ((findT_c t key h hr).re (by rw [decide_eq_true hm])) rfl rfl ?_ ?_ ?_); iterate 2 (focus ((try simp (disch := omega) only [go_sem, wrap_n]) <;> (try omega) <;> fail)))
        | ((first | refine acallH_anyr ((findT_c t key h hr).re (by rw [decide_eq_true hm])) rfl ?_ ?_); (focus ((try simp (disch := omega) only [go_sem, wrap_n]) <;> (try omega) <;> fail)))
        | ((first | refine acallH_scx ((findT_c t key h hr).re (by rw [decide_eq_true hm])) rfl ?_ ?_ | refine acallQ_scx ((findT_c t key h hr).re (by rw [decide_eq_true hm])) rfl ?_ ?_ | refine acallH_anyx ((findT_c t key h hr).re (by rw [decide_eq_true hm])) ?_ ?_); (focus ((try simp (disch := omega) only [go_sem, wrap_n]) <;> (try omega) <;> fail)))); ((try simp (disch := omega) only [go_sem, wrap_n]) <;> (repeat' with_reducible refine And.intro ?_ ?_) <;> (try (with_reducible refine hK _ ?_; clear hK K))))
      | ((first | (with_reducible refine aunder_i ?_ ?_ <;> intro hg) | with_reducible intro hg) <;> (first | (exfalso; simp at hg; done) | (have hg' := hg; (try simp only [hcs, beq_iff_eq, ge_iff_le, gt_iff_lt] at hg'); ((try simp (disch := omega) only [hg, go_sem, wrap_n]) <;> (repeat' with_reducible refine And.intro ?_ ?_) <;> (try (with_reducible refine hK _ ?_; clear hK K))))))
                                                              | omega
    (refine aend_retc ?_ rfl ?_ ?_ ?_ ?_; (focus (first | exact .inl rfl | exact .inr rfl)); (iterate 3 (focus ((try simp (disch := omega) only [go_sem, wrap_n, nd]) <;> (try omega) <;> fail))); (try simp (disch := omega) only [go_sem, wrap_n, nd, I, B, S, inj, List.cons.injEq, and_true, true_and, and_self]))
  · unfold getT
    rw [if_neg hm]
    refine acall_of tabOk Tryd.func35 rfl (by kernel_rfl) (by simp [Tryd.ntmps35]) ?_; simp only [Tryd.ntmps35, Tryd.results35, List.toList_toArray, apar, List.length_nil, List.length_cons, Nat.reduceAdd]
    repeat' first
      | (with_reducible first | refine AWP.seq ?_ | refine thenA_n ?_ | refine thenA_r ?_ | refine thenA_e ?_ | refine blkA_n ?_ | refine blkA_r ?_ | refine blkA_e ?_ | refine blkA_x (by decide) ?_ | refine AWP.skip ?_ | refine AWP.ret ?_ | refine AWP.exit ?_ | refine AWP.block ?_)
      | (with_reducible refine AWP.cond rfl ?_ ?_ <;> intro hc <;> (try simp only [hcs, beq_iff_eq, ge_iff_le, gt_iff_lt] at hc))
      | ((first
        | (with_reducible first | refine AWP.region tabOk ?_ | refine AWP.quietC mixed tabOk (by decide +kernel) ?_ | refine AWP.draw mixed tabOk (by decide +kernel) ?_ | refine AWP.drawE mixed tabOk (by decide +kernel) ?_ | refine AWP.drawG mixed tabOk (by decide +kernel) ?_); intro K hK
        | ((first | refine acallH_sc ((findT_c t key h hr).re (by rw [decide_eq_false hm])) rfl rfl ?_ ?_ ?_ | refine acallQ_sc ((findT_c t key h hr).re (by rw [decide_eq_false hm])) rfl rfl ?_ ?_ ?_); iterate 2 (focus ((try simp (disch := omega) only [go_sem, wrap_n]) <;> (try omega) <;> fail)))
        | ((first | refine acallH_anyr ((findT_c t key h hr).re (by rw [decide_eq_false hm])) rfl ?_ ?_); (focus ((try simp (disch := omega) only [go_sem, wrap_n]) <;> (try omega) <;> fail)))
        | ((first | refine acallH_scx ((findT_c t key h hr).re (by rw [decide_eq_false hm])) rfl ?_ ?_ | refine acallQ_scx ((findT_c t key h hr).re (by rw [decide_eq_false hm])) rfl ?_ ?_ | refine acallH_anyx ((findT_c t key h hr).re (by rw [decide_eq_false hm])) ?_ ?_); (focus ((try simp (disch := omega) only [go_sem, wrap_n]) <;> (try omega) <;> fail)))); ((try simp (disch := omega) only [go_sem, wrap_n]) <;> (repeat' with_reducible refine And.intro ?_ ?_) <;> (try (with_reducible refine hK _ ?_; clear hK K))))
      | ((first | (with_reducible refine aunder_i ?_ ?_ <;> intro hg) | with_reducible intro hg) <;> (first | (exfalso; simp at hg; done) | (have hg' := hg; (try simp only [hcs, beq_iff_eq, ge_iff_le, gt_iff_lt] at hg'); ((try simp (disch := omega) only [hg, go_sem, wrap_n]) <;> (repeat' with_reducible refine And.intro ?_ ?_) <;> (try (with_reducible refine hK _ ?_; clear hK K))))))
                                                              | omega
    (refine aend_retc ?_ rfl ?_ ?_ ?_ ?_; (focus (first | exact .inl rfl | exact .inr rfl)); (iterate 3 (focus ((try simp (disch := omega) only [go_sem, wrap_n, default]) <;> (try omega) <;> fail))); (try simp (disch := omega) only [go_sem, wrap_n, default, I, B, S, inj, List.cons.injEq, and_true, true_and, and_self]))
def t00 : ATree := ⟨0, [⟨[47], [], ⟨0, 0, 0, 0, 0, 0, 0⟩⟩], []⟩
theorem new_c : acall Tryd.prog [] 39 [] (ret t00.av) := by
  refine acall_of tabOk Tryd.func39 rfl (by kernel_rfl) (by simp [Tryd.ntmps39]) ?_; simp only [Tryd.ntmps39, Tryd.results39, List.toList_toArray, apar, List.length_nil, List.length_cons, Nat.reduceAdd]
  repeat' first
    | (with_reducible first | refine AWP.seq ?_ | refine thenA_n ?_ | refine thenA_r ?_ | refine thenA_e ?_ | refine blkA_n ?_ | refine blkA_r ?_ | refine blkA_e ?_ | refine blkA_x (by decide) ?_ | refine AWP.skip ?_ | refine AWP.ret ?_ | refine AWP.exit ?_ | refine AWP.block ?_)
    | (with_reducible refine AWP.cond rfl ?_ ?_ <;> intro hc <;> (try simp only [hcs, beq_iff_eq, ge_iff_le, gt_iff_lt] at hc))
    | ((first
      | (with_reducible first | refine AWP.region tabOk ?_ | refine AWP.quietC mixed tabOk (by decide +kernel) ?_ | refine AWP.draw mixed tabOk (by decide +kernel) ?_ | refine AWP.drawE mixed tabOk (by decide +kernel) ?_ | refine AWP.drawG mixed tabOk (by decide +kernel) ?_); intro K hK); ((try simp (disch := omega) only [go_sem, wrap_n]) <;> (repeat' with_reducible refine And.intro ?_ ?_) <;> (try (with_reducible refine hK _ ?_; clear hK K))))
    | ((first | (with_reducible refine aunder_i ?_ ?_ <;> intro hg) | with_reducible intro hg) <;> (first | (exfalso; simp at hg; done) | (have hg' := hg; (try simp only [hcs, beq_iff_eq, ge_iff_le, gt_iff_lt] at hg'); ((try simp (disch := omega) only [hg, go_sem, wrap_n]) <;> (repeat' with_reducible refine And.intro ?_ ?_) <;> (try (with_reducible refine hK _ ?_; clear hK K))))))
                                                            | omega
  (refine aend_retc ?_ rfl ?_ ?_ ?_ ?_; (focus (first | exact .inl rfl | exact .inr rfl)); (iterate 3 (focus ((try simp (disch := omega) only [go_sem, wrap_n, t00]) <;> (try omega) <;> fail))); (try simp (disch := omega) only [go_sem, wrap_n, t00, I, B, S, inj, List.cons.injEq, and_true, true_and, and_self]))
theorem ref_new_c : acall Tryd.prog [] 31 [] (ret t00.av) := by
  refine acall_of tabOk Tryd.func31 rfl (by kernel_rfl) (by simp [Tryd.ntmps31]) ?_; simp only [Tryd.ntmps31, Tryd.results31, List.toList_toArray, apar, List.length_nil, List.length_cons, Nat.reduceAdd]
  repeat' first
    | (with_reducible first | refine AWP.seq ?_ | refine thenA_n ?_ | refine thenA_r ?_ | refine thenA_e ?_ | refine blkA_n ?_ | refine blkA_r ?_ | refine blkA_e ?_ | refine blkA_x (by decide) ?_ | refine AWP.skip ?_ | refine AWP.ret ?_ | refine AWP.exit ?_ | refine AWP.block ?_)
    | (with_reducible refine AWP.cond rfl ?_ ?_ <;> intro hc <;> (try simp only [hcs, beq_iff_eq, ge_iff_le, gt_iff_lt] at hc))
    | ((first
      | (with_reducible first | refine AWP.region tabOk ?_ | refine AWP.quietC mixed tabOk (by decide +kernel) ?_ | refine AWP.draw mixed tabOk (by decide +kernel) ?_ | refine AWP.drawE mixed tabOk (by decide +kernel) ?_ | refine AWP.drawG mixed tabOk (by decide +kernel) ?_); intro K hK); ((try simp (disch := omega) only [go_sem, wrap_n]) <;> (repeat' with_reducible refine And.intro ?_ ?_) <;> (try (with_reducible refine hK _ ?_; clear hK K))))
    | ((first | (with_reducible refine aunder_i ?_ ?_ <;> intro hg) | with_reducible intro hg) <;> (first | (exfalso; simp at hg; done) | (have hg' := hg; (try simp only [hcs, beq_iff_eq, ge_iff_le, gt_iff_lt] at hg'); ((try simp (disch := omega) only [hg, go_sem, wrap_n]) <;> (repeat' with_reducible refine And.intro ?_ ?_) <;> (try (with_reducible refine hK _ ?_; clear hK K))))))
                                                            | omega
  (refine aend_retc ?_ rfl ?_ ?_ ?_ ?_; (focus (first | exact .inl rfl | exact .inr rfl)); (iterate 3 (focus ((try simp (disch := omega) only [go_sem, wrap_n, t00]) <;> (try omega) <;> fail))); (try simp (disch := omega) only [go_sem, wrap_n, t00, I, B, S, inj, List.cons.injEq, and_true, true_and, and_self]))
/-- The last steps of a node's children. -/
def kidsL (t : ATree) (p : List UInt8) (n : Nat) : List (List UInt8) := (((t.nodes.take n).filter fun x => decide ((splitP x.path).2 = 0 ∧ (splitP x.path).1.1 = p))).map fun x => (splitP x.path).1.2
theorem kidsL_zero (t : ATree) (p : List UInt8) : kidsL t p 0 = [] := rfl
theorem kidsL_le (t : ATree) (p : List UInt8) (n : Nat) : (kidsL t p n).length ≤ n := by
  unfold kidsL; rw [List.length_map]
  exact Nat.le_trans (List.length_filter_le _ _) (List.length_take_le _ _)
theorem kidsL_succ (t : ATree) (p : List UInt8) (n : Nat) (h : n < t.nodes.length) : kidsL t p (n + 1) = if (splitP (t.nodes.getD n default).path).2 = 0 ∧ (splitP (t.nodes.getD n default).path).1.1 = p then kidsL t p n ++ [(splitP (t.nodes.getD n default).path).1.2] else kidsL t p n := by
  unfold kidsL
  rw [take_snoc _ n h, List.filter_append]
  by_cases e : (splitP (t.nodes.getD n default).path).2 = 0 ∧ (splitP (t.nodes.getD n default).path).1.1 = p
  · rw [if_pos e, List.filter_cons_of_pos (by simpa using e), List.map_append]; rfl
  · rw [if_neg e, List.filter_cons_of_neg (by simpa using e), List.filter_nil, List.append_nil]
def kidsT (t : ATree) (p : List UInt8) : List (List UInt8) × Int := if p ∈ pathsT t then (kidsL t p t.nodes.length, 0) else ([], 7)
theorem node_okS {t : ATree} (hw : t.wf) (k : Nat) : okS (t.nodes.getD k default).path ∧ okS (t.nodes.getD k default).data := by
  by_cases e : k < t.nodes.length
  · have := hw.2.1.2 _ (getD_mem t.nodes k e)
    exact ⟨this.1, this.2.1⟩
  · rw [List.getD_eq_getElem?_getD, List.getElem?_eq_none (by omega)]; exact ⟨show okS [] by unfold okS; decide, show okS [] by unfold okS; decide⟩
theorem kids_c (t : ATree) (p : List UInt8) (hw : t.wf) (hr : Rises (pathsT t)) : acall Tryd.prog [] 37 [t.av, S p] (ret (.tup [.d (.sl 1 ((kidsT t p).1.map srow)), I (kidsT t p).2])) := by
  have h := hw.2.1.1
  by_cases hm : p ∈ pathsT t
  · unfold kidsT
    rw [if_pos hm]
    refine acall_of tabOk Tryd.func37 rfl (by kernel_rfl) (by simp [Tryd.ntmps37]) ?_; simp only [Tryd.ntmps37, Tryd.results37, List.toList_toArray, apar, List.length_nil, List.length_cons, Nat.reduceAdd]
    repeat' first
      | (with_reducible first | refine AWP.seq ?_ | refine thenA_n ?_ | refine thenA_r ?_ | refine thenA_e ?_ | refine blkA_n ?_ | refine blkA_r ?_ | refine blkA_e ?_ | refine blkA_x (by decide) ?_ | refine AWP.skip ?_ | refine AWP.ret ?_ | refine AWP.exit ?_ | refine AWP.block ?_)
      | (with_reducible refine AWP.cond rfl ?_ ?_ <;> intro hc <;> (try simp only [hcs, beq_iff_eq, ge_iff_le, gt_iff_lt] at hc))
      | ((first
        | (with_reducible first | refine AWP.region tabOk ?_ | refine AWP.quietC mixed tabOk (by decide +kernel) ?_ | refine AWP.draw mixed tabOk (by decide +kernel) ?_ | refine AWP.drawE mixed tabOk (by decide +kernel) ?_ | refine AWP.drawG mixed tabOk (by decide +kernel) ?_); intro K hK
        | ((first | refine acallH_sc ((findT_c t p h hr).re (by rw [decide_eq_true hm])) rfl rfl ?_ ?_ ?_ | refine acallQ_sc ((findT_c t p h hr).re (by rw [decide_eq_true hm])) rfl rfl ?_ ?_ ?_); iterate 2 (focus ((try simp (disch := omega) only [go_sem, wrap_n]) <;> (try omega) <;> fail)))
        | ((first | refine acallH_anyr ((findT_c t p h hr).re (by rw [decide_eq_true hm])) rfl ?_ ?_); (focus ((try simp (disch := omega) only [go_sem, wrap_n]) <;> (try omega) <;> fail)))
        | ((first | refine acallH_scx ((findT_c t p h hr).re (by rw [decide_eq_true hm])) rfl ?_ ?_ | refine acallQ_scx ((findT_c t p h hr).re (by rw [decide_eq_true hm])) rfl ?_ ?_ | refine acallH_anyx ((findT_c t p h hr).re (by rw [decide_eq_true hm])) ?_ ?_); (focus ((try simp (disch := omega) only [go_sem, wrap_n]) <;> (try omega) <;> fail)))); ((try simp (disch := omega) only [go_sem, wrap_n]) <;> (repeat' with_reducible refine And.intro ?_ ?_) <;> (try (with_reducible refine hK _ ?_; clear hK K))))
      | ((first | (with_reducible refine aunder_i ?_ ?_ <;> intro hg) | with_reducible intro hg) <;> (first | (exfalso; simp at hg; done) | (have hg' := hg; (try simp only [hcs, beq_iff_eq, ge_iff_le, gt_iff_lt] at hg'); ((try simp (disch := omega) only [hg, go_sem, wrap_n]) <;> (repeat' with_reducible refine And.intro ?_ ?_) <;> (try (with_reducible refine hK _ ?_; clear hK K))))))
                                                              | omega
    refine AWP.weaken (SImp.nilOwn 8 1 rfl) ?_
    simp only [go_sem]
    refine AWP.loopB (ι := Nat) (fun k => k ≤ t.nodes.length) (fun k => t.nodes.length - k) [1, 23, 24] (fun k => [(25, I k), (8, .osl 1 1 0 (kidsL t p k).length)]) (fun k => [.cells [.d (.int .i64 t.zxid), .d (.sl 9 (t.nodes.map ANode.row)), .d (.sl 1 (t.sessions.map irow))], .rows 1 ((kidsL t p k).map srow)]) 0 ?_ ?_ ?_
    · omega
    · simp only [go_sem, kidsL_zero]; (refine SImp.same ?_; simp (disch := omega) only [go_sem, wrap_n, Int.natCast_add])
    intro k hk
    have hok := (node_okS hw k).1
    have hkl := kidsL_le t p k
    simp only [go_sem]
    repeat' first
      | (with_reducible first | refine AWP.seq ?_ | refine thenA_n ?_ | refine thenA_r ?_ | refine thenA_e ?_ | refine blkA_n ?_ | refine blkA_r ?_ | refine blkA_e ?_ | refine blkA_x (by decide) ?_ | refine AWP.skip ?_ | refine AWP.ret ?_ | refine AWP.exit ?_ | refine AWP.block ?_)
      | (with_reducible refine AWP.cond rfl ?_ ?_ <;> intro hc <;> (try simp only [hcs, beq_iff_eq, ge_iff_le, gt_iff_lt] at hc))
      | ((first
        | (with_reducible first | refine AWP.region tabOk ?_ | refine AWP.quietC mixed tabOk (by decide +kernel) ?_ | refine AWP.draw mixed tabOk (by decide +kernel) ?_ | refine AWP.drawE mixed tabOk (by decide +kernel) ?_ | refine AWP.drawG mixed tabOk (by decide +kernel) ?_); intro K hK
        | ((first | refine acallH_sc (split_c _ hok) rfl rfl ?_ ?_ ?_ | refine acallQ_sc (split_c _ hok) rfl rfl ?_ ?_ ?_); iterate 2 (focus ((try simp (disch := omega) only [go_sem, wrap_n, srow_rsnoc, take_map_len]) <;> (try omega) <;> fail)))
        | ((first | refine acallH_anyr (split_c _ hok) rfl ?_ ?_); (focus ((try simp (disch := omega) only [go_sem, wrap_n, srow_rsnoc, take_map_len]) <;> (try omega) <;> fail)))
        | ((first | refine acallH_scx (split_c _ hok) rfl ?_ ?_ | refine acallQ_scx (split_c _ hok) rfl ?_ ?_ | refine acallH_anyx (split_c _ hok) ?_ ?_); (focus ((try simp (disch := omega) only [go_sem, wrap_n, srow_rsnoc, take_map_len]) <;> (try omega) <;> fail)))); ((try simp (disch := omega) only [go_sem, wrap_n, srow_rsnoc, take_map_len]) <;> (repeat' with_reducible refine And.intro ?_ ?_) <;> (try (with_reducible refine hK _ ?_; clear hK K))))
      | ((first | (with_reducible refine aunder_i ?_ ?_ <;> intro hg) | with_reducible intro hg) <;> (first | (exfalso; simp at hg; done) | (have hg' := hg; (try simp only [hcs, beq_iff_eq, ge_iff_le, gt_iff_lt] at hg'); ((try simp (disch := omega) only [hg, go_sem, wrap_n, srow_rsnoc, take_map_len]) <;> (repeat' with_reducible refine And.intro ?_ ?_) <;> (try (with_reducible refine hK _ ?_; clear hK K))))))
                                                              | omega
    · refine ⟨k + 1, by omega, by omega, ?_⟩
      rw [kidsL_succ t p k (by assumption), if_pos hc]
      (refine SImp.frame [0, 4] rfl (by intro k hk; first | (simp at hk <;> (simp; omega)) | (simp only [List.mem_cons, List.not_mem_nil, or_false] at hk; simp only [List.length_cons, List.length_nil]; omega)) (by decide) (fun k hk => by first | omega | (rcases k with _ | _ | _ | _ | k <;> first | rfl | omega)) ?_ ?_ <;> simp (disch := omega) only [go_sem, wrap_n, Int.natCast_add, List.length_append] <;> (try rfl))
    · refine ⟨k + 1, by omega, by omega, ?_⟩
      have hc2 : ¬ ((splitP (t.nodes.getD k default).path).2 = 0 ∧ (splitP (t.nodes.getD k default).path).1.1 = p) := by
        rintro ⟨e1, e2⟩
        rcases hc with h | h
        · exact h e1
        · exact h e2
      rw [kidsL_succ t p k (by assumption), if_neg hc2]
      (refine SImp.frame [0, 1] rfl (by intro k hk; first | (simp at hk <;> (simp; omega)) | (simp only [List.mem_cons, List.not_mem_nil, or_false] at hk; simp only [List.length_cons, List.length_nil]; omega)) (by decide) (fun k hk => by first | omega | (rcases k with _ | _ | _ | _ | k <;> first | rfl | omega)) ?_ ?_ <;> simp (disch := omega) only [go_sem, wrap_n, Int.natCast_add, true_and] <;> (try rfl))
    · rw [show k = t.nodes.length from by omega]
      (refine aend_retc ?_ rfl ?_ ?_ ?_ ?_; (focus (first | exact .inl rfl | exact .inr rfl)); (iterate 3 (focus ((try simp (disch := omega) only [go_sem, wrap_n]) <;> (try omega) <;> fail))); (try simp (disch := omega) only [go_sem, wrap_n, I, B, S, inj, List.cons.injEq, and_true, true_and, and_self]))
  · unfold kidsT
    rw [if_neg hm]
    refine acall_of tabOk Tryd.func37 rfl (by kernel_rfl) (by simp [Tryd.ntmps37]) ?_; simp only [Tryd.ntmps37, Tryd.results37, List.toList_toArray, apar, List.length_nil, List.length_cons, Nat.reduceAdd]
    repeat' first
      | (with_reducible first | refine AWP.seq ?_ | refine thenA_n ?_ | refine thenA_r ?_ | refine thenA_e ?_ | refine blkA_n ?_ | refine blkA_r ?_ | refine blkA_e ?_ | refine blkA_x (by decide) ?_ | refine AWP.skip ?_ | refine AWP.ret ?_ | refine AWP.exit ?_ | refine AWP.block ?_)
      | (with_reducible refine AWP.cond rfl ?_ ?_ <;> intro hc <;> (try simp only [hcs, beq_iff_eq, ge_iff_le, gt_iff_lt] at hc))
      | ((first
        | (with_reducible first | refine AWP.region tabOk ?_ | refine AWP.quietC mixed tabOk (by decide +kernel) ?_ | refine AWP.draw mixed tabOk (by decide +kernel) ?_ | refine AWP.drawE mixed tabOk (by decide +kernel) ?_ | refine AWP.drawG mixed tabOk (by decide +kernel) ?_); intro K hK
        | ((first | refine acallH_sc ((findT_c t p h hr).re (by rw [decide_eq_false hm])) rfl rfl ?_ ?_ ?_ | refine acallQ_sc ((findT_c t p h hr).re (by rw [decide_eq_false hm])) rfl rfl ?_ ?_ ?_); iterate 2 (focus ((try simp (disch := omega) only [go_sem, wrap_n]) <;> (try omega) <;> fail)))
        | ((first | refine acallH_anyr ((findT_c t p h hr).re (by rw [decide_eq_false hm])) rfl ?_ ?_); (focus ((try simp (disch := omega) only [go_sem, wrap_n]) <;> (try omega) <;> fail)))
        | ((first | refine acallH_scx ((findT_c t p h hr).re (by rw [decide_eq_false hm])) rfl ?_ ?_ | refine acallQ_scx ((findT_c t p h hr).re (by rw [decide_eq_false hm])) rfl ?_ ?_ | refine acallH_anyx ((findT_c t p h hr).re (by rw [decide_eq_false hm])) ?_ ?_); (focus ((try simp (disch := omega) only [go_sem, wrap_n]) <;> (try omega) <;> fail)))); ((try simp (disch := omega) only [go_sem, wrap_n]) <;> (repeat' with_reducible refine And.intro ?_ ?_) <;> (try (with_reducible refine hK _ ?_; clear hK K))))
      | ((first | (with_reducible refine aunder_i ?_ ?_ <;> intro hg) | with_reducible intro hg) <;> (first | (exfalso; simp at hg; done) | (have hg' := hg; (try simp only [hcs, beq_iff_eq, ge_iff_le, gt_iff_lt] at hg'); ((try simp (disch := omega) only [hg, go_sem, wrap_n]) <;> (repeat' with_reducible refine And.intro ?_ ?_) <;> (try (with_reducible refine hK _ ?_; clear hK K))))))
                                                              | omega
    (refine aend_retc ?_ rfl ?_ ?_ ?_ ?_; (focus (first | exact .inl rfl | exact .inr rfl)); (iterate 3 (focus ((try simp (disch := omega) only [go_sem, wrap_n]) <;> (try omega) <;> fail))); (try simp (disch := omega) only [go_sem, wrap_n, I, B, S, inj, List.cons.injEq, and_true, true_and, and_self]))
end Go.Proofs.YtmpfhalheaeibaaDoor
