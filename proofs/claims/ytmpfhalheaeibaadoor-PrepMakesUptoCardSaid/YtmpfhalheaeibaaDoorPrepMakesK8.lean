/- A part of what PrepMakes leans on: texts of this claim, one behind the other. No condition. -/
import Derived.Test.YtmpfhalheaeibaaDoorPrepMakesK7
namespace Go.Proofs.YtmpfhalheaeibaaDoor
set_option linter.unusedVariables false
set_option linter.unusedSimpArgs false
open Go Go.RowKit
set_option maxRecDepth 100000
set_option linter.unusedSimpArgs false
def pathsT (t : ATree) : List (List UInt8) := t.nodes.map ANode.path
def nd (t : ATree) (k : Nat) : ANode := t.nodes.getD k default
def sessOk (l : List Int) (k : Nat) : Prop := 1 ≤ l.getD k default ∧ l.getD k default ≤ 2147483647 ∧ (0 < k → l.getD (k - 1) default < l.getD k default)
instance (l : List Int) (k : Nat) : Decidable (sessOk l k) := by unfold sessOk; infer_instance
def nodeA (t : ATree) (k : Nat) : Prop := goodP (nd t k).path = true ∧ (nd t k).data.length ≤ 256 ∧ (0 < k → (nd t (k - 1)).path < (nd t k).path)
instance (t : ATree) (k : Nat) : Decidable (nodeA t k) := by unfold nodeA; infer_instance
def statB (t : ATree) (s : AStat) : Prop := 0 ≤ s.version ∧ s.version ≤ 2147483647 ∧ 0 ≤ s.cversion ∧ s.cversion ≤ 2147483647 ∧ 0 ≤ s.czxid ∧ s.czxid ≤ s.mzxid ∧ s.czxid ≤ s.pzxid ∧ s.mzxid ≤ t.zxid ∧ s.pzxid ≤ t.zxid
instance (t : ATree) (s : AStat) : Decidable (statB t s) := by unfold statB; infer_instance
def ownB (t : ATree) (s : AStat) : Prop := s.owner ≠ 0 → s.owner ∈ t.sessions ∧ s.kids = 0
instance (t : ATree) (s : AStat) : Decidable (ownB t s) := by unfold ownB; infer_instance
def dirT (t : ATree) (k : Nat) : List UInt8 := (splitP (nd t k).path).1.1
def kidsN (t : ATree) (p : List UInt8) (n : Nat) : Nat := ((List.range n).filter fun j => decide (dirT t j = p)).length
def upB (t : ATree) (k : Nat) : Prop := k = 0 ∨ dirT t k ∈ pathsT t
instance (t : ATree) (k : Nat) : Decidable (upB t k) := by unfold upB; infer_instance
def headOk (t : ATree) : Prop := 1 ≤ t.nodes.length ∧ t.nodes.length ≤ 400 ∧ (nd t 0).path = [47] ∧ (nd t 0).stat.owner = 0 ∧ goodZ t.zxid
instance (t : ATree) : Decidable (headOk t) := by unfold headOk; infer_instance
def goodTr (t : ATree) : Bool := decide (headOk t ∧ (∀ k, k < t.sessions.length → sessOk t.sessions k) ∧ (∀ k, k < t.nodes.length → nodeA t k) ∧
  ∀ k, k < t.nodes.length → statB t (nd t k).stat ∧ ownB t (nd t k).stat ∧ upB t k ∧ (nd t k).stat.kids = kidsN t (nd t k).path t.nodes.length)
theorem goodTr_iff {t : ATree} : goodTr t = true ↔ headOk t ∧ (∀ k, k < t.sessions.length → sessOk t.sessions k) ∧ (∀ k, k < t.nodes.length → nodeA t k) ∧
    ∀ k, k < t.nodes.length → statB t (nd t k).stat ∧ ownB t (nd t k).stat ∧ upB t k ∧ (nd t k).stat.kids = kidsN t (nd t k).path t.nodes.length := by unfold goodTr; rw [decide_eq_true_eq]
theorem pathsT_get (t : ATree) (k : Nat) : (pathsT t).getD k [] = (nd t k).path := getD_map ANode.path t.nodes k default
theorem pathsT_len (t : ATree) : (pathsT t).length = t.nodes.length := by unfold pathsT; simp
theorem rises_sess {l : List Int} (h : ∀ k, k < l.length → sessOk l k) : RisesI l := fun k hk => by
  have := (h (k + 1) (by omega)).2.2 (by omega)
  simpa using this
theorem rises_paths {t : ATree} (h : ∀ k, k < t.nodes.length → nodeA t k) : Rises (pathsT t) := fun k hk => by
  rw [pathsT_len] at hk
  have := (h (k + 1) hk).2.2 (by omega)
  rw [pathsT_get, pathsT_get]
  simpa using this
theorem good_rises {t : ATree} (h : goodTr t = true) : Rises (pathsT t) := rises_paths (goodTr_iff.1 h).2.2.1
theorem good_sess {t : ATree} (h : goodTr t = true) : RisesI t.sessions := rises_sess (goodTr_iff.1 h).2.1
theorem good_root {t : ATree} (h : goodTr t = true) : headOk t := (goodTr_iff.1 h).1
theorem findU_c (t : ATree) (key : List UInt8) (h : t.nodes.length * 88 ≤ 140737488351232) : acall Tryd.prog [] 92 [t.av, S key] (ret (.tup [I (bsN (pathsT t) key), B (foundN (pathsT t) key)])) := by
  unfold pathsT
  refine zi tabOk Tryd.func92 rfl (by kernel_rfl) (by simp [Tryd.ntmps92]) ?_; simp only [Tryd.ntmps92, Tryd.results92, List.toList_toArray, apar, List.length_nil, List.length_cons, Nat.reduceAdd]
  (repeat' first
| (with_reducible refine AR.f ?_)
| refine zb (by decide) ?_
| (with_reducible refine AWP.cond rfl ?_ ?_ <;> intro hc <;> (try simp only [hcs, beq_iff_eq, ge_iff_le, gt_iff_lt] at hc))
| ((first | ((first | (with_reducible first | refine zR ?_ | refine zQ (by decide +kernel) ?_ | refine zD (by decide +kernel) ?_ | refine zE (by decide +kernel) ?_ | refine zG (by decide +kernel) ?_)); intro K hK) | ((first | refine zA (bsNodeU_c t.nodes key h) ?_ ?_ ?_ ?_ ?_); (focus exact rfl); (focus exact rfl); iterate 2 (focus ((try simp (disch := omega) only [go_sem, wn]) <;> (try omega) <;> fail))) | ((first | refine zN (bsNodeU_c t.nodes key h) rfl ?_ ?_); (focus ((try simp (disch := omega) only [go_sem, wn]) <;> (try omega) <;> fail))) | (first | ((first | refine zX (bsNodeU_c t.nodes key h) rfl ?_ ?_ | refine zy (bsNodeU_c t.nodes key h) ?_ ?_); (focus ((try simp (disch := omega) only [go_sem, wn]) <;> (try omega) <;> fail)))) | ((first | (with_reducible refine zu ?_ ?_ <;> intro hg) | with_reducible intro hg) <;> (first | (exfalso; simp at hg; done) | (have hg' := hg; (try simp only [hcs, beq_iff_eq, ge_iff_le, gt_iff_lt] at hg'); (try simp only [hg]))))) <;> (try simp (disch := omega) only [go_sem, wn]) <;> (repeat' with_reducible refine And.intro ?_ ?_) <;> (try (with_reducible refine hK _ ?_; clear hK K)))
| omega)
  (refine zF rfl ?_ ?_ ?_ ?_; (iterate 3 (focus ((try simp (disch := omega) only [go_sem, wn]) <;> (try omega) <;> fail))); (try simp (disch := omega) only [go_sem, wn, I, B, S, inj, List.cons.injEq, and_true, true_and, and_self]))
theorem findT_c (t : ATree) (key : List UInt8) (h : t.nodes.length * 88 ≤ 140737488351232) (hr : Rises (pathsT t)) : acall Tryd.prog [] 92 [t.av, S key] (ret (.tup [I (place (pathsT t) key), B (decide (key ∈ pathsT t))])) := by
  have := findU_c t key h
  rwa [bsN_rises hr, foundN_rises hr] at this
theorem open_c (t : ATree) (s : Int) (h : t.sessions.length * 8 ≤ 140737488351232) (hr : RisesI t.sessions) : acall Tryd.prog [] 40 [t.av, I s] (ret (B (decide (s ∈ t.sessions)))) := by
  refine zi tabOk Tryd.func40 rfl (by kernel_rfl) (by simp [Tryd.ntmps40]) ?_; simp only [Tryd.ntmps40, Tryd.results40, List.toList_toArray, apar, List.length_nil, List.length_cons, Nat.reduceAdd]
  (repeat' first
| (with_reducible refine AR.f ?_)
| refine zb (by decide) ?_
| (with_reducible refine AWP.cond rfl ?_ ?_ <;> intro hc <;> (try simp only [hcs, beq_iff_eq, ge_iff_le, gt_iff_lt] at hc))
| ((first | ((first | (with_reducible first | refine zR ?_ | refine zQ (by decide +kernel) ?_ | refine zD (by decide +kernel) ?_ | refine zE (by decide +kernel) ?_ | refine zG (by decide +kernel) ?_)); intro K hK) | ((first | refine zA (bsInt_c t.sessions s h hr) ?_ ?_ ?_ ?_ ?_); (focus exact rfl); (focus exact rfl); iterate 2 (focus ((try simp (disch := omega) only [go_sem, wn]) <;> (try omega) <;> fail))) | ((first | refine zN (bsInt_c t.sessions s h hr) rfl ?_ ?_); (focus ((try simp (disch := omega) only [go_sem, wn]) <;> (try omega) <;> fail))) | (first | ((first | refine zX (bsInt_c t.sessions s h hr) rfl ?_ ?_ | refine zy (bsInt_c t.sessions s h hr) ?_ ?_); (focus ((try simp (disch := omega) only [go_sem, wn]) <;> (try omega) <;> fail)))) | ((first | (with_reducible refine zu ?_ ?_ <;> intro hg) | with_reducible intro hg) <;> (first | (exfalso; simp at hg; done) | (have hg' := hg; (try simp only [hcs, beq_iff_eq, ge_iff_le, gt_iff_lt] at hg'); (try simp only [hg]))))) <;> (try simp (disch := omega) only [go_sem, wn]) <;> (repeat' with_reducible refine And.intro ?_ ?_) <;> (try (with_reducible refine hK _ ?_; clear hK K)))
| omega)
  (refine zF rfl ?_ ?_ ?_ ?_; (iterate 3 (focus ((try simp (disch := omega) only [go_sem, wn]) <;> (try omega) <;> fail))); (try simp (disch := omega) only [go_sem, wn, I, B, S, inj, List.cons.injEq, and_true, true_and, and_self]))
def getT (t : ATree) (key : List UInt8) : ANode × Int := if key ∈ pathsT t then (nd t (place (pathsT t) key), 0) else (default, 7)
theorem getT_c (t : ATree) (key : List UInt8) (h : t.nodes.length * 88 ≤ 140737488351232) (hr : Rises (pathsT t)) : acall Tryd.prog [] 35 [t.av, S key] (ret (.tup [(getT t key).1.av, I (getT t key).2])) := by
  by_cases hm : key ∈ pathsT t
  · have hp := (zc hr hm).1
    rw [pathsT_len] at hp
    unfold getT
    rw [if_pos hm]
    refine zi tabOk Tryd.func35 rfl (by kernel_rfl) (by simp [Tryd.ntmps35]) ?_; simp only [Tryd.ntmps35, Tryd.results35, List.toList_toArray, apar, List.length_nil, List.length_cons, Nat.reduceAdd]
    (repeat' first
  | (with_reducible refine AR.f ?_)
  | refine zb (by decide) ?_
  | (with_reducible refine AWP.cond rfl ?_ ?_ <;> intro hc <;> (try simp only [hcs, beq_iff_eq, ge_iff_le, gt_iff_lt] at hc))
  | ((first | ((first | (with_reducible first | refine zR ?_ | refine zQ (by decide +kernel) ?_ | refine zD (by decide +kernel) ?_ | refine zE (by decide +kernel) ?_ | refine zG (by decide +kernel) ?_)); intro K hK) | ((first | refine zA ((findT_c t key h hr).re (by rw [decide_eq_true hm])) ?_ ?_ ?_ ?_ ?_); (focus exact rfl); (focus exact rfl); iterate 2 (focus ((try simp (disch := omega) only [go_sem, wn]) <;> (try omega) <;> fail))) | ((first | refine zN ((findT_c t key h hr).re (by rw [decide_eq_true hm])) rfl ?_ ?_); (focus ((try simp (disch := omega) only [go_sem, wn]) <;> (try omega) <;> fail))) | (first | ((first | refine zX ((findT_c t key h hr).re (by rw [decide_eq_true hm])) rfl ?_ ?_ | refine zy ((findT_c t key h hr).re (by rw [decide_eq_true hm])) ?_ ?_); (focus ((try simp (disch := omega) only [go_sem, wn]) <;> (try omega) <;> fail)))) | ((first | (with_reducible refine zu ?_ ?_ <;> intro hg) | with_reducible intro hg) <;> (first | (exfalso; simp at hg; done) | (have hg' := hg; (try simp only [hcs, beq_iff_eq, ge_iff_le, gt_iff_lt] at hg'); (try simp only [hg]))))) <;> (try simp (disch := omega) only [go_sem, wn]) <;> (repeat' with_reducible refine And.intro ?_ ?_) <;> (try (with_reducible refine hK _ ?_; clear hK K)))
  | omega)
    (refine zF rfl ?_ ?_ ?_ ?_; (iterate 3 (focus ((try simp (disch := omega) only [go_sem, wn, nd]) <;> (try omega) <;> fail))); (try simp (disch := omega) only [go_sem, wn, nd, I, B, S, inj, List.cons.injEq, and_true, true_and, and_self]))
  · unfold getT
    rw [if_neg hm]
    refine zi tabOk Tryd.func35 rfl (by kernel_rfl) (by simp [Tryd.ntmps35]) ?_; simp only [Tryd.ntmps35, Tryd.results35, List.toList_toArray, apar, List.length_nil, List.length_cons, Nat.reduceAdd]
    (repeat' first
  | (with_reducible refine AR.f ?_)
  | refine zb (by decide) ?_
  | (with_reducible refine AWP.cond rfl ?_ ?_ <;> intro hc <;> (try simp only [hcs, beq_iff_eq, ge_iff_le, gt_iff_lt] at hc))
  | ((first | ((first | (with_reducible first | refine zR ?_ | refine zQ (by decide +kernel) ?_ | refine zD (by decide +kernel) ?_ | refine zE (by decide +kernel) ?_ | refine zG (by decide +kernel) ?_)); intro K hK) | ((first | refine zA ((findT_c t key h hr).re (by rw [decide_eq_false hm])) ?_ ?_ ?_ ?_ ?_); (focus exact rfl); (focus exact rfl); iterate 2 (focus ((try simp (disch := omega) only [go_sem, wn]) <;> (try omega) <;> fail))) | ((first | refine zN ((findT_c t key h hr).re (by rw [decide_eq_false hm])) rfl ?_ ?_); (focus ((try simp (disch := omega) only [go_sem, wn]) <;> (try omega) <;> fail))) | (first | ((first | refine zX ((findT_c t key h hr).re (by rw [decide_eq_false hm])) rfl ?_ ?_ | refine zy ((findT_c t key h hr).re (by rw [decide_eq_false hm])) ?_ ?_); (focus ((try simp (disch := omega) only [go_sem, wn]) <;> (try omega) <;> fail)))) | ((first | (with_reducible refine zu ?_ ?_ <;> intro hg) | with_reducible intro hg) <;> (first | (exfalso; simp at hg; done) | (have hg' := hg; (try simp only [hcs, beq_iff_eq, ge_iff_le, gt_iff_lt] at hg'); (try simp only [hg]))))) <;> (try simp (disch := omega) only [go_sem, wn]) <;> (repeat' with_reducible refine And.intro ?_ ?_) <;> (try (with_reducible refine hK _ ?_; clear hK K)))
  | omega)
    (refine zF rfl ?_ ?_ ?_ ?_; (iterate 3 (focus ((try simp (disch := omega) only [go_sem, wn, default]) <;> (try omega) <;> fail))); (try simp (disch := omega) only [go_sem, wn, default, I, B, S, inj, List.cons.injEq, and_true, true_and, and_self]))
def t00 : ATree := ⟨0, [⟨[47], [], ⟨0, 0, 0, 0, 0, 0, 0⟩⟩], []⟩
theorem ref_new_c : acall Tryd.prog [] 31 [] (ret t00.av) := by
  refine zi tabOk Tryd.func31 rfl (by kernel_rfl) (by simp [Tryd.ntmps31]) ?_; simp only [Tryd.ntmps31, Tryd.results31, List.toList_toArray, apar, List.length_nil, List.length_cons, Nat.reduceAdd]
  (repeat' first
| (with_reducible refine AR.f ?_)
| refine zb (by decide) ?_
| (with_reducible refine AWP.cond rfl ?_ ?_ <;> intro hc <;> (try simp only [hcs, beq_iff_eq, ge_iff_le, gt_iff_lt] at hc))
| ((first | ((first | (with_reducible first | refine zR ?_ | refine zQ (by decide +kernel) ?_ | refine zD (by decide +kernel) ?_ | refine zE (by decide +kernel) ?_ | refine zG (by decide +kernel) ?_)); intro K hK) | ((first | (with_reducible refine zu ?_ ?_ <;> intro hg) | with_reducible intro hg) <;> (first | (exfalso; simp at hg; done) | (have hg' := hg; (try simp only [hcs, beq_iff_eq, ge_iff_le, gt_iff_lt] at hg'); (try simp only [hg]))))) <;> (try simp (disch := omega) only [go_sem, wn]) <;> (repeat' with_reducible refine And.intro ?_ ?_) <;> (try (with_reducible refine hK _ ?_; clear hK K)))
| omega)
  (refine zF rfl ?_ ?_ ?_ ?_; (iterate 3 (focus ((try simp (disch := omega) only [go_sem, wn, t00]) <;> (try omega) <;> fail))); (try simp (disch := omega) only [go_sem, wn, t00, I, B, S, inj, List.cons.injEq, and_true, true_and, and_self]))
theorem node_okS {t : ATree} (hw : t.wf) (k : Nat) : okS (t.nodes.getD k default).path ∧ okS (t.nodes.getD k default).data := by
  by_cases e : k < t.nodes.length
  · have := hw.2.1.2 _ (getD_mem t.nodes k e)
    exact ⟨this.1, this.2.1⟩
  · rw [List.getD_eq_getElem?_getD, List.getElem?_eq_none (by omega)]; exact ⟨show okS [] by unfold okS; decide, show okS [] by unfold okS; decide⟩
end Go.Proofs.YtmpfhalheaeibaaDoor
namespace Go.Proofs.YtmpfhalheaeibaaDoor
set_option linter.unusedVariables false
set_option linter.unusedSimpArgs false
open Go Go.RowKit
set_option maxRecDepth 100000
set_option linter.unusedSimpArgs false
theorem split_ne {s : List UInt8} (h : (splitP s).2 = 0) : (splitP s).1.1 ≠ [] := by
  unfold splitP at h ⊢
  split at h
  · rename_i hg
    split at h
    · cases h
    · rename_i h0
      rw [if_pos hg, if_neg h0]
      show pathOf _ ≠ []
      unfold pathOf
      split
      · decide
      · rename_i h1; exact joinL_ne h1
  · cases h
theorem split_err {s : List UInt8} (h : ¬ (splitP s).2 = 0) : (splitP s).1.1 = [] := by
  unfold splitP at h ⊢
  split at h
  · rename_i hg
    split at h
    · rename_i h0; rw [if_pos hg, if_pos h0]
    · exact absurd rfl h
  · rename_i hg; rw [if_neg hg]
theorem goodP_ne {s : List UInt8} (h : goodP s = true) : s ≠ [] := by rintro rfl; revert h; decide
theorem kidsN_zero (t : ATree) (p : List UInt8) : kidsN t p 0 = 0 := rfl
theorem kidsN_succ (t : ATree) (p : List UInt8) (k : Nat) : kidsN t p (k + 1) = kidsN t p k + if dirT t k = p then 1 else 0 := by
  unfold kidsN
  rw [List.range_succ, List.filter_append, List.length_append]
  by_cases e : dirT t k = p
  · rw [if_pos e, List.filter_cons_of_pos (by simpa using e)]; rfl
  · rw [if_neg e, List.filter_cons_of_neg (by simpa using e)]; rfl
theorem kidsN_le (t : ATree) (p : List UInt8) (k : Nat) : kidsN t p k ≤ k := by
  unfold kidsN
  exact Nat.le_trans (List.length_filter_le _ _) (by rw [List.length_range]; exact Nat.le_refl _)
theorem goodTr_no {t : ATree} (h : goodTr t = true → False) : goodTr t = false := by
  cases e : goodTr t
  · rfl
  · exact (h e).elim
theorem head_no {t : ATree} (h : ¬ headOk t) : false = goodTr t := (goodTr_no fun h2 => h (good_root h2)).symm
theorem sess_no {t : ATree} {k : Nat} (hk : k < t.sessions.length) (h : ¬ sessOk t.sessions k) : false = goodTr t := (goodTr_no fun h2 => h ((goodTr_iff.1 h2).2.1 k hk)).symm
theorem nodeA_no {t : ATree} {k : Nat} (hk : k < t.nodes.length) (h : ¬ nodeA t k) : false = goodTr t := (goodTr_no fun h2 => h ((goodTr_iff.1 h2).2.2.1 k hk)).symm
theorem nodeB_no {t : ATree} {k : Nat} (hk : k < t.nodes.length) (h : ¬ (statB t (nd t k).stat ∧ ownB t (nd t k).stat ∧ upB t k ∧ (nd t k).stat.kids = kidsN t (nd t k).path t.nodes.length)) : false = goodTr t := (goodTr_no fun h2 => h ((goodTr_iff.1 h2).2.2.2 k hk)).symm
def condP (t : ATree) (i : Nat) : Prop := ((((((((((goodP (nd t i).path = true ∧ ((nd t i).data.length : Int) ≤ 256) ∧ ((i : Int) ≤ 0 ∨ (nd t (i - 1)).path < (nd t i).path)) ∧ 0 ≤ (nd t i).stat.version) ∧ (nd t i).stat.version ≤ 2147483647) ∧ 0 ≤ (nd t i).stat.cversion) ∧ (nd t i).stat.cversion ≤ 2147483647) ∧
  0 ≤ (nd t i).stat.czxid) ∧ (nd t i).stat.czxid ≤ (nd t i).stat.mzxid) ∧ (nd t i).stat.czxid ≤ (nd t i).stat.pzxid) ∧ (nd t i).stat.mzxid ≤ t.zxid) ∧ (nd t i).stat.pzxid ≤ t.zxid
theorem condP_ok {t : ATree} {i : Nat} (h : condP t i) : nodeA t i ∧ statB t (nd t i).stat := by
  obtain ⟨⟨⟨⟨⟨⟨⟨⟨⟨⟨⟨h1, h2⟩, h3⟩, h4⟩, h5⟩, h6⟩, h7⟩, h8⟩, h9⟩, h10⟩, h11⟩, h12⟩ := h
  exact ⟨⟨h1, by omega, fun h0 => h3.resolve_left (by omega)⟩, h4, h5, h6, h7, h8, h9, h10, h11, h12⟩
theorem root_of {s : List UInt8} (hg : goodP s = true) (h : ¬ (splitP s).2 = 0) : s = [47] := by
  unfold splitP at h
  rw [if_pos hg] at h
  split at h
  · rename_i h0
    have := (good_path hg).1
    rw [h0] at this; exact this
  · exact absurd rfl h
theorem first_lt {t : ATree} : ∀ {i : Nat}, (∀ j, j ≤ i → nodeA t j) → 0 < i → (nd t 0).path < (nd t i).path
  | 0, _, h => by omega
  | i + 1, h, _ => by
    have := (h (i + 1) (Nat.le_refl _)).2.2 (by omega)
    rw [Nat.add_sub_cancel] at this
    by_cases e : i = 0
    · subst e; exact this
    · exact List.lt_trans (first_lt (fun j hj => h j (by omega)) (by omega)) this
theorem upB_err {t : ATree} {i : Nat} (hh : headOk t) (hA : ∀ j, j ≤ i → nodeA t j) (he : ¬ (splitP (nd t i).path).2 = 0) : upB t i := by
  by_cases e : i = 0
  · exact .inl e
  · have h1 := first_lt hA (by omega)
    rw [root_of (hA i (Nat.le_refl _)).1 he, hh.2.2.1] at h1
    exact absurd h1 (List.lt_irrefl _)
theorem up_no {t : ATree} {i : Nat} (hi : i < t.nodes.length) (h0 : (splitP (nd t i).path).2 = 0) (h : foundN (pathsT t) (splitP (nd t i).path).1.1 = false) : false = goodTr t := by
  refine (goodTr_no fun h2 => ?_).symm
  rw [foundN_rises (good_rises h2), decide_eq_false_iff_not] at h
  rcases ((goodTr_iff.1 h2).2.2.2 i hi).2.2.1 with e | e
  · subst e
    rw [(good_root h2).2.2.1] at h0
    exact absurd h0 (by decide)
  · exact h e
theorem own_no {t : ATree} {i : Nat} (hi : i < t.nodes.length) (h0 : ¬ (nd t i).stat.owner = 0) (h : ¬ (nd t i).stat.owner ∈ t.sessions ∨ ¬ (nd t i).stat.kids = 0) : false = goodTr t :=
  nodeB_no hi fun ⟨_, ho, _, _⟩ => by
    obtain ⟨a, b⟩ := ho h0
    rcases h with h | h
    · exact h a
    · exact h b
structure TLoop (t : ATree) (i : Nat) (m : List (List UInt8 × Int)) : Prop where
  le : i ≤ t.nodes.length
  ok : ∀ j, j < i → nodeA t j ∧ statB t (nd t j).stat ∧ ownB t (nd t j).stat ∧ upB t j
  cnt : ∀ p, p ≠ [] → mval m p = (kidsN t p i : Nat)
theorem tloop_a {t : ATree} {i : Nat} {m : List (List UInt8 × Int)} (h : TLoop t i m) (hi : i < t.nodes.length) (hc : condP t i) (ho : ownB t (nd t i).stat) (h0 : (splitP (nd t i).path).2 = 0) (hf : foundN (pathsT t) (splitP (nd t i).path).1.1 = true) :
    TLoop t (i + 1) (mset m (splitP (nd t i).path).1.1 (mval m (splitP (nd t i).path).1.1 + 1)) := by
  refine ⟨by omega, fun j hj => ?_, fun p hp => ?_⟩
  · by_cases e : j = i
    · subst e; obtain ⟨a, b⟩ := condP_ok hc; exact ⟨a, b, ho, .inr (foundN_mem hf)⟩
    · exact h.ok j (by omega)
  · have := mval_bump m (splitP (nd t i).path).1.1 p
    unfold mbump at this
    rw [this, h.cnt p hp, kidsN_succ]
    by_cases e : p = (splitP (nd t i).path).1.1
    · rw [if_pos e, if_pos (show dirT t i = p from e.symm)]; omega
    · rw [if_neg e, if_neg (show ¬ dirT t i = p from fun e2 => e e2.symm)]; omega
theorem tloop_b {t : ATree} {i : Nat} {m : List (List UInt8 × Int)} (h : TLoop t i m) (hh : headOk t) (hi : i < t.nodes.length) (hc : condP t i) (ho : ownB t (nd t i).stat) (h0 : ¬ (splitP (nd t i).path).2 = 0) : TLoop t (i + 1) m := by
  obtain ⟨a, b⟩ := condP_ok hc
  have hA : ∀ j, j ≤ i → nodeA t j := fun j hj => by
    by_cases e : j = i
    · subst e; exact a
    · exact (h.ok j (by omega)).1
  refine ⟨by omega, fun j hj => ?_, fun p hp => ?_⟩
  · by_cases e : j = i
    · subst e; exact ⟨a, b, ho, upB_err hh hA h0⟩
    · exact h.ok j (by omega)
  · rw [h.cnt p hp, kidsN_succ, if_neg (show ¬ dirT t i = p from fun e2 => hp (e2.symm.trans (split_err h0)))]; rfl
theorem tloop_w {t : ATree} {i : Nat} {m : List (List UInt8 × Int)} (h : TLoop t i m) (h4 : t.nodes.length ≤ 400) (h0 : (splitP (nd t i).path).2 = 0) : IntKind.i64.wrap (mval m (splitP (nd t i).path).1.1 + 1) = mval m (splitP (nd t i).path).1.1 + 1 := by
  have a := h.cnt _ (split_ne h0)
  have b := kidsN_le t (splitP (nd t i).path).1.1 i
  have c := h.le
  simp [IntKind.wrap, IntKind.bits, IntKind.signed]; omega
theorem own_yes {t : ATree} {i : Nat} (h : (nd t i).stat.owner ∈ t.sessions ∧ (nd t i).stat.kids = 0) : ownB t (nd t i).stat := fun _ => h
theorem own_zero {t : ATree} {i : Nat} (h : (nd t i).stat.owner = 0) : ownB t (nd t i).stat := fun h2 => absurd h h2
theorem tgood_end {t : ATree} {m : List (List UInt8 × Int)} (hh : headOk t) (hs : ∀ j, j < t.sessions.length → sessOk t.sessions j) (h : TLoop t t.nodes.length m) (hk : ∀ j, j < t.nodes.length → (nd t j).stat.kids = mval m (nd t j).path) : goodTr t = true := by
  refine goodTr_iff.2 ⟨hh, hs, fun k hk => (h.ok k hk).1, fun k hk2 => ?_⟩
  obtain ⟨a, b, c, d⟩ := h.ok k hk2
  refine ⟨b, c, d, ?_⟩
  rw [hk k hk2, h.cnt _ (goodP_ne a.1)]
theorem kids_no {t : ATree} {m : List (List UInt8 × Int)} {k : Nat} (h : TLoop t t.nodes.length m) (hk : k < t.nodes.length) (hc : ¬ (nd t k).stat.kids = mval m (nd t k).path) : false = goodTr t :=
  nodeB_no hk fun ⟨_, _, _, h2⟩ => hc (by rw [h2, h.cnt _ (goodP_ne (h.ok k hk).1.1)])
set_option maxHeartbeats 8000000 in
theorem tgood_c (t : ATree) (hw : t.wf) : acall Tryd.prog [] 34 [t.av] (ret (B (goodTr t))) := by
  have hok := node_okS hw
  obtain ⟨hz, ⟨hn, hnw⟩, ⟨hs, hsw⟩⟩ := hw
  refine zi tabOk Tryd.func34 rfl (by kernel_rfl) (by simp [Tryd.ntmps34]) ?_; simp only [Tryd.ntmps34, Tryd.results34, List.toList_toArray, apar, List.length_nil, List.length_cons, Nat.reduceAdd]
  (repeat' first
| (with_reducible refine AR.f ?_)
| refine zb (by decide) ?_
| (with_reducible refine AWP.cond rfl ?_ ?_ <;> intro hc <;> (try simp only [hcs, beq_iff_eq, ge_iff_le, gt_iff_lt] at hc))
| ((first | ((first | (with_reducible first | refine zR ?_ | refine zQ (by decide +kernel) ?_ | refine zD (by decide +kernel) ?_ | refine zE (by decide +kernel) ?_ | refine zG (by decide +kernel) ?_)); intro K hK) | ((first | refine zA (zgood_c t.zxid) ?_ ?_ ?_ ?_ ?_); (focus exact rfl); (focus exact rfl); iterate 2 (focus ((try simp (disch := omega) only [go_sem, wn]) <;> (try omega) <;> fail))) | ((first | refine zN (zgood_c t.zxid) rfl ?_ ?_); (focus ((try simp (disch := omega) only [go_sem, wn]) <;> (try omega) <;> fail))) | (first | ((first | refine zX (zgood_c t.zxid) rfl ?_ ?_ | refine zy (zgood_c t.zxid) ?_ ?_); (focus ((try simp (disch := omega) only [go_sem, wn]) <;> (try omega) <;> fail)))) | ((first | (with_reducible refine zu ?_ ?_ <;> intro hg) | with_reducible intro hg) <;> (first | (exfalso; simp at hg; done) | (have hg' := hg; (try simp only [hcs, beq_iff_eq, ge_iff_le, gt_iff_lt] at hg'); (try simp only [hg]))))) <;> (try simp (disch := omega) only [go_sem, wn]) <;> (repeat' with_reducible refine And.intro ?_ ?_) <;> (try (with_reducible refine hK _ ?_; clear hK K)))
| omega)
  · (refine zF rfl ?_ ?_ ?_ ?_; (iterate 3 (focus ((try simp (disch := omega) only [go_sem, wn]) <;> (try omega) <;> fail))); (try simp (disch := omega) only [go_sem, wn, I, B, S, inj, List.cons.injEq, and_true, true_and, and_self]))
    refine head_no fun ⟨a1, a2, a3, a4, a5⟩ => ?_
    rcases hc with (((h | h) | h) | h) | h
    · omega
    · omega
    · exact h a3
    · exact h a4
    · exact h a5
  rotate_left
  · simp_all
  · (refine zF rfl ?_ ?_ ?_ ?_; (iterate 3 (focus ((try simp (disch := omega) only [go_sem, wn]) <;> (try omega) <;> fail))); (try simp (disch := omega) only [go_sem, wn, I, B, S, inj, List.cons.injEq, and_true, true_and, and_self]))
    refine head_no fun ⟨a1, a2, a3, a4, a5⟩ => ?_
    rcases hg' with ((h | h) | h) | h
    · omega
    · omega
    · exact h a3
    · exact h a4
  have hhead : headOk t := ⟨by omega, by omega, hc.1.1.2, hc.1.2, hc.2⟩
  have h400 : t.nodes.length ≤ 400 := by omega
  clear hc hg
  refine AWP.loopS (ι := Nat) (fun k => k ≤ t.sessions.length ∧ ∀ j, j < k → sessOk t.sessions j) (fun k => t.sessions.length - k) [1, 50, 51] (fun k => [(52, I k)]) 0 ?_ (by simp (disch := omega) only [go_sem, wn, true_and]) ?_
  · exact ⟨by omega, fun j hj => by omega⟩
  intro k ⟨hk, hk2⟩
  simp only [go_sem]
  (repeat' first
| (with_reducible refine AR.f ?_)
| refine zb (by decide) ?_
| (with_reducible refine AWP.cond rfl ?_ ?_ <;> intro hc <;> (try simp only [hcs, beq_iff_eq, ge_iff_le, gt_iff_lt] at hc))
| ((first | ((first | (with_reducible first | refine zR ?_ | refine zQ (by decide +kernel) ?_ | refine zD (by decide +kernel) ?_ | refine zE (by decide +kernel) ?_ | refine zG (by decide +kernel) ?_)); intro K hK) | ((first | (with_reducible refine zu ?_ ?_ <;> intro hg) | with_reducible intro hg) <;> (first | (exfalso; simp at hg; done) | (have hg' := hg; (try simp only [hcs, beq_iff_eq, ge_iff_le, gt_iff_lt] at hg'); (try simp only [hg]))))) <;> (try simp (disch := omega) only [go_sem, wn, toNat_pr2]) <;> (repeat' with_reducible refine And.intro ?_ ?_) <;> (try (with_reducible refine hK _ ?_; clear hK K)))
| omega)
  · (refine zF rfl ?_ ?_ ?_ ?_; (iterate 3 (focus ((try simp (disch := omega) only [go_sem, wn]) <;> (try omega) <;> fail))); (try simp (disch := omega) only [go_sem, wn, I, B, S, inj, List.cons.injEq, and_true, true_and, and_self]))
    refine sess_no (k := k) (by omega) fun ⟨a1, a2, a3⟩ => ?_
    rcases hc with (h | h) | h
    · omega
    · omega
    · exact absurd (a3 (by omega)) (by omega)
  · refine ⟨k + 1, ⟨by omega, fun j hj => ?_⟩, by omega, ?_⟩
    · by_cases e : j = k
      · subst e; exact ⟨hc.1.1, hc.1.2, fun h0 => hc.2.resolve_left (by omega)⟩
      · exact hk2 j (by omega)
    (refine SImp.same ?_; simp (disch := omega) only [go_sem, wn, Int.natCast_add])
  have hss : ∀ j, j < t.sessions.length → sessOk t.sessions j := fun j hj => hk2 j (by omega)
  have hri := rises_sess hss
  clear hk2 hk hc
  refine AWP.loopB (ι := Nat × List (List UInt8 × Int)) (fun v => TLoop t v.1 v.2) (fun v => t.nodes.length - v.1) [1, 5, 80, 81] (fun v => [(82, I v.1)]) (fun v => [.cells [.d (.int .i64 t.zxid), .d (.sl 9 (t.nodes.map ANode.row)), .d (.sl 1 (t.sessions.map irow))], .map v.2]) (0, []) ?_ ?_ ?_
  · exact ⟨by simp, fun j hj => by simp at hj, fun p hp => rfl⟩
  · simp only [go_sem]; (refine SImp.same ?_; simp (disch := omega) only [go_sem, wn, Int.natCast_add])
  intro ⟨i, m⟩ hT
  simp only at hT
  have hokk := (hok i).1
  have hokd := (hok i).2
  have hle := hT.le
  simp only [go_sem]
  (repeat' first
| (with_reducible refine AR.f ?_)
| refine zb (by decide) ?_
| (with_reducible refine AWP.cond rfl ?_ ?_ <;> intro hc <;> (try simp only [hcs, beq_iff_eq, ge_iff_le, gt_iff_lt] at hc))
| ((first | ((first | (with_reducible first | refine zR ?_ | refine zQ (by decide +kernel) ?_ | refine zD (by decide +kernel) ?_ | refine zE (by decide +kernel) ?_ | refine zG (by decide +kernel) ?_)); intro K hK) | ((first | refine acallH_sc (good_c _ hokk) rfl rfl ?_ ?_ ?_ | refine acallQ_sc (good_c _ hokk) rfl rfl ?_ ?_ ?_ | refine acallH_sc (open_c t _ hs hri) rfl rfl ?_ ?_ ?_ | refine acallQ_sc (open_c t _ hs hri) rfl rfl ?_ ?_ ?_ | refine acallH_sc (split_c _ hokk) rfl rfl ?_ ?_ ?_ | refine acallQ_sc (split_c _ hokk) rfl rfl ?_ ?_ ?_ | refine acallH_sc (findU_c t _ hn) rfl rfl ?_ ?_ ?_ | refine acallQ_sc (findU_c t _ hn) rfl rfl ?_ ?_ ?_); iterate 2 (focus ((try simp (disch := omega) only [go_sem, wn, toNat_pr2, strLt_eq, List.append_eq]) <;> (try omega) <;> fail))) | ((first | refine zN (good_c _ hokk) rfl ?_ ?_ | refine zN (open_c t _ hs hri) rfl ?_ ?_ | refine zN (split_c _ hokk) rfl ?_ ?_ | refine zN (findU_c t _ hn) rfl ?_ ?_); (focus ((try simp (disch := omega) only [go_sem, wn, toNat_pr2, strLt_eq, List.append_eq]) <;> (try omega) <;> fail))) | (first | ((first | refine zX (good_c _ hokk) rfl ?_ ?_ | refine zy (good_c _ hokk) ?_ ?_); (focus ((try simp (disch := omega) only [go_sem, wn, toNat_pr2, strLt_eq, List.append_eq]) <;> (try omega) <;> fail))) | ((first | refine zX (open_c t _ hs hri) rfl ?_ ?_ | refine zy (open_c t _ hs hri) ?_ ?_); (focus ((try simp (disch := omega) only [go_sem, wn, toNat_pr2, strLt_eq, List.append_eq]) <;> (try omega) <;> fail))) | ((first | refine zX (split_c _ hokk) rfl ?_ ?_ | refine zy (split_c _ hokk) ?_ ?_); (focus ((try simp (disch := omega) only [go_sem, wn, toNat_pr2, strLt_eq, List.append_eq]) <;> (try omega) <;> fail))) | ((first | refine zX (findU_c t _ hn) rfl ?_ ?_ | refine zy (findU_c t _ hn) ?_ ?_); (focus ((try simp (disch := omega) only [go_sem, wn, toNat_pr2, strLt_eq, List.append_eq]) <;> (try omega) <;> fail)))) | ((first | (with_reducible refine zu ?_ ?_ <;> intro hg) | with_reducible intro hg) <;> (first | (exfalso; simp at hg; done) | (have hg' := hg; (try simp only [hcs, beq_iff_eq, ge_iff_le, gt_iff_lt] at hg'); (try simp only [hg]))))) <;> (try simp (disch := omega) only [go_sem, wn, toNat_pr2, strLt_eq, List.append_eq]) <;> (repeat' with_reducible refine And.intro ?_ ?_) <;> (try (with_reducible refine hK _ ?_; clear hK K)))
| omega)
  · (refine zF rfl ?_ ?_ ?_ ?_; (iterate 3 (focus ((try simp (disch := omega) only [go_sem, wn]) <;> (try omega) <;> fail))); (try simp (disch := omega) only [go_sem, wn, I, B, S, inj, List.cons.injEq, and_true, true_and, and_self]))
    refine (goodTr_no fun h2 => ?_).symm
    obtain ⟨a1, a2, a3⟩ := (goodTr_iff.1 h2).2.2.1 i (by assumption)
    obtain ⟨b1, b2, b3, b4, b5, b6, b7, b8, b9⟩ := ((goodTr_iff.1 h2).2.2.2 i (by assumption)).1
    unfold nd at a1 a2 a3 b1 b2 b3 b4 b5 b6 b7 b8 b9
    rcases hc with ((((((((((h | h) | h) | h) | h) | h) | h) | h) | h) | h) | h) | h
    · rw [a1] at h; cases h
    · omega
    · exact h.2 (a3 (by omega))
    all_goals omega
  · (refine zF rfl ?_ ?_ ?_ ?_; (iterate 3 (focus ((try simp (disch := omega) only [go_sem, wn]) <;> (try omega) <;> fail))); (try simp (disch := omega) only [go_sem, wn, I, B, S, inj, List.cons.injEq, and_true, true_and, and_self]))
    exact own_no (i := i) (by assumption) hg' hc
  · (refine zF rfl ?_ ?_ ?_ ?_; (iterate 3 (focus ((try simp (disch := omega) only [go_sem, wn]) <;> (try omega) <;> fail))); (try simp (disch := omega) only [go_sem, wn, I, B, S, inj, List.cons.injEq, and_true, true_and, and_self]))
    exact up_no (i := i) (by assumption) (by assumption) hc
  · refine ⟨(i + 1, _), tloop_a hT (by assumption) (by assumption) (own_yes (by assumption)) (by assumption) hc, by simp only; omega, ?_⟩
    have hw1 := tloop_w hT h400 (by assumption)
    unfold nd at hw1 ⊢
    (refine SImp.frame [0, 1] rfl (by intro k hk; first | (simp at hk <;> (simp; omega)) | (simp only [List.mem_cons, List.not_mem_nil, or_false] at hk; simp only [List.length_cons, List.length_nil]; omega)) (by decide) (fun k hk => by first | omega | (rcases k with _ | _ | _ | _ | _ | _ | _ | _ | k <;> first | rfl | omega)) ?_ ?_ <;> simp (disch := omega) only [go_sem, wn, Int.natCast_add, hw1] <;> (try rfl))
  · refine ⟨(i + 1, m), tloop_b hT hhead (by assumption) (by assumption) (own_yes (by assumption)) hc, by simp only; omega, ?_⟩
    (refine SImp.frame [0, 1] rfl (by intro k hk; first | (simp at hk <;> (simp; omega)) | (simp only [List.mem_cons, List.not_mem_nil, or_false] at hk; simp only [List.length_cons, List.length_nil]; omega)) (by decide) (fun k hk => by first | omega | (rcases k with _ | _ | _ | _ | _ | _ | _ | _ | k <;> first | rfl | omega)) ?_ ?_ <;> simp (disch := omega) only [go_sem, wn, Int.natCast_add, true_and] <;> (try rfl))
  · (refine zF rfl ?_ ?_ ?_ ?_; (iterate 3 (focus ((try simp (disch := omega) only [go_sem, wn]) <;> (try omega) <;> fail))); (try simp (disch := omega) only [go_sem, wn, I, B, S, inj, List.cons.injEq, and_true, true_and, and_self]))
    exact up_no (i := i) (by assumption) (by assumption) hc
  · refine ⟨(i + 1, _), tloop_a hT (by assumption) (by assumption) (own_zero hg') (by assumption) hc, by simp only; omega, ?_⟩
    have hw1 := tloop_w hT h400 (by assumption)
    unfold nd at hw1 ⊢
    (refine SImp.frame [0, 1] rfl (by intro k hk; first | (simp at hk <;> (simp; omega)) | (simp only [List.mem_cons, List.not_mem_nil, or_false] at hk; simp only [List.length_cons, List.length_nil]; omega)) (by decide) (fun k hk => by first | omega | (rcases k with _ | _ | _ | _ | _ | _ | _ | _ | k <;> first | rfl | omega)) ?_ ?_ <;> simp (disch := omega) only [go_sem, wn, Int.natCast_add, hw1] <;> (try rfl))
  · refine ⟨(i + 1, m), tloop_b hT hhead (by assumption) (by assumption) (own_zero hg') hc, by simp only; omega, ?_⟩
    (refine SImp.frame [0, 1] rfl (by intro k hk; first | (simp at hk <;> (simp; omega)) | (simp only [List.mem_cons, List.not_mem_nil, or_false] at hk; simp only [List.length_cons, List.length_nil]; omega)) (by decide) (fun k hk => by first | omega | (rcases k with _ | _ | _ | _ | _ | _ | _ | _ | k <;> first | rfl | omega)) ?_ ?_ <;> simp (disch := omega) only [go_sem, wn, Int.natCast_add, true_and] <;> (try rfl))
  obtain rfl : i = t.nodes.length := by omega
  clear hc
  refine AWP.loopB (ι := Nat) (fun k => k ≤ t.nodes.length ∧ ∀ j, j < k → (nd t j).stat.kids = mval m (nd t j).path) (fun k => t.nodes.length - k) [5, 206, 207] (fun k => [(208, I k)]) (fun k => [.cells [.d (.int .i64 t.zxid), .d (.sl 9 (t.nodes.map ANode.row)), .d (.sl 1 (t.sessions.map irow))], .map m]) 0 ?_ ?_ ?_
  · exact ⟨by omega, fun j hj => by omega⟩
  · simp only [go_sem]; (refine SImp.same ?_; simp (disch := omega) only [go_sem, wn, Int.natCast_add])
  intro j ⟨hj, hj2⟩
  simp only [go_sem]
  (repeat' first
| (with_reducible refine AR.f ?_)
| refine zb (by decide) ?_
| (with_reducible refine AWP.cond rfl ?_ ?_ <;> intro hc <;> (try simp only [hcs, beq_iff_eq, ge_iff_le, gt_iff_lt] at hc))
| ((first | ((first | (with_reducible first | refine zR ?_ | refine zQ (by decide +kernel) ?_ | refine zD (by decide +kernel) ?_ | refine zE (by decide +kernel) ?_ | refine zG (by decide +kernel) ?_)); intro K hK) | ((first | (with_reducible refine zu ?_ ?_ <;> intro hg) | with_reducible intro hg) <;> (first | (exfalso; simp at hg; done) | (have hg' := hg; (try simp only [hcs, beq_iff_eq, ge_iff_le, gt_iff_lt] at hg'); (try simp only [hg]))))) <;> (try simp (disch := omega) only [go_sem, wn]) <;> (repeat' with_reducible refine And.intro ?_ ?_) <;> (try (with_reducible refine hK _ ?_; clear hK K)))
| omega)
  · (refine zF rfl ?_ ?_ ?_ ?_; (iterate 3 (focus ((try simp (disch := omega) only [go_sem, wn]) <;> (try omega) <;> fail))); (try simp (disch := omega) only [go_sem, wn, I, B, S, inj, List.cons.injEq, and_true, true_and, and_self]))
    exact kids_no (k := j) hT (by assumption) hc
  · refine ⟨j + 1, ⟨by omega, fun q hq => ?_⟩, by omega, ?_⟩
    · by_cases e : q = j
      · subst e; exact hc
      · exact hj2 q (by omega)
    (refine SImp.frame [0, 1] rfl (by intro k hk; first | (simp at hk <;> (simp; omega)) | (simp only [List.mem_cons, List.not_mem_nil, or_false] at hk; simp only [List.length_cons, List.length_nil]; omega)) (by decide) (fun k hk => by first | omega | (rcases k with _ | _ | _ | _ | _ | _ | _ | _ | k <;> first | rfl | omega)) ?_ ?_ <;> simp (disch := omega) only [go_sem, wn, Int.natCast_add, true_and] <;> (try rfl))
  · (refine zF rfl ?_ ?_ ?_ ?_; (iterate 3 (focus ((try simp (disch := omega) only [go_sem, wn]) <;> (try omega) <;> fail))); (try simp (disch := omega) only [go_sem, wn, I, B, S, inj, List.cons.injEq, and_true, true_and, and_self]))
    exact (tgood_end hhead hss hT (fun q hq => hj2 q (by omega))).symm
end Go.Proofs.YtmpfhalheaeibaaDoor
namespace Go.Proofs.YtmpfhalheaeibaaDoor
set_option linter.unusedVariables false
set_option linter.unusedSimpArgs false
open Go Go.RowKit
set_option maxRecDepth 100000
set_option linter.unusedSimpArgs false
theorem has_c (l : List Int) (x : Int) (h : l.length * 8 ≤ 140737488351232) : acall Tryd.prog [] 95 [.d (.sl 1 (l.map irow)), I x] (ret (B (decide (x ∈ l)))) := by
  refine zi tabOk Tryd.func95 rfl (by kernel_rfl) (by simp [Tryd.ntmps95]) ?_; simp only [Tryd.ntmps95, Tryd.results95, List.toList_toArray, apar, List.length_nil, List.length_cons, Nat.reduceAdd]
  (repeat' first
| (with_reducible refine AR.f ?_)
| refine zb (by decide) ?_
| (with_reducible refine AWP.cond rfl ?_ ?_ <;> intro hc <;> (try simp only [hcs, beq_iff_eq, ge_iff_le, gt_iff_lt] at hc))
| ((first | ((first | (with_reducible first | refine zR ?_ | refine zQ (by decide +kernel) ?_ | refine zD (by decide +kernel) ?_ | refine zE (by decide +kernel) ?_ | refine zG (by decide +kernel) ?_)); intro K hK) | ((first | (with_reducible refine zu ?_ ?_ <;> intro hg) | with_reducible intro hg) <;> (first | (exfalso; simp at hg; done) | (have hg' := hg; (try simp only [hcs, beq_iff_eq, ge_iff_le, gt_iff_lt] at hg'); (try simp only [hg]))))) <;> (try simp (disch := omega) only [go_sem, wn]) <;> (repeat' with_reducible refine And.intro ?_ ?_) <;> (try (with_reducible refine hK _ ?_; clear hK K)))
| omega)
  refine AWP.loopS (ι := Nat) (fun k => k ≤ l.length ∧ ∀ j, j < k → l.getD j default ≠ x) (fun k => l.length - k) [1, 7, 8] (fun k => [(9, I k)]) 0 ?_ (by simp (disch := omega) only [go_sem, wn, true_and]) ?_
  · exact ⟨by omega, fun j hj => by omega⟩
  intro k ⟨hk, hk2⟩
  simp only [go_sem]
  (repeat' first
| (with_reducible refine AR.f ?_)
| refine zb (by decide) ?_
| (with_reducible refine AWP.cond rfl ?_ ?_ <;> intro hc <;> (try simp only [hcs, beq_iff_eq, ge_iff_le, gt_iff_lt] at hc))
| ((first | ((first | (with_reducible first | refine zR ?_ | refine zQ (by decide +kernel) ?_ | refine zD (by decide +kernel) ?_ | refine zE (by decide +kernel) ?_ | refine zG (by decide +kernel) ?_)); intro K hK) | ((first | (with_reducible refine zu ?_ ?_ <;> intro hg) | with_reducible intro hg) <;> (first | (exfalso; simp at hg; done) | (have hg' := hg; (try simp only [hcs, beq_iff_eq, ge_iff_le, gt_iff_lt] at hg'); (try simp only [hg]))))) <;> (try simp (disch := omega) only [go_sem, wn]) <;> (repeat' with_reducible refine And.intro ?_ ?_) <;> (try (with_reducible refine hK _ ?_; clear hK K)))
| omega)
  · (refine zF rfl ?_ ?_ ?_ ?_; (iterate 3 (focus ((try simp (disch := omega) only [go_sem, wn]) <;> (try omega) <;> fail))); (try simp (disch := omega) only [go_sem, wn, I, B, S, inj, List.cons.injEq, and_true, true_and, and_self]))
    symm; rw [decide_eq_true_eq, mem_iff_getD l default]
    exact ⟨k, by omega, by simp only [*]⟩
  · refine ⟨k + 1, ⟨by omega, fun j hj => ?_⟩, by omega, ?_⟩
    · by_cases e : j = k
      · subst e; exact fun e2 => hc (by simp only [*])
      · exact hk2 j (by omega)
    (refine SImp.same ?_; simp (disch := omega) only [go_sem, wn, Int.natCast_add])
  · (refine zF rfl ?_ ?_ ?_ ?_; (iterate 3 (focus ((try simp (disch := omega) only [go_sem, wn]) <;> (try omega) <;> fail))); (try simp (disch := omega) only [go_sem, wn, I, B, S, inj, List.cons.injEq, and_true, true_and, and_self]))
    symm; rw [decide_eq_false_iff_not, mem_iff_getD l default]
    rintro ⟨j, hj, e⟩
    exact hk2 j (by omega) e
theorem isOpen_c (t : ATree) (s : Int) (h : t.sessions.length * 8 ≤ 140737488351232) : acall Tryd.prog [] 41 [t.av, I s] (ret (B (decide (s ∈ t.sessions)))) := by
  refine zi tabOk Tryd.func41 rfl (by kernel_rfl) (by simp [Tryd.ntmps41]) ?_; simp only [Tryd.ntmps41, Tryd.results41, List.toList_toArray, apar, List.length_nil, List.length_cons, Nat.reduceAdd]
  (repeat' first
| (with_reducible refine AR.f ?_)
| refine zb (by decide) ?_
| (with_reducible refine AWP.cond rfl ?_ ?_ <;> intro hc <;> (try simp only [hcs, beq_iff_eq, ge_iff_le, gt_iff_lt] at hc))
| ((first | ((first | (with_reducible first | refine zR ?_ | refine zQ (by decide +kernel) ?_ | refine zD (by decide +kernel) ?_ | refine zE (by decide +kernel) ?_ | refine zG (by decide +kernel) ?_)); intro K hK) | ((first | refine zA (has_c t.sessions s h) ?_ ?_ ?_ ?_ ?_); (focus exact rfl); (focus exact rfl); iterate 2 (focus ((try simp (disch := omega) only [go_sem, wn]) <;> (try omega) <;> fail))) | ((first | refine zN (has_c t.sessions s h) rfl ?_ ?_); (focus ((try simp (disch := omega) only [go_sem, wn]) <;> (try omega) <;> fail))) | (first | ((first | refine zX (has_c t.sessions s h) rfl ?_ ?_ | refine zy (has_c t.sessions s h) ?_ ?_); (focus ((try simp (disch := omega) only [go_sem, wn]) <;> (try omega) <;> fail)))) | ((first | (with_reducible refine zu ?_ ?_ <;> intro hg) | with_reducible intro hg) <;> (first | (exfalso; simp at hg; done) | (have hg' := hg; (try simp only [hcs, beq_iff_eq, ge_iff_le, gt_iff_lt] at hg'); (try simp only [hg]))))) <;> (try simp (disch := omega) only [go_sem, wn]) <;> (repeat' with_reducible refine And.intro ?_ ?_) <;> (try (with_reducible refine hK _ ?_; clear hK K)))
| omega)
  (refine zF rfl ?_ ?_ ?_ ?_; (iterate 3 (focus ((try simp (disch := omega) only [go_sem, wn]) <;> (try omega) <;> fail))); (try simp (disch := omega) only [go_sem, wn, I, B, S, inj, List.cons.injEq, and_true, true_and, and_self]))
def nodeI (t : ATree) (p : List UInt8) : Int := if p ∈ pathsT t then (place (pathsT t) p : Nat) else -1
theorem nodeI_yes {t : ATree} {p : List UInt8} (h : p ∈ pathsT t) : nodeI t p = (place (pathsT t) p : Nat) := by unfold nodeI; rw [if_pos h]
theorem nodeI_no {t : ATree} {p : List UInt8} (h : ¬ p ∈ pathsT t) : nodeI t p = -1 := by unfold nodeI; rw [if_neg h]
theorem nodeI_c (t : ATree) (p : List UInt8) (h : t.nodes.length * 88 ≤ 140737488351232) (hr : Rises (pathsT t)) : acall Tryd.prog [] 93 [t.av, S p] (ret (I (nodeI t p))) := by
  refine zi tabOk Tryd.func93 rfl (by kernel_rfl) (by simp [Tryd.ntmps93]) ?_; simp only [Tryd.ntmps93, Tryd.results93, List.toList_toArray, apar, List.length_nil, List.length_cons, Nat.reduceAdd]
  (repeat' first
| (with_reducible refine AR.f ?_)
| refine zb (by decide) ?_
| (with_reducible refine AWP.cond rfl ?_ ?_ <;> intro hc <;> (try simp only [hcs, beq_iff_eq, ge_iff_le, gt_iff_lt] at hc))
| ((first | ((first | (with_reducible first | refine zR ?_ | refine zQ (by decide +kernel) ?_ | refine zD (by decide +kernel) ?_ | refine zE (by decide +kernel) ?_ | refine zG (by decide +kernel) ?_)); intro K hK) | ((first | (with_reducible refine zu ?_ ?_ <;> intro hg) | with_reducible intro hg) <;> (first | (exfalso; simp at hg; done) | (have hg' := hg; (try simp only [hcs, beq_iff_eq, ge_iff_le, gt_iff_lt] at hg'); (try simp only [hg]))))) <;> (try simp (disch := omega) only [go_sem, wn]) <;> (repeat' with_reducible refine And.intro ?_ ?_) <;> (try (with_reducible refine hK _ ?_; clear hK K)))
| omega)
  refine AWP.loopS (ι := Nat) (fun k => k ≤ t.nodes.length ∧ ∀ j, j < k → (t.nodes.getD j default).path ≠ p) (fun k => t.nodes.length - k) [1, 8, 9] (fun k => [(10, I k)]) 0 ?_ (by simp (disch := omega) only [go_sem, wn, true_and]) ?_
  · exact ⟨by omega, fun j hj => by omega⟩
  intro k ⟨hk, hk2⟩
  simp only [go_sem]
  (repeat' first
| (with_reducible refine AR.f ?_)
| refine zb (by decide) ?_
| (with_reducible refine AWP.cond rfl ?_ ?_ <;> intro hc <;> (try simp only [hcs, beq_iff_eq, ge_iff_le, gt_iff_lt] at hc))
| ((first | ((first | (with_reducible first | refine zR ?_ | refine zQ (by decide +kernel) ?_ | refine zD (by decide +kernel) ?_ | refine zE (by decide +kernel) ?_ | refine zG (by decide +kernel) ?_)); intro K hK) | ((first | (with_reducible refine zu ?_ ?_ <;> intro hg) | with_reducible intro hg) <;> (first | (exfalso; simp at hg; done) | (have hg' := hg; (try simp only [hcs, beq_iff_eq, ge_iff_le, gt_iff_lt] at hg'); (try simp only [hg]))))) <;> (try simp (disch := omega) only [go_sem, wn]) <;> (repeat' with_reducible refine And.intro ?_ ?_) <;> (try (with_reducible refine hK _ ?_; clear hK K)))
| omega)
  · (refine zF rfl ?_ ?_ ?_ ?_; (iterate 3 (focus ((try simp (disch := omega) only [go_sem, wn]) <;> (try omega) <;> fail))); (try simp (disch := omega) only [go_sem, wn, I, B, S, inj, List.cons.injEq, and_true, true_and, and_self]))
    have hl : k < (pathsT t).length := by rw [pathsT_len]; omega
    have e := place_at hr hl
    rw [pathsT_get] at e
    unfold nd at e
    rw [hc] at e
    have hm : p ∈ pathsT t := (mem_iff_getD _ [] p).2 ⟨k, hl, by rw [pathsT_get]; exact hc⟩
    rw [nodeI_yes hm, e]
  · refine ⟨k + 1, ⟨by omega, fun j hj => ?_⟩, by omega, ?_⟩
    · by_cases e : j = k
      · subst e; exact hc
      · exact hk2 j (by omega)
    (refine SImp.frame [0] rfl (by intro k hk; first | (simp at hk <;> (simp; omega)) | (simp only [List.mem_cons, List.not_mem_nil, or_false] at hk; simp only [List.length_cons, List.length_nil]; omega)) (by decide) (fun k hk => by first | omega | (rcases k with _ | _ | _ | _ | _ | _ | _ | _ | k <;> first | rfl | omega)) ?_ ?_ <;> simp (disch := omega) only [go_sem, wn, Int.natCast_add, true_and] <;> (try rfl))
  · (refine zF rfl ?_ ?_ ?_ ?_; (iterate 3 (focus ((try simp (disch := omega) only [go_sem, wn]) <;> (try omega) <;> fail))); (try simp (disch := omega) only [go_sem, wn, I, B, S, inj, List.cons.injEq, and_true, true_and, and_self]))
    rw [nodeI_no]
    rw [mem_iff_getD _ []]
    rintro ⟨j, hj, e⟩
    rw [pathsT_get] at e
    rw [pathsT_len] at hj
    exact hk2 j (by omega) e
theorem getN_c (t : ATree) (p : List UInt8) (h : t.nodes.length * 88 ≤ 140737488351232) (hr : Rises (pathsT t)) : acall Tryd.prog [] 36 [t.av, S p] (ret (.tup [(getT t p).1.av, I (getT t p).2])) := by
  by_cases hm : p ∈ pathsT t
  · have hp := (zc hr hm).1
    rw [pathsT_len] at hp
    unfold getT
    rw [if_pos hm]
    refine zi tabOk Tryd.func36 rfl (by kernel_rfl) (by simp [Tryd.ntmps36]) ?_; simp only [Tryd.ntmps36, Tryd.results36, List.toList_toArray, apar, List.length_nil, List.length_cons, Nat.reduceAdd]
    (repeat' first
  | (with_reducible refine AR.f ?_)
  | refine zb (by decide) ?_
  | (with_reducible refine AWP.cond rfl ?_ ?_ <;> intro hc <;> (try simp only [hcs, beq_iff_eq, ge_iff_le, gt_iff_lt] at hc))
  | ((first | ((first | (with_reducible first | refine zR ?_ | refine zQ (by decide +kernel) ?_ | refine zD (by decide +kernel) ?_ | refine zE (by decide +kernel) ?_ | refine zG (by decide +kernel) ?_)); intro K hK) | ((first | refine zA ((nodeI_c t p h hr).re (by rw [nodeI_yes hm])) ?_ ?_ ?_ ?_ ?_); (focus exact rfl); (focus exact rfl); iterate 2 (focus ((try simp (disch := omega) only [go_sem, wn]) <;> (try omega) <;> fail))) | ((first | refine zN ((nodeI_c t p h hr).re (by rw [nodeI_yes hm])) rfl ?_ ?_); (focus ((try simp (disch := omega) only [go_sem, wn]) <;> (try omega) <;> fail))) | (first | ((first | refine zX ((nodeI_c t p h hr).re (by rw [nodeI_yes hm])) rfl ?_ ?_ | refine zy ((nodeI_c t p h hr).re (by rw [nodeI_yes hm])) ?_ ?_); (focus ((try simp (disch := omega) only [go_sem, wn]) <;> (try omega) <;> fail)))) | ((first | (with_reducible refine zu ?_ ?_ <;> intro hg) | with_reducible intro hg) <;> (first | (exfalso; simp at hg; done) | (have hg' := hg; (try simp only [hcs, beq_iff_eq, ge_iff_le, gt_iff_lt] at hg'); (try simp only [hg]))))) <;> (try simp (disch := omega) only [go_sem, wn]) <;> (repeat' with_reducible refine And.intro ?_ ?_) <;> (try (with_reducible refine hK _ ?_; clear hK K)))
  | omega)
    all_goals first | omega | skip
    (refine zF rfl ?_ ?_ ?_ ?_; (iterate 3 (focus ((try simp (disch := omega) only [go_sem, wn, nd]) <;> (try omega) <;> fail))); (try simp (disch := omega) only [go_sem, wn, nd, I, B, S, inj, List.cons.injEq, and_true, true_and, and_self]))
  · unfold getT
    rw [if_neg hm]
    refine zi tabOk Tryd.func36 rfl (by kernel_rfl) (by simp [Tryd.ntmps36]) ?_; simp only [Tryd.ntmps36, Tryd.results36, List.toList_toArray, apar, List.length_nil, List.length_cons, Nat.reduceAdd]
    (repeat' first
  | (with_reducible refine AR.f ?_)
  | refine zb (by decide) ?_
  | (with_reducible refine AWP.cond rfl ?_ ?_ <;> intro hc <;> (try simp only [hcs, beq_iff_eq, ge_iff_le, gt_iff_lt] at hc))
  | ((first | ((first | (with_reducible first | refine zR ?_ | refine zQ (by decide +kernel) ?_ | refine zD (by decide +kernel) ?_ | refine zE (by decide +kernel) ?_ | refine zG (by decide +kernel) ?_)); intro K hK) | ((first | refine zA ((nodeI_c t p h hr).re (by rw [nodeI_no hm])) ?_ ?_ ?_ ?_ ?_); (focus exact rfl); (focus exact rfl); iterate 2 (focus ((try simp (disch := omega) only [go_sem, wn]) <;> (try omega) <;> fail))) | ((first | refine zN ((nodeI_c t p h hr).re (by rw [nodeI_no hm])) rfl ?_ ?_); (focus ((try simp (disch := omega) only [go_sem, wn]) <;> (try omega) <;> fail))) | (first | ((first | refine zX ((nodeI_c t p h hr).re (by rw [nodeI_no hm])) rfl ?_ ?_ | refine zy ((nodeI_c t p h hr).re (by rw [nodeI_no hm])) ?_ ?_); (focus ((try simp (disch := omega) only [go_sem, wn]) <;> (try omega) <;> fail)))) | ((first | (with_reducible refine zu ?_ ?_ <;> intro hg) | with_reducible intro hg) <;> (first | (exfalso; simp at hg; done) | (have hg' := hg; (try simp only [hcs, beq_iff_eq, ge_iff_le, gt_iff_lt] at hg'); (try simp only [hg]))))) <;> (try simp (disch := omega) only [go_sem, wn]) <;> (repeat' with_reducible refine And.intro ?_ ?_) <;> (try (with_reducible refine hK _ ?_; clear hK K)))
  | omega)
    all_goals first | omega | skip
    (refine zF rfl ?_ ?_ ?_ ?_; (iterate 3 (focus ((try simp (disch := omega) only [go_sem, wn, default]) <;> (try omega) <;> fail))); (try simp (disch := omega) only [go_sem, wn, default, I, B, S, inj, List.cons.injEq, and_true, true_and, and_self]))
theorem path_small {t : ATree} (hp : ∀ x, x ∈ t.nodes → x.path.length ≤ 1048576) (k : Nat) : (t.nodes.getD k default).path.length ≤ 1048576 := by
  by_cases e : k < t.nodes.length
  · exact hp _ (getD_mem t.nodes k e)
  · rw [List.getD_eq_getElem?_getD, List.getElem?_eq_none (by omega)]; exact Nat.zero_le _
def dirsR (t : ATree) (k : Nat) : List (List UInt8) := (List.range t.nodes.length).map fun j => if j < k then dirT t j else []
theorem dirs_len (t : ATree) (k : Nat) : (dirsR t k).length = t.nodes.length := by unfold dirsR; simp
theorem dirs_zero (t : ATree) : List.replicate t.nodes.length [DV.str []] = (dirsR t 0).map srow := by
  unfold dirsR
  apply List.ext_getElem?
  intro j
  simp only [List.getElem?_replicate, List.getElem?_map, Nat.not_lt_zero, if_false]
  by_cases h : j < t.nodes.length
  · rw [if_pos h, List.getElem?_range h]; rfl
  · rw [if_neg h, List.getElem?_eq_none (by simpa using h)]; rfl
theorem dirs_set (t : ATree) (k : Nat) : (dirsR t k).set k (splitP (t.nodes.getD k default).path).1.1 = dirsR t (k + 1) := by
  unfold dirsR
  apply List.ext_getElem?
  intro j
  rw [List.getElem?_set]
  simp only [List.length_map, List.length_range, List.getElem?_map]
  by_cases h : j < t.nodes.length
  · rw [List.getElem?_range h]
    by_cases e : k = j
    · subst e; simp [h, dirT, nd]
    · simp only [e, if_false, Option.map_some]
      congr 1
      by_cases h2 : j < k
      · rw [if_pos h2, if_pos (by omega)]
      · rw [if_neg h2, if_neg (by omega)]
  · rw [List.getElem?_eq_none (l := List.range _) (by simpa using h)]
    by_cases e : k = j
    · subst e; simp [h]
    · simp [e]
theorem dirs_get (t : ATree) (j : Nat) (h : j < t.nodes.length) : (dirsR t t.nodes.length).getD j [] = dirT t j := by
  unfold dirsR
  rw [List.getD_eq_getElem?_getD, List.getElem?_map, List.getElem?_range h]
  simp [h]
def upN (t : ATree) (i k : Nat) : Bool := decide (i = 0) || (List.range k).any fun j => decide ((nd t j).path = dirT t i)
theorem upN_zero (t : ATree) (i : Nat) : upN t i 0 = decide (i = 0) := by unfold upN; simp
theorem upN_succ (t : ATree) (i k : Nat) : upN t i (k + 1) = (upN t i k || decide ((nd t k).path = dirT t i)) := by
  unfold upN; rw [List.range_succ, List.any_append, Bool.or_assoc]; simp
theorem upN_iff (t : ATree) (i : Nat) : upN t i t.nodes.length = true ↔ upB t i := by
  unfold upN upB
  rw [Bool.or_eq_true, decide_eq_true_eq, List.any_eq_true, mem_iff_getD _ []]
  constructor
  · rintro (h | ⟨j, hj, h⟩)
    · exact .inl h
    · rw [decide_eq_true_eq] at h
      rw [List.mem_range] at hj
      exact .inr ⟨j, by rw [pathsT_len]; exact hj, by rw [pathsT_get]; exact h⟩
  · rintro (h | ⟨j, hj, h⟩)
    · exact .inl h
    · rw [pathsT_len] at hj
      rw [pathsT_get] at h
      exact .inr ⟨j, List.mem_range.2 hj, by rw [decide_eq_true_eq]; exact h⟩
def condQ (t : ATree) (i : Nat) : Prop := (((((((((upN t i t.nodes.length = true ∧ (nd t i).stat.kids = (kidsN t (nd t i).path t.nodes.length : Nat)) ∧ 0 ≤ (nd t i).stat.version) ∧ (nd t i).stat.version < 2147483648) ∧ 0 ≤ (nd t i).stat.cversion) ∧ (nd t i).stat.cversion < 2147483648) ∧
  0 ≤ (nd t i).stat.czxid) ∧ (nd t i).stat.czxid ≤ (nd t i).stat.mzxid) ∧ (nd t i).stat.czxid ≤ (nd t i).stat.pzxid) ∧ (nd t i).stat.mzxid ≤ t.zxid) ∧ (nd t i).stat.pzxid ≤ t.zxid
theorem condQ_ok {t : ATree} {i : Nat} (h : condQ t i) (ho : (nd t i).stat.owner ≠ 0 → (nd t i).stat.owner ∈ t.sessions ∧ kidsN t (nd t i).path t.nodes.length = 0) : statB t (nd t i).stat ∧ ownB t (nd t i).stat ∧ upB t i ∧ (nd t i).stat.kids = kidsN t (nd t i).path t.nodes.length := by
  obtain ⟨⟨⟨⟨⟨⟨⟨⟨⟨⟨h1, h2⟩, h4⟩, h5⟩, h6⟩, h7⟩, h8⟩, h9⟩, h10⟩, h11⟩, h12⟩ := h
  refine ⟨⟨h4, by omega, h6, by omega, h8, h9, h10, h11, h12⟩, fun h0 => ?_, (upN_iff t i).1 h1, h2⟩
  obtain ⟨a, b⟩ := ho h0
  exact ⟨a, by rw [h2, b]; rfl⟩
set_option maxHeartbeats 8000000 in
theorem ref_tgood_c (t : ATree) (hw : t.wf) (hp : ∀ x, x ∈ t.nodes → x.path.length ≤ 1048576) : acall Tryd.prog [] 33 [t.av] (ret (B (goodTr t))) := by
  have hok := node_okS hw
  obtain ⟨hz, ⟨hn, hnw⟩, ⟨hs, hsw⟩⟩ := hw
  refine zi tabOk Tryd.func33 rfl (by kernel_rfl) (by simp [Tryd.ntmps33]) ?_; simp only [Tryd.ntmps33, Tryd.results33, List.toList_toArray, apar, List.length_nil, List.length_cons, Nat.reduceAdd]
  (repeat' first
| (with_reducible refine AR.f ?_)
| refine zb (by decide) ?_
| (with_reducible refine AWP.cond rfl ?_ ?_ <;> intro hc <;> (try simp only [hcs, beq_iff_eq, ge_iff_le, gt_iff_lt] at hc))
| ((first | ((first | (with_reducible first | refine zR ?_ | refine zQ (by decide +kernel) ?_ | refine zD (by decide +kernel) ?_ | refine zE (by decide +kernel) ?_ | refine zG (by decide +kernel) ?_)); intro K hK) | ((first | refine zA (ref_zgood_c t.zxid hz) ?_ ?_ ?_ ?_ ?_); (focus exact rfl); (focus exact rfl); iterate 2 (focus ((try simp (disch := omega) only [go_sem, wn]) <;> (try omega) <;> fail))) | ((first | refine zN (ref_zgood_c t.zxid hz) rfl ?_ ?_); (focus ((try simp (disch := omega) only [go_sem, wn]) <;> (try omega) <;> fail))) | (first | ((first | refine zX (ref_zgood_c t.zxid hz) rfl ?_ ?_ | refine zy (ref_zgood_c t.zxid hz) ?_ ?_); (focus ((try simp (disch := omega) only [go_sem, wn]) <;> (try omega) <;> fail)))) | ((first | (with_reducible refine zu ?_ ?_ <;> intro hg) | with_reducible intro hg) <;> (first | (exfalso; simp at hg; done) | (have hg' := hg; (try simp only [hcs, beq_iff_eq, ge_iff_le, gt_iff_lt] at hg'); (try simp only [hg]))))) <;> (try simp (disch := omega) only [go_sem, wn]) <;> (repeat' with_reducible refine And.intro ?_ ?_) <;> (try (with_reducible refine hK _ ?_; clear hK K)))
| omega)
  · (refine zF rfl ?_ ?_ ?_ ?_; (iterate 3 (focus ((try simp (disch := omega) only [go_sem, wn]) <;> (try omega) <;> fail))); (try simp (disch := omega) only [go_sem, wn, I, B, S, inj, List.cons.injEq, and_true, true_and, and_self]))
    refine head_no fun ⟨a1, a2, a3, a4, a5⟩ => ?_
    rcases hc with (((h | h) | h) | h) | h
    · omega
    · omega
    · exact h a3
    · exact h a4
    · exact h a5
  rotate_left
  · simp_all
  · (refine zF rfl ?_ ?_ ?_ ?_; (iterate 3 (focus ((try simp (disch := omega) only [go_sem, wn]) <;> (try omega) <;> fail))); (try simp (disch := omega) only [go_sem, wn, I, B, S, inj, List.cons.injEq, and_true, true_and, and_self]))
    refine head_no fun ⟨a1, a2, a3, a4, a5⟩ => ?_
    rcases hg' with ((h | h) | h) | h
    · omega
    · omega
    · exact h a3
    · exact h a4
  have hhead : headOk t := ⟨by omega, by omega, hc.1.1.2, hc.1.2, hc.2⟩
  have h400 : t.nodes.length ≤ 400 := by omega
  clear hc hg
  refine AWP.loopS (ι := Nat) (fun k => k ≤ t.sessions.length ∧ ∀ j, j < k → sessOk t.sessions j) (fun k => t.sessions.length - k) [1, 48, 49] (fun k => [(50, I k)]) 0 ?_ (by simp (disch := omega) only [go_sem, wn, true_and]) ?_
  · exact ⟨by omega, fun j hj => by omega⟩
  intro k ⟨hk, hk2⟩
  simp only [go_sem]
  (repeat' first
| (with_reducible refine AR.f ?_)
| refine zb (by decide) ?_
| (with_reducible refine AWP.cond rfl ?_ ?_ <;> intro hc <;> (try simp only [hcs, beq_iff_eq, ge_iff_le, gt_iff_lt] at hc))
| ((first | ((first | (with_reducible first | refine zR ?_ | refine zQ (by decide +kernel) ?_ | refine zD (by decide +kernel) ?_ | refine zE (by decide +kernel) ?_ | refine zG (by decide +kernel) ?_)); intro K hK) | ((first | (with_reducible refine zu ?_ ?_ <;> intro hg) | with_reducible intro hg) <;> (first | (exfalso; simp at hg; done) | (have hg' := hg; (try simp only [hcs, beq_iff_eq, ge_iff_le, gt_iff_lt] at hg'); (try simp only [hg]))))) <;> (try simp (disch := omega) only [go_sem, wn, toNat_pr2]) <;> (repeat' with_reducible refine And.intro ?_ ?_) <;> (try (with_reducible refine hK _ ?_; clear hK K)))
| omega)
  · (refine zF rfl ?_ ?_ ?_ ?_; (iterate 3 (focus ((try simp (disch := omega) only [go_sem, wn]) <;> (try omega) <;> fail))); (try simp (disch := omega) only [go_sem, wn, I, B, S, inj, List.cons.injEq, and_true, true_and, and_self]))
    refine sess_no (k := k) (by omega) fun ⟨a1, a2, a3⟩ => ?_
    rcases hc with (h | h) | h
    · omega
    · omega
    · exact absurd (a3 (by omega)) (by omega)
  · refine ⟨k + 1, ⟨by omega, fun j hj => ?_⟩, by omega, ?_⟩
    · by_cases e : j = k
      · subst e; exact ⟨hc.1.1, by omega, fun h0 => hc.2.resolve_left (by omega)⟩
      · exact hk2 j (by omega)
    (refine SImp.same ?_; simp (disch := omega) only [go_sem, wn, Int.natCast_add])
  have hss : ∀ j, j < t.sessions.length → sessOk t.sessions j := fun j hj => hk2 j (by omega)
  clear hk2 hk hc
  refine AWP.loopB (ι := Nat) (fun k => k ≤ t.nodes.length ∧ ∀ j, j < k → nodeA t j) (fun k => t.nodes.length - k) [1, 5, 81, 82] (fun k => [(83, I k)]) (fun k => [.cells [.d (.int .i64 t.zxid), .d (.sl 9 (t.nodes.map ANode.row)), .d (.sl 1 (t.sessions.map irow))], .rows 1 ((dirsR t k).map srow)]) 0 ?_ ?_ ?_
  · exact ⟨by omega, fun j hj => by omega⟩
  · simp only [go_sem, ← dirs_zero]; (refine SImp.same ?_; simp (disch := omega) only [go_sem, wn, Int.natCast_add])
  intro i ⟨hi, hi2⟩
  have hpi := path_small hp i
  have hdl := dirs_len t i
  simp only [go_sem]
  (repeat' first
| (with_reducible refine AR.f ?_)
| refine zb (by decide) ?_
| (with_reducible refine AWP.cond rfl ?_ ?_ <;> intro hc <;> (try simp only [hcs, beq_iff_eq, ge_iff_le, gt_iff_lt] at hc))
| ((first | ((first | (with_reducible first | refine zR ?_ | refine zQ (by decide +kernel) ?_ | refine zD (by decide +kernel) ?_ | refine zE (by decide +kernel) ?_ | refine zG (by decide +kernel) ?_)); intro K hK) | ((first | refine acallH_sc (ref_good_c _ hpi) rfl rfl ?_ ?_ ?_ | refine acallQ_sc (ref_good_c _ hpi) rfl rfl ?_ ?_ ?_ | refine acallH_sc (ref_split_c _ hpi) rfl rfl ?_ ?_ ?_ | refine acallQ_sc (ref_split_c _ hpi) rfl rfl ?_ ?_ ?_); iterate 2 (focus ((try simp (disch := omega) only [go_sem, wn, toNat_pr2, strLt_eq, List.append_eq, srow_rset, srow_rgetD]) <;> (try omega) <;> fail))) | ((first | refine zN (ref_good_c _ hpi) rfl ?_ ?_ | refine zN (ref_split_c _ hpi) rfl ?_ ?_); (focus ((try simp (disch := omega) only [go_sem, wn, toNat_pr2, strLt_eq, List.append_eq, srow_rset, srow_rgetD]) <;> (try omega) <;> fail))) | (first | ((first | refine zX (ref_good_c _ hpi) rfl ?_ ?_ | refine zy (ref_good_c _ hpi) ?_ ?_); (focus ((try simp (disch := omega) only [go_sem, wn, toNat_pr2, strLt_eq, List.append_eq, srow_rset, srow_rgetD]) <;> (try omega) <;> fail))) | ((first | refine zX (ref_split_c _ hpi) rfl ?_ ?_ | refine zy (ref_split_c _ hpi) ?_ ?_); (focus ((try simp (disch := omega) only [go_sem, wn, toNat_pr2, strLt_eq, List.append_eq, srow_rset, srow_rgetD]) <;> (try omega) <;> fail)))) | ((first | (with_reducible refine zu ?_ ?_ <;> intro hg) | with_reducible intro hg) <;> (first | (exfalso; simp at hg; done) | (have hg' := hg; (try simp only [hcs, beq_iff_eq, ge_iff_le, gt_iff_lt] at hg'); (try simp only [hg]))))) <;> (try simp (disch := omega) only [go_sem, wn, toNat_pr2, strLt_eq, List.append_eq, srow_rset, srow_rgetD]) <;> (repeat' with_reducible refine And.intro ?_ ?_) <;> (try (with_reducible refine hK _ ?_; clear hK K)))
| omega)
  · (refine zF rfl ?_ ?_ ?_ ?_; (iterate 3 (focus ((try simp (disch := omega) only [go_sem, wn]) <;> (try omega) <;> fail))); (try simp (disch := omega) only [go_sem, wn, I, B, S, inj, List.cons.injEq, and_true, true_and, and_self]))
    refine nodeA_no (k := i) (by assumption) fun ⟨a1, a2, a3⟩ => ?_
    unfold nd at a1 a2 a3
    rcases hc with (h | h) | ⟨h0, h⟩
    · rw [a1] at h; cases h
    · omega
    · have h1 := a3 (by omega)
      rcases h with h | h
      · exact List.lt_irrefl _ (List.lt_trans h1 h)
      · rw [h] at h1; exact List.lt_irrefl _ h1
  · refine ⟨i + 1, ⟨by omega, fun j hj => ?_⟩, by omega, ?_⟩
    · by_cases e : j = i
      · subst e; exact ⟨hc.1.1, by unfold nd; omega, fun h0 => (hc.2.resolve_left (by omega)) |> fun h => lt_of_not h.1 h.2⟩
      · exact hi2 j (by omega)
    rw [← dirs_set t i]
    (refine SImp.frame [0, 1] rfl (by intro k hk; first | (simp at hk <;> (simp; omega)) | (simp only [List.mem_cons, List.not_mem_nil, or_false] at hk; simp only [List.length_cons, List.length_nil]; omega)) (by decide) (fun k hk => by first | omega | (rcases k with _ | _ | _ | _ | _ | _ | _ | _ | k <;> first | rfl | omega)) ?_ ?_ <;> simp (disch := omega) only [go_sem, wn, Int.natCast_add, true_and] <;> (try rfl))
  obtain rfl : i = t.nodes.length := by omega
  clear hc
  have hT : ∀ j, j < t.nodes.length → nodeA t j := hi2
  clear hi2 hpi hdl
  refine AWP.loopB (ι := Nat) (fun k => k ≤ t.nodes.length ∧ ∀ j, j < k → statB t (nd t j).stat ∧ ownB t (nd t j).stat ∧ upB t j ∧ (nd t j).stat.kids = kidsN t (nd t j).path t.nodes.length) (fun k => t.nodes.length - k) [1, 5, 126, 127] (fun k => [(128, I k)]) (fun k => [.cells [.d (.int .i64 t.zxid), .d (.sl 9 (t.nodes.map ANode.row)), .d (.sl 1 (t.sessions.map irow))], .rows 1 ((dirsR t t.nodes.length).map srow)]) 0 ?_ ?_ ?_
  · exact ⟨by omega, fun j hj => by omega⟩
  · simp only [go_sem]; (refine SImp.same ?_; simp (disch := omega) only [go_sem, wn, Int.natCast_add])
  intro j ⟨hj, hj2⟩
  simp only [go_sem]
  (repeat' first
| (with_reducible refine AR.f ?_)
| refine zb (by decide) ?_
| (with_reducible refine AWP.cond rfl ?_ ?_ <;> intro hc <;> (try simp only [hcs, beq_iff_eq, ge_iff_le, gt_iff_lt] at hc))
| ((first | ((first | (with_reducible first | refine zR ?_ | refine zQ (by decide +kernel) ?_ | refine zD (by decide +kernel) ?_ | refine zE (by decide +kernel) ?_ | refine zG (by decide +kernel) ?_)); intro K hK) | ((first | (with_reducible refine zu ?_ ?_ <;> intro hg) | with_reducible intro hg) <;> (first | (exfalso; simp at hg; done) | (have hg' := hg; (try simp only [hcs, beq_iff_eq, ge_iff_le, gt_iff_lt] at hg'); (try simp only [hg]))))) <;> (try simp (disch := omega) only [go_sem, wn]) <;> (repeat' with_reducible refine And.intro ?_ ?_) <;> (try (with_reducible refine hK _ ?_; clear hK K)))
| omega)
  rotate_left
  · (refine zF rfl ?_ ?_ ?_ ?_; (iterate 3 (focus ((try simp (disch := omega) only [go_sem, wn]) <;> (try omega) <;> fail))); (try simp (disch := omega) only [go_sem, wn, I, B, S, inj, List.cons.injEq, and_true, true_and, and_self]))
    exact (goodTr_iff.2 ⟨hhead, hss, hT, fun q hq => hj2 q (by omega)⟩).symm
  refine AWP.loopB (ι := Nat) (fun k => k ≤ t.nodes.length) (fun k => t.nodes.length - k) [1, 5, 8, 9, 126, 127, 128, 137] (fun k => [(138, I k), (10, I (kidsN t (nd t j).path k)), (11, B (upN t j k))]) (fun k => [.cells [.d (.int .i64 t.zxid), .d (.sl 9 (t.nodes.map ANode.row)), .d (.sl 1 (t.sessions.map irow))], .rows 1 ((dirsR t t.nodes.length).map srow), .cells [S (t.nodes.getD j default).path, S (t.nodes.getD j default).data, I (t.nodes.getD j default).stat.czxid, I (t.nodes.getD j default).stat.mzxid, I (t.nodes.getD j default).stat.pzxid, I (t.nodes.getD j default).stat.version, I (t.nodes.getD j default).stat.cversion, I (t.nodes.getD j default).stat.owner, I (t.nodes.getD j default).stat.kids]]) 0 ?_ ?_ ?_
  · omega
  · simp only [go_sem, kidsN_zero, upN_zero]; (refine SImp.same ?_; simp (disch := omega) only [go_sem, wn, Int.natCast_add, Int.natCast_eq_zero])
  intro k hk
  have hkn := kidsN_le t (nd t j).path k
  have hdl := dirs_len t t.nodes.length
  simp only [go_sem]
  (repeat' first
| (with_reducible refine AR.f ?_)
| refine zb (by decide) ?_
| (with_reducible refine AWP.cond rfl ?_ ?_ <;> intro hc <;> (try simp only [hcs, beq_iff_eq, ge_iff_le, gt_iff_lt] at hc))
| ((first | ((first | (with_reducible first | refine zR ?_ | refine zQ (by decide +kernel) ?_ | refine zD (by decide +kernel) ?_ | refine zE (by decide +kernel) ?_ | refine zG (by decide +kernel) ?_)); intro K hK) | ((first | refine acallH_sc (isOpen_c t _ hs) rfl rfl ?_ ?_ ?_ | refine acallQ_sc (isOpen_c t _ hs) rfl rfl ?_ ?_ ?_); iterate 2 (focus ((try simp (disch := omega) only [go_sem, wn, List.append_eq, srow_rgetD, dirs_get]) <;> (try omega) <;> fail))) | ((first | refine zN (isOpen_c t _ hs) rfl ?_ ?_); (focus ((try simp (disch := omega) only [go_sem, wn, List.append_eq, srow_rgetD, dirs_get]) <;> (try omega) <;> fail))) | (first | ((first | refine zX (isOpen_c t _ hs) rfl ?_ ?_ | refine zy (isOpen_c t _ hs) ?_ ?_); (focus ((try simp (disch := omega) only [go_sem, wn, List.append_eq, srow_rgetD, dirs_get]) <;> (try omega) <;> fail)))) | ((first | (with_reducible refine zu ?_ ?_ <;> intro hg) | with_reducible intro hg) <;> (first | (exfalso; simp at hg; done) | (have hg' := hg; (try simp only [hcs, beq_iff_eq, ge_iff_le, gt_iff_lt] at hg'); (try simp only [hg]))))) <;> (try simp (disch := omega) only [go_sem, wn, List.append_eq, srow_rgetD, dirs_get]) <;> (repeat' with_reducible refine And.intro ?_ ?_) <;> (try (with_reducible refine hK _ ?_; clear hK K)))
| omega)
  · refine ⟨k + 1, by omega, by omega, ?_⟩
    rw [kidsN_succ, if_pos (show dirT t k = (nd t j).path from hc), upN_succ]
    (refine SImp.same ?_; simp (disch := omega) only [go_sem, wn, Int.natCast_add, nd, B, I, Int.add_zero, Int.cast_ofNat_Int])
    congr
  · refine ⟨k + 1, by omega, by omega, ?_⟩
    rw [kidsN_succ, if_neg (show ¬ dirT t k = (nd t j).path from hc), upN_succ]
    (refine SImp.same ?_; simp (disch := omega) only [go_sem, wn, Int.natCast_add, nd, B, I, Int.add_zero, Int.cast_ofNat_Int])
    congr
  · (refine zF rfl ?_ ?_ ?_ ?_; (iterate 3 (focus ((try simp (disch := omega) only [go_sem, wn]) <;> (try omega) <;> fail))); (try simp (disch := omega) only [go_sem, wn, I, B, S, inj, List.cons.injEq, and_true, true_and, and_self]))
    obtain rfl : k = t.nodes.length := by omega
    refine nodeB_no (k := j) (by assumption) fun ⟨⟨b1, b2, b3, b4, b5, b6, b7, b8, b9⟩, _, hu, hkd⟩ => ?_
    rw [← upN_iff] at hu
    have hkd' : (t.nodes.getD j default).stat.kids = (kidsN t (nd t j).path t.nodes.length : Nat) := hkd
    unfold nd at b1 b2 b3 b4 b5 b6 b7 b8 b9
    rcases hc with (((((((((h | h) | h) | h) | h) | h) | h) | h) | h) | h) | h
    · rw [hu] at h; cases h
    · exact h hkd'
    all_goals omega
  · (refine zF rfl ?_ ?_ ?_ ?_; (iterate 3 (focus ((try simp (disch := omega) only [go_sem, wn]) <;> (try omega) <;> fail))); (try simp (disch := omega) only [go_sem, wn, I, B, S, inj, List.cons.injEq, and_true, true_and, and_self]))
    obtain rfl : k = t.nodes.length := by omega
    refine nodeB_no (k := j) (by assumption) fun ⟨_, ho, _, hkd⟩ => ?_
    obtain ⟨o1, o2⟩ := ho hg'
    rcases hc with h | h
    · exact h o1
    · omega
  · obtain rfl : k = t.nodes.length := by omega
    refine ⟨j + 1, ⟨by omega, fun q hq => ?_⟩, by omega, ?_⟩
    · by_cases e : q = j
      · subst e; exact condQ_ok (by assumption) (fun _ => ⟨hc.1, by omega⟩)
      · exact hj2 q (by omega)
    (refine SImp.frame [0, 1] rfl (by intro k hk; first | (simp at hk <;> (simp; omega)) | (simp only [List.mem_cons, List.not_mem_nil, or_false] at hk; simp only [List.length_cons, List.length_nil]; omega)) (by decide) (fun k hk => by first | omega | (rcases k with _ | _ | _ | _ | _ | _ | _ | _ | k <;> first | rfl | omega)) ?_ ?_ <;> simp (disch := omega) only [go_sem, wn, Int.natCast_add, true_and] <;> (try rfl))
  · obtain rfl : k = t.nodes.length := by omega
    refine ⟨j + 1, ⟨by omega, fun q hq => ?_⟩, by omega, ?_⟩
    · by_cases e : q = j
      · subst e; exact condQ_ok (by assumption) (fun h => absurd hg' h)
      · exact hj2 q (by omega)
    (refine SImp.frame [0, 1] rfl (by intro k hk; first | (simp at hk <;> (simp; omega)) | (simp only [List.mem_cons, List.not_mem_nil, or_false] at hk; simp only [List.length_cons, List.length_nil]; omega)) (by decide) (fun k hk => by first | omega | (rcases k with _ | _ | _ | _ | _ | _ | _ | _ | k <;> first | rfl | omega)) ?_ ?_ <;> simp (disch := omega) only [go_sem, wn, Int.natCast_add, true_and] <;> (try rfl))
end Go.Proofs.YtmpfhalheaeibaaDoor
namespace Go.Proofs.YtmpfhalheaeibaaDoor
set_option linter.unusedVariables false
set_option linter.unusedSimpArgs false
open Go Go.RowKit
set_option maxRecDepth 100000
set_option linter.unusedSimpArgs false
theorem copyT_c (t : ATree) (hw : t.wf) : acall Tryd.prog [] 27 [t.av] (ret t.av) := by
  obtain ⟨hz, ⟨hn, hnw⟩, ⟨hs, hsw⟩⟩ := hw
  refine zi tabOk Tryd.func27 rfl (by kernel_rfl) (by simp [Tryd.ntmps27]) ?_; simp only [Tryd.ntmps27, Tryd.results27, List.toList_toArray, apar, List.length_nil, List.length_cons, Nat.reduceAdd]
  (repeat' first
| (with_reducible refine AR.f ?_)
| refine zb (by decide) ?_
| (with_reducible refine AWP.cond rfl ?_ ?_ <;> intro hc <;> (try simp only [hcs, beq_iff_eq, ge_iff_le, gt_iff_lt] at hc))
| ((first | ((first | (with_reducible first | refine zR ?_ | refine zQ (by decide +kernel) ?_ | refine zD (by decide +kernel) ?_ | refine zE (by decide +kernel) ?_ | refine zG (by decide +kernel) ?_)); intro K hK) | ((first | (with_reducible refine zu ?_ ?_ <;> intro hg) | with_reducible intro hg) <;> (first | (exfalso; simp at hg; done) | (have hg' := hg; (try simp only [hcs, beq_iff_eq, ge_iff_le, gt_iff_lt] at hg'); (try simp only [hg]))))) <;> (try simp (disch := omega) only [go_sem, wn]) <;> (repeat' with_reducible refine And.intro ?_ ?_) <;> (try (with_reducible refine hK _ ?_; clear hK K)))
| omega)
  all_goals (refine zF rfl ?_ ?_ ?_ ?_; (iterate 3 (focus ((try simp (disch := omega) only [go_sem, wn]) <;> (try omega) <;> fail))); (try simp (disch := omega) only [go_sem, wn, I, B, S, inj, List.cons.injEq, and_true, true_and, and_self]))
theorem t00_wf : t00.wf := by
  refine ⟨by unfold okI t00; decide, ⟨by decide, fun y hy => ?_⟩, ⟨by decide, fun y hy => by cases hy⟩⟩
  rw [List.mem_singleton.1 hy]
  unfold ANode.wf AStat.wf okS okI; decide
theorem node_smallD {t : ATree} (h : ∀ c, c ∈ t.row → SmallD 1048576 c) {x : ANode} (hx : x ∈ t.nodes) : ∀ c, c ∈ x.row → SmallD 1048576 c :=
  (h (.sl 9 (t.nodes.map ANode.row)) (by simp [ATree.row])).rows.2 _ (List.mem_map_of_mem hx)
theorem tree_small {t : ATree} (h : ∀ c, c ∈ t.row → SmallD 1048576 c) {x : ANode} (hx : x ∈ t.nodes) : x.path.length ≤ 1048576 :=
  (node_smallD h hx (DV.str x.path) (by simp [ANode.row])).len
end Go.Proofs.YtmpfhalheaeibaaDoor
namespace Go.Proofs.YtmpfhalheaeibaaDoor
set_option linter.unusedVariables false
set_option linter.unusedSimpArgs false
open Go Go.RowKit
set_option maxRecDepth 100000
def numsB (t : ATxn) : Bool := decide (goodZ t.zxid) && (decide (1 ≤ t.session ∧ t.session ≤ 2147483647) && (decide (0 ≤ t.version ∧ t.version ≤ 2147483647) && decide (0 ≤ t.owner ∧ t.owner ≤ 2147483647)))
def badT (t : ATxn) : Bool :=
  if t.op ≤ 2 then !decide (t.path = []) || (!decide (t.data = []) || (!decide (t.version = 0) || !decide (t.owner = 0)))
  else if t.op = 3 then !goodP t.path || (decide (t.path = [47]) || !decide (t.version = 0))
  else if t.op = 4 then !goodP t.path || (decide (t.path = [47]) || (!decide (t.data = []) || (!decide (t.version = 0) || !decide (t.owner = 0))))
  else !goodP t.path || !decide (t.owner = 0)
def goodT (t : ATxn) : Int := if t.op < 1 ∨ 5 < t.op then 4 else if numsB t = false then 3 else if 256 < t.data.length then 1 else if badT t = true then 2 else 0
theorem goodT_op {t : ATxn} (h : t.op < 1 ∨ 5 < t.op) : goodT t = 4 := by unfold goodT; rw [if_pos h]
theorem goodT_num {t : ATxn} (h : 1 ≤ t.op ∧ t.op ≤ 5) (h2 : ¬ numsB t = true) : goodT t = 3 := by unfold goodT; rw [if_neg (by omega), if_pos (eq_false_of_ne_true h2)]
theorem goodT_long {t : ATxn} (h : 1 ≤ t.op ∧ t.op ≤ 5) (h2 : numsB t = true) (h3 : 256 < t.data.length) : goodT t = 1 := by unfold goodT; rw [if_neg (by omega), if_neg (by rw [h2]; decide), if_pos h3]
theorem goodT_ok {t : ATxn} (h : 1 ≤ t.op ∧ t.op ≤ 5) (h2 : numsB t = true) (h3 : t.data.length ≤ 256) : goodT t = if badT t = true then 2 else 0 := by unfold goodT; rw [if_neg (by omega), if_neg (by rw [h2]; decide), if_neg (by omega)]
theorem numsB_iff (t : ATxn) : numsB t = true ↔ goodZ t.zxid ∧ (1 ≤ t.session ∧ t.session ≤ 2147483647) ∧ (0 ≤ t.version ∧ t.version ≤ 2147483647) ∧ (0 ≤ t.owner ∧ t.owner ≤ 2147483647) := by
  unfold numsB; simp only [Bool.and_eq_true, decide_eq_true_eq]
theorem wbad {t : ATxn} (h : 1 ≤ t.op ∧ t.op ≤ 5) : badT t = true ↔ ((t.op ≤ 2 ∧ (((¬t.path = [] ∨ ¬t.data = []) ∨ ¬t.version = 0) ∨ ¬t.owner = 0)) ∨ (3 ≤ t.op ∧ (goodP t.path = false ∨ t.path = [47] ∧ ¬t.op = 5)) ∨ ((t.op = 4 ∧ ((¬t.data = [] ∨ ¬t.version = 0) ∨ ¬t.owner = 0) ∨ t.op = 3 ∧ ¬t.version = 0) ∨ t.op = 5 ∧ ¬t.owner = 0)) := by
  have hop : t.op = 1 ∨ t.op = 2 ∨ t.op = 3 ∨ t.op = 4 ∨ t.op = 5 := by omega
  rcases hop with e | e | e | e | e <;> simp [badT, e, or_assoc]
theorem wgood_c (t : ATxn) (hp : okS t.path) (hd : okS t.data) : acall Tryd.prog [] 123 [t.av] (ret (I (goodT t))) := by
  unfold okS at hd
  refine zi tabOk Tryd.func123 rfl (by kernel_rfl) (by simp [Tryd.ntmps123]) ?_; simp only [Tryd.ntmps123, Tryd.results123, List.toList_toArray, apar, List.length_nil, List.length_cons, Nat.reduceAdd]
  (repeat' first
| (with_reducible refine AR.f ?_)
| refine zb (by decide) ?_
| (with_reducible refine AWP.cond rfl ?_ ?_ <;> intro hc <;> (try simp only [hcs, beq_iff_eq, ge_iff_le, gt_iff_lt] at hc))
| ((first | ((first | (with_reducible first | refine zR ?_ | refine zQ (by decide +kernel) ?_ | refine zD (by decide +kernel) ?_ | refine zE (by decide +kernel) ?_ | refine zG (by decide +kernel) ?_)); intro K hK) | ((first | refine zA (good_c t.path hp) ?_ ?_ ?_ ?_ ?_); (focus exact rfl); (focus exact rfl); iterate 2 (focus ((try simp (disch := omega) only [go_sem, wn]) <;> (try omega) <;> fail))) | ((first | refine acallH_sc (zgood_c _) rfl rfl ?_ ?_ ?_ | refine acallQ_sc (zgood_c _) rfl rfl ?_ ?_ ?_); iterate 2 (focus ((try simp (disch := omega) only [go_sem, wn]) <;> (try omega) <;> fail))) | ((first | refine zN (zgood_c _) rfl ?_ ?_ | refine zN (good_c t.path hp) rfl ?_ ?_); (focus ((try simp (disch := omega) only [go_sem, wn]) <;> (try omega) <;> fail))) | (first | ((first | refine zX (zgood_c _) rfl ?_ ?_ | refine zy (zgood_c _) ?_ ?_); (focus ((try simp (disch := omega) only [go_sem, wn]) <;> (try omega) <;> fail))) | ((first | refine zX (good_c t.path hp) rfl ?_ ?_ | refine zy (good_c t.path hp) ?_ ?_); (focus ((try simp (disch := omega) only [go_sem, wn]) <;> (try omega) <;> fail)))) | ((first | (with_reducible refine zu ?_ ?_ <;> intro hg) | with_reducible intro hg) <;> (first | (exfalso; simp at hg; done) | (have hg' := hg; (try simp only [hcs, beq_iff_eq, ge_iff_le, gt_iff_lt] at hg'); (try simp only [hg]))))) <;> (try simp (disch := omega) only [go_sem, wn]) <;> (repeat' with_reducible refine And.intro ?_ ?_) <;> (try (with_reducible refine hK _ ?_; clear hK K)))
| omega)
  · rw [goodT_op hc]; (refine zF rfl ?_ ?_ ?_ ?_; (iterate 3 (focus ((try simp (disch := omega) only [go_sem, wn]) <;> (try omega) <;> fail))); (try simp (disch := omega) only [go_sem, wn, I, B, S, inj, List.cons.injEq, and_true, true_and, and_self]))
  all_goals (have hop : 1 ≤ t.op ∧ t.op ≤ 5 := by assumption)
  · rw [goodT_num hop]
    · (refine zF rfl ?_ ?_ ?_ ?_; (iterate 3 (focus ((try simp (disch := omega) only [go_sem, wn]) <;> (try omega) <;> fail))); (try simp (disch := omega) only [go_sem, wn, I, B, S, inj, List.cons.injEq, and_true, true_and, and_self]))
    rw [numsB_iff]; rintro ⟨h1, h2⟩
    rcases hc with (((((c | c) | c) | c) | c) | c) | c
    · exact c h1
    all_goals omega
  all_goals (have hn : (((((goodZ t.zxid ∧ 1 ≤ t.session) ∧ t.session ≤ 2147483647) ∧ 0 ≤ t.version) ∧ t.version ≤ 2147483647) ∧ 0 ≤ t.owner) ∧ t.owner ≤ 2147483647 := by assumption)
  all_goals (have hnb : numsB t = true := (numsB_iff t).2 ⟨hn.1.1.1.1.1.1, by omega, by omega, by omega⟩)
  · rw [goodT_long hop hnb (by omega)]; (refine zF rfl ?_ ?_ ?_ ?_; (iterate 3 (focus ((try simp (disch := omega) only [go_sem, wn]) <;> (try omega) <;> fail))); (try simp (disch := omega) only [go_sem, wn, I, B, S, inj, List.cons.injEq, and_true, true_and, and_self]))
  all_goals rw [goodT_ok hop hnb (by omega)]
  · rw [if_pos ((wbad hop).2 (.inl hc))]; (refine zF rfl ?_ ?_ ?_ ?_; (iterate 3 (focus ((try simp (disch := omega) only [go_sem, wn]) <;> (try omega) <;> fail))); (try simp (disch := omega) only [go_sem, wn, I, B, S, inj, List.cons.injEq, and_true, true_and, and_self]))
  · rw [if_pos ((wbad hop).2 (.inr (.inl ⟨by simpa using hg, hc⟩)))]; (refine zF rfl ?_ ?_ ?_ ?_; (iterate 3 (focus ((try simp (disch := omega) only [go_sem, wn]) <;> (try omega) <;> fail))); (try simp (disch := omega) only [go_sem, wn, I, B, S, inj, List.cons.injEq, and_true, true_and, and_self]))
  · rw [if_pos ((wbad hop).2 (.inr (.inr hc)))]; (refine zF rfl ?_ ?_ ?_ ?_; (iterate 3 (focus ((try simp (disch := omega) only [go_sem, wn]) <;> (try omega) <;> fail))); (try simp (disch := omega) only [go_sem, wn, I, B, S, inj, List.cons.injEq, and_true, true_and, and_self]))
  all_goals (rw [if_neg (fun hb => by
    have hb := (wbad hop).1 hb
    have hop : t.op = 1 ∨ t.op = 2 ∨ t.op = 3 ∨ t.op = 4 ∨ t.op = 5 := by omega
    rcases hop with e | e | e | e | e <;> simp_all)]; (refine zF rfl ?_ ?_ ?_ ?_; (iterate 3 (focus ((try simp (disch := omega) only [go_sem, wn]) <;> (try omega) <;> fail))); (try simp (disch := omega) only [go_sem, wn, I, B, S, inj, List.cons.injEq, and_true, true_and, and_self])))
theorem in_c (n lo : Int) : acall Tryd.prog [] 157 [I n, I lo] (ret (B (decide (lo ≤ n ∧ n < 2147483648)))) := by
  refine zi tabOk Tryd.func157 rfl (by kernel_rfl) (by simp [Tryd.ntmps157]) ?_; simp only [Tryd.ntmps157, Tryd.results157, List.toList_toArray, apar, List.length_nil, List.length_cons, Nat.reduceAdd]
  (repeat' first
| (with_reducible refine AR.f ?_)
| refine zb (by decide) ?_
| (with_reducible refine AWP.cond rfl ?_ ?_ <;> intro hc <;> (try simp only [hcs, beq_iff_eq, ge_iff_le, gt_iff_lt] at hc))
| ((first | ((first | (with_reducible first | refine zR ?_ | refine zQ (by decide +kernel) ?_ | refine zD (by decide +kernel) ?_ | refine zE (by decide +kernel) ?_ | refine zG (by decide +kernel) ?_)); intro K hK) | ((first | (with_reducible refine zu ?_ ?_ <;> intro hg) | with_reducible intro hg) <;> (first | (exfalso; simp at hg; done) | (have hg' := hg; (try simp only [hcs, beq_iff_eq, ge_iff_le, gt_iff_lt] at hg'); (try simp only [hg]))))) <;> (try simp (disch := omega) only [go_sem, wn]) <;> (repeat' with_reducible refine And.intro ?_ ?_) <;> (try (with_reducible refine hK _ ?_; clear hK K)))
| omega)
  all_goals (refine zF rfl ?_ ?_ ?_ ?_; (iterate 3 (focus ((try simp (disch := omega) only [go_sem, wn]) <;> (try omega) <;> fail))); (try simp (disch := omega) only [go_sem, wn, I, B, S, inj, List.cons.injEq, and_true, true_and, and_self]))
  all_goals simp
set_option maxHeartbeats 2000000 in
theorem ref_wgood_c (t : ATxn) (hz : okI t.zxid) (hp : t.path.length ≤ 1048576) (hd : okS t.data) : acall Tryd.prog [] 112 [t.av] (ret (I (goodT t))) := by
  unfold okS at hd
  by_cases hop : t.op < 1 ∨ 5 < t.op
  · rw [goodT_op hop]
    refine zi tabOk Tryd.func112 rfl (by kernel_rfl) (by simp [Tryd.ntmps112]) ?_; simp only [Tryd.ntmps112, Tryd.results112, List.toList_toArray, apar, List.length_nil, List.length_cons, Nat.reduceAdd]
    (repeat' first
  | (with_reducible refine AR.f ?_)
  | refine zb (by decide) ?_
  | (with_reducible refine AWP.cond rfl ?_ ?_ <;> intro hc <;> (try simp only [hcs, beq_iff_eq, ge_iff_le, gt_iff_lt] at hc))
  | ((first | ((first | (with_reducible first | refine zR ?_ | refine zQ (by decide +kernel) ?_ | refine zD (by decide +kernel) ?_ | refine zE (by decide +kernel) ?_ | refine zG (by decide +kernel) ?_)); intro K hK) | ((first | (with_reducible refine zu ?_ ?_ <;> intro hg) | with_reducible intro hg) <;> (first | (exfalso; simp at hg; done) | (have hg' := hg; (try simp only [hcs, beq_iff_eq, ge_iff_le, gt_iff_lt] at hg'); (try simp only [hg]))))) <;> (try simp (disch := omega) only [go_sem, wn]) <;> (repeat' with_reducible refine And.intro ?_ ?_) <;> (try (with_reducible refine hK _ ?_; clear hK K)))
  | omega)
    all_goals first | omega | skip
    all_goals (refine zF rfl ?_ ?_ ?_ ?_; (iterate 3 (focus ((try simp (disch := omega) only [go_sem, wn]) <;> (try omega) <;> fail))); (try simp (disch := omega) only [go_sem, wn, I, B, S, inj, List.cons.injEq, and_true, true_and, and_self]))
  have hop' : 1 ≤ t.op ∧ t.op ≤ 5 := by omega
  by_cases h1 : goodZ t.zxid
  case neg =>
    rw [goodT_num hop' (fun h => h1 ((numsB_iff t).1 h).1)]
    refine zi tabOk Tryd.func112 rfl (by kernel_rfl) (by simp [Tryd.ntmps112]) ?_; simp only [Tryd.ntmps112, Tryd.results112, List.toList_toArray, apar, List.length_nil, List.length_cons, Nat.reduceAdd]
    (repeat' first
  | (with_reducible refine AR.f ?_)
  | refine zb (by decide) ?_
  | (with_reducible refine AWP.cond rfl ?_ ?_ <;> intro hc <;> (try simp only [hcs, beq_iff_eq, ge_iff_le, gt_iff_lt] at hc))
  | ((first | ((first | (with_reducible first | refine zR ?_ | refine zQ (by decide +kernel) ?_ | refine zD (by decide +kernel) ?_ | refine zE (by decide +kernel) ?_ | refine zG (by decide +kernel) ?_)); intro K hK) | ((first | refine acallH_sc ((ref_zgood_c _ hz).re (congrArg B (decide_eq_false h1))) rfl rfl ?_ ?_ ?_ | refine acallQ_sc ((ref_zgood_c _ hz).re (congrArg B (decide_eq_false h1))) rfl rfl ?_ ?_ ?_); iterate 2 (focus ((try simp (disch := omega) only [go_sem, wn]) <;> (try omega) <;> fail))) | ((first | refine zN ((ref_zgood_c _ hz).re (congrArg B (decide_eq_false h1))) rfl ?_ ?_); (focus ((try simp (disch := omega) only [go_sem, wn]) <;> (try omega) <;> fail))) | (first | ((first | refine zX ((ref_zgood_c _ hz).re (congrArg B (decide_eq_false h1))) rfl ?_ ?_ | refine zy ((ref_zgood_c _ hz).re (congrArg B (decide_eq_false h1))) ?_ ?_); (focus ((try simp (disch := omega) only [go_sem, wn]) <;> (try omega) <;> fail)))) | ((first | (with_reducible refine zu ?_ ?_ <;> intro hg) | with_reducible intro hg) <;> (first | (exfalso; simp at hg; done) | (have hg' := hg; (try simp only [hcs, beq_iff_eq, ge_iff_le, gt_iff_lt] at hg'); (try simp only [hg]))))) <;> (try simp (disch := omega) only [go_sem, wn]) <;> (repeat' with_reducible refine And.intro ?_ ?_) <;> (try (with_reducible refine hK _ ?_; clear hK K)))
  | omega)
    all_goals first | omega | skip
    all_goals (refine zF rfl ?_ ?_ ?_ ?_; (iterate 3 (focus ((try simp (disch := omega) only [go_sem, wn]) <;> (try omega) <;> fail))); (try simp (disch := omega) only [go_sem, wn, I, B, S, inj, List.cons.injEq, and_true, true_and, and_self]))
  by_cases h2 : 1 ≤ t.session ∧ t.session < 2147483648
  case neg =>
    rw [goodT_num hop' (fun h => by have := (numsB_iff t).1 h; omega)]
    refine zi tabOk Tryd.func112 rfl (by kernel_rfl) (by simp [Tryd.ntmps112]) ?_; simp only [Tryd.ntmps112, Tryd.results112, List.toList_toArray, apar, List.length_nil, List.length_cons, Nat.reduceAdd]
    (repeat' first
  | (with_reducible refine AR.f ?_)
  | refine zb (by decide) ?_
  | (with_reducible refine AWP.cond rfl ?_ ?_ <;> intro hc <;> (try simp only [hcs, beq_iff_eq, ge_iff_le, gt_iff_lt] at hc))
  | ((first | ((first | (with_reducible first | refine zR ?_ | refine zQ (by decide +kernel) ?_ | refine zD (by decide +kernel) ?_ | refine zE (by decide +kernel) ?_ | refine zG (by decide +kernel) ?_)); intro K hK) | ((first | refine zA ((in_c t.session 1).re (congrArg B (decide_eq_false h2))) ?_ ?_ ?_ ?_ ?_); (focus exact rfl); (focus exact rfl); iterate 2 (focus ((try simp (disch := omega) only [go_sem, wn]) <;> (try omega) <;> fail))) | ((first | refine acallH_sc ((ref_zgood_c _ hz).re (congrArg B (decide_eq_true h1))) rfl rfl ?_ ?_ ?_ | refine acallQ_sc ((ref_zgood_c _ hz).re (congrArg B (decide_eq_true h1))) rfl rfl ?_ ?_ ?_); iterate 2 (focus ((try simp (disch := omega) only [go_sem, wn]) <;> (try omega) <;> fail))) | ((first | refine zN ((ref_zgood_c _ hz).re (congrArg B (decide_eq_true h1))) rfl ?_ ?_ | refine zN ((in_c t.session 1).re (congrArg B (decide_eq_false h2))) rfl ?_ ?_); (focus ((try simp (disch := omega) only [go_sem, wn]) <;> (try omega) <;> fail))) | (first | ((first | refine zX ((ref_zgood_c _ hz).re (congrArg B (decide_eq_true h1))) rfl ?_ ?_ | refine zy ((ref_zgood_c _ hz).re (congrArg B (decide_eq_true h1))) ?_ ?_); (focus ((try simp (disch := omega) only [go_sem, wn]) <;> (try omega) <;> fail))) | ((first | refine zX ((in_c t.session 1).re (congrArg B (decide_eq_false h2))) rfl ?_ ?_ | refine zy ((in_c t.session 1).re (congrArg B (decide_eq_false h2))) ?_ ?_); (focus ((try simp (disch := omega) only [go_sem, wn]) <;> (try omega) <;> fail)))) | ((first | (with_reducible refine zu ?_ ?_ <;> intro hg) | with_reducible intro hg) <;> (first | (exfalso; simp at hg; done) | (have hg' := hg; (try simp only [hcs, beq_iff_eq, ge_iff_le, gt_iff_lt] at hg'); (try simp only [hg]))))) <;> (try simp (disch := omega) only [go_sem, wn]) <;> (repeat' with_reducible refine And.intro ?_ ?_) <;> (try (with_reducible refine hK _ ?_; clear hK K)))
  | omega)
    all_goals first | omega | skip
    all_goals (refine zF rfl ?_ ?_ ?_ ?_; (iterate 3 (focus ((try simp (disch := omega) only [go_sem, wn]) <;> (try omega) <;> fail))); (try simp (disch := omega) only [go_sem, wn, I, B, S, inj, List.cons.injEq, and_true, true_and, and_self]))
  by_cases h3 : 0 ≤ t.version ∧ t.version < 2147483648
  case neg =>
    rw [goodT_num hop' (fun h => by have := (numsB_iff t).1 h; omega)]
    refine zi tabOk Tryd.func112 rfl (by kernel_rfl) (by simp [Tryd.ntmps112]) ?_; simp only [Tryd.ntmps112, Tryd.results112, List.toList_toArray, apar, List.length_nil, List.length_cons, Nat.reduceAdd]
    (repeat' first
  | (with_reducible refine AR.f ?_)
  | refine zb (by decide) ?_
  | (with_reducible refine AWP.cond rfl ?_ ?_ <;> intro hc <;> (try simp only [hcs, beq_iff_eq, ge_iff_le, gt_iff_lt] at hc))
  | ((first | ((first | (with_reducible first | refine zR ?_ | refine zQ (by decide +kernel) ?_ | refine zD (by decide +kernel) ?_ | refine zE (by decide +kernel) ?_ | refine zG (by decide +kernel) ?_)); intro K hK) | ((first | refine zA ((in_c t.session 1).re (congrArg B (decide_eq_true h2))) ?_ ?_ ?_ ?_ ?_ | refine zA ((in_c t.version 0).re (congrArg B (decide_eq_false h3))) ?_ ?_ ?_ ?_ ?_); (focus exact rfl); (focus exact rfl); iterate 2 (focus ((try simp (disch := omega) only [go_sem, wn]) <;> (try omega) <;> fail))) | ((first | refine acallH_sc ((ref_zgood_c _ hz).re (congrArg B (decide_eq_true h1))) rfl rfl ?_ ?_ ?_ | refine acallQ_sc ((ref_zgood_c _ hz).re (congrArg B (decide_eq_true h1))) rfl rfl ?_ ?_ ?_); iterate 2 (focus ((try simp (disch := omega) only [go_sem, wn]) <;> (try omega) <;> fail))) | ((first | refine zN ((ref_zgood_c _ hz).re (congrArg B (decide_eq_true h1))) rfl ?_ ?_ | refine zN ((in_c t.session 1).re (congrArg B (decide_eq_true h2))) rfl ?_ ?_ | refine zN ((in_c t.version 0).re (congrArg B (decide_eq_false h3))) rfl ?_ ?_); (focus ((try simp (disch := omega) only [go_sem, wn]) <;> (try omega) <;> fail))) | (first | ((first | refine zX ((ref_zgood_c _ hz).re (congrArg B (decide_eq_true h1))) rfl ?_ ?_ | refine zy ((ref_zgood_c _ hz).re (congrArg B (decide_eq_true h1))) ?_ ?_); (focus ((try simp (disch := omega) only [go_sem, wn]) <;> (try omega) <;> fail))) | ((first | refine zX ((in_c t.session 1).re (congrArg B (decide_eq_true h2))) rfl ?_ ?_ | refine zy ((in_c t.session 1).re (congrArg B (decide_eq_true h2))) ?_ ?_); (focus ((try simp (disch := omega) only [go_sem, wn]) <;> (try omega) <;> fail))) | ((first | refine zX ((in_c t.version 0).re (congrArg B (decide_eq_false h3))) rfl ?_ ?_ | refine zy ((in_c t.version 0).re (congrArg B (decide_eq_false h3))) ?_ ?_); (focus ((try simp (disch := omega) only [go_sem, wn]) <;> (try omega) <;> fail)))) | ((first | (with_reducible refine zu ?_ ?_ <;> intro hg) | with_reducible intro hg) <;> (first | (exfalso; simp at hg; done) | (have hg' := hg; (try simp only [hcs, beq_iff_eq, ge_iff_le, gt_iff_lt] at hg'); (try simp only [hg]))))) <;> (try simp (disch := omega) only [go_sem, wn]) <;> (repeat' with_reducible refine And.intro ?_ ?_) <;> (try (with_reducible refine hK _ ?_; clear hK K)))
  | omega)
    all_goals first | omega | skip
    all_goals (refine zF rfl ?_ ?_ ?_ ?_; (iterate 3 (focus ((try simp (disch := omega) only [go_sem, wn]) <;> (try omega) <;> fail))); (try simp (disch := omega) only [go_sem, wn, I, B, S, inj, List.cons.injEq, and_true, true_and, and_self]))
  by_cases h4 : 0 ≤ t.owner ∧ t.owner < 2147483648
  case neg =>
    rw [goodT_num hop' (fun h => by have := (numsB_iff t).1 h; omega)]
    refine zi tabOk Tryd.func112 rfl (by kernel_rfl) (by simp [Tryd.ntmps112]) ?_; simp only [Tryd.ntmps112, Tryd.results112, List.toList_toArray, apar, List.length_nil, List.length_cons, Nat.reduceAdd]
    (repeat' first
  | (with_reducible refine AR.f ?_)
  | refine zb (by decide) ?_
  | (with_reducible refine AWP.cond rfl ?_ ?_ <;> intro hc <;> (try simp only [hcs, beq_iff_eq, ge_iff_le, gt_iff_lt] at hc))
  | ((first | ((first | (with_reducible first | refine zR ?_ | refine zQ (by decide +kernel) ?_ | refine zD (by decide +kernel) ?_ | refine zE (by decide +kernel) ?_ | refine zG (by decide +kernel) ?_)); intro K hK) | ((first | refine zA ((in_c t.session 1).re (congrArg B (decide_eq_true h2))) ?_ ?_ ?_ ?_ ?_ | refine zA ((in_c t.version 0).re (congrArg B (decide_eq_true h3))) ?_ ?_ ?_ ?_ ?_ | refine zA ((in_c t.owner 0).re (congrArg B (decide_eq_false h4))) ?_ ?_ ?_ ?_ ?_); (focus exact rfl); (focus exact rfl); iterate 2 (focus ((try simp (disch := omega) only [go_sem, wn]) <;> (try omega) <;> fail))) | ((first | refine acallH_sc ((ref_zgood_c _ hz).re (congrArg B (decide_eq_true h1))) rfl rfl ?_ ?_ ?_ | refine acallQ_sc ((ref_zgood_c _ hz).re (congrArg B (decide_eq_true h1))) rfl rfl ?_ ?_ ?_); iterate 2 (focus ((try simp (disch := omega) only [go_sem, wn]) <;> (try omega) <;> fail))) | ((first | refine zN ((ref_zgood_c _ hz).re (congrArg B (decide_eq_true h1))) rfl ?_ ?_ | refine zN ((in_c t.session 1).re (congrArg B (decide_eq_true h2))) rfl ?_ ?_ | refine zN ((in_c t.version 0).re (congrArg B (decide_eq_true h3))) rfl ?_ ?_ | refine zN ((in_c t.owner 0).re (congrArg B (decide_eq_false h4))) rfl ?_ ?_); (focus ((try simp (disch := omega) only [go_sem, wn]) <;> (try omega) <;> fail))) | (first | ((first | refine zX ((ref_zgood_c _ hz).re (congrArg B (decide_eq_true h1))) rfl ?_ ?_ | refine zy ((ref_zgood_c _ hz).re (congrArg B (decide_eq_true h1))) ?_ ?_); (focus ((try simp (disch := omega) only [go_sem, wn]) <;> (try omega) <;> fail))) | ((first | refine zX ((in_c t.session 1).re (congrArg B (decide_eq_true h2))) rfl ?_ ?_ | refine zy ((in_c t.session 1).re (congrArg B (decide_eq_true h2))) ?_ ?_); (focus ((try simp (disch := omega) only [go_sem, wn]) <;> (try omega) <;> fail))) | ((first | refine zX ((in_c t.version 0).re (congrArg B (decide_eq_true h3))) rfl ?_ ?_ | refine zy ((in_c t.version 0).re (congrArg B (decide_eq_true h3))) ?_ ?_); (focus ((try simp (disch := omega) only [go_sem, wn]) <;> (try omega) <;> fail))) | ((first | refine zX ((in_c t.owner 0).re (congrArg B (decide_eq_false h4))) rfl ?_ ?_ | refine zy ((in_c t.owner 0).re (congrArg B (decide_eq_false h4))) ?_ ?_); (focus ((try simp (disch := omega) only [go_sem, wn]) <;> (try omega) <;> fail)))) | ((first | (with_reducible refine zu ?_ ?_ <;> intro hg) | with_reducible intro hg) <;> (first | (exfalso; simp at hg; done) | (have hg' := hg; (try simp only [hcs, beq_iff_eq, ge_iff_le, gt_iff_lt] at hg'); (try simp only [hg]))))) <;> (try simp (disch := omega) only [go_sem, wn]) <;> (repeat' with_reducible refine And.intro ?_ ?_) <;> (try (with_reducible refine hK _ ?_; clear hK K)))
  | omega)
    all_goals first | omega | skip
    all_goals (refine zF rfl ?_ ?_ ?_ ?_; (iterate 3 (focus ((try simp (disch := omega) only [go_sem, wn]) <;> (try omega) <;> fail))); (try simp (disch := omega) only [go_sem, wn, I, B, S, inj, List.cons.injEq, and_true, true_and, and_self]))
  have hnb : numsB t = true := (numsB_iff t).2 ⟨h1, by omega, by omega, by omega⟩
  by_cases hlen : 256 < t.data.length
  · rw [goodT_long hop' hnb hlen]
    refine zi tabOk Tryd.func112 rfl (by kernel_rfl) (by simp [Tryd.ntmps112]) ?_; simp only [Tryd.ntmps112, Tryd.results112, List.toList_toArray, apar, List.length_nil, List.length_cons, Nat.reduceAdd]
    (repeat' first
  | (with_reducible refine AR.f ?_)
  | refine zb (by decide) ?_
  | (with_reducible refine AWP.cond rfl ?_ ?_ <;> intro hc <;> (try simp only [hcs, beq_iff_eq, ge_iff_le, gt_iff_lt] at hc))
  | ((first | ((first | (with_reducible first | refine zR ?_ | refine zQ (by decide +kernel) ?_ | refine zD (by decide +kernel) ?_ | refine zE (by decide +kernel) ?_ | refine zG (by decide +kernel) ?_)); intro K hK) | ((first | refine zA ((in_c t.session 1).re (congrArg B (decide_eq_true h2))) ?_ ?_ ?_ ?_ ?_ | refine zA ((in_c t.version 0).re (congrArg B (decide_eq_true h3))) ?_ ?_ ?_ ?_ ?_ | refine zA ((in_c t.owner 0).re (congrArg B (decide_eq_true h4))) ?_ ?_ ?_ ?_ ?_); (focus exact rfl); (focus exact rfl); iterate 2 (focus ((try simp (disch := omega) only [go_sem, wn]) <;> (try omega) <;> fail))) | ((first | refine acallH_sc ((ref_zgood_c _ hz).re (congrArg B (decide_eq_true h1))) rfl rfl ?_ ?_ ?_ | refine acallQ_sc ((ref_zgood_c _ hz).re (congrArg B (decide_eq_true h1))) rfl rfl ?_ ?_ ?_); iterate 2 (focus ((try simp (disch := omega) only [go_sem, wn]) <;> (try omega) <;> fail))) | ((first | refine zN ((ref_zgood_c _ hz).re (congrArg B (decide_eq_true h1))) rfl ?_ ?_ | refine zN ((in_c t.session 1).re (congrArg B (decide_eq_true h2))) rfl ?_ ?_ | refine zN ((in_c t.version 0).re (congrArg B (decide_eq_true h3))) rfl ?_ ?_ | refine zN ((in_c t.owner 0).re (congrArg B (decide_eq_true h4))) rfl ?_ ?_); (focus ((try simp (disch := omega) only [go_sem, wn]) <;> (try omega) <;> fail))) | (first | ((first | refine zX ((ref_zgood_c _ hz).re (congrArg B (decide_eq_true h1))) rfl ?_ ?_ | refine zy ((ref_zgood_c _ hz).re (congrArg B (decide_eq_true h1))) ?_ ?_); (focus ((try simp (disch := omega) only [go_sem, wn]) <;> (try omega) <;> fail))) | ((first | refine zX ((in_c t.session 1).re (congrArg B (decide_eq_true h2))) rfl ?_ ?_ | refine zy ((in_c t.session 1).re (congrArg B (decide_eq_true h2))) ?_ ?_); (focus ((try simp (disch := omega) only [go_sem, wn]) <;> (try omega) <;> fail))) | ((first | refine zX ((in_c t.version 0).re (congrArg B (decide_eq_true h3))) rfl ?_ ?_ | refine zy ((in_c t.version 0).re (congrArg B (decide_eq_true h3))) ?_ ?_); (focus ((try simp (disch := omega) only [go_sem, wn]) <;> (try omega) <;> fail))) | ((first | refine zX ((in_c t.owner 0).re (congrArg B (decide_eq_true h4))) rfl ?_ ?_ | refine zy ((in_c t.owner 0).re (congrArg B (decide_eq_true h4))) ?_ ?_); (focus ((try simp (disch := omega) only [go_sem, wn]) <;> (try omega) <;> fail)))) | ((first | (with_reducible refine zu ?_ ?_ <;> intro hg) | with_reducible intro hg) <;> (first | (exfalso; simp at hg; done) | (have hg' := hg; (try simp only [hcs, beq_iff_eq, ge_iff_le, gt_iff_lt] at hg'); (try simp only [hg]))))) <;> (try simp (disch := omega) only [go_sem, wn]) <;> (repeat' with_reducible refine And.intro ?_ ?_) <;> (try (with_reducible refine hK _ ?_; clear hK K)))
  | omega)
    all_goals first | omega | skip
    all_goals (refine zF rfl ?_ ?_ ?_ ?_; (iterate 3 (focus ((try simp (disch := omega) only [go_sem, wn]) <;> (try omega) <;> fail))); (try simp (disch := omega) only [go_sem, wn, I, B, S, inj, List.cons.injEq, and_true, true_and, and_self]))
  rw [goodT_ok hop' hnb (by omega)]
  refine zi tabOk Tryd.func112 rfl (by kernel_rfl) (by simp [Tryd.ntmps112]) ?_; simp only [Tryd.ntmps112, Tryd.results112, List.toList_toArray, apar, List.length_nil, List.length_cons, Nat.reduceAdd]
  (repeat' first
| (with_reducible refine AR.f ?_)
| refine zb (by decide) ?_
| (with_reducible refine AWP.cond rfl ?_ ?_ <;> intro hc <;> (try simp only [hcs, beq_iff_eq, ge_iff_le, gt_iff_lt] at hc))
| ((first | ((first | (with_reducible first | refine zR ?_ | refine zQ (by decide +kernel) ?_ | refine zD (by decide +kernel) ?_ | refine zE (by decide +kernel) ?_ | refine zG (by decide +kernel) ?_)); intro K hK) | ((first | refine zA ((in_c t.session 1).re (congrArg B (decide_eq_true h2))) ?_ ?_ ?_ ?_ ?_ | refine zA ((in_c t.version 0).re (congrArg B (decide_eq_true h3))) ?_ ?_ ?_ ?_ ?_ | refine zA ((in_c t.owner 0).re (congrArg B (decide_eq_true h4))) ?_ ?_ ?_ ?_ ?_ | refine zA (ref_good_c t.path hp) ?_ ?_ ?_ ?_ ?_); (focus exact rfl); (focus exact rfl); iterate 2 (focus ((try simp (disch := omega) only [go_sem, wn]) <;> (try omega) <;> fail))) | ((first | refine acallH_sc ((ref_zgood_c _ hz).re (congrArg B (decide_eq_true h1))) rfl rfl ?_ ?_ ?_ | refine acallQ_sc ((ref_zgood_c _ hz).re (congrArg B (decide_eq_true h1))) rfl rfl ?_ ?_ ?_); iterate 2 (focus ((try simp (disch := omega) only [go_sem, wn]) <;> (try omega) <;> fail))) | ((first | refine zN ((ref_zgood_c _ hz).re (congrArg B (decide_eq_true h1))) rfl ?_ ?_ | refine zN ((in_c t.session 1).re (congrArg B (decide_eq_true h2))) rfl ?_ ?_ | refine zN ((in_c t.version 0).re (congrArg B (decide_eq_true h3))) rfl ?_ ?_ | refine zN ((in_c t.owner 0).re (congrArg B (decide_eq_true h4))) rfl ?_ ?_ | refine zN (ref_good_c t.path hp) rfl ?_ ?_); (focus ((try simp (disch := omega) only [go_sem, wn]) <;> (try omega) <;> fail))) | (first | ((first | refine zX ((ref_zgood_c _ hz).re (congrArg B (decide_eq_true h1))) rfl ?_ ?_ | refine zy ((ref_zgood_c _ hz).re (congrArg B (decide_eq_true h1))) ?_ ?_); (focus ((try simp (disch := omega) only [go_sem, wn]) <;> (try omega) <;> fail))) | ((first | refine zX ((in_c t.session 1).re (congrArg B (decide_eq_true h2))) rfl ?_ ?_ | refine zy ((in_c t.session 1).re (congrArg B (decide_eq_true h2))) ?_ ?_); (focus ((try simp (disch := omega) only [go_sem, wn]) <;> (try omega) <;> fail))) | ((first | refine zX ((in_c t.version 0).re (congrArg B (decide_eq_true h3))) rfl ?_ ?_ | refine zy ((in_c t.version 0).re (congrArg B (decide_eq_true h3))) ?_ ?_); (focus ((try simp (disch := omega) only [go_sem, wn]) <;> (try omega) <;> fail))) | ((first | refine zX ((in_c t.owner 0).re (congrArg B (decide_eq_true h4))) rfl ?_ ?_ | refine zy ((in_c t.owner 0).re (congrArg B (decide_eq_true h4))) ?_ ?_); (focus ((try simp (disch := omega) only [go_sem, wn]) <;> (try omega) <;> fail))) | ((first | refine zX (ref_good_c t.path hp) rfl ?_ ?_ | refine zy (ref_good_c t.path hp) ?_ ?_); (focus ((try simp (disch := omega) only [go_sem, wn]) <;> (try omega) <;> fail)))) | ((first | (with_reducible refine zu ?_ ?_ <;> intro hg) | with_reducible intro hg) <;> (first | (exfalso; simp at hg; done) | (have hg' := hg; (try simp only [hcs, beq_iff_eq, ge_iff_le, gt_iff_lt] at hg'); (try simp only [hg]))))) <;> (try simp (disch := omega) only [go_sem, wn]) <;> (repeat' with_reducible refine And.intro ?_ ?_) <;> (try (with_reducible refine hK _ ?_; clear hK K)))
| omega)
  all_goals first | omega | skip
  all_goals first
    | (rw [if_pos (by simp_all [badT, or_assoc])]; (refine zF rfl ?_ ?_ ?_ ?_; (iterate 3 (focus ((try simp (disch := omega) only [go_sem, wn]) <;> (try omega) <;> fail))); (try simp (disch := omega) only [go_sem, wn, I, B, S, inj, List.cons.injEq, and_true, true_and, and_self])); done)
    | (rw [if_neg (by simp_all [badT, or_assoc])]; (refine zF rfl ?_ ?_ ?_ ?_; (iterate 3 (focus ((try simp (disch := omega) only [go_sem, wn]) <;> (try omega) <;> fail))); (try simp (disch := omega) only [go_sem, wn, I, B, S, inj, List.cons.injEq, and_true, true_and, and_self])); done)
    | trace_state
end Go.Proofs.YtmpfhalheaeibaaDoor
namespace Go.Proofs.YtmpfhalheaeibaaDoor
set_option linter.unusedVariables false
set_option linter.unusedSimpArgs false
open Go Go.RowKit
set_option maxRecDepth 100000
set_option linter.unusedSimpArgs false
theorem arith1 (i : Nat) : ((i : Int) + 1).toNat = i + 1 := by omega
theorem arith2 (i n : Nat) (h : i ≤ n) : ((n : Int) - i).toNat = n - i := by omega
theorem arith3 (i n : Nat) (h : i ≤ n + 1) : ((n : Int) + 1 - i).toNat = n + 1 - i := by omega
theorem arith4 (i n : Nat) (h : i ≤ n + 1) : ((n : Int) + 1 - i) = ((n + 1 - i : Nat) : Int) := by omega
theorem erase_eq {α : Type} (R : List α) (i : Nat) : R.eraseIdx i = R.take i ++ R.drop (i + 1) := List.eraseIdx_eq_take_drop_succ R i
theorem del_rows {α : Type} {R junk X z t : List α} {i q m : Nat} (h : i < R.length) (hq : q = R.length - 1) (hm : m = R.length - (i + 1)) :
    List.take q (List.take q (List.take i (R ++ junk) ++ List.take m (List.drop (i + 1) (R ++ junk)) ++ X) ++ z ++ t) = R.eraseIdx i := by
  have e1 : List.take i (R ++ junk) = R.take i := List.take_append_of_le_length (by omega)
  have e2 : List.take m (List.drop (i + 1) (R ++ junk)) = R.drop (i + 1) := by
    rw [List.drop_append_of_le_length (by omega), hm]
    have : R.length - (i + 1) = (R.drop (i + 1)).length := by simp
    rw [this, List.take_append_of_le_length (Nat.le_refl _), List.take_length]
  have e3 : (R.take i ++ R.drop (i + 1)).length = q := by simp; omega
  rw [e1, e2, erase_eq]
  have e4 : List.take q (R.take i ++ R.drop (i + 1) ++ X) = R.take i ++ R.drop (i + 1) := by
    rw [← e3, List.take_append_of_le_length (Nat.le_refl _), List.take_length]
  rw [e4, List.append_assoc, ← e3, List.take_append_of_le_length (Nat.le_refl _), List.take_length]
theorem del_last {α : Type} {R junk X z t : List α} {i q : Nat} (h : i + 1 = R.length) (hq : q = i) :
    List.take q (List.take q (List.take i (R ++ junk) ++ X) ++ z ++ t) = R.eraseIdx i := by
  subst hq
  have e1 : List.take q (R ++ junk) = R.take q := List.take_append_of_le_length (by omega)
  have e3 : (R.take q).length = q := by simp; omega
  have e2 : R.drop (q + 1) = [] := List.drop_eq_nil_of_le (by omega)
  have e4 : List.take q (R.take q ++ X) = R.take q := by
    have := List.take_append_of_le_length (l₁ := R.take q) (l₂ := X) (i := q) (by omega)
    rw [this, List.take_of_length_le (by omega)]
  rw [e1, e4, erase_eq, e2, List.append_nil, List.append_assoc]
  have := List.take_append_of_le_length (l₁ := R.take q) (l₂ := z ++ t) (i := q) (by omega)
  rw [this, List.take_of_length_le (by omega)]
theorem ins_eq {α : Type} (R : List α) (i : Nat) (x : α) (h : i ≤ R.length) : R.insertIdx i x = R.take i ++ x :: R.drop i := by
  induction R generalizing i with
  | nil => have : i = 0 := by simpa using h
           subst this; rfl
  | cons a R ih =>
    cases i with
    | zero => rfl
    | succ i => simp only [List.insertIdx_succ_cons, List.take_succ_cons, List.drop_succ_cons, List.cons_append]; rw [ih i (by simpa using h)]
theorem zr {α β : Type} (f : α → β) (l : List α) (i : Nat) : (l.map f).eraseIdx i = (l.eraseIdx i).map f := by rw [erase_eq, erase_eq, List.map_append, List.map_take, List.map_drop]
theorem erase_len {α : Type} (l : List α) (i : Nat) (h : i < l.length) : (l.eraseIdx i).length = l.length - 1 := List.length_eraseIdx_of_lt h
theorem getD_ins {α : Type} (l : List α) (i : Nat) (x z : α) (h : i ≤ l.length) : (l.insertIdx i x).getD i z = x := by
  rw [ins_eq _ _ _ h, List.getD_eq_getElem?_getD, List.getElem?_append_right (by rw [List.length_take]; omega)]
  have : i - (l.take i).length = 0 := by rw [List.length_take]; omega
  rw [this]; rfl
theorem ins_len {α : Type} (l : List α) (i : Nat) (x : α) (h : i ≤ l.length) : (l.insertIdx i x).length = l.length + 1 := by rw [ins_eq _ _ _ h]; simp; omega
theorem ins_get_lt {α : Type} (l : List α) (i k : Nat) (x z : α) (h : i ≤ l.length) (hk : k < i) : (l.insertIdx i x).getD k z = l.getD k z := by
  rw [ins_eq _ _ _ h, List.getD_eq_getElem?_getD, List.getElem?_append_left (by rw [List.length_take]; omega), List.getElem?_take_of_lt hk, List.getD_eq_getElem?_getD]
theorem zo {α β : Type} (f : α → β) (l : List α) (x : α) : (List.map f (l ++ [x])).take (l.length + 1) = List.map f (l ++ [x]) := List.take_of_length_le (by simp)
theorem take_exact {α : Type} {A B : List α} {n : Nat} (h : n = A.length) : (A ++ B).take n = A := by subst h; simp
theorem drop_exact {α : Type} {A B : List α} {n : Nat} (h : n = A.length) : (A ++ B).drop n = B := by subst h; simp
theorem mid_rows {α : Type} {R J : List α} {i a b : Nat} (h : i ≤ R.length) (ha : a = R.length - i) (hb : R.length - i ≤ b) : List.take a (List.take b (List.drop i (R ++ J))) = R.drop i := by
  rw [List.take_take, Nat.min_eq_left (by omega), List.drop_append_of_le_length h]
  exact take_exact (by simp; omega)
theorem ins_in {α : Type} {R J X : List α} {r : α} {i a b c d : Nat} (h : i < R.length) (ha : a = R.length - i) (hb : R.length - i ≤ b) (hc : 1 ≤ c) (hd : d = 1) :
    List.take (R.length + 1) (List.take i (List.take (i + 1) (R ++ J) ++ List.take a (List.take b (List.drop i (R ++ J))) ++ X) ++ List.take c [r] ++ List.drop (i + d) (List.take (i + 1) (R ++ J) ++ List.take a (List.take b (List.drop i (R ++ J))) ++ X)) = R.insertIdx i r := by
  subst hd
  have e1 : List.take (i + 1) (R ++ J) = R.take (i + 1) := List.take_append_of_le_length (by omega)
  have e2 : (R.take (i + 1)).length = i + 1 := by simp; omega
  have e3 : List.take c [r] = [r] := List.take_of_length_le (by simpa using hc)
  rw [mid_rows (by omega) ha hb, e1, e3, List.append_assoc (List.take (i + 1) R), drop_exact (n := i + 1) e2.symm, ins_eq _ _ _ (by omega)]
  have e4 : List.take i (List.take (i + 1) R ++ (List.drop i R ++ X)) = R.take i := by
    rw [List.take_append_of_le_length (by rw [e2]; omega), List.take_take, Nat.min_eq_left (by omega)]
  rw [e4]
  have : List.take i R ++ [r] ++ (List.drop i R ++ X) = (List.take i R ++ r :: List.drop i R) ++ X := by simp
  rw [this]
  exact take_exact (by simp; omega)
theorem ins_grow {α : Type} {R J : List α} {r z : α} {i m c d e f g : Nat} (h : i < R.length) (hm : m = R.length + 1 - i) (hc : 1 ≤ c) (hd : d = 1) (he : e = R.length - i) (hf : R.length - i ≤ f) (hg : g = R.length + 1) :
    List.take (i + 1) (List.take i (List.take i (R ++ J) ++ List.replicate m z) ++ List.take c [r] ++ List.drop (i + d) (List.take i (R ++ J) ++ List.replicate m z)) ++ List.take e (List.take f (List.drop i (R ++ J))) ++
      List.drop g (List.take i (List.take i (R ++ J) ++ List.replicate m z) ++ List.take c [r] ++ List.drop (i + d) (List.take i (R ++ J) ++ List.replicate m z)) = R.insertIdx i r := by
  subst hd; subst hm; subst hg
  have e1 : List.take i (R ++ J) = R.take i := List.take_append_of_le_length (by omega)
  have e2 : (R.take i).length = i := by simp; omega
  have e3 : List.take c [r] = [r] := List.take_of_length_le (by simpa using hc)
  rw [mid_rows (by omega) he hf, e1, e3, take_exact (n := i) e2.symm, ins_eq _ _ _ (by omega)]
  have e4 : (List.take i R ++ [r]).length = i + 1 := by simp; omega
  have e5 : List.drop (R.length + 1) (List.take i R ++ [r] ++ List.drop (i + 1) (List.take i R ++ List.replicate (R.length + 1 - i) z)) = [] := List.drop_eq_nil_of_le (by simp; omega)
  rw [e5, take_exact e4.symm, List.append_nil, List.append_assoc]; rfl
theorem delNode_c (rs : List (List DV)) (i : Nat) (hi : i < rs.length) (hb : rs.length * 88 ≤ 140737488351232) : acall Tryd.prog [.rows 9 rs] 153 [.osl 0 9 0 rs.length, I i, I ((i : Int) + 1)] (outs (.osl 1 9 0 (rs.length - 1)) [.dead, .rows 9 (rs.eraseIdx i)]) := by
  refine zi tabOk Tryd.func153 rfl (by kernel_rfl) (by simp [Tryd.ntmps153]) ?_; simp only [Tryd.ntmps153, Tryd.results153, List.toList_toArray, apar, List.length_nil, List.length_cons, Nat.reduceAdd]
  refine AWP.reveal 0 (k := 0) (sz := 9) (off := 0) (n := rs.length) rfl (by omega) rfl (by decide) fun junk hj hjl => ?_
  simp only [go_sem, Nat.zero_add] at hjl ⊢
  by_cases hN : i + 1 < rs.length + junk.length
  · (repeat' first
  | (with_reducible refine AR.f ?_)
  | refine zb (by decide) ?_
  | (with_reducible refine AWP.cond rfl ?_ ?_ <;> intro hc <;> (try simp only [hcs, beq_iff_eq, ge_iff_le, gt_iff_lt] at hc))
  | ((first | ((first | (with_reducible first | refine zR ?_ | refine zQ (by decide +kernel) ?_ | refine zD (by decide +kernel) ?_ | refine zE (by decide +kernel) ?_ | refine zG (by decide +kernel) ?_)); intro K hK) | ((first | (with_reducible refine zu ?_ ?_ <;> intro hg) | with_reducible intro hg) <;> (first | (exfalso; simp at hg; done) | (have hg' := hg; (try simp only [hcs, beq_iff_eq, ge_iff_le, gt_iff_lt] at hg'); (try simp only [hg]))))) <;> (try simp (disch := omega) only [go_sem, wn, if_pos, if_neg, arith1, arith2, List.length_take, List.length_drop, Nat.min_eq_left]) <;> (repeat' with_reducible refine And.intro ?_ ?_) <;> (try (with_reducible refine hK _ ?_; clear hK K)))
  | omega)
    refine aend_out (by first | exact .inl rfl | exact .inr rfl) (by simp (disch := omega) only [go_sem]) ?_
    simp (disch := omega) only [go_sem]
    rw [show i + (rs.length - (i + 1)) = rs.length - 1 from by omega]
    refine AOut.moved rfl (AOut.done rfl ?_)
    rw [del_rows hi rfl rfl]; rfl
  · (repeat' first
  | (with_reducible refine AR.f ?_)
  | refine zb (by decide) ?_
  | (with_reducible refine AWP.cond rfl ?_ ?_ <;> intro hc <;> (try simp only [hcs, beq_iff_eq, ge_iff_le, gt_iff_lt] at hc))
  | ((first | ((first | (with_reducible first | refine zR ?_ | refine zQ (by decide +kernel) ?_ | refine zD (by decide +kernel) ?_ | refine zE (by decide +kernel) ?_ | refine zG (by decide +kernel) ?_)); intro K hK) | ((first | (with_reducible refine zu ?_ ?_ <;> intro hg) | with_reducible intro hg) <;> (first | (exfalso; simp at hg; done) | (have hg' := hg; (try simp only [hcs, beq_iff_eq, ge_iff_le, gt_iff_lt] at hg'); (try simp only [hg]))))) <;> (try simp (disch := omega) only [go_sem, wn, if_pos, if_neg, arith1, arith2, List.length_take, List.length_drop, Nat.min_eq_left]) <;> (repeat' with_reducible refine And.intro ?_ ?_) <;> (try (with_reducible refine hK _ ?_; clear hK K)))
  | omega)
    refine aend_out (by first | exact .inl rfl | exact .inr rfl) (by simp (disch := omega) only [go_sem]) ?_
    simp (disch := omega) only [go_sem]
    rw [show i + 0 = rs.length - 1 from by omega]
    refine AOut.moved rfl (AOut.done rfl ?_)
    rw [del_last (by omega) (by omega)]; rfl
set_option maxHeartbeats 1000000 in
theorem insNode_c (rs : List (List DV)) (r : List DV) (i : Nat) (hi : i ≤ rs.length) (hb : (rs.length + 1) * 88 ≤ 140737488351232) :
    acall Tryd.prog [.rows 9 rs, .rows 9 [r]] 155 [.osl 0 9 0 rs.length, I i, .osl 1 9 0 1] (outs (.osl 2 9 0 (rs.length + 1)) [.dead, .dead, .rows 9 (rs.insertIdx i r)]) := by
  refine zi tabOk Tryd.func155 rfl (by kernel_rfl) (by simp [Tryd.ntmps155]) ?_; simp only [Tryd.ntmps155, Tryd.results155, List.toList_toArray, apar, List.length_nil, List.length_cons, Nat.reduceAdd]
  by_cases hin : i = rs.length
  · subst hin
    (repeat' first
  | (with_reducible refine AR.f ?_)
  | refine zb (by decide) ?_
  | (with_reducible refine AWP.cond rfl ?_ ?_ <;> intro hc <;> (try simp only [hcs, beq_iff_eq, ge_iff_le, gt_iff_lt] at hc))
  | ((first | ((first | (with_reducible first | refine zR ?_ | refine zQ (by decide +kernel) ?_ | refine zD (by decide +kernel) ?_ | refine zE (by decide +kernel) ?_ | refine zG (by decide +kernel) ?_)); intro K hK) | ((first | (with_reducible refine zu ?_ ?_ <;> intro hg) | with_reducible intro hg) <;> (first | (exfalso; simp at hg; done) | (have hg' := hg; (try simp only [hcs, beq_iff_eq, ge_iff_le, gt_iff_lt] at hg'); (try simp only [hg]))))) <;> (try simp (disch := omega) only [go_sem, wn, if_pos, if_neg, arith1, arith2]) <;> (repeat' with_reducible refine And.intro ?_ ?_) <;> (try (with_reducible refine hK _ ?_; clear hK K)))
  | omega)
    refine aend_out (by first | exact .inl rfl | exact .inr rfl) (by simp (disch := omega) only [go_sem]) ?_
    simp (disch := omega) only [go_sem]
    refine AOut.framed [0, 1, 2] rfl (by simp) (by decide) (by intro k hk; match k, hk with | 0, _ => rfl | 1, _ => rfl) ⟨rfl, by simp [inV]⟩ ?_ (AOut.done (hp := [.dead, .dead, .rows 9 (List.take rs.length rs ++ [r])]) rfl ?_)
    · simp only [go_sem]
    · rw [ins_eq _ _ _ (Nat.le_refl _), List.drop_length]
  refine AWP.reveal 0 (k := 0) (sz := 9) (off := 0) (n := rs.length) rfl (by omega) rfl (by decide) fun junk hj hjl => ?_
  simp only [go_sem, Nat.zero_add] at hjl ⊢
  by_cases hN : rs.length + 1 ≤ rs.length + junk.length
  · (repeat' first
  | (with_reducible refine AR.f ?_)
  | refine zb (by decide) ?_
  | (with_reducible refine AWP.cond rfl ?_ ?_ <;> intro hc <;> (try simp only [hcs, beq_iff_eq, ge_iff_le, gt_iff_lt] at hc))
  | ((first | ((first | (with_reducible first | refine zR ?_ | refine zQ (by decide +kernel) ?_ | refine zD (by decide +kernel) ?_ | refine zE (by decide +kernel) ?_ | refine zG (by decide +kernel) ?_)); intro K hK) | refine acallHK_ext (ext_overlaps Tryd.func175 (by kernel_rfl) (by kernel_rfl) (by kernel_rfl) (tS := 41) (tR := 4) (e := 57) (by kernel_rfl) tabOk (by simp only [T_41, ty41]) (by simp [T_57, ty57]) (k := 1) (k' := 0) rfl (.inl ⟨rfl, rfl⟩) rfl (.inr ⟨rfl, rfl⟩) (by decide) (by omega) (by omega) (by decide)) ?_ | ((first | (with_reducible refine zu ?_ ?_ <;> intro hg) | with_reducible intro hg) <;> (first | (exfalso; simp at hg; done) | (have hg' := hg; (try simp only [hcs, beq_iff_eq, ge_iff_le, gt_iff_lt] at hg'); (try simp only [hg]))))) <;> (try simp (disch := omega) only [go_sem, wn, if_pos, if_neg, arith1, arith2, List.length_take, List.length_drop, Nat.min_eq_left]) <;> (repeat' with_reducible refine And.intro ?_ ?_) <;> (try (with_reducible refine hK _ ?_; clear hK K)))
  | omega)
    refine aend_out (by first | exact .inl rfl | exact .inr rfl) (by simp (disch := omega) only [go_sem]) ?_
    simp (disch := omega) only [go_sem]
    refine AOut.moved rfl ?_
    refine AOut.framed [0, 1, 2] rfl (by simp) (by decide) (by intro k hk; match k, hk with | 0, _ => rfl | 1, _ => rfl) ⟨rfl, by simp [inV]⟩ ?_ (AOut.done (hp := [.dead, .dead, .rows 9 (rs.insertIdx i r)]) rfl rfl)
    rw [ins_in (by omega) (by omega) (by omega) (by omega) (by omega)]
    simp only [go_sem]
  · (repeat' first
  | (with_reducible refine AR.f ?_)
  | refine zb (by decide) ?_
  | (with_reducible refine AWP.cond rfl ?_ ?_ <;> intro hc <;> (try simp only [hcs, beq_iff_eq, ge_iff_le, gt_iff_lt] at hc))
  | ((first | ((first | (with_reducible first | refine zR ?_ | refine zQ (by decide +kernel) ?_ | refine zD (by decide +kernel) ?_ | refine zE (by decide +kernel) ?_ | refine zG (by decide +kernel) ?_)); intro K hK) | ((first | (with_reducible refine zu ?_ ?_ <;> intro hg) | with_reducible intro hg) <;> (first | (exfalso; simp at hg; done) | (have hg' := hg; (try simp only [hcs, beq_iff_eq, ge_iff_le, gt_iff_lt] at hg'); (try simp only [hg]))))) <;> (try simp (disch := omega) only [go_sem, wn, if_pos, if_neg, arith1, arith2, arith3, arith4, List.length_take, List.length_drop, Nat.min_eq_left]) <;> (repeat' with_reducible refine And.intro ?_ ?_) <;> (try (with_reducible refine hK _ ?_; clear hK K)))
  | omega)
    refine aend_out (by first | exact .inl rfl | exact .inr rfl) (by simp (disch := omega) only [go_sem]) ?_
    simp (disch := omega) only [go_sem]
    rw [ins_grow (by omega) rfl (by omega) (by omega) (by omega) (by omega) (by omega), show i + (rs.length + 1 - i) = rs.length + 1 from by omega]
    refine AOut.framed [0, 1, 2] rfl (by simp) (by decide) (by intro k hk; match k, hk with | 0, _ => rfl | 1, _ => rfl) ⟨rfl, by simp [inV]⟩ ?_ (AOut.done (hp := [.dead, .dead, .rows 9 (rs.insertIdx i r)]) rfl rfl)
    simp only [go_sem]
theorem delInt_c (rs : List (List DV)) (i : Nat) (hi : i < rs.length) (hb : rs.length * 8 ≤ 140737488351232) : acall Tryd.prog [.rows 1 rs] 106 [.osl 0 1 0 rs.length, I i, I ((i : Int) + 1)] (outs (.osl 1 1 0 (rs.length - 1)) [.dead, .rows 1 (rs.eraseIdx i)]) := by
  refine zi tabOk Tryd.func106 rfl (by kernel_rfl) (by simp [Tryd.ntmps106]) ?_; simp only [Tryd.ntmps106, Tryd.results106, List.toList_toArray, apar, List.length_nil, List.length_cons, Nat.reduceAdd]
  refine AWP.reveal 0 (k := 0) (sz := 1) (off := 0) (n := rs.length) rfl (by omega) rfl (by decide) fun junk hj hjl => ?_
  simp only [go_sem, Nat.zero_add] at hjl ⊢
  by_cases hN : i + 1 < rs.length + junk.length
  · (repeat' first
  | (with_reducible refine AR.f ?_)
  | refine zb (by decide) ?_
  | (with_reducible refine AWP.cond rfl ?_ ?_ <;> intro hc <;> (try simp only [hcs, beq_iff_eq, ge_iff_le, gt_iff_lt] at hc))
  | ((first | ((first | (with_reducible first | refine zR ?_ | refine zQ (by decide +kernel) ?_ | refine zD (by decide +kernel) ?_ | refine zE (by decide +kernel) ?_ | refine zG (by decide +kernel) ?_)); intro K hK) | ((first | (with_reducible refine zu ?_ ?_ <;> intro hg) | with_reducible intro hg) <;> (first | (exfalso; simp at hg; done) | (have hg' := hg; (try simp only [hcs, beq_iff_eq, ge_iff_le, gt_iff_lt] at hg'); (try simp only [hg]))))) <;> (try simp (disch := omega) only [go_sem, wn, if_pos, if_neg, arith1, arith2, List.length_take, List.length_drop, Nat.min_eq_left]) <;> (repeat' with_reducible refine And.intro ?_ ?_) <;> (try (with_reducible refine hK _ ?_; clear hK K)))
  | omega)
    refine aend_out (by first | exact .inl rfl | exact .inr rfl) (by simp (disch := omega) only [go_sem]) ?_
    simp (disch := omega) only [go_sem]
    rw [show i + (rs.length - (i + 1)) = rs.length - 1 from by omega]
    refine AOut.moved rfl (AOut.done rfl ?_)
    rw [del_rows hi rfl rfl]; rfl
  · (repeat' first
  | (with_reducible refine AR.f ?_)
  | refine zb (by decide) ?_
  | (with_reducible refine AWP.cond rfl ?_ ?_ <;> intro hc <;> (try simp only [hcs, beq_iff_eq, ge_iff_le, gt_iff_lt] at hc))
  | ((first | ((first | (with_reducible first | refine zR ?_ | refine zQ (by decide +kernel) ?_ | refine zD (by decide +kernel) ?_ | refine zE (by decide +kernel) ?_ | refine zG (by decide +kernel) ?_)); intro K hK) | ((first | (with_reducible refine zu ?_ ?_ <;> intro hg) | with_reducible intro hg) <;> (first | (exfalso; simp at hg; done) | (have hg' := hg; (try simp only [hcs, beq_iff_eq, ge_iff_le, gt_iff_lt] at hg'); (try simp only [hg]))))) <;> (try simp (disch := omega) only [go_sem, wn, if_pos, if_neg, arith1, arith2, List.length_take, List.length_drop, Nat.min_eq_left]) <;> (repeat' with_reducible refine And.intro ?_ ?_) <;> (try (with_reducible refine hK _ ?_; clear hK K)))
  | omega)
    refine aend_out (by first | exact .inl rfl | exact .inr rfl) (by simp (disch := omega) only [go_sem]) ?_
    simp (disch := omega) only [go_sem]
    rw [show i + 0 = rs.length - 1 from by omega]
    refine AOut.moved rfl (AOut.done rfl ?_)
    rw [del_last (by omega) (by omega)]; rfl
set_option maxHeartbeats 1000000 in
theorem insInt_c (rs : List (List DV)) (r : List DV) (i : Nat) (hi : i ≤ rs.length) (hb : (rs.length + 1) * 8 ≤ 140737488351232) :
    acall Tryd.prog [.rows 1 rs, .rows 1 [r]] 105 [.osl 0 1 0 rs.length, I i, .osl 1 1 0 1] (outs (.osl 2 1 0 (rs.length + 1)) [.dead, .dead, .rows 1 (rs.insertIdx i r)]) := by
  refine zi tabOk Tryd.func105 rfl (by kernel_rfl) (by simp [Tryd.ntmps105]) ?_; simp only [Tryd.ntmps105, Tryd.results105, List.toList_toArray, apar, List.length_nil, List.length_cons, Nat.reduceAdd]
  by_cases hin : i = rs.length
  · subst hin
    (repeat' first
  | (with_reducible refine AR.f ?_)
  | refine zb (by decide) ?_
  | (with_reducible refine AWP.cond rfl ?_ ?_ <;> intro hc <;> (try simp only [hcs, beq_iff_eq, ge_iff_le, gt_iff_lt] at hc))
  | ((first | ((first | (with_reducible first | refine zR ?_ | refine zQ (by decide +kernel) ?_ | refine zD (by decide +kernel) ?_ | refine zE (by decide +kernel) ?_ | refine zG (by decide +kernel) ?_)); intro K hK) | ((first | (with_reducible refine zu ?_ ?_ <;> intro hg) | with_reducible intro hg) <;> (first | (exfalso; simp at hg; done) | (have hg' := hg; (try simp only [hcs, beq_iff_eq, ge_iff_le, gt_iff_lt] at hg'); (try simp only [hg]))))) <;> (try simp (disch := omega) only [go_sem, wn, if_pos, if_neg, arith1, arith2]) <;> (repeat' with_reducible refine And.intro ?_ ?_) <;> (try (with_reducible refine hK _ ?_; clear hK K)))
  | omega)
    refine aend_out (by first | exact .inl rfl | exact .inr rfl) (by simp (disch := omega) only [go_sem]) ?_
    simp (disch := omega) only [go_sem]
    refine AOut.framed [0, 1, 2] rfl (by simp) (by decide) (by intro k hk; match k, hk with | 0, _ => rfl | 1, _ => rfl) ⟨rfl, by simp [inV]⟩ ?_ (AOut.done (hp := [.dead, .dead, .rows 1 (List.take rs.length rs ++ [r])]) rfl ?_)
    · simp only [go_sem]
    · rw [ins_eq _ _ _ (Nat.le_refl _), List.drop_length]
  refine AWP.reveal 0 (k := 0) (sz := 1) (off := 0) (n := rs.length) rfl (by omega) rfl (by decide) fun junk hj hjl => ?_
  simp only [go_sem, Nat.zero_add] at hjl ⊢
  by_cases hN : rs.length + 1 ≤ rs.length + junk.length
  · (repeat' first
  | (with_reducible refine AR.f ?_)
  | refine zb (by decide) ?_
  | (with_reducible refine AWP.cond rfl ?_ ?_ <;> intro hc <;> (try simp only [hcs, beq_iff_eq, ge_iff_le, gt_iff_lt] at hc))
  | ((first | ((first | (with_reducible first | refine zR ?_ | refine zQ (by decide +kernel) ?_ | refine zD (by decide +kernel) ?_ | refine zE (by decide +kernel) ?_ | refine zG (by decide +kernel) ?_)); intro K hK) | refine acallHK_ext (ext_overlaps Tryd.func151 (by kernel_rfl) (by kernel_rfl) (by kernel_rfl) (tS := 42) (tR := 4) (e := 3) (by kernel_rfl) tabOk (by simp only [T_42, ty42]) (by simp [T_3, ty3]) (k := 1) (k' := 0) rfl (.inl ⟨rfl, rfl⟩) rfl (.inr ⟨rfl, rfl⟩) (by decide) (by omega) (by omega) (by decide)) ?_ | ((first | (with_reducible refine zu ?_ ?_ <;> intro hg) | with_reducible intro hg) <;> (first | (exfalso; simp at hg; done) | (have hg' := hg; (try simp only [hcs, beq_iff_eq, ge_iff_le, gt_iff_lt] at hg'); (try simp only [hg]))))) <;> (try simp (disch := omega) only [go_sem, wn, if_pos, if_neg, arith1, arith2, List.length_take, List.length_drop, Nat.min_eq_left]) <;> (repeat' with_reducible refine And.intro ?_ ?_) <;> (try (with_reducible refine hK _ ?_; clear hK K)))
  | omega)
    refine aend_out (by first | exact .inl rfl | exact .inr rfl) (by simp (disch := omega) only [go_sem]) ?_
    simp (disch := omega) only [go_sem]
    refine AOut.moved rfl ?_
    refine AOut.framed [0, 1, 2] rfl (by simp) (by decide) (by intro k hk; match k, hk with | 0, _ => rfl | 1, _ => rfl) ⟨rfl, by simp [inV]⟩ ?_ (AOut.done (hp := [.dead, .dead, .rows 1 (rs.insertIdx i r)]) rfl rfl)
    rw [ins_in (by omega) (by omega) (by omega) (by omega) (by omega)]
    simp only [go_sem]
  · (repeat' first
  | (with_reducible refine AR.f ?_)
  | refine zb (by decide) ?_
  | (with_reducible refine AWP.cond rfl ?_ ?_ <;> intro hc <;> (try simp only [hcs, beq_iff_eq, ge_iff_le, gt_iff_lt] at hc))
  | ((first | ((first | (with_reducible first | refine zR ?_ | refine zQ (by decide +kernel) ?_ | refine zD (by decide +kernel) ?_ | refine zE (by decide +kernel) ?_ | refine zG (by decide +kernel) ?_)); intro K hK) | ((first | (with_reducible refine zu ?_ ?_ <;> intro hg) | with_reducible intro hg) <;> (first | (exfalso; simp at hg; done) | (have hg' := hg; (try simp only [hcs, beq_iff_eq, ge_iff_le, gt_iff_lt] at hg'); (try simp only [hg]))))) <;> (try simp (disch := omega) only [go_sem, wn, if_pos, if_neg, arith1, arith2, arith3, arith4, List.length_take, List.length_drop, Nat.min_eq_left]) <;> (repeat' with_reducible refine And.intro ?_ ?_) <;> (try (with_reducible refine hK _ ?_; clear hK K)))
  | omega)
    refine aend_out (by first | exact .inl rfl | exact .inr rfl) (by simp (disch := omega) only [go_sem]) ?_
    simp (disch := omega) only [go_sem]
    rw [ins_grow (by omega) rfl (by omega) (by omega) (by omega) (by omega) (by omega), show i + (rs.length + 1 - i) = rs.length + 1 from by omega]
    refine AOut.framed [0, 1, 2] rfl (by simp) (by decide) (by intro k hk; match k, hk with | 0, _ => rfl | 1, _ => rfl) ⟨rfl, by simp [inV]⟩ ?_ (AOut.done (hp := [.dead, .dead, .rows 1 (rs.insertIdx i r)]) rfl rfl)
    simp only [go_sem]
end Go.Proofs.YtmpfhalheaeibaaDoor
