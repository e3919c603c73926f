/- A part of what TreePlays leans on: texts of this claim, one behind the other. No condition. -/
import Derived.Test.YtmpfhalheaeibaaDoorTreePlaysK7
namespace Go.Proofs.YtmpfhalheaeibaaDoor
set_option linter.unusedVariables false
set_option linter.unusedSimpArgs false
open Go Go.RowKit
set_option maxRecDepth 100000
set_option linter.unusedSimpArgs false
theorem has_c (l : List Int) (x : Int) (h : l.length * 8 ≤ 140737488351232) : acall Tryd.prog [] 95 [.d (.sl 1 (l.map irow)), I x] (ret (B (decide (x ∈ l)))) := by
  refine acall_of tabOk Tryd.func95 rfl (by kernel_rfl) (by simp [Tryd.ntmps95]) ?_; simp only [Tryd.ntmps95, Tryd.results95, List.toList_toArray, apar, List.length_nil, List.length_cons, Nat.reduceAdd]
  (repeat' first
| (with_reducible refine AR.f ?_)
| refine blkA_x (by decide) ?_
| (with_reducible refine AWP.cond rfl ?_ ?_ <;> intro hc <;> (try simp only [hcs, beq_iff_eq, ge_iff_le, gt_iff_lt] at hc))
| ((first | ((first | (with_reducible first | refine zR ?_ | refine zQ (by decide +kernel) ?_ | refine zD (by decide +kernel) ?_ | refine zE (by decide +kernel) ?_ | refine zG (by decide +kernel) ?_)); intro K hK) | ((first | (with_reducible refine aunder_i ?_ ?_ <;> intro hg) | with_reducible intro hg) <;> (first | (exfalso; simp at hg; done) | (have hg' := hg; (try simp only [hcs, beq_iff_eq, ge_iff_le, gt_iff_lt] at hg'); (try simp only [hg]))))) <;> (try simp (disch := omega) only [go_sem, wrap_n]) <;> (repeat' with_reducible refine And.intro ?_ ?_) <;> (try (with_reducible refine hK _ ?_; clear hK K)))
| omega)
  refine AWP.loopS (ι := Nat) (fun k => k ≤ l.length ∧ ∀ j, j < k → l.getD j default ≠ x) (fun k => l.length - k) [1, 7, 8] (fun k => [(9, I k)]) 0 ?_ (by simp (disch := omega) only [go_sem, wrap_n, true_and]) ?_
  · exact ⟨by omega, fun j hj => by omega⟩
  intro k ⟨hk, hk2⟩
  simp only [go_sem]
  (repeat' first
| (with_reducible refine AR.f ?_)
| refine blkA_x (by decide) ?_
| (with_reducible refine AWP.cond rfl ?_ ?_ <;> intro hc <;> (try simp only [hcs, beq_iff_eq, ge_iff_le, gt_iff_lt] at hc))
| ((first | ((first | (with_reducible first | refine zR ?_ | refine zQ (by decide +kernel) ?_ | refine zD (by decide +kernel) ?_ | refine zE (by decide +kernel) ?_ | refine zG (by decide +kernel) ?_)); intro K hK) | ((first | (with_reducible refine aunder_i ?_ ?_ <;> intro hg) | with_reducible intro hg) <;> (first | (exfalso; simp at hg; done) | (have hg' := hg; (try simp only [hcs, beq_iff_eq, ge_iff_le, gt_iff_lt] at hg'); (try simp only [hg]))))) <;> (try simp (disch := omega) only [go_sem, wrap_n]) <;> (repeat' with_reducible refine And.intro ?_ ?_) <;> (try (with_reducible refine hK _ ?_; clear hK K)))
| omega)
  · (refine zF rfl ?_ ?_ ?_ ?_; (iterate 3 (focus ((try simp (disch := omega) only [go_sem, wrap_n]) <;> (try omega) <;> fail))); (try simp (disch := omega) only [go_sem, wrap_n, I, B, S, inj, List.cons.injEq, and_true, true_and, and_self]))
    symm; rw [decide_eq_true_eq, mem_iff_getD l default]
    exact ⟨k, by omega, by simp only [*]⟩
  · refine ⟨k + 1, ⟨by omega, fun j hj => ?_⟩, by omega, ?_⟩
    · by_cases e : j = k
      · subst e; exact fun e2 => hc (by simp only [*])
      · exact hk2 j (by omega)
    (refine SImp.same ?_; simp (disch := omega) only [go_sem, wrap_n, Int.natCast_add])
  · (refine zF rfl ?_ ?_ ?_ ?_; (iterate 3 (focus ((try simp (disch := omega) only [go_sem, wrap_n]) <;> (try omega) <;> fail))); (try simp (disch := omega) only [go_sem, wrap_n, I, B, S, inj, List.cons.injEq, and_true, true_and, and_self]))
    symm; rw [decide_eq_false_iff_not, mem_iff_getD l default]
    rintro ⟨j, hj, e⟩
    exact hk2 j (by omega) e
theorem isOpen_c (t : ATree) (s : Int) (h : t.sessions.length * 8 ≤ 140737488351232) : acall Tryd.prog [] 41 [t.av, I s] (ret (B (decide (s ∈ t.sessions)))) := by
  refine acall_of tabOk Tryd.func41 rfl (by kernel_rfl) (by simp [Tryd.ntmps41]) ?_; simp only [Tryd.ntmps41, Tryd.results41, List.toList_toArray, apar, List.length_nil, List.length_cons, Nat.reduceAdd]
  (repeat' first
| (with_reducible refine AR.f ?_)
| refine blkA_x (by decide) ?_
| (with_reducible refine AWP.cond rfl ?_ ?_ <;> intro hc <;> (try simp only [hcs, beq_iff_eq, ge_iff_le, gt_iff_lt] at hc))
| ((first | ((first | (with_reducible first | refine zR ?_ | refine zQ (by decide +kernel) ?_ | refine zD (by decide +kernel) ?_ | refine zE (by decide +kernel) ?_ | refine zG (by decide +kernel) ?_)); intro K hK) | ((first | refine zA (has_c t.sessions s h) ?_ ?_ ?_ ?_ ?_); (focus exact rfl); (focus exact rfl); iterate 2 (focus ((try simp (disch := omega) only [go_sem, wrap_n]) <;> (try omega) <;> fail))) | ((first | refine zN (has_c t.sessions s h) rfl ?_ ?_); (focus ((try simp (disch := omega) only [go_sem, wrap_n]) <;> (try omega) <;> fail))) | (first | ((first | refine zX (has_c t.sessions s h) rfl ?_ ?_ | refine acallH_anyx (has_c t.sessions s h) ?_ ?_); (focus ((try simp (disch := omega) only [go_sem, wrap_n]) <;> (try omega) <;> fail)))) | ((first | (with_reducible refine aunder_i ?_ ?_ <;> intro hg) | with_reducible intro hg) <;> (first | (exfalso; simp at hg; done) | (have hg' := hg; (try simp only [hcs, beq_iff_eq, ge_iff_le, gt_iff_lt] at hg'); (try simp only [hg]))))) <;> (try simp (disch := omega) only [go_sem, wrap_n]) <;> (repeat' with_reducible refine And.intro ?_ ?_) <;> (try (with_reducible refine hK _ ?_; clear hK K)))
| omega)
  (refine zF rfl ?_ ?_ ?_ ?_; (iterate 3 (focus ((try simp (disch := omega) only [go_sem, wrap_n]) <;> (try omega) <;> fail))); (try simp (disch := omega) only [go_sem, wrap_n, I, B, S, inj, List.cons.injEq, and_true, true_and, and_self]))
def nodeI (t : ATree) (p : List UInt8) : Int := if p ∈ pathsT t then (place (pathsT t) p : Nat) else -1
theorem nodeI_yes {t : ATree} {p : List UInt8} (h : p ∈ pathsT t) : nodeI t p = (place (pathsT t) p : Nat) := by unfold nodeI; rw [if_pos h]
theorem nodeI_no {t : ATree} {p : List UInt8} (h : ¬ p ∈ pathsT t) : nodeI t p = -1 := by unfold nodeI; rw [if_neg h]
theorem nodeI_c (t : ATree) (p : List UInt8) (h : t.nodes.length * 88 ≤ 140737488351232) (hr : Rises (pathsT t)) : acall Tryd.prog [] 93 [t.av, S p] (ret (I (nodeI t p))) := by
  refine acall_of tabOk Tryd.func93 rfl (by kernel_rfl) (by simp [Tryd.ntmps93]) ?_; simp only [Tryd.ntmps93, Tryd.results93, List.toList_toArray, apar, List.length_nil, List.length_cons, Nat.reduceAdd]
  (repeat' first
| (with_reducible refine AR.f ?_)
| refine blkA_x (by decide) ?_
| (with_reducible refine AWP.cond rfl ?_ ?_ <;> intro hc <;> (try simp only [hcs, beq_iff_eq, ge_iff_le, gt_iff_lt] at hc))
| ((first | ((first | (with_reducible first | refine zR ?_ | refine zQ (by decide +kernel) ?_ | refine zD (by decide +kernel) ?_ | refine zE (by decide +kernel) ?_ | refine zG (by decide +kernel) ?_)); intro K hK) | ((first | (with_reducible refine aunder_i ?_ ?_ <;> intro hg) | with_reducible intro hg) <;> (first | (exfalso; simp at hg; done) | (have hg' := hg; (try simp only [hcs, beq_iff_eq, ge_iff_le, gt_iff_lt] at hg'); (try simp only [hg]))))) <;> (try simp (disch := omega) only [go_sem, wrap_n]) <;> (repeat' with_reducible refine And.intro ?_ ?_) <;> (try (with_reducible refine hK _ ?_; clear hK K)))
| omega)
  refine AWP.loopS (ι := Nat) (fun k => k ≤ t.nodes.length ∧ ∀ j, j < k → (t.nodes.getD j default).path ≠ p) (fun k => t.nodes.length - k) [1, 8, 9] (fun k => [(10, I k)]) 0 ?_ (by simp (disch := omega) only [go_sem, wrap_n, true_and]) ?_
  · exact ⟨by omega, fun j hj => by omega⟩
  intro k ⟨hk, hk2⟩
  simp only [go_sem]
  (repeat' first
| (with_reducible refine AR.f ?_)
| refine blkA_x (by decide) ?_
| (with_reducible refine AWP.cond rfl ?_ ?_ <;> intro hc <;> (try simp only [hcs, beq_iff_eq, ge_iff_le, gt_iff_lt] at hc))
| ((first | ((first | (with_reducible first | refine zR ?_ | refine zQ (by decide +kernel) ?_ | refine zD (by decide +kernel) ?_ | refine zE (by decide +kernel) ?_ | refine zG (by decide +kernel) ?_)); intro K hK) | ((first | (with_reducible refine aunder_i ?_ ?_ <;> intro hg) | with_reducible intro hg) <;> (first | (exfalso; simp at hg; done) | (have hg' := hg; (try simp only [hcs, beq_iff_eq, ge_iff_le, gt_iff_lt] at hg'); (try simp only [hg]))))) <;> (try simp (disch := omega) only [go_sem, wrap_n]) <;> (repeat' with_reducible refine And.intro ?_ ?_) <;> (try (with_reducible refine hK _ ?_; clear hK K)))
| omega)
  · (refine zF rfl ?_ ?_ ?_ ?_; (iterate 3 (focus ((try simp (disch := omega) only [go_sem, wrap_n]) <;> (try omega) <;> fail))); (try simp (disch := omega) only [go_sem, wrap_n, I, B, S, inj, List.cons.injEq, and_true, true_and, and_self]))
    have hl : k < (pathsT t).length := by rw [pathsT_len]; omega
    have e := place_at hr hl
    rw [pathsT_get] at e
    unfold nd at e
    rw [hc] at e
    have hm : p ∈ pathsT t := (mem_iff_getD _ [] p).2 ⟨k, hl, by rw [pathsT_get]; exact hc⟩
    rw [nodeI_yes hm, e]
  · refine ⟨k + 1, ⟨by omega, fun j hj => ?_⟩, by omega, ?_⟩
    · by_cases e : j = k
      · subst e; exact hc
      · exact hk2 j (by omega)
    (refine SImp.frame [0] rfl (by intro k hk; first | (simp at hk <;> (simp; omega)) | (simp only [List.mem_cons, List.not_mem_nil, or_false] at hk; simp only [List.length_cons, List.length_nil]; omega)) (by decide) (fun k hk => by first | omega | (rcases k with _ | _ | _ | _ | _ | _ | _ | _ | k <;> first | rfl | omega)) ?_ ?_ <;> simp (disch := omega) only [go_sem, wrap_n, Int.natCast_add, true_and] <;> (try rfl))
  · (refine zF rfl ?_ ?_ ?_ ?_; (iterate 3 (focus ((try simp (disch := omega) only [go_sem, wrap_n]) <;> (try omega) <;> fail))); (try simp (disch := omega) only [go_sem, wrap_n, I, B, S, inj, List.cons.injEq, and_true, true_and, and_self]))
    rw [nodeI_no]
    rw [mem_iff_getD _ []]
    rintro ⟨j, hj, e⟩
    rw [pathsT_get] at e
    rw [pathsT_len] at hj
    exact hk2 j (by omega) e
theorem path_small {t : ATree} (hp : ∀ x, x ∈ t.nodes → x.path.length ≤ 1048576) (k : Nat) : (t.nodes.getD k default).path.length ≤ 1048576 := by
  by_cases e : k < t.nodes.length
  · exact hp _ (getD_mem t.nodes k e)
  · rw [List.getD_eq_getElem?_getD, List.getElem?_eq_none (by omega)]; exact Nat.zero_le _
def dirsR (t : ATree) (k : Nat) : List (List UInt8) := (List.range t.nodes.length).map fun j => if j < k then dirT t j else []
theorem dirs_len (t : ATree) (k : Nat) : (dirsR t k).length = t.nodes.length := by unfold dirsR; simp
theorem dirs_zero (t : ATree) : List.replicate t.nodes.length [DV.str []] = (dirsR t 0).map srow := by
  unfold dirsR
  apply List.ext_getElem?
  intro j
  simp only [List.getElem?_replicate, List.getElem?_map, Nat.not_lt_zero, if_false]
  by_cases h : j < t.nodes.length
  · rw [if_pos h, List.getElem?_range h]; rfl
  · rw [if_neg h, List.getElem?_eq_none (by simpa using h)]; rfl
theorem dirs_set (t : ATree) (k : Nat) : (dirsR t k).set k (splitP (t.nodes.getD k default).path).1.1 = dirsR t (k + 1) := by
  unfold dirsR
  apply List.ext_getElem?
  intro j
  rw [List.getElem?_set]
  simp only [List.length_map, List.length_range, List.getElem?_map]
  by_cases h : j < t.nodes.length
  · rw [List.getElem?_range h]
    by_cases e : k = j
    · subst e; simp [h, dirT, nd]
    · simp only [e, if_false, Option.map_some]
      congr 1
      by_cases h2 : j < k
      · rw [if_pos h2, if_pos (by omega)]
      · rw [if_neg h2, if_neg (by omega)]
  · rw [List.getElem?_eq_none (l := List.range _) (by simpa using h)]
    by_cases e : k = j
    · subst e; simp [h]
    · simp [e]
theorem dirs_get (t : ATree) (j : Nat) (h : j < t.nodes.length) : (dirsR t t.nodes.length).getD j [] = dirT t j := by
  unfold dirsR
  rw [List.getD_eq_getElem?_getD, List.getElem?_map, List.getElem?_range h]
  simp [h]
def upN (t : ATree) (i k : Nat) : Bool := decide (i = 0) || (List.range k).any fun j => decide ((nd t j).path = dirT t i)
theorem upN_zero (t : ATree) (i : Nat) : upN t i 0 = decide (i = 0) := by unfold upN; simp
theorem upN_succ (t : ATree) (i k : Nat) : upN t i (k + 1) = (upN t i k || decide ((nd t k).path = dirT t i)) := by
  unfold upN; rw [List.range_succ, List.any_append, Bool.or_assoc]; simp
theorem upN_iff (t : ATree) (i : Nat) : upN t i t.nodes.length = true ↔ upB t i := by
  unfold upN upB
  rw [Bool.or_eq_true, decide_eq_true_eq, List.any_eq_true, mem_iff_getD _ []]
  constructor
  · rintro (h | ⟨j, hj, h⟩)
    · exact .inl h
    · rw [decide_eq_true_eq] at h
      rw [List.mem_range] at hj
      exact .inr ⟨j, by rw [pathsT_len]; exact hj, by rw [pathsT_get]; exact h⟩
  · rintro (h | ⟨j, hj, h⟩)
    · exact .inl h
    · rw [pathsT_len] at hj
      rw [pathsT_get] at h
      exact .inr ⟨j, List.mem_range.2 hj, by rw [decide_eq_true_eq]; exact h⟩
def condQ (t : ATree) (i : Nat) : Prop := (((((((((upN t i t.nodes.length = true ∧ (nd t i).stat.kids = (kidsN t (nd t i).path t.nodes.length : Nat)) ∧ 0 ≤ (nd t i).stat.version) ∧ (nd t i).stat.version < 2147483648) ∧ 0 ≤ (nd t i).stat.cversion) ∧ (nd t i).stat.cversion < 2147483648) ∧
  0 ≤ (nd t i).stat.czxid) ∧ (nd t i).stat.czxid ≤ (nd t i).stat.mzxid) ∧ (nd t i).stat.czxid ≤ (nd t i).stat.pzxid) ∧ (nd t i).stat.mzxid ≤ t.zxid) ∧ (nd t i).stat.pzxid ≤ t.zxid
theorem condQ_ok {t : ATree} {i : Nat} (h : condQ t i) (ho : (nd t i).stat.owner ≠ 0 → (nd t i).stat.owner ∈ t.sessions ∧ kidsN t (nd t i).path t.nodes.length = 0) : statB t (nd t i).stat ∧ ownB t (nd t i).stat ∧ upB t i ∧ (nd t i).stat.kids = kidsN t (nd t i).path t.nodes.length := by
  obtain ⟨⟨⟨⟨⟨⟨⟨⟨⟨⟨h1, h2⟩, h4⟩, h5⟩, h6⟩, h7⟩, h8⟩, h9⟩, h10⟩, h11⟩, h12⟩ := h
  refine ⟨⟨h4, by omega, h6, by omega, h8, h9, h10, h11, h12⟩, fun h0 => ?_, (upN_iff t i).1 h1, h2⟩
  obtain ⟨a, b⟩ := ho h0
  exact ⟨a, by rw [h2, b]; rfl⟩
set_option maxHeartbeats 8000000 in
theorem ref_tgood_c (t : ATree) (hw : t.wf) (hp : ∀ x, x ∈ t.nodes → x.path.length ≤ 1048576) : acall Tryd.prog [] 33 [t.av] (ret (B (goodTr t))) := by
  have hok := node_okS hw
  obtain ⟨hz, ⟨hn, hnw⟩, ⟨hs, hsw⟩⟩ := hw
  refine acall_of tabOk Tryd.func33 rfl (by kernel_rfl) (by simp [Tryd.ntmps33]) ?_; simp only [Tryd.ntmps33, Tryd.results33, List.toList_toArray, apar, List.length_nil, List.length_cons, Nat.reduceAdd]
  (repeat' first
| (with_reducible refine AR.f ?_)
| refine blkA_x (by decide) ?_
| (with_reducible refine AWP.cond rfl ?_ ?_ <;> intro hc <;> (try simp only [hcs, beq_iff_eq, ge_iff_le, gt_iff_lt] at hc))
| ((first | ((first | (with_reducible first | refine zR ?_ | refine zQ (by decide +kernel) ?_ | refine zD (by decide +kernel) ?_ | refine zE (by decide +kernel) ?_ | refine zG (by decide +kernel) ?_)); intro K hK) | ((first | refine zA (ref_zgood_c t.zxid hz) ?_ ?_ ?_ ?_ ?_); (focus exact rfl); (focus exact rfl); iterate 2 (focus ((try simp (disch := omega) only [go_sem, wrap_n]) <;> (try omega) <;> fail))) | ((first | refine zN (ref_zgood_c t.zxid hz) rfl ?_ ?_); (focus ((try simp (disch := omega) only [go_sem, wrap_n]) <;> (try omega) <;> fail))) | (first | ((first | refine zX (ref_zgood_c t.zxid hz) rfl ?_ ?_ | refine acallH_anyx (ref_zgood_c t.zxid hz) ?_ ?_); (focus ((try simp (disch := omega) only [go_sem, wrap_n]) <;> (try omega) <;> fail)))) | ((first | (with_reducible refine aunder_i ?_ ?_ <;> intro hg) | with_reducible intro hg) <;> (first | (exfalso; simp at hg; done) | (have hg' := hg; (try simp only [hcs, beq_iff_eq, ge_iff_le, gt_iff_lt] at hg'); (try simp only [hg]))))) <;> (try simp (disch := omega) only [go_sem, wrap_n]) <;> (repeat' with_reducible refine And.intro ?_ ?_) <;> (try (with_reducible refine hK _ ?_; clear hK K)))
| omega)
  · (refine zF rfl ?_ ?_ ?_ ?_; (iterate 3 (focus ((try simp (disch := omega) only [go_sem, wrap_n]) <;> (try omega) <;> fail))); (try simp (disch := omega) only [go_sem, wrap_n, I, B, S, inj, List.cons.injEq, and_true, true_and, and_self]))
    refine head_no fun ⟨a1, a2, a3, a4, a5⟩ => ?_
    rcases hc with (((h | h) | h) | h) | h
    · omega
    · omega
    · exact h a3
    · exact h a4
    · exact h a5
  rotate_left
  · simp_all
  · (refine zF rfl ?_ ?_ ?_ ?_; (iterate 3 (focus ((try simp (disch := omega) only [go_sem, wrap_n]) <;> (try omega) <;> fail))); (try simp (disch := omega) only [go_sem, wrap_n, I, B, S, inj, List.cons.injEq, and_true, true_and, and_self]))
    refine head_no fun ⟨a1, a2, a3, a4, a5⟩ => ?_
    rcases hg' with ((h | h) | h) | h
    · omega
    · omega
    · exact h a3
    · exact h a4
  have hhead : headOk t := ⟨by omega, by omega, hc.1.1.2, hc.1.2, hc.2⟩
  have h400 : t.nodes.length ≤ 400 := by omega
  clear hc hg
  refine AWP.loopS (ι := Nat) (fun k => k ≤ t.sessions.length ∧ ∀ j, j < k → sessOk t.sessions j) (fun k => t.sessions.length - k) [1, 48, 49] (fun k => [(50, I k)]) 0 ?_ (by simp (disch := omega) only [go_sem, wrap_n, true_and]) ?_
  · exact ⟨by omega, fun j hj => by omega⟩
  intro k ⟨hk, hk2⟩
  simp only [go_sem]
  (repeat' first
| (with_reducible refine AR.f ?_)
| refine blkA_x (by decide) ?_
| (with_reducible refine AWP.cond rfl ?_ ?_ <;> intro hc <;> (try simp only [hcs, beq_iff_eq, ge_iff_le, gt_iff_lt] at hc))
| ((first | ((first | (with_reducible first | refine zR ?_ | refine zQ (by decide +kernel) ?_ | refine zD (by decide +kernel) ?_ | refine zE (by decide +kernel) ?_ | refine zG (by decide +kernel) ?_)); intro K hK) | ((first | (with_reducible refine aunder_i ?_ ?_ <;> intro hg) | with_reducible intro hg) <;> (first | (exfalso; simp at hg; done) | (have hg' := hg; (try simp only [hcs, beq_iff_eq, ge_iff_le, gt_iff_lt] at hg'); (try simp only [hg]))))) <;> (try simp (disch := omega) only [go_sem, wrap_n, toNat_pr2]) <;> (repeat' with_reducible refine And.intro ?_ ?_) <;> (try (with_reducible refine hK _ ?_; clear hK K)))
| omega)
  · (refine zF rfl ?_ ?_ ?_ ?_; (iterate 3 (focus ((try simp (disch := omega) only [go_sem, wrap_n]) <;> (try omega) <;> fail))); (try simp (disch := omega) only [go_sem, wrap_n, I, B, S, inj, List.cons.injEq, and_true, true_and, and_self]))
    refine sess_no (k := k) (by omega) fun ⟨a1, a2, a3⟩ => ?_
    rcases hc with (h | h) | h
    · omega
    · omega
    · exact absurd (a3 (by omega)) (by omega)
  · refine ⟨k + 1, ⟨by omega, fun j hj => ?_⟩, by omega, ?_⟩
    · by_cases e : j = k
      · subst e; exact ⟨hc.1.1, by omega, fun h0 => hc.2.resolve_left (by omega)⟩
      · exact hk2 j (by omega)
    (refine SImp.same ?_; simp (disch := omega) only [go_sem, wrap_n, Int.natCast_add])
  have hss : ∀ j, j < t.sessions.length → sessOk t.sessions j := fun j hj => hk2 j (by omega)
  clear hk2 hk hc
  refine AWP.loopB (ι := Nat) (fun k => k ≤ t.nodes.length ∧ ∀ j, j < k → nodeA t j) (fun k => t.nodes.length - k) [1, 5, 81, 82] (fun k => [(83, I k)]) (fun k => [.cells [.d (.int .i64 t.zxid), .d (.sl 9 (t.nodes.map ANode.row)), .d (.sl 1 (t.sessions.map irow))], .rows 1 ((dirsR t k).map srow)]) 0 ?_ ?_ ?_
  · exact ⟨by omega, fun j hj => by omega⟩
  · simp only [go_sem, ← dirs_zero]; (refine SImp.same ?_; simp (disch := omega) only [go_sem, wrap_n, Int.natCast_add])
  intro i ⟨hi, hi2⟩
  have hpi := path_small hp i
  have hdl := dirs_len t i
  simp only [go_sem]
  (repeat' first
| (with_reducible refine AR.f ?_)
| refine blkA_x (by decide) ?_
| (with_reducible refine AWP.cond rfl ?_ ?_ <;> intro hc <;> (try simp only [hcs, beq_iff_eq, ge_iff_le, gt_iff_lt] at hc))
| ((first | ((first | (with_reducible first | refine zR ?_ | refine zQ (by decide +kernel) ?_ | refine zD (by decide +kernel) ?_ | refine zE (by decide +kernel) ?_ | refine zG (by decide +kernel) ?_)); intro K hK) | ((first | refine acallH_sc (ref_good_c _ hpi) rfl rfl ?_ ?_ ?_ | refine acallQ_sc (ref_good_c _ hpi) rfl rfl ?_ ?_ ?_ | refine acallH_sc (ref_split_c _ hpi) rfl rfl ?_ ?_ ?_ | refine acallQ_sc (ref_split_c _ hpi) rfl rfl ?_ ?_ ?_); iterate 2 (focus ((try simp (disch := omega) only [go_sem, wrap_n, toNat_pr2, strLt_eq, List.append_eq, srow_rset, srow_rgetD]) <;> (try omega) <;> fail))) | ((first | refine zN (ref_good_c _ hpi) rfl ?_ ?_ | refine zN (ref_split_c _ hpi) rfl ?_ ?_); (focus ((try simp (disch := omega) only [go_sem, wrap_n, toNat_pr2, strLt_eq, List.append_eq, srow_rset, srow_rgetD]) <;> (try omega) <;> fail))) | (first | ((first | refine zX (ref_good_c _ hpi) rfl ?_ ?_ | refine acallH_anyx (ref_good_c _ hpi) ?_ ?_); (focus ((try simp (disch := omega) only [go_sem, wrap_n, toNat_pr2, strLt_eq, List.append_eq, srow_rset, srow_rgetD]) <;> (try omega) <;> fail))) | ((first | refine zX (ref_split_c _ hpi) rfl ?_ ?_ | refine acallH_anyx (ref_split_c _ hpi) ?_ ?_); (focus ((try simp (disch := omega) only [go_sem, wrap_n, toNat_pr2, strLt_eq, List.append_eq, srow_rset, srow_rgetD]) <;> (try omega) <;> fail)))) | ((first | (with_reducible refine aunder_i ?_ ?_ <;> intro hg) | with_reducible intro hg) <;> (first | (exfalso; simp at hg; done) | (have hg' := hg; (try simp only [hcs, beq_iff_eq, ge_iff_le, gt_iff_lt] at hg'); (try simp only [hg]))))) <;> (try simp (disch := omega) only [go_sem, wrap_n, toNat_pr2, strLt_eq, List.append_eq, srow_rset, srow_rgetD]) <;> (repeat' with_reducible refine And.intro ?_ ?_) <;> (try (with_reducible refine hK _ ?_; clear hK K)))
| omega)
  · (refine zF rfl ?_ ?_ ?_ ?_; (iterate 3 (focus ((try simp (disch := omega) only [go_sem, wrap_n]) <;> (try omega) <;> fail))); (try simp (disch := omega) only [go_sem, wrap_n, I, B, S, inj, List.cons.injEq, and_true, true_and, and_self]))
    refine nodeA_no (k := i) (by assumption) fun ⟨a1, a2, a3⟩ => ?_
    unfold nd at a1 a2 a3
    rcases hc with (h | h) | ⟨h0, h⟩
    · rw [a1] at h; cases h
    · omega
    · have h1 := a3 (by omega)
      rcases h with h | h
      · exact List.lt_irrefl _ (List.lt_trans h1 h)
      · rw [h] at h1; exact List.lt_irrefl _ h1
  · refine ⟨i + 1, ⟨by omega, fun j hj => ?_⟩, by omega, ?_⟩
    · by_cases e : j = i
      · subst e; exact ⟨hc.1.1, by unfold nd; omega, fun h0 => (hc.2.resolve_left (by omega)) |> fun h => lt_of_not h.1 h.2⟩
      · exact hi2 j (by omega)
    rw [← dirs_set t i]
    (refine SImp.frame [0, 1] rfl (by intro k hk; first | (simp at hk <;> (simp; omega)) | (simp only [List.mem_cons, List.not_mem_nil, or_false] at hk; simp only [List.length_cons, List.length_nil]; omega)) (by decide) (fun k hk => by first | omega | (rcases k with _ | _ | _ | _ | _ | _ | _ | _ | k <;> first | rfl | omega)) ?_ ?_ <;> simp (disch := omega) only [go_sem, wrap_n, Int.natCast_add, true_and] <;> (try rfl))
  obtain rfl : i = t.nodes.length := by omega
  clear hc
  have hT : ∀ j, j < t.nodes.length → nodeA t j := hi2
  clear hi2 hpi hdl
  refine AWP.loopB (ι := Nat) (fun k => k ≤ t.nodes.length ∧ ∀ j, j < k → statB t (nd t j).stat ∧ ownB t (nd t j).stat ∧ upB t j ∧ (nd t j).stat.kids = kidsN t (nd t j).path t.nodes.length) (fun k => t.nodes.length - k) [1, 5, 126, 127] (fun k => [(128, I k)]) (fun k => [.cells [.d (.int .i64 t.zxid), .d (.sl 9 (t.nodes.map ANode.row)), .d (.sl 1 (t.sessions.map irow))], .rows 1 ((dirsR t t.nodes.length).map srow)]) 0 ?_ ?_ ?_
  · exact ⟨by omega, fun j hj => by omega⟩
  · simp only [go_sem]; (refine SImp.same ?_; simp (disch := omega) only [go_sem, wrap_n, Int.natCast_add])
  intro j ⟨hj, hj2⟩
  simp only [go_sem]
  (repeat' first
| (with_reducible refine AR.f ?_)
| refine blkA_x (by decide) ?_
| (with_reducible refine AWP.cond rfl ?_ ?_ <;> intro hc <;> (try simp only [hcs, beq_iff_eq, ge_iff_le, gt_iff_lt] at hc))
| ((first | ((first | (with_reducible first | refine zR ?_ | refine zQ (by decide +kernel) ?_ | refine zD (by decide +kernel) ?_ | refine zE (by decide +kernel) ?_ | refine zG (by decide +kernel) ?_)); intro K hK) | ((first | (with_reducible refine aunder_i ?_ ?_ <;> intro hg) | with_reducible intro hg) <;> (first | (exfalso; simp at hg; done) | (have hg' := hg; (try simp only [hcs, beq_iff_eq, ge_iff_le, gt_iff_lt] at hg'); (try simp only [hg]))))) <;> (try simp (disch := omega) only [go_sem, wrap_n]) <;> (repeat' with_reducible refine And.intro ?_ ?_) <;> (try (with_reducible refine hK _ ?_; clear hK K)))
| omega)
  rotate_left
  · (refine zF rfl ?_ ?_ ?_ ?_; (iterate 3 (focus ((try simp (disch := omega) only [go_sem, wrap_n]) <;> (try omega) <;> fail))); (try simp (disch := omega) only [go_sem, wrap_n, I, B, S, inj, List.cons.injEq, and_true, true_and, and_self]))
    exact (goodTr_iff.2 ⟨hhead, hss, hT, fun q hq => hj2 q (by omega)⟩).symm
  refine AWP.loopB (ι := Nat) (fun k => k ≤ t.nodes.length) (fun k => t.nodes.length - k) [1, 5, 8, 9, 126, 127, 128, 137] (fun k => [(138, I k), (10, I (kidsN t (nd t j).path k)), (11, B (upN t j k))]) (fun k => [.cells [.d (.int .i64 t.zxid), .d (.sl 9 (t.nodes.map ANode.row)), .d (.sl 1 (t.sessions.map irow))], .rows 1 ((dirsR t t.nodes.length).map srow), .cells [S (t.nodes.getD j default).path, S (t.nodes.getD j default).data, I (t.nodes.getD j default).stat.czxid, I (t.nodes.getD j default).stat.mzxid, I (t.nodes.getD j default).stat.pzxid, I (t.nodes.getD j default).stat.version, I (t.nodes.getD j default).stat.cversion, I (t.nodes.getD j default).stat.owner, I (t.nodes.getD j default).stat.kids]]) 0 ?_ ?_ ?_
  · omega
  · simp only [go_sem, kidsN_zero, upN_zero]; (refine SImp.same ?_; simp (disch := omega) only [go_sem, wrap_n, Int.natCast_add, Int.natCast_eq_zero])
  intro k hk
  have hkn := kidsN_le t (nd t j).path k
  have hdl := dirs_len t t.nodes.length
  simp only [go_sem]
  (repeat' first
| (with_reducible refine AR.f ?_)
| refine blkA_x (by decide) ?_
| (with_reducible refine AWP.cond rfl ?_ ?_ <;> intro hc <;> (try simp only [hcs, beq_iff_eq, ge_iff_le, gt_iff_lt] at hc))
| ((first | ((first | (with_reducible first | refine zR ?_ | refine zQ (by decide +kernel) ?_ | refine zD (by decide +kernel) ?_ | refine zE (by decide +kernel) ?_ | refine zG (by decide +kernel) ?_)); intro K hK) | ((first | refine acallH_sc (isOpen_c t _ hs) rfl rfl ?_ ?_ ?_ | refine acallQ_sc (isOpen_c t _ hs) rfl rfl ?_ ?_ ?_); iterate 2 (focus ((try simp (disch := omega) only [go_sem, wrap_n, List.append_eq, srow_rgetD, dirs_get]) <;> (try omega) <;> fail))) | ((first | refine zN (isOpen_c t _ hs) rfl ?_ ?_); (focus ((try simp (disch := omega) only [go_sem, wrap_n, List.append_eq, srow_rgetD, dirs_get]) <;> (try omega) <;> fail))) | (first | ((first | refine zX (isOpen_c t _ hs) rfl ?_ ?_ | refine acallH_anyx (isOpen_c t _ hs) ?_ ?_); (focus ((try simp (disch := omega) only [go_sem, wrap_n, List.append_eq, srow_rgetD, dirs_get]) <;> (try omega) <;> fail)))) | ((first | (with_reducible refine aunder_i ?_ ?_ <;> intro hg) | with_reducible intro hg) <;> (first | (exfalso; simp at hg; done) | (have hg' := hg; (try simp only [hcs, beq_iff_eq, ge_iff_le, gt_iff_lt] at hg'); (try simp only [hg]))))) <;> (try simp (disch := omega) only [go_sem, wrap_n, List.append_eq, srow_rgetD, dirs_get]) <;> (repeat' with_reducible refine And.intro ?_ ?_) <;> (try (with_reducible refine hK _ ?_; clear hK K)))
| omega)
  · refine ⟨k + 1, by omega, by omega, ?_⟩
    rw [kidsN_succ, if_pos (show dirT t k = (nd t j).path from hc), upN_succ]
    (refine SImp.same ?_; simp (disch := omega) only [go_sem, wrap_n, Int.natCast_add, nd, B, I, Int.add_zero, Int.cast_ofNat_Int])
    congr
  · refine ⟨k + 1, by omega, by omega, ?_⟩
    rw [kidsN_succ, if_neg (show ¬ dirT t k = (nd t j).path from hc), upN_succ]
    (refine SImp.same ?_; simp (disch := omega) only [go_sem, wrap_n, Int.natCast_add, nd, B, I, Int.add_zero, Int.cast_ofNat_Int])
    congr
  · (refine zF rfl ?_ ?_ ?_ ?_; (iterate 3 (focus ((try simp (disch := omega) only [go_sem, wrap_n]) <;> (try omega) <;> fail))); (try simp (disch := omega) only [go_sem, wrap_n, I, B, S, inj, List.cons.injEq, and_true, true_and, and_self]))
    obtain rfl : k = t.nodes.length := by omega
    refine nodeB_no (k := j) (by assumption) fun ⟨⟨b1, b2, b3, b4, b5, b6, b7, b8, b9⟩, _, hu, hkd⟩ => ?_
    rw [← upN_iff] at hu
    have hkd' : (t.nodes.getD j default).stat.kids = (kidsN t (nd t j).path t.nodes.length : Nat) := hkd
    unfold nd at b1 b2 b3 b4 b5 b6 b7 b8 b9
    rcases hc with (((((((((h | h) | h) | h) | h) | h) | h) | h) | h) | h) | h
    · rw [hu] at h; cases h
    · exact h hkd'
    all_goals omega
  · (refine zF rfl ?_ ?_ ?_ ?_; (iterate 3 (focus ((try simp (disch := omega) only [go_sem, wrap_n]) <;> (try omega) <;> fail))); (try simp (disch := omega) only [go_sem, wrap_n, I, B, S, inj, List.cons.injEq, and_true, true_and, and_self]))
    obtain rfl : k = t.nodes.length := by omega
    refine nodeB_no (k := j) (by assumption) fun ⟨_, ho, _, hkd⟩ => ?_
    obtain ⟨o1, o2⟩ := ho hg'
    rcases hc with h | h
    · exact h o1
    · omega
  · obtain rfl : k = t.nodes.length := by omega
    refine ⟨j + 1, ⟨by omega, fun q hq => ?_⟩, by omega, ?_⟩
    · by_cases e : q = j
      · subst e; exact condQ_ok (by assumption) (fun _ => ⟨hc.1, by omega⟩)
      · exact hj2 q (by omega)
    (refine SImp.frame [0, 1] rfl (by intro k hk; first | (simp at hk <;> (simp; omega)) | (simp only [List.mem_cons, List.not_mem_nil, or_false] at hk; simp only [List.length_cons, List.length_nil]; omega)) (by decide) (fun k hk => by first | omega | (rcases k with _ | _ | _ | _ | _ | _ | _ | _ | k <;> first | rfl | omega)) ?_ ?_ <;> simp (disch := omega) only [go_sem, wrap_n, Int.natCast_add, true_and] <;> (try rfl))
  · obtain rfl : k = t.nodes.length := by omega
    refine ⟨j + 1, ⟨by omega, fun q hq => ?_⟩, by omega, ?_⟩
    · by_cases e : q = j
      · subst e; exact condQ_ok (by assumption) (fun h => absurd hg' h)
      · exact hj2 q (by omega)
    (refine SImp.frame [0, 1] rfl (by intro k hk; first | (simp at hk <;> (simp; omega)) | (simp only [List.mem_cons, List.not_mem_nil, or_false] at hk; simp only [List.length_cons, List.length_nil]; omega)) (by decide) (fun k hk => by first | omega | (rcases k with _ | _ | _ | _ | _ | _ | _ | _ | k <;> first | rfl | omega)) ?_ ?_ <;> simp (disch := omega) only [go_sem, wrap_n, Int.natCast_add, true_and] <;> (try rfl))
end Go.Proofs.YtmpfhalheaeibaaDoor
namespace Go.Proofs.YtmpfhalheaeibaaDoor
set_option linter.unusedVariables false
set_option linter.unusedSimpArgs false
open Go Go.RowKit
set_option maxRecDepth 100000
set_option linter.unusedSimpArgs false
theorem sameTree_c (a b : ATree) (ha : a.wf) (hb : b.wf) : acall Tryd.prog [] 32 [a.av, b.av] (ret (B (decide (a = b)))) := by
  obtain ⟨hz, ⟨hn, hnw⟩, ⟨hs, hsw⟩⟩ := ha
  obtain ⟨kz, ⟨kn, knw⟩, ⟨ks, ksw⟩⟩ := hb
  refine acall_of tabOk Tryd.func32 rfl (by kernel_rfl) (by simp [Tryd.ntmps32]) ?_; simp only [Tryd.ntmps32, Tryd.results32, List.toList_toArray, apar, List.length_nil, List.length_cons, Nat.reduceAdd]
  (repeat' first
| (with_reducible refine AR.f ?_)
| refine blkA_x (by decide) ?_
| (with_reducible refine AWP.cond rfl ?_ ?_ <;> intro hc <;> (try simp only [hcs, beq_iff_eq, ge_iff_le, gt_iff_lt] at hc))
| ((first | ((first | (with_reducible first | refine zR ?_ | refine zQ (by decide +kernel) ?_ | refine zD (by decide +kernel) ?_ | refine zE (by decide +kernel) ?_ | refine zG (by decide +kernel) ?_)); intro K hK) | ((first | (with_reducible refine aunder_i ?_ ?_ <;> intro hg) | with_reducible intro hg) <;> (first | (exfalso; simp at hg; done) | (have hg' := hg; (try simp only [hcs, beq_iff_eq, ge_iff_le, gt_iff_lt] at hg'); (try simp only [hg]))))) <;> (try simp (disch := omega) only [go_sem, wrap_n]) <;> (repeat' with_reducible refine And.intro ?_ ?_) <;> (try (with_reducible refine hK _ ?_; clear hK K)))
| omega)
  · (refine zF rfl ?_ ?_ ?_ ?_; (iterate 3 (focus ((try simp (disch := omega) only [go_sem, wrap_n]) <;> (try omega) <;> fail))); (try simp (disch := omega) only [go_sem, wrap_n, I, B, S, inj, List.cons.injEq, and_true, true_and, and_self]))
    symm; rw [decide_eq_false_iff_not]; rintro rfl
    simp at hc
  obtain ⟨⟨e1, e2⟩, e3⟩ := hc
  refine AWP.loopS (ι := Nat) (fun k => k ≤ a.nodes.length ∧ ∀ j, j < k → a.nodes.getD j default = b.nodes.getD j default) (fun k => a.nodes.length - k) [2, 3, 32] (fun k => [(33, I k)]) 0 ?_ (by simp (disch := omega) only [go_sem, wrap_n, true_and]) ?_
  · exact ⟨by omega, fun j hj => by omega⟩
  intro k ⟨hk, hk2⟩
  simp only [go_sem]
  (repeat' first
| (with_reducible refine AR.f ?_)
| refine blkA_x (by decide) ?_
| (with_reducible refine AWP.cond rfl ?_ ?_ <;> intro hc <;> (try simp only [hcs, beq_iff_eq, ge_iff_le, gt_iff_lt] at hc))
| ((first | ((first | (with_reducible first | refine zR ?_ | refine zQ (by decide +kernel) ?_ | refine zD (by decide +kernel) ?_ | refine zE (by decide +kernel) ?_ | refine zG (by decide +kernel) ?_)); intro K hK) | ((first | (with_reducible refine aunder_i ?_ ?_ <;> intro hg) | with_reducible intro hg) <;> (first | (exfalso; simp at hg; done) | (have hg' := hg; (try simp only [hcs, beq_iff_eq, ge_iff_le, gt_iff_lt] at hg'); (try simp only [hg]))))) <;> (try simp (disch := omega) only [go_sem, wrap_n]) <;> (repeat' with_reducible refine And.intro ?_ ?_) <;> (try (with_reducible refine hK _ ?_; clear hK K)))
| omega)
  · (refine zF rfl ?_ ?_ ?_ ?_; (iterate 3 (focus ((try simp (disch := omega) only [go_sem, wrap_n]) <;> (try omega) <;> fail))); (try simp (disch := omega) only [go_sem, wrap_n, I, B, S, inj, List.cons.injEq, and_true, true_and, and_self]))
    symm; rw [decide_eq_false_iff_not]; rintro rfl
    simp at hc
  · refine ⟨k + 1, ⟨by omega, fun j hj => ?_⟩, by omega, ?_⟩
    · by_cases e : j = k
      · subst e; exact (ANode.ext_iff _ _).2 hc
      · exact hk2 j (by omega)
    (refine SImp.same ?_; simp (disch := omega) only [go_sem, wrap_n, Int.natCast_add])
  have hnodes : a.nodes = b.nodes := eq_of_getD (by omega) fun j hj => hk2 j (by omega)
  clear hk hk2 hc
  refine AWP.loopS (ι := Nat) (fun j => j ≤ a.sessions.length ∧ ∀ i, i < j → a.sessions.getD i default = b.sessions.getD i default) (fun j => a.sessions.length - j) [2, 3, 50] (fun j => [(51, I j)]) 0 ?_ (by simp (disch := omega) only [go_sem, wrap_n, true_and]) ?_
  · exact ⟨by omega, fun j hj => by omega⟩
  intro j ⟨hj, hj2⟩
  simp only [go_sem]
  (repeat' first
| (with_reducible refine AR.f ?_)
| refine blkA_x (by decide) ?_
| (with_reducible refine AWP.cond rfl ?_ ?_ <;> intro hc <;> (try simp only [hcs, beq_iff_eq, ge_iff_le, gt_iff_lt] at hc))
| ((first | ((first | (with_reducible first | refine zR ?_ | refine zQ (by decide +kernel) ?_ | refine zD (by decide +kernel) ?_ | refine zE (by decide +kernel) ?_ | refine zG (by decide +kernel) ?_)); intro K hK) | ((first | (with_reducible refine aunder_i ?_ ?_ <;> intro hg) | with_reducible intro hg) <;> (first | (exfalso; simp at hg; done) | (have hg' := hg; (try simp only [hcs, beq_iff_eq, ge_iff_le, gt_iff_lt] at hg'); (try simp only [hg]))))) <;> (try simp (disch := omega) only [go_sem, wrap_n]) <;> (repeat' with_reducible refine And.intro ?_ ?_) <;> (try (with_reducible refine hK _ ?_; clear hK K)))
| omega)
  · (refine zF rfl ?_ ?_ ?_ ?_; (iterate 3 (focus ((try simp (disch := omega) only [go_sem, wrap_n]) <;> (try omega) <;> fail))); (try simp (disch := omega) only [go_sem, wrap_n, I, B, S, inj, List.cons.injEq, and_true, true_and, and_self]))
    symm; rw [decide_eq_false_iff_not]; rintro rfl
    simp at hc
  · refine ⟨j + 1, ⟨by omega, fun i hi => ?_⟩, by omega, ?_⟩
    · by_cases e : i = j
      · subst e; exact hc
      · exact hj2 i (by omega)
    (refine SImp.same ?_; simp (disch := omega) only [go_sem, wrap_n, Int.natCast_add])
  · (refine zF rfl ?_ ?_ ?_ ?_; (iterate 3 (focus ((try simp (disch := omega) only [go_sem, wrap_n]) <;> (try omega) <;> fail))); (try simp (disch := omega) only [go_sem, wrap_n, I, B, S, inj, List.cons.injEq, and_true, true_and, and_self]))
    symm; rw [decide_eq_true_eq, ATree.ext_iff]
    exact ⟨e1, hnodes, eq_of_getD (by omega) fun i hi => hj2 i (by omega)⟩
theorem t00_wf : t00.wf := by
  refine ⟨by unfold okI t00; decide, ⟨by decide, fun y hy => ?_⟩, ⟨by decide, fun y hy => by cases hy⟩⟩
  rw [List.mem_singleton.1 hy]
  unfold ANode.wf AStat.wf okS okI; decide
end Go.Proofs.YtmpfhalheaeibaaDoor
namespace Go.Proofs.YtmpfhalheaeibaaDoor
set_option linter.unusedVariables false
set_option linter.unusedSimpArgs false
open Go Go.RowKit
set_option maxRecDepth 100000
def numsB (t : ATxn) : Bool := decide (goodZ t.zxid) && (decide (1 ≤ t.session ∧ t.session ≤ 2147483647) && (decide (0 ≤ t.version ∧ t.version ≤ 2147483647) && decide (0 ≤ t.owner ∧ t.owner ≤ 2147483647)))
def badT (t : ATxn) : Bool :=
  if t.op ≤ 2 then !decide (t.path = []) || (!decide (t.data = []) || (!decide (t.version = 0) || !decide (t.owner = 0)))
  else if t.op = 3 then !goodP t.path || (decide (t.path = [47]) || !decide (t.version = 0))
  else if t.op = 4 then !goodP t.path || (decide (t.path = [47]) || (!decide (t.data = []) || (!decide (t.version = 0) || !decide (t.owner = 0))))
  else !goodP t.path || !decide (t.owner = 0)
def goodT (t : ATxn) : Int := if t.op < 1 ∨ 5 < t.op then 4 else if numsB t = false then 3 else if 256 < t.data.length then 1 else if badT t = true then 2 else 0
theorem goodT_op {t : ATxn} (h : t.op < 1 ∨ 5 < t.op) : goodT t = 4 := by unfold goodT; rw [if_pos h]
theorem goodT_num {t : ATxn} (h : 1 ≤ t.op ∧ t.op ≤ 5) (h2 : ¬ numsB t = true) : goodT t = 3 := by unfold goodT; rw [if_neg (by omega), if_pos (eq_false_of_ne_true h2)]
theorem goodT_long {t : ATxn} (h : 1 ≤ t.op ∧ t.op ≤ 5) (h2 : numsB t = true) (h3 : 256 < t.data.length) : goodT t = 1 := by unfold goodT; rw [if_neg (by omega), if_neg (by rw [h2]; decide), if_pos h3]
theorem goodT_ok {t : ATxn} (h : 1 ≤ t.op ∧ t.op ≤ 5) (h2 : numsB t = true) (h3 : t.data.length ≤ 256) : goodT t = if badT t = true then 2 else 0 := by unfold goodT; rw [if_neg (by omega), if_neg (by rw [h2]; decide), if_neg (by omega)]
theorem numsB_iff (t : ATxn) : numsB t = true ↔ goodZ t.zxid ∧ (1 ≤ t.session ∧ t.session ≤ 2147483647) ∧ (0 ≤ t.version ∧ t.version ≤ 2147483647) ∧ (0 ≤ t.owner ∧ t.owner ≤ 2147483647) := by
  unfold numsB; simp only [Bool.and_eq_true, decide_eq_true_eq]
theorem wbad {t : ATxn} (h : 1 ≤ t.op ∧ t.op ≤ 5) : badT t = true ↔ ((t.op ≤ 2 ∧ (((¬t.path = [] ∨ ¬t.data = []) ∨ ¬t.version = 0) ∨ ¬t.owner = 0)) ∨ (3 ≤ t.op ∧ (goodP t.path = false ∨ t.path = [47] ∧ ¬t.op = 5)) ∨ ((t.op = 4 ∧ ((¬t.data = [] ∨ ¬t.version = 0) ∨ ¬t.owner = 0) ∨ t.op = 3 ∧ ¬t.version = 0) ∨ t.op = 5 ∧ ¬t.owner = 0)) := by
  have hop : t.op = 1 ∨ t.op = 2 ∨ t.op = 3 ∨ t.op = 4 ∨ t.op = 5 := by omega
  rcases hop with e | e | e | e | e <;> simp [badT, e, or_assoc]
theorem wgood_c (t : ATxn) (hp : okS t.path) (hd : okS t.data) : acall Tryd.prog [] 123 [t.av] (ret (I (goodT t))) := by
  unfold okS at hd
  refine acall_of tabOk Tryd.func123 rfl (by kernel_rfl) (by simp [Tryd.ntmps123]) ?_; simp only [Tryd.ntmps123, Tryd.results123, List.toList_toArray, apar, List.length_nil, List.length_cons, Nat.reduceAdd]
  (repeat' first
| (with_reducible refine AR.f ?_)
| refine blkA_x (by decide) ?_
| (with_reducible refine AWP.cond rfl ?_ ?_ <;> intro hc <;> (try simp only [hcs, beq_iff_eq, ge_iff_le, gt_iff_lt] at hc))
| ((first | ((first | (with_reducible first | refine zR ?_ | refine zQ (by decide +kernel) ?_ | refine zD (by decide +kernel) ?_ | refine zE (by decide +kernel) ?_ | refine zG (by decide +kernel) ?_)); intro K hK) | ((first | refine zA (good_c t.path hp) ?_ ?_ ?_ ?_ ?_); (focus exact rfl); (focus exact rfl); iterate 2 (focus ((try simp (disch := omega) only [go_sem, wrap_n]) <;> (try omega) <;> fail))) | ((first | refine acallH_sc (zgood_c _) rfl rfl ?_ ?_ ?_ | refine acallQ_sc (zgood_c _) rfl rfl ?_ ?_ ?_); iterate 2 (focus ((try simp (disch := omega) only [go_sem, wrap_n]) <;> (try omega) <;> fail))) | ((first | refine zN (zgood_c _) rfl ?_ ?_ | refine zN (good_c t.path hp) rfl ?_ ?_); (focus ((try simp (disch := omega) only [go_sem, wrap_n]) <;> (try omega) <;> fail))) | (first | ((first | refine zX (zgood_c _) rfl ?_ ?_ | refine acallH_anyx (zgood_c _) ?_ ?_); (focus ((try simp (disch := omega) only [go_sem, wrap_n]) <;> (try omega) <;> fail))) | ((first | refine zX (good_c t.path hp) rfl ?_ ?_ | refine acallH_anyx (good_c t.path hp) ?_ ?_); (focus ((try simp (disch := omega) only [go_sem, wrap_n]) <;> (try omega) <;> fail)))) | ((first | (with_reducible refine aunder_i ?_ ?_ <;> intro hg) | with_reducible intro hg) <;> (first | (exfalso; simp at hg; done) | (have hg' := hg; (try simp only [hcs, beq_iff_eq, ge_iff_le, gt_iff_lt] at hg'); (try simp only [hg]))))) <;> (try simp (disch := omega) only [go_sem, wrap_n]) <;> (repeat' with_reducible refine And.intro ?_ ?_) <;> (try (with_reducible refine hK _ ?_; clear hK K)))
| omega)
  · rw [goodT_op hc]; (refine zF rfl ?_ ?_ ?_ ?_; (iterate 3 (focus ((try simp (disch := omega) only [go_sem, wrap_n]) <;> (try omega) <;> fail))); (try simp (disch := omega) only [go_sem, wrap_n, I, B, S, inj, List.cons.injEq, and_true, true_and, and_self]))
  all_goals (have hop : 1 ≤ t.op ∧ t.op ≤ 5 := by assumption)
  · rw [goodT_num hop]
    · (refine zF rfl ?_ ?_ ?_ ?_; (iterate 3 (focus ((try simp (disch := omega) only [go_sem, wrap_n]) <;> (try omega) <;> fail))); (try simp (disch := omega) only [go_sem, wrap_n, I, B, S, inj, List.cons.injEq, and_true, true_and, and_self]))
    rw [numsB_iff]; rintro ⟨h1, h2⟩
    rcases hc with (((((c | c) | c) | c) | c) | c) | c
    · exact c h1
    all_goals omega
  all_goals (have hn : (((((goodZ t.zxid ∧ 1 ≤ t.session) ∧ t.session ≤ 2147483647) ∧ 0 ≤ t.version) ∧ t.version ≤ 2147483647) ∧ 0 ≤ t.owner) ∧ t.owner ≤ 2147483647 := by assumption)
  all_goals (have hnb : numsB t = true := (numsB_iff t).2 ⟨hn.1.1.1.1.1.1, by omega, by omega, by omega⟩)
  · rw [goodT_long hop hnb (by omega)]; (refine zF rfl ?_ ?_ ?_ ?_; (iterate 3 (focus ((try simp (disch := omega) only [go_sem, wrap_n]) <;> (try omega) <;> fail))); (try simp (disch := omega) only [go_sem, wrap_n, I, B, S, inj, List.cons.injEq, and_true, true_and, and_self]))
  all_goals rw [goodT_ok hop hnb (by omega)]
  · rw [if_pos ((wbad hop).2 (.inl hc))]; (refine zF rfl ?_ ?_ ?_ ?_; (iterate 3 (focus ((try simp (disch := omega) only [go_sem, wrap_n]) <;> (try omega) <;> fail))); (try simp (disch := omega) only [go_sem, wrap_n, I, B, S, inj, List.cons.injEq, and_true, true_and, and_self]))
  · rw [if_pos ((wbad hop).2 (.inr (.inl ⟨by simpa using hg, hc⟩)))]; (refine zF rfl ?_ ?_ ?_ ?_; (iterate 3 (focus ((try simp (disch := omega) only [go_sem, wrap_n]) <;> (try omega) <;> fail))); (try simp (disch := omega) only [go_sem, wrap_n, I, B, S, inj, List.cons.injEq, and_true, true_and, and_self]))
  · rw [if_pos ((wbad hop).2 (.inr (.inr hc)))]; (refine zF rfl ?_ ?_ ?_ ?_; (iterate 3 (focus ((try simp (disch := omega) only [go_sem, wrap_n]) <;> (try omega) <;> fail))); (try simp (disch := omega) only [go_sem, wrap_n, I, B, S, inj, List.cons.injEq, and_true, true_and, and_self]))
  all_goals (rw [if_neg (fun hb => by
    have hb := (wbad hop).1 hb
    have hop : t.op = 1 ∨ t.op = 2 ∨ t.op = 3 ∨ t.op = 4 ∨ t.op = 5 := by omega
    rcases hop with e | e | e | e | e <;> simp_all)]; (refine zF rfl ?_ ?_ ?_ ?_; (iterate 3 (focus ((try simp (disch := omega) only [go_sem, wrap_n]) <;> (try omega) <;> fail))); (try simp (disch := omega) only [go_sem, wrap_n, I, B, S, inj, List.cons.injEq, and_true, true_and, and_self])))
theorem in_c (n lo : Int) : acall Tryd.prog [] 157 [I n, I lo] (ret (B (decide (lo ≤ n ∧ n < 2147483648)))) := by
  refine acall_of tabOk Tryd.func157 rfl (by kernel_rfl) (by simp [Tryd.ntmps157]) ?_; simp only [Tryd.ntmps157, Tryd.results157, List.toList_toArray, apar, List.length_nil, List.length_cons, Nat.reduceAdd]
  (repeat' first
| (with_reducible refine AR.f ?_)
| refine blkA_x (by decide) ?_
| (with_reducible refine AWP.cond rfl ?_ ?_ <;> intro hc <;> (try simp only [hcs, beq_iff_eq, ge_iff_le, gt_iff_lt] at hc))
| ((first | ((first | (with_reducible first | refine zR ?_ | refine zQ (by decide +kernel) ?_ | refine zD (by decide +kernel) ?_ | refine zE (by decide +kernel) ?_ | refine zG (by decide +kernel) ?_)); intro K hK) | ((first | (with_reducible refine aunder_i ?_ ?_ <;> intro hg) | with_reducible intro hg) <;> (first | (exfalso; simp at hg; done) | (have hg' := hg; (try simp only [hcs, beq_iff_eq, ge_iff_le, gt_iff_lt] at hg'); (try simp only [hg]))))) <;> (try simp (disch := omega) only [go_sem, wrap_n]) <;> (repeat' with_reducible refine And.intro ?_ ?_) <;> (try (with_reducible refine hK _ ?_; clear hK K)))
| omega)
  all_goals (refine zF rfl ?_ ?_ ?_ ?_; (iterate 3 (focus ((try simp (disch := omega) only [go_sem, wrap_n]) <;> (try omega) <;> fail))); (try simp (disch := omega) only [go_sem, wrap_n, I, B, S, inj, List.cons.injEq, and_true, true_and, and_self]))
  all_goals simp
set_option maxHeartbeats 2000000 in
theorem ref_wgood_c (t : ATxn) (hz : okI t.zxid) (hp : t.path.length ≤ 1048576) (hd : okS t.data) : acall Tryd.prog [] 112 [t.av] (ret (I (goodT t))) := by
  unfold okS at hd
  by_cases hop : t.op < 1 ∨ 5 < t.op
  · rw [goodT_op hop]
    refine acall_of tabOk Tryd.func112 rfl (by kernel_rfl) (by simp [Tryd.ntmps112]) ?_; simp only [Tryd.ntmps112, Tryd.results112, List.toList_toArray, apar, List.length_nil, List.length_cons, Nat.reduceAdd]
    (repeat' first
  | (with_reducible refine AR.f ?_)
  | refine blkA_x (by decide) ?_
  | (with_reducible refine AWP.cond rfl ?_ ?_ <;> intro hc <;> (try simp only [hcs, beq_iff_eq, ge_iff_le, gt_iff_lt] at hc))
  | ((first | ((first | (with_reducible first | refine zR ?_ | refine zQ (by decide +kernel) ?_ | refine zD (by decide +kernel) ?_ | refine zE (by decide +kernel) ?_ | refine zG (by decide +kernel) ?_)); intro K hK) | ((first | (with_reducible refine aunder_i ?_ ?_ <;> intro hg) | with_reducible intro hg) <;> (first | (exfalso; simp at hg; done) | (have hg' := hg; (try simp only [hcs, beq_iff_eq, ge_iff_le, gt_iff_lt] at hg'); (try simp only [hg]))))) <;> (try simp (disch := omega) only [go_sem, wrap_n]) <;> (repeat' with_reducible refine And.intro ?_ ?_) <;> (try (with_reducible refine hK _ ?_; clear hK K)))
  | omega)
    all_goals first | omega | skip
    all_goals (refine zF rfl ?_ ?_ ?_ ?_; (iterate 3 (focus ((try simp (disch := omega) only [go_sem, wrap_n]) <;> (try omega) <;> fail))); (try simp (disch := omega) only [go_sem, wrap_n, I, B, S, inj, List.cons.injEq, and_true, true_and, and_self]))
  have hop' : 1 ≤ t.op ∧ t.op ≤ 5 := by omega
  by_cases h1 : goodZ t.zxid
  case neg =>
    rw [goodT_num hop' (fun h => h1 ((numsB_iff t).1 h).1)]
    refine acall_of tabOk Tryd.func112 rfl (by kernel_rfl) (by simp [Tryd.ntmps112]) ?_; simp only [Tryd.ntmps112, Tryd.results112, List.toList_toArray, apar, List.length_nil, List.length_cons, Nat.reduceAdd]
    (repeat' first
  | (with_reducible refine AR.f ?_)
  | refine blkA_x (by decide) ?_
  | (with_reducible refine AWP.cond rfl ?_ ?_ <;> intro hc <;> (try simp only [hcs, beq_iff_eq, ge_iff_le, gt_iff_lt] at hc))
  | ((first | ((first | (with_reducible first | refine zR ?_ | refine zQ (by decide +kernel) ?_ | refine zD (by decide +kernel) ?_ | refine zE (by decide +kernel) ?_ | refine zG (by decide +kernel) ?_)); intro K hK) | ((first | refine acallH_sc ((ref_zgood_c _ hz).re (congrArg B (decide_eq_false h1))) rfl rfl ?_ ?_ ?_ | refine acallQ_sc ((ref_zgood_c _ hz).re (congrArg B (decide_eq_false h1))) rfl rfl ?_ ?_ ?_); iterate 2 (focus ((try simp (disch := omega) only [go_sem, wrap_n]) <;> (try omega) <;> fail))) | ((first | refine zN ((ref_zgood_c _ hz).re (congrArg B (decide_eq_false h1))) rfl ?_ ?_); (focus ((try simp (disch := omega) only [go_sem, wrap_n]) <;> (try omega) <;> fail))) | (first | ((first | refine zX ((ref_zgood_c _ hz).re (congrArg B (decide_eq_false h1))) rfl ?_ ?_ | refine acallH_anyx ((ref_zgood_c _ hz).re (congrArg B (decide_eq_false h1))) ?_ ?_); (focus ((try simp (disch := omega) only [go_sem, wrap_n]) <;> (try omega) <;> fail)))) | ((first | (with_reducible refine aunder_i ?_ ?_ <;> intro hg) | with_reducible intro hg) <;> (first | (exfalso; simp at hg; done) | (have hg' := hg; (try simp only [hcs, beq_iff_eq, ge_iff_le, gt_iff_lt] at hg'); (try simp only [hg]))))) <;> (try simp (disch := omega) only [go_sem, wrap_n]) <;> (repeat' with_reducible refine And.intro ?_ ?_) <;> (try (with_reducible refine hK _ ?_; clear hK K)))
  | omega)
    all_goals first | omega | skip
    all_goals (refine zF rfl ?_ ?_ ?_ ?_; (iterate 3 (focus ((try simp (disch := omega) only [go_sem, wrap_n]) <;> (try omega) <;> fail))); (try simp (disch := omega) only [go_sem, wrap_n, I, B, S, inj, List.cons.injEq, and_true, true_and, and_self]))
  by_cases h2 : 1 ≤ t.session ∧ t.session < 2147483648
  case neg =>
    rw [goodT_num hop' (fun h => by have := (numsB_iff t).1 h; omega)]
    refine acall_of tabOk Tryd.func112 rfl (by kernel_rfl) (by simp [Tryd.ntmps112]) ?_; simp only [Tryd.ntmps112, Tryd.results112, List.toList_toArray, apar, List.length_nil, List.length_cons, Nat.reduceAdd]
    (repeat' first
  | (with_reducible refine AR.f ?_)
  | refine blkA_x (by decide) ?_
  | (with_reducible refine AWP.cond rfl ?_ ?_ <;> intro hc <;> (try simp only [hcs, beq_iff_eq, ge_iff_le, gt_iff_lt] at hc))
  | ((first | ((first | (with_reducible first | refine zR ?_ | refine zQ (by decide +kernel) ?_ | refine zD (by decide +kernel) ?_ | refine zE (by decide +kernel) ?_ | refine zG (by decide +kernel) ?_)); intro K hK) | ((first | refine zA ((in_c t.session 1).re (congrArg B (decide_eq_false h2))) ?_ ?_ ?_ ?_ ?_); (focus exact rfl); (focus exact rfl); iterate 2 (focus ((try simp (disch := omega) only [go_sem, wrap_n]) <;> (try omega) <;> fail))) | ((first | refine acallH_sc ((ref_zgood_c _ hz).re (congrArg B (decide_eq_true h1))) rfl rfl ?_ ?_ ?_ | refine acallQ_sc ((ref_zgood_c _ hz).re (congrArg B (decide_eq_true h1))) rfl rfl ?_ ?_ ?_); iterate 2 (focus ((try simp (disch := omega) only [go_sem, wrap_n]) <;> (try omega) <;> fail))) | ((first | refine zN ((ref_zgood_c _ hz).re (congrArg B (decide_eq_true h1))) rfl ?_ ?_ | refine zN ((in_c t.session 1).re (congrArg B (decide_eq_false h2))) rfl ?_ ?_); (focus ((try simp (disch := omega) only [go_sem, wrap_n]) <;> (try omega) <;> fail))) | (first | ((first | refine zX ((ref_zgood_c _ hz).re (congrArg B (decide_eq_true h1))) rfl ?_ ?_ | refine acallH_anyx ((ref_zgood_c _ hz).re (congrArg B (decide_eq_true h1))) ?_ ?_); (focus ((try simp (disch := omega) only [go_sem, wrap_n]) <;> (try omega) <;> fail))) | ((first | refine zX ((in_c t.session 1).re (congrArg B (decide_eq_false h2))) rfl ?_ ?_ | refine acallH_anyx ((in_c t.session 1).re (congrArg B (decide_eq_false h2))) ?_ ?_); (focus ((try simp (disch := omega) only [go_sem, wrap_n]) <;> (try omega) <;> fail)))) | ((first | (with_reducible refine aunder_i ?_ ?_ <;> intro hg) | with_reducible intro hg) <;> (first | (exfalso; simp at hg; done) | (have hg' := hg; (try simp only [hcs, beq_iff_eq, ge_iff_le, gt_iff_lt] at hg'); (try simp only [hg]))))) <;> (try simp (disch := omega) only [go_sem, wrap_n]) <;> (repeat' with_reducible refine And.intro ?_ ?_) <;> (try (with_reducible refine hK _ ?_; clear hK K)))
  | omega)
    all_goals first | omega | skip
    all_goals (refine zF rfl ?_ ?_ ?_ ?_; (iterate 3 (focus ((try simp (disch := omega) only [go_sem, wrap_n]) <;> (try omega) <;> fail))); (try simp (disch := omega) only [go_sem, wrap_n, I, B, S, inj, List.cons.injEq, and_true, true_and, and_self]))
  by_cases h3 : 0 ≤ t.version ∧ t.version < 2147483648
  case neg =>
    rw [goodT_num hop' (fun h => by have := (numsB_iff t).1 h; omega)]
    refine acall_of tabOk Tryd.func112 rfl (by kernel_rfl) (by simp [Tryd.ntmps112]) ?_; simp only [Tryd.ntmps112, Tryd.results112, List.toList_toArray, apar, List.length_nil, List.length_cons, Nat.reduceAdd]
    (repeat' first
  | (with_reducible refine AR.f ?_)
  | refine blkA_x (by decide) ?_
  | (with_reducible refine AWP.cond rfl ?_ ?_ <;> intro hc <;> (try simp only [hcs, beq_iff_eq, ge_iff_le, gt_iff_lt] at hc))
  | ((first | ((first | (with_reducible first | refine zR ?_ | refine zQ (by decide +kernel) ?_ | refine zD (by decide +kernel) ?_ | refine zE (by decide +kernel) ?_ | refine zG (by decide +kernel) ?_)); intro K hK) | ((first | refine zA ((in_c t.session 1).re (congrArg B (decide_eq_true h2))) ?_ ?_ ?_ ?_ ?_ | refine zA ((in_c t.version 0).re (congrArg B (decide_eq_false h3))) ?_ ?_ ?_ ?_ ?_); (focus exact rfl); (focus exact rfl); iterate 2 (focus ((try simp (disch := omega) only [go_sem, wrap_n]) <;> (try omega) <;> fail))) | ((first | refine acallH_sc ((ref_zgood_c _ hz).re (congrArg B (decide_eq_true h1))) rfl rfl ?_ ?_ ?_ | refine acallQ_sc ((ref_zgood_c _ hz).re (congrArg B (decide_eq_true h1))) rfl rfl ?_ ?_ ?_); iterate 2 (focus ((try simp (disch := omega) only [go_sem, wrap_n]) <;> (try omega) <;> fail))) | ((first | refine zN ((ref_zgood_c _ hz).re (congrArg B (decide_eq_true h1))) rfl ?_ ?_ | refine zN ((in_c t.session 1).re (congrArg B (decide_eq_true h2))) rfl ?_ ?_ | refine zN ((in_c t.version 0).re (congrArg B (decide_eq_false h3))) rfl ?_ ?_); (focus ((try simp (disch := omega) only [go_sem, wrap_n]) <;> (try omega) <;> fail))) | (first | ((first | refine zX ((ref_zgood_c _ hz).re (congrArg B (decide_eq_true h1))) rfl ?_ ?_ | refine acallH_anyx ((ref_zgood_c _ hz).re (congrArg B (decide_eq_true h1))) ?_ ?_); (focus ((try simp (disch := omega) only [go_sem, wrap_n]) <;> (try omega) <;> fail))) | ((first | refine zX ((in_c t.session 1).re (congrArg B (decide_eq_true h2))) rfl ?_ ?_ | refine acallH_anyx ((in_c t.session 1).re (congrArg B (decide_eq_true h2))) ?_ ?_); (focus ((try simp (disch := omega) only [go_sem, wrap_n]) <;> (try omega) <;> fail))) | ((first | refine zX ((in_c t.version 0).re (congrArg B (decide_eq_false h3))) rfl ?_ ?_ | refine acallH_anyx ((in_c t.version 0).re (congrArg B (decide_eq_false h3))) ?_ ?_); (focus ((try simp (disch := omega) only [go_sem, wrap_n]) <;> (try omega) <;> fail)))) | ((first | (with_reducible refine aunder_i ?_ ?_ <;> intro hg) | with_reducible intro hg) <;> (first | (exfalso; simp at hg; done) | (have hg' := hg; (try simp only [hcs, beq_iff_eq, ge_iff_le, gt_iff_lt] at hg'); (try simp only [hg]))))) <;> (try simp (disch := omega) only [go_sem, wrap_n]) <;> (repeat' with_reducible refine And.intro ?_ ?_) <;> (try (with_reducible refine hK _ ?_; clear hK K)))
  | omega)
    all_goals first | omega | skip
    all_goals (refine zF rfl ?_ ?_ ?_ ?_; (iterate 3 (focus ((try simp (disch := omega) only [go_sem, wrap_n]) <;> (try omega) <;> fail))); (try simp (disch := omega) only [go_sem, wrap_n, I, B, S, inj, List.cons.injEq, and_true, true_and, and_self]))
  by_cases h4 : 0 ≤ t.owner ∧ t.owner < 2147483648
  case neg =>
    rw [goodT_num hop' (fun h => by have := (numsB_iff t).1 h; omega)]
    refine acall_of tabOk Tryd.func112 rfl (by kernel_rfl) (by simp [Tryd.ntmps112]) ?_; simp only [Tryd.ntmps112, Tryd.results112, List.toList_toArray, apar, List.length_nil, List.length_cons, Nat.reduceAdd]
    (repeat' first
  | (with_reducible refine AR.f ?_)
  | refine blkA_x (by decide) ?_
  | (with_reducible refine AWP.cond rfl ?_ ?_ <;> intro hc <;> (try simp only [hcs, beq_iff_eq, ge_iff_le, gt_iff_lt] at hc))
  | ((first | ((first | (with_reducible first | refine zR ?_ | refine zQ (by decide +kernel) ?_ | refine zD (by decide +kernel) ?_ | refine zE (by decide +kernel) ?_ | refine zG (by decide +kernel) ?_)); intro K hK) | ((first | refine zA ((in_c t.session 1).re (congrArg B (decide_eq_true h2))) ?_ ?_ ?_ ?_ ?_ | refine zA ((in_c t.version 0).re (congrArg B (decide_eq_true h3))) ?_ ?_ ?_ ?_ ?_ | refine zA ((in_c t.owner 0).re (congrArg B (decide_eq_false h4))) ?_ ?_ ?_ ?_ ?_); (focus exact rfl); (focus exact rfl); iterate 2 (focus ((try simp (disch := omega) only [go_sem, wrap_n]) <;> (try omega) <;> fail))) | ((first | refine acallH_sc ((ref_zgood_c _ hz).re (congrArg B (decide_eq_true h1))) rfl rfl ?_ ?_ ?_ | refine acallQ_sc ((ref_zgood_c _ hz).re (congrArg B (decide_eq_true h1))) rfl rfl ?_ ?_ ?_); iterate 2 (focus ((try simp (disch := omega) only [go_sem, wrap_n]) <;> (try omega) <;> fail))) | ((first | refine zN ((ref_zgood_c _ hz).re (congrArg B (decide_eq_true h1))) rfl ?_ ?_ | refine zN ((in_c t.session 1).re (congrArg B (decide_eq_true h2))) rfl ?_ ?_ | refine zN ((in_c t.version 0).re (congrArg B (decide_eq_true h3))) rfl ?_ ?_ | refine zN ((in_c t.owner 0).re (congrArg B (decide_eq_false h4))) rfl ?_ ?_); (focus ((try simp (disch := omega) only [go_sem, wrap_n]) <;> (try omega) <;> fail))) | (first | ((first | refine zX ((ref_zgood_c _ hz).re (congrArg B (decide_eq_true h1))) rfl ?_ ?_ | refine acallH_anyx ((ref_zgood_c _ hz).re (congrArg B (decide_eq_true h1))) ?_ ?_); (focus ((try simp (disch := omega) only [go_sem, wrap_n]) <;> (try omega) <;> fail))) | ((first | refine zX ((in_c t.session 1).re (congrArg B (decide_eq_true h2))) rfl ?_ ?_ | refine acallH_anyx ((in_c t.session 1).re (congrArg B (decide_eq_true h2))) ?_ ?_); (focus ((try simp (disch := omega) only [go_sem, wrap_n]) <;> (try omega) <;> fail))) | ((first | refine zX ((in_c t.version 0).re (congrArg B (decide_eq_true h3))) rfl ?_ ?_ | refine acallH_anyx ((in_c t.version 0).re (congrArg B (decide_eq_true h3))) ?_ ?_); (focus ((try simp (disch := omega) only [go_sem, wrap_n]) <;> (try omega) <;> fail))) | ((first | refine zX ((in_c t.owner 0).re (congrArg B (decide_eq_false h4))) rfl ?_ ?_ | refine acallH_anyx ((in_c t.owner 0).re (congrArg B (decide_eq_false h4))) ?_ ?_); (focus ((try simp (disch := omega) only [go_sem, wrap_n]) <;> (try omega) <;> fail)))) | ((first | (with_reducible refine aunder_i ?_ ?_ <;> intro hg) | with_reducible intro hg) <;> (first | (exfalso; simp at hg; done) | (have hg' := hg; (try simp only [hcs, beq_iff_eq, ge_iff_le, gt_iff_lt] at hg'); (try simp only [hg]))))) <;> (try simp (disch := omega) only [go_sem, wrap_n]) <;> (repeat' with_reducible refine And.intro ?_ ?_) <;> (try (with_reducible refine hK _ ?_; clear hK K)))
  | omega)
    all_goals first | omega | skip
    all_goals (refine zF rfl ?_ ?_ ?_ ?_; (iterate 3 (focus ((try simp (disch := omega) only [go_sem, wrap_n]) <;> (try omega) <;> fail))); (try simp (disch := omega) only [go_sem, wrap_n, I, B, S, inj, List.cons.injEq, and_true, true_and, and_self]))
  have hnb : numsB t = true := (numsB_iff t).2 ⟨h1, by omega, by omega, by omega⟩
  by_cases hlen : 256 < t.data.length
  · rw [goodT_long hop' hnb hlen]
    refine acall_of tabOk Tryd.func112 rfl (by kernel_rfl) (by simp [Tryd.ntmps112]) ?_; simp only [Tryd.ntmps112, Tryd.results112, List.toList_toArray, apar, List.length_nil, List.length_cons, Nat.reduceAdd]
    (repeat' first
  | (with_reducible refine AR.f ?_)
  | refine blkA_x (by decide) ?_
  | (with_reducible refine AWP.cond rfl ?_ ?_ <;> intro hc <;> (try simp only [hcs, beq_iff_eq, ge_iff_le, gt_iff_lt] at hc))
  | ((first | ((first | (with_reducible first | refine zR ?_ | refine zQ (by decide +kernel) ?_ | refine zD (by decide +kernel) ?_ | refine zE (by decide +kernel) ?_ | refine zG (by decide +kernel) ?_)); intro K hK) | ((first | refine zA ((in_c t.session 1).re (congrArg B (decide_eq_true h2))) ?_ ?_ ?_ ?_ ?_ | refine zA ((in_c t.version 0).re (congrArg B (decide_eq_true h3))) ?_ ?_ ?_ ?_ ?_ | refine zA ((in_c t.owner 0).re (congrArg B (decide_eq_true h4))) ?_ ?_ ?_ ?_ ?_); (focus exact rfl); (focus exact rfl); iterate 2 (focus ((try simp (disch := omega) only [go_sem, wrap_n]) <;> (try omega) <;> fail))) | ((first | refine acallH_sc ((ref_zgood_c _ hz).re (congrArg B (decide_eq_true h1))) rfl rfl ?_ ?_ ?_ | refine acallQ_sc ((ref_zgood_c _ hz).re (congrArg B (decide_eq_true h1))) rfl rfl ?_ ?_ ?_); iterate 2 (focus ((try simp (disch := omega) only [go_sem, wrap_n]) <;> (try omega) <;> fail))) | ((first | refine zN ((ref_zgood_c _ hz).re (congrArg B (decide_eq_true h1))) rfl ?_ ?_ | refine zN ((in_c t.session 1).re (congrArg B (decide_eq_true h2))) rfl ?_ ?_ | refine zN ((in_c t.version 0).re (congrArg B (decide_eq_true h3))) rfl ?_ ?_ | refine zN ((in_c t.owner 0).re (congrArg B (decide_eq_true h4))) rfl ?_ ?_); (focus ((try simp (disch := omega) only [go_sem, wrap_n]) <;> (try omega) <;> fail))) | (first | ((first | refine zX ((ref_zgood_c _ hz).re (congrArg B (decide_eq_true h1))) rfl ?_ ?_ | refine acallH_anyx ((ref_zgood_c _ hz).re (congrArg B (decide_eq_true h1))) ?_ ?_); (focus ((try simp (disch := omega) only [go_sem, wrap_n]) <;> (try omega) <;> fail))) | ((first | refine zX ((in_c t.session 1).re (congrArg B (decide_eq_true h2))) rfl ?_ ?_ | refine acallH_anyx ((in_c t.session 1).re (congrArg B (decide_eq_true h2))) ?_ ?_); (focus ((try simp (disch := omega) only [go_sem, wrap_n]) <;> (try omega) <;> fail))) | ((first | refine zX ((in_c t.version 0).re (congrArg B (decide_eq_true h3))) rfl ?_ ?_ | refine acallH_anyx ((in_c t.version 0).re (congrArg B (decide_eq_true h3))) ?_ ?_); (focus ((try simp (disch := omega) only [go_sem, wrap_n]) <;> (try omega) <;> fail))) | ((first | refine zX ((in_c t.owner 0).re (congrArg B (decide_eq_true h4))) rfl ?_ ?_ | refine acallH_anyx ((in_c t.owner 0).re (congrArg B (decide_eq_true h4))) ?_ ?_); (focus ((try simp (disch := omega) only [go_sem, wrap_n]) <;> (try omega) <;> fail)))) | ((first | (with_reducible refine aunder_i ?_ ?_ <;> intro hg) | with_reducible intro hg) <;> (first | (exfalso; simp at hg; done) | (have hg' := hg; (try simp only [hcs, beq_iff_eq, ge_iff_le, gt_iff_lt] at hg'); (try simp only [hg]))))) <;> (try simp (disch := omega) only [go_sem, wrap_n]) <;> (repeat' with_reducible refine And.intro ?_ ?_) <;> (try (with_reducible refine hK _ ?_; clear hK K)))
  | omega)
    all_goals first | omega | skip
    all_goals (refine zF rfl ?_ ?_ ?_ ?_; (iterate 3 (focus ((try simp (disch := omega) only [go_sem, wrap_n]) <;> (try omega) <;> fail))); (try simp (disch := omega) only [go_sem, wrap_n, I, B, S, inj, List.cons.injEq, and_true, true_and, and_self]))
  rw [goodT_ok hop' hnb (by omega)]
  refine acall_of tabOk Tryd.func112 rfl (by kernel_rfl) (by simp [Tryd.ntmps112]) ?_; simp only [Tryd.ntmps112, Tryd.results112, List.toList_toArray, apar, List.length_nil, List.length_cons, Nat.reduceAdd]
  (repeat' first
| (with_reducible refine AR.f ?_)
| refine blkA_x (by decide) ?_
| (with_reducible refine AWP.cond rfl ?_ ?_ <;> intro hc <;> (try simp only [hcs, beq_iff_eq, ge_iff_le, gt_iff_lt] at hc))
| ((first | ((first | (with_reducible first | refine zR ?_ | refine zQ (by decide +kernel) ?_ | refine zD (by decide +kernel) ?_ | refine zE (by decide +kernel) ?_ | refine zG (by decide +kernel) ?_)); intro K hK) | ((first | refine zA ((in_c t.session 1).re (congrArg B (decide_eq_true h2))) ?_ ?_ ?_ ?_ ?_ | refine zA ((in_c t.version 0).re (congrArg B (decide_eq_true h3))) ?_ ?_ ?_ ?_ ?_ | refine zA ((in_c t.owner 0).re (congrArg B (decide_eq_true h4))) ?_ ?_ ?_ ?_ ?_ | refine zA (ref_good_c t.path hp) ?_ ?_ ?_ ?_ ?_); (focus exact rfl); (focus exact rfl); iterate 2 (focus ((try simp (disch := omega) only [go_sem, wrap_n]) <;> (try omega) <;> fail))) | ((first | refine acallH_sc ((ref_zgood_c _ hz).re (congrArg B (decide_eq_true h1))) rfl rfl ?_ ?_ ?_ | refine acallQ_sc ((ref_zgood_c _ hz).re (congrArg B (decide_eq_true h1))) rfl rfl ?_ ?_ ?_); iterate 2 (focus ((try simp (disch := omega) only [go_sem, wrap_n]) <;> (try omega) <;> fail))) | ((first | refine zN ((ref_zgood_c _ hz).re (congrArg B (decide_eq_true h1))) rfl ?_ ?_ | refine zN ((in_c t.session 1).re (congrArg B (decide_eq_true h2))) rfl ?_ ?_ | refine zN ((in_c t.version 0).re (congrArg B (decide_eq_true h3))) rfl ?_ ?_ | refine zN ((in_c t.owner 0).re (congrArg B (decide_eq_true h4))) rfl ?_ ?_ | refine zN (ref_good_c t.path hp) rfl ?_ ?_); (focus ((try simp (disch := omega) only [go_sem, wrap_n]) <;> (try omega) <;> fail))) | (first | ((first | refine zX ((ref_zgood_c _ hz).re (congrArg B (decide_eq_true h1))) rfl ?_ ?_ | refine acallH_anyx ((ref_zgood_c _ hz).re (congrArg B (decide_eq_true h1))) ?_ ?_); (focus ((try simp (disch := omega) only [go_sem, wrap_n]) <;> (try omega) <;> fail))) | ((first | refine zX ((in_c t.session 1).re (congrArg B (decide_eq_true h2))) rfl ?_ ?_ | refine acallH_anyx ((in_c t.session 1).re (congrArg B (decide_eq_true h2))) ?_ ?_); (focus ((try simp (disch := omega) only [go_sem, wrap_n]) <;> (try omega) <;> fail))) | ((first | refine zX ((in_c t.version 0).re (congrArg B (decide_eq_true h3))) rfl ?_ ?_ | refine acallH_anyx ((in_c t.version 0).re (congrArg B (decide_eq_true h3))) ?_ ?_); (focus ((try simp (disch := omega) only [go_sem, wrap_n]) <;> (try omega) <;> fail))) | ((first | refine zX ((in_c t.owner 0).re (congrArg B (decide_eq_true h4))) rfl ?_ ?_ | refine acallH_anyx ((in_c t.owner 0).re (congrArg B (decide_eq_true h4))) ?_ ?_); (focus ((try simp (disch := omega) only [go_sem, wrap_n]) <;> (try omega) <;> fail))) | ((first | refine zX (ref_good_c t.path hp) rfl ?_ ?_ | refine acallH_anyx (ref_good_c t.path hp) ?_ ?_); (focus ((try simp (disch := omega) only [go_sem, wrap_n]) <;> (try omega) <;> fail)))) | ((first | (with_reducible refine aunder_i ?_ ?_ <;> intro hg) | with_reducible intro hg) <;> (first | (exfalso; simp at hg; done) | (have hg' := hg; (try simp only [hcs, beq_iff_eq, ge_iff_le, gt_iff_lt] at hg'); (try simp only [hg]))))) <;> (try simp (disch := omega) only [go_sem, wrap_n]) <;> (repeat' with_reducible refine And.intro ?_ ?_) <;> (try (with_reducible refine hK _ ?_; clear hK K)))
| omega)
  all_goals first | omega | skip
  all_goals first
    | (rw [if_pos (by simp_all [badT, or_assoc])]; (refine zF rfl ?_ ?_ ?_ ?_; (iterate 3 (focus ((try simp (disch := omega) only [go_sem, wrap_n]) <;> (try omega) <;> fail))); (try simp (disch := omega) only [go_sem, wrap_n, I, B, S, inj, List.cons.injEq, and_true, true_and, and_self])); done)
    | (rw [if_neg (by simp_all [badT, or_assoc])]; (refine zF rfl ?_ ?_ ?_ ?_; (iterate 3 (focus ((try simp (disch := omega) only [go_sem, wrap_n]) <;> (try omega) <;> fail))); (try simp (disch := omega) only [go_sem, wrap_n, I, B, S, inj, List.cons.injEq, and_true, true_and, and_self])); done)
    | trace_state
end Go.Proofs.YtmpfhalheaeibaaDoor
namespace Go.Proofs.YtmpfhalheaeibaaDoor
set_option linter.unusedVariables false
set_option linter.unusedSimpArgs false
open Go Go.RowKit
set_option maxRecDepth 100000
set_option linter.unusedSimpArgs false
theorem arith1 (i : Nat) : ((i : Int) + 1).toNat = i + 1 := by omega
theorem arith2 (i n : Nat) (h : i ≤ n) : ((n : Int) - i).toNat = n - i := by omega
theorem arith3 (i n : Nat) (h : i ≤ n + 1) : ((n : Int) + 1 - i).toNat = n + 1 - i := by omega
theorem arith4 (i n : Nat) (h : i ≤ n + 1) : ((n : Int) + 1 - i) = ((n + 1 - i : Nat) : Int) := by omega
theorem erase_eq {α : Type} (R : List α) (i : Nat) : R.eraseIdx i = R.take i ++ R.drop (i + 1) := List.eraseIdx_eq_take_drop_succ R i
theorem del_rows {α : Type} {R junk X z t : List α} {i q m : Nat} (h : i < R.length) (hq : q = R.length - 1) (hm : m = R.length - (i + 1)) :
    List.take q (List.take q (List.take i (R ++ junk) ++ List.take m (List.drop (i + 1) (R ++ junk)) ++ X) ++ z ++ t) = R.eraseIdx i := by
  have e1 : List.take i (R ++ junk) = R.take i := List.take_append_of_le_length (by omega)
  have e2 : List.take m (List.drop (i + 1) (R ++ junk)) = R.drop (i + 1) := by
    rw [List.drop_append_of_le_length (by omega), hm]
    have : R.length - (i + 1) = (R.drop (i + 1)).length := by simp
    rw [this, List.take_append_of_le_length (Nat.le_refl _), List.take_length]
  have e3 : (R.take i ++ R.drop (i + 1)).length = q := by simp; omega
  rw [e1, e2, erase_eq]
  have e4 : List.take q (R.take i ++ R.drop (i + 1) ++ X) = R.take i ++ R.drop (i + 1) := by
    rw [← e3, List.take_append_of_le_length (Nat.le_refl _), List.take_length]
  rw [e4, List.append_assoc, ← e3, List.take_append_of_le_length (Nat.le_refl _), List.take_length]
theorem del_last {α : Type} {R junk X z t : List α} {i q : Nat} (h : i + 1 = R.length) (hq : q = i) :
    List.take q (List.take q (List.take i (R ++ junk) ++ X) ++ z ++ t) = R.eraseIdx i := by
  subst hq
  have e1 : List.take q (R ++ junk) = R.take q := List.take_append_of_le_length (by omega)
  have e3 : (R.take q).length = q := by simp; omega
  have e2 : R.drop (q + 1) = [] := List.drop_eq_nil_of_le (by omega)
  have e4 : List.take q (R.take q ++ X) = R.take q := by
    have := List.take_append_of_le_length (l₁ := R.take q) (l₂ := X) (i := q) (by omega)
    rw [this, List.take_of_length_le (by omega)]
  rw [e1, e4, erase_eq, e2, List.append_nil, List.append_assoc]
  have := List.take_append_of_le_length (l₁ := R.take q) (l₂ := z ++ t) (i := q) (by omega)
  rw [this, List.take_of_length_le (by omega)]
theorem ins_eq {α : Type} (R : List α) (i : Nat) (x : α) (h : i ≤ R.length) : R.insertIdx i x = R.take i ++ x :: R.drop i := by
  induction R generalizing i with
  | nil => have : i = 0 := by simpa using h
           subst this; rfl
  | cons a R ih =>
    cases i with
    | zero => rfl
    | succ i => simp only [List.insertIdx_succ_cons, List.take_succ_cons, List.drop_succ_cons, List.cons_append]; rw [ih i (by simpa using h)]
theorem erase_map {α β : Type} (f : α → β) (l : List α) (i : Nat) : (l.map f).eraseIdx i = (l.eraseIdx i).map f := by rw [erase_eq, erase_eq, List.map_append, List.map_take, List.map_drop]
theorem erase_len {α : Type} (l : List α) (i : Nat) (h : i < l.length) : (l.eraseIdx i).length = l.length - 1 := List.length_eraseIdx_of_lt h
theorem getD_ins {α : Type} (l : List α) (i : Nat) (x z : α) (h : i ≤ l.length) : (l.insertIdx i x).getD i z = x := by
  rw [ins_eq _ _ _ h, List.getD_eq_getElem?_getD, List.getElem?_append_right (by rw [List.length_take]; omega)]
  have : i - (l.take i).length = 0 := by rw [List.length_take]; omega
  rw [this]; rfl
theorem ins_len {α : Type} (l : List α) (i : Nat) (x : α) (h : i ≤ l.length) : (l.insertIdx i x).length = l.length + 1 := by rw [ins_eq _ _ _ h]; simp; omega
theorem ins_get_lt {α : Type} (l : List α) (i k : Nat) (x z : α) (h : i ≤ l.length) (hk : k < i) : (l.insertIdx i x).getD k z = l.getD k z := by
  rw [ins_eq _ _ _ h, List.getD_eq_getElem?_getD, List.getElem?_append_left (by rw [List.length_take]; omega), List.getElem?_take_of_lt hk, List.getD_eq_getElem?_getD]
theorem take_map_snoc {α β : Type} (f : α → β) (l : List α) (x : α) : (List.map f (l ++ [x])).take (l.length + 1) = List.map f (l ++ [x]) := List.take_of_length_le (by simp)
theorem take_exact {α : Type} {A B : List α} {n : Nat} (h : n = A.length) : (A ++ B).take n = A := by subst h; simp
theorem drop_exact {α : Type} {A B : List α} {n : Nat} (h : n = A.length) : (A ++ B).drop n = B := by subst h; simp
theorem mid_rows {α : Type} {R J : List α} {i a b : Nat} (h : i ≤ R.length) (ha : a = R.length - i) (hb : R.length - i ≤ b) : List.take a (List.take b (List.drop i (R ++ J))) = R.drop i := by
  rw [List.take_take, Nat.min_eq_left (by omega), List.drop_append_of_le_length h]
  exact take_exact (by simp; omega)
theorem ins_in {α : Type} {R J X : List α} {r : α} {i a b c d : Nat} (h : i < R.length) (ha : a = R.length - i) (hb : R.length - i ≤ b) (hc : 1 ≤ c) (hd : d = 1) :
    List.take (R.length + 1) (List.take i (List.take (i + 1) (R ++ J) ++ List.take a (List.take b (List.drop i (R ++ J))) ++ X) ++ List.take c [r] ++ List.drop (i + d) (List.take (i + 1) (R ++ J) ++ List.take a (List.take b (List.drop i (R ++ J))) ++ X)) = R.insertIdx i r := by
  subst hd
  have e1 : List.take (i + 1) (R ++ J) = R.take (i + 1) := List.take_append_of_le_length (by omega)
  have e2 : (R.take (i + 1)).length = i + 1 := by simp; omega
  have e3 : List.take c [r] = [r] := List.take_of_length_le (by simpa using hc)
  rw [mid_rows (by omega) ha hb, e1, e3, List.append_assoc (List.take (i + 1) R), drop_exact (n := i + 1) e2.symm, ins_eq _ _ _ (by omega)]
  have e4 : List.take i (List.take (i + 1) R ++ (List.drop i R ++ X)) = R.take i := by
    rw [List.take_append_of_le_length (by rw [e2]; omega), List.take_take, Nat.min_eq_left (by omega)]
  rw [e4]
  have : List.take i R ++ [r] ++ (List.drop i R ++ X) = (List.take i R ++ r :: List.drop i R) ++ X := by simp
  rw [this]
  exact take_exact (by simp; omega)
theorem ins_grow {α : Type} {R J : List α} {r z : α} {i m c d e f g : Nat} (h : i < R.length) (hm : m = R.length + 1 - i) (hc : 1 ≤ c) (hd : d = 1) (he : e = R.length - i) (hf : R.length - i ≤ f) (hg : g = R.length + 1) :
    List.take (i + 1) (List.take i (List.take i (R ++ J) ++ List.replicate m z) ++ List.take c [r] ++ List.drop (i + d) (List.take i (R ++ J) ++ List.replicate m z)) ++ List.take e (List.take f (List.drop i (R ++ J))) ++
      List.drop g (List.take i (List.take i (R ++ J) ++ List.replicate m z) ++ List.take c [r] ++ List.drop (i + d) (List.take i (R ++ J) ++ List.replicate m z)) = R.insertIdx i r := by
  subst hd; subst hm; subst hg
  have e1 : List.take i (R ++ J) = R.take i := List.take_append_of_le_length (by omega)
  have e2 : (R.take i).length = i := by simp; omega
  have e3 : List.take c [r] = [r] := List.take_of_length_le (by simpa using hc)
  rw [mid_rows (by omega) he hf, e1, e3, take_exact (n := i) e2.symm, ins_eq _ _ _ (by omega)]
  have e4 : (List.take i R ++ [r]).length = i + 1 := by simp; omega
  have e5 : List.drop (R.length + 1) (List.take i R ++ [r] ++ List.drop (i + 1) (List.take i R ++ List.replicate (R.length + 1 - i) z)) = [] := List.drop_eq_nil_of_le (by simp; omega)
  rw [e5, take_exact e4.symm, List.append_nil, List.append_assoc]; rfl
theorem delNode_c (rs : List (List DV)) (i : Nat) (hi : i < rs.length) (hb : rs.length * 88 ≤ 140737488351232) : acall Tryd.prog [.rows 9 rs] 153 [.osl 0 9 0 rs.length, I i, I ((i : Int) + 1)] (outs (.osl 1 9 0 (rs.length - 1)) [.dead, .rows 9 (rs.eraseIdx i)]) := by
  refine acall_of tabOk Tryd.func153 rfl (by kernel_rfl) (by simp [Tryd.ntmps153]) ?_; simp only [Tryd.ntmps153, Tryd.results153, List.toList_toArray, apar, List.length_nil, List.length_cons, Nat.reduceAdd]
  refine AWP.reveal 0 (k := 0) (sz := 9) (off := 0) (n := rs.length) rfl (by omega) rfl (by decide) fun junk hj hjl => ?_
  simp only [go_sem, Nat.zero_add] at hjl ⊢
  by_cases hN : i + 1 < rs.length + junk.length
  · (repeat' first
  | (with_reducible refine AR.f ?_)
  | refine blkA_x (by decide) ?_
  | (with_reducible refine AWP.cond rfl ?_ ?_ <;> intro hc <;> (try simp only [hcs, beq_iff_eq, ge_iff_le, gt_iff_lt] at hc))
  | ((first | ((first | (with_reducible first | refine zR ?_ | refine zQ (by decide +kernel) ?_ | refine zD (by decide +kernel) ?_ | refine zE (by decide +kernel) ?_ | refine zG (by decide +kernel) ?_)); intro K hK) | ((first | (with_reducible refine aunder_i ?_ ?_ <;> intro hg) | with_reducible intro hg) <;> (first | (exfalso; simp at hg; done) | (have hg' := hg; (try simp only [hcs, beq_iff_eq, ge_iff_le, gt_iff_lt] at hg'); (try simp only [hg]))))) <;> (try simp (disch := omega) only [go_sem, wrap_n, if_pos, if_neg, arith1, arith2, List.length_take, List.length_drop, Nat.min_eq_left]) <;> (repeat' with_reducible refine And.intro ?_ ?_) <;> (try (with_reducible refine hK _ ?_; clear hK K)))
  | omega)
    refine aend_out (by first | exact .inl rfl | exact .inr rfl) (by simp (disch := omega) only [go_sem]) ?_
    simp (disch := omega) only [go_sem]
    rw [show i + (rs.length - (i + 1)) = rs.length - 1 from by omega]
    refine AOut.moved rfl (AOut.done rfl ?_)
    rw [del_rows hi rfl rfl]; rfl
  · (repeat' first
  | (with_reducible refine AR.f ?_)
  | refine blkA_x (by decide) ?_
  | (with_reducible refine AWP.cond rfl ?_ ?_ <;> intro hc <;> (try simp only [hcs, beq_iff_eq, ge_iff_le, gt_iff_lt] at hc))
  | ((first | ((first | (with_reducible first | refine zR ?_ | refine zQ (by decide +kernel) ?_ | refine zD (by decide +kernel) ?_ | refine zE (by decide +kernel) ?_ | refine zG (by decide +kernel) ?_)); intro K hK) | ((first | (with_reducible refine aunder_i ?_ ?_ <;> intro hg) | with_reducible intro hg) <;> (first | (exfalso; simp at hg; done) | (have hg' := hg; (try simp only [hcs, beq_iff_eq, ge_iff_le, gt_iff_lt] at hg'); (try simp only [hg]))))) <;> (try simp (disch := omega) only [go_sem, wrap_n, if_pos, if_neg, arith1, arith2, List.length_take, List.length_drop, Nat.min_eq_left]) <;> (repeat' with_reducible refine And.intro ?_ ?_) <;> (try (with_reducible refine hK _ ?_; clear hK K)))
  | omega)
    refine aend_out (by first | exact .inl rfl | exact .inr rfl) (by simp (disch := omega) only [go_sem]) ?_
    simp (disch := omega) only [go_sem]
    rw [show i + 0 = rs.length - 1 from by omega]
    refine AOut.moved rfl (AOut.done rfl ?_)
    rw [del_last (by omega) (by omega)]; rfl
set_option maxHeartbeats 1000000 in
theorem insNode_c (rs : List (List DV)) (r : List DV) (i : Nat) (hi : i ≤ rs.length) (hb : (rs.length + 1) * 88 ≤ 140737488351232) :
    acall Tryd.prog [.rows 9 rs, .rows 9 [r]] 155 [.osl 0 9 0 rs.length, I i, .osl 1 9 0 1] (outs (.osl 2 9 0 (rs.length + 1)) [.dead, .dead, .rows 9 (rs.insertIdx i r)]) := by
  refine acall_of tabOk Tryd.func155 rfl (by kernel_rfl) (by simp [Tryd.ntmps155]) ?_; simp only [Tryd.ntmps155, Tryd.results155, List.toList_toArray, apar, List.length_nil, List.length_cons, Nat.reduceAdd]
  by_cases hin : i = rs.length
  · subst hin
    (repeat' first
  | (with_reducible refine AR.f ?_)
  | refine blkA_x (by decide) ?_
  | (with_reducible refine AWP.cond rfl ?_ ?_ <;> intro hc <;> (try simp only [hcs, beq_iff_eq, ge_iff_le, gt_iff_lt] at hc))
  | ((first | ((first | (with_reducible first | refine zR ?_ | refine zQ (by decide +kernel) ?_ | refine zD (by decide +kernel) ?_ | refine zE (by decide +kernel) ?_ | refine zG (by decide +kernel) ?_)); intro K hK) | ((first | (with_reducible refine aunder_i ?_ ?_ <;> intro hg) | with_reducible intro hg) <;> (first | (exfalso; simp at hg; done) | (have hg' := hg; (try simp only [hcs, beq_iff_eq, ge_iff_le, gt_iff_lt] at hg'); (try simp only [hg]))))) <;> (try simp (disch := omega) only [go_sem, wrap_n, if_pos, if_neg, arith1, arith2]) <;> (repeat' with_reducible refine And.intro ?_ ?_) <;> (try (with_reducible refine hK _ ?_; clear hK K)))
  | omega)
    refine aend_out (by first | exact .inl rfl | exact .inr rfl) (by simp (disch := omega) only [go_sem]) ?_
    simp (disch := omega) only [go_sem]
    refine AOut.framed [0, 1, 2] rfl (by simp) (by decide) (by intro k hk; match k, hk with | 0, _ => rfl | 1, _ => rfl) ⟨rfl, by simp [inV]⟩ ?_ (AOut.done (hp := [.dead, .dead, .rows 9 (List.take rs.length rs ++ [r])]) rfl ?_)
    · simp only [go_sem]
    · rw [ins_eq _ _ _ (Nat.le_refl _), List.drop_length]
  refine AWP.reveal 0 (k := 0) (sz := 9) (off := 0) (n := rs.length) rfl (by omega) rfl (by decide) fun junk hj hjl => ?_
  simp only [go_sem, Nat.zero_add] at hjl ⊢
  by_cases hN : rs.length + 1 ≤ rs.length + junk.length
  · (repeat' first
  | (with_reducible refine AR.f ?_)
  | refine blkA_x (by decide) ?_
  | (with_reducible refine AWP.cond rfl ?_ ?_ <;> intro hc <;> (try simp only [hcs, beq_iff_eq, ge_iff_le, gt_iff_lt] at hc))
  | ((first | ((first | (with_reducible first | refine zR ?_ | refine zQ (by decide +kernel) ?_ | refine zD (by decide +kernel) ?_ | refine zE (by decide +kernel) ?_ | refine zG (by decide +kernel) ?_)); intro K hK) | refine acallHK_ext (ext_overlaps Tryd.func175 (by kernel_rfl) (by kernel_rfl) (by kernel_rfl) (tS := 41) (tR := 4) (e := 57) (by kernel_rfl) tabOk (by simp only [T_41, ty41]) (by simp [T_57, ty57]) (k := 1) (k' := 0) rfl (.inl ⟨rfl, rfl⟩) rfl (.inr ⟨rfl, rfl⟩) (by decide) (by omega) (by omega) (by decide)) ?_ | ((first | (with_reducible refine aunder_i ?_ ?_ <;> intro hg) | with_reducible intro hg) <;> (first | (exfalso; simp at hg; done) | (have hg' := hg; (try simp only [hcs, beq_iff_eq, ge_iff_le, gt_iff_lt] at hg'); (try simp only [hg]))))) <;> (try simp (disch := omega) only [go_sem, wrap_n, if_pos, if_neg, arith1, arith2, List.length_take, List.length_drop, Nat.min_eq_left]) <;> (repeat' with_reducible refine And.intro ?_ ?_) <;> (try (with_reducible refine hK _ ?_; clear hK K)))
  | omega)
    refine aend_out (by first | exact .inl rfl | exact .inr rfl) (by simp (disch := omega) only [go_sem]) ?_
    simp (disch := omega) only [go_sem]
    refine AOut.moved rfl ?_
    refine AOut.framed [0, 1, 2] rfl (by simp) (by decide) (by intro k hk; match k, hk with | 0, _ => rfl | 1, _ => rfl) ⟨rfl, by simp [inV]⟩ ?_ (AOut.done (hp := [.dead, .dead, .rows 9 (rs.insertIdx i r)]) rfl rfl)
    rw [ins_in (by omega) (by omega) (by omega) (by omega) (by omega)]
    simp only [go_sem]
  · (repeat' first
  | (with_reducible refine AR.f ?_)
  | refine blkA_x (by decide) ?_
  | (with_reducible refine AWP.cond rfl ?_ ?_ <;> intro hc <;> (try simp only [hcs, beq_iff_eq, ge_iff_le, gt_iff_lt] at hc))
  | ((first | ((first | (with_reducible first | refine zR ?_ | refine zQ (by decide +kernel) ?_ | refine zD (by decide +kernel) ?_ | refine zE (by decide +kernel) ?_ | refine zG (by decide +kernel) ?_)); intro K hK) | ((first | (with_reducible refine aunder_i ?_ ?_ <;> intro hg) | with_reducible intro hg) <;> (first | (exfalso; simp at hg; done) | (have hg' := hg; (try simp only [hcs, beq_iff_eq, ge_iff_le, gt_iff_lt] at hg'); (try simp only [hg]))))) <;> (try simp (disch := omega) only [go_sem, wrap_n, if_pos, if_neg, arith1, arith2, arith3, arith4, List.length_take, List.length_drop, Nat.min_eq_left]) <;> (repeat' with_reducible refine And.intro ?_ ?_) <;> (try (with_reducible refine hK _ ?_; clear hK K)))
  | omega)
    refine aend_out (by first | exact .inl rfl | exact .inr rfl) (by simp (disch := omega) only [go_sem]) ?_
    simp (disch := omega) only [go_sem]
    rw [ins_grow (by omega) rfl (by omega) (by omega) (by omega) (by omega) (by omega), show i + (rs.length + 1 - i) = rs.length + 1 from by omega]
    refine AOut.framed [0, 1, 2] rfl (by simp) (by decide) (by intro k hk; match k, hk with | 0, _ => rfl | 1, _ => rfl) ⟨rfl, by simp [inV]⟩ ?_ (AOut.done (hp := [.dead, .dead, .rows 9 (rs.insertIdx i r)]) rfl rfl)
    simp only [go_sem]
theorem delInt_c (rs : List (List DV)) (i : Nat) (hi : i < rs.length) (hb : rs.length * 8 ≤ 140737488351232) : acall Tryd.prog [.rows 1 rs] 106 [.osl 0 1 0 rs.length, I i, I ((i : Int) + 1)] (outs (.osl 1 1 0 (rs.length - 1)) [.dead, .rows 1 (rs.eraseIdx i)]) := by
  refine acall_of tabOk Tryd.func106 rfl (by kernel_rfl) (by simp [Tryd.ntmps106]) ?_; simp only [Tryd.ntmps106, Tryd.results106, List.toList_toArray, apar, List.length_nil, List.length_cons, Nat.reduceAdd]
  refine AWP.reveal 0 (k := 0) (sz := 1) (off := 0) (n := rs.length) rfl (by omega) rfl (by decide) fun junk hj hjl => ?_
  simp only [go_sem, Nat.zero_add] at hjl ⊢
  by_cases hN : i + 1 < rs.length + junk.length
  · (repeat' first
  | (with_reducible refine AR.f ?_)
  | refine blkA_x (by decide) ?_
  | (with_reducible refine AWP.cond rfl ?_ ?_ <;> intro hc <;> (try simp only [hcs, beq_iff_eq, ge_iff_le, gt_iff_lt] at hc))
  | ((first | ((first | (with_reducible first | refine zR ?_ | refine zQ (by decide +kernel) ?_ | refine zD (by decide +kernel) ?_ | refine zE (by decide +kernel) ?_ | refine zG (by decide +kernel) ?_)); intro K hK) | ((first | (with_reducible refine aunder_i ?_ ?_ <;> intro hg) | with_reducible intro hg) <;> (first | (exfalso; simp at hg; done) | (have hg' := hg; (try simp only [hcs, beq_iff_eq, ge_iff_le, gt_iff_lt] at hg'); (try simp only [hg]))))) <;> (try simp (disch := omega) only [go_sem, wrap_n, if_pos, if_neg, arith1, arith2, List.length_take, List.length_drop, Nat.min_eq_left]) <;> (repeat' with_reducible refine And.intro ?_ ?_) <;> (try (with_reducible refine hK _ ?_; clear hK K)))
  | omega)
    refine aend_out (by first | exact .inl rfl | exact .inr rfl) (by simp (disch := omega) only [go_sem]) ?_
    simp (disch := omega) only [go_sem]
    rw [show i + (rs.length - (i + 1)) = rs.length - 1 from by omega]
    refine AOut.moved rfl (AOut.done rfl ?_)
    rw [del_rows hi rfl rfl]; rfl
  · (repeat' first
  | (with_reducible refine AR.f ?_)
  | refine blkA_x (by decide) ?_
  | (with_reducible refine AWP.cond rfl ?_ ?_ <;> intro hc <;> (try simp only [hcs, beq_iff_eq, ge_iff_le, gt_iff_lt] at hc))
  | ((first | ((first | (with_reducible first | refine zR ?_ | refine zQ (by decide +kernel) ?_ | refine zD (by decide +kernel) ?_ | refine zE (by decide +kernel) ?_ | refine zG (by decide +kernel) ?_)); intro K hK) | ((first | (with_reducible refine aunder_i ?_ ?_ <;> intro hg) | with_reducible intro hg) <;> (first | (exfalso; simp at hg; done) | (have hg' := hg; (try simp only [hcs, beq_iff_eq, ge_iff_le, gt_iff_lt] at hg'); (try simp only [hg]))))) <;> (try simp (disch := omega) only [go_sem, wrap_n, if_pos, if_neg, arith1, arith2, List.length_take, List.length_drop, Nat.min_eq_left]) <;> (repeat' with_reducible refine And.intro ?_ ?_) <;> (try (with_reducible refine hK _ ?_; clear hK K)))
  | omega)
    refine aend_out (by first | exact .inl rfl | exact .inr rfl) (by simp (disch := omega) only [go_sem]) ?_
    simp (disch := omega) only [go_sem]
    rw [show i + 0 = rs.length - 1 from by omega]
    refine AOut.moved rfl (AOut.done rfl ?_)
    rw [del_last (by omega) (by omega)]; rfl
set_option maxHeartbeats 1000000 in
theorem insInt_c (rs : List (List DV)) (r : List DV) (i : Nat) (hi : i ≤ rs.length) (hb : (rs.length + 1) * 8 ≤ 140737488351232) :
    acall Tryd.prog [.rows 1 rs, .rows 1 [r]] 105 [.osl 0 1 0 rs.length, I i, .osl 1 1 0 1] (outs (.osl 2 1 0 (rs.length + 1)) [.dead, .dead, .rows 1 (rs.insertIdx i r)]) := by
  refine acall_of tabOk Tryd.func105 rfl (by kernel_rfl) (by simp [Tryd.ntmps105]) ?_; simp only [Tryd.ntmps105, Tryd.results105, List.toList_toArray, apar, List.length_nil, List.length_cons, Nat.reduceAdd]
  by_cases hin : i = rs.length
  · subst hin
    (repeat' first
  | (with_reducible refine AR.f ?_)
  | refine blkA_x (by decide) ?_
  | (with_reducible refine AWP.cond rfl ?_ ?_ <;> intro hc <;> (try simp only [hcs, beq_iff_eq, ge_iff_le, gt_iff_lt] at hc))
  | ((first | ((first | (with_reducible first | refine zR ?_ | refine zQ (by decide +kernel) ?_ | refine zD (by decide +kernel) ?_ | refine zE (by decide +kernel) ?_ | refine zG (by decide +kernel) ?_)); intro K hK) | ((first | (with_reducible refine aunder_i ?_ ?_ <;> intro hg) | with_reducible intro hg) <;> (first | (exfalso; simp at hg; done) | (have hg' := hg; (try simp only [hcs, beq_iff_eq, ge_iff_le, gt_iff_lt] at hg'); (try simp only [hg]))))) <;> (try simp (disch := omega) only [go_sem, wrap_n, if_pos, if_neg, arith1, arith2]) <;> (repeat' with_reducible refine And.intro ?_ ?_) <;> (try (with_reducible refine hK _ ?_; clear hK K)))
  | omega)
    refine aend_out (by first | exact .inl rfl | exact .inr rfl) (by simp (disch := omega) only [go_sem]) ?_
    simp (disch := omega) only [go_sem]
    refine AOut.framed [0, 1, 2] rfl (by simp) (by decide) (by intro k hk; match k, hk with | 0, _ => rfl | 1, _ => rfl) ⟨rfl, by simp [inV]⟩ ?_ (AOut.done (hp := [.dead, .dead, .rows 1 (List.take rs.length rs ++ [r])]) rfl ?_)
    · simp only [go_sem]
    · rw [ins_eq _ _ _ (Nat.le_refl _), List.drop_length]
  refine AWP.reveal 0 (k := 0) (sz := 1) (off := 0) (n := rs.length) rfl (by omega) rfl (by decide) fun junk hj hjl => ?_
  simp only [go_sem, Nat.zero_add] at hjl ⊢
  by_cases hN : rs.length + 1 ≤ rs.length + junk.length
  · (repeat' first
  | (with_reducible refine AR.f ?_)
  | refine blkA_x (by decide) ?_
  | (with_reducible refine AWP.cond rfl ?_ ?_ <;> intro hc <;> (try simp only [hcs, beq_iff_eq, ge_iff_le, gt_iff_lt] at hc))
  | ((first | ((first | (with_reducible first | refine zR ?_ | refine zQ (by decide +kernel) ?_ | refine zD (by decide +kernel) ?_ | refine zE (by decide +kernel) ?_ | refine zG (by decide +kernel) ?_)); intro K hK) | refine acallHK_ext (ext_overlaps Tryd.func151 (by kernel_rfl) (by kernel_rfl) (by kernel_rfl) (tS := 42) (tR := 4) (e := 3) (by kernel_rfl) tabOk (by simp only [T_42, ty42]) (by simp [T_3, ty3]) (k := 1) (k' := 0) rfl (.inl ⟨rfl, rfl⟩) rfl (.inr ⟨rfl, rfl⟩) (by decide) (by omega) (by omega) (by decide)) ?_ | ((first | (with_reducible refine aunder_i ?_ ?_ <;> intro hg) | with_reducible intro hg) <;> (first | (exfalso; simp at hg; done) | (have hg' := hg; (try simp only [hcs, beq_iff_eq, ge_iff_le, gt_iff_lt] at hg'); (try simp only [hg]))))) <;> (try simp (disch := omega) only [go_sem, wrap_n, if_pos, if_neg, arith1, arith2, List.length_take, List.length_drop, Nat.min_eq_left]) <;> (repeat' with_reducible refine And.intro ?_ ?_) <;> (try (with_reducible refine hK _ ?_; clear hK K)))
  | omega)
    refine aend_out (by first | exact .inl rfl | exact .inr rfl) (by simp (disch := omega) only [go_sem]) ?_
    simp (disch := omega) only [go_sem]
    refine AOut.moved rfl ?_
    refine AOut.framed [0, 1, 2] rfl (by simp) (by decide) (by intro k hk; match k, hk with | 0, _ => rfl | 1, _ => rfl) ⟨rfl, by simp [inV]⟩ ?_ (AOut.done (hp := [.dead, .dead, .rows 1 (rs.insertIdx i r)]) rfl rfl)
    rw [ins_in (by omega) (by omega) (by omega) (by omega) (by omega)]
    simp only [go_sem]
  · (repeat' first
  | (with_reducible refine AR.f ?_)
  | refine blkA_x (by decide) ?_
  | (with_reducible refine AWP.cond rfl ?_ ?_ <;> intro hc <;> (try simp only [hcs, beq_iff_eq, ge_iff_le, gt_iff_lt] at hc))
  | ((first | ((first | (with_reducible first | refine zR ?_ | refine zQ (by decide +kernel) ?_ | refine zD (by decide +kernel) ?_ | refine zE (by decide +kernel) ?_ | refine zG (by decide +kernel) ?_)); intro K hK) | ((first | (with_reducible refine aunder_i ?_ ?_ <;> intro hg) | with_reducible intro hg) <;> (first | (exfalso; simp at hg; done) | (have hg' := hg; (try simp only [hcs, beq_iff_eq, ge_iff_le, gt_iff_lt] at hg'); (try simp only [hg]))))) <;> (try simp (disch := omega) only [go_sem, wrap_n, if_pos, if_neg, arith1, arith2, arith3, arith4, List.length_take, List.length_drop, Nat.min_eq_left]) <;> (repeat' with_reducible refine And.intro ?_ ?_) <;> (try (with_reducible refine hK _ ?_; clear hK K)))
  | omega)
    refine aend_out (by first | exact .inl rfl | exact .inr rfl) (by simp (disch := omega) only [go_sem]) ?_
    simp (disch := omega) only [go_sem]
    rw [ins_grow (by omega) rfl (by omega) (by omega) (by omega) (by omega) (by omega), show i + (rs.length + 1 - i) = rs.length + 1 from by omega]
    refine AOut.framed [0, 1, 2] rfl (by simp) (by decide) (by intro k hk; match k, hk with | 0, _ => rfl | 1, _ => rfl) ⟨rfl, by simp [inV]⟩ ?_ (AOut.done (hp := [.dead, .dead, .rows 1 (rs.insertIdx i r)]) rfl rfl)
    simp only [go_sem]
end Go.Proofs.YtmpfhalheaeibaaDoor
namespace Go.Proofs.YtmpfhalheaeibaaDoor
set_option linter.unusedVariables false
set_option linter.unusedSimpArgs false
open Go Go.RowKit
set_option maxRecDepth 100000
set_option linter.unusedSimpArgs false
def lacksT (t : ATree) (x : ATxn) (there : Int) : Int :=
  if there = 0 then 8 else if ¬ (getT t (splitP x.path).1.1).2 = 0 then (getT t (splitP x.path).1.1).2 else if ¬ (getT t (splitP x.path).1.1).1.stat.owner = 0 then 11
  else if ¬ x.owner = 0 ∧ ¬ x.owner = x.session then 12 else if 400 ≤ t.nodes.length then 6 else 0
theorem lacks_c (t : ATree) (x : ATxn) (there : Int) (h : t.nodes.length * 88 ≤ 140737488351232) (hp : okS x.path) (hr : Rises (pathsT t)) : acall Tryd.prog [] 148 [t.av, x.av, .d (.int .i64 there)] (ret (I (lacksT t x there))) := by
  unfold lacksT
  refine acall_of tabOk Tryd.func148 rfl (by kernel_rfl) (by simp [Tryd.ntmps148]) ?_; simp only [Tryd.ntmps148, Tryd.results148, List.toList_toArray, apar, List.length_nil, List.length_cons, Nat.reduceAdd]
  (repeat' first
| (with_reducible refine AR.f ?_)
| refine blkA_x (by decide) ?_
| (with_reducible refine AWP.cond rfl ?_ ?_ <;> intro hc <;> (try simp only [hcs, beq_iff_eq, ge_iff_le, gt_iff_lt] at hc))
| ((first | ((first | (with_reducible first | refine zR ?_ | refine zQ (by decide +kernel) ?_ | refine zD (by decide +kernel) ?_ | refine zE (by decide +kernel) ?_ | refine zG (by decide +kernel) ?_)); intro K hK) | ((first | refine zA (split_c x.path hp) ?_ ?_ ?_ ?_ ?_ | refine zA (getT_c t (splitP x.path).1.1 h hr) ?_ ?_ ?_ ?_ ?_); (focus exact rfl); (focus exact rfl); iterate 2 (focus ((try simp (disch := omega) only [go_sem, wrap_n]) <;> (try omega) <;> fail))) | ((first | refine zN (split_c x.path hp) rfl ?_ ?_ | refine zN (getT_c t (splitP x.path).1.1 h hr) rfl ?_ ?_); (focus ((try simp (disch := omega) only [go_sem, wrap_n]) <;> (try omega) <;> fail))) | (first | ((first | refine zX (split_c x.path hp) rfl ?_ ?_ | refine acallH_anyx (split_c x.path hp) ?_ ?_); (focus ((try simp (disch := omega) only [go_sem, wrap_n]) <;> (try omega) <;> fail))) | ((first | refine zX (getT_c t (splitP x.path).1.1 h hr) rfl ?_ ?_ | refine acallH_anyx (getT_c t (splitP x.path).1.1 h hr) ?_ ?_); (focus ((try simp (disch := omega) only [go_sem, wrap_n]) <;> (try omega) <;> fail)))) | ((first | (with_reducible refine aunder_i ?_ ?_ <;> intro hg) | with_reducible intro hg) <;> (first | (exfalso; simp at hg; done) | (have hg' := hg; (try simp only [hcs, beq_iff_eq, ge_iff_le, gt_iff_lt] at hg'); (try simp only [hg]))))) <;> (try simp (disch := omega) only [go_sem, wrap_n]) <;> (repeat' with_reducible refine And.intro ?_ ?_) <;> (try (with_reducible refine hK _ ?_; clear hK K)))
| omega)
  all_goals (refine zF rfl ?_ ?_ ?_ ?_; (iterate 3 (focus ((try simp (disch := omega) only [go_sem, wrap_n]) <;> (try omega) <;> fail))); (try simp (disch := omega) only [go_sem, wrap_n, I, B, S, inj, List.cons.injEq, and_true, true_and, and_self]))
  all_goals first | (simp [*]; done) | (simp only [*, not_true_eq_false, not_false_eq_true, if_true, if_false]; split <;> first | rfl | omega | (exfalso; rename_i h; revert h; simp_all; done) | (exfalso; omega)) | skip
def wrongT (t : ATree) (x : ATxn) : Int :=
  if goodTr t = false then 3 else if ¬ goodT x = 0 then goodT x else if x.zxid ≤ t.zxid then 13
  else if x.op = 1 then (if x.session ∈ t.sessions then 8 else 0)
  else if ¬ x.session ∈ t.sessions then 12
  else if x.op = 3 then lacksT t x (getT t x.path).2
  else if x.op = 4 then (if (getT t x.path).2 = 0 ∧ 0 < (getT t x.path).1.stat.kids then 10 else (getT t x.path).2)
  else if x.op = 5 then (if (getT t x.path).2 = 0 ∧ ¬ x.version = (getT t x.path).1.stat.version + 1 then 9 else (getT t x.path).2)
  else 0
set_option maxHeartbeats 4000000 in
theorem wrong_c (t : ATree) (x : ATxn) (hw : t.wf) (hp : okS x.path) (hd : okS x.data) : acall Tryd.prog [] 103 [t.av, x.av] (ret (I (wrongT t x))) := by
  obtain ⟨h1, h2⟩ : t.nodes.length * 88 ≤ 140737488351232 ∧ t.sessions.length * 8 ≤ 140737488351232 := ⟨hw.2.1.1, hw.2.2.1⟩
  unfold wrongT
  by_cases hg : goodTr t = true
  · have hr := good_rises hg
    have hri := good_sess hg
    have hv : -1000 ≤ (getT t x.path).1.stat.version ∧ (getT t x.path).1.stat.version ≤ 2147483647 := by
      unfold getT; split
      · rename_i hm
        have hpl := (place_found hr hm).1
        rw [pathsT_len] at hpl
        obtain ⟨b1, b2, _⟩ := ((goodTr_iff.1 hg).2.2.2 _ hpl).1
        exact ⟨by simp only; omega, b2⟩
      · exact ⟨by decide, by decide⟩
    refine acall_of tabOk Tryd.func103 rfl (by kernel_rfl) (by simp [Tryd.ntmps103]) ?_; simp only [Tryd.ntmps103, Tryd.results103, List.toList_toArray, apar, List.length_nil, List.length_cons, Nat.reduceAdd]
    (repeat' first
  | (with_reducible refine AR.f ?_)
  | refine blkA_x (by decide) ?_
  | (with_reducible refine AWP.cond rfl ?_ ?_ <;> intro hc <;> (try simp only [hcs, beq_iff_eq, ge_iff_le, gt_iff_lt] at hc))
  | ((first | ((first | (with_reducible first | refine zR ?_ | refine zQ (by decide +kernel) ?_ | refine zD (by decide +kernel) ?_ | refine zE (by decide +kernel) ?_ | refine zG (by decide +kernel) ?_)); intro K hK) | ((first | refine zA ((tgood_c t hw).re (congrArg B hg)) ?_ ?_ ?_ ?_ ?_ | refine zA (wgood_c x hp hd) ?_ ?_ ?_ ?_ ?_ | refine zA (open_c t x.session h2 hri) ?_ ?_ ?_ ?_ ?_ | refine zA (getT_c t x.path h1 hr) ?_ ?_ ?_ ?_ ?_); (focus exact rfl); (focus exact rfl); iterate 2 (focus ((try simp (disch := omega) only [go_sem, wrap_n]) <;> (try omega) <;> fail))) | ((first | refine acallH_sc (lacks_c t x _ h1 hp hr) rfl rfl ?_ ?_ ?_ | refine acallQ_sc (lacks_c t x _ h1 hp hr) rfl rfl ?_ ?_ ?_); iterate 2 (focus ((try simp (disch := omega) only [go_sem, wrap_n]) <;> (try omega) <;> fail))) | ((first | refine zN ((tgood_c t hw).re (congrArg B hg)) rfl ?_ ?_ | refine zN (wgood_c x hp hd) rfl ?_ ?_ | refine zN (open_c t x.session h2 hri) rfl ?_ ?_ | refine zN (getT_c t x.path h1 hr) rfl ?_ ?_ | refine zN (lacks_c t x _ h1 hp hr) rfl ?_ ?_); (focus ((try simp (disch := omega) only [go_sem, wrap_n]) <;> (try omega) <;> fail))) | (first | ((first | refine zX ((tgood_c t hw).re (congrArg B hg)) rfl ?_ ?_ | refine acallH_anyx ((tgood_c t hw).re (congrArg B hg)) ?_ ?_); (focus ((try simp (disch := omega) only [go_sem, wrap_n]) <;> (try omega) <;> fail))) | ((first | refine zX (wgood_c x hp hd) rfl ?_ ?_ | refine acallH_anyx (wgood_c x hp hd) ?_ ?_); (focus ((try simp (disch := omega) only [go_sem, wrap_n]) <;> (try omega) <;> fail))) | ((first | refine zX (open_c t x.session h2 hri) rfl ?_ ?_ | refine acallH_anyx (open_c t x.session h2 hri) ?_ ?_); (focus ((try simp (disch := omega) only [go_sem, wrap_n]) <;> (try omega) <;> fail))) | ((first | refine zX (getT_c t x.path h1 hr) rfl ?_ ?_ | refine acallH_anyx (getT_c t x.path h1 hr) ?_ ?_); (focus ((try simp (disch := omega) only [go_sem, wrap_n]) <;> (try omega) <;> fail))) | ((first | refine zX (lacks_c t x _ h1 hp hr) rfl ?_ ?_ | refine acallH_anyx (lacks_c t x _ h1 hp hr) ?_ ?_); (focus ((try simp (disch := omega) only [go_sem, wrap_n]) <;> (try omega) <;> fail)))) | ((first | (with_reducible refine aunder_i ?_ ?_ <;> intro hg) | with_reducible intro hg) <;> (first | (exfalso; simp at hg; done) | (have hg' := hg; (try simp only [hcs, beq_iff_eq, ge_iff_le, gt_iff_lt] at hg'); (try simp only [hg]))))) <;> (try simp (disch := omega) only [go_sem, wrap_n]) <;> (repeat' with_reducible refine And.intro ?_ ?_) <;> (try (with_reducible refine hK _ ?_; clear hK K)))
  | omega)
    all_goals (refine zF rfl ?_ ?_ ?_ ?_; (iterate 3 (focus ((try simp (disch := omega) only [go_sem, wrap_n]) <;> (try omega) <;> fail))); (try simp (disch := omega) only [go_sem, wrap_n, I, B, S, inj, List.cons.injEq, and_true, true_and, and_self]))
    all_goals (repeat' split)
    all_goals first | rfl | (exfalso; omega) | (exfalso; simp_all; done)
  · have hg2 : goodTr t = false := by simpa using hg
    refine acall_of tabOk Tryd.func103 rfl (by kernel_rfl) (by simp [Tryd.ntmps103]) ?_; simp only [Tryd.ntmps103, Tryd.results103, List.toList_toArray, apar, List.length_nil, List.length_cons, Nat.reduceAdd]
    (repeat' first
  | (with_reducible refine AR.f ?_)
  | refine blkA_x (by decide) ?_
  | (with_reducible refine AWP.cond rfl ?_ ?_ <;> intro hc <;> (try simp only [hcs, beq_iff_eq, ge_iff_le, gt_iff_lt] at hc))
  | ((first | ((first | (with_reducible first | refine zR ?_ | refine zQ (by decide +kernel) ?_ | refine zD (by decide +kernel) ?_ | refine zE (by decide +kernel) ?_ | refine zG (by decide +kernel) ?_)); intro K hK) | ((first | refine zA ((tgood_c t hw).re (congrArg B hg2)) ?_ ?_ ?_ ?_ ?_); (focus exact rfl); (focus exact rfl); iterate 2 (focus ((try simp (disch := omega) only [go_sem, wrap_n]) <;> (try omega) <;> fail))) | ((first | refine zN ((tgood_c t hw).re (congrArg B hg2)) rfl ?_ ?_); (focus ((try simp (disch := omega) only [go_sem, wrap_n]) <;> (try omega) <;> fail))) | (first | ((first | refine zX ((tgood_c t hw).re (congrArg B hg2)) rfl ?_ ?_ | refine acallH_anyx ((tgood_c t hw).re (congrArg B hg2)) ?_ ?_); (focus ((try simp (disch := omega) only [go_sem, wrap_n]) <;> (try omega) <;> fail)))) | ((first | (with_reducible refine aunder_i ?_ ?_ <;> intro hg) | with_reducible intro hg) <;> (first | (exfalso; simp at hg; done) | (have hg' := hg; (try simp only [hcs, beq_iff_eq, ge_iff_le, gt_iff_lt] at hg'); (try simp only [hg]))))) <;> (try simp (disch := omega) only [go_sem, wrap_n]) <;> (repeat' with_reducible refine And.intro ?_ ?_) <;> (try (with_reducible refine hK _ ?_; clear hK K)))
  | omega)
    all_goals (refine zF rfl ?_ ?_ ?_ ?_; (iterate 3 (focus ((try simp (disch := omega) only [go_sem, wrap_n]) <;> (try omega) <;> fail))); (try simp (disch := omega) only [go_sem, wrap_n, I, B, S, inj, List.cons.injEq, and_true, true_and, and_self]))
    rw [if_pos hg2]
theorem cloneNode_c (l : List ANode) (h : l.length * 88 ≤ 140737488351232) : acall Tryd.prog [] 149 [.d (.sl 9 (l.map ANode.row))] (own 9 (l.map ANode.row)) := by
  refine acall_of tabOk Tryd.func149 rfl (by kernel_rfl) (by simp [Tryd.ntmps149]) ?_; simp only [Tryd.ntmps149, Tryd.results149, List.toList_toArray, apar, List.length_nil, List.length_cons, Nat.reduceAdd]
  (repeat' first
| (with_reducible refine AR.f ?_)
| refine blkA_x (by decide) ?_
| (with_reducible refine AWP.cond rfl ?_ ?_ <;> intro hc <;> (try simp only [hcs, beq_iff_eq, ge_iff_le, gt_iff_lt] at hc))
| ((first | ((first | (with_reducible first | refine zR ?_ | refine zQ (by decide +kernel) ?_ | refine zD (by decide +kernel) ?_ | refine zE (by decide +kernel) ?_ | refine zG (by decide +kernel) ?_)); intro K hK) | ((first | (with_reducible refine aunder_i ?_ ?_ <;> intro hg) | with_reducible intro hg) <;> (first | (exfalso; simp at hg; done) | (have hg' := hg; (try simp only [hcs, beq_iff_eq, ge_iff_le, gt_iff_lt] at hg'); (try simp only [hg]))))) <;> (try simp (disch := omega) only [go_sem, wrap_n]) <;> (repeat' with_reducible refine And.intro ?_ ?_) <;> (try (with_reducible refine hK _ ?_; clear hK K)))
| omega)
  · have e : l.length = 0 := by
      rcases Nat.eq_zero_or_pos l.length with h0 | h0
      · exact h0
      · rw [hg h0] at hc; simp at hc
    rw [nil_of_len e]
    (refine aend_nil (by first | exact .inl rfl | exact .inr rfl) rfl ?_ ?_ <;> simp (disch := omega) only [go_sem, wrap_n])
  · (refine aend_own 1 (by first | exact .inl rfl | exact .inr rfl) rfl ?_ rfl rfl ?_ <;> (try simp (disch := omega) only [go_sem, wrap_n, List.length_map]))
theorem cloneInt_c (l : List Int) (h : l.length * 8 ≤ 140737488351232) : acall Tryd.prog [] 150 [.d (.sl 1 (l.map irow))] (own 1 (l.map irow)) := by
  refine acall_of tabOk Tryd.func150 rfl (by kernel_rfl) (by simp [Tryd.ntmps150]) ?_; simp only [Tryd.ntmps150, Tryd.results150, List.toList_toArray, apar, List.length_nil, List.length_cons, Nat.reduceAdd]
  (repeat' first
| (with_reducible refine AR.f ?_)
| refine blkA_x (by decide) ?_
| (with_reducible refine AWP.cond rfl ?_ ?_ <;> intro hc <;> (try simp only [hcs, beq_iff_eq, ge_iff_le, gt_iff_lt] at hc))
| ((first | ((first | (with_reducible first | refine zR ?_ | refine zQ (by decide +kernel) ?_ | refine zD (by decide +kernel) ?_ | refine zE (by decide +kernel) ?_ | refine zG (by decide +kernel) ?_)); intro K hK) | ((first | (with_reducible refine aunder_i ?_ ?_ <;> intro hg) | with_reducible intro hg) <;> (first | (exfalso; simp at hg; done) | (have hg' := hg; (try simp only [hcs, beq_iff_eq, ge_iff_le, gt_iff_lt] at hg'); (try simp only [hg]))))) <;> (try simp (disch := omega) only [go_sem, wrap_n]) <;> (repeat' with_reducible refine And.intro ?_ ?_) <;> (try (with_reducible refine hK _ ?_; clear hK K)))
| omega)
  · have e : l.length = 0 := by
      rcases Nat.eq_zero_or_pos l.length with h0 | h0
      · exact h0
      · rw [hg h0] at hc; simp at hc
    rw [nil_of_len e]
    (refine aend_nil (by first | exact .inl rfl | exact .inr rfl) rfl ?_ ?_ <;> simp (disch := omega) only [go_sem, wrap_n])
  · (refine aend_own 1 (by first | exact .inl rfl | exact .inr rfl) rfl ?_ rfl rfl ?_ <;> (try simp (disch := omega) only [go_sem, wrap_n, List.length_map]))
theorem copiedT_c (t : ATree) (h : t.nodes.length * 88 ≤ 140737488351232) (h2 : t.sessions.length * 8 ≤ 140737488351232) : acall Tryd.prog [] 104 [t.av] (outs (.agg [I t.zxid, .osl 0 9 0 t.nodes.length, .osl 1 1 0 t.sessions.length]) [.rows 9 (t.nodes.map ANode.row), .rows 1 (t.sessions.map irow)]) := by
  refine acall_of tabOk Tryd.func104 rfl (by kernel_rfl) (by simp [Tryd.ntmps104]) ?_; simp only [Tryd.ntmps104, Tryd.results104, List.toList_toArray, apar, List.length_nil, List.length_cons, Nat.reduceAdd]
  (repeat' first
| (with_reducible refine AR.f ?_)
| refine blkA_x (by decide) ?_
| (with_reducible refine AWP.cond rfl ?_ ?_ <;> intro hc <;> (try simp only [hcs, beq_iff_eq, ge_iff_le, gt_iff_lt] at hc))
| ((first | ((first | refine zP ((Plan.takes [0, 1, 3] (.fork 2 (Plan.takes [4, 6, 5, 7, 8, 9] .done) 4 (Plan.takes [2, 6, 5, 7, 8, 9] .done)))) (by decide +kernel) ?_ | (with_reducible first | refine zR ?_ | refine zQ (by decide +kernel) ?_ | refine zD (by decide +kernel) ?_ | refine zE (by decide +kernel) ?_ | refine zG (by decide +kernel) ?_)); intro K hK) | ((first | refine acallH_sc (cloneNode_c _ h) rfl rfl ?_ ?_ ?_ | refine acallQ_sc (cloneNode_c _ h) rfl rfl ?_ ?_ ?_ | refine acallH_sc (cloneInt_c _ h2) rfl rfl ?_ ?_ ?_ | refine acallQ_sc (cloneInt_c _ h2) rfl rfl ?_ ?_ ?_); iterate 2 (focus ((try simp (disch := omega) only [go_sem, wrap_n]) <;> (try omega) <;> fail))) | ((first | refine zN (cloneNode_c _ h) rfl ?_ ?_ | refine zN (cloneInt_c _ h2) rfl ?_ ?_); (focus ((try simp (disch := omega) only [go_sem, wrap_n]) <;> (try omega) <;> fail))) | (first | ((first | refine zX (cloneNode_c _ h) rfl ?_ ?_ | refine acallH_anyx (cloneNode_c _ h) ?_ ?_); (focus ((try simp (disch := omega) only [go_sem, wrap_n]) <;> (try omega) <;> fail))) | ((first | refine zX (cloneInt_c _ h2) rfl ?_ ?_ | refine acallH_anyx (cloneInt_c _ h2) ?_ ?_); (focus ((try simp (disch := omega) only [go_sem, wrap_n]) <;> (try omega) <;> fail)))) | ((first | (with_reducible refine aunder_i ?_ ?_ <;> intro hg) | with_reducible intro hg) <;> (first | (exfalso; simp at hg; done) | (have hg' := hg; (try simp only [hcs, beq_iff_eq, ge_iff_le, gt_iff_lt] at hg'); (try simp only [hg]))))) <;> (try simp (disch := omega) only [go_sem, wrap_n]) <;> (repeat' with_reducible refine And.intro ?_ ?_) <;> (try (with_reducible refine hK _ ?_; clear hK K)))
| omega)
  all_goals (refine aend_out (by first | exact .inl rfl | exact .inr rfl) ?_ ?_; (focus ((try simp (disch := omega) only [go_sem, wrap_n]) <;> fail)); simp (disch := omega) only [go_sem, wrap_n, true_and]; refine AOut.of_simp ?_ (AOut.same ⟨rfl, rfl⟩); refine SImp.frame [2, 3] rfl (by intro k hk; first | (simp at hk <;> (simp; omega)) | (simp only [List.mem_cons, List.not_mem_nil, or_false] at hk; simp only [List.length_cons, List.length_nil]; omega)) (by decide) (fun k hk => by first | omega | (rcases k with _ | _ | _ | _ | _ | _ | _ | _ | k <;> first | rfl | omega)) ?_ ?_ <;> simp (disch := omega) only [go_sem, wrap_n, true_or, or_true, true_and])
def bigN (n : ANode) : Bool := decide (2147483647 < n.stat.cversion)
def bigI (l : List ANode) : Int := if l.any bigN = true then (l.findIdx bigN : Nat) else -1
theorem bigI_yes {l : List ANode} {k : Nat} (h : k < l.length) (h1 : bigN (l.getD k default) = true) (h2 : ∀ j, j < k → bigN (l.getD j default) = false) : bigI l = (k : Nat) := by
  rw [List.getD_eq_getElem?_getD, List.getElem?_eq_getElem h] at h1
  have e : l.findIdx bigN = k := (List.findIdx_eq h).2 ⟨h1, fun j hj => by
    have := h2 j hj
    rwa [List.getD_eq_getElem?_getD, List.getElem?_eq_getElem (by omega)] at this⟩
  unfold bigI
  rw [if_pos (List.any_eq_true.2 ⟨l[k], List.getElem_mem h, h1⟩), e]
theorem bigI_no {l : List ANode} (h2 : ∀ j, j < l.length → bigN (l.getD j default) = false) : l.any bigN = false ∧ bigI l = -1 := by
  have e : l.any bigN = false := by
    rw [List.any_eq_false]
    intro x hx
    obtain ⟨j, hj, rfl⟩ := List.getElem_of_mem hx
    have := h2 j hj
    rw [List.getD_eq_getElem?_getD, List.getElem?_eq_getElem hj] at this
    simpa using this
  exact ⟨e, by unfold bigI; rw [e]; rfl⟩
theorem indexF_c (l : List ANode) (h : l.length * 88 ≤ 140737488351232) : acall Tryd.prog [] 156 [.d (.sl 9 (l.map ANode.row)), .d (.sc (.func (.func 110) #[] #[]))] (ret (I (bigI l))) := by
  refine acall_of tabOk Tryd.func156 rfl (by kernel_rfl) (by simp [Tryd.ntmps156]) ?_; simp only [Tryd.ntmps156, Tryd.results156, List.toList_toArray, apar, List.length_nil, List.length_cons, Nat.reduceAdd]
  (repeat' first
| (with_reducible refine AR.f ?_)
| refine blkA_x (by decide) ?_
| (with_reducible refine AWP.cond rfl ?_ ?_ <;> intro hc <;> (try simp only [hcs, beq_iff_eq, ge_iff_le, gt_iff_lt] at hc))
| ((first | ((first | (with_reducible first | refine zR ?_ | refine zQ (by decide +kernel) ?_ | refine zD (by decide +kernel) ?_ | refine zE (by decide +kernel) ?_ | refine zG (by decide +kernel) ?_)); intro K hK) | ((first | (with_reducible refine aunder_i ?_ ?_ <;> intro hg) | with_reducible intro hg) <;> (first | (exfalso; simp at hg; done) | (have hg' := hg; (try simp only [hcs, beq_iff_eq, ge_iff_le, gt_iff_lt] at hg'); (try simp only [hg]))))) <;> (try simp (disch := omega) only [go_sem, wrap_n]) <;> (repeat' with_reducible refine And.intro ?_ ?_) <;> (try (with_reducible refine hK _ ?_; clear hK K)))
| omega)
  refine AWP.loopS (ι := Nat) (fun k => k ≤ l.length ∧ ∀ j, j < k → bigN (l.getD j default) = false) (fun k => l.length - k) [0, 1, 7] (fun k => [(8, I k)]) 0 ?_ (by simp (disch := omega) only [go_sem, wrap_n, true_and]) ?_
  · exact ⟨by omega, fun j hj => by omega⟩
  intro k ⟨hk, hk2⟩
  simp only [go_sem]
  (repeat' first
| (with_reducible refine AR.f ?_)
| refine blkA_x (by decide) ?_
| (with_reducible refine AWP.cond rfl ?_ ?_ <;> intro hc <;> (try simp only [hcs, beq_iff_eq, ge_iff_le, gt_iff_lt] at hc))
| (refine acallHK_in fun Kk hKk => (acall_of tabOk Tryd.func110 rfl (by kernel_rfl) (by simp [Tryd.ntmps110]) ?_); simp only [Tryd.ntmps110, Tryd.results110, List.toList_toArray, apar, List.length_nil, List.length_cons, Nat.reduceAdd, List.length_append, List.length_set, go_sem])
| ((first | ((first | (with_reducible first | refine zR ?_ | refine zQ (by decide +kernel) ?_ | refine zD (by decide +kernel) ?_ | refine zE (by decide +kernel) ?_ | refine zG (by decide +kernel) ?_)); intro K hK) | (refine aend_in (v := ?_) hKk (by first | exact .inl rfl | exact .inr rfl) ?_ ?_ ?_; rotate_left; (focus ((try simp (disch := omega) only [go_sem, wrap_n]) <;> (try omega) <;> fail)); (focus ((try simp (disch := omega) only [go_sem, wrap_n]) <;> (first | done | exact rfl))); clear hKk Kk) | ((first | (with_reducible refine aunder_i ?_ ?_ <;> intro hg) | with_reducible intro hg) <;> (first | (exfalso; simp at hg; done) | (have hg' := hg; (try simp only [hcs, beq_iff_eq, ge_iff_le, gt_iff_lt] at hg'); (try simp only [hg]))))) <;> (try simp (disch := omega) only [go_sem, wrap_n]) <;> (repeat' with_reducible refine And.intro ?_ ?_) <;> (try (with_reducible refine hK _ ?_; clear hK K)))
| omega)
  · rw [bigI_yes (by assumption) (by unfold bigN; rw [decide_eq_true_eq]; exact hc) hk2]
    (refine zF rfl ?_ ?_ ?_ ?_; (iterate 3 (focus ((try simp (disch := omega) only [go_sem, wrap_n]) <;> (try omega) <;> fail))); (try simp (disch := omega) only [go_sem, wrap_n, I, B, S, inj, List.cons.injEq, and_true, true_and, and_self]))
  · refine ⟨k + 1, ⟨by omega, fun j hj => ?_⟩, by omega, ?_⟩
    · by_cases e : j = k
      · subst e; unfold bigN; rw [decide_eq_false_iff_not]; omega
      · exact hk2 j (by omega)
    (refine SImp.frame [] rfl (by intro k hk; first | (simp at hk <;> (simp; omega)) | (simp only [List.mem_cons, List.not_mem_nil, or_false] at hk; simp only [List.length_cons, List.length_nil]; omega)) (by decide) (fun k hk => by first | omega | (rcases k with _ | _ | _ | _ | _ | _ | _ | _ | k <;> first | rfl | omega)) ?_ ?_ <;> simp (disch := omega) only [go_sem, wrap_n, Int.natCast_add, true_and] <;> (try rfl))
  · rw [(bigI_no (fun j hj => hk2 j (by omega))).2]
    (refine zF rfl ?_ ?_ ?_ ?_; (iterate 3 (focus ((try simp (disch := omega) only [go_sem, wrap_n]) <;> (try omega) <;> fail))); (try simp (disch := omega) only [go_sem, wrap_n, I, B, S, inj, List.cons.injEq, and_true, true_and, and_self]))
theorem bigI_iff (l : List ANode) : decide (0 ≤ bigI l) = l.any bigN := by
  unfold bigI; split
  · rename_i h; rw [h, decide_eq_true_eq]; omega
  · rename_i h; rw [show l.any bigN = false from by simpa using h]; rfl
theorem contains_c (l : List ANode) (h : l.length * 88 ≤ 140737488351232) : acall Tryd.prog [] 109 [.d (.sl 9 (l.map ANode.row)), .d (.sc (.func (.func 110) #[] #[]))] (ret (B (l.any bigN))) := by
  rw [← bigI_iff]
  refine acall_of tabOk Tryd.func109 rfl (by kernel_rfl) (by simp [Tryd.ntmps109]) ?_; simp only [Tryd.ntmps109, Tryd.results109, List.toList_toArray, apar, List.length_nil, List.length_cons, Nat.reduceAdd]
  (repeat' first
| (with_reducible refine AR.f ?_)
| refine blkA_x (by decide) ?_
| (with_reducible refine AWP.cond rfl ?_ ?_ <;> intro hc <;> (try simp only [hcs, beq_iff_eq, ge_iff_le, gt_iff_lt] at hc))
| ((first | ((first | (with_reducible first | refine zR ?_ | refine zQ (by decide +kernel) ?_ | refine zD (by decide +kernel) ?_ | refine zE (by decide +kernel) ?_ | refine zG (by decide +kernel) ?_)); intro K hK) | ((first | refine zA (indexF_c l h) ?_ ?_ ?_ ?_ ?_); (focus exact rfl); (focus exact rfl); iterate 2 (focus ((try simp (disch := omega) only [go_sem, wrap_n]) <;> (try omega) <;> fail))) | ((first | refine zN (indexF_c l h) rfl ?_ ?_); (focus ((try simp (disch := omega) only [go_sem, wrap_n]) <;> (try omega) <;> fail))) | (first | ((first | refine zX (indexF_c l h) rfl ?_ ?_ | refine acallH_anyx (indexF_c l h) ?_ ?_); (focus ((try simp (disch := omega) only [go_sem, wrap_n]) <;> (try omega) <;> fail)))) | ((first | (with_reducible refine aunder_i ?_ ?_ <;> intro hg) | with_reducible intro hg) <;> (first | (exfalso; simp at hg; done) | (have hg' := hg; (try simp only [hcs, beq_iff_eq, ge_iff_le, gt_iff_lt] at hg'); (try simp only [hg]))))) <;> (try simp (disch := omega) only [go_sem, wrap_n]) <;> (repeat' with_reducible refine And.intro ?_ ?_) <;> (try (with_reducible refine hK _ ?_; clear hK K)))
| omega)
  (refine zF rfl ?_ ?_ ?_ ?_; (iterate 3 (focus ((try simp (disch := omega) only [go_sem, wrap_n]) <;> (try omega) <;> fail))); (try simp (disch := omega) only [go_sem, wrap_n, I, B, S, inj, List.cons.injEq, and_true, true_and, and_self]))
end Go.Proofs.YtmpfhalheaeibaaDoor
