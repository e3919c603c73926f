/- Contracts of watch.Add, watch.Drop and their references. No condition. -/
import Derived.Test.YtfnilhdofopoeaaPg
import Derived.Test.YtfnilhdofopoeaaMt
namespace Go.Proofs.Ytfnilhdofopoeaa
set_option linter.unusedVariables false
set_option linter.unusedSimpArgs false
open Go Go.RowKit
set_option maxRecDepth 100000

def addW (l : List AWatch) (w : AWatch) : List AWatch × Int :=
  if w.kind ≠ 1 ∧ w.kind ≠ 2 then ([], 4) else if ¬ goodP w.path = true then ([], 2) else if w.session < 1 ∨ 2147483647 < w.session then ([], 3)
  else if w ∈ l then (l, 0) else if 400 ≤ l.length then ([], 6) else (l ++ [w], 0)
def dropW (l : List AWatch) (s : Int) : List AWatch := l.filter fun w => decide (w.session ≠ s)
def wIdx (l : List AWatch) (w : AWatch) : Int := if w ∈ l then (l.findIdx (fun x => decide (x = w)) : Nat) else -1
theorem wIdx_at {l : List AWatch} {w : AWatch} {k : Nat} (hk : k < l.length) (h : l.getD k default = w) (hno : ∀ j, j < k → l.getD j default ≠ w) : wIdx l w = k := by
  have hg : ∀ j, (hj : j < l.length) → l.getD j default = l[j] := fun j hj => by rw [List.getD_eq_getElem?_getD, List.getElem?_eq_getElem hj]; rfl
  unfold wIdx
  rw [if_pos (by rw [← h, hg k hk]; exact List.getElem_mem hk)]
  congr 1
  rw [List.findIdx_eq hk]
  refine ⟨by rw [decide_eq_true_eq, ← hg k hk]; exact h, fun j hj => ?_⟩
  rw [decide_eq_false_iff_not, ← hg j (by omega)]
  exact hno j hj
theorem wIdx_no {l : List AWatch} {w : AWatch} (hno : ∀ j, j < l.length → l.getD j default ≠ w) : wIdx l w = -1 ∧ ¬ w ∈ l := by
  have h : ¬ w ∈ l := fun hm => by
    obtain ⟨j, hj, e⟩ := List.getElem_of_mem hm
    exact hno j hj (by rw [List.getD_eq_getElem?_getD, List.getElem?_eq_getElem hj]; exact e)
  exact ⟨by unfold wIdx; rw [if_neg h], h⟩
theorem wIdx_ge (l : List AWatch) (w : AWatch) : decide (0 ≤ wIdx l w) = decide (w ∈ l) := by
  unfold wIdx; split
  · rw [decide_eq_true (by omega)]; symm; rw [decide_eq_true_eq]; assumption
  · rw [decide_eq_false (by omega)]; symm; rw [decide_eq_false_iff_not]; assumption
theorem watches_c (l : List AWatch) (h : l.length * 32 ≤ 140737488351232) : acall Try.prog [] 5 [.d (.sl 3 (l.map AWatch.row))] (ret (.d (.sl 3 (l.map AWatch.row)))) := by
  refine zI Try.func5 rfl (by kernel_rfl) (by simp [Try.ntmps5]) ?_; simp only [Try.ntmps5, Try.results5, go_sem]
  (repeat' first
| (with_reducible refine AR.f ?_)
| refine blkA_x (by decide) ?_
| (with_reducible refine AWP.cond rfl ?_ ?_ <;> intro hc <;> (try simp only [hcs, beq_iff_eq, ge_iff_le, gt_iff_lt] at hc))
| ((first | ((first | (with_reducible first | refine zR ?_ | refine zQ (by decide +kernel) ?_ | refine zD (by decide +kernel) ?_ | refine zE (by decide +kernel) ?_ | refine zG (by decide +kernel) ?_)); intro K hK) | ((first | (with_reducible refine aunder_i ?_ ?_ <;> intro hg) | with_reducible intro hg) <;> (first | (exfalso; simp at hg; done) | (have hg' := hg; (try simp only [hcs, beq_iff_eq, ge_iff_le, gt_iff_lt] at hg'); (try simp only [hg]))))) <;> (try simp (disch := omega) only [go_sem, wrap_n]) <;> (repeat' with_reducible refine And.intro ?_ ?_) <;> (try (with_reducible refine hK _ ?_; clear hK K)))
| omega)
  all_goals (refine zF rfl ?_ ?_ ?_ ?_; (iterate 3 (focus ((try simp (disch := omega) only [go_sem, wrap_n]) <;> (try omega) <;> fail))); (try simp (disch := omega) only [go_sem, wrap_n, I, B, S, zj]))
theorem dropW_snoc (l : List AWatch) (s : Int) (k : Nat) (h : k < l.length) : dropW (l.take (k + 1)) s = if (l.getD k default).session ≠ s then dropW (l.take k) s ++ [l.getD k default] else dropW (l.take k) s := by
  have : l.take (k + 1) = l.take k ++ [l.getD k default] := take_snoc l k h
  rw [this]; unfold dropW
  rw [List.filter_append]
  split
  · rw [List.filter_cons_of_pos (by simpa using (by assumption : _ ≠ _))]; rfl
  · rw [List.filter_cons_of_neg (by simpa using (by assumption : ¬ _ ≠ _)), List.filter_nil, List.append_nil]
theorem dropW_nil (s : Int) : dropW [] s = [] := rfl
theorem same_watches_c (a b : List AWatch) (h : a.length * 32 ≤ 140737488351232) (h2 : b.length * 32 ≤ 140737488351232) : acall Try.prog [] 8 [.d (.sl 3 (a.map AWatch.row)), .d (.sl 3 (b.map AWatch.row))] (ret (B (decide (a = b)))) := by
  refine zI Try.func8 rfl (by kernel_rfl) (by simp [Try.ntmps8]) ?_; simp only [Try.ntmps8, Try.results8, go_sem]
  (repeat' first
| (with_reducible refine AR.f ?_)
| refine blkA_x (by decide) ?_
| (with_reducible refine AWP.cond rfl ?_ ?_ <;> intro hc <;> (try simp only [hcs, beq_iff_eq, ge_iff_le, gt_iff_lt] at hc))
| ((first | ((first | (with_reducible first | refine zR ?_ | refine zQ (by decide +kernel) ?_ | refine zD (by decide +kernel) ?_ | refine zE (by decide +kernel) ?_ | refine zG (by decide +kernel) ?_)); intro K hK) | ((first | (with_reducible refine aunder_i ?_ ?_ <;> intro hg) | with_reducible intro hg) <;> (first | (exfalso; simp at hg; done) | (have hg' := hg; (try simp only [hcs, beq_iff_eq, ge_iff_le, gt_iff_lt] at hg'); (try simp only [hg]))))) <;> (try simp (disch := omega) only [go_sem, wrap_n]) <;> (repeat' with_reducible refine And.intro ?_ ?_) <;> (try (with_reducible refine hK _ ?_; clear hK K)))
| omega)
  · (refine zF rfl ?_ ?_ ?_ ?_; (iterate 3 (focus ((try simp (disch := omega) only [go_sem, wrap_n]) <;> (try omega) <;> fail))); (try simp (disch := omega) only [go_sem, wrap_n, I, B, S, zj]))
    symm; rw [decide_eq_false_iff_not]; intro e; subst e; simp at hc
  have h3 := hc
  refine AWP.loopS (ι := Nat) (fun k => k ≤ a.length ∧ ∀ j, j < k → a.getD j default = b.getD j default) (fun k => a.length - k) [0, 1, 12] (fun k => [(13, I k)]) 0 ?_ (by simp (disch := omega) only [go_sem, wrap_n, true_and]) ?_
  · exact ⟨by omega, by omega⟩
  intro k ⟨hk, hk2⟩
  simp only [go_sem]
  (repeat' first
| (with_reducible refine AR.f ?_)
| refine blkA_x (by decide) ?_
| (with_reducible refine AWP.cond rfl ?_ ?_ <;> intro hc <;> (try simp only [hcs, beq_iff_eq, ge_iff_le, gt_iff_lt] at hc))
| ((first | ((first | (with_reducible first | refine zR ?_ | refine zQ (by decide +kernel) ?_ | refine zD (by decide +kernel) ?_ | refine zE (by decide +kernel) ?_ | refine zG (by decide +kernel) ?_)); intro K hK) | ((first | (with_reducible refine aunder_i ?_ ?_ <;> intro hg) | with_reducible intro hg) <;> (first | (exfalso; simp at hg; done) | (have hg' := hg; (try simp only [hcs, beq_iff_eq, ge_iff_le, gt_iff_lt] at hg'); (try simp only [hg]))))) <;> (try simp (disch := omega) only [go_sem, wrap_n, AWatch.rgetD]) <;> (repeat' with_reducible refine And.intro ?_ ?_) <;> (try (with_reducible refine hK _ ?_; clear hK K)))
| omega)
  · (refine zF rfl ?_ ?_ ?_ ?_; (iterate 3 (focus ((try simp (disch := omega) only [go_sem, wrap_n]) <;> (try omega) <;> fail))); (try simp (disch := omega) only [go_sem, wrap_n, I, B, S, zj]))
    symm; rw [decide_eq_false_iff_not]; intro e; subst e; simp at hc
  · refine ⟨k + 1, ⟨by omega, fun j hj => ?_⟩, by omega, ?_⟩
    · by_cases e : j = k
      · subst e; exact hc
      · exact hk2 j (by omega)
    (refine SImp.same ?_; simp (disch := omega) only [go_sem, wrap_n, Int.natCast_add])
  · (refine zF rfl ?_ ?_ ?_ ?_; (iterate 3 (focus ((try simp (disch := omega) only [go_sem, wrap_n]) <;> (try omega) <;> fail))); (try simp (disch := omega) only [go_sem, wrap_n, I, B, S, zj]))
    symm; rw [decide_eq_true_eq]
    exact eq_of_getD (by omega) fun j hj => hk2 j (by omega)
theorem addW_kind {l : List AWatch} {w : AWatch} (h : w.kind ≠ 1 ∧ w.kind ≠ 2) : addW l w = ([], 4) := by unfold addW; rw [if_pos h]
theorem addW_path {l : List AWatch} {w : AWatch} (h1 : ¬ (w.kind ≠ 1 ∧ w.kind ≠ 2)) (h2 : goodP w.path = false) : addW l w = ([], 2) := by unfold addW; rw [if_neg h1, if_pos (by rw [h2]; decide)]
theorem addW_rest {l : List AWatch} {w : AWatch} (h1 : ¬ (w.kind ≠ 1 ∧ w.kind ≠ 2)) (h2 : goodP w.path = true) : addW l w = if w.session < 1 ∨ 2147483647 < w.session then ([], 3) else if w ∈ l then (l, 0) else if 400 ≤ l.length then ([], 6) else (l ++ [w], 0) := by unfold addW; rw [if_neg h1, if_neg (by rw [h2]; decide)]
theorem wrow_snoc (l : List AWatch) (w : AWatch) : l.map AWatch.row ++ [w.row] = (l ++ [w]).map AWatch.row := by rw [List.map_append]; rfl
end Go.Proofs.Ytfnilhdofopoeaa
