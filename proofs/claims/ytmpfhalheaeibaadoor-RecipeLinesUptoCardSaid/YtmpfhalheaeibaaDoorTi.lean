/- Contracts of slices.BinarySearch over integers that rise. No condition. -/
import Derived.Test.YtmpfhalheaeibaaDoorSt
import Derived.Test.YtmpfhalheaeibaaDoorBs
namespace Go.Proofs.YtmpfhalheaeibaaDoor
set_option linter.unusedVariables false
set_option linter.unusedSimpArgs false
open Go Go.RowKit
set_option maxRecDepth 100000
set_option linter.unusedSimpArgs false

/-- A list of integers that rises. -/
def RisesI (l : List Int) : Prop := ∀ k, k + 1 < l.length → l.getD k default < l.getD (k + 1) default
theorem risesI_lt {l : List Int} (h : RisesI l) {i : Nat} : ∀ {j : Nat}, i < j → j < l.length → l.getD i default < l.getD j default
  | 0, h1, _ => by omega
  | j + 1, h1, h2 => by
    by_cases e : i = j
    · subst e; exact h i h2
    · exact Int.lt_trans (risesI_lt h (by omega) (by omega)) (h j h2)
/-- Where a number stands in a list that rises, or would. -/
def placeI (l : List Int) (key : Int) : Nat := l.findIdx fun x => !decide (x < key)
theorem placeI_eq {l : List Int} {key : Int} {i : Nat} (h0 : i ≤ l.length) (h1 : ∀ k, k < i → l.getD k default < key) (h2 : i < l.length → ¬ l.getD i default < key) : placeI l key = i := by
  unfold placeI
  by_cases e : i < l.length
  · rw [List.findIdx_eq e]
    have h3 := h2 e
    rw [List.getD_eq_getElem?_getD, List.getElem?_eq_getElem e] at h3
    refine ⟨by simpa using h3, fun j hj => ?_⟩
    have h4 := h1 j hj
    rw [List.getD_eq_getElem?_getD, List.getElem?_eq_getElem (by omega)] at h4
    simpa using h4
  · have e2 : i = l.length := by omega
    subst e2
    rw [List.findIdx_eq_length]
    intro x hx
    obtain ⟨j, hj, rfl⟩ := List.getElem_of_mem hx
    have h4 := h1 j hj
    rw [List.getD_eq_getElem?_getD, List.getElem?_eq_getElem hj] at h4
    simpa using h4
theorem foundI_iff {l : List Int} {key : Int} {i : Nat} (hr : RisesI l) (h1 : ∀ k, k < i → l.getD k default < key) (h2 : i < l.length → ¬ l.getD i default < key) : key ∈ l ↔ i < l.length ∧ l.getD i default = key := by
  rw [mem_iff_getD l default]
  constructor
  · rintro ⟨k, hk, e⟩
    have a : ¬ k < i := fun hki => by have := h1 k hki; omega
    have b : ¬ i < k := fun hik => by
      have := risesI_lt hr hik hk
      rw [e] at this; exact h2 (by omega) this
    have c : i = k := by omega
    subst c; exact ⟨hk, e⟩
  · rintro ⟨h, e⟩; exact ⟨i, h, e⟩
theorem bsInt_c (l : List Int) (key : Int) (h : l.length * 8 ≤ 140737488351232) (hr : RisesI l) :
    acall Tryd.prog [] 94 [.d (.sl 1 (l.map irow)), I key] (ret (.tup [I (placeI l key), B (decide (key ∈ l))])) := by
  refine acall_of tabOk Tryd.func94 rfl (by kernel_rfl) (by simp [Tryd.ntmps94]) ?_; simp only [Tryd.ntmps94, Tryd.results94, List.toList_toArray, apar, List.length_nil, List.length_cons, Nat.reduceAdd]
  repeat' first
    | (with_reducible first | refine AWP.seq ?_ | refine thenA_n ?_ | refine thenA_r ?_ | refine thenA_e ?_ | refine blkA_n ?_ | refine blkA_r ?_ | refine blkA_e ?_ | refine blkA_x (by decide) ?_ | refine AWP.skip ?_ | refine AWP.ret ?_ | refine AWP.exit ?_ | refine AWP.block ?_)
    | (with_reducible refine AWP.cond rfl ?_ ?_ <;> intro hc <;> (try simp only [hcs, beq_iff_eq, ge_iff_le, gt_iff_lt] at hc))
    | ((first
      | (with_reducible first | refine AWP.region tabOk ?_ | refine AWP.quietC mixed tabOk (by decide +kernel) ?_ | refine AWP.draw mixed tabOk (by decide +kernel) ?_ | refine AWP.drawE mixed tabOk (by decide +kernel) ?_ | refine AWP.drawG mixed tabOk (by decide +kernel) ?_); intro K hK); ((try simp (disch := omega) only [go_sem, wrap_n]) <;> (repeat' with_reducible refine And.intro ?_ ?_) <;> (try (with_reducible refine hK _ ?_; clear hK K))))
    | ((first | (with_reducible refine aunder_i ?_ ?_ <;> intro hg) | with_reducible intro hg) <;> (first | (exfalso; simp at hg; done) | (have hg' := hg; (try simp only [hcs, beq_iff_eq, ge_iff_le, gt_iff_lt] at hg'); ((try simp (disch := omega) only [hg, go_sem, wrap_n]) <;> (repeat' with_reducible refine And.intro ?_ ?_) <;> (try (with_reducible refine hK _ ?_; clear hK K))))))
                                                            | omega
  refine AWP.loopS (ι := Nat × Nat) (fun v => v.1 ≤ v.2 ∧ v.2 ≤ l.length ∧ (∀ k, k < v.1 → l.getD k default < key) ∧ (v.2 < l.length → ¬ l.getD v.2 default < key)) (fun v => v.2 - v.1) [0, 1, 6] (fun v => [(7, I v.1), (8, I v.2)]) (0, l.length) ?_ (by simp (disch := omega) only [go_sem, wrap_n, true_and]) ?_
  · exact ⟨by simp, by simp, fun k hk => by simp at hk, fun k => by simp at k⟩
  intro ⟨i, j⟩ ⟨h1, h2, h3, h4⟩
  simp only at h1 h2 h3 h4
  simp only [go_sem]
  repeat' first
    | (with_reducible first | refine AWP.seq ?_ | refine thenA_n ?_ | refine thenA_r ?_ | refine thenA_e ?_ | refine blkA_n ?_ | refine blkA_r ?_ | refine blkA_e ?_ | refine blkA_x (by decide) ?_ | refine AWP.skip ?_ | refine AWP.ret ?_ | refine AWP.exit ?_ | refine AWP.block ?_)
    | (with_reducible refine AWP.cond rfl ?_ ?_ <;> intro hc <;> (try simp only [hcs, beq_iff_eq, ge_iff_le, gt_iff_lt] at hc))
    | ((first
      | (with_reducible first | refine AWP.region tabOk ?_ | refine AWP.quietC mixed tabOk (by decide +kernel) ?_ | refine AWP.draw mixed tabOk (by decide +kernel) ?_ | refine AWP.drawE mixed tabOk (by decide +kernel) ?_ | refine AWP.drawG mixed tabOk (by decide +kernel) ?_); intro K hK); ((try simp (disch := omega) only [go_sem, wrap_n, halfw]) <;> (repeat' with_reducible refine And.intro ?_ ?_) <;> (try (with_reducible refine hK _ ?_; clear hK K))))
    | (refine acallHK_in fun Kk hKk => (acall_of tabOk Tryd.func145 rfl (by kernel_rfl) (by simp [Tryd.ntmps145]) ?_); simp only [Tryd.ntmps145, Tryd.results145, List.toList_toArray, apar, List.length_nil, List.length_cons, Nat.reduceAdd, List.length_append, List.length_set, go_sem])
    | (refine acallHK_in fun Kk hKk => (acall_of tabOk Tryd.func172 rfl (by kernel_rfl) (by simp [Tryd.ntmps172]) ?_); simp only [Tryd.ntmps172, Tryd.results172, List.toList_toArray, apar, List.length_nil, List.length_cons, Nat.reduceAdd, List.length_append, List.length_set, go_sem])
    | (refine acallHK_in fun Kk hKk => (acall_of tabOk Tryd.func146 rfl (by kernel_rfl) (by simp [Tryd.ntmps146]) ?_); simp only [Tryd.ntmps146, Tryd.results146, List.toList_toArray, apar, List.length_nil, List.length_cons, Nat.reduceAdd, List.length_append, List.length_set, go_sem])
    | (refine aend_in (v := ?_) hKk (by first | exact .inl rfl | exact .inr rfl) ?_ ?_ ?_; rotate_left; (focus ((try simp (disch := omega) only [go_sem, wrap_n, halfw]) <;> (try omega) <;> fail)); (focus ((try simp (disch := omega) only [go_sem, wrap_n, halfw]) <;> (first | done | exact rfl))); clear hKk Kk; ((try simp (disch := omega) only [go_sem, wrap_n, halfw]) <;> (repeat' with_reducible refine And.intro ?_ ?_) <;> (try (with_reducible refine hK _ ?_; clear hK K))))
    | ((first | (with_reducible refine aunder_i ?_ ?_ <;> intro hg) | with_reducible intro hg) <;> (first | (exfalso; simp at hg; done) | (have hg' := hg; (try simp only [hcs, beq_iff_eq, ge_iff_le, gt_iff_lt] at hg'); ((try simp (disch := omega) only [hg, go_sem, wrap_n, halfw]) <;> (repeat' with_reducible refine And.intro ?_ ?_) <;> (try (with_reducible refine hK _ ?_; clear hK K))))))
                                                            | omega
  · refine ⟨((i + j) / 2 + 1, j), ⟨by simp only; omega, h2, fun k hk => ?_, h4⟩, by simp only; omega, ?_⟩
    · by_cases e : k = (i + j) / 2
      · rw [e]; exact hc
      · exact Int.lt_trans (risesI_lt (j := (i + j) / 2) hr (by simp only at hk; omega) (by omega)) hc
    (refine SImp.same ?_; simp (disch := omega) only [go_sem, wrap_n, Int.natCast_add])
  · refine ⟨(i, (i + j) / 2), ⟨by simp only; omega, by simp only; omega, h3, fun _ => Int.not_lt.2 hc⟩, by simp only; omega, ?_⟩
    (refine SImp.same ?_; simp (disch := omega) only [go_sem, wrap_n, Int.natCast_add])
  all_goals
    have e0 : i = j := by omega
    subst e0
    have e1 : placeI l key = i := placeI_eq (by omega) h3 h4
    have e2 : key ∈ l ↔ i < l.length ∧ l.getD i default = key := foundI_iff hr h3 h4
    (refine aend_retc ?_ rfl ?_ ?_ ?_ ?_; (focus (first | exact .inl rfl | exact .inr rfl)); (iterate 3 (focus ((try simp (disch := omega) only [go_sem, wrap_n, e1]) <;> (try omega) <;> fail))); (try simp (disch := omega) only [go_sem, wrap_n, e1, I, B, S, inj, List.cons.injEq, and_true, true_and, and_self]))
    simp only [e2]
    simp at hg; simp
end Go.Proofs.YtmpfhalheaeibaaDoor
