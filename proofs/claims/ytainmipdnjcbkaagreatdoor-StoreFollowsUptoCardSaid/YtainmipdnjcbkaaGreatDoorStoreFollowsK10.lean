/- A part of what StoreFollows leans on: texts of this claim, one behind the other. No condition. -/
import Derived.Test.YtainmipdnjcbkaaGreatDoorStoreFollowsK9
namespace Go.Proofs.YtainmipdnjcbkaaGreatDoor
set_option linter.unusedVariables false
set_option linter.unusedSimpArgs false
open Go Go.RowKit
set_option maxRecDepth 100000
set_option linter.unusedSimpArgs false
def fileOk (f : AFile) : Prop := namedP f.name = true ∧ f.safe.length + f.tail.length ≤ 1048576
instance (f : AFile) : Decidable (fileOk f) := by unfold fileOk; infer_instance
def fileK (l : List AFile) (k : Nat) : Prop := fileOk (l.getD k default) ∧ (0 < k → (l.getD (k - 1) default).name < (l.getD k default).name)
instance (l : List AFile) (k : Nat) : Decidable (fileK l k) := by unfold fileK; infer_instance
def goodD (l : List AFile) : Bool := decide (l.length ≤ 16 ∧ ∀ k, k < l.length → fileK l k)
theorem goodD_rises {l : List AFile} (h : goodD l = true) : Rises (l.map AFile.name) := by
  intro k hk
  unfold goodD at h; rw [decide_eq_true_eq] at h
  have := (h.2 (k + 1) (by simpa using hk)).2 (by omega)
  have e : ∀ j, (l.map AFile.name).getD j [] = (l.getD j default).name := fun j => getD_map AFile.name l j default
  rw [e, e]
  simpa using this
theorem toNat_pr (n : Nat) : ((n : Int) - 1).toNat = n - 1 := by omega
theorem file_wf {l : List AFile} (h : ∀ f, f ∈ l → f.wf) (k : Nat) : okS (l.getD k default).name ∧ (l.getD k default).name.length ≤ 140737488351232 ∧ (l.getD k default).safe.length ≤ 140737488351232 ∧ (l.getD k default).tail.length ≤ 140737488351232 := by
  by_cases e : k < l.length
  · have := h _ (getD_mem l k e)
    exact ⟨this.1, this.1, this.2.1, this.2.2⟩
  · rw [List.getD_eq_getElem?_getD, List.getElem?_eq_none (by omega)]; exact ⟨show okS [] by unfold okS; decide, by decide, by decide, by decide⟩
theorem good_d_c (d : ADisk) (h : d.files.length * 48 ≤ 140737488351232) (hw : ∀ f, f ∈ d.files → f.wf) : acall Tryz.prog [] 51 [d.av] (ret (B (goodD d.files))) := by
  refine zI Tryz.func51 rfl (by kernel_rfl) (by simp [Tryz.ntmps51]) ?_; simp only [Tryz.ntmps51, Tryz.results51, go_sem]
  (repeat' first
| (with_reducible refine AR.f ?_)
| refine zb (by decide) ?_
| (with_reducible refine AWP.cond rfl ?_ ?_ <;> intro hc <;> (try simp only [hcs, beq_iff_eq, ge_iff_le, gt_iff_lt] at hc))
| ((first | ((first | (with_reducible first | refine zR ?_ | refine zQ (by decide +kernel) ?_ | refine zD (by decide +kernel) ?_ | refine zE (by decide +kernel) ?_ | refine zG (by decide +kernel) ?_)); intro K hK) | ((first | (with_reducible refine zu ?_ ?_ <;> intro hg) | with_reducible intro hg) <;> (first | (exfalso; simp at hg; done) | (have hg' := hg; (try simp only [hcs, beq_iff_eq, ge_iff_le, gt_iff_lt] at hg'); (try simp only [hg]))))) <;> (try simp (disch := omega) only [go_sem, wn]) <;> (repeat' with_reducible refine And.intro ?_ ?_) <;> (try (with_reducible refine hK _ ?_; clear hK K)))
| omega)
  · (refine zF rfl ?_ ?_ ?_ ?_; (iterate 3 (focus ((try simp (disch := omega) only [go_sem, wn]) <;> (try omega) <;> fail))); (try simp (disch := omega) only [go_sem, wn, I, B, S, zj]))
    unfold goodD; symm; rw [decide_eq_false_iff_not]; rintro ⟨a, -⟩; omega
  refine AWP.loopS (ι := Nat) (fun k => k ≤ d.files.length ∧ ∀ j, j < k → fileK d.files j) (fun k => d.files.length - k) [1, 10, 11] (fun k => [(12, I k)]) 0 ?_ (by simp (disch := omega) only [go_sem, wn, true_and]) ?_
  · exact ⟨by omega, by omega⟩
  intro k ⟨hk, hk2⟩
  obtain ⟨w0, w1, w2, w3⟩ := file_wf hw k
  simp only [go_sem]
  (repeat' first
| (with_reducible refine AR.f ?_)
| refine zb (by decide) ?_
| (with_reducible refine AWP.cond rfl ?_ ?_ <;> intro hc <;> (try simp only [hcs, beq_iff_eq, ge_iff_le, gt_iff_lt] at hc))
| ((first | ((first | (with_reducible first | refine zR ?_ | refine zQ (by decide +kernel) ?_ | refine zD (by decide +kernel) ?_ | refine zE (by decide +kernel) ?_ | refine zG (by decide +kernel) ?_)); intro K hK) | ((first | refine acallH_sc (named_c _ w0) rfl rfl ?_ ?_ ?_ | refine acallQ_sc (named_c _ w0) rfl rfl ?_ ?_ ?_); iterate 2 (focus ((try simp (disch := omega) only [go_sem, wn, toNat_pr, strLt_eq]) <;> (try omega) <;> fail))) | ((first | refine zX (named_c _ w0) rfl ?_ ?_); (focus ((try simp (disch := omega) only [go_sem, wn, toNat_pr, strLt_eq]) <;> (try omega) <;> fail))) | ((first | (with_reducible refine zu ?_ ?_ <;> intro hg) | with_reducible intro hg) <;> (first | (exfalso; simp at hg; done) | (have hg' := hg; (try simp only [hcs, beq_iff_eq, ge_iff_le, gt_iff_lt] at hg'); (try simp only [hg]))))) <;> (try simp (disch := omega) only [go_sem, wn, toNat_pr, strLt_eq]) <;> (repeat' with_reducible refine And.intro ?_ ?_) <;> (try (with_reducible refine hK _ ?_; clear hK K)))
| omega)
  · (refine zF rfl ?_ ?_ ?_ ?_; (iterate 3 (focus ((try simp (disch := omega) only [go_sem, wn]) <;> (try omega) <;> fail))); (try simp (disch := omega) only [go_sem, wn, I, B, S, zj]))
    unfold goodD; symm; rw [decide_eq_false_iff_not]; rintro ⟨-, a⟩
    have a1 := a k (by assumption)
    rcases hc with (c | c) | c
    · rw [a1.1.1] at c; exact absurd c (by simp)
    · exact absurd (a1.2 (by omega)) (by simpa using c.2)
    · have := a1.1.2; omega
  · refine ⟨k + 1, ⟨by omega, fun j hj => ?_⟩, by omega, ?_⟩
    · by_cases e : j = k
      · subst e
        exact ⟨⟨hc.1.1, by omega⟩, fun h0 => (hc.1.2.resolve_left (by omega))⟩
      · exact hk2 j (by omega)
    (refine zV [0] rfl rfl rfl rfl ?_ ?_ <;> simp (disch := omega) only [go_sem, wn, Int.natCast_add] <;> (try rfl))
  · (refine zF rfl ?_ ?_ ?_ ?_; (iterate 3 (focus ((try simp (disch := omega) only [go_sem, wn]) <;> (try omega) <;> fail))); (try simp (disch := omega) only [go_sem, wn, I, B, S, zj]))
    unfold goodD; symm; rw [decide_eq_true_eq]; exact ⟨by omega, fun j hj => hk2 j (by omega)⟩
theorem ref_good_d_c (d : ADisk) (h : d.files.length * 48 ≤ 140737488351232) (hw : ∀ f, f ∈ d.files → f.wf) : acall Tryz.prog [] 131 [d.av] (ret (B (goodD d.files))) := by
  refine zI Tryz.func131 rfl (by kernel_rfl) (by simp [Tryz.ntmps131]) ?_; simp only [Tryz.ntmps131, Tryz.results131, go_sem]
  (repeat' first
| (with_reducible refine AR.f ?_)
| refine zb (by decide) ?_
| (with_reducible refine AWP.cond rfl ?_ ?_ <;> intro hc <;> (try simp only [hcs, beq_iff_eq, ge_iff_le, gt_iff_lt] at hc))
| ((first | ((first | (with_reducible first | refine zR ?_ | refine zQ (by decide +kernel) ?_ | refine zD (by decide +kernel) ?_ | refine zE (by decide +kernel) ?_ | refine zG (by decide +kernel) ?_)); intro K hK) | ((first | (with_reducible refine zu ?_ ?_ <;> intro hg) | with_reducible intro hg) <;> (first | (exfalso; simp at hg; done) | (have hg' := hg; (try simp only [hcs, beq_iff_eq, ge_iff_le, gt_iff_lt] at hg'); (try simp only [hg]))))) <;> (try simp (disch := omega) only [go_sem, wn]) <;> (repeat' with_reducible refine And.intro ?_ ?_) <;> (try (with_reducible refine hK _ ?_; clear hK K)))
| omega)
  refine AWP.loopS (ι := Nat) (fun k => k ≤ d.files.length ∧ ∀ j, j < k → fileK d.files j) (fun k => d.files.length - k) [1, 6, 7] (fun k => [(8, I k)]) 0 ?_ (by simp (disch := omega) only [go_sem, wn, true_and]) ?_
  · exact ⟨by omega, by omega⟩
  intro k ⟨hk, hk2⟩
  obtain ⟨w0, w1, w2, w3⟩ := file_wf hw k
  simp only [go_sem]
  (repeat' first
| (with_reducible refine AR.f ?_)
| refine zb (by decide) ?_
| (with_reducible refine AWP.cond rfl ?_ ?_ <;> intro hc <;> (try simp only [hcs, beq_iff_eq, ge_iff_le, gt_iff_lt] at hc))
| ((first | ((first | (with_reducible first | refine zR ?_ | refine zQ (by decide +kernel) ?_ | refine zD (by decide +kernel) ?_ | refine zE (by decide +kernel) ?_ | refine zG (by decide +kernel) ?_)); intro K hK) | ((first | refine acallH_sc (ref_named_c _ w0) rfl rfl ?_ ?_ ?_ | refine acallQ_sc (ref_named_c _ w0) rfl rfl ?_ ?_ ?_); iterate 2 (focus ((try simp (disch := omega) only [go_sem, wn, toNat_pr, strLt_eq]) <;> (try omega) <;> fail))) | ((first | refine zX (ref_named_c _ w0) rfl ?_ ?_); (focus ((try simp (disch := omega) only [go_sem, wn, toNat_pr, strLt_eq]) <;> (try omega) <;> fail))) | ((first | (with_reducible refine zu ?_ ?_ <;> intro hg) | with_reducible intro hg) <;> (first | (exfalso; simp at hg; done) | (have hg' := hg; (try simp only [hcs, beq_iff_eq, ge_iff_le, gt_iff_lt] at hg'); (try simp only [hg]))))) <;> (try simp (disch := omega) only [go_sem, wn, toNat_pr, strLt_eq]) <;> (repeat' with_reducible refine And.intro ?_ ?_) <;> (try (with_reducible refine hK _ ?_; clear hK K)))
| omega)
  · (refine zF rfl ?_ ?_ ?_ ?_; (iterate 3 (focus ((try simp (disch := omega) only [go_sem, wn]) <;> (try omega) <;> fail))); (try simp (disch := omega) only [go_sem, wn, I, B, S, zj]))
    unfold goodD; symm; rw [decide_eq_false_iff_not]; rintro ⟨-, a⟩
    have a1 := a k (by assumption)
    rcases hc with c | c
    · rw [a1.1.1] at c; exact absurd c (by simp)
    · have := a1.1.2; omega
  · (refine zF rfl ?_ ?_ ?_ ?_; (iterate 3 (focus ((try simp (disch := omega) only [go_sem, wn]) <;> (try omega) <;> fail))); (try simp (disch := omega) only [go_sem, wn, I, B, S, zj]))
    unfold goodD; symm; rw [decide_eq_false_iff_not]; rintro ⟨-, a⟩
    have a1 := a k (by assumption)
    exact hc.2 (a1.2 (by omega))
  · rename_i hc1
    refine ⟨k + 1, ⟨by omega, fun j hj => ?_⟩, by omega, ?_⟩
    · by_cases e : j = k
      · subst e
        exact ⟨⟨hc1.1, by omega⟩, fun h0 => (hc.resolve_left (by omega))⟩
      · exact hk2 j (by omega)
    (refine zV [0] rfl rfl rfl rfl ?_ ?_ <;> simp (disch := omega) only [go_sem, wn, Int.natCast_add] <;> (try rfl))
  · (refine zF rfl ?_ ?_ ?_ ?_; (iterate 3 (focus ((try simp (disch := omega) only [go_sem, wn]) <;> (try omega) <;> fail))); (try simp (disch := omega) only [go_sem, wn, I, B, S, zj]))
    have a : ∀ j, j < d.files.length → fileK d.files j := fun j hj => hk2 j (by omega)
    unfold goodD; rw [Bool.eq_iff_iff, decide_eq_true_eq, decide_eq_true_eq]
    exact ⟨fun h => ⟨by omega, a⟩, fun h => by omega⟩
theorem find_c (d : ADisk) (key : List UInt8) (h : d.files.length * 48 ≤ 140737488351232) (hr : goodD d.files = true) :
    acall Tryz.prog [] 123 [d.av, S key] (ret (.tup [I (place (d.files.map AFile.name) key), B (decide (key ∈ d.files.map AFile.name))])) := by
  refine zI Tryz.func123 rfl (by kernel_rfl) (by simp [Tryz.ntmps123]) ?_; simp only [Tryz.ntmps123, Tryz.results123, go_sem]
  (repeat' first
| (with_reducible refine AR.f ?_)
| refine zb (by decide) ?_
| (with_reducible refine AWP.cond rfl ?_ ?_ <;> intro hc <;> (try simp only [hcs, beq_iff_eq, ge_iff_le, gt_iff_lt] at hc))
| ((first | ((first | (with_reducible first | refine zR ?_ | refine zQ (by decide +kernel) ?_ | refine zD (by decide +kernel) ?_ | refine zE (by decide +kernel) ?_ | refine zG (by decide +kernel) ?_)); intro K hK) | ((first | refine acallH_sc (bsFile_c _ key h (goodD_rises hr)) rfl rfl ?_ ?_ ?_ | refine acallQ_sc (bsFile_c _ key h (goodD_rises hr)) rfl rfl ?_ ?_ ?_); iterate 2 (focus ((try simp (disch := omega) only [go_sem, wn]) <;> (try omega) <;> fail))) | ((first | refine zN (bsFile_c _ key h (goodD_rises hr)) rfl ?_ ?_); (focus ((try simp (disch := omega) only [go_sem, wn]) <;> (try omega) <;> fail))) | ((first | refine zX (bsFile_c _ key h (goodD_rises hr)) rfl ?_ ?_ | refine zY (bsFile_c _ key h (goodD_rises hr)) ?_ ?_); (focus ((try simp (disch := omega) only [go_sem, wn]) <;> (try omega) <;> fail))) | ((first | (with_reducible refine zu ?_ ?_ <;> intro hg) | with_reducible intro hg) <;> (first | (exfalso; simp at hg; done) | (have hg' := hg; (try simp only [hcs, beq_iff_eq, ge_iff_le, gt_iff_lt] at hg'); (try simp only [hg]))))) <;> (try simp (disch := omega) only [go_sem, wn]) <;> (repeat' with_reducible refine And.intro ?_ ?_) <;> (try (with_reducible refine hK _ ?_; clear hK K)))
| omega)
  (refine zF rfl ?_ ?_ ?_ ?_; (iterate 3 (focus ((try simp (disch := omega) only [go_sem, wn]) <;> (try omega) <;> fail))); (try simp (disch := omega) only [go_sem, wn, I, B, S, zj]))
def fileI (l : List AFile) (key : List UInt8) : Int := if key ∈ l.map AFile.name then (place (l.map AFile.name) key : Nat) else -1
theorem file_c (d : ADisk) (key : List UInt8) (h : d.files.length * 48 ≤ 140737488351232) (hr : goodD d.files = true) : acall Tryz.prog [] 133 [d.av, S key] (ret (I (fileI d.files key))) := by
  have hn : ∀ k, (d.files.map AFile.name).getD k [] = (d.files.getD k default).name := fun k => getD_map AFile.name d.files k default
  have hr2 := goodD_rises hr
  refine zI Tryz.func133 rfl (by kernel_rfl) (by simp [Tryz.ntmps133]) ?_; simp only [Tryz.ntmps133, Tryz.results133, go_sem]
  (repeat' first
| (with_reducible refine AR.f ?_)
| refine zb (by decide) ?_
| (with_reducible refine AWP.cond rfl ?_ ?_ <;> intro hc <;> (try simp only [hcs, beq_iff_eq, ge_iff_le, gt_iff_lt] at hc))
| ((first | ((first | (with_reducible first | refine zR ?_ | refine zQ (by decide +kernel) ?_ | refine zD (by decide +kernel) ?_ | refine zE (by decide +kernel) ?_ | refine zG (by decide +kernel) ?_)); intro K hK) | ((first | (with_reducible refine zu ?_ ?_ <;> intro hg) | with_reducible intro hg) <;> (first | (exfalso; simp at hg; done) | (have hg' := hg; (try simp only [hcs, beq_iff_eq, ge_iff_le, gt_iff_lt] at hg'); (try simp only [hg]))))) <;> (try simp (disch := omega) only [go_sem, wn]) <;> (repeat' with_reducible refine And.intro ?_ ?_) <;> (try (with_reducible refine hK _ ?_; clear hK K)))
| omega)
  refine AWP.loopS (ι := Nat) (fun k => k ≤ d.files.length ∧ ∀ j, j < k → (d.files.getD j default).name ≠ key) (fun k => d.files.length - k) [1, 8, 9] (fun k => [(10, I k)]) 0 ?_ (by simp (disch := omega) only [go_sem, wn, true_and]) ?_
  · exact ⟨by omega, by omega⟩
  intro k ⟨hk, hk2⟩
  simp only [go_sem]
  (repeat' first
| (with_reducible refine AR.f ?_)
| refine zb (by decide) ?_
| (with_reducible refine AWP.cond rfl ?_ ?_ <;> intro hc <;> (try simp only [hcs, beq_iff_eq, ge_iff_le, gt_iff_lt] at hc))
| ((first | ((first | (with_reducible first | refine zR ?_ | refine zQ (by decide +kernel) ?_ | refine zD (by decide +kernel) ?_ | refine zE (by decide +kernel) ?_ | refine zG (by decide +kernel) ?_)); intro K hK) | ((first | (with_reducible refine zu ?_ ?_ <;> intro hg) | with_reducible intro hg) <;> (first | (exfalso; simp at hg; done) | (have hg' := hg; (try simp only [hcs, beq_iff_eq, ge_iff_le, gt_iff_lt] at hg'); (try simp only [hg]))))) <;> (try simp (disch := omega) only [go_sem, wn]) <;> (repeat' with_reducible refine And.intro ?_ ?_) <;> (try (with_reducible refine hK _ ?_; clear hK K)))
| omega)
  · (refine zF rfl ?_ ?_ ?_ ?_; (iterate 3 (focus ((try simp (disch := omega) only [go_sem, wn]) <;> (try omega) <;> fail))); (try simp (disch := omega) only [go_sem, wn, I, B, S, zj]))
    have hl : k < (d.files.map AFile.name).length := by simp; omega
    have e := place_at hr2 hl
    rw [hn, hc] at e
    unfold fileI
    rw [if_pos ((mem_iff_getD _ [] key).2 ⟨k, hl, by rw [hn]; exact hc⟩), e]
  · refine ⟨k + 1, ⟨by omega, fun j hj => ?_⟩, by omega, ?_⟩
    · by_cases e : j = k
      · subst e; exact hc
      · exact hk2 j (by omega)
    (refine zV [0] rfl rfl rfl rfl ?_ ?_ <;> simp (disch := omega) only [go_sem, wn, Int.natCast_add] <;> (try rfl))
  · (refine zF rfl ?_ ?_ ?_ ?_; (iterate 3 (focus ((try simp (disch := omega) only [go_sem, wn]) <;> (try omega) <;> fail))); (try simp (disch := omega) only [go_sem, wn, I, B, S, zj]))
    unfold fileI
    rw [if_neg]
    rw [mem_iff_getD _ [] key]
    rintro ⟨j, hj, e⟩
    rw [hn] at e
    exact hk2 j (by simp at hj; omega) e
theorem cloneFile_c (l : List AFile) (h : l.length * 48 ≤ 140737488351232) : acall Tryz.prog [] 191 [.d (.sl 3 (l.map AFile.row))] (own 3 (l.map AFile.row)) := by
  refine zI Tryz.func191 rfl (by kernel_rfl) (by simp [Tryz.ntmps191]) ?_; simp only [Tryz.ntmps191, Tryz.results191, go_sem]
  (repeat' first
| (with_reducible refine AR.f ?_)
| refine zb (by decide) ?_
| (with_reducible refine AWP.cond rfl ?_ ?_ <;> intro hc <;> (try simp only [hcs, beq_iff_eq, ge_iff_le, gt_iff_lt] at hc))
| ((first | ((first | (with_reducible first | refine zR ?_ | refine zQ (by decide +kernel) ?_ | refine zD (by decide +kernel) ?_ | refine zE (by decide +kernel) ?_ | refine zG (by decide +kernel) ?_)); intro K hK) | ((first | (with_reducible refine zu ?_ ?_ <;> intro hg) | with_reducible intro hg) <;> (first | (exfalso; simp at hg; done) | (have hg' := hg; (try simp only [hcs, beq_iff_eq, ge_iff_le, gt_iff_lt] at hg'); (try simp only [hg]))))) <;> (try simp (disch := omega) only [go_sem, wn]) <;> (repeat' with_reducible refine And.intro ?_ ?_) <;> (try (with_reducible refine hK _ ?_; clear hK K)))
| omega)
  · have e : l.length = 0 := by
      rcases Nat.eq_zero_or_pos l.length with h0 | h0
      · exact h0
      · rw [hg h0] at hc; simp at hc
    rw [nil_of_len e]
    (refine aend_nil (by first | exact .inl rfl | exact .inr rfl) rfl ?_ ?_ <;> simp (disch := omega) only [go_sem, wn])
  · (refine aend_own 1 (by first | exact .inl rfl | exact .inr rfl) rfl ?_ rfl rfl ?_ <;> (try simp (disch := omega) only [go_sem, wn, List.length_map]))
theorem copied_d_c (d : ADisk) (h : d.files.length * 48 ≤ 140737488351232) : acall Tryz.prog [] 124 [d.av] (outs (.agg [.osl 0 3 0 d.files.length]) [.rows 3 (d.files.map AFile.row)]) := by
  refine zI Tryz.func124 rfl (by kernel_rfl) (by simp [Tryz.ntmps124]) ?_; simp only [Tryz.ntmps124, Tryz.results124, go_sem]
  (repeat' first
| (with_reducible refine AR.f ?_)
| refine zb (by decide) ?_
| (with_reducible refine AWP.cond rfl ?_ ?_ <;> intro hc <;> (try simp only [hcs, beq_iff_eq, ge_iff_le, gt_iff_lt] at hc))
| ((first | ((first | (with_reducible first | refine zR ?_ | refine zQ (by decide +kernel) ?_ | refine zD (by decide +kernel) ?_ | refine zE (by decide +kernel) ?_ | refine zG (by decide +kernel) ?_)); intro K hK) | ((first | refine acallH_sc (cloneFile_c _ h) rfl rfl ?_ ?_ ?_ | refine acallQ_sc (cloneFile_c _ h) rfl rfl ?_ ?_ ?_); iterate 2 (focus ((try simp (disch := omega) only [go_sem, wn]) <;> (try omega) <;> fail))) | ((first | refine zN (cloneFile_c _ h) rfl ?_ ?_ | refine zY (cloneFile_c _ h) ?_ ?_); (focus ((try simp (disch := omega) only [go_sem, wn]) <;> (try omega) <;> fail))) | ((first | (with_reducible refine zu ?_ ?_ <;> intro hg) | with_reducible intro hg) <;> (first | (exfalso; simp at hg; done) | (have hg' := hg; (try simp only [hcs, beq_iff_eq, ge_iff_le, gt_iff_lt] at hg'); (try simp only [hg]))))) <;> (try simp (disch := omega) only [go_sem, wn]) <;> (repeat' with_reducible refine And.intro ?_ ?_) <;> (try (with_reducible refine hK _ ?_; clear hK K)))
| omega)
  (refine zO ?_ ?_; (focus ((try simp (disch := omega) only [go_sem, wn]) <;> fail)); simp (disch := omega) only [go_sem, wn]; refine AOut.of_simp ?_ (AOut.same ⟨rfl, rfl⟩); refine zV [2] rfl rfl rfl rfl ?_ ?_ <;> simp (disch := omega) only [go_sem, wn, true_or, or_true])
theorem ref_copied_d_c (d : ADisk) (h : d.files.length * 48 ≤ 140737488351232) : acall Tryz.prog [] 16 [d.av] (ret d.av) := by
  refine zI Tryz.func16 rfl (by kernel_rfl) (by simp [Tryz.ntmps16]) ?_; simp only [Tryz.ntmps16, Tryz.results16, go_sem]
  (repeat' first
| (with_reducible refine AR.f ?_)
| refine zb (by decide) ?_
| (with_reducible refine AWP.cond rfl ?_ ?_ <;> intro hc <;> (try simp only [hcs, beq_iff_eq, ge_iff_le, gt_iff_lt] at hc))
| ((first | ((first | (with_reducible first | refine zR ?_ | refine zQ (by decide +kernel) ?_ | refine zD (by decide +kernel) ?_ | refine zE (by decide +kernel) ?_ | refine zG (by decide +kernel) ?_)); intro K hK) | ((first | (with_reducible refine zu ?_ ?_ <;> intro hg) | with_reducible intro hg) <;> (first | (exfalso; simp at hg; done) | (have hg' := hg; (try simp only [hcs, beq_iff_eq, ge_iff_le, gt_iff_lt] at hg'); (try simp only [hg]))))) <;> (try simp (disch := omega) only [go_sem, wn]) <;> (repeat' with_reducible refine And.intro ?_ ?_) <;> (try (with_reducible refine hK _ ?_; clear hK K)))
| omega)
  all_goals (refine zF rfl ?_ ?_ ?_ ?_; (iterate 3 (focus ((try simp (disch := omega) only [go_sem, wn]) <;> (try omega) <;> fail))); (try simp (disch := omega) only [go_sem, wn, I, B, S, zj]))
theorem same_disk_c (a b : ADisk) (h : a.files.length * 48 ≤ 140737488351232) (h2 : b.files.length * 48 ≤ 140737488351232) : acall Tryz.prog [] 21 [a.av, b.av] (ret (B (decide (a = b)))) := by
  refine zI Tryz.func21 rfl (by kernel_rfl) (by simp [Tryz.ntmps21]) ?_; simp only [Tryz.ntmps21, Tryz.results21, go_sem]
  (repeat' first
| (with_reducible refine AR.f ?_)
| refine zb (by decide) ?_
| (with_reducible refine AWP.cond rfl ?_ ?_ <;> intro hc <;> (try simp only [hcs, beq_iff_eq, ge_iff_le, gt_iff_lt] at hc))
| ((first | ((first | (with_reducible first | refine zR ?_ | refine zQ (by decide +kernel) ?_ | refine zD (by decide +kernel) ?_ | refine zE (by decide +kernel) ?_ | refine zG (by decide +kernel) ?_)); intro K hK) | ((first | (with_reducible refine zu ?_ ?_ <;> intro hg) | with_reducible intro hg) <;> (first | (exfalso; simp at hg; done) | (have hg' := hg; (try simp only [hcs, beq_iff_eq, ge_iff_le, gt_iff_lt] at hg'); (try simp only [hg]))))) <;> (try simp (disch := omega) only [go_sem, wn]) <;> (repeat' with_reducible refine And.intro ?_ ?_) <;> (try (with_reducible refine hK _ ?_; clear hK K)))
| omega)
  · (refine zF rfl ?_ ?_ ?_ ?_; (iterate 3 (focus ((try simp (disch := omega) only [go_sem, wn]) <;> (try omega) <;> fail))); (try simp (disch := omega) only [go_sem, wn, I, B, S, zj]))
    symm; rw [decide_eq_false_iff_not]; intro e; subst e; simp at hc
  have h3 := hc
  refine AWP.loopS (ι := Nat) (fun k => k ≤ a.files.length ∧ ∀ j, j < k → a.files.getD j default = b.files.getD j default) (fun k => a.files.length - k) [2, 3, 15] (fun k => [(16, I k)]) 0 ?_ (by simp (disch := omega) only [go_sem, wn, true_and]) ?_
  · exact ⟨by omega, by omega⟩
  intro k ⟨hk, hk2⟩
  simp only [go_sem]
  (repeat' first
| (with_reducible refine AR.f ?_)
| refine zb (by decide) ?_
| (with_reducible refine AWP.cond rfl ?_ ?_ <;> intro hc <;> (try simp only [hcs, beq_iff_eq, ge_iff_le, gt_iff_lt] at hc))
| ((first | ((first | (with_reducible first | refine zR ?_ | refine zQ (by decide +kernel) ?_ | refine zD (by decide +kernel) ?_ | refine zE (by decide +kernel) ?_ | refine zG (by decide +kernel) ?_)); intro K hK) | ((first | (with_reducible refine zu ?_ ?_ <;> intro hg) | with_reducible intro hg) <;> (first | (exfalso; simp at hg; done) | (have hg' := hg; (try simp only [hcs, beq_iff_eq, ge_iff_le, gt_iff_lt] at hg'); (try simp only [hg]))))) <;> (try simp (disch := omega) only [go_sem, wn]) <;> (repeat' with_reducible refine And.intro ?_ ?_) <;> (try (with_reducible refine hK _ ?_; clear hK K)))
| omega)
  · (refine zF rfl ?_ ?_ ?_ ?_; (iterate 3 (focus ((try simp (disch := omega) only [go_sem, wn]) <;> (try omega) <;> fail))); (try simp (disch := omega) only [go_sem, wn, I, B, S, zj]))
    symm; rw [decide_eq_false_iff_not]; intro e; subst e; simp at hc
  · refine ⟨k + 1, ⟨by omega, fun j hj => ?_⟩, by omega, ?_⟩
    · by_cases e : j = k
      · subst e; exact hc
      · exact hk2 j (by omega)
    (refine SImp.same ?_; simp (disch := omega) only [go_sem, wn, Int.natCast_add])
  · (refine zF rfl ?_ ?_ ?_ ?_; (iterate 3 (focus ((try simp (disch := omega) only [go_sem, wn]) <;> (try omega) <;> fail))); (try simp (disch := omega) only [go_sem, wn, I, B, S, zj]))
    symm; rw [decide_eq_true_eq, ADisk.ext_iff]
    exact eq_of_getD (by omega) fun j hj => hk2 j (by omega)
def readD (l : List AFile) (key : List UInt8) : List UInt8 × Int :=
  if goodD l = false then ([], 3) else if key ∈ l.map AFile.name then ((l.getD (place (l.map AFile.name) key) default).safe ++ (l.getD (place (l.map AFile.name) key) default).tail, 0) else ([], 7)
theorem read_c (d : ADisk) (key : List UInt8) (h : d.files.length * 48 ≤ 140737488351232) (hw : ∀ f, f ∈ d.files → f.wf) : acall Tryz.prog [] 75 [d.av, S key] (ret (.tup [S (readD d.files key).1, I (readD d.files key).2])) := by
  obtain ⟨w0, w1, w2, w3⟩ := file_wf hw (place (d.files.map AFile.name) key)
  refine zI Tryz.func75 rfl (by kernel_rfl) (by simp [Tryz.ntmps75]) ?_; simp only [Tryz.ntmps75, Tryz.results75, go_sem]
  (repeat' first
| (with_reducible refine AR.f ?_)
| refine zb (by decide) ?_
| (with_reducible refine AWP.cond rfl ?_ ?_ <;> intro hc <;> (try simp only [hcs, beq_iff_eq, ge_iff_le, gt_iff_lt] at hc))
| ((first | ((first | (with_reducible first | refine zR ?_ | refine zQ (by decide +kernel) ?_ | refine zD (by decide +kernel) ?_ | refine zE (by decide +kernel) ?_ | refine zG (by decide +kernel) ?_)); intro K hK) | ((first | refine zA (good_d_c d h hw) ?_ ?_ ?_ ?_ ?_ | refine zA (find_c d key h (by assumption)) ?_ ?_ ?_ ?_ ?_); (focus exact rfl); (focus exact rfl); iterate 2 (focus ((try simp (disch := omega) only [go_sem, wn]) <;> (try omega) <;> fail))) | ((first | refine zN (find_c d key h (by assumption)) rfl ?_ ?_ | refine zX (good_d_c d h hw) rfl ?_ ?_); (focus ((try simp (disch := omega) only [go_sem, wn]) <;> (try omega) <;> fail))) | ((first | refine zX (find_c d key h (by assumption)) rfl ?_ ?_ | refine zY (find_c d key h (by assumption)) ?_ ?_); (focus ((try simp (disch := omega) only [go_sem, wn]) <;> (try omega) <;> fail))) | ((first | (with_reducible refine zu ?_ ?_ <;> intro hg) | with_reducible intro hg) <;> (first | (exfalso; simp at hg; done) | (have hg' := hg; (try simp only [hcs, beq_iff_eq, ge_iff_le, gt_iff_lt] at hg'); (try simp only [hg]))))) <;> (try simp (disch := omega) only [go_sem, wn]) <;> (repeat' with_reducible refine And.intro ?_ ?_) <;> (try (with_reducible refine hK _ ?_; clear hK K)))
| omega)
  all_goals (try unfold readD)
  · rw [if_pos hc]; (refine zF rfl ?_ ?_ ?_ ?_; (iterate 3 (focus ((try simp (disch := omega) only [go_sem, wn]) <;> (try omega) <;> fail))); (try simp (disch := omega) only [go_sem, wn, I, B, S, zj]))
  · rw [if_neg (by simp [*]), if_neg hc]; (refine zF rfl ?_ ?_ ?_ ?_; (iterate 3 (focus ((try simp (disch := omega) only [go_sem, wn]) <;> (try omega) <;> fail))); (try simp (disch := omega) only [go_sem, wn, I, B, S, zj]))
  · have := (zc (goodD_rises (by assumption)) hc).1; simp at this; omega
  · have := (zc (goodD_rises (by assumption)) hc).1; simp at this; omega
  · rw [if_neg (by simp [*]), if_pos hc]; (refine zF rfl ?_ ?_ ?_ ?_; (iterate 3 (focus ((try simp (disch := omega) only [go_sem, wn]) <;> (try omega) <;> fail))); (try simp (disch := omega) only [go_sem, wn, I, B, S, zj]))
theorem fileI_neg {l : List AFile} {key : List UInt8} (h : fileI l key < 0) : ¬ key ∈ l.map AFile.name := by
  unfold fileI at h; split at h
  · omega
  · assumption
theorem fileI_pos {l : List AFile} {key : List UInt8} (h : 0 ≤ fileI l key) : key ∈ l.map AFile.name ∧ fileI l key = (place (l.map AFile.name) key : Nat) := by
  unfold fileI at h ⊢; split at h
  · rename_i e; rw [if_pos e]; exact ⟨e, rfl⟩
  · omega
theorem fileI_lt {l : List AFile} {key : List UInt8} (hr : goodD l = true) (h : 0 ≤ fileI l key) : fileI l key < l.length := by
  obtain ⟨a, b⟩ := fileI_pos h
  have := (zc (goodD_rises hr) a).1
  simp at this; omega
theorem ref_read_c (d : ADisk) (key : List UInt8) (h : d.files.length * 48 ≤ 140737488351232) (hw : ∀ f, f ∈ d.files → f.wf) : acall Tryz.prog [] 78 [d.av, S key] (ret (.tup [S (readD d.files key).1, I (readD d.files key).2])) := by
  refine zI Tryz.func78 rfl (by kernel_rfl) (by simp [Tryz.ntmps78]) ?_; simp only [Tryz.ntmps78, Tryz.results78, go_sem]
  (repeat' first
| (with_reducible refine AR.f ?_)
| refine zb (by decide) ?_
| (with_reducible refine AWP.cond rfl ?_ ?_ <;> intro hc <;> (try simp only [hcs, beq_iff_eq, ge_iff_le, gt_iff_lt] at hc))
| ((first | ((first | (with_reducible first | refine zR ?_ | refine zQ (by decide +kernel) ?_ | refine zD (by decide +kernel) ?_ | refine zE (by decide +kernel) ?_ | refine zG (by decide +kernel) ?_)); intro K hK) | ((first | refine zA (ref_good_d_c d h hw) ?_ ?_ ?_ ?_ ?_ | refine zA (file_c d key h (by assumption)) ?_ ?_ ?_ ?_ ?_); (focus exact rfl); (focus exact rfl); iterate 2 (focus ((try simp (disch := omega) only [go_sem, wn]) <;> (try omega) <;> fail))) | ((first | refine zX (ref_good_d_c d h hw) rfl ?_ ?_ | refine zX (file_c d key h (by assumption)) rfl ?_ ?_); (focus ((try simp (disch := omega) only [go_sem, wn]) <;> (try omega) <;> fail))) | ((first | (with_reducible refine zu ?_ ?_ <;> intro hg) | with_reducible intro hg) <;> (first | (exfalso; simp at hg; done) | (have hg' := hg; (try simp only [hcs, beq_iff_eq, ge_iff_le, gt_iff_lt] at hg'); (try simp only [hg]))))) <;> (try simp (disch := omega) only [go_sem, wn]) <;> (repeat' with_reducible refine And.intro ?_ ?_) <;> (try (with_reducible refine hK _ ?_; clear hK K)))
| omega)
  · unfold readD; rw [if_pos hc]; (refine zF rfl ?_ ?_ ?_ ?_; (iterate 3 (focus ((try simp (disch := omega) only [go_sem, wn]) <;> (try omega) <;> fail))); (try simp (disch := omega) only [go_sem, wn, I, B, S, zj]))
  · unfold readD; rw [if_neg (by simp [*]), if_neg (fileI_neg hc)]; (refine zF rfl ?_ ?_ ?_ ?_; (iterate 3 (focus ((try simp (disch := omega) only [go_sem, wn]) <;> (try omega) <;> fail))); (try simp (disch := omega) only [go_sem, wn, I, B, S, zj]))
  · exact fileI_lt (by assumption) hc
  · exact fileI_lt (by assumption) hc
  · obtain ⟨w0, w1, w2, w3⟩ := file_wf hw (fileI d.files key).toNat; omega
  · have e := fileI_pos hc
    unfold readD; rw [if_neg (by simp [*]), if_pos e.1]
    rw [e.2]; (refine zF rfl ?_ ?_ ?_ ?_; (iterate 3 (focus ((try simp (disch := omega) only [go_sem, wn]) <;> (try omega) <;> fail))); (try simp (disch := omega) only [go_sem, wn, I, B, S, zj]))
def changeD (l : List AFile) (key : List UInt8) (F : AFile → AFile × Int) : ADisk × Int :=
  if goodD l = false then (default, 3) else if key ∈ l.map AFile.name then
    (if (F (l.getD (place (l.map AFile.name) key) default)).2 = 0 then (⟨l.set (place (l.map AFile.name) key) (F (l.getD (place (l.map AFile.name) key) default)).1⟩, 0) else (default, (F (l.getD (place (l.map AFile.name) key) default)).2)) else (default, 7)
def syncF (f : AFile) : AFile × Int := (⟨f.name, f.safe ++ f.tail, []⟩, 0)
def cutF (n : Int) (f : AFile) : AFile × Int := if n < 0 ∨ (f.safe.length : Int) + f.tail.length < n then (default, 3) else (⟨f.name, (f.safe ++ f.tail).take n.toNat, []⟩, 0)
theorem change_bad {l : List AFile} {key : List UInt8} {F : AFile → AFile × Int} (h : ¬ goodD l = true) : changeD l key F = (default, 3) := by unfold changeD; rw [if_pos (by simpa using h)]
theorem change_none {l : List AFile} {key : List UInt8} {F : AFile → AFile × Int} (h : goodD l = true) (h2 : ¬ key ∈ l.map AFile.name) : changeD l key F = (default, 7) := by unfold changeD; rw [if_neg (by simp [h]), if_neg h2]
theorem change_err {l : List AFile} {key : List UInt8} {F : AFile → AFile × Int} (h : goodD l = true) (h2 : key ∈ l.map AFile.name) (h3 : ¬ (F (l.getD (place (l.map AFile.name) key) default)).2 = 0) :
    changeD l key F = (default, (F (l.getD (place (l.map AFile.name) key) default)).2) := by unfold changeD; rw [if_neg (by simp [h]), if_pos h2, if_neg h3]
theorem change_ok {l : List AFile} {key : List UInt8} {F : AFile → AFile × Int} (h : goodD l = true) (h2 : key ∈ l.map AFile.name) (h3 : (F (l.getD (place (l.map AFile.name) key) default)).2 = 0) :
    changeD l key F = (⟨l.set (place (l.map AFile.name) key) (F (l.getD (place (l.map AFile.name) key) default)).1⟩, 0) := by unfold changeD; rw [if_neg (by simp [h]), if_pos h2, if_pos h3]
theorem place_lt {l : List AFile} {key : List UInt8} (h : goodD l = true) (h2 : key ∈ l.map AFile.name) : place (l.map AFile.name) key < l.length := by
  have := (zc (goodD_rises h) h2).1; simpa using this
theorem ref_copied_o_c (d : ADisk) (h : d.files.length * 48 ≤ 140737488351232) : acall Tryz.prog [] 16 [d.av] (outs (.agg [.osl 0 3 0 d.files.length]) [.rows 3 (d.files.map AFile.row)]) := by
  refine zI Tryz.func16 rfl (by kernel_rfl) (by simp [Tryz.ntmps16]) ?_; simp only [Tryz.ntmps16, Tryz.results16, go_sem]
  (repeat' first
| (with_reducible refine AR.f ?_)
| refine zb (by decide) ?_
| (with_reducible refine AWP.cond rfl ?_ ?_ <;> intro hc <;> (try simp only [hcs, beq_iff_eq, ge_iff_le, gt_iff_lt] at hc))
| ((first | ((first | (with_reducible first | refine zR ?_ | refine zQ (by decide +kernel) ?_ | refine zD (by decide +kernel) ?_ | refine zE (by decide +kernel) ?_ | refine zG (by decide +kernel) ?_)); intro K hK) | ((first | (with_reducible refine zu ?_ ?_ <;> intro hg) | with_reducible intro hg) <;> (first | (exfalso; simp at hg; done) | (have hg' := hg; (try simp only [hcs, beq_iff_eq, ge_iff_le, gt_iff_lt] at hg'); (try simp only [hg]))))) <;> (try simp (disch := omega) only [go_sem, wn]) <;> (repeat' with_reducible refine And.intro ?_ ?_) <;> (try (with_reducible refine hK _ ?_; clear hK K)))
| omega)
  all_goals (refine zO ?_ ?_; (focus ((try simp (disch := omega) only [go_sem, wn]) <;> fail)); simp (disch := omega) only [go_sem, wn]; refine AOut.of_simp ?_ (AOut.same ⟨rfl, rfl⟩); refine zV [2] rfl rfl rfl rfl ?_ ?_ <;> simp (disch := omega) only [go_sem, wn, true_or, or_true])
theorem fileI_no {l : List AFile} {key : List UInt8} (h : ¬ key ∈ l.map AFile.name) : fileI l key = -1 := by unfold fileI; rw [if_neg h]
theorem fileI_yes {l : List AFile} {key : List UInt8} (h : key ∈ l.map AFile.name) : fileI l key = (place (l.map AFile.name) key : Nat) := by unfold fileI; rw [if_pos h]
theorem sync_c (d : ADisk) (key : List UInt8) (h : d.files.length * 48 ≤ 140737488351232) (hw : ∀ f, f ∈ d.files → f.wf) : acall Tryz.prog [] 66 [d.av, S key] (ret (.tup [(changeD d.files key syncF).1.av, I (changeD d.files key syncF).2])) := by
  obtain ⟨w0, w1, w2, w3⟩ := file_wf hw (place (d.files.map AFile.name) key)
  by_cases hg : goodD d.files = true
  · by_cases hm : key ∈ d.files.map AFile.name
    · have hpl := place_lt hg hm
      rw [change_ok hg hm rfl]
      refine zI Tryz.func66 rfl (by kernel_rfl) (by simp [Tryz.ntmps66]) ?_; simp only [Tryz.ntmps66, Tryz.results66, go_sem]
      (repeat' first
    | (with_reducible refine AR.f ?_)
    | refine zb (by decide) ?_
    | (with_reducible refine AWP.cond rfl ?_ ?_ <;> intro hc <;> (try simp only [hcs, beq_iff_eq, ge_iff_le, gt_iff_lt] at hc))
    | (refine zh fun Kk hKk => (zi tabOk Tryz.func127 rfl (by kernel_rfl) (by simp [Tryz.ntmps127]) ?_); simp only [Tryz.ntmps127, Tryz.results127, List.toList_toArray, apar, List.length_nil, List.length_cons, Nat.reduceAdd, List.length_append, List.length_set, go_sem])
    | (refine zh fun Kk hKk => (zi tabOk Tryz.func128 rfl (by kernel_rfl) (by simp [Tryz.ntmps128]) ?_); simp only [Tryz.ntmps128, Tryz.results128, List.toList_toArray, apar, List.length_nil, List.length_cons, Nat.reduceAdd, List.length_append, List.length_set, go_sem])
    | ((first | ((first | (with_reducible first | refine zR ?_ | refine zQ (by decide +kernel) ?_ | refine zD (by decide +kernel) ?_ | refine zE (by decide +kernel) ?_ | refine zG (by decide +kernel) ?_)); intro K hK) | ((first | refine zA ((good_d_c d h hw).re (by rw [hg])) ?_ ?_ ?_ ?_ ?_ | refine zA ((find_c d key h hg).re (by rw [decide_eq_true hm])) ?_ ?_ ?_ ?_ ?_); (focus exact rfl); (focus exact rfl); iterate 2 (focus ((try simp (disch := omega) only [go_sem, wn, AFile.rgetD, zg, AFile.rset, zm, List.set_set]) <;> (try omega) <;> fail))) | ((first | refine zN ((find_c d key h hg).re (by rw [decide_eq_true hm])) rfl ?_ ?_ | refine zN (copied_d_c d h) rfl ?_ ?_ | refine zX ((good_d_c d h hw).re (by rw [hg])) rfl ?_ ?_ | refine zY (copied_d_c d h) ?_ ?_); (focus ((try simp (disch := omega) only [go_sem, wn, AFile.rgetD, zg, AFile.rset, zm, List.set_set]) <;> (try omega) <;> fail))) | ((first | refine zX ((find_c d key h hg).re (by rw [decide_eq_true hm])) rfl ?_ ?_ | refine zY ((find_c d key h hg).re (by rw [decide_eq_true hm])) ?_ ?_); (focus ((try simp (disch := omega) only [go_sem, wn, AFile.rgetD, zg, AFile.rset, zm, List.set_set]) <;> (try omega) <;> fail))) | (refine zw (v := ?_) hKk (by first | exact .inl rfl | exact .inr rfl) ?_ ?_ ?_; rotate_left; (focus ((try simp (disch := omega) only [go_sem, wn, AFile.rgetD, zg, AFile.rset, zm, List.set_set]) <;> (try omega) <;> fail)); (focus ((try simp (disch := omega) only [go_sem, wn, AFile.rgetD, zg, AFile.rset, zm, List.set_set]) <;> (first | done | exact rfl))); clear hKk Kk) | ((first | (with_reducible refine zu ?_ ?_ <;> intro hg) | with_reducible intro hg) <;> (first | (exfalso; simp at hg; done) | (have hg' := hg; (try simp only [hcs, beq_iff_eq, ge_iff_le, gt_iff_lt] at hg'); (try simp only [hg]))))) <;> (try simp (disch := omega) only [go_sem, wn, AFile.rgetD, zg, AFile.rset, zm, List.set_set]) <;> (repeat' with_reducible refine And.intro ?_ ?_) <;> (try (with_reducible refine hK _ ?_; clear hK K)))
    | omega)
      (refine zF rfl ?_ ?_ ?_ ?_; (iterate 3 (focus ((try simp (disch := omega) only [go_sem, wn, take_map_set]) <;> (try omega) <;> fail))); (try simp (disch := omega) only [go_sem, wn, take_map_set, I, B, S, zj]))
      exact .inl rfl
    · rw [change_none hg hm]
      refine zI Tryz.func66 rfl (by kernel_rfl) (by simp [Tryz.ntmps66]) ?_; simp only [Tryz.ntmps66, Tryz.results66, go_sem]
      (repeat' first
    | (with_reducible refine AR.f ?_)
    | refine zb (by decide) ?_
    | (with_reducible refine AWP.cond rfl ?_ ?_ <;> intro hc <;> (try simp only [hcs, beq_iff_eq, ge_iff_le, gt_iff_lt] at hc))
    | (refine zh fun Kk hKk => (zi tabOk Tryz.func127 rfl (by kernel_rfl) (by simp [Tryz.ntmps127]) ?_); simp only [Tryz.ntmps127, Tryz.results127, List.toList_toArray, apar, List.length_nil, List.length_cons, Nat.reduceAdd, List.length_append, List.length_set, go_sem])
    | (refine zh fun Kk hKk => (zi tabOk Tryz.func128 rfl (by kernel_rfl) (by simp [Tryz.ntmps128]) ?_); simp only [Tryz.ntmps128, Tryz.results128, List.toList_toArray, apar, List.length_nil, List.length_cons, Nat.reduceAdd, List.length_append, List.length_set, go_sem])
    | ((first | ((first | (with_reducible first | refine zR ?_ | refine zQ (by decide +kernel) ?_ | refine zD (by decide +kernel) ?_ | refine zE (by decide +kernel) ?_ | refine zG (by decide +kernel) ?_)); intro K hK) | ((first | refine zA ((good_d_c d h hw).re (by rw [hg])) ?_ ?_ ?_ ?_ ?_ | refine zA ((find_c d key h hg).re (by rw [decide_eq_false hm])) ?_ ?_ ?_ ?_ ?_); (focus exact rfl); (focus exact rfl); iterate 2 (focus ((try simp (disch := omega) only [go_sem, wn]) <;> (try omega) <;> fail))) | ((first | refine zN ((find_c d key h hg).re (by rw [decide_eq_false hm])) rfl ?_ ?_ | refine zX ((good_d_c d h hw).re (by rw [hg])) rfl ?_ ?_); (focus ((try simp (disch := omega) only [go_sem, wn]) <;> (try omega) <;> fail))) | ((first | refine zX ((find_c d key h hg).re (by rw [decide_eq_false hm])) rfl ?_ ?_ | refine zY ((find_c d key h hg).re (by rw [decide_eq_false hm])) ?_ ?_); (focus ((try simp (disch := omega) only [go_sem, wn]) <;> (try omega) <;> fail))) | (refine zw (v := ?_) hKk (by first | exact .inl rfl | exact .inr rfl) ?_ ?_ ?_; rotate_left; (focus ((try simp (disch := omega) only [go_sem, wn]) <;> (try omega) <;> fail)); (focus ((try simp (disch := omega) only [go_sem, wn]) <;> (first | done | exact rfl))); clear hKk Kk) | ((first | (with_reducible refine zu ?_ ?_ <;> intro hg) | with_reducible intro hg) <;> (first | (exfalso; simp at hg; done) | (have hg' := hg; (try simp only [hcs, beq_iff_eq, ge_iff_le, gt_iff_lt] at hg'); (try simp only [hg]))))) <;> (try simp (disch := omega) only [go_sem, wn]) <;> (repeat' with_reducible refine And.intro ?_ ?_) <;> (try (with_reducible refine hK _ ?_; clear hK K)))
    | omega)
      (refine zF rfl ?_ ?_ ?_ ?_; (iterate 3 (focus ((try simp (disch := omega) only [go_sem, wn, default]) <;> (try omega) <;> fail))); (try simp (disch := omega) only [go_sem, wn, default, I, B, S, zj]))
  · rw [change_bad hg]
    rw [Bool.not_eq_true] at hg
    refine zI Tryz.func66 rfl (by kernel_rfl) (by simp [Tryz.ntmps66]) ?_; simp only [Tryz.ntmps66, Tryz.results66, go_sem]
    (repeat' first
  | (with_reducible refine AR.f ?_)
  | refine zb (by decide) ?_
  | (with_reducible refine AWP.cond rfl ?_ ?_ <;> intro hc <;> (try simp only [hcs, beq_iff_eq, ge_iff_le, gt_iff_lt] at hc))
  | (refine zh fun Kk hKk => (zi tabOk Tryz.func127 rfl (by kernel_rfl) (by simp [Tryz.ntmps127]) ?_); simp only [Tryz.ntmps127, Tryz.results127, List.toList_toArray, apar, List.length_nil, List.length_cons, Nat.reduceAdd, List.length_append, List.length_set, go_sem])
  | (refine zh fun Kk hKk => (zi tabOk Tryz.func128 rfl (by kernel_rfl) (by simp [Tryz.ntmps128]) ?_); simp only [Tryz.ntmps128, Tryz.results128, List.toList_toArray, apar, List.length_nil, List.length_cons, Nat.reduceAdd, List.length_append, List.length_set, go_sem])
  | ((first | ((first | (with_reducible first | refine zR ?_ | refine zQ (by decide +kernel) ?_ | refine zD (by decide +kernel) ?_ | refine zE (by decide +kernel) ?_ | refine zG (by decide +kernel) ?_)); intro K hK) | ((first | refine zA ((good_d_c d h hw).re (by rw [hg])) ?_ ?_ ?_ ?_ ?_); (focus exact rfl); (focus exact rfl); iterate 2 (focus ((try simp (disch := omega) only [go_sem, wn]) <;> (try omega) <;> fail))) | ((first | refine zX ((good_d_c d h hw).re (by rw [hg])) rfl ?_ ?_); (focus ((try simp (disch := omega) only [go_sem, wn]) <;> (try omega) <;> fail))) | (refine zw (v := ?_) hKk (by first | exact .inl rfl | exact .inr rfl) ?_ ?_ ?_; rotate_left; (focus ((try simp (disch := omega) only [go_sem, wn]) <;> (try omega) <;> fail)); (focus ((try simp (disch := omega) only [go_sem, wn]) <;> (first | done | exact rfl))); clear hKk Kk) | ((first | (with_reducible refine zu ?_ ?_ <;> intro hg) | with_reducible intro hg) <;> (first | (exfalso; simp at hg; done) | (have hg' := hg; (try simp only [hcs, beq_iff_eq, ge_iff_le, gt_iff_lt] at hg'); (try simp only [hg]))))) <;> (try simp (disch := omega) only [go_sem, wn]) <;> (repeat' with_reducible refine And.intro ?_ ?_) <;> (try (with_reducible refine hK _ ?_; clear hK K)))
  | omega)
    (refine zF rfl ?_ ?_ ?_ ?_; (iterate 3 (focus ((try simp (disch := omega) only [go_sem, wn, default]) <;> (try omega) <;> fail))); (try simp (disch := omega) only [go_sem, wn, default, I, B, S, zj]))
theorem ref_sync_c (d : ADisk) (key : List UInt8) (h : d.files.length * 48 ≤ 140737488351232) (hw : ∀ f, f ∈ d.files → f.wf) : acall Tryz.prog [] 71 [d.av, S key] (ret (.tup [(changeD d.files key syncF).1.av, I (changeD d.files key syncF).2])) := by
  obtain ⟨w0, w1, w2, w3⟩ := file_wf hw (place (d.files.map AFile.name) key)
  by_cases hg : goodD d.files = true
  · by_cases hm : key ∈ d.files.map AFile.name
    · have hpl := place_lt hg hm
      rw [change_ok hg hm rfl]
      refine zI Tryz.func71 rfl (by kernel_rfl) (by simp [Tryz.ntmps71]) ?_; simp only [Tryz.ntmps71, Tryz.results71, go_sem]
      (repeat' first
    | (with_reducible refine AR.f ?_)
    | refine zb (by decide) ?_
    | (with_reducible refine AWP.cond rfl ?_ ?_ <;> intro hc <;> (try simp only [hcs, beq_iff_eq, ge_iff_le, gt_iff_lt] at hc))
    | (refine zh fun Kk hKk => (zi tabOk Tryz.func134 rfl (by kernel_rfl) (by simp [Tryz.ntmps134]) ?_); simp only [Tryz.ntmps134, Tryz.results134, List.toList_toArray, apar, List.length_nil, List.length_cons, Nat.reduceAdd, List.length_append, List.length_set, go_sem])
    | (refine zh fun Kk hKk => (zi tabOk Tryz.func135 rfl (by kernel_rfl) (by simp [Tryz.ntmps135]) ?_); simp only [Tryz.ntmps135, Tryz.results135, List.toList_toArray, apar, List.length_nil, List.length_cons, Nat.reduceAdd, List.length_append, List.length_set, go_sem])
    | ((first | ((first | (with_reducible first | refine zR ?_ | refine zQ (by decide +kernel) ?_ | refine zD (by decide +kernel) ?_ | refine zE (by decide +kernel) ?_ | refine zG (by decide +kernel) ?_)); intro K hK) | ((first | refine zA ((ref_good_d_c d h hw).re (by rw [hg])) ?_ ?_ ?_ ?_ ?_ | refine zA ((file_c d key h hg).re (by rw [fileI_yes hm])) ?_ ?_ ?_ ?_ ?_); (focus exact rfl); (focus exact rfl); iterate 2 (focus ((try simp (disch := omega) only [go_sem, wn, AFile.rgetD, zg, AFile.rset, zm, List.set_set]) <;> (try omega) <;> fail))) | ((first | refine zN (ref_copied_o_c d h) rfl ?_ ?_ | refine zX ((ref_good_d_c d h hw).re (by rw [hg])) rfl ?_ ?_ | refine zX ((file_c d key h hg).re (by rw [fileI_yes hm])) rfl ?_ ?_ | refine zY (ref_copied_o_c d h) ?_ ?_); (focus ((try simp (disch := omega) only [go_sem, wn, AFile.rgetD, zg, AFile.rset, zm, List.set_set]) <;> (try omega) <;> fail))) | (refine zw (v := ?_) hKk (by first | exact .inl rfl | exact .inr rfl) ?_ ?_ ?_; rotate_left; (focus ((try simp (disch := omega) only [go_sem, wn, AFile.rgetD, zg, AFile.rset, zm, List.set_set]) <;> (try omega) <;> fail)); (focus ((try simp (disch := omega) only [go_sem, wn, AFile.rgetD, zg, AFile.rset, zm, List.set_set]) <;> (first | done | exact rfl))); clear hKk Kk) | ((first | (with_reducible refine zu ?_ ?_ <;> intro hg) | with_reducible intro hg) <;> (first | (exfalso; simp at hg; done) | (have hg' := hg; (try simp only [hcs, beq_iff_eq, ge_iff_le, gt_iff_lt] at hg'); (try simp only [hg]))))) <;> (try simp (disch := omega) only [go_sem, wn, AFile.rgetD, zg, AFile.rset, zm, List.set_set]) <;> (repeat' with_reducible refine And.intro ?_ ?_) <;> (try (with_reducible refine hK _ ?_; clear hK K)))
    | omega)
      (refine zF rfl ?_ ?_ ?_ ?_; (iterate 3 (focus ((try simp (disch := omega) only [go_sem, wn, take_map_set]) <;> (try omega) <;> fail))); (try simp (disch := omega) only [go_sem, wn, take_map_set, I, B, S, zj]))
      exact .inl rfl
    · rw [change_none hg hm]
      refine zI Tryz.func71 rfl (by kernel_rfl) (by simp [Tryz.ntmps71]) ?_; simp only [Tryz.ntmps71, Tryz.results71, go_sem]
      (repeat' first
    | (with_reducible refine AR.f ?_)
    | refine zb (by decide) ?_
    | (with_reducible refine AWP.cond rfl ?_ ?_ <;> intro hc <;> (try simp only [hcs, beq_iff_eq, ge_iff_le, gt_iff_lt] at hc))
    | (refine zh fun Kk hKk => (zi tabOk Tryz.func134 rfl (by kernel_rfl) (by simp [Tryz.ntmps134]) ?_); simp only [Tryz.ntmps134, Tryz.results134, List.toList_toArray, apar, List.length_nil, List.length_cons, Nat.reduceAdd, List.length_append, List.length_set, go_sem])
    | (refine zh fun Kk hKk => (zi tabOk Tryz.func135 rfl (by kernel_rfl) (by simp [Tryz.ntmps135]) ?_); simp only [Tryz.ntmps135, Tryz.results135, List.toList_toArray, apar, List.length_nil, List.length_cons, Nat.reduceAdd, List.length_append, List.length_set, go_sem])
    | ((first | ((first | (with_reducible first | refine zR ?_ | refine zQ (by decide +kernel) ?_ | refine zD (by decide +kernel) ?_ | refine zE (by decide +kernel) ?_ | refine zG (by decide +kernel) ?_)); intro K hK) | ((first | refine zA ((ref_good_d_c d h hw).re (by rw [hg])) ?_ ?_ ?_ ?_ ?_ | refine zA ((file_c d key h hg).re (by rw [fileI_no hm])) ?_ ?_ ?_ ?_ ?_); (focus exact rfl); (focus exact rfl); iterate 2 (focus ((try simp (disch := omega) only [go_sem, wn]) <;> (try omega) <;> fail))) | ((first | refine zX ((ref_good_d_c d h hw).re (by rw [hg])) rfl ?_ ?_ | refine zX ((file_c d key h hg).re (by rw [fileI_no hm])) rfl ?_ ?_); (focus ((try simp (disch := omega) only [go_sem, wn]) <;> (try omega) <;> fail))) | (refine zw (v := ?_) hKk (by first | exact .inl rfl | exact .inr rfl) ?_ ?_ ?_; rotate_left; (focus ((try simp (disch := omega) only [go_sem, wn]) <;> (try omega) <;> fail)); (focus ((try simp (disch := omega) only [go_sem, wn]) <;> (first | done | exact rfl))); clear hKk Kk) | ((first | (with_reducible refine zu ?_ ?_ <;> intro hg) | with_reducible intro hg) <;> (first | (exfalso; simp at hg; done) | (have hg' := hg; (try simp only [hcs, beq_iff_eq, ge_iff_le, gt_iff_lt] at hg'); (try simp only [hg]))))) <;> (try simp (disch := omega) only [go_sem, wn]) <;> (repeat' with_reducible refine And.intro ?_ ?_) <;> (try (with_reducible refine hK _ ?_; clear hK K)))
    | omega)
      (refine zF rfl ?_ ?_ ?_ ?_; (iterate 3 (focus ((try simp (disch := omega) only [go_sem, wn, default]) <;> (try omega) <;> fail))); (try simp (disch := omega) only [go_sem, wn, default, I, B, S, zj]))
  · rw [change_bad hg]
    rw [Bool.not_eq_true] at hg
    refine zI Tryz.func71 rfl (by kernel_rfl) (by simp [Tryz.ntmps71]) ?_; simp only [Tryz.ntmps71, Tryz.results71, go_sem]
    (repeat' first
  | (with_reducible refine AR.f ?_)
  | refine zb (by decide) ?_
  | (with_reducible refine AWP.cond rfl ?_ ?_ <;> intro hc <;> (try simp only [hcs, beq_iff_eq, ge_iff_le, gt_iff_lt] at hc))
  | (refine zh fun Kk hKk => (zi tabOk Tryz.func134 rfl (by kernel_rfl) (by simp [Tryz.ntmps134]) ?_); simp only [Tryz.ntmps134, Tryz.results134, List.toList_toArray, apar, List.length_nil, List.length_cons, Nat.reduceAdd, List.length_append, List.length_set, go_sem])
  | (refine zh fun Kk hKk => (zi tabOk Tryz.func135 rfl (by kernel_rfl) (by simp [Tryz.ntmps135]) ?_); simp only [Tryz.ntmps135, Tryz.results135, List.toList_toArray, apar, List.length_nil, List.length_cons, Nat.reduceAdd, List.length_append, List.length_set, go_sem])
  | ((first | ((first | (with_reducible first | refine zR ?_ | refine zQ (by decide +kernel) ?_ | refine zD (by decide +kernel) ?_ | refine zE (by decide +kernel) ?_ | refine zG (by decide +kernel) ?_)); intro K hK) | ((first | refine zA ((ref_good_d_c d h hw).re (by rw [hg])) ?_ ?_ ?_ ?_ ?_); (focus exact rfl); (focus exact rfl); iterate 2 (focus ((try simp (disch := omega) only [go_sem, wn]) <;> (try omega) <;> fail))) | ((first | refine zX ((ref_good_d_c d h hw).re (by rw [hg])) rfl ?_ ?_); (focus ((try simp (disch := omega) only [go_sem, wn]) <;> (try omega) <;> fail))) | (refine zw (v := ?_) hKk (by first | exact .inl rfl | exact .inr rfl) ?_ ?_ ?_; rotate_left; (focus ((try simp (disch := omega) only [go_sem, wn]) <;> (try omega) <;> fail)); (focus ((try simp (disch := omega) only [go_sem, wn]) <;> (first | done | exact rfl))); clear hKk Kk) | ((first | (with_reducible refine zu ?_ ?_ <;> intro hg) | with_reducible intro hg) <;> (first | (exfalso; simp at hg; done) | (have hg' := hg; (try simp only [hcs, beq_iff_eq, ge_iff_le, gt_iff_lt] at hg'); (try simp only [hg]))))) <;> (try simp (disch := omega) only [go_sem, wn]) <;> (repeat' with_reducible refine And.intro ?_ ?_) <;> (try (with_reducible refine hK _ ?_; clear hK K)))
  | omega)
    (refine zF rfl ?_ ?_ ?_ ?_; (iterate 3 (focus ((try simp (disch := omega) only [go_sem, wn, default]) <;> (try omega) <;> fail))); (try simp (disch := omega) only [go_sem, wn, default, I, B, S, zj]))
theorem cut_c (d : ADisk) (key : List UInt8) (n : Int) (h : d.files.length * 48 ≤ 140737488351232) (hw : ∀ f, f ∈ d.files → f.wf) : acall Tryz.prog [] 118 [d.av, S key, I n] (ret (.tup [(changeD d.files key (cutF n)).1.av, I (changeD d.files key (cutF n)).2])) := by
  obtain ⟨w0, w1, w2, w3⟩ := file_wf hw (place (d.files.map AFile.name) key)
  by_cases hg : goodD d.files = true
  · by_cases hm : key ∈ d.files.map AFile.name
    · have hpl := place_lt hg hm
      by_cases hn : n < 0 ∨ ((d.files.getD (place (d.files.map AFile.name) key) default).safe.length : Int) + (d.files.getD (place (d.files.map AFile.name) key) default).tail.length < n
      · have e : cutF n (d.files.getD (place (d.files.map AFile.name) key) default) = (default, 3) := by unfold cutF; rw [if_pos hn]
        rw [change_err hg hm (by rw [e]; decide), e]
        refine zI Tryz.func118 rfl (by kernel_rfl) (by simp [Tryz.ntmps118]) ?_; simp only [Tryz.ntmps118, Tryz.results118, go_sem]
        (repeat' first
      | (with_reducible refine AR.f ?_)
      | refine zb (by decide) ?_
      | (with_reducible refine AWP.cond rfl ?_ ?_ <;> intro hc <;> (try simp only [hcs, beq_iff_eq, ge_iff_le, gt_iff_lt] at hc))
      | (refine zh fun Kk hKk => (zi tabOk Tryz.func127 rfl (by kernel_rfl) (by simp [Tryz.ntmps127]) ?_); simp only [Tryz.ntmps127, Tryz.results127, List.toList_toArray, apar, List.length_nil, List.length_cons, Nat.reduceAdd, List.length_append, List.length_set, go_sem])
      | (refine zh fun Kk hKk => (zi tabOk Tryz.func185 rfl (by kernel_rfl) (by simp [Tryz.ntmps185]) ?_); simp only [Tryz.ntmps185, Tryz.results185, List.toList_toArray, apar, List.length_nil, List.length_cons, Nat.reduceAdd, List.length_append, List.length_set, go_sem])
      | ((first | ((first | (with_reducible first | refine zR ?_ | refine zQ (by decide +kernel) ?_ | refine zD (by decide +kernel) ?_ | refine zE (by decide +kernel) ?_ | refine zG (by decide +kernel) ?_)); intro K hK) | ((first | refine zA ((good_d_c d h hw).re (by rw [hg])) ?_ ?_ ?_ ?_ ?_ | refine zA ((find_c d key h hg).re (by rw [decide_eq_true hm])) ?_ ?_ ?_ ?_ ?_); (focus exact rfl); (focus exact rfl); iterate 2 (focus ((try simp (disch := omega) only [go_sem, wn, AFile.rgetD, zg, AFile.rset, zm, List.set_set]) <;> (try omega) <;> fail))) | ((first | refine zN ((find_c d key h hg).re (by rw [decide_eq_true hm])) rfl ?_ ?_ | refine zN (copied_d_c d h) rfl ?_ ?_ | refine zX ((good_d_c d h hw).re (by rw [hg])) rfl ?_ ?_ | refine zY (copied_d_c d h) ?_ ?_); (focus ((try simp (disch := omega) only [go_sem, wn, AFile.rgetD, zg, AFile.rset, zm, List.set_set]) <;> (try omega) <;> fail))) | ((first | refine zX ((find_c d key h hg).re (by rw [decide_eq_true hm])) rfl ?_ ?_ | refine zY ((find_c d key h hg).re (by rw [decide_eq_true hm])) ?_ ?_); (focus ((try simp (disch := omega) only [go_sem, wn, AFile.rgetD, zg, AFile.rset, zm, List.set_set]) <;> (try omega) <;> fail))) | (refine zw (v := ?_) hKk (by first | exact .inl rfl | exact .inr rfl) ?_ ?_ ?_; rotate_left; (focus ((try simp (disch := omega) only [go_sem, wn, AFile.rgetD, zg, AFile.rset, zm, List.set_set]) <;> (try omega) <;> fail)); (focus ((try simp (disch := omega) only [go_sem, wn, AFile.rgetD, zg, AFile.rset, zm, List.set_set]) <;> (first | done | exact rfl))); clear hKk Kk) | ((first | (with_reducible refine zu ?_ ?_ <;> intro hg) | with_reducible intro hg) <;> (first | (exfalso; simp at hg; done) | (have hg' := hg; (try simp only [hcs, beq_iff_eq, ge_iff_le, gt_iff_lt] at hg'); (try simp only [hg]))))) <;> (try simp (disch := omega) only [go_sem, wn, AFile.rgetD, zg, AFile.rset, zm, List.set_set]) <;> (repeat' with_reducible refine And.intro ?_ ?_) <;> (try (with_reducible refine hK _ ?_; clear hK K)))
      | omega)
        all_goals first | omega | skip
        all_goals (refine zF rfl ?_ ?_ ?_ ?_; (iterate 3 (focus ((try simp (disch := omega) only [go_sem, wn, default]) <;> (try omega) <;> fail))); (try simp (disch := omega) only [go_sem, wn, default, I, B, S, zj]))
      · have e : cutF n (d.files.getD (place (d.files.map AFile.name) key) default) = (⟨(d.files.getD (place (d.files.map AFile.name) key) default).name, ((d.files.getD (place (d.files.map AFile.name) key) default).safe ++ (d.files.getD (place (d.files.map AFile.name) key) default).tail).take n.toNat, []⟩, 0) := by unfold cutF; rw [if_neg hn]
        rw [change_ok hg hm (by rw [e]), e]
        refine zI Tryz.func118 rfl (by kernel_rfl) (by simp [Tryz.ntmps118]) ?_; simp only [Tryz.ntmps118, Tryz.results118, go_sem]
        (repeat' first
      | (with_reducible refine AR.f ?_)
      | refine zb (by decide) ?_
      | (with_reducible refine AWP.cond rfl ?_ ?_ <;> intro hc <;> (try simp only [hcs, beq_iff_eq, ge_iff_le, gt_iff_lt] at hc))
      | (refine zh fun Kk hKk => (zi tabOk Tryz.func127 rfl (by kernel_rfl) (by simp [Tryz.ntmps127]) ?_); simp only [Tryz.ntmps127, Tryz.results127, List.toList_toArray, apar, List.length_nil, List.length_cons, Nat.reduceAdd, List.length_append, List.length_set, go_sem])
      | (refine zh fun Kk hKk => (zi tabOk Tryz.func185 rfl (by kernel_rfl) (by simp [Tryz.ntmps185]) ?_); simp only [Tryz.ntmps185, Tryz.results185, List.toList_toArray, apar, List.length_nil, List.length_cons, Nat.reduceAdd, List.length_append, List.length_set, go_sem])
      | ((first | ((first | (with_reducible first | refine zR ?_ | refine zQ (by decide +kernel) ?_ | refine zD (by decide +kernel) ?_ | refine zE (by decide +kernel) ?_ | refine zG (by decide +kernel) ?_)); intro K hK) | ((first | refine zA ((good_d_c d h hw).re (by rw [hg])) ?_ ?_ ?_ ?_ ?_ | refine zA ((find_c d key h hg).re (by rw [decide_eq_true hm])) ?_ ?_ ?_ ?_ ?_); (focus exact rfl); (focus exact rfl); iterate 2 (focus ((try simp (disch := omega) only [go_sem, wn, AFile.rgetD, zg, AFile.rset, zm, List.set_set]) <;> (try omega) <;> fail))) | ((first | refine zN ((find_c d key h hg).re (by rw [decide_eq_true hm])) rfl ?_ ?_ | refine zN (copied_d_c d h) rfl ?_ ?_ | refine zX ((good_d_c d h hw).re (by rw [hg])) rfl ?_ ?_ | refine zY (copied_d_c d h) ?_ ?_); (focus ((try simp (disch := omega) only [go_sem, wn, AFile.rgetD, zg, AFile.rset, zm, List.set_set]) <;> (try omega) <;> fail))) | ((first | refine zX ((find_c d key h hg).re (by rw [decide_eq_true hm])) rfl ?_ ?_ | refine zY ((find_c d key h hg).re (by rw [decide_eq_true hm])) ?_ ?_); (focus ((try simp (disch := omega) only [go_sem, wn, AFile.rgetD, zg, AFile.rset, zm, List.set_set]) <;> (try omega) <;> fail))) | (refine zw (v := ?_) hKk (by first | exact .inl rfl | exact .inr rfl) ?_ ?_ ?_; rotate_left; (focus ((try simp (disch := omega) only [go_sem, wn, AFile.rgetD, zg, AFile.rset, zm, List.set_set]) <;> (try omega) <;> fail)); (focus ((try simp (disch := omega) only [go_sem, wn, AFile.rgetD, zg, AFile.rset, zm, List.set_set]) <;> (first | done | exact rfl))); clear hKk Kk) | ((first | (with_reducible refine zu ?_ ?_ <;> intro hg) | with_reducible intro hg) <;> (first | (exfalso; simp at hg; done) | (have hg' := hg; (try simp only [hcs, beq_iff_eq, ge_iff_le, gt_iff_lt] at hg'); (try simp only [hg]))))) <;> (try simp (disch := omega) only [go_sem, wn, AFile.rgetD, zg, AFile.rset, zm, List.set_set]) <;> (repeat' with_reducible refine And.intro ?_ ?_) <;> (try (with_reducible refine hK _ ?_; clear hK K)))
      | omega)
        all_goals first | omega | skip
        (refine zF rfl ?_ ?_ ?_ ?_; (iterate 3 (focus ((try simp (disch := omega) only [go_sem, wn, take_map_set]) <;> (try omega) <;> fail))); (try simp (disch := omega) only [go_sem, wn, take_map_set, I, B, S, zj]))
        exact .inl rfl
    · rw [change_none hg hm]
      refine zI Tryz.func118 rfl (by kernel_rfl) (by simp [Tryz.ntmps118]) ?_; simp only [Tryz.ntmps118, Tryz.results118, go_sem]
      (repeat' first
    | (with_reducible refine AR.f ?_)
    | refine zb (by decide) ?_
    | (with_reducible refine AWP.cond rfl ?_ ?_ <;> intro hc <;> (try simp only [hcs, beq_iff_eq, ge_iff_le, gt_iff_lt] at hc))
    | (refine zh fun Kk hKk => (zi tabOk Tryz.func127 rfl (by kernel_rfl) (by simp [Tryz.ntmps127]) ?_); simp only [Tryz.ntmps127, Tryz.results127, List.toList_toArray, apar, List.length_nil, List.length_cons, Nat.reduceAdd, List.length_append, List.length_set, go_sem])
    | (refine zh fun Kk hKk => (zi tabOk Tryz.func185 rfl (by kernel_rfl) (by simp [Tryz.ntmps185]) ?_); simp only [Tryz.ntmps185, Tryz.results185, List.toList_toArray, apar, List.length_nil, List.length_cons, Nat.reduceAdd, List.length_append, List.length_set, go_sem])
    | ((first | ((first | (with_reducible first | refine zR ?_ | refine zQ (by decide +kernel) ?_ | refine zD (by decide +kernel) ?_ | refine zE (by decide +kernel) ?_ | refine zG (by decide +kernel) ?_)); intro K hK) | ((first | refine zA ((good_d_c d h hw).re (by rw [hg])) ?_ ?_ ?_ ?_ ?_ | refine zA ((find_c d key h hg).re (by rw [decide_eq_false hm])) ?_ ?_ ?_ ?_ ?_); (focus exact rfl); (focus exact rfl); iterate 2 (focus ((try simp (disch := omega) only [go_sem, wn]) <;> (try omega) <;> fail))) | ((first | refine zN ((find_c d key h hg).re (by rw [decide_eq_false hm])) rfl ?_ ?_ | refine zX ((good_d_c d h hw).re (by rw [hg])) rfl ?_ ?_); (focus ((try simp (disch := omega) only [go_sem, wn]) <;> (try omega) <;> fail))) | ((first | refine zX ((find_c d key h hg).re (by rw [decide_eq_false hm])) rfl ?_ ?_ | refine zY ((find_c d key h hg).re (by rw [decide_eq_false hm])) ?_ ?_); (focus ((try simp (disch := omega) only [go_sem, wn]) <;> (try omega) <;> fail))) | (refine zw (v := ?_) hKk (by first | exact .inl rfl | exact .inr rfl) ?_ ?_ ?_; rotate_left; (focus ((try simp (disch := omega) only [go_sem, wn]) <;> (try omega) <;> fail)); (focus ((try simp (disch := omega) only [go_sem, wn]) <;> (first | done | exact rfl))); clear hKk Kk) | ((first | (with_reducible refine zu ?_ ?_ <;> intro hg) | with_reducible intro hg) <;> (first | (exfalso; simp at hg; done) | (have hg' := hg; (try simp only [hcs, beq_iff_eq, ge_iff_le, gt_iff_lt] at hg'); (try simp only [hg]))))) <;> (try simp (disch := omega) only [go_sem, wn]) <;> (repeat' with_reducible refine And.intro ?_ ?_) <;> (try (with_reducible refine hK _ ?_; clear hK K)))
    | omega)
      (refine zF rfl ?_ ?_ ?_ ?_; (iterate 3 (focus ((try simp (disch := omega) only [go_sem, wn, default]) <;> (try omega) <;> fail))); (try simp (disch := omega) only [go_sem, wn, default, I, B, S, zj]))
  · rw [change_bad hg]
    rw [Bool.not_eq_true] at hg
    refine zI Tryz.func118 rfl (by kernel_rfl) (by simp [Tryz.ntmps118]) ?_; simp only [Tryz.ntmps118, Tryz.results118, go_sem]
    (repeat' first
  | (with_reducible refine AR.f ?_)
  | refine zb (by decide) ?_
  | (with_reducible refine AWP.cond rfl ?_ ?_ <;> intro hc <;> (try simp only [hcs, beq_iff_eq, ge_iff_le, gt_iff_lt] at hc))
  | (refine zh fun Kk hKk => (zi tabOk Tryz.func127 rfl (by kernel_rfl) (by simp [Tryz.ntmps127]) ?_); simp only [Tryz.ntmps127, Tryz.results127, List.toList_toArray, apar, List.length_nil, List.length_cons, Nat.reduceAdd, List.length_append, List.length_set, go_sem])
  | (refine zh fun Kk hKk => (zi tabOk Tryz.func185 rfl (by kernel_rfl) (by simp [Tryz.ntmps185]) ?_); simp only [Tryz.ntmps185, Tryz.results185, List.toList_toArray, apar, List.length_nil, List.length_cons, Nat.reduceAdd, List.length_append, List.length_set, go_sem])
  | ((first | ((first | (with_reducible first | refine zR ?_ | refine zQ (by decide +kernel) ?_ | refine zD (by decide +kernel) ?_ | refine zE (by decide +kernel) ?_ | refine zG (by decide +kernel) ?_)); intro K hK) | ((first | refine zA ((good_d_c d h hw).re (by rw [hg])) ?_ ?_ ?_ ?_ ?_); (focus exact rfl); (focus exact rfl); iterate 2 (focus ((try simp (disch := omega) only [go_sem, wn]) <;> (try omega) <;> fail))) | ((first | refine zX ((good_d_c d h hw).re (by rw [hg])) rfl ?_ ?_); (focus ((try simp (disch := omega) only [go_sem, wn]) <;> (try omega) <;> fail))) | (refine zw (v := ?_) hKk (by first | exact .inl rfl | exact .inr rfl) ?_ ?_ ?_; rotate_left; (focus ((try simp (disch := omega) only [go_sem, wn]) <;> (try omega) <;> fail)); (focus ((try simp (disch := omega) only [go_sem, wn]) <;> (first | done | exact rfl))); clear hKk Kk) | ((first | (with_reducible refine zu ?_ ?_ <;> intro hg) | with_reducible intro hg) <;> (first | (exfalso; simp at hg; done) | (have hg' := hg; (try simp only [hcs, beq_iff_eq, ge_iff_le, gt_iff_lt] at hg'); (try simp only [hg]))))) <;> (try simp (disch := omega) only [go_sem, wn]) <;> (repeat' with_reducible refine And.intro ?_ ?_) <;> (try (with_reducible refine hK _ ?_; clear hK K)))
  | omega)
    (refine zF rfl ?_ ?_ ?_ ?_; (iterate 3 (focus ((try simp (disch := omega) only [go_sem, wn, default]) <;> (try omega) <;> fail))); (try simp (disch := omega) only [go_sem, wn, default, I, B, S, zj]))
theorem ref_cut_c (d : ADisk) (key : List UInt8) (n : Int) (h : d.files.length * 48 ≤ 140737488351232) (hw : ∀ f, f ∈ d.files → f.wf) : acall Tryz.prog [] 120 [d.av, S key, I n] (ret (.tup [(changeD d.files key (cutF n)).1.av, I (changeD d.files key (cutF n)).2])) := by
  obtain ⟨w0, w1, w2, w3⟩ := file_wf hw (place (d.files.map AFile.name) key)
  by_cases hg : goodD d.files = true
  · by_cases hm : key ∈ d.files.map AFile.name
    · have hpl := place_lt hg hm
      by_cases hn : n < 0 ∨ ((d.files.getD (place (d.files.map AFile.name) key) default).safe.length : Int) + (d.files.getD (place (d.files.map AFile.name) key) default).tail.length < n
      · have e : cutF n (d.files.getD (place (d.files.map AFile.name) key) default) = (default, 3) := by unfold cutF; rw [if_pos hn]
        rw [change_err hg hm (by rw [e]; decide), e]
        refine zI Tryz.func120 rfl (by kernel_rfl) (by simp [Tryz.ntmps120]) ?_; simp only [Tryz.ntmps120, Tryz.results120, go_sem]
        (repeat' first
      | (with_reducible refine AR.f ?_)
      | refine zb (by decide) ?_
      | (with_reducible refine AWP.cond rfl ?_ ?_ <;> intro hc <;> (try simp only [hcs, beq_iff_eq, ge_iff_le, gt_iff_lt] at hc))
      | (refine zh fun Kk hKk => (zi tabOk Tryz.func134 rfl (by kernel_rfl) (by simp [Tryz.ntmps134]) ?_); simp only [Tryz.ntmps134, Tryz.results134, List.toList_toArray, apar, List.length_nil, List.length_cons, Nat.reduceAdd, List.length_append, List.length_set, go_sem])
      | (refine zh fun Kk hKk => (zi tabOk Tryz.func187 rfl (by kernel_rfl) (by simp [Tryz.ntmps187]) ?_); simp only [Tryz.ntmps187, Tryz.results187, List.toList_toArray, apar, List.length_nil, List.length_cons, Nat.reduceAdd, List.length_append, List.length_set, go_sem])
      | ((first | ((first | (with_reducible first | refine zR ?_ | refine zQ (by decide +kernel) ?_ | refine zD (by decide +kernel) ?_ | refine zE (by decide +kernel) ?_ | refine zG (by decide +kernel) ?_)); intro K hK) | ((first | refine zA ((ref_good_d_c d h hw).re (by rw [hg])) ?_ ?_ ?_ ?_ ?_ | refine zA ((file_c d key h hg).re (by rw [fileI_yes hm])) ?_ ?_ ?_ ?_ ?_); (focus exact rfl); (focus exact rfl); iterate 2 (focus ((try simp (disch := omega) only [go_sem, wn, AFile.rgetD, zg, AFile.rset, zm, List.set_set]) <;> (try omega) <;> fail))) | ((first | refine zN (ref_copied_o_c d h) rfl ?_ ?_ | refine zX ((ref_good_d_c d h hw).re (by rw [hg])) rfl ?_ ?_ | refine zX ((file_c d key h hg).re (by rw [fileI_yes hm])) rfl ?_ ?_ | refine zY (ref_copied_o_c d h) ?_ ?_); (focus ((try simp (disch := omega) only [go_sem, wn, AFile.rgetD, zg, AFile.rset, zm, List.set_set]) <;> (try omega) <;> fail))) | (refine zw (v := ?_) hKk (by first | exact .inl rfl | exact .inr rfl) ?_ ?_ ?_; rotate_left; (focus ((try simp (disch := omega) only [go_sem, wn, AFile.rgetD, zg, AFile.rset, zm, List.set_set]) <;> (try omega) <;> fail)); (focus ((try simp (disch := omega) only [go_sem, wn, AFile.rgetD, zg, AFile.rset, zm, List.set_set]) <;> (first | done | exact rfl))); clear hKk Kk) | ((first | (with_reducible refine zu ?_ ?_ <;> intro hg) | with_reducible intro hg) <;> (first | (exfalso; simp at hg; done) | (have hg' := hg; (try simp only [hcs, beq_iff_eq, ge_iff_le, gt_iff_lt] at hg'); (try simp only [hg]))))) <;> (try simp (disch := omega) only [go_sem, wn, AFile.rgetD, zg, AFile.rset, zm, List.set_set]) <;> (repeat' with_reducible refine And.intro ?_ ?_) <;> (try (with_reducible refine hK _ ?_; clear hK K)))
      | omega)
        all_goals first | omega | skip
        all_goals (refine zF rfl ?_ ?_ ?_ ?_; (iterate 3 (focus ((try simp (disch := omega) only [go_sem, wn, default]) <;> (try omega) <;> fail))); (try simp (disch := omega) only [go_sem, wn, default, I, B, S, zj]))
      · have e : cutF n (d.files.getD (place (d.files.map AFile.name) key) default) = (⟨(d.files.getD (place (d.files.map AFile.name) key) default).name, ((d.files.getD (place (d.files.map AFile.name) key) default).safe ++ (d.files.getD (place (d.files.map AFile.name) key) default).tail).take n.toNat, []⟩, 0) := by unfold cutF; rw [if_neg hn]
        rw [change_ok hg hm (by rw [e]), e]
        refine zI Tryz.func120 rfl (by kernel_rfl) (by simp [Tryz.ntmps120]) ?_; simp only [Tryz.ntmps120, Tryz.results120, go_sem]
        (repeat' first
      | (with_reducible refine AR.f ?_)
      | refine zb (by decide) ?_
      | (with_reducible refine AWP.cond rfl ?_ ?_ <;> intro hc <;> (try simp only [hcs, beq_iff_eq, ge_iff_le, gt_iff_lt] at hc))
      | (refine zh fun Kk hKk => (zi tabOk Tryz.func134 rfl (by kernel_rfl) (by simp [Tryz.ntmps134]) ?_); simp only [Tryz.ntmps134, Tryz.results134, List.toList_toArray, apar, List.length_nil, List.length_cons, Nat.reduceAdd, List.length_append, List.length_set, go_sem])
      | (refine zh fun Kk hKk => (zi tabOk Tryz.func187 rfl (by kernel_rfl) (by simp [Tryz.ntmps187]) ?_); simp only [Tryz.ntmps187, Tryz.results187, List.toList_toArray, apar, List.length_nil, List.length_cons, Nat.reduceAdd, List.length_append, List.length_set, go_sem])
      | ((first | ((first | (with_reducible first | refine zR ?_ | refine zQ (by decide +kernel) ?_ | refine zD (by decide +kernel) ?_ | refine zE (by decide +kernel) ?_ | refine zG (by decide +kernel) ?_)); intro K hK) | ((first | refine zA ((ref_good_d_c d h hw).re (by rw [hg])) ?_ ?_ ?_ ?_ ?_ | refine zA ((file_c d key h hg).re (by rw [fileI_yes hm])) ?_ ?_ ?_ ?_ ?_); (focus exact rfl); (focus exact rfl); iterate 2 (focus ((try simp (disch := omega) only [go_sem, wn, AFile.rgetD, zg, AFile.rset, zm, List.set_set]) <;> (try omega) <;> fail))) | ((first | refine zN (ref_copied_o_c d h) rfl ?_ ?_ | refine zX ((ref_good_d_c d h hw).re (by rw [hg])) rfl ?_ ?_ | refine zX ((file_c d key h hg).re (by rw [fileI_yes hm])) rfl ?_ ?_ | refine zY (ref_copied_o_c d h) ?_ ?_); (focus ((try simp (disch := omega) only [go_sem, wn, AFile.rgetD, zg, AFile.rset, zm, List.set_set]) <;> (try omega) <;> fail))) | (refine zw (v := ?_) hKk (by first | exact .inl rfl | exact .inr rfl) ?_ ?_ ?_; rotate_left; (focus ((try simp (disch := omega) only [go_sem, wn, AFile.rgetD, zg, AFile.rset, zm, List.set_set]) <;> (try omega) <;> fail)); (focus ((try simp (disch := omega) only [go_sem, wn, AFile.rgetD, zg, AFile.rset, zm, List.set_set]) <;> (first | done | exact rfl))); clear hKk Kk) | ((first | (with_reducible refine zu ?_ ?_ <;> intro hg) | with_reducible intro hg) <;> (first | (exfalso; simp at hg; done) | (have hg' := hg; (try simp only [hcs, beq_iff_eq, ge_iff_le, gt_iff_lt] at hg'); (try simp only [hg]))))) <;> (try simp (disch := omega) only [go_sem, wn, AFile.rgetD, zg, AFile.rset, zm, List.set_set]) <;> (repeat' with_reducible refine And.intro ?_ ?_) <;> (try (with_reducible refine hK _ ?_; clear hK K)))
      | omega)
        all_goals first | omega | skip
        (refine zF rfl ?_ ?_ ?_ ?_; (iterate 3 (focus ((try simp (disch := omega) only [go_sem, wn, take_map_set]) <;> (try omega) <;> fail))); (try simp (disch := omega) only [go_sem, wn, take_map_set, I, B, S, zj]))
        exact .inl rfl
    · rw [change_none hg hm]
      refine zI Tryz.func120 rfl (by kernel_rfl) (by simp [Tryz.ntmps120]) ?_; simp only [Tryz.ntmps120, Tryz.results120, go_sem]
      (repeat' first
    | (with_reducible refine AR.f ?_)
    | refine zb (by decide) ?_
    | (with_reducible refine AWP.cond rfl ?_ ?_ <;> intro hc <;> (try simp only [hcs, beq_iff_eq, ge_iff_le, gt_iff_lt] at hc))
    | (refine zh fun Kk hKk => (zi tabOk Tryz.func134 rfl (by kernel_rfl) (by simp [Tryz.ntmps134]) ?_); simp only [Tryz.ntmps134, Tryz.results134, List.toList_toArray, apar, List.length_nil, List.length_cons, Nat.reduceAdd, List.length_append, List.length_set, go_sem])
    | (refine zh fun Kk hKk => (zi tabOk Tryz.func187 rfl (by kernel_rfl) (by simp [Tryz.ntmps187]) ?_); simp only [Tryz.ntmps187, Tryz.results187, List.toList_toArray, apar, List.length_nil, List.length_cons, Nat.reduceAdd, List.length_append, List.length_set, go_sem])
    | ((first | ((first | (with_reducible first | refine zR ?_ | refine zQ (by decide +kernel) ?_ | refine zD (by decide +kernel) ?_ | refine zE (by decide +kernel) ?_ | refine zG (by decide +kernel) ?_)); intro K hK) | ((first | refine zA ((ref_good_d_c d h hw).re (by rw [hg])) ?_ ?_ ?_ ?_ ?_ | refine zA ((file_c d key h hg).re (by rw [fileI_no hm])) ?_ ?_ ?_ ?_ ?_); (focus exact rfl); (focus exact rfl); iterate 2 (focus ((try simp (disch := omega) only [go_sem, wn]) <;> (try omega) <;> fail))) | ((first | refine zX ((ref_good_d_c d h hw).re (by rw [hg])) rfl ?_ ?_ | refine zX ((file_c d key h hg).re (by rw [fileI_no hm])) rfl ?_ ?_); (focus ((try simp (disch := omega) only [go_sem, wn]) <;> (try omega) <;> fail))) | (refine zw (v := ?_) hKk (by first | exact .inl rfl | exact .inr rfl) ?_ ?_ ?_; rotate_left; (focus ((try simp (disch := omega) only [go_sem, wn]) <;> (try omega) <;> fail)); (focus ((try simp (disch := omega) only [go_sem, wn]) <;> (first | done | exact rfl))); clear hKk Kk) | ((first | (with_reducible refine zu ?_ ?_ <;> intro hg) | with_reducible intro hg) <;> (first | (exfalso; simp at hg; done) | (have hg' := hg; (try simp only [hcs, beq_iff_eq, ge_iff_le, gt_iff_lt] at hg'); (try simp only [hg]))))) <;> (try simp (disch := omega) only [go_sem, wn]) <;> (repeat' with_reducible refine And.intro ?_ ?_) <;> (try (with_reducible refine hK _ ?_; clear hK K)))
    | omega)
      (refine zF rfl ?_ ?_ ?_ ?_; (iterate 3 (focus ((try simp (disch := omega) only [go_sem, wn, default]) <;> (try omega) <;> fail))); (try simp (disch := omega) only [go_sem, wn, default, I, B, S, zj]))
  · rw [change_bad hg]
    rw [Bool.not_eq_true] at hg
    refine zI Tryz.func120 rfl (by kernel_rfl) (by simp [Tryz.ntmps120]) ?_; simp only [Tryz.ntmps120, Tryz.results120, go_sem]
    (repeat' first
  | (with_reducible refine AR.f ?_)
  | refine zb (by decide) ?_
  | (with_reducible refine AWP.cond rfl ?_ ?_ <;> intro hc <;> (try simp only [hcs, beq_iff_eq, ge_iff_le, gt_iff_lt] at hc))
  | (refine zh fun Kk hKk => (zi tabOk Tryz.func134 rfl (by kernel_rfl) (by simp [Tryz.ntmps134]) ?_); simp only [Tryz.ntmps134, Tryz.results134, List.toList_toArray, apar, List.length_nil, List.length_cons, Nat.reduceAdd, List.length_append, List.length_set, go_sem])
  | (refine zh fun Kk hKk => (zi tabOk Tryz.func187 rfl (by kernel_rfl) (by simp [Tryz.ntmps187]) ?_); simp only [Tryz.ntmps187, Tryz.results187, List.toList_toArray, apar, List.length_nil, List.length_cons, Nat.reduceAdd, List.length_append, List.length_set, go_sem])
  | ((first | ((first | (with_reducible first | refine zR ?_ | refine zQ (by decide +kernel) ?_ | refine zD (by decide +kernel) ?_ | refine zE (by decide +kernel) ?_ | refine zG (by decide +kernel) ?_)); intro K hK) | ((first | refine zA ((ref_good_d_c d h hw).re (by rw [hg])) ?_ ?_ ?_ ?_ ?_); (focus exact rfl); (focus exact rfl); iterate 2 (focus ((try simp (disch := omega) only [go_sem, wn]) <;> (try omega) <;> fail))) | ((first | refine zX ((ref_good_d_c d h hw).re (by rw [hg])) rfl ?_ ?_); (focus ((try simp (disch := omega) only [go_sem, wn]) <;> (try omega) <;> fail))) | (refine zw (v := ?_) hKk (by first | exact .inl rfl | exact .inr rfl) ?_ ?_ ?_; rotate_left; (focus ((try simp (disch := omega) only [go_sem, wn]) <;> (try omega) <;> fail)); (focus ((try simp (disch := omega) only [go_sem, wn]) <;> (first | done | exact rfl))); clear hKk Kk) | ((first | (with_reducible refine zu ?_ ?_ <;> intro hg) | with_reducible intro hg) <;> (first | (exfalso; simp at hg; done) | (have hg' := hg; (try simp only [hcs, beq_iff_eq, ge_iff_le, gt_iff_lt] at hg'); (try simp only [hg]))))) <;> (try simp (disch := omega) only [go_sem, wn]) <;> (repeat' with_reducible refine And.intro ?_ ?_) <;> (try (with_reducible refine hK _ ?_; clear hK K)))
  | omega)
    (refine zF rfl ?_ ?_ ?_ ?_; (iterate 3 (focus ((try simp (disch := omega) only [go_sem, wn, default]) <;> (try omega) <;> fail))); (try simp (disch := omega) only [go_sem, wn, default, I, B, S, zj]))
def removeD (l : List AFile) (key : List UInt8) : ADisk × Int :=
  if goodD l = false then (default, 3) else if key ∈ l.map AFile.name then (⟨l.eraseIdx (place (l.map AFile.name) key)⟩, 0) else (default, 7)
theorem remove_c (d : ADisk) (key : List UInt8) (h : d.files.length * 48 ≤ 140737488351232) (hw : ∀ f, f ∈ d.files → f.wf) : acall Tryz.prog [] 64 [d.av, S key] (ret (.tup [(removeD d.files key).1.av, I (removeD d.files key).2])) := by
  by_cases hg : goodD d.files = true
  · by_cases hm : key ∈ d.files.map AFile.name
    · have hpl := place_lt hg hm
      unfold removeD
      rw [if_neg (by simp [hg]), if_pos hm]
      refine zI Tryz.func64 rfl (by kernel_rfl) (by simp [Tryz.ntmps64]) ?_; simp only [Tryz.ntmps64, Tryz.results64, go_sem]
      (repeat' first
    | (with_reducible refine AR.f ?_)
    | refine zb (by decide) ?_
    | (with_reducible refine AWP.cond rfl ?_ ?_ <;> intro hc <;> (try simp only [hcs, beq_iff_eq, ge_iff_le, gt_iff_lt] at hc))
    | ((first | ((first | (with_reducible first | refine zR ?_ | refine zQ (by decide +kernel) ?_ | refine zD (by decide +kernel) ?_ | refine zE (by decide +kernel) ?_ | refine zG (by decide +kernel) ?_)); intro K hK) | ((first | refine zA ((good_d_c d h hw).re (by rw [hg])) ?_ ?_ ?_ ?_ ?_ | refine zA ((find_c d key h hg).re (by rw [decide_eq_true hm])) ?_ ?_ ?_ ?_ ?_); (focus exact rfl); (focus exact rfl); iterate 2 (focus ((try simp (disch := omega) only [go_sem, wn, zr]) <;> (try omega) <;> fail))) | ((first | refine zN ((find_c d key h hg).re (by rw [decide_eq_true hm])) rfl ?_ ?_ | refine zN (copied_d_c d h) rfl ?_ ?_ | refine zX ((good_d_c d h hw).re (by rw [hg])) rfl ?_ ?_ | refine zY (copied_d_c d h) ?_ ?_); (focus ((try simp (disch := omega) only [go_sem, wn, zr]) <;> (try omega) <;> fail))) | ((first | refine zX ((find_c d key h hg).re (by rw [decide_eq_true hm])) rfl ?_ ?_ | refine zY ((find_c d key h hg).re (by rw [decide_eq_true hm])) ?_ ?_); (focus ((try simp (disch := omega) only [go_sem, wn, zr]) <;> (try omega) <;> fail))) | (refine acallH_own (delFile_c (d.files.map AFile.row) (place (d.files.map AFile.name) key) (by simpa using hpl) (by simpa using h)) ?_ ?_ ?_; (focus ((try simp (disch := omega) only [inj, List.cons.injEq, and_self, List.nodup_cons, List.not_mem_nil, List.mem_cons, not_false_eq_true, List.nodup_nil, go_sem, wn, zr]) <;> (try omega) <;> fail)); (focus ((try simp (disch := omega) only [inj, List.cons.injEq, and_self, List.nodup_cons, List.not_mem_nil, List.mem_cons, not_false_eq_true, List.nodup_nil, go_sem, wn, zr]) <;> (try omega) <;> (try decide) <;> fail))) | ((first | (with_reducible refine zu ?_ ?_ <;> intro hg) | with_reducible intro hg) <;> (first | (exfalso; simp at hg; done) | (have hg' := hg; (try simp only [hcs, beq_iff_eq, ge_iff_le, gt_iff_lt] at hg'); (try simp only [hg]))))) <;> (try simp (disch := omega) only [go_sem, wn, zr]) <;> (repeat' with_reducible refine And.intro ?_ ?_) <;> (try (with_reducible refine hK _ ?_; clear hK K)))
    | omega)
      (refine zF rfl ?_ ?_ ?_ ?_; (iterate 3 (focus ((try simp (disch := omega) only [go_sem, wn, take_map_erase, erase_len]) <;> (try omega) <;> fail))); (try simp (disch := omega) only [go_sem, wn, take_map_erase, erase_len, I, B, S, zj]))
    · unfold removeD
      rw [if_neg (by simp [hg]), if_neg hm]
      refine zI Tryz.func64 rfl (by kernel_rfl) (by simp [Tryz.ntmps64]) ?_; simp only [Tryz.ntmps64, Tryz.results64, go_sem]
      (repeat' first
    | (with_reducible refine AR.f ?_)
    | refine zb (by decide) ?_
    | (with_reducible refine AWP.cond rfl ?_ ?_ <;> intro hc <;> (try simp only [hcs, beq_iff_eq, ge_iff_le, gt_iff_lt] at hc))
    | ((first | ((first | (with_reducible first | refine zR ?_ | refine zQ (by decide +kernel) ?_ | refine zD (by decide +kernel) ?_ | refine zE (by decide +kernel) ?_ | refine zG (by decide +kernel) ?_)); intro K hK) | ((first | refine zA ((good_d_c d h hw).re (by rw [hg])) ?_ ?_ ?_ ?_ ?_ | refine zA ((find_c d key h hg).re (by rw [decide_eq_false hm])) ?_ ?_ ?_ ?_ ?_); (focus exact rfl); (focus exact rfl); iterate 2 (focus ((try simp (disch := omega) only [go_sem, wn]) <;> (try omega) <;> fail))) | ((first | refine zN ((find_c d key h hg).re (by rw [decide_eq_false hm])) rfl ?_ ?_ | refine zX ((good_d_c d h hw).re (by rw [hg])) rfl ?_ ?_); (focus ((try simp (disch := omega) only [go_sem, wn]) <;> (try omega) <;> fail))) | ((first | refine zX ((find_c d key h hg).re (by rw [decide_eq_false hm])) rfl ?_ ?_ | refine zY ((find_c d key h hg).re (by rw [decide_eq_false hm])) ?_ ?_); (focus ((try simp (disch := omega) only [go_sem, wn]) <;> (try omega) <;> fail))) | ((first | (with_reducible refine zu ?_ ?_ <;> intro hg) | with_reducible intro hg) <;> (first | (exfalso; simp at hg; done) | (have hg' := hg; (try simp only [hcs, beq_iff_eq, ge_iff_le, gt_iff_lt] at hg'); (try simp only [hg]))))) <;> (try simp (disch := omega) only [go_sem, wn]) <;> (repeat' with_reducible refine And.intro ?_ ?_) <;> (try (with_reducible refine hK _ ?_; clear hK K)))
    | omega)
      (refine zF rfl ?_ ?_ ?_ ?_; (iterate 3 (focus ((try simp (disch := omega) only [go_sem, wn, default]) <;> (try omega) <;> fail))); (try simp (disch := omega) only [go_sem, wn, default, I, B, S, zj]))
  · unfold removeD
    rw [if_pos (by simpa using hg)]
    rw [Bool.not_eq_true] at hg
    refine zI Tryz.func64 rfl (by kernel_rfl) (by simp [Tryz.ntmps64]) ?_; simp only [Tryz.ntmps64, Tryz.results64, go_sem]
    (repeat' first
  | (with_reducible refine AR.f ?_)
  | refine zb (by decide) ?_
  | (with_reducible refine AWP.cond rfl ?_ ?_ <;> intro hc <;> (try simp only [hcs, beq_iff_eq, ge_iff_le, gt_iff_lt] at hc))
  | ((first | ((first | (with_reducible first | refine zR ?_ | refine zQ (by decide +kernel) ?_ | refine zD (by decide +kernel) ?_ | refine zE (by decide +kernel) ?_ | refine zG (by decide +kernel) ?_)); intro K hK) | ((first | refine zA ((good_d_c d h hw).re (by rw [hg])) ?_ ?_ ?_ ?_ ?_); (focus exact rfl); (focus exact rfl); iterate 2 (focus ((try simp (disch := omega) only [go_sem, wn]) <;> (try omega) <;> fail))) | ((first | refine zX ((good_d_c d h hw).re (by rw [hg])) rfl ?_ ?_); (focus ((try simp (disch := omega) only [go_sem, wn]) <;> (try omega) <;> fail))) | ((first | (with_reducible refine zu ?_ ?_ <;> intro hg) | with_reducible intro hg) <;> (first | (exfalso; simp at hg; done) | (have hg' := hg; (try simp only [hcs, beq_iff_eq, ge_iff_le, gt_iff_lt] at hg'); (try simp only [hg]))))) <;> (try simp (disch := omega) only [go_sem, wn]) <;> (repeat' with_reducible refine And.intro ?_ ?_) <;> (try (with_reducible refine hK _ ?_; clear hK K)))
  | omega)
    (refine zF rfl ?_ ?_ ?_ ?_; (iterate 3 (focus ((try simp (disch := omega) only [go_sem, wn, default]) <;> (try omega) <;> fail))); (try simp (disch := omega) only [go_sem, wn, default, I, B, S, zj]))
def others (l : List AFile) (key : List UInt8) : List AFile := l.filter fun f => decide (f.name ≠ key)
theorem others_snoc (l : List AFile) (key : List UInt8) (k : Nat) (h : k < l.length) : others (l.take (k + 1)) key = if (l.getD k default).name ≠ key then others (l.take k) key ++ [l.getD k default] else others (l.take k) key := by
  unfold others
  rw [take_snoc l k h, List.filter_append]
  by_cases e : (l.getD k default).name ≠ key
  · rw [if_pos e, List.filter_cons_of_pos (by simpa using e)]; rfl
  · rw [if_neg e, List.filter_cons_of_neg (by simpa using e), List.filter_nil, List.append_nil]
theorem others_none {l : List AFile} {key : List UInt8} (h : ¬ key ∈ l.map AFile.name) : others l key = l := by
  unfold others
  rw [List.filter_eq_self]
  intro f hf
  rw [decide_eq_true_eq]; intro e; exact h (List.mem_map.2 ⟨f, hf, e⟩)
theorem others_erase {l : List AFile} {key : List UInt8} (hr : Rises (l.map AFile.name)) (h : key ∈ l.map AFile.name) : others l key = l.eraseIdx (place (l.map AFile.name) key) := by
  have hp := zc hr h
  generalize place (l.map AFile.name) key = p at *
  have hpl : p < l.length := by simpa using hp.1
  have hne : ∀ j, j < l.length → j ≠ p → (l.getD j default).name ≠ key := fun j hj hjp e => by
    have e1 : (l.map AFile.name).getD j [] = key := by rw [show ([] : List UInt8) = AFile.name default from rfl, getD_map]; exact e
    rcases Nat.lt_or_gt_of_ne hjp with h1 | h1
    · have := rises_lt hr h1 (by simpa using hpl); rw [e1, hp.2] at this; exact List.lt_irrefl _ this
    · have := rises_lt hr h1 (by simpa using hj); rw [e1, hp.2] at this; exact List.lt_irrefl _ this
  have hpk : (l.getD p default).name = key := by have := hp.2; rwa [show ([] : List UInt8) = AFile.name default from rfl, getD_map] at this
  have hs : l = l.take p ++ l.getD p default :: l.drop (p + 1) := by
    rw [List.getD_eq_getElem?_getD, List.getElem?_eq_getElem hpl]
    simp
  have h1 : (l.take p).filter (fun f => decide (f.name ≠ key)) = l.take p := by
    rw [List.filter_eq_self]
    intro f hf
    obtain ⟨j, hj, rfl⟩ := List.mem_take_iff_getElem.1 hf
    have := hne j (by omega) (by omega)
    rw [List.getD_eq_getElem?_getD, List.getElem?_eq_getElem (by omega)] at this
    simpa using this
  have h2 : (l.drop (p + 1)).filter (fun f => decide (f.name ≠ key)) = l.drop (p + 1) := by
    rw [List.filter_eq_self]
    intro f hf
    obtain ⟨j, hj, rfl⟩ := List.mem_drop_iff_getElem.1 hf
    have := hne (p + 1 + j) (by omega) (by omega)
    rw [List.getD_eq_getElem?_getD, List.getElem?_eq_getElem (by omega)] at this
    simpa using this
  rw [erase_eq]
  unfold others
  conv => lhs; rw [hs]
  rw [List.filter_append, List.filter_cons_of_neg (by simp only [hpk]; simp), h1, h2]
theorem ref_remove_c (d : ADisk) (key : List UInt8) (h : d.files.length * 48 ≤ 140737488351232) (hw : ∀ f, f ∈ d.files → f.wf) : acall Tryz.prog [] 69 [d.av, S key] (ret (.tup [(removeD d.files key).1.av, I (removeD d.files key).2])) := by
  refine zI Tryz.func69 rfl (by kernel_rfl) (by simp [Tryz.ntmps69]) ?_; simp only [Tryz.ntmps69, Tryz.results69, go_sem]
  (repeat' first
| (with_reducible refine AR.f ?_)
| refine zb (by decide) ?_
| (with_reducible refine AWP.cond rfl ?_ ?_ <;> intro hc <;> (try simp only [hcs, beq_iff_eq, ge_iff_le, gt_iff_lt] at hc))
| ((first | ((first | (with_reducible first | refine zR ?_ | refine zQ (by decide +kernel) ?_ | refine zD (by decide +kernel) ?_ | refine zE (by decide +kernel) ?_ | refine zG (by decide +kernel) ?_)); intro K hK) | ((first | refine zA (ref_good_d_c d h hw) ?_ ?_ ?_ ?_ ?_); (focus exact rfl); (focus exact rfl); iterate 2 (focus ((try simp (disch := omega) only [go_sem, wn]) <;> (try omega) <;> fail))) | ((first | refine zX (ref_good_d_c d h hw) rfl ?_ ?_); (focus ((try simp (disch := omega) only [go_sem, wn]) <;> (try omega) <;> fail))) | ((first | (with_reducible refine zu ?_ ?_ <;> intro hg) | with_reducible intro hg) <;> (first | (exfalso; simp at hg; done) | (have hg' := hg; (try simp only [hcs, beq_iff_eq, ge_iff_le, gt_iff_lt] at hg'); (try simp only [hg]))))) <;> (try simp (disch := omega) only [go_sem, wn]) <;> (repeat' with_reducible refine And.intro ?_ ?_) <;> (try (with_reducible refine hK _ ?_; clear hK K)))
| omega)
  · unfold removeD; rw [if_pos hc]; (refine zF rfl ?_ ?_ ?_ ?_; (iterate 3 (focus ((try simp (disch := omega) only [go_sem, wn, default]) <;> (try omega) <;> fail))); (try simp (disch := omega) only [go_sem, wn, default, I, B, S, zj]))
  refine AWP.weaken (SImp.nilOwnC 2 0 3 rfl rfl) ?_
  simp only [go_sem]
  refine AWP.loopB (ι := Nat) (fun k => k ≤ d.files.length) (fun k => d.files.length - k) [1, 2, 4, 6, 14, 15] (fun k => [(16, I k)]) (fun k => [.cells [.d (.sl 3 (d.files.map AFile.row))], .cells [.d (.sc (.slice none 0 0))], .cells [.osl 3 3 0 (others (d.files.take k) key).length], .rows 3 ((others (d.files.take k) key).map AFile.row)]) 0 ?_ ?_ ?_
  · omega
  · simp only [go_sem]; (refine SImp.same ?_; simp (disch := omega) only [go_sem, wn, Int.natCast_add])
  intro k hk
  have hol : (others (d.files.take k) key).length ≤ k := Nat.le_trans (List.length_filter_le _ _) (List.length_take_le _ _)
  simp only [go_sem]
  (repeat' first
| (with_reducible refine AR.f ?_)
| refine zb (by decide) ?_
| (with_reducible refine AWP.cond rfl ?_ ?_ <;> intro hc <;> (try simp only [hcs, beq_iff_eq, ge_iff_le, gt_iff_lt] at hc))
| ((first | ((first | (with_reducible first | refine zR ?_ | refine zQ (by decide +kernel) ?_ | refine zD (by decide +kernel) ?_ | refine zE (by decide +kernel) ?_ | refine zG (by decide +kernel) ?_)); intro K hK) | ((first | (with_reducible refine zu ?_ ?_ <;> intro hg) | with_reducible intro hg) <;> (first | (exfalso; simp at hg; done) | (have hg' := hg; (try simp only [hcs, beq_iff_eq, ge_iff_le, gt_iff_lt] at hg'); (try simp only [hg]))))) <;> (try simp (disch := omega) only [go_sem, wn, AFile.rgetD, zl, AFile.rsnoc]) <;> (repeat' with_reducible refine And.intro ?_ ?_) <;> (try (with_reducible refine hK _ ?_; clear hK K)))
| omega)
  · refine ⟨k + 1, by omega, by omega, ?_⟩
    rw [others_snoc _ _ _ (by assumption), if_pos hc]
    (refine zV [0, 1, 2, 6] rfl rfl rfl rfl ?_ ?_ <;> simp (disch := omega) only [go_sem, wn, Int.natCast_add, List.length_append] <;> (try rfl))
  · refine ⟨k + 1, by omega, by omega, ?_⟩
    rw [others_snoc _ _ _ (by assumption), if_neg (by simpa using hc)]
    (refine zV [0, 1, 2, 3] rfl rfl rfl rfl ?_ ?_ <;> simp (disch := omega) only [go_sem, wn, Int.natCast_add] <;> (try rfl))
  · have e : k = d.files.length := by omega
    subst e
    simp only [List.take_length] at *
    unfold removeD
    have hno : ¬ key ∈ d.files.map AFile.name := fun hm => by
      rw [others_erase (goodD_rises (by assumption)) hm, erase_len _ _ (place_lt (by assumption) hm)] at hc
      have := place_lt (by assumption) hm
      omega
    rw [if_neg (by simp [*]), if_neg hno]
    (refine zF rfl ?_ ?_ ?_ ?_; (iterate 3 (focus ((try simp (disch := omega) only [go_sem, wn, default]) <;> (try omega) <;> fail))); (try simp (disch := omega) only [go_sem, wn, default, I, B, S, zj]))
  · have e : k = d.files.length := by omega
    subst e
    simp only [List.take_length] at *
    unfold removeD
    have hm : key ∈ d.files.map AFile.name := Classical.byContradiction fun hno => hc (by rw [others_none hno])
    rw [if_neg (by simp [*]), if_pos hm, ← others_erase (goodD_rises (by assumption)) hm]
    (refine zF rfl ?_ ?_ ?_ ?_; (iterate 3 (focus ((try simp (disch := omega) only [go_sem, wn]) <;> (try omega) <;> fail))); (try simp (disch := omega) only [go_sem, wn, I, B, S, zj]))
theorem change_wf {l : List AFile} {key : List UInt8} {F : AFile → AFile × Int} (h : l.length * 48 ≤ 140737488351232) : (changeD l key F).1.files.length * 48 ≤ 140737488351232 := by
  unfold changeD; split
  · decide
  · split
    · split
      · simpa using h
      · show ([] : List AFile).length * 48 ≤ _; decide
    · decide
theorem remove_wf {l : List AFile} {key : List UInt8} (h : l.length * 48 ≤ 140737488351232) : (removeD l key).1.files.length * 48 ≤ 140737488351232 := by
  unfold removeD; split
  · decide
  · split
    · rename_i hg hm; simp only; rw [erase_len _ _ (place_lt (by simpa using hg) hm)]; omega
    · decide
end Go.Proofs.YtainmipdnjcbkaaGreatDoor
namespace Go.Proofs.YtainmipdnjcbkaaGreatDoor
set_option linter.unusedVariables false
set_option linter.unusedSimpArgs false
open Go Go.RowKit
set_option maxRecDepth 100000
set_option linter.unusedSimpArgs false
def writeD (l : List AFile) (key s : List UInt8) : ADisk × Int :=
  if goodD l = false then (default, 3) else if namedP key = false then (default, 2) else
    if key ∈ l.map AFile.name then
      (if 1048576 < (l.getD (place (l.map AFile.name) key) default).safe.length + (l.getD (place (l.map AFile.name) key) default).tail.length + s.length then (default, 1)
        else (⟨l.set (place (l.map AFile.name) key) ⟨(l.getD (place (l.map AFile.name) key) default).name, (l.getD (place (l.map AFile.name) key) default).safe, (l.getD (place (l.map AFile.name) key) default).tail ++ s⟩⟩, 0))
    else if 16 ≤ l.length then (default, 6) else if 1048576 < s.length then (default, 1) else (⟨l.insertIdx (place (l.map AFile.name) key) ⟨key, [], s⟩⟩, 0)
theorem good_len {l : List AFile} (h : goodD l = true) : l.length ≤ 16 := by unfold goodD at h; rw [decide_eq_true_eq] at h; exact h.1
theorem place_le' {l : List AFile} {key : List UInt8} : place (l.map AFile.name) key ≤ l.length := by have := place_le (l.map AFile.name) key; simpa using this
theorem write_c (d : ADisk) (key s : List UInt8) (hs : okS s) (hk : okS key) (h : d.files.length * 48 ≤ 140737488351232) (hw : ∀ f, f ∈ d.files → f.wf) : acall Tryz.prog [] 65 [d.av, S key, S s] (ret (.tup [(writeD d.files key s).1.av, I (writeD d.files key s).2])) := by
  obtain ⟨w0, w1, w2, w3⟩ := file_wf hw (place (d.files.map AFile.name) key)
  unfold okS at hs
  by_cases hg : goodD d.files = true
  · have hl16 := good_len hg
    by_cases hn : namedP key = true
    · have hpl' := place_le' (l := d.files) (key := key)
      by_cases hm : key ∈ d.files.map AFile.name
      · have hpl := place_lt hg hm
        have e : writeD d.files key s = (if 1048576 < (d.files.getD (place (d.files.map AFile.name) key) default).safe.length + (d.files.getD (place (d.files.map AFile.name) key) default).tail.length + s.length then (default, 1)
          else (⟨d.files.set (place (d.files.map AFile.name) key) ⟨(d.files.getD (place (d.files.map AFile.name) key) default).name, (d.files.getD (place (d.files.map AFile.name) key) default).safe, (d.files.getD (place (d.files.map AFile.name) key) default).tail ++ s⟩⟩, 0)) := by
          unfold writeD; rw [if_neg (by simp [hg]), if_neg (by simp [hn]), if_pos hm]
        rw [e]
        refine zI Tryz.func65 rfl (by kernel_rfl) (by simp [Tryz.ntmps65]) ?_; simp only [Tryz.ntmps65, Tryz.results65, go_sem]
        (repeat' first
      | (with_reducible refine AR.f ?_)
      | refine zb (by decide) ?_
      | (with_reducible refine AWP.cond rfl ?_ ?_ <;> intro hc <;> (try simp only [hcs, beq_iff_eq, ge_iff_le, gt_iff_lt] at hc))
      | ((first | ((first | (with_reducible first | refine zR ?_ | refine zQ (by decide +kernel) ?_ | refine zD (by decide +kernel) ?_ | refine zE (by decide +kernel) ?_ | refine zG (by decide +kernel) ?_)); intro K hK) | ((first | refine zA ((good_d_c d h hw).re (by rw [hg])) ?_ ?_ ?_ ?_ ?_ | refine zA ((named_c key hk).re (by rw [hn])) ?_ ?_ ?_ ?_ ?_ | refine zA ((find_c d key h hg).re (by rw [decide_eq_true hm])) ?_ ?_ ?_ ?_ ?_); (focus exact rfl); (focus exact rfl); iterate 2 (focus ((try simp (disch := omega) only [go_sem, wn, AFile.rgetD, zg, AFile.rset, zm, List.set_set]) <;> (try omega) <;> fail))) | ((first | refine zN ((find_c d key h hg).re (by rw [decide_eq_true hm])) rfl ?_ ?_ | refine zN (copied_d_c d h) rfl ?_ ?_ | refine zX ((good_d_c d h hw).re (by rw [hg])) rfl ?_ ?_ | refine zX ((named_c key hk).re (by rw [hn])) rfl ?_ ?_ | refine zY (copied_d_c d h) ?_ ?_); (focus ((try simp (disch := omega) only [go_sem, wn, AFile.rgetD, zg, AFile.rset, zm, List.set_set]) <;> (try omega) <;> fail))) | ((first | refine zX ((find_c d key h hg).re (by rw [decide_eq_true hm])) rfl ?_ ?_ | refine zY ((find_c d key h hg).re (by rw [decide_eq_true hm])) ?_ ?_); (focus ((try simp (disch := omega) only [go_sem, wn, AFile.rgetD, zg, AFile.rset, zm, List.set_set]) <;> (try omega) <;> fail))) | ((first | (with_reducible refine zu ?_ ?_ <;> intro hg) | with_reducible intro hg) <;> (first | (exfalso; simp at hg; done) | (have hg' := hg; (try simp only [hcs, beq_iff_eq, ge_iff_le, gt_iff_lt] at hg'); (try simp only [hg]))))) <;> (try simp (disch := omega) only [go_sem, wn, AFile.rgetD, zg, AFile.rset, zm, List.set_set]) <;> (repeat' with_reducible refine And.intro ?_ ?_) <;> (try (with_reducible refine hK _ ?_; clear hK K)))
      | omega)
        · rw [if_pos (by omega)]; (refine zF rfl ?_ ?_ ?_ ?_; (iterate 3 (focus ((try simp (disch := omega) only [go_sem, wn, default]) <;> (try omega) <;> fail))); (try simp (disch := omega) only [go_sem, wn, default, I, B, S, zj]))
        · rw [if_neg (by omega)]; (refine zF rfl ?_ ?_ ?_ ?_; (iterate 3 (focus ((try simp (disch := omega) only [go_sem, wn, take_map_set]) <;> (try omega) <;> fail))); (try simp (disch := omega) only [go_sem, wn, take_map_set, I, B, S, zj]))
      · by_cases hf : 16 ≤ d.files.length
        · have e : writeD d.files key s = (default, 6) := by unfold writeD; rw [if_neg (by simp [hg]), if_neg (by simp [hn]), if_neg hm, if_pos hf]
          rw [e]
          refine zI Tryz.func65 rfl (by kernel_rfl) (by simp [Tryz.ntmps65]) ?_; simp only [Tryz.ntmps65, Tryz.results65, go_sem]
          (repeat' first
        | (with_reducible refine AR.f ?_)
        | refine zb (by decide) ?_
        | (with_reducible refine AWP.cond rfl ?_ ?_ <;> intro hc <;> (try simp only [hcs, beq_iff_eq, ge_iff_le, gt_iff_lt] at hc))
        | ((first | ((first | (with_reducible first | refine zR ?_ | refine zQ (by decide +kernel) ?_ | refine zD (by decide +kernel) ?_ | refine zE (by decide +kernel) ?_ | refine zG (by decide +kernel) ?_)); intro K hK) | ((first | refine zA ((good_d_c d h hw).re (by rw [hg])) ?_ ?_ ?_ ?_ ?_ | refine zA ((named_c key hk).re (by rw [hn])) ?_ ?_ ?_ ?_ ?_ | refine zA ((find_c d key h hg).re (by rw [decide_eq_false hm])) ?_ ?_ ?_ ?_ ?_); (focus exact rfl); (focus exact rfl); iterate 2 (focus ((try simp (disch := omega) only [go_sem, wn]) <;> (try omega) <;> fail))) | ((first | refine zN ((find_c d key h hg).re (by rw [decide_eq_false hm])) rfl ?_ ?_ | refine zN (copied_d_c d h) rfl ?_ ?_ | refine zX ((good_d_c d h hw).re (by rw [hg])) rfl ?_ ?_ | refine zX ((named_c key hk).re (by rw [hn])) rfl ?_ ?_ | refine zY (copied_d_c d h) ?_ ?_); (focus ((try simp (disch := omega) only [go_sem, wn]) <;> (try omega) <;> fail))) | ((first | refine zX ((find_c d key h hg).re (by rw [decide_eq_false hm])) rfl ?_ ?_ | refine zY ((find_c d key h hg).re (by rw [decide_eq_false hm])) ?_ ?_); (focus ((try simp (disch := omega) only [go_sem, wn]) <;> (try omega) <;> fail))) | ((first | (with_reducible refine zu ?_ ?_ <;> intro hg) | with_reducible intro hg) <;> (first | (exfalso; simp at hg; done) | (have hg' := hg; (try simp only [hcs, beq_iff_eq, ge_iff_le, gt_iff_lt] at hg'); (try simp only [hg]))))) <;> (try simp (disch := omega) only [go_sem, wn]) <;> (repeat' with_reducible refine And.intro ?_ ?_) <;> (try (with_reducible refine hK _ ?_; clear hK K)))
        | omega)
          (refine zF rfl ?_ ?_ ?_ ?_; (iterate 3 (focus ((try simp (disch := omega) only [go_sem, wn, default]) <;> (try omega) <;> fail))); (try simp (disch := omega) only [go_sem, wn, default, I, B, S, zj]))
        · have e : writeD d.files key s = (if 1048576 < s.length then (default, 1) else (⟨d.files.insertIdx (place (d.files.map AFile.name) key) ⟨key, [], s⟩⟩, 0)) := by
            unfold writeD; rw [if_neg (by simp [hg]), if_neg (by simp [hn]), if_neg hm, if_neg hf]
          rw [e]
          have hil := ins_len d.files (place (d.files.map AFile.name) key) (⟨key, [], []⟩ : AFile) hpl'
          have hil2 := ins_len d.files (place (d.files.map AFile.name) key) (⟨key, [], s⟩ : AFile) hpl'
          refine zI Tryz.func65 rfl (by kernel_rfl) (by simp [Tryz.ntmps65]) ?_; simp only [Tryz.ntmps65, Tryz.results65, go_sem]
          (repeat' first
        | (with_reducible refine AR.f ?_)
        | refine zb (by decide) ?_
        | (with_reducible refine AWP.cond rfl ?_ ?_ <;> intro hc <;> (try simp only [hcs, beq_iff_eq, ge_iff_le, gt_iff_lt] at hc))
        | ((first | ((first | (with_reducible first | refine zR ?_ | refine zQ (by decide +kernel) ?_ | refine zD (by decide +kernel) ?_ | refine zE (by decide +kernel) ?_ | refine zG (by decide +kernel) ?_)); intro K hK) | ((first | refine zA ((good_d_c d h hw).re (by rw [hg])) ?_ ?_ ?_ ?_ ?_ | refine zA ((named_c key hk).re (by rw [hn])) ?_ ?_ ?_ ?_ ?_ | refine zA ((find_c d key h hg).re (by rw [decide_eq_false hm])) ?_ ?_ ?_ ?_ ?_); (focus exact rfl); (focus exact rfl); iterate 2 (focus ((try simp (disch := omega) only [go_sem, wn, AFile.rins, getD_insmap, AFile.rset, set_ins, List.length_nil, List.nil_append]) <;> (try omega) <;> fail))) | ((first | refine zN ((find_c d key h hg).re (by rw [decide_eq_false hm])) rfl ?_ ?_ | refine zN (copied_d_c d h) rfl ?_ ?_ | refine zX ((good_d_c d h hw).re (by rw [hg])) rfl ?_ ?_ | refine zX ((named_c key hk).re (by rw [hn])) rfl ?_ ?_ | refine zY (copied_d_c d h) ?_ ?_); (focus ((try simp (disch := omega) only [go_sem, wn, AFile.rins, getD_insmap, AFile.rset, set_ins, List.length_nil, List.nil_append]) <;> (try omega) <;> fail))) | ((first | refine zX ((find_c d key h hg).re (by rw [decide_eq_false hm])) rfl ?_ ?_ | refine zY ((find_c d key h hg).re (by rw [decide_eq_false hm])) ?_ ?_); (focus ((try simp (disch := omega) only [go_sem, wn, AFile.rins, getD_insmap, AFile.rset, set_ins, List.length_nil, List.nil_append]) <;> (try omega) <;> fail))) | (refine acallH_own (insFile_c (d.files.map AFile.row) [.str key, .str [], .str []] (place (d.files.map AFile.name) key) (by simpa using hpl') (by simp only [List.length_map]; omega)) ?_ ?_ ?_; (focus ((try simp (disch := omega) only [inj, List.cons.injEq, and_self, List.nodup_cons, List.not_mem_nil, List.mem_cons, not_false_eq_true, List.nodup_nil, go_sem, wn, AFile.rins, getD_insmap, AFile.rset, set_ins, List.length_nil, List.nil_append]) <;> (try omega) <;> fail)); (focus ((try simp (disch := omega) only [inj, List.cons.injEq, and_self, List.nodup_cons, List.not_mem_nil, List.mem_cons, not_false_eq_true, List.nodup_nil, go_sem, wn, AFile.rins, getD_insmap, AFile.rset, set_ins, List.length_nil, List.nil_append]) <;> (try omega) <;> (try decide) <;> fail))) | ((first | (with_reducible refine zu ?_ ?_ <;> intro hg) | with_reducible intro hg) <;> (first | (exfalso; simp at hg; done) | (have hg' := hg; (try simp only [hcs, beq_iff_eq, ge_iff_le, gt_iff_lt] at hg'); (try simp only [hg]))))) <;> (try simp (disch := omega) only [go_sem, wn, AFile.rins, getD_insmap, AFile.rset, set_ins, List.length_nil, List.nil_append]) <;> (repeat' with_reducible refine And.intro ?_ ?_) <;> (try (with_reducible refine hK _ ?_; clear hK K)))
        | omega)
          · rw [if_pos (by omega)]; (refine zF rfl ?_ ?_ ?_ ?_; (iterate 3 (focus ((try simp (disch := omega) only [go_sem, wn, default]) <;> (try omega) <;> fail))); (try simp (disch := omega) only [go_sem, wn, default, I, B, S, zj]))
          · rw [if_neg (by omega)]; (refine zF rfl ?_ ?_ ?_ ?_; (iterate 3 (focus ((try simp (disch := omega) only [go_sem, wn, take_map_ins]) <;> (try omega) <;> fail))); (try simp (disch := omega) only [go_sem, wn, take_map_ins, I, B, S, zj]))
    · have e : writeD d.files key s = (default, 2) := by unfold writeD; rw [if_neg (by simp [hg]), if_pos (by simpa using hn)]
      rw [e]
      rw [Bool.not_eq_true] at hn
      refine zI Tryz.func65 rfl (by kernel_rfl) (by simp [Tryz.ntmps65]) ?_; simp only [Tryz.ntmps65, Tryz.results65, go_sem]
      (repeat' first
    | (with_reducible refine AR.f ?_)
    | refine zb (by decide) ?_
    | (with_reducible refine AWP.cond rfl ?_ ?_ <;> intro hc <;> (try simp only [hcs, beq_iff_eq, ge_iff_le, gt_iff_lt] at hc))
    | ((first | ((first | (with_reducible first | refine zR ?_ | refine zQ (by decide +kernel) ?_ | refine zD (by decide +kernel) ?_ | refine zE (by decide +kernel) ?_ | refine zG (by decide +kernel) ?_)); intro K hK) | ((first | refine zA ((good_d_c d h hw).re (by rw [hg])) ?_ ?_ ?_ ?_ ?_ | refine zA ((named_c key hk).re (by rw [hn])) ?_ ?_ ?_ ?_ ?_); (focus exact rfl); (focus exact rfl); iterate 2 (focus ((try simp (disch := omega) only [go_sem, wn]) <;> (try omega) <;> fail))) | ((first | refine zX ((good_d_c d h hw).re (by rw [hg])) rfl ?_ ?_ | refine zX ((named_c key hk).re (by rw [hn])) rfl ?_ ?_); (focus ((try simp (disch := omega) only [go_sem, wn]) <;> (try omega) <;> fail))) | ((first | (with_reducible refine zu ?_ ?_ <;> intro hg) | with_reducible intro hg) <;> (first | (exfalso; simp at hg; done) | (have hg' := hg; (try simp only [hcs, beq_iff_eq, ge_iff_le, gt_iff_lt] at hg'); (try simp only [hg]))))) <;> (try simp (disch := omega) only [go_sem, wn]) <;> (repeat' with_reducible refine And.intro ?_ ?_) <;> (try (with_reducible refine hK _ ?_; clear hK K)))
    | omega)
      (refine zF rfl ?_ ?_ ?_ ?_; (iterate 3 (focus ((try simp (disch := omega) only [go_sem, wn, default]) <;> (try omega) <;> fail))); (try simp (disch := omega) only [go_sem, wn, default, I, B, S, zj]))
  · have e : writeD d.files key s = (default, 3) := by unfold writeD; rw [if_pos (by simpa using hg)]
    rw [e]
    rw [Bool.not_eq_true] at hg
    refine zI Tryz.func65 rfl (by kernel_rfl) (by simp [Tryz.ntmps65]) ?_; simp only [Tryz.ntmps65, Tryz.results65, go_sem]
    (repeat' first
  | (with_reducible refine AR.f ?_)
  | refine zb (by decide) ?_
  | (with_reducible refine AWP.cond rfl ?_ ?_ <;> intro hc <;> (try simp only [hcs, beq_iff_eq, ge_iff_le, gt_iff_lt] at hc))
  | ((first | ((first | (with_reducible first | refine zR ?_ | refine zQ (by decide +kernel) ?_ | refine zD (by decide +kernel) ?_ | refine zE (by decide +kernel) ?_ | refine zG (by decide +kernel) ?_)); intro K hK) | ((first | refine zA ((good_d_c d h hw).re (by rw [hg])) ?_ ?_ ?_ ?_ ?_); (focus exact rfl); (focus exact rfl); iterate 2 (focus ((try simp (disch := omega) only [go_sem, wn]) <;> (try omega) <;> fail))) | ((first | refine zX ((good_d_c d h hw).re (by rw [hg])) rfl ?_ ?_); (focus ((try simp (disch := omega) only [go_sem, wn]) <;> (try omega) <;> fail))) | ((first | (with_reducible refine zu ?_ ?_ <;> intro hg) | with_reducible intro hg) <;> (first | (exfalso; simp at hg; done) | (have hg' := hg; (try simp only [hcs, beq_iff_eq, ge_iff_le, gt_iff_lt] at hg'); (try simp only [hg]))))) <;> (try simp (disch := omega) only [go_sem, wn]) <;> (repeat' with_reducible refine And.intro ?_ ?_) <;> (try (with_reducible refine hK _ ?_; clear hK K)))
  | omega)
    (refine zF rfl ?_ ?_ ?_ ?_; (iterate 3 (focus ((try simp (disch := omega) only [go_sem, wn, default]) <;> (try omega) <;> fail))); (try simp (disch := omega) only [go_sem, wn, default, I, B, S, zj]))
theorem at_place {l : List AFile} {key : List UInt8} {k : Nat} {x : AFile} (hg : goodD l = true) (hm : ¬ key ∈ l.map AFile.name) (hkl : k ≤ l.length) (hk2 : ∀ j, k ≤ j → j < l.length → key < (l.getD j default).name)
    (hc : (k : Int) ≤ 0 ∨ ((l.insertIdx k x).getD (k - 1) default).name < key ∨ ((l.insertIdx k x).getD (k - 1) default).name = key) : place (l.map AFile.name) key = k := by
  have hnm : ∀ k, (l.map AFile.name).getD k [] = (l.getD k default).name := fun k => getD_map AFile.name l k default
  refine place_eq (by simpa using hkl) (fun j hj => ?_) fun h1 => ?_
  · rw [hnm]
    have hk0 : 0 < k := by omega
    have c1 : (l.getD (k - 1) default).name < key := by
      rw [ins_get_lt _ _ _ _ _ hkl (by omega)] at hc
      rcases hc with c | c | c
      · omega
      · exact c
      · exact absurd ((mem_iff_getD _ [] key).2 ⟨k - 1, by simp; omega, by rw [hnm]; exact c⟩) hm
    by_cases e : j = k - 1
    · subst e; exact c1
    · exact List.lt_trans (by have := rises_lt (goodD_rises hg) (i := j) (j := k - 1) (by omega) (by simp; omega); rwa [hnm, hnm] at this) c1
  · rw [hnm]; exact fun h2 => List.lt_irrefl _ (List.lt_trans h2 (hk2 k (Nat.le_refl _) (by simpa using h1)))
theorem ref_write_c (d : ADisk) (key s : List UInt8) (hs : okS s) (hk : okS key) (h : d.files.length * 48 ≤ 140737488351232) (hw : ∀ f, f ∈ d.files → f.wf) : acall Tryz.prog [] 70 [d.av, S key, S s] (ret (.tup [(writeD d.files key s).1.av, I (writeD d.files key s).2])) := by
  obtain ⟨w0, w1, w2, w3⟩ := file_wf hw (place (d.files.map AFile.name) key)
  unfold okS at hs
  by_cases hg : goodD d.files = true
  · have hl16 := good_len hg
    by_cases hn : namedP key = true
    · have hpl' := place_le' (l := d.files) (key := key)
      by_cases hm : key ∈ d.files.map AFile.name
      · have hpl := place_lt hg hm
        have e : writeD d.files key s = (if 1048576 < (d.files.getD (place (d.files.map AFile.name) key) default).safe.length + (d.files.getD (place (d.files.map AFile.name) key) default).tail.length + s.length then (default, 1)
          else (⟨d.files.set (place (d.files.map AFile.name) key) ⟨(d.files.getD (place (d.files.map AFile.name) key) default).name, (d.files.getD (place (d.files.map AFile.name) key) default).safe, (d.files.getD (place (d.files.map AFile.name) key) default).tail ++ s⟩⟩, 0)) := by
          unfold writeD; rw [if_neg (by simp [hg]), if_neg (by simp [hn]), if_pos hm]
        rw [e]
        refine zI Tryz.func70 rfl (by kernel_rfl) (by simp [Tryz.ntmps70]) ?_; simp only [Tryz.ntmps70, Tryz.results70, go_sem]
        (repeat' first
      | (with_reducible refine AR.f ?_)
      | refine zb (by decide) ?_
      | (with_reducible refine AWP.cond rfl ?_ ?_ <;> intro hc <;> (try simp only [hcs, beq_iff_eq, ge_iff_le, gt_iff_lt] at hc))
      | ((first | ((first | (with_reducible first | refine zR ?_ | refine zQ (by decide +kernel) ?_ | refine zD (by decide +kernel) ?_ | refine zE (by decide +kernel) ?_ | refine zG (by decide +kernel) ?_)); intro K hK) | ((first | refine zA ((ref_good_d_c d h hw).re (by rw [hg])) ?_ ?_ ?_ ?_ ?_ | refine zA ((ref_named_c key hk).re (by rw [hn])) ?_ ?_ ?_ ?_ ?_ | refine zA ((file_c d key h hg).re (by rw [fileI_yes hm])) ?_ ?_ ?_ ?_ ?_); (focus exact rfl); (focus exact rfl); iterate 2 (focus ((try simp (disch := omega) only [go_sem, wn, AFile.rgetD, zg, AFile.rset, zm, List.set_set]) <;> (try omega) <;> fail))) | ((first | refine zN (ref_copied_o_c d h) rfl ?_ ?_ | refine zX ((ref_good_d_c d h hw).re (by rw [hg])) rfl ?_ ?_ | refine zX ((ref_named_c key hk).re (by rw [hn])) rfl ?_ ?_ | refine zX ((file_c d key h hg).re (by rw [fileI_yes hm])) rfl ?_ ?_ | refine zY (ref_copied_o_c d h) ?_ ?_); (focus ((try simp (disch := omega) only [go_sem, wn, AFile.rgetD, zg, AFile.rset, zm, List.set_set]) <;> (try omega) <;> fail))) | ((first | (with_reducible refine zu ?_ ?_ <;> intro hg) | with_reducible intro hg) <;> (first | (exfalso; simp at hg; done) | (have hg' := hg; (try simp only [hcs, beq_iff_eq, ge_iff_le, gt_iff_lt] at hg'); (try simp only [hg]))))) <;> (try simp (disch := omega) only [go_sem, wn, AFile.rgetD, zg, AFile.rset, zm, List.set_set]) <;> (repeat' with_reducible refine And.intro ?_ ?_) <;> (try (with_reducible refine hK _ ?_; clear hK K)))
      | omega)
        · rw [if_pos (by omega)]; (refine zF rfl ?_ ?_ ?_ ?_; (iterate 3 (focus ((try simp (disch := omega) only [go_sem, wn, default]) <;> (try omega) <;> fail))); (try simp (disch := omega) only [go_sem, wn, default, I, B, S, zj]))
        · rw [if_neg (by omega)]; (refine zF rfl ?_ ?_ ?_ ?_; (iterate 3 (focus ((try simp (disch := omega) only [go_sem, wn, take_map_set]) <;> (try omega) <;> fail))); (try simp (disch := omega) only [go_sem, wn, take_map_set, I, B, S, zj]))
      · by_cases hf : 16 ≤ d.files.length
        · have e : writeD d.files key s = (default, 6) := by unfold writeD; rw [if_neg (by simp [hg]), if_neg (by simp [hn]), if_neg hm, if_pos hf]
          rw [e]
          refine zI Tryz.func70 rfl (by kernel_rfl) (by simp [Tryz.ntmps70]) ?_; simp only [Tryz.ntmps70, Tryz.results70, go_sem]
          (repeat' first
        | (with_reducible refine AR.f ?_)
        | refine zb (by decide) ?_
        | (with_reducible refine AWP.cond rfl ?_ ?_ <;> intro hc <;> (try simp only [hcs, beq_iff_eq, ge_iff_le, gt_iff_lt] at hc))
        | ((first | ((first | (with_reducible first | refine zR ?_ | refine zQ (by decide +kernel) ?_ | refine zD (by decide +kernel) ?_ | refine zE (by decide +kernel) ?_ | refine zG (by decide +kernel) ?_)); intro K hK) | ((first | refine zA ((ref_good_d_c d h hw).re (by rw [hg])) ?_ ?_ ?_ ?_ ?_ | refine zA ((ref_named_c key hk).re (by rw [hn])) ?_ ?_ ?_ ?_ ?_ | refine zA ((file_c d key h hg).re (by rw [fileI_no hm])) ?_ ?_ ?_ ?_ ?_); (focus exact rfl); (focus exact rfl); iterate 2 (focus ((try simp (disch := omega) only [go_sem, wn]) <;> (try omega) <;> fail))) | ((first | refine zN (ref_copied_o_c d h) rfl ?_ ?_ | refine zX ((ref_good_d_c d h hw).re (by rw [hg])) rfl ?_ ?_ | refine zX ((ref_named_c key hk).re (by rw [hn])) rfl ?_ ?_ | refine zX ((file_c d key h hg).re (by rw [fileI_no hm])) rfl ?_ ?_ | refine zY (ref_copied_o_c d h) ?_ ?_); (focus ((try simp (disch := omega) only [go_sem, wn]) <;> (try omega) <;> fail))) | ((first | (with_reducible refine zu ?_ ?_ <;> intro hg) | with_reducible intro hg) <;> (first | (exfalso; simp at hg; done) | (have hg' := hg; (try simp only [hcs, beq_iff_eq, ge_iff_le, gt_iff_lt] at hg'); (try simp only [hg]))))) <;> (try simp (disch := omega) only [go_sem, wn]) <;> (repeat' with_reducible refine And.intro ?_ ?_) <;> (try (with_reducible refine hK _ ?_; clear hK K)))
        | omega)
          (refine zF rfl ?_ ?_ ?_ ?_; (iterate 3 (focus ((try simp (disch := omega) only [go_sem, wn, default]) <;> (try omega) <;> fail))); (try simp (disch := omega) only [go_sem, wn, default, I, B, S, zj]))
        · have e : writeD d.files key s = (if 1048576 < s.length then (default, 1) else (⟨d.files.insertIdx (place (d.files.map AFile.name) key) ⟨key, [], s⟩⟩, 0)) := by
            unfold writeD; rw [if_neg (by simp [hg]), if_neg (by simp [hn]), if_neg hm, if_neg hf]
          rw [e]
          have hil := ins_len d.files (place (d.files.map AFile.name) key) (⟨key, [], []⟩ : AFile) hpl'
          have hil2 := ins_len d.files (place (d.files.map AFile.name) key) (⟨key, [], s⟩ : AFile) hpl'
          refine zI Tryz.func70 rfl (by kernel_rfl) (by simp [Tryz.ntmps70]) ?_; simp only [Tryz.ntmps70, Tryz.results70, go_sem]
          (repeat' first
        | (with_reducible refine AR.f ?_)
        | refine zb (by decide) ?_
        | (with_reducible refine AWP.cond rfl ?_ ?_ <;> intro hc <;> (try simp only [hcs, beq_iff_eq, ge_iff_le, gt_iff_lt] at hc))
        | ((first | ((first | (with_reducible first | refine zR ?_ | refine zQ (by decide +kernel) ?_ | refine zD (by decide +kernel) ?_ | refine zE (by decide +kernel) ?_ | refine zG (by decide +kernel) ?_)); intro K hK) | ((first | refine zA ((ref_good_d_c d h hw).re (by rw [hg])) ?_ ?_ ?_ ?_ ?_ | refine zA ((ref_named_c key hk).re (by rw [hn])) ?_ ?_ ?_ ?_ ?_ | refine zA ((file_c d key h hg).re (by rw [fileI_no hm])) ?_ ?_ ?_ ?_ ?_); (focus exact rfl); (focus exact rfl); iterate 2 (focus ((try simp (disch := omega) only [go_sem, wn, AFile.rsnoc]) <;> (try omega) <;> fail))) | ((first | refine zN (ref_copied_o_c d h) rfl ?_ ?_ | refine zX ((ref_good_d_c d h hw).re (by rw [hg])) rfl ?_ ?_ | refine zX ((ref_named_c key hk).re (by rw [hn])) rfl ?_ ?_ | refine zX ((file_c d key h hg).re (by rw [fileI_no hm])) rfl ?_ ?_ | refine zY (ref_copied_o_c d h) ?_ ?_); (focus ((try simp (disch := omega) only [go_sem, wn, AFile.rsnoc]) <;> (try omega) <;> fail))) | ((first | (with_reducible refine zu ?_ ?_ <;> intro hg) | with_reducible intro hg) <;> (first | (exfalso; simp at hg; done) | (have hg' := hg; (try simp only [hcs, beq_iff_eq, ge_iff_le, gt_iff_lt] at hg'); (try simp only [hg]))))) <;> (try simp (disch := omega) only [go_sem, wn, AFile.rsnoc]) <;> (repeat' with_reducible refine And.intro ?_ ?_) <;> (try (with_reducible refine hK _ ?_; clear hK K)))
        | omega)
          have e8 : ((d.files.length + 1 : Nat) : Int) - 1 = (d.files.length : Nat) := by omega
          have hrr := goodD_rises hg
          have hnm : ∀ k, (d.files.map AFile.name).getD k [] = (d.files.getD k default).name := fun k => getD_map AFile.name d.files k default
          refine AWP.loopB (ι := Nat) (fun k => k ≤ d.files.length ∧ ∀ j, k ≤ j → j < d.files.length → key < (d.files.getD j default).name) (fun k => k) [1, 2, 3, 6] (fun k => [(8, I k)]) (fun k => [.cells [.osl 4 3 0 (d.files.length + 1)], .cells [.d (.sc (.slice none 0 0))], .dead, .rows 3 [[.str key, .str [], .str []]], .rows 3 ((d.files.insertIdx k ⟨key, [], []⟩).map AFile.row)]) d.files.length ?_ ?_ ?_
          · exact ⟨Nat.le_refl _, fun j h1 h2 => by omega⟩
          · simp only [go_sem, ins_end, e8]; (refine SImp.same ?_; simp (disch := omega) only [go_sem, wn, Int.natCast_add])
          intro k ⟨hkl, hk2⟩
          have hik := ins_len d.files k (⟨key, [], []⟩ : AFile) hkl
          have hik2 := ins_len d.files k (⟨key, [], s⟩ : AFile) hkl
          simp only [go_sem]
          (repeat' first
        | (with_reducible refine AR.f ?_)
        | refine zb (by decide) ?_
        | (with_reducible refine AWP.cond rfl ?_ ?_ <;> intro hc <;> (try simp only [hcs, beq_iff_eq, ge_iff_le, gt_iff_lt] at hc))
        | ((first | ((first | refine zP (Plan.takes [0, 1, 2, 3, 4, 6, 7, 8, 9, 10, 11, 12, 13, 14, 15, 16, 17, 18] (.fork 5 (Plan.takes [19, 20, 21] .done) 19 (Plan.takes [5, 20, 21] .done))) (by decide +kernel) ?_ | (with_reducible first | refine zR ?_ | refine zQ (by decide +kernel) ?_ | refine zD (by decide +kernel) ?_ | refine zE (by decide +kernel) ?_ | refine zG (by decide +kernel) ?_)); intro K hK) | ((first | (with_reducible refine zu ?_ ?_ <;> intro hg) | with_reducible intro hg) <;> (first | (exfalso; simp at hg; done) | (have hg' := hg; (try simp only [hcs, beq_iff_eq, ge_iff_le, gt_iff_lt] at hg'); (try simp only [hg]))))) <;> (try simp (disch := omega) only [go_sem, wn, AFile.rgetD, getD_ins, strLt_eq, toNat_pr, AFile.rset, List.length_set, zm, set_ins]) <;> (repeat' with_reducible refine And.intro ?_ ?_) <;> (try (with_reducible refine hK _ ?_; clear hK K)))
        | omega)
          iterate 2
            · obtain ⟨c0, c1, c2⟩ := hc
              rw [ins_get_lt _ _ _ _ _ hkl (by omega)] at c1 c2
              have e9 : (k : Int) - 1 = ((k - 1 : Nat) : Int) := by omega
              have e10 : (⟨((d.files.insertIdx k (⟨key, [], []⟩ : AFile)).getD (k - 1) default).name, ((d.files.insertIdx k (⟨key, [], []⟩ : AFile)).getD (k - 1) default).safe, ((d.files.insertIdx k (⟨key, [], []⟩ : AFile)).getD (k - 1) default).tail⟩ : AFile) = d.files.getD (k - 1) default := by
                rw [ins_get_lt _ _ _ _ _ hkl (by omega)]
              refine ⟨k - 1, ⟨by omega, fun j h1 h2 => ?_⟩, by omega, ?_⟩
              · by_cases e : j = k - 1
                · subst e; exact lt_of_not c1 c2
                · exact hk2 j (by omega) h2
              rw [e10, ins_swap _ _ _ _ hkl (by omega), e9]
              (refine SImp.same ?_; simp (disch := omega) only [go_sem, wn, Int.natCast_add])
          · rename_i hc1
            have epl := at_place hg hm hkl hk2 hc1
            rw [if_pos (by omega)]; (refine zF rfl ?_ ?_ ?_ ?_; (iterate 3 (focus ((try simp (disch := omega) only [go_sem, wn, default]) <;> (try omega) <;> fail))); (try simp (disch := omega) only [go_sem, wn, default, I, B, S, zj]))
          · rename_i hc1
            have epl := at_place hg hm hkl hk2 hc1
            rw [if_neg (by omega), epl]; (refine zF rfl ?_ ?_ ?_ ?_; (iterate 3 (focus ((try simp (disch := omega) only [go_sem, wn, take_map_ins]) <;> (try omega) <;> fail))); (try simp (disch := omega) only [go_sem, wn, take_map_ins, I, B, S, zj]))
    · have e : writeD d.files key s = (default, 2) := by unfold writeD; rw [if_neg (by simp [hg]), if_pos (by simpa using hn)]
      rw [e]
      rw [Bool.not_eq_true] at hn
      refine zI Tryz.func70 rfl (by kernel_rfl) (by simp [Tryz.ntmps70]) ?_; simp only [Tryz.ntmps70, Tryz.results70, go_sem]
      (repeat' first
    | (with_reducible refine AR.f ?_)
    | refine zb (by decide) ?_
    | (with_reducible refine AWP.cond rfl ?_ ?_ <;> intro hc <;> (try simp only [hcs, beq_iff_eq, ge_iff_le, gt_iff_lt] at hc))
    | ((first | ((first | (with_reducible first | refine zR ?_ | refine zQ (by decide +kernel) ?_ | refine zD (by decide +kernel) ?_ | refine zE (by decide +kernel) ?_ | refine zG (by decide +kernel) ?_)); intro K hK) | ((first | refine zA ((ref_good_d_c d h hw).re (by rw [hg])) ?_ ?_ ?_ ?_ ?_ | refine zA ((ref_named_c key hk).re (by rw [hn])) ?_ ?_ ?_ ?_ ?_); (focus exact rfl); (focus exact rfl); iterate 2 (focus ((try simp (disch := omega) only [go_sem, wn]) <;> (try omega) <;> fail))) | ((first | refine zX ((ref_good_d_c d h hw).re (by rw [hg])) rfl ?_ ?_ | refine zX ((ref_named_c key hk).re (by rw [hn])) rfl ?_ ?_); (focus ((try simp (disch := omega) only [go_sem, wn]) <;> (try omega) <;> fail))) | ((first | (with_reducible refine zu ?_ ?_ <;> intro hg) | with_reducible intro hg) <;> (first | (exfalso; simp at hg; done) | (have hg' := hg; (try simp only [hcs, beq_iff_eq, ge_iff_le, gt_iff_lt] at hg'); (try simp only [hg]))))) <;> (try simp (disch := omega) only [go_sem, wn]) <;> (repeat' with_reducible refine And.intro ?_ ?_) <;> (try (with_reducible refine hK _ ?_; clear hK K)))
    | omega)
      (refine zF rfl ?_ ?_ ?_ ?_; (iterate 3 (focus ((try simp (disch := omega) only [go_sem, wn, default]) <;> (try omega) <;> fail))); (try simp (disch := omega) only [go_sem, wn, default, I, B, S, zj]))
  · have e : writeD d.files key s = (default, 3) := by unfold writeD; rw [if_pos (by simpa using hg)]
    rw [e]
    rw [Bool.not_eq_true] at hg
    refine zI Tryz.func70 rfl (by kernel_rfl) (by simp [Tryz.ntmps70]) ?_; simp only [Tryz.ntmps70, Tryz.results70, go_sem]
    (repeat' first
  | (with_reducible refine AR.f ?_)
  | refine zb (by decide) ?_
  | (with_reducible refine AWP.cond rfl ?_ ?_ <;> intro hc <;> (try simp only [hcs, beq_iff_eq, ge_iff_le, gt_iff_lt] at hc))
  | ((first | ((first | (with_reducible first | refine zR ?_ | refine zQ (by decide +kernel) ?_ | refine zD (by decide +kernel) ?_ | refine zE (by decide +kernel) ?_ | refine zG (by decide +kernel) ?_)); intro K hK) | ((first | refine zA ((ref_good_d_c d h hw).re (by rw [hg])) ?_ ?_ ?_ ?_ ?_); (focus exact rfl); (focus exact rfl); iterate 2 (focus ((try simp (disch := omega) only [go_sem, wn]) <;> (try omega) <;> fail))) | ((first | refine zX ((ref_good_d_c d h hw).re (by rw [hg])) rfl ?_ ?_); (focus ((try simp (disch := omega) only [go_sem, wn]) <;> (try omega) <;> fail))) | ((first | (with_reducible refine zu ?_ ?_ <;> intro hg) | with_reducible intro hg) <;> (first | (exfalso; simp at hg; done) | (have hg' := hg; (try simp only [hcs, beq_iff_eq, ge_iff_le, gt_iff_lt] at hg'); (try simp only [hg]))))) <;> (try simp (disch := omega) only [go_sem, wn]) <;> (repeat' with_reducible refine And.intro ?_ ?_) <;> (try (with_reducible refine hK _ ?_; clear hK K)))
  | omega)
    (refine zF rfl ?_ ?_ ?_ ?_; (iterate 3 (focus ((try simp (disch := omega) only [go_sem, wn, default]) <;> (try omega) <;> fail))); (try simp (disch := omega) only [go_sem, wn, default, I, B, S, zj]))
theorem write_wf {l : List AFile} {key s : List UInt8} : (writeD l key s).1.files.length * 48 ≤ 140737488351232 := by
  unfold writeD; split
  · decide
  · rename_i hg
    have hl := good_len (l := l) (by simpa using hg)
    split
    · decide
    · split
      · split
        · decide
        · show (l.set _ _).length * 48 ≤ _; rw [List.length_set]; omega
      · split
        · decide
        · split
          · decide
          · show (l.insertIdx _ _).length * 48 ≤ _; rw [ins_len _ _ _ place_le']; omega
end Go.Proofs.YtainmipdnjcbkaaGreatDoor
