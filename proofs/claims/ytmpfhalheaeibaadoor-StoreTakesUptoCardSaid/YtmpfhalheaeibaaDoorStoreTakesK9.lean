/- A part of what StoreTakes leans on: texts of this claim, one behind the other. No condition. -/
import Derived.Test.YtmpfhalheaeibaaDoorStoreTakesK8
namespace Go.Proofs.YtmpfhalheaeibaaDoor
set_option linter.unusedVariables false
set_option linter.unusedSimpArgs false
open Go Go.RowKit
set_option maxRecDepth 100000
set_option linter.unusedSimpArgs false
def fileOk (f : AFile) : Prop := namedP f.name = true ∧ f.safe.length + f.tail.length ≤ 1048576
instance (f : AFile) : Decidable (fileOk f) := by unfold fileOk; infer_instance
def fileK (l : List AFile) (k : Nat) : Prop := fileOk (l.getD k default) ∧ (0 < k → (l.getD (k - 1) default).name < (l.getD k default).name)
instance (l : List AFile) (k : Nat) : Decidable (fileK l k) := by unfold fileK; infer_instance
def goodD (l : List AFile) : Bool := decide (l.length ≤ 16 ∧ ∀ k, k < l.length → fileK l k)
theorem goodD_rises {l : List AFile} (h : goodD l = true) : Rises (l.map AFile.name) := by
  intro k hk
  unfold goodD at h; rw [decide_eq_true_eq] at h
  have := (h.2 (k + 1) (by simpa using hk)).2 (by omega)
  have e : ∀ j, (l.map AFile.name).getD j [] = (l.getD j default).name := fun j => getD_map AFile.name l j default
  rw [e, e]
  simpa using this
theorem toNat_pr (n : Nat) : ((n : Int) - 1).toNat = n - 1 := by omega
theorem file_wf {l : List AFile} (h : ∀ f, f ∈ l → f.wf) (k : Nat) : okS (l.getD k default).name ∧ (l.getD k default).name.length ≤ 140737488351232 ∧ (l.getD k default).safe.length ≤ 140737488351232 ∧ (l.getD k default).tail.length ≤ 140737488351232 := by
  by_cases e : k < l.length
  · have := h _ (getD_mem l k e)
    exact ⟨this.1, this.1, this.2.1, this.2.2⟩
  · rw [List.getD_eq_getElem?_getD, List.getElem?_eq_none (by omega)]; exact ⟨show okS [] by unfold okS; decide, by decide, by decide, by decide⟩
theorem good_d_c (d : ADisk) (h : d.files.length * 48 ≤ 140737488351232) (hw : ∀ f, f ∈ d.files → f.wf) : acall Tryd.prog [] 125 [d.av] (ret (B (goodD d.files))) := by
  refine acall_of tabOk Tryd.func125 rfl (by kernel_rfl) (by simp [Tryd.ntmps125]) ?_; simp only [Tryd.ntmps125, Tryd.results125, List.toList_toArray, apar, List.length_nil, List.length_cons, Nat.reduceAdd]
  (repeat' first
| (with_reducible refine AR.f ?_)
| refine blkA_x (by decide) ?_
| (with_reducible refine AWP.cond rfl ?_ ?_ <;> intro hc <;> (try simp only [hcs, beq_iff_eq, ge_iff_le, gt_iff_lt] at hc))
| ((first | ((first | (with_reducible first | refine zR ?_ | refine zQ (by decide +kernel) ?_ | refine zD (by decide +kernel) ?_ | refine zE (by decide +kernel) ?_ | refine zG (by decide +kernel) ?_)); intro K hK) | ((first | (with_reducible refine aunder_i ?_ ?_ <;> intro hg) | with_reducible intro hg) <;> (first | (exfalso; simp at hg; done) | (have hg' := hg; (try simp only [hcs, beq_iff_eq, ge_iff_le, gt_iff_lt] at hg'); (try simp only [hg]))))) <;> (try simp (disch := omega) only [go_sem, wrap_n]) <;> (repeat' with_reducible refine And.intro ?_ ?_) <;> (try (with_reducible refine hK _ ?_; clear hK K)))
| omega)
  · (refine zF rfl ?_ ?_ ?_ ?_; (iterate 3 (focus ((try simp (disch := omega) only [go_sem, wrap_n]) <;> (try omega) <;> fail))); (try simp (disch := omega) only [go_sem, wrap_n, I, B, S, inj, List.cons.injEq, and_true, true_and, and_self]))
    unfold goodD; symm; rw [decide_eq_false_iff_not]; rintro ⟨a, -⟩; omega
  refine AWP.loopS (ι := Nat) (fun k => k ≤ d.files.length ∧ ∀ j, j < k → fileK d.files j) (fun k => d.files.length - k) [1, 10, 11] (fun k => [(12, I k)]) 0 ?_ (by simp (disch := omega) only [go_sem, wrap_n, true_and]) ?_
  · exact ⟨by omega, by omega⟩
  intro k ⟨hk, hk2⟩
  obtain ⟨w0, w1, w2, w3⟩ := file_wf hw k
  simp only [go_sem]
  (repeat' first
| (with_reducible refine AR.f ?_)
| refine blkA_x (by decide) ?_
| (with_reducible refine AWP.cond rfl ?_ ?_ <;> intro hc <;> (try simp only [hcs, beq_iff_eq, ge_iff_le, gt_iff_lt] at hc))
| ((first | ((first | (with_reducible first | refine zR ?_ | refine zQ (by decide +kernel) ?_ | refine zD (by decide +kernel) ?_ | refine zE (by decide +kernel) ?_ | refine zG (by decide +kernel) ?_)); intro K hK) | ((first | refine acallH_sc (named_c _ w0) rfl rfl ?_ ?_ ?_ | refine acallQ_sc (named_c _ w0) rfl rfl ?_ ?_ ?_); iterate 2 (focus ((try simp (disch := omega) only [go_sem, wrap_n, toNat_pr, strLt_eq]) <;> (try omega) <;> fail))) | ((first | refine zN (named_c _ w0) rfl ?_ ?_); (focus ((try simp (disch := omega) only [go_sem, wrap_n, toNat_pr, strLt_eq]) <;> (try omega) <;> fail))) | (first | ((first | refine zX (named_c _ w0) rfl ?_ ?_ | refine acallH_anyx (named_c _ w0) ?_ ?_); (focus ((try simp (disch := omega) only [go_sem, wrap_n, toNat_pr, strLt_eq]) <;> (try omega) <;> fail)))) | ((first | (with_reducible refine aunder_i ?_ ?_ <;> intro hg) | with_reducible intro hg) <;> (first | (exfalso; simp at hg; done) | (have hg' := hg; (try simp only [hcs, beq_iff_eq, ge_iff_le, gt_iff_lt] at hg'); (try simp only [hg]))))) <;> (try simp (disch := omega) only [go_sem, wrap_n, toNat_pr, strLt_eq]) <;> (repeat' with_reducible refine And.intro ?_ ?_) <;> (try (with_reducible refine hK _ ?_; clear hK K)))
| omega)
  · (refine zF rfl ?_ ?_ ?_ ?_; (iterate 3 (focus ((try simp (disch := omega) only [go_sem, wrap_n]) <;> (try omega) <;> fail))); (try simp (disch := omega) only [go_sem, wrap_n, I, B, S, inj, List.cons.injEq, and_true, true_and, and_self]))
    unfold goodD; symm; rw [decide_eq_false_iff_not]; rintro ⟨-, a⟩
    have a1 := a k (by assumption)
    rcases hc with (c | c) | c
    · rw [a1.1.1] at c; exact absurd c (by simp)
    · exact absurd (a1.2 (by omega)) (by simpa using c.2)
    · have := a1.1.2; omega
  · refine ⟨k + 1, ⟨by omega, fun j hj => ?_⟩, by omega, ?_⟩
    · by_cases e : j = k
      · subst e
        exact ⟨⟨hc.1.1, by omega⟩, fun h0 => (hc.1.2.resolve_left (by omega))⟩
      · exact hk2 j (by omega)
    (refine SImp.frame [0] rfl (by intro k hk; first | (simp at hk <;> (simp; omega)) | (simp only [List.mem_cons, List.not_mem_nil, or_false] at hk; simp only [List.length_cons, List.length_nil]; omega)) (by decide) (fun k hk => by first | omega | (rcases k with _ | _ | _ | _ | _ | _ | _ | _ | k <;> first | rfl | omega)) ?_ ?_ <;> simp (disch := omega) only [go_sem, wrap_n, Int.natCast_add, true_and] <;> (try rfl))
  · (refine zF rfl ?_ ?_ ?_ ?_; (iterate 3 (focus ((try simp (disch := omega) only [go_sem, wrap_n]) <;> (try omega) <;> fail))); (try simp (disch := omega) only [go_sem, wrap_n, I, B, S, inj, List.cons.injEq, and_true, true_and, and_self]))
    unfold goodD; symm; rw [decide_eq_true_eq]; exact ⟨by omega, fun j hj => hk2 j (by omega)⟩
theorem ref_good_d_c (d : ADisk) (h : d.files.length * 48 ≤ 140737488351232) (hw : ∀ f, f ∈ d.files → f.wf) : acall Tryd.prog [] 131 [d.av] (ret (B (goodD d.files))) := by
  refine acall_of tabOk Tryd.func131 rfl (by kernel_rfl) (by simp [Tryd.ntmps131]) ?_; simp only [Tryd.ntmps131, Tryd.results131, List.toList_toArray, apar, List.length_nil, List.length_cons, Nat.reduceAdd]
  (repeat' first
| (with_reducible refine AR.f ?_)
| refine blkA_x (by decide) ?_
| (with_reducible refine AWP.cond rfl ?_ ?_ <;> intro hc <;> (try simp only [hcs, beq_iff_eq, ge_iff_le, gt_iff_lt] at hc))
| ((first | ((first | (with_reducible first | refine zR ?_ | refine zQ (by decide +kernel) ?_ | refine zD (by decide +kernel) ?_ | refine zE (by decide +kernel) ?_ | refine zG (by decide +kernel) ?_)); intro K hK) | ((first | (with_reducible refine aunder_i ?_ ?_ <;> intro hg) | with_reducible intro hg) <;> (first | (exfalso; simp at hg; done) | (have hg' := hg; (try simp only [hcs, beq_iff_eq, ge_iff_le, gt_iff_lt] at hg'); (try simp only [hg]))))) <;> (try simp (disch := omega) only [go_sem, wrap_n]) <;> (repeat' with_reducible refine And.intro ?_ ?_) <;> (try (with_reducible refine hK _ ?_; clear hK K)))
| omega)
  refine AWP.loopS (ι := Nat) (fun k => k ≤ d.files.length ∧ ∀ j, j < k → fileK d.files j) (fun k => d.files.length - k) [1, 6, 7] (fun k => [(8, I k)]) 0 ?_ (by simp (disch := omega) only [go_sem, wrap_n, true_and]) ?_
  · exact ⟨by omega, by omega⟩
  intro k ⟨hk, hk2⟩
  obtain ⟨w0, w1, w2, w3⟩ := file_wf hw k
  simp only [go_sem]
  (repeat' first
| (with_reducible refine AR.f ?_)
| refine blkA_x (by decide) ?_
| (with_reducible refine AWP.cond rfl ?_ ?_ <;> intro hc <;> (try simp only [hcs, beq_iff_eq, ge_iff_le, gt_iff_lt] at hc))
| ((first | ((first | (with_reducible first | refine zR ?_ | refine zQ (by decide +kernel) ?_ | refine zD (by decide +kernel) ?_ | refine zE (by decide +kernel) ?_ | refine zG (by decide +kernel) ?_)); intro K hK) | ((first | refine acallH_sc (ref_named_c _ w0) rfl rfl ?_ ?_ ?_ | refine acallQ_sc (ref_named_c _ w0) rfl rfl ?_ ?_ ?_); iterate 2 (focus ((try simp (disch := omega) only [go_sem, wrap_n, toNat_pr, strLt_eq]) <;> (try omega) <;> fail))) | ((first | refine zN (ref_named_c _ w0) rfl ?_ ?_); (focus ((try simp (disch := omega) only [go_sem, wrap_n, toNat_pr, strLt_eq]) <;> (try omega) <;> fail))) | (first | ((first | refine zX (ref_named_c _ w0) rfl ?_ ?_ | refine acallH_anyx (ref_named_c _ w0) ?_ ?_); (focus ((try simp (disch := omega) only [go_sem, wrap_n, toNat_pr, strLt_eq]) <;> (try omega) <;> fail)))) | ((first | (with_reducible refine aunder_i ?_ ?_ <;> intro hg) | with_reducible intro hg) <;> (first | (exfalso; simp at hg; done) | (have hg' := hg; (try simp only [hcs, beq_iff_eq, ge_iff_le, gt_iff_lt] at hg'); (try simp only [hg]))))) <;> (try simp (disch := omega) only [go_sem, wrap_n, toNat_pr, strLt_eq]) <;> (repeat' with_reducible refine And.intro ?_ ?_) <;> (try (with_reducible refine hK _ ?_; clear hK K)))
| omega)
  · (refine zF rfl ?_ ?_ ?_ ?_; (iterate 3 (focus ((try simp (disch := omega) only [go_sem, wrap_n]) <;> (try omega) <;> fail))); (try simp (disch := omega) only [go_sem, wrap_n, I, B, S, inj, List.cons.injEq, and_true, true_and, and_self]))
    unfold goodD; symm; rw [decide_eq_false_iff_not]; rintro ⟨-, a⟩
    have a1 := a k (by assumption)
    rcases hc with c | c
    · rw [a1.1.1] at c; exact absurd c (by simp)
    · have := a1.1.2; omega
  · (refine zF rfl ?_ ?_ ?_ ?_; (iterate 3 (focus ((try simp (disch := omega) only [go_sem, wrap_n]) <;> (try omega) <;> fail))); (try simp (disch := omega) only [go_sem, wrap_n, I, B, S, inj, List.cons.injEq, and_true, true_and, and_self]))
    unfold goodD; symm; rw [decide_eq_false_iff_not]; rintro ⟨-, a⟩
    have a1 := a k (by assumption)
    exact hc.2 (a1.2 (by omega))
  · rename_i hc1
    refine ⟨k + 1, ⟨by omega, fun j hj => ?_⟩, by omega, ?_⟩
    · by_cases e : j = k
      · subst e
        exact ⟨⟨hc1.1, by omega⟩, fun h0 => (hc.resolve_left (by omega))⟩
      · exact hk2 j (by omega)
    (refine SImp.frame [0] rfl (by intro k hk; first | (simp at hk <;> (simp; omega)) | (simp only [List.mem_cons, List.not_mem_nil, or_false] at hk; simp only [List.length_cons, List.length_nil]; omega)) (by decide) (fun k hk => by first | omega | (rcases k with _ | _ | _ | _ | _ | _ | _ | _ | k <;> first | rfl | omega)) ?_ ?_ <;> simp (disch := omega) only [go_sem, wrap_n, Int.natCast_add, true_and] <;> (try rfl))
  · (refine zF rfl ?_ ?_ ?_ ?_; (iterate 3 (focus ((try simp (disch := omega) only [go_sem, wrap_n]) <;> (try omega) <;> fail))); (try simp (disch := omega) only [go_sem, wrap_n, I, B, S, inj, List.cons.injEq, and_true, true_and, and_self]))
    have a : ∀ j, j < d.files.length → fileK d.files j := fun j hj => hk2 j (by omega)
    unfold goodD; rw [Bool.eq_iff_iff, decide_eq_true_eq, decide_eq_true_eq]
    exact ⟨fun h => ⟨by omega, a⟩, fun h => by omega⟩
theorem find_c (d : ADisk) (key : List UInt8) (h : d.files.length * 48 ≤ 140737488351232) (hr : goodD d.files = true) :
    acall Tryd.prog [] 126 [d.av, S key] (ret (.tup [I (place (d.files.map AFile.name) key), B (decide (key ∈ d.files.map AFile.name))])) := by
  refine acall_of tabOk Tryd.func126 rfl (by kernel_rfl) (by simp [Tryd.ntmps126]) ?_; simp only [Tryd.ntmps126, Tryd.results126, List.toList_toArray, apar, List.length_nil, List.length_cons, Nat.reduceAdd]
  (repeat' first
| (with_reducible refine AR.f ?_)
| refine blkA_x (by decide) ?_
| (with_reducible refine AWP.cond rfl ?_ ?_ <;> intro hc <;> (try simp only [hcs, beq_iff_eq, ge_iff_le, gt_iff_lt] at hc))
| ((first | ((first | (with_reducible first | refine zR ?_ | refine zQ (by decide +kernel) ?_ | refine zD (by decide +kernel) ?_ | refine zE (by decide +kernel) ?_ | refine zG (by decide +kernel) ?_)); intro K hK) | ((first | refine acallH_sc (bsFile_c _ key h (goodD_rises hr)) rfl rfl ?_ ?_ ?_ | refine acallQ_sc (bsFile_c _ key h (goodD_rises hr)) rfl rfl ?_ ?_ ?_); iterate 2 (focus ((try simp (disch := omega) only [go_sem, wrap_n]) <;> (try omega) <;> fail))) | ((first | refine zN (bsFile_c _ key h (goodD_rises hr)) rfl ?_ ?_); (focus ((try simp (disch := omega) only [go_sem, wrap_n]) <;> (try omega) <;> fail))) | (first | ((first | refine zX (bsFile_c _ key h (goodD_rises hr)) rfl ?_ ?_ | refine acallH_anyx (bsFile_c _ key h (goodD_rises hr)) ?_ ?_); (focus ((try simp (disch := omega) only [go_sem, wrap_n]) <;> (try omega) <;> fail)))) | ((first | (with_reducible refine aunder_i ?_ ?_ <;> intro hg) | with_reducible intro hg) <;> (first | (exfalso; simp at hg; done) | (have hg' := hg; (try simp only [hcs, beq_iff_eq, ge_iff_le, gt_iff_lt] at hg'); (try simp only [hg]))))) <;> (try simp (disch := omega) only [go_sem, wrap_n]) <;> (repeat' with_reducible refine And.intro ?_ ?_) <;> (try (with_reducible refine hK _ ?_; clear hK K)))
| omega)
  (refine zF rfl ?_ ?_ ?_ ?_; (iterate 3 (focus ((try simp (disch := omega) only [go_sem, wrap_n]) <;> (try omega) <;> fail))); (try simp (disch := omega) only [go_sem, wrap_n, I, B, S, inj, List.cons.injEq, and_true, true_and, and_self]))
def fileI (l : List AFile) (key : List UInt8) : Int := if key ∈ l.map AFile.name then (place (l.map AFile.name) key : Nat) else -1
theorem file_c (d : ADisk) (key : List UInt8) (h : d.files.length * 48 ≤ 140737488351232) (hr : goodD d.files = true) : acall Tryd.prog [] 75 [d.av, S key] (ret (I (fileI d.files key))) := by
  have hn : ∀ k, (d.files.map AFile.name).getD k [] = (d.files.getD k default).name := fun k => getD_map AFile.name d.files k default
  have hr2 := goodD_rises hr
  refine acall_of tabOk Tryd.func75 rfl (by kernel_rfl) (by simp [Tryd.ntmps75]) ?_; simp only [Tryd.ntmps75, Tryd.results75, List.toList_toArray, apar, List.length_nil, List.length_cons, Nat.reduceAdd]
  (repeat' first
| (with_reducible refine AR.f ?_)
| refine blkA_x (by decide) ?_
| (with_reducible refine AWP.cond rfl ?_ ?_ <;> intro hc <;> (try simp only [hcs, beq_iff_eq, ge_iff_le, gt_iff_lt] at hc))
| ((first | ((first | (with_reducible first | refine zR ?_ | refine zQ (by decide +kernel) ?_ | refine zD (by decide +kernel) ?_ | refine zE (by decide +kernel) ?_ | refine zG (by decide +kernel) ?_)); intro K hK) | ((first | (with_reducible refine aunder_i ?_ ?_ <;> intro hg) | with_reducible intro hg) <;> (first | (exfalso; simp at hg; done) | (have hg' := hg; (try simp only [hcs, beq_iff_eq, ge_iff_le, gt_iff_lt] at hg'); (try simp only [hg]))))) <;> (try simp (disch := omega) only [go_sem, wrap_n]) <;> (repeat' with_reducible refine And.intro ?_ ?_) <;> (try (with_reducible refine hK _ ?_; clear hK K)))
| omega)
  refine AWP.loopS (ι := Nat) (fun k => k ≤ d.files.length ∧ ∀ j, j < k → (d.files.getD j default).name ≠ key) (fun k => d.files.length - k) [1, 8, 9] (fun k => [(10, I k)]) 0 ?_ (by simp (disch := omega) only [go_sem, wrap_n, true_and]) ?_
  · exact ⟨by omega, by omega⟩
  intro k ⟨hk, hk2⟩
  simp only [go_sem]
  (repeat' first
| (with_reducible refine AR.f ?_)
| refine blkA_x (by decide) ?_
| (with_reducible refine AWP.cond rfl ?_ ?_ <;> intro hc <;> (try simp only [hcs, beq_iff_eq, ge_iff_le, gt_iff_lt] at hc))
| ((first | ((first | (with_reducible first | refine zR ?_ | refine zQ (by decide +kernel) ?_ | refine zD (by decide +kernel) ?_ | refine zE (by decide +kernel) ?_ | refine zG (by decide +kernel) ?_)); intro K hK) | ((first | (with_reducible refine aunder_i ?_ ?_ <;> intro hg) | with_reducible intro hg) <;> (first | (exfalso; simp at hg; done) | (have hg' := hg; (try simp only [hcs, beq_iff_eq, ge_iff_le, gt_iff_lt] at hg'); (try simp only [hg]))))) <;> (try simp (disch := omega) only [go_sem, wrap_n]) <;> (repeat' with_reducible refine And.intro ?_ ?_) <;> (try (with_reducible refine hK _ ?_; clear hK K)))
| omega)
  · (refine zF rfl ?_ ?_ ?_ ?_; (iterate 3 (focus ((try simp (disch := omega) only [go_sem, wrap_n]) <;> (try omega) <;> fail))); (try simp (disch := omega) only [go_sem, wrap_n, I, B, S, inj, List.cons.injEq, and_true, true_and, and_self]))
    have hl : k < (d.files.map AFile.name).length := by simp; omega
    have e := place_at hr2 hl
    rw [hn, hc] at e
    unfold fileI
    rw [if_pos ((mem_iff_getD _ [] key).2 ⟨k, hl, by rw [hn]; exact hc⟩), e]
  · refine ⟨k + 1, ⟨by omega, fun j hj => ?_⟩, by omega, ?_⟩
    · by_cases e : j = k
      · subst e; exact hc
      · exact hk2 j (by omega)
    (refine SImp.frame [0] rfl (by intro k hk; first | (simp at hk <;> (simp; omega)) | (simp only [List.mem_cons, List.not_mem_nil, or_false] at hk; simp only [List.length_cons, List.length_nil]; omega)) (by decide) (fun k hk => by first | omega | (rcases k with _ | _ | _ | _ | _ | _ | _ | _ | k <;> first | rfl | omega)) ?_ ?_ <;> simp (disch := omega) only [go_sem, wrap_n, Int.natCast_add, true_and] <;> (try rfl))
  · (refine zF rfl ?_ ?_ ?_ ?_; (iterate 3 (focus ((try simp (disch := omega) only [go_sem, wrap_n]) <;> (try omega) <;> fail))); (try simp (disch := omega) only [go_sem, wrap_n, I, B, S, inj, List.cons.injEq, and_true, true_and, and_self]))
    unfold fileI
    rw [if_neg]
    rw [mem_iff_getD _ [] key]
    rintro ⟨j, hj, e⟩
    rw [hn] at e
    exact hk2 j (by simp at hj; omega) e
theorem cloneFile_c (l : List AFile) (h : l.length * 48 ≤ 140737488351232) : acall Tryd.prog [] 163 [.d (.sl 3 (l.map AFile.row))] (own 3 (l.map AFile.row)) := by
  refine acall_of tabOk Tryd.func163 rfl (by kernel_rfl) (by simp [Tryd.ntmps163]) ?_; simp only [Tryd.ntmps163, Tryd.results163, List.toList_toArray, apar, List.length_nil, List.length_cons, Nat.reduceAdd]
  (repeat' first
| (with_reducible refine AR.f ?_)
| refine blkA_x (by decide) ?_
| (with_reducible refine AWP.cond rfl ?_ ?_ <;> intro hc <;> (try simp only [hcs, beq_iff_eq, ge_iff_le, gt_iff_lt] at hc))
| ((first | ((first | (with_reducible first | refine zR ?_ | refine zQ (by decide +kernel) ?_ | refine zD (by decide +kernel) ?_ | refine zE (by decide +kernel) ?_ | refine zG (by decide +kernel) ?_)); intro K hK) | ((first | (with_reducible refine aunder_i ?_ ?_ <;> intro hg) | with_reducible intro hg) <;> (first | (exfalso; simp at hg; done) | (have hg' := hg; (try simp only [hcs, beq_iff_eq, ge_iff_le, gt_iff_lt] at hg'); (try simp only [hg]))))) <;> (try simp (disch := omega) only [go_sem, wrap_n]) <;> (repeat' with_reducible refine And.intro ?_ ?_) <;> (try (with_reducible refine hK _ ?_; clear hK K)))
| omega)
  · have e : l.length = 0 := by
      rcases Nat.eq_zero_or_pos l.length with h0 | h0
      · exact h0
      · rw [hg h0] at hc; simp at hc
    rw [nil_of_len e]
    (refine aend_nil (by first | exact .inl rfl | exact .inr rfl) rfl ?_ ?_ <;> simp (disch := omega) only [go_sem, wrap_n])
  · (refine aend_own 1 (by first | exact .inl rfl | exact .inr rfl) rfl ?_ rfl rfl ?_ <;> (try simp (disch := omega) only [go_sem, wrap_n, List.length_map]))
theorem copied_d_c (d : ADisk) (h : d.files.length * 48 ≤ 140737488351232) : acall Tryd.prog [] 127 [d.av] (outs (.agg [.osl 0 3 0 d.files.length]) [.rows 3 (d.files.map AFile.row)]) := by
  refine acall_of tabOk Tryd.func127 rfl (by kernel_rfl) (by simp [Tryd.ntmps127]) ?_; simp only [Tryd.ntmps127, Tryd.results127, List.toList_toArray, apar, List.length_nil, List.length_cons, Nat.reduceAdd]
  (repeat' first
| (with_reducible refine AR.f ?_)
| refine blkA_x (by decide) ?_
| (with_reducible refine AWP.cond rfl ?_ ?_ <;> intro hc <;> (try simp only [hcs, beq_iff_eq, ge_iff_le, gt_iff_lt] at hc))
| ((first | ((first | (with_reducible first | refine zR ?_ | refine zQ (by decide +kernel) ?_ | refine zD (by decide +kernel) ?_ | refine zE (by decide +kernel) ?_ | refine zG (by decide +kernel) ?_)); intro K hK) | ((first | refine acallH_sc (cloneFile_c _ h) rfl rfl ?_ ?_ ?_ | refine acallQ_sc (cloneFile_c _ h) rfl rfl ?_ ?_ ?_); iterate 2 (focus ((try simp (disch := omega) only [go_sem, wrap_n]) <;> (try omega) <;> fail))) | ((first | refine zN (cloneFile_c _ h) rfl ?_ ?_); (focus ((try simp (disch := omega) only [go_sem, wrap_n]) <;> (try omega) <;> fail))) | (first | ((first | refine zX (cloneFile_c _ h) rfl ?_ ?_ | refine acallH_anyx (cloneFile_c _ h) ?_ ?_); (focus ((try simp (disch := omega) only [go_sem, wrap_n]) <;> (try omega) <;> fail)))) | ((first | (with_reducible refine aunder_i ?_ ?_ <;> intro hg) | with_reducible intro hg) <;> (first | (exfalso; simp at hg; done) | (have hg' := hg; (try simp only [hcs, beq_iff_eq, ge_iff_le, gt_iff_lt] at hg'); (try simp only [hg]))))) <;> (try simp (disch := omega) only [go_sem, wrap_n]) <;> (repeat' with_reducible refine And.intro ?_ ?_) <;> (try (with_reducible refine hK _ ?_; clear hK K)))
| omega)
  (refine aend_out (by first | exact .inl rfl | exact .inr rfl) ?_ ?_; (focus ((try simp (disch := omega) only [go_sem, wrap_n]) <;> fail)); simp (disch := omega) only [go_sem, wrap_n, true_and]; refine AOut.of_simp ?_ (AOut.same ⟨rfl, rfl⟩); refine SImp.frame [2] rfl (by intro k hk; first | (simp at hk <;> (simp; omega)) | (simp only [List.mem_cons, List.not_mem_nil, or_false] at hk; simp only [List.length_cons, List.length_nil]; omega)) (by decide) (fun k hk => by first | omega | (rcases k with _ | _ | _ | _ | _ | _ | _ | _ | k <;> first | rfl | omega)) ?_ ?_ <;> simp (disch := omega) only [go_sem, wrap_n, true_or, or_true, true_and])
theorem ref_copied_d_c (d : ADisk) (h : d.files.length * 48 ≤ 140737488351232) : acall Tryd.prog [] 15 [d.av] (ret d.av) := by
  refine acall_of tabOk Tryd.func15 rfl (by kernel_rfl) (by simp [Tryd.ntmps15]) ?_; simp only [Tryd.ntmps15, Tryd.results15, List.toList_toArray, apar, List.length_nil, List.length_cons, Nat.reduceAdd]
  (repeat' first
| (with_reducible refine AR.f ?_)
| refine blkA_x (by decide) ?_
| (with_reducible refine AWP.cond rfl ?_ ?_ <;> intro hc <;> (try simp only [hcs, beq_iff_eq, ge_iff_le, gt_iff_lt] at hc))
| ((first | ((first | (with_reducible first | refine zR ?_ | refine zQ (by decide +kernel) ?_ | refine zD (by decide +kernel) ?_ | refine zE (by decide +kernel) ?_ | refine zG (by decide +kernel) ?_)); intro K hK) | ((first | (with_reducible refine aunder_i ?_ ?_ <;> intro hg) | with_reducible intro hg) <;> (first | (exfalso; simp at hg; done) | (have hg' := hg; (try simp only [hcs, beq_iff_eq, ge_iff_le, gt_iff_lt] at hg'); (try simp only [hg]))))) <;> (try simp (disch := omega) only [go_sem, wrap_n]) <;> (repeat' with_reducible refine And.intro ?_ ?_) <;> (try (with_reducible refine hK _ ?_; clear hK K)))
| omega)
  all_goals (refine zF rfl ?_ ?_ ?_ ?_; (iterate 3 (focus ((try simp (disch := omega) only [go_sem, wrap_n]) <;> (try omega) <;> fail))); (try simp (disch := omega) only [go_sem, wrap_n, I, B, S, inj, List.cons.injEq, and_true, true_and, and_self]))
theorem same_disk_c (a b : ADisk) (h : a.files.length * 48 ≤ 140737488351232) (h2 : b.files.length * 48 ≤ 140737488351232) : acall Tryd.prog [] 17 [a.av, b.av] (ret (B (decide (a = b)))) := by
  refine acall_of tabOk Tryd.func17 rfl (by kernel_rfl) (by simp [Tryd.ntmps17]) ?_; simp only [Tryd.ntmps17, Tryd.results17, List.toList_toArray, apar, List.length_nil, List.length_cons, Nat.reduceAdd]
  (repeat' first
| (with_reducible refine AR.f ?_)
| refine blkA_x (by decide) ?_
| (with_reducible refine AWP.cond rfl ?_ ?_ <;> intro hc <;> (try simp only [hcs, beq_iff_eq, ge_iff_le, gt_iff_lt] at hc))
| ((first | ((first | (with_reducible first | refine zR ?_ | refine zQ (by decide +kernel) ?_ | refine zD (by decide +kernel) ?_ | refine zE (by decide +kernel) ?_ | refine zG (by decide +kernel) ?_)); intro K hK) | ((first | (with_reducible refine aunder_i ?_ ?_ <;> intro hg) | with_reducible intro hg) <;> (first | (exfalso; simp at hg; done) | (have hg' := hg; (try simp only [hcs, beq_iff_eq, ge_iff_le, gt_iff_lt] at hg'); (try simp only [hg]))))) <;> (try simp (disch := omega) only [go_sem, wrap_n]) <;> (repeat' with_reducible refine And.intro ?_ ?_) <;> (try (with_reducible refine hK _ ?_; clear hK K)))
| omega)
  · (refine zF rfl ?_ ?_ ?_ ?_; (iterate 3 (focus ((try simp (disch := omega) only [go_sem, wrap_n]) <;> (try omega) <;> fail))); (try simp (disch := omega) only [go_sem, wrap_n, I, B, S, inj, List.cons.injEq, and_true, true_and, and_self]))
    symm; rw [decide_eq_false_iff_not]; intro e; subst e; simp at hc
  have h3 := hc
  refine AWP.loopS (ι := Nat) (fun k => k ≤ a.files.length ∧ ∀ j, j < k → a.files.getD j default = b.files.getD j default) (fun k => a.files.length - k) [2, 3, 15] (fun k => [(16, I k)]) 0 ?_ (by simp (disch := omega) only [go_sem, wrap_n, true_and]) ?_
  · exact ⟨by omega, by omega⟩
  intro k ⟨hk, hk2⟩
  simp only [go_sem]
  (repeat' first
| (with_reducible refine AR.f ?_)
| refine blkA_x (by decide) ?_
| (with_reducible refine AWP.cond rfl ?_ ?_ <;> intro hc <;> (try simp only [hcs, beq_iff_eq, ge_iff_le, gt_iff_lt] at hc))
| ((first | ((first | (with_reducible first | refine zR ?_ | refine zQ (by decide +kernel) ?_ | refine zD (by decide +kernel) ?_ | refine zE (by decide +kernel) ?_ | refine zG (by decide +kernel) ?_)); intro K hK) | ((first | (with_reducible refine aunder_i ?_ ?_ <;> intro hg) | with_reducible intro hg) <;> (first | (exfalso; simp at hg; done) | (have hg' := hg; (try simp only [hcs, beq_iff_eq, ge_iff_le, gt_iff_lt] at hg'); (try simp only [hg]))))) <;> (try simp (disch := omega) only [go_sem, wrap_n]) <;> (repeat' with_reducible refine And.intro ?_ ?_) <;> (try (with_reducible refine hK _ ?_; clear hK K)))
| omega)
  · (refine zF rfl ?_ ?_ ?_ ?_; (iterate 3 (focus ((try simp (disch := omega) only [go_sem, wrap_n]) <;> (try omega) <;> fail))); (try simp (disch := omega) only [go_sem, wrap_n, I, B, S, inj, List.cons.injEq, and_true, true_and, and_self]))
    symm; rw [decide_eq_false_iff_not]; intro e; subst e; simp at hc
  · refine ⟨k + 1, ⟨by omega, fun j hj => ?_⟩, by omega, ?_⟩
    · by_cases e : j = k
      · subst e; exact hc
      · exact hk2 j (by omega)
    (refine SImp.same ?_; simp (disch := omega) only [go_sem, wrap_n, Int.natCast_add])
  · (refine zF rfl ?_ ?_ ?_ ?_; (iterate 3 (focus ((try simp (disch := omega) only [go_sem, wrap_n]) <;> (try omega) <;> fail))); (try simp (disch := omega) only [go_sem, wrap_n, I, B, S, inj, List.cons.injEq, and_true, true_and, and_self]))
    symm; rw [decide_eq_true_eq, ADisk.ext_iff]
    exact eq_of_getD (by omega) fun j hj => hk2 j (by omega)
def readD (l : List AFile) (key : List UInt8) : List UInt8 × Int :=
  if goodD l = false then ([], 3) else if key ∈ l.map AFile.name then ((l.getD (place (l.map AFile.name) key) default).safe ++ (l.getD (place (l.map AFile.name) key) default).tail, 0) else ([], 7)
theorem read_c (d : ADisk) (key : List UInt8) (h : d.files.length * 48 ≤ 140737488351232) (hw : ∀ f, f ∈ d.files → f.wf) : acall Tryd.prog [] 69 [d.av, S key] (ret (.tup [S (readD d.files key).1, I (readD d.files key).2])) := by
  obtain ⟨w0, w1, w2, w3⟩ := file_wf hw (place (d.files.map AFile.name) key)
  refine acall_of tabOk Tryd.func69 rfl (by kernel_rfl) (by simp [Tryd.ntmps69]) ?_; simp only [Tryd.ntmps69, Tryd.results69, List.toList_toArray, apar, List.length_nil, List.length_cons, Nat.reduceAdd]
  (repeat' first
| (with_reducible refine AR.f ?_)
| refine blkA_x (by decide) ?_
| (with_reducible refine AWP.cond rfl ?_ ?_ <;> intro hc <;> (try simp only [hcs, beq_iff_eq, ge_iff_le, gt_iff_lt] at hc))
| ((first | ((first | (with_reducible first | refine zR ?_ | refine zQ (by decide +kernel) ?_ | refine zD (by decide +kernel) ?_ | refine zE (by decide +kernel) ?_ | refine zG (by decide +kernel) ?_)); intro K hK) | ((first | refine zA (good_d_c d h hw) ?_ ?_ ?_ ?_ ?_ | refine zA (find_c d key h (by assumption)) ?_ ?_ ?_ ?_ ?_); (focus exact rfl); (focus exact rfl); iterate 2 (focus ((try simp (disch := omega) only [go_sem, wrap_n]) <;> (try omega) <;> fail))) | ((first | refine zN (good_d_c d h hw) rfl ?_ ?_ | refine zN (find_c d key h (by assumption)) rfl ?_ ?_); (focus ((try simp (disch := omega) only [go_sem, wrap_n]) <;> (try omega) <;> fail))) | (first | ((first | refine zX (good_d_c d h hw) rfl ?_ ?_ | refine acallH_anyx (good_d_c d h hw) ?_ ?_); (focus ((try simp (disch := omega) only [go_sem, wrap_n]) <;> (try omega) <;> fail))) | ((first | refine zX (find_c d key h (by assumption)) rfl ?_ ?_ | refine acallH_anyx (find_c d key h (by assumption)) ?_ ?_); (focus ((try simp (disch := omega) only [go_sem, wrap_n]) <;> (try omega) <;> fail)))) | ((first | (with_reducible refine aunder_i ?_ ?_ <;> intro hg) | with_reducible intro hg) <;> (first | (exfalso; simp at hg; done) | (have hg' := hg; (try simp only [hcs, beq_iff_eq, ge_iff_le, gt_iff_lt] at hg'); (try simp only [hg]))))) <;> (try simp (disch := omega) only [go_sem, wrap_n]) <;> (repeat' with_reducible refine And.intro ?_ ?_) <;> (try (with_reducible refine hK _ ?_; clear hK K)))
| omega)
  all_goals (try unfold readD)
  · rw [if_pos hc]; (refine zF rfl ?_ ?_ ?_ ?_; (iterate 3 (focus ((try simp (disch := omega) only [go_sem, wrap_n]) <;> (try omega) <;> fail))); (try simp (disch := omega) only [go_sem, wrap_n, I, B, S, inj, List.cons.injEq, and_true, true_and, and_self]))
  · rw [if_neg (by simp [*]), if_neg hc]; (refine zF rfl ?_ ?_ ?_ ?_; (iterate 3 (focus ((try simp (disch := omega) only [go_sem, wrap_n]) <;> (try omega) <;> fail))); (try simp (disch := omega) only [go_sem, wrap_n, I, B, S, inj, List.cons.injEq, and_true, true_and, and_self]))
  · have := (place_found (goodD_rises (by assumption)) hc).1; simp at this; omega
  · have := (place_found (goodD_rises (by assumption)) hc).1; simp at this; omega
  · rw [if_neg (by simp [*]), if_pos hc]; (refine zF rfl ?_ ?_ ?_ ?_; (iterate 3 (focus ((try simp (disch := omega) only [go_sem, wrap_n]) <;> (try omega) <;> fail))); (try simp (disch := omega) only [go_sem, wrap_n, I, B, S, inj, List.cons.injEq, and_true, true_and, and_self]))
def changeD (l : List AFile) (key : List UInt8) (F : AFile → AFile × Int) : ADisk × Int :=
  if goodD l = false then (default, 3) else if key ∈ l.map AFile.name then
    (if (F (l.getD (place (l.map AFile.name) key) default)).2 = 0 then (⟨l.set (place (l.map AFile.name) key) (F (l.getD (place (l.map AFile.name) key) default)).1⟩, 0) else (default, (F (l.getD (place (l.map AFile.name) key) default)).2)) else (default, 7)
def syncF (f : AFile) : AFile × Int := (⟨f.name, f.safe ++ f.tail, []⟩, 0)
def cutF (n : Int) (f : AFile) : AFile × Int := if n < 0 ∨ (f.safe.length : Int) + f.tail.length < n then (default, 3) else (⟨f.name, (f.safe ++ f.tail).take n.toNat, []⟩, 0)
theorem change_bad {l : List AFile} {key : List UInt8} {F : AFile → AFile × Int} (h : ¬ goodD l = true) : changeD l key F = (default, 3) := by unfold changeD; rw [if_pos (by simpa using h)]
theorem change_none {l : List AFile} {key : List UInt8} {F : AFile → AFile × Int} (h : goodD l = true) (h2 : ¬ key ∈ l.map AFile.name) : changeD l key F = (default, 7) := by unfold changeD; rw [if_neg (by simp [h]), if_neg h2]
theorem change_err {l : List AFile} {key : List UInt8} {F : AFile → AFile × Int} (h : goodD l = true) (h2 : key ∈ l.map AFile.name) (h3 : ¬ (F (l.getD (place (l.map AFile.name) key) default)).2 = 0) :
    changeD l key F = (default, (F (l.getD (place (l.map AFile.name) key) default)).2) := by unfold changeD; rw [if_neg (by simp [h]), if_pos h2, if_neg h3]
theorem change_ok {l : List AFile} {key : List UInt8} {F : AFile → AFile × Int} (h : goodD l = true) (h2 : key ∈ l.map AFile.name) (h3 : (F (l.getD (place (l.map AFile.name) key) default)).2 = 0) :
    changeD l key F = (⟨l.set (place (l.map AFile.name) key) (F (l.getD (place (l.map AFile.name) key) default)).1⟩, 0) := by unfold changeD; rw [if_neg (by simp [h]), if_pos h2, if_pos h3]
theorem place_lt {l : List AFile} {key : List UInt8} (h : goodD l = true) (h2 : key ∈ l.map AFile.name) : place (l.map AFile.name) key < l.length := by
  have := (place_found (goodD_rises h) h2).1; simpa using this
theorem ref_copied_o_c (d : ADisk) (h : d.files.length * 48 ≤ 140737488351232) : acall Tryd.prog [] 15 [d.av] (outs (.agg [.osl 0 3 0 d.files.length]) [.rows 3 (d.files.map AFile.row)]) := by
  refine acall_of tabOk Tryd.func15 rfl (by kernel_rfl) (by simp [Tryd.ntmps15]) ?_; simp only [Tryd.ntmps15, Tryd.results15, List.toList_toArray, apar, List.length_nil, List.length_cons, Nat.reduceAdd]
  (repeat' first
| (with_reducible refine AR.f ?_)
| refine blkA_x (by decide) ?_
| (with_reducible refine AWP.cond rfl ?_ ?_ <;> intro hc <;> (try simp only [hcs, beq_iff_eq, ge_iff_le, gt_iff_lt] at hc))
| ((first | ((first | (with_reducible first | refine zR ?_ | refine zQ (by decide +kernel) ?_ | refine zD (by decide +kernel) ?_ | refine zE (by decide +kernel) ?_ | refine zG (by decide +kernel) ?_)); intro K hK) | ((first | (with_reducible refine aunder_i ?_ ?_ <;> intro hg) | with_reducible intro hg) <;> (first | (exfalso; simp at hg; done) | (have hg' := hg; (try simp only [hcs, beq_iff_eq, ge_iff_le, gt_iff_lt] at hg'); (try simp only [hg]))))) <;> (try simp (disch := omega) only [go_sem, wrap_n]) <;> (repeat' with_reducible refine And.intro ?_ ?_) <;> (try (with_reducible refine hK _ ?_; clear hK K)))
| omega)
  all_goals (refine aend_out (by first | exact .inl rfl | exact .inr rfl) ?_ ?_; (focus ((try simp (disch := omega) only [go_sem, wrap_n]) <;> fail)); simp (disch := omega) only [go_sem, wrap_n, true_and]; refine AOut.of_simp ?_ (AOut.same ⟨rfl, rfl⟩); refine SImp.frame [2] rfl (by intro k hk; first | (simp at hk <;> (simp; omega)) | (simp only [List.mem_cons, List.not_mem_nil, or_false] at hk; simp only [List.length_cons, List.length_nil]; omega)) (by decide) (fun k hk => by first | omega | (rcases k with _ | _ | _ | _ | _ | _ | _ | _ | k <;> first | rfl | omega)) ?_ ?_ <;> simp (disch := omega) only [go_sem, wrap_n, true_or, or_true, true_and])
theorem fileI_no {l : List AFile} {key : List UInt8} (h : ¬ key ∈ l.map AFile.name) : fileI l key = -1 := by unfold fileI; rw [if_neg h]
theorem fileI_yes {l : List AFile} {key : List UInt8} (h : key ∈ l.map AFile.name) : fileI l key = (place (l.map AFile.name) key : Nat) := by unfold fileI; rw [if_pos h]
theorem sync_c (d : ADisk) (key : List UInt8) (h : d.files.length * 48 ≤ 140737488351232) (hw : ∀ f, f ∈ d.files → f.wf) : acall Tryd.prog [] 65 [d.av, S key] (ret (.tup [(changeD d.files key syncF).1.av, I (changeD d.files key syncF).2])) := by
  obtain ⟨w0, w1, w2, w3⟩ := file_wf hw (place (d.files.map AFile.name) key)
  by_cases hg : goodD d.files = true
  · by_cases hm : key ∈ d.files.map AFile.name
    · have hpl := place_lt hg hm
      rw [change_ok hg hm rfl]
      refine acall_of tabOk Tryd.func65 rfl (by kernel_rfl) (by simp [Tryd.ntmps65]) ?_; simp only [Tryd.ntmps65, Tryd.results65, List.toList_toArray, apar, List.length_nil, List.length_cons, Nat.reduceAdd]
      (repeat' first
    | (with_reducible refine AR.f ?_)
    | refine blkA_x (by decide) ?_
    | (with_reducible refine AWP.cond rfl ?_ ?_ <;> intro hc <;> (try simp only [hcs, beq_iff_eq, ge_iff_le, gt_iff_lt] at hc))
    | (refine acallHK_in fun Kk hKk => (acall_of tabOk Tryd.func129 rfl (by kernel_rfl) (by simp [Tryd.ntmps129]) ?_); simp only [Tryd.ntmps129, Tryd.results129, List.toList_toArray, apar, List.length_nil, List.length_cons, Nat.reduceAdd, List.length_append, List.length_set, go_sem])
    | (refine acallHK_in fun Kk hKk => (acall_of tabOk Tryd.func130 rfl (by kernel_rfl) (by simp [Tryd.ntmps130]) ?_); simp only [Tryd.ntmps130, Tryd.results130, List.toList_toArray, apar, List.length_nil, List.length_cons, Nat.reduceAdd, List.length_append, List.length_set, go_sem])
    | ((first | ((first | (with_reducible first | refine zR ?_ | refine zQ (by decide +kernel) ?_ | refine zD (by decide +kernel) ?_ | refine zE (by decide +kernel) ?_ | refine zG (by decide +kernel) ?_)); intro K hK) | ((first | refine zA ((good_d_c d h hw).re (by rw [hg])) ?_ ?_ ?_ ?_ ?_ | refine zA ((find_c d key h hg).re (by rw [decide_eq_true hm])) ?_ ?_ ?_ ?_ ?_ | refine zA (copied_d_c d h) ?_ ?_ ?_ ?_ ?_); (focus exact rfl); (focus exact rfl); iterate 2 (focus ((try simp (disch := omega) only [go_sem, wrap_n, AFile.rgetD, getD_set, AFile.rset, getD_mapset, List.set_set]) <;> (try omega) <;> fail))) | ((first | refine zN ((good_d_c d h hw).re (by rw [hg])) rfl ?_ ?_ | refine zN ((find_c d key h hg).re (by rw [decide_eq_true hm])) rfl ?_ ?_ | refine zN (copied_d_c d h) rfl ?_ ?_); (focus ((try simp (disch := omega) only [go_sem, wrap_n, AFile.rgetD, getD_set, AFile.rset, getD_mapset, List.set_set]) <;> (try omega) <;> fail))) | (first | ((first | refine zX ((good_d_c d h hw).re (by rw [hg])) rfl ?_ ?_ | refine acallH_anyx ((good_d_c d h hw).re (by rw [hg])) ?_ ?_); (focus ((try simp (disch := omega) only [go_sem, wrap_n, AFile.rgetD, getD_set, AFile.rset, getD_mapset, List.set_set]) <;> (try omega) <;> fail))) | ((first | refine zX ((find_c d key h hg).re (by rw [decide_eq_true hm])) rfl ?_ ?_ | refine acallH_anyx ((find_c d key h hg).re (by rw [decide_eq_true hm])) ?_ ?_); (focus ((try simp (disch := omega) only [go_sem, wrap_n, AFile.rgetD, getD_set, AFile.rset, getD_mapset, List.set_set]) <;> (try omega) <;> fail))) | ((first | refine zX (copied_d_c d h) rfl ?_ ?_ | refine acallH_anyx (copied_d_c d h) ?_ ?_); (focus ((try simp (disch := omega) only [go_sem, wrap_n, AFile.rgetD, getD_set, AFile.rset, getD_mapset, List.set_set]) <;> (try omega) <;> fail)))) | (refine aend_in (v := ?_) hKk (by first | exact .inl rfl | exact .inr rfl) ?_ ?_ ?_; rotate_left; (focus ((try simp (disch := omega) only [go_sem, wrap_n, AFile.rgetD, getD_set, AFile.rset, getD_mapset, List.set_set]) <;> (try omega) <;> fail)); (focus ((try simp (disch := omega) only [go_sem, wrap_n, AFile.rgetD, getD_set, AFile.rset, getD_mapset, List.set_set]) <;> (first | done | exact rfl))); clear hKk Kk) | ((first | (with_reducible refine aunder_i ?_ ?_ <;> intro hg) | with_reducible intro hg) <;> (first | (exfalso; simp at hg; done) | (have hg' := hg; (try simp only [hcs, beq_iff_eq, ge_iff_le, gt_iff_lt] at hg'); (try simp only [hg]))))) <;> (try simp (disch := omega) only [go_sem, wrap_n, AFile.rgetD, getD_set, AFile.rset, getD_mapset, List.set_set]) <;> (repeat' with_reducible refine And.intro ?_ ?_) <;> (try (with_reducible refine hK _ ?_; clear hK K)))
    | omega)
      (refine zF rfl ?_ ?_ ?_ ?_; (iterate 3 (focus ((try simp (disch := omega) only [go_sem, wrap_n, take_map_set]) <;> (try omega) <;> fail))); (try simp (disch := omega) only [go_sem, wrap_n, take_map_set, I, B, S, inj, List.cons.injEq, and_true, true_and, and_self]))
      exact .inl rfl
    · rw [change_none hg hm]
      refine acall_of tabOk Tryd.func65 rfl (by kernel_rfl) (by simp [Tryd.ntmps65]) ?_; simp only [Tryd.ntmps65, Tryd.results65, List.toList_toArray, apar, List.length_nil, List.length_cons, Nat.reduceAdd]
      (repeat' first
    | (with_reducible refine AR.f ?_)
    | refine blkA_x (by decide) ?_
    | (with_reducible refine AWP.cond rfl ?_ ?_ <;> intro hc <;> (try simp only [hcs, beq_iff_eq, ge_iff_le, gt_iff_lt] at hc))
    | (refine acallHK_in fun Kk hKk => (acall_of tabOk Tryd.func129 rfl (by kernel_rfl) (by simp [Tryd.ntmps129]) ?_); simp only [Tryd.ntmps129, Tryd.results129, List.toList_toArray, apar, List.length_nil, List.length_cons, Nat.reduceAdd, List.length_append, List.length_set, go_sem])
    | (refine acallHK_in fun Kk hKk => (acall_of tabOk Tryd.func130 rfl (by kernel_rfl) (by simp [Tryd.ntmps130]) ?_); simp only [Tryd.ntmps130, Tryd.results130, List.toList_toArray, apar, List.length_nil, List.length_cons, Nat.reduceAdd, List.length_append, List.length_set, go_sem])
    | ((first | ((first | (with_reducible first | refine zR ?_ | refine zQ (by decide +kernel) ?_ | refine zD (by decide +kernel) ?_ | refine zE (by decide +kernel) ?_ | refine zG (by decide +kernel) ?_)); intro K hK) | ((first | refine zA ((good_d_c d h hw).re (by rw [hg])) ?_ ?_ ?_ ?_ ?_ | refine zA ((find_c d key h hg).re (by rw [decide_eq_false hm])) ?_ ?_ ?_ ?_ ?_); (focus exact rfl); (focus exact rfl); iterate 2 (focus ((try simp (disch := omega) only [go_sem, wrap_n]) <;> (try omega) <;> fail))) | ((first | refine zN ((good_d_c d h hw).re (by rw [hg])) rfl ?_ ?_ | refine zN ((find_c d key h hg).re (by rw [decide_eq_false hm])) rfl ?_ ?_); (focus ((try simp (disch := omega) only [go_sem, wrap_n]) <;> (try omega) <;> fail))) | (first | ((first | refine zX ((good_d_c d h hw).re (by rw [hg])) rfl ?_ ?_ | refine acallH_anyx ((good_d_c d h hw).re (by rw [hg])) ?_ ?_); (focus ((try simp (disch := omega) only [go_sem, wrap_n]) <;> (try omega) <;> fail))) | ((first | refine zX ((find_c d key h hg).re (by rw [decide_eq_false hm])) rfl ?_ ?_ | refine acallH_anyx ((find_c d key h hg).re (by rw [decide_eq_false hm])) ?_ ?_); (focus ((try simp (disch := omega) only [go_sem, wrap_n]) <;> (try omega) <;> fail)))) | (refine aend_in (v := ?_) hKk (by first | exact .inl rfl | exact .inr rfl) ?_ ?_ ?_; rotate_left; (focus ((try simp (disch := omega) only [go_sem, wrap_n]) <;> (try omega) <;> fail)); (focus ((try simp (disch := omega) only [go_sem, wrap_n]) <;> (first | done | exact rfl))); clear hKk Kk) | ((first | (with_reducible refine aunder_i ?_ ?_ <;> intro hg) | with_reducible intro hg) <;> (first | (exfalso; simp at hg; done) | (have hg' := hg; (try simp only [hcs, beq_iff_eq, ge_iff_le, gt_iff_lt] at hg'); (try simp only [hg]))))) <;> (try simp (disch := omega) only [go_sem, wrap_n]) <;> (repeat' with_reducible refine And.intro ?_ ?_) <;> (try (with_reducible refine hK _ ?_; clear hK K)))
    | omega)
      (refine zF rfl ?_ ?_ ?_ ?_; (iterate 3 (focus ((try simp (disch := omega) only [go_sem, wrap_n, default]) <;> (try omega) <;> fail))); (try simp (disch := omega) only [go_sem, wrap_n, default, I, B, S, inj, List.cons.injEq, and_true, true_and, and_self]))
  · rw [change_bad hg]
    rw [Bool.not_eq_true] at hg
    refine acall_of tabOk Tryd.func65 rfl (by kernel_rfl) (by simp [Tryd.ntmps65]) ?_; simp only [Tryd.ntmps65, Tryd.results65, List.toList_toArray, apar, List.length_nil, List.length_cons, Nat.reduceAdd]
    (repeat' first
  | (with_reducible refine AR.f ?_)
  | refine blkA_x (by decide) ?_
  | (with_reducible refine AWP.cond rfl ?_ ?_ <;> intro hc <;> (try simp only [hcs, beq_iff_eq, ge_iff_le, gt_iff_lt] at hc))
  | (refine acallHK_in fun Kk hKk => (acall_of tabOk Tryd.func129 rfl (by kernel_rfl) (by simp [Tryd.ntmps129]) ?_); simp only [Tryd.ntmps129, Tryd.results129, List.toList_toArray, apar, List.length_nil, List.length_cons, Nat.reduceAdd, List.length_append, List.length_set, go_sem])
  | (refine acallHK_in fun Kk hKk => (acall_of tabOk Tryd.func130 rfl (by kernel_rfl) (by simp [Tryd.ntmps130]) ?_); simp only [Tryd.ntmps130, Tryd.results130, List.toList_toArray, apar, List.length_nil, List.length_cons, Nat.reduceAdd, List.length_append, List.length_set, go_sem])
  | ((first | ((first | (with_reducible first | refine zR ?_ | refine zQ (by decide +kernel) ?_ | refine zD (by decide +kernel) ?_ | refine zE (by decide +kernel) ?_ | refine zG (by decide +kernel) ?_)); intro K hK) | ((first | refine zA ((good_d_c d h hw).re (by rw [hg])) ?_ ?_ ?_ ?_ ?_); (focus exact rfl); (focus exact rfl); iterate 2 (focus ((try simp (disch := omega) only [go_sem, wrap_n]) <;> (try omega) <;> fail))) | ((first | refine zN ((good_d_c d h hw).re (by rw [hg])) rfl ?_ ?_); (focus ((try simp (disch := omega) only [go_sem, wrap_n]) <;> (try omega) <;> fail))) | (first | ((first | refine zX ((good_d_c d h hw).re (by rw [hg])) rfl ?_ ?_ | refine acallH_anyx ((good_d_c d h hw).re (by rw [hg])) ?_ ?_); (focus ((try simp (disch := omega) only [go_sem, wrap_n]) <;> (try omega) <;> fail)))) | (refine aend_in (v := ?_) hKk (by first | exact .inl rfl | exact .inr rfl) ?_ ?_ ?_; rotate_left; (focus ((try simp (disch := omega) only [go_sem, wrap_n]) <;> (try omega) <;> fail)); (focus ((try simp (disch := omega) only [go_sem, wrap_n]) <;> (first | done | exact rfl))); clear hKk Kk) | ((first | (with_reducible refine aunder_i ?_ ?_ <;> intro hg) | with_reducible intro hg) <;> (first | (exfalso; simp at hg; done) | (have hg' := hg; (try simp only [hcs, beq_iff_eq, ge_iff_le, gt_iff_lt] at hg'); (try simp only [hg]))))) <;> (try simp (disch := omega) only [go_sem, wrap_n]) <;> (repeat' with_reducible refine And.intro ?_ ?_) <;> (try (with_reducible refine hK _ ?_; clear hK K)))
  | omega)
    (refine zF rfl ?_ ?_ ?_ ?_; (iterate 3 (focus ((try simp (disch := omega) only [go_sem, wrap_n, default]) <;> (try omega) <;> fail))); (try simp (disch := omega) only [go_sem, wrap_n, default, I, B, S, inj, List.cons.injEq, and_true, true_and, and_self]))
theorem ref_sync_c (d : ADisk) (key : List UInt8) (h : d.files.length * 48 ≤ 140737488351232) (hw : ∀ f, f ∈ d.files → f.wf) : acall Tryd.prog [] 68 [d.av, S key] (ret (.tup [(changeD d.files key syncF).1.av, I (changeD d.files key syncF).2])) := by
  obtain ⟨w0, w1, w2, w3⟩ := file_wf hw (place (d.files.map AFile.name) key)
  by_cases hg : goodD d.files = true
  · by_cases hm : key ∈ d.files.map AFile.name
    · have hpl := place_lt hg hm
      rw [change_ok hg hm rfl]
      refine acall_of tabOk Tryd.func68 rfl (by kernel_rfl) (by simp [Tryd.ntmps68]) ?_; simp only [Tryd.ntmps68, Tryd.results68, List.toList_toArray, apar, List.length_nil, List.length_cons, Nat.reduceAdd]
      (repeat' first
    | (with_reducible refine AR.f ?_)
    | refine blkA_x (by decide) ?_
    | (with_reducible refine AWP.cond rfl ?_ ?_ <;> intro hc <;> (try simp only [hcs, beq_iff_eq, ge_iff_le, gt_iff_lt] at hc))
    | (refine acallHK_in fun Kk hKk => (acall_of tabOk Tryd.func132 rfl (by kernel_rfl) (by simp [Tryd.ntmps132]) ?_); simp only [Tryd.ntmps132, Tryd.results132, List.toList_toArray, apar, List.length_nil, List.length_cons, Nat.reduceAdd, List.length_append, List.length_set, go_sem])
    | (refine acallHK_in fun Kk hKk => (acall_of tabOk Tryd.func133 rfl (by kernel_rfl) (by simp [Tryd.ntmps133]) ?_); simp only [Tryd.ntmps133, Tryd.results133, List.toList_toArray, apar, List.length_nil, List.length_cons, Nat.reduceAdd, List.length_append, List.length_set, go_sem])
    | ((first | ((first | (with_reducible first | refine zR ?_ | refine zQ (by decide +kernel) ?_ | refine zD (by decide +kernel) ?_ | refine zE (by decide +kernel) ?_ | refine zG (by decide +kernel) ?_)); intro K hK) | ((first | refine zA ((ref_good_d_c d h hw).re (by rw [hg])) ?_ ?_ ?_ ?_ ?_ | refine zA ((file_c d key h hg).re (by rw [fileI_yes hm])) ?_ ?_ ?_ ?_ ?_ | refine zA (ref_copied_o_c d h) ?_ ?_ ?_ ?_ ?_); (focus exact rfl); (focus exact rfl); iterate 2 (focus ((try simp (disch := omega) only [go_sem, wrap_n, AFile.rgetD, getD_set, AFile.rset, getD_mapset, List.set_set]) <;> (try omega) <;> fail))) | ((first | refine zN ((ref_good_d_c d h hw).re (by rw [hg])) rfl ?_ ?_ | refine zN ((file_c d key h hg).re (by rw [fileI_yes hm])) rfl ?_ ?_ | refine zN (ref_copied_o_c d h) rfl ?_ ?_); (focus ((try simp (disch := omega) only [go_sem, wrap_n, AFile.rgetD, getD_set, AFile.rset, getD_mapset, List.set_set]) <;> (try omega) <;> fail))) | (first | ((first | refine zX ((ref_good_d_c d h hw).re (by rw [hg])) rfl ?_ ?_ | refine acallH_anyx ((ref_good_d_c d h hw).re (by rw [hg])) ?_ ?_); (focus ((try simp (disch := omega) only [go_sem, wrap_n, AFile.rgetD, getD_set, AFile.rset, getD_mapset, List.set_set]) <;> (try omega) <;> fail))) | ((first | refine zX ((file_c d key h hg).re (by rw [fileI_yes hm])) rfl ?_ ?_ | refine acallH_anyx ((file_c d key h hg).re (by rw [fileI_yes hm])) ?_ ?_); (focus ((try simp (disch := omega) only [go_sem, wrap_n, AFile.rgetD, getD_set, AFile.rset, getD_mapset, List.set_set]) <;> (try omega) <;> fail))) | ((first | refine zX (ref_copied_o_c d h) rfl ?_ ?_ | refine acallH_anyx (ref_copied_o_c d h) ?_ ?_); (focus ((try simp (disch := omega) only [go_sem, wrap_n, AFile.rgetD, getD_set, AFile.rset, getD_mapset, List.set_set]) <;> (try omega) <;> fail)))) | (refine aend_in (v := ?_) hKk (by first | exact .inl rfl | exact .inr rfl) ?_ ?_ ?_; rotate_left; (focus ((try simp (disch := omega) only [go_sem, wrap_n, AFile.rgetD, getD_set, AFile.rset, getD_mapset, List.set_set]) <;> (try omega) <;> fail)); (focus ((try simp (disch := omega) only [go_sem, wrap_n, AFile.rgetD, getD_set, AFile.rset, getD_mapset, List.set_set]) <;> (first | done | exact rfl))); clear hKk Kk) | ((first | (with_reducible refine aunder_i ?_ ?_ <;> intro hg) | with_reducible intro hg) <;> (first | (exfalso; simp at hg; done) | (have hg' := hg; (try simp only [hcs, beq_iff_eq, ge_iff_le, gt_iff_lt] at hg'); (try simp only [hg]))))) <;> (try simp (disch := omega) only [go_sem, wrap_n, AFile.rgetD, getD_set, AFile.rset, getD_mapset, List.set_set]) <;> (repeat' with_reducible refine And.intro ?_ ?_) <;> (try (with_reducible refine hK _ ?_; clear hK K)))
    | omega)
      (refine zF rfl ?_ ?_ ?_ ?_; (iterate 3 (focus ((try simp (disch := omega) only [go_sem, wrap_n, take_map_set]) <;> (try omega) <;> fail))); (try simp (disch := omega) only [go_sem, wrap_n, take_map_set, I, B, S, inj, List.cons.injEq, and_true, true_and, and_self]))
      exact .inl rfl
    · rw [change_none hg hm]
      refine acall_of tabOk Tryd.func68 rfl (by kernel_rfl) (by simp [Tryd.ntmps68]) ?_; simp only [Tryd.ntmps68, Tryd.results68, List.toList_toArray, apar, List.length_nil, List.length_cons, Nat.reduceAdd]
      (repeat' first
    | (with_reducible refine AR.f ?_)
    | refine blkA_x (by decide) ?_
    | (with_reducible refine AWP.cond rfl ?_ ?_ <;> intro hc <;> (try simp only [hcs, beq_iff_eq, ge_iff_le, gt_iff_lt] at hc))
    | (refine acallHK_in fun Kk hKk => (acall_of tabOk Tryd.func132 rfl (by kernel_rfl) (by simp [Tryd.ntmps132]) ?_); simp only [Tryd.ntmps132, Tryd.results132, List.toList_toArray, apar, List.length_nil, List.length_cons, Nat.reduceAdd, List.length_append, List.length_set, go_sem])
    | (refine acallHK_in fun Kk hKk => (acall_of tabOk Tryd.func133 rfl (by kernel_rfl) (by simp [Tryd.ntmps133]) ?_); simp only [Tryd.ntmps133, Tryd.results133, List.toList_toArray, apar, List.length_nil, List.length_cons, Nat.reduceAdd, List.length_append, List.length_set, go_sem])
    | ((first | ((first | (with_reducible first | refine zR ?_ | refine zQ (by decide +kernel) ?_ | refine zD (by decide +kernel) ?_ | refine zE (by decide +kernel) ?_ | refine zG (by decide +kernel) ?_)); intro K hK) | ((first | refine zA ((ref_good_d_c d h hw).re (by rw [hg])) ?_ ?_ ?_ ?_ ?_ | refine zA ((file_c d key h hg).re (by rw [fileI_no hm])) ?_ ?_ ?_ ?_ ?_); (focus exact rfl); (focus exact rfl); iterate 2 (focus ((try simp (disch := omega) only [go_sem, wrap_n]) <;> (try omega) <;> fail))) | ((first | refine zN ((ref_good_d_c d h hw).re (by rw [hg])) rfl ?_ ?_ | refine zN ((file_c d key h hg).re (by rw [fileI_no hm])) rfl ?_ ?_); (focus ((try simp (disch := omega) only [go_sem, wrap_n]) <;> (try omega) <;> fail))) | (first | ((first | refine zX ((ref_good_d_c d h hw).re (by rw [hg])) rfl ?_ ?_ | refine acallH_anyx ((ref_good_d_c d h hw).re (by rw [hg])) ?_ ?_); (focus ((try simp (disch := omega) only [go_sem, wrap_n]) <;> (try omega) <;> fail))) | ((first | refine zX ((file_c d key h hg).re (by rw [fileI_no hm])) rfl ?_ ?_ | refine acallH_anyx ((file_c d key h hg).re (by rw [fileI_no hm])) ?_ ?_); (focus ((try simp (disch := omega) only [go_sem, wrap_n]) <;> (try omega) <;> fail)))) | (refine aend_in (v := ?_) hKk (by first | exact .inl rfl | exact .inr rfl) ?_ ?_ ?_; rotate_left; (focus ((try simp (disch := omega) only [go_sem, wrap_n]) <;> (try omega) <;> fail)); (focus ((try simp (disch := omega) only [go_sem, wrap_n]) <;> (first | done | exact rfl))); clear hKk Kk) | ((first | (with_reducible refine aunder_i ?_ ?_ <;> intro hg) | with_reducible intro hg) <;> (first | (exfalso; simp at hg; done) | (have hg' := hg; (try simp only [hcs, beq_iff_eq, ge_iff_le, gt_iff_lt] at hg'); (try simp only [hg]))))) <;> (try simp (disch := omega) only [go_sem, wrap_n]) <;> (repeat' with_reducible refine And.intro ?_ ?_) <;> (try (with_reducible refine hK _ ?_; clear hK K)))
    | omega)
      (refine zF rfl ?_ ?_ ?_ ?_; (iterate 3 (focus ((try simp (disch := omega) only [go_sem, wrap_n, default]) <;> (try omega) <;> fail))); (try simp (disch := omega) only [go_sem, wrap_n, default, I, B, S, inj, List.cons.injEq, and_true, true_and, and_self]))
  · rw [change_bad hg]
    rw [Bool.not_eq_true] at hg
    refine acall_of tabOk Tryd.func68 rfl (by kernel_rfl) (by simp [Tryd.ntmps68]) ?_; simp only [Tryd.ntmps68, Tryd.results68, List.toList_toArray, apar, List.length_nil, List.length_cons, Nat.reduceAdd]
    (repeat' first
  | (with_reducible refine AR.f ?_)
  | refine blkA_x (by decide) ?_
  | (with_reducible refine AWP.cond rfl ?_ ?_ <;> intro hc <;> (try simp only [hcs, beq_iff_eq, ge_iff_le, gt_iff_lt] at hc))
  | (refine acallHK_in fun Kk hKk => (acall_of tabOk Tryd.func132 rfl (by kernel_rfl) (by simp [Tryd.ntmps132]) ?_); simp only [Tryd.ntmps132, Tryd.results132, List.toList_toArray, apar, List.length_nil, List.length_cons, Nat.reduceAdd, List.length_append, List.length_set, go_sem])
  | (refine acallHK_in fun Kk hKk => (acall_of tabOk Tryd.func133 rfl (by kernel_rfl) (by simp [Tryd.ntmps133]) ?_); simp only [Tryd.ntmps133, Tryd.results133, List.toList_toArray, apar, List.length_nil, List.length_cons, Nat.reduceAdd, List.length_append, List.length_set, go_sem])
  | ((first | ((first | (with_reducible first | refine zR ?_ | refine zQ (by decide +kernel) ?_ | refine zD (by decide +kernel) ?_ | refine zE (by decide +kernel) ?_ | refine zG (by decide +kernel) ?_)); intro K hK) | ((first | refine zA ((ref_good_d_c d h hw).re (by rw [hg])) ?_ ?_ ?_ ?_ ?_); (focus exact rfl); (focus exact rfl); iterate 2 (focus ((try simp (disch := omega) only [go_sem, wrap_n]) <;> (try omega) <;> fail))) | ((first | refine zN ((ref_good_d_c d h hw).re (by rw [hg])) rfl ?_ ?_); (focus ((try simp (disch := omega) only [go_sem, wrap_n]) <;> (try omega) <;> fail))) | (first | ((first | refine zX ((ref_good_d_c d h hw).re (by rw [hg])) rfl ?_ ?_ | refine acallH_anyx ((ref_good_d_c d h hw).re (by rw [hg])) ?_ ?_); (focus ((try simp (disch := omega) only [go_sem, wrap_n]) <;> (try omega) <;> fail)))) | (refine aend_in (v := ?_) hKk (by first | exact .inl rfl | exact .inr rfl) ?_ ?_ ?_; rotate_left; (focus ((try simp (disch := omega) only [go_sem, wrap_n]) <;> (try omega) <;> fail)); (focus ((try simp (disch := omega) only [go_sem, wrap_n]) <;> (first | done | exact rfl))); clear hKk Kk) | ((first | (with_reducible refine aunder_i ?_ ?_ <;> intro hg) | with_reducible intro hg) <;> (first | (exfalso; simp at hg; done) | (have hg' := hg; (try simp only [hcs, beq_iff_eq, ge_iff_le, gt_iff_lt] at hg'); (try simp only [hg]))))) <;> (try simp (disch := omega) only [go_sem, wrap_n]) <;> (repeat' with_reducible refine And.intro ?_ ?_) <;> (try (with_reducible refine hK _ ?_; clear hK K)))
  | omega)
    (refine zF rfl ?_ ?_ ?_ ?_; (iterate 3 (focus ((try simp (disch := omega) only [go_sem, wrap_n, default]) <;> (try omega) <;> fail))); (try simp (disch := omega) only [go_sem, wrap_n, default, I, B, S, inj, List.cons.injEq, and_true, true_and, and_self]))
theorem cut_c (d : ADisk) (key : List UInt8) (n : Int) (h : d.files.length * 48 ≤ 140737488351232) (hw : ∀ f, f ∈ d.files → f.wf) : acall Tryd.prog [] 71 [d.av, S key, I n] (ret (.tup [(changeD d.files key (cutF n)).1.av, I (changeD d.files key (cutF n)).2])) := by
  obtain ⟨w0, w1, w2, w3⟩ := file_wf hw (place (d.files.map AFile.name) key)
  by_cases hg : goodD d.files = true
  · by_cases hm : key ∈ d.files.map AFile.name
    · have hpl := place_lt hg hm
      by_cases hn : n < 0 ∨ ((d.files.getD (place (d.files.map AFile.name) key) default).safe.length : Int) + (d.files.getD (place (d.files.map AFile.name) key) default).tail.length < n
      · have e : cutF n (d.files.getD (place (d.files.map AFile.name) key) default) = (default, 3) := by unfold cutF; rw [if_pos hn]
        rw [change_err hg hm (by rw [e]; decide), e]
        refine acall_of tabOk Tryd.func71 rfl (by kernel_rfl) (by simp [Tryd.ntmps71]) ?_; simp only [Tryd.ntmps71, Tryd.results71, List.toList_toArray, apar, List.length_nil, List.length_cons, Nat.reduceAdd]
        (repeat' first
      | (with_reducible refine AR.f ?_)
      | refine blkA_x (by decide) ?_
      | (with_reducible refine AWP.cond rfl ?_ ?_ <;> intro hc <;> (try simp only [hcs, beq_iff_eq, ge_iff_le, gt_iff_lt] at hc))
      | (refine acallHK_in fun Kk hKk => (acall_of tabOk Tryd.func129 rfl (by kernel_rfl) (by simp [Tryd.ntmps129]) ?_); simp only [Tryd.ntmps129, Tryd.results129, List.toList_toArray, apar, List.length_nil, List.length_cons, Nat.reduceAdd, List.length_append, List.length_set, go_sem])
      | (refine acallHK_in fun Kk hKk => (acall_of tabOk Tryd.func135 rfl (by kernel_rfl) (by simp [Tryd.ntmps135]) ?_); simp only [Tryd.ntmps135, Tryd.results135, List.toList_toArray, apar, List.length_nil, List.length_cons, Nat.reduceAdd, List.length_append, List.length_set, go_sem])
      | ((first | ((first | (with_reducible first | refine zR ?_ | refine zQ (by decide +kernel) ?_ | refine zD (by decide +kernel) ?_ | refine zE (by decide +kernel) ?_ | refine zG (by decide +kernel) ?_)); intro K hK) | ((first | refine zA ((good_d_c d h hw).re (by rw [hg])) ?_ ?_ ?_ ?_ ?_ | refine zA ((find_c d key h hg).re (by rw [decide_eq_true hm])) ?_ ?_ ?_ ?_ ?_ | refine zA (copied_d_c d h) ?_ ?_ ?_ ?_ ?_); (focus exact rfl); (focus exact rfl); iterate 2 (focus ((try simp (disch := omega) only [go_sem, wrap_n, AFile.rgetD, getD_set, AFile.rset, getD_mapset, List.set_set]) <;> (try omega) <;> fail))) | ((first | refine zN ((good_d_c d h hw).re (by rw [hg])) rfl ?_ ?_ | refine zN ((find_c d key h hg).re (by rw [decide_eq_true hm])) rfl ?_ ?_ | refine zN (copied_d_c d h) rfl ?_ ?_); (focus ((try simp (disch := omega) only [go_sem, wrap_n, AFile.rgetD, getD_set, AFile.rset, getD_mapset, List.set_set]) <;> (try omega) <;> fail))) | (first | ((first | refine zX ((good_d_c d h hw).re (by rw [hg])) rfl ?_ ?_ | refine acallH_anyx ((good_d_c d h hw).re (by rw [hg])) ?_ ?_); (focus ((try simp (disch := omega) only [go_sem, wrap_n, AFile.rgetD, getD_set, AFile.rset, getD_mapset, List.set_set]) <;> (try omega) <;> fail))) | ((first | refine zX ((find_c d key h hg).re (by rw [decide_eq_true hm])) rfl ?_ ?_ | refine acallH_anyx ((find_c d key h hg).re (by rw [decide_eq_true hm])) ?_ ?_); (focus ((try simp (disch := omega) only [go_sem, wrap_n, AFile.rgetD, getD_set, AFile.rset, getD_mapset, List.set_set]) <;> (try omega) <;> fail))) | ((first | refine zX (copied_d_c d h) rfl ?_ ?_ | refine acallH_anyx (copied_d_c d h) ?_ ?_); (focus ((try simp (disch := omega) only [go_sem, wrap_n, AFile.rgetD, getD_set, AFile.rset, getD_mapset, List.set_set]) <;> (try omega) <;> fail)))) | (refine aend_in (v := ?_) hKk (by first | exact .inl rfl | exact .inr rfl) ?_ ?_ ?_; rotate_left; (focus ((try simp (disch := omega) only [go_sem, wrap_n, AFile.rgetD, getD_set, AFile.rset, getD_mapset, List.set_set]) <;> (try omega) <;> fail)); (focus ((try simp (disch := omega) only [go_sem, wrap_n, AFile.rgetD, getD_set, AFile.rset, getD_mapset, List.set_set]) <;> (first | done | exact rfl))); clear hKk Kk) | ((first | (with_reducible refine aunder_i ?_ ?_ <;> intro hg) | with_reducible intro hg) <;> (first | (exfalso; simp at hg; done) | (have hg' := hg; (try simp only [hcs, beq_iff_eq, ge_iff_le, gt_iff_lt] at hg'); (try simp only [hg]))))) <;> (try simp (disch := omega) only [go_sem, wrap_n, AFile.rgetD, getD_set, AFile.rset, getD_mapset, List.set_set]) <;> (repeat' with_reducible refine And.intro ?_ ?_) <;> (try (with_reducible refine hK _ ?_; clear hK K)))
      | omega)
        all_goals first | omega | skip
        all_goals (refine zF rfl ?_ ?_ ?_ ?_; (iterate 3 (focus ((try simp (disch := omega) only [go_sem, wrap_n, default]) <;> (try omega) <;> fail))); (try simp (disch := omega) only [go_sem, wrap_n, default, I, B, S, inj, List.cons.injEq, and_true, true_and, and_self]))
      · have e : cutF n (d.files.getD (place (d.files.map AFile.name) key) default) = (⟨(d.files.getD (place (d.files.map AFile.name) key) default).name, ((d.files.getD (place (d.files.map AFile.name) key) default).safe ++ (d.files.getD (place (d.files.map AFile.name) key) default).tail).take n.toNat, []⟩, 0) := by unfold cutF; rw [if_neg hn]
        rw [change_ok hg hm (by rw [e]), e]
        refine acall_of tabOk Tryd.func71 rfl (by kernel_rfl) (by simp [Tryd.ntmps71]) ?_; simp only [Tryd.ntmps71, Tryd.results71, List.toList_toArray, apar, List.length_nil, List.length_cons, Nat.reduceAdd]
        (repeat' first
      | (with_reducible refine AR.f ?_)
      | refine blkA_x (by decide) ?_
      | (with_reducible refine AWP.cond rfl ?_ ?_ <;> intro hc <;> (try simp only [hcs, beq_iff_eq, ge_iff_le, gt_iff_lt] at hc))
      | (refine acallHK_in fun Kk hKk => (acall_of tabOk Tryd.func129 rfl (by kernel_rfl) (by simp [Tryd.ntmps129]) ?_); simp only [Tryd.ntmps129, Tryd.results129, List.toList_toArray, apar, List.length_nil, List.length_cons, Nat.reduceAdd, List.length_append, List.length_set, go_sem])
      | (refine acallHK_in fun Kk hKk => (acall_of tabOk Tryd.func135 rfl (by kernel_rfl) (by simp [Tryd.ntmps135]) ?_); simp only [Tryd.ntmps135, Tryd.results135, List.toList_toArray, apar, List.length_nil, List.length_cons, Nat.reduceAdd, List.length_append, List.length_set, go_sem])
      | ((first | ((first | (with_reducible first | refine zR ?_ | refine zQ (by decide +kernel) ?_ | refine zD (by decide +kernel) ?_ | refine zE (by decide +kernel) ?_ | refine zG (by decide +kernel) ?_)); intro K hK) | ((first | refine zA ((good_d_c d h hw).re (by rw [hg])) ?_ ?_ ?_ ?_ ?_ | refine zA ((find_c d key h hg).re (by rw [decide_eq_true hm])) ?_ ?_ ?_ ?_ ?_ | refine zA (copied_d_c d h) ?_ ?_ ?_ ?_ ?_); (focus exact rfl); (focus exact rfl); iterate 2 (focus ((try simp (disch := omega) only [go_sem, wrap_n, AFile.rgetD, getD_set, AFile.rset, getD_mapset, List.set_set]) <;> (try omega) <;> fail))) | ((first | refine zN ((good_d_c d h hw).re (by rw [hg])) rfl ?_ ?_ | refine zN ((find_c d key h hg).re (by rw [decide_eq_true hm])) rfl ?_ ?_ | refine zN (copied_d_c d h) rfl ?_ ?_); (focus ((try simp (disch := omega) only [go_sem, wrap_n, AFile.rgetD, getD_set, AFile.rset, getD_mapset, List.set_set]) <;> (try omega) <;> fail))) | (first | ((first | refine zX ((good_d_c d h hw).re (by rw [hg])) rfl ?_ ?_ | refine acallH_anyx ((good_d_c d h hw).re (by rw [hg])) ?_ ?_); (focus ((try simp (disch := omega) only [go_sem, wrap_n, AFile.rgetD, getD_set, AFile.rset, getD_mapset, List.set_set]) <;> (try omega) <;> fail))) | ((first | refine zX ((find_c d key h hg).re (by rw [decide_eq_true hm])) rfl ?_ ?_ | refine acallH_anyx ((find_c d key h hg).re (by rw [decide_eq_true hm])) ?_ ?_); (focus ((try simp (disch := omega) only [go_sem, wrap_n, AFile.rgetD, getD_set, AFile.rset, getD_mapset, List.set_set]) <;> (try omega) <;> fail))) | ((first | refine zX (copied_d_c d h) rfl ?_ ?_ | refine acallH_anyx (copied_d_c d h) ?_ ?_); (focus ((try simp (disch := omega) only [go_sem, wrap_n, AFile.rgetD, getD_set, AFile.rset, getD_mapset, List.set_set]) <;> (try omega) <;> fail)))) | (refine aend_in (v := ?_) hKk (by first | exact .inl rfl | exact .inr rfl) ?_ ?_ ?_; rotate_left; (focus ((try simp (disch := omega) only [go_sem, wrap_n, AFile.rgetD, getD_set, AFile.rset, getD_mapset, List.set_set]) <;> (try omega) <;> fail)); (focus ((try simp (disch := omega) only [go_sem, wrap_n, AFile.rgetD, getD_set, AFile.rset, getD_mapset, List.set_set]) <;> (first | done | exact rfl))); clear hKk Kk) | ((first | (with_reducible refine aunder_i ?_ ?_ <;> intro hg) | with_reducible intro hg) <;> (first | (exfalso; simp at hg; done) | (have hg' := hg; (try simp only [hcs, beq_iff_eq, ge_iff_le, gt_iff_lt] at hg'); (try simp only [hg]))))) <;> (try simp (disch := omega) only [go_sem, wrap_n, AFile.rgetD, getD_set, AFile.rset, getD_mapset, List.set_set]) <;> (repeat' with_reducible refine And.intro ?_ ?_) <;> (try (with_reducible refine hK _ ?_; clear hK K)))
      | omega)
        all_goals first | omega | skip
        (refine zF rfl ?_ ?_ ?_ ?_; (iterate 3 (focus ((try simp (disch := omega) only [go_sem, wrap_n, take_map_set]) <;> (try omega) <;> fail))); (try simp (disch := omega) only [go_sem, wrap_n, take_map_set, I, B, S, inj, List.cons.injEq, and_true, true_and, and_self]))
        exact .inl rfl
    · rw [change_none hg hm]
      refine acall_of tabOk Tryd.func71 rfl (by kernel_rfl) (by simp [Tryd.ntmps71]) ?_; simp only [Tryd.ntmps71, Tryd.results71, List.toList_toArray, apar, List.length_nil, List.length_cons, Nat.reduceAdd]
      (repeat' first
    | (with_reducible refine AR.f ?_)
    | refine blkA_x (by decide) ?_
    | (with_reducible refine AWP.cond rfl ?_ ?_ <;> intro hc <;> (try simp only [hcs, beq_iff_eq, ge_iff_le, gt_iff_lt] at hc))
    | (refine acallHK_in fun Kk hKk => (acall_of tabOk Tryd.func129 rfl (by kernel_rfl) (by simp [Tryd.ntmps129]) ?_); simp only [Tryd.ntmps129, Tryd.results129, List.toList_toArray, apar, List.length_nil, List.length_cons, Nat.reduceAdd, List.length_append, List.length_set, go_sem])
    | (refine acallHK_in fun Kk hKk => (acall_of tabOk Tryd.func135 rfl (by kernel_rfl) (by simp [Tryd.ntmps135]) ?_); simp only [Tryd.ntmps135, Tryd.results135, List.toList_toArray, apar, List.length_nil, List.length_cons, Nat.reduceAdd, List.length_append, List.length_set, go_sem])
    | ((first | ((first | (with_reducible first | refine zR ?_ | refine zQ (by decide +kernel) ?_ | refine zD (by decide +kernel) ?_ | refine zE (by decide +kernel) ?_ | refine zG (by decide +kernel) ?_)); intro K hK) | ((first | refine zA ((good_d_c d h hw).re (by rw [hg])) ?_ ?_ ?_ ?_ ?_ | refine zA ((find_c d key h hg).re (by rw [decide_eq_false hm])) ?_ ?_ ?_ ?_ ?_); (focus exact rfl); (focus exact rfl); iterate 2 (focus ((try simp (disch := omega) only [go_sem, wrap_n]) <;> (try omega) <;> fail))) | ((first | refine zN ((good_d_c d h hw).re (by rw [hg])) rfl ?_ ?_ | refine zN ((find_c d key h hg).re (by rw [decide_eq_false hm])) rfl ?_ ?_); (focus ((try simp (disch := omega) only [go_sem, wrap_n]) <;> (try omega) <;> fail))) | (first | ((first | refine zX ((good_d_c d h hw).re (by rw [hg])) rfl ?_ ?_ | refine acallH_anyx ((good_d_c d h hw).re (by rw [hg])) ?_ ?_); (focus ((try simp (disch := omega) only [go_sem, wrap_n]) <;> (try omega) <;> fail))) | ((first | refine zX ((find_c d key h hg).re (by rw [decide_eq_false hm])) rfl ?_ ?_ | refine acallH_anyx ((find_c d key h hg).re (by rw [decide_eq_false hm])) ?_ ?_); (focus ((try simp (disch := omega) only [go_sem, wrap_n]) <;> (try omega) <;> fail)))) | (refine aend_in (v := ?_) hKk (by first | exact .inl rfl | exact .inr rfl) ?_ ?_ ?_; rotate_left; (focus ((try simp (disch := omega) only [go_sem, wrap_n]) <;> (try omega) <;> fail)); (focus ((try simp (disch := omega) only [go_sem, wrap_n]) <;> (first | done | exact rfl))); clear hKk Kk) | ((first | (with_reducible refine aunder_i ?_ ?_ <;> intro hg) | with_reducible intro hg) <;> (first | (exfalso; simp at hg; done) | (have hg' := hg; (try simp only [hcs, beq_iff_eq, ge_iff_le, gt_iff_lt] at hg'); (try simp only [hg]))))) <;> (try simp (disch := omega) only [go_sem, wrap_n]) <;> (repeat' with_reducible refine And.intro ?_ ?_) <;> (try (with_reducible refine hK _ ?_; clear hK K)))
    | omega)
      (refine zF rfl ?_ ?_ ?_ ?_; (iterate 3 (focus ((try simp (disch := omega) only [go_sem, wrap_n, default]) <;> (try omega) <;> fail))); (try simp (disch := omega) only [go_sem, wrap_n, default, I, B, S, inj, List.cons.injEq, and_true, true_and, and_self]))
  · rw [change_bad hg]
    rw [Bool.not_eq_true] at hg
    refine acall_of tabOk Tryd.func71 rfl (by kernel_rfl) (by simp [Tryd.ntmps71]) ?_; simp only [Tryd.ntmps71, Tryd.results71, List.toList_toArray, apar, List.length_nil, List.length_cons, Nat.reduceAdd]
    (repeat' first
  | (with_reducible refine AR.f ?_)
  | refine blkA_x (by decide) ?_
  | (with_reducible refine AWP.cond rfl ?_ ?_ <;> intro hc <;> (try simp only [hcs, beq_iff_eq, ge_iff_le, gt_iff_lt] at hc))
  | (refine acallHK_in fun Kk hKk => (acall_of tabOk Tryd.func129 rfl (by kernel_rfl) (by simp [Tryd.ntmps129]) ?_); simp only [Tryd.ntmps129, Tryd.results129, List.toList_toArray, apar, List.length_nil, List.length_cons, Nat.reduceAdd, List.length_append, List.length_set, go_sem])
  | (refine acallHK_in fun Kk hKk => (acall_of tabOk Tryd.func135 rfl (by kernel_rfl) (by simp [Tryd.ntmps135]) ?_); simp only [Tryd.ntmps135, Tryd.results135, List.toList_toArray, apar, List.length_nil, List.length_cons, Nat.reduceAdd, List.length_append, List.length_set, go_sem])
  | ((first | ((first | (with_reducible first | refine zR ?_ | refine zQ (by decide +kernel) ?_ | refine zD (by decide +kernel) ?_ | refine zE (by decide +kernel) ?_ | refine zG (by decide +kernel) ?_)); intro K hK) | ((first | refine zA ((good_d_c d h hw).re (by rw [hg])) ?_ ?_ ?_ ?_ ?_); (focus exact rfl); (focus exact rfl); iterate 2 (focus ((try simp (disch := omega) only [go_sem, wrap_n]) <;> (try omega) <;> fail))) | ((first | refine zN ((good_d_c d h hw).re (by rw [hg])) rfl ?_ ?_); (focus ((try simp (disch := omega) only [go_sem, wrap_n]) <;> (try omega) <;> fail))) | (first | ((first | refine zX ((good_d_c d h hw).re (by rw [hg])) rfl ?_ ?_ | refine acallH_anyx ((good_d_c d h hw).re (by rw [hg])) ?_ ?_); (focus ((try simp (disch := omega) only [go_sem, wrap_n]) <;> (try omega) <;> fail)))) | (refine aend_in (v := ?_) hKk (by first | exact .inl rfl | exact .inr rfl) ?_ ?_ ?_; rotate_left; (focus ((try simp (disch := omega) only [go_sem, wrap_n]) <;> (try omega) <;> fail)); (focus ((try simp (disch := omega) only [go_sem, wrap_n]) <;> (first | done | exact rfl))); clear hKk Kk) | ((first | (with_reducible refine aunder_i ?_ ?_ <;> intro hg) | with_reducible intro hg) <;> (first | (exfalso; simp at hg; done) | (have hg' := hg; (try simp only [hcs, beq_iff_eq, ge_iff_le, gt_iff_lt] at hg'); (try simp only [hg]))))) <;> (try simp (disch := omega) only [go_sem, wrap_n]) <;> (repeat' with_reducible refine And.intro ?_ ?_) <;> (try (with_reducible refine hK _ ?_; clear hK K)))
  | omega)
    (refine zF rfl ?_ ?_ ?_ ?_; (iterate 3 (focus ((try simp (disch := omega) only [go_sem, wrap_n, default]) <;> (try omega) <;> fail))); (try simp (disch := omega) only [go_sem, wrap_n, default, I, B, S, inj, List.cons.injEq, and_true, true_and, and_self]))
def crashF (keep : Int) (f : AFile) : AFile := ⟨f.name, f.safe ++ f.tail.take keep.toNat, []⟩
def crashD (l : List AFile) (keep : Int) : ADisk × Int := if goodD l = false ∨ keep < 0 then (default, 3) else (⟨l.map (crashF keep)⟩, 0)
def crashed (l : List AFile) (keep : Int) (k : Nat) : List AFile := (l.take k).map (crashF keep) ++ l.drop k
theorem crashed_len (l : List AFile) (keep : Int) (k : Nat) : (crashed l keep k).length = l.length := by unfold crashed; simp; omega
theorem crashed_get (l : List AFile) (keep : Int) (k : Nat) (h : k < l.length) : (crashed l keep k).getD k default = l.getD k default := by
  unfold crashed
  have e : ((l.take k).map (crashF keep)).length = k := by simp; omega
  rw [List.getD_eq_getElem?_getD, List.getElem?_append_right (by omega), e, List.getElem?_drop, List.getD_eq_getElem?_getD, Nat.sub_self, Nat.add_zero]
theorem crashed_rget (l : List AFile) (keep : Int) (k : Nat) (z : List DV) (h : k < l.length) : ((crashed l keep k).map AFile.row).getD k z = (l.getD k default).row := by
  rw [AFile.rgetD _ _ _ (by rw [crashed_len]; exact h), crashed_get _ _ _ h]
theorem crashed_set (l : List AFile) (keep : Int) (k : Nat) (h : k < l.length) : (crashed l keep k).set k (crashF keep (l.getD k default)) = crashed l keep (k + 1) := by
  unfold crashed
  have e : ((l.take k).map (crashF keep)).length = k := by simp; omega
  rw [List.set_append_right _ _ (by omega), e, Nat.sub_self, take_snoc l k h, List.map_append, List.append_assoc]
  congr 1
  rw [List.drop_eq_getElem_cons h]
  rfl
theorem take_min (l : List UInt8) (keep : Int) (h : 0 ≤ keep) : l.take (if (l.length : Int) < keep then (l.length : Int) else keep).toNat = l.take keep.toNat := by
  split
  · rw [Int.toNat_natCast, List.take_length, List.take_of_length_le (by omega)]
  · rfl
theorem crash_c (d : ADisk) (keep : Int) (h : d.files.length * 48 ≤ 140737488351232) (hw : ∀ f, f ∈ d.files → f.wf) : acall Tryd.prog [] 118 [d.av, I keep] (ret (.tup [(crashD d.files keep).1.av, I (crashD d.files keep).2])) := by
  refine acall_of tabOk Tryd.func118 rfl (by kernel_rfl) (by simp [Tryd.ntmps118]) ?_; simp only [Tryd.ntmps118, Tryd.results118, List.toList_toArray, apar, List.length_nil, List.length_cons, Nat.reduceAdd]
  (repeat' first
| (with_reducible refine AR.f ?_)
| refine blkA_x (by decide) ?_
| (with_reducible refine AWP.cond rfl ?_ ?_ <;> intro hc <;> (try simp only [hcs, beq_iff_eq, ge_iff_le, gt_iff_lt] at hc))
| ((first | ((first | (with_reducible first | refine zR ?_ | refine zQ (by decide +kernel) ?_ | refine zD (by decide +kernel) ?_ | refine zE (by decide +kernel) ?_ | refine zG (by decide +kernel) ?_)); intro K hK) | ((first | refine zA (good_d_c d h hw) ?_ ?_ ?_ ?_ ?_ | refine zA (copied_d_c d h) ?_ ?_ ?_ ?_ ?_); (focus exact rfl); (focus exact rfl); iterate 2 (focus ((try simp (disch := omega) only [go_sem, wrap_n]) <;> (try omega) <;> fail))) | ((first | refine zN (good_d_c d h hw) rfl ?_ ?_ | refine zN (copied_d_c d h) rfl ?_ ?_); (focus ((try simp (disch := omega) only [go_sem, wrap_n]) <;> (try omega) <;> fail))) | (first | ((first | refine zX (good_d_c d h hw) rfl ?_ ?_ | refine acallH_anyx (good_d_c d h hw) ?_ ?_); (focus ((try simp (disch := omega) only [go_sem, wrap_n]) <;> (try omega) <;> fail))) | ((first | refine zX (copied_d_c d h) rfl ?_ ?_ | refine acallH_anyx (copied_d_c d h) ?_ ?_); (focus ((try simp (disch := omega) only [go_sem, wrap_n]) <;> (try omega) <;> fail)))) | ((first | (with_reducible refine aunder_i ?_ ?_ <;> intro hg) | with_reducible intro hg) <;> (first | (exfalso; simp at hg; done) | (have hg' := hg; (try simp only [hcs, beq_iff_eq, ge_iff_le, gt_iff_lt] at hg'); (try simp only [hg]))))) <;> (try simp (disch := omega) only [go_sem, wrap_n]) <;> (repeat' with_reducible refine And.intro ?_ ?_) <;> (try (with_reducible refine hK _ ?_; clear hK K)))
| omega)
  · unfold crashD; rw [if_pos hc]; (refine zF rfl ?_ ?_ ?_ ?_; (iterate 3 (focus ((try simp (disch := omega) only [go_sem, wrap_n, default]) <;> (try omega) <;> fail))); (try simp (disch := omega) only [go_sem, wrap_n, default, I, B, S, inj, List.cons.injEq, and_true, true_and, and_self]))
  obtain ⟨hg, hk0⟩ := hc
  refine AWP.loopB (ι := Nat) (fun k => k ≤ d.files.length) (fun k => d.files.length - k) [1, 2, 4, 20] (fun k => [(21, I k)]) (fun k => [.cells [.osl 2 3 0 d.files.length], .cells [.d (.sc (.slice none 0 0))], .rows 3 ((crashed d.files keep k).map AFile.row)]) 0 ?_ ?_ ?_
  · omega
  · simp only [go_sem]; (refine SImp.same ?_; simp (disch := omega) only [go_sem, wrap_n, Int.natCast_add, crashed])
  intro k hk
  obtain ⟨w0, w1, w2, w3⟩ := file_wf hw k
  have hcl := crashed_len d.files keep k
  simp only [go_sem]
  (repeat' first
| (with_reducible refine AR.f ?_)
| refine blkA_x (by decide) ?_
| (with_reducible refine AWP.cond rfl ?_ ?_ <;> intro hc <;> (try simp only [hcs, beq_iff_eq, ge_iff_le, gt_iff_lt] at hc))
| ((first | ((first | (with_reducible first | refine zR ?_ | refine zQ (by decide +kernel) ?_ | refine zD (by decide +kernel) ?_ | refine zE (by decide +kernel) ?_ | refine zG (by decide +kernel) ?_)); intro K hK) | ((first | (with_reducible refine aunder_i ?_ ?_ <;> intro hg) | with_reducible intro hg) <;> (first | (exfalso; simp at hg; done) | (have hg' := hg; (try simp only [hcs, beq_iff_eq, ge_iff_le, gt_iff_lt] at hg'); (try simp only [hg]))))) <;> (try simp (disch := omega) only [go_sem, wrap_n, crashed_rget, AFile.rset, getD_mapset, List.set_set]) <;> (repeat' with_reducible refine And.intro ?_ ?_) <;> (try (with_reducible refine hK _ ?_; clear hK K)))
| omega)
  · refine ⟨k + 1, by omega, by omega, ?_⟩
    have e : (⟨(d.files.getD k default).name, (d.files.getD k default).safe ++ List.take ((if ((d.files.getD k default).tail.length : Int) < keep then ((d.files.getD k default).tail.length : Int) else keep).toNat - 0) (d.files.getD k default).tail, []⟩ : AFile) = crashF keep (d.files.getD k default) := by
      unfold crashF; rw [Nat.sub_zero, take_min _ _ hk0]
    rw [e, crashed_set _ _ _ hc]
    (refine SImp.frame [0, 1, 2] rfl (by intro k hk; first | (simp at hk <;> (simp; omega)) | (simp only [List.mem_cons, List.not_mem_nil, or_false] at hk; simp only [List.length_cons, List.length_nil]; omega)) (by decide) (fun k hk => by first | omega | (rcases k with _ | _ | _ | _ | _ | _ | _ | _ | k <;> first | rfl | omega)) ?_ ?_ <;> simp (disch := omega) only [go_sem, wrap_n, Int.natCast_add, true_and] <;> (try rfl))
  · have e : k = d.files.length := by omega
    subst e
    have e1 : crashed d.files keep d.files.length = d.files.map (crashF keep) := by unfold crashed; simp
    rw [e1]
    unfold crashD; rw [if_neg (by simp [hg]; omega)]
    (refine zF rfl ?_ ?_ ?_ ?_; (iterate 3 (focus ((try simp (disch := omega) only [go_sem, wrap_n, List.map_map]) <;> (try omega) <;> fail))); (try simp (disch := omega) only [go_sem, wrap_n, List.map_map, I, B, S, inj, List.cons.injEq, and_true, true_and, and_self]))
theorem take_mm {α β γ : Type} (f : α → β) (g : β → γ) (l : List α) (k : Nat) : (((l.take k).map f).map g).take k = ((l.take k).map f).map g := List.take_of_length_le (by simp; omega)
theorem ref_crash_c (d : ADisk) (keep : Int) (h : d.files.length * 48 ≤ 140737488351232) (hw : ∀ f, f ∈ d.files → f.wf) : acall Tryd.prog [] 119 [d.av, I keep] (ret (.tup [(crashD d.files keep).1.av, I (crashD d.files keep).2])) := by
  refine acall_of tabOk Tryd.func119 rfl (by kernel_rfl) (by simp [Tryd.ntmps119]) ?_; simp only [Tryd.ntmps119, Tryd.results119, List.toList_toArray, apar, List.length_nil, List.length_cons, Nat.reduceAdd]
  (repeat' first
| (with_reducible refine AR.f ?_)
| refine blkA_x (by decide) ?_
| (with_reducible refine AWP.cond rfl ?_ ?_ <;> intro hc <;> (try simp only [hcs, beq_iff_eq, ge_iff_le, gt_iff_lt] at hc))
| ((first | ((first | (with_reducible first | refine zR ?_ | refine zQ (by decide +kernel) ?_ | refine zD (by decide +kernel) ?_ | refine zE (by decide +kernel) ?_ | refine zG (by decide +kernel) ?_)); intro K hK) | ((first | refine zA (ref_good_d_c d h hw) ?_ ?_ ?_ ?_ ?_); (focus exact rfl); (focus exact rfl); iterate 2 (focus ((try simp (disch := omega) only [go_sem, wrap_n]) <;> (try omega) <;> fail))) | ((first | refine zN (ref_good_d_c d h hw) rfl ?_ ?_); (focus ((try simp (disch := omega) only [go_sem, wrap_n]) <;> (try omega) <;> fail))) | (first | ((first | refine zX (ref_good_d_c d h hw) rfl ?_ ?_ | refine acallH_anyx (ref_good_d_c d h hw) ?_ ?_); (focus ((try simp (disch := omega) only [go_sem, wrap_n]) <;> (try omega) <;> fail)))) | ((first | (with_reducible refine aunder_i ?_ ?_ <;> intro hg) | with_reducible intro hg) <;> (first | (exfalso; simp at hg; done) | (have hg' := hg; (try simp only [hcs, beq_iff_eq, ge_iff_le, gt_iff_lt] at hg'); (try simp only [hg]))))) <;> (try simp (disch := omega) only [go_sem, wrap_n]) <;> (repeat' with_reducible refine And.intro ?_ ?_) <;> (try (with_reducible refine hK _ ?_; clear hK K)))
| omega)
  · unfold crashD; rw [if_pos hc]; (refine zF rfl ?_ ?_ ?_ ?_; (iterate 3 (focus ((try simp (disch := omega) only [go_sem, wrap_n, default]) <;> (try omega) <;> fail))); (try simp (disch := omega) only [go_sem, wrap_n, default, I, B, S, inj, List.cons.injEq, and_true, true_and, and_self]))
  obtain ⟨hg, hk0⟩ := hc
  refine AWP.weaken (SImp.nilOwnC 2 0 3 rfl rfl) ?_
  simp only [go_sem]
  refine AWP.loopB (ι := Nat) (fun k => k ≤ d.files.length) (fun k => d.files.length - k) [1, 4, 6, 19, 20] (fun k => [(21, I k)]) (fun k => [.cells [.d (.sl 3 (d.files.map AFile.row))], .cells [.d (.sc (.slice none 0 0))], .cells [.osl 3 3 0 k], .rows 3 (((d.files.take k).map (crashF keep)).map AFile.row)]) 0 ?_ ?_ ?_
  · omega
  · simp only [go_sem]; (refine SImp.same ?_; simp (disch := omega) only [go_sem, wrap_n, Int.natCast_add])
  intro k hk
  obtain ⟨w0, w1, w2, w3⟩ := file_wf hw k
  simp only [go_sem]
  have e2 : k < d.files.length → (d.files.take (k + 1)).map (crashF keep) = (d.files.take k).map (crashF keep) ++ [crashF keep (d.files.getD k default)] := fun hlt => by rw [take_snoc _ k hlt, List.map_append]; rfl
  (repeat' first
| (with_reducible refine AR.f ?_)
| refine blkA_x (by decide) ?_
| (with_reducible refine AWP.cond rfl ?_ ?_ <;> intro hc <;> (try simp only [hcs, beq_iff_eq, ge_iff_le, gt_iff_lt] at hc))
| ((first | ((first | (with_reducible first | refine zR ?_ | refine zQ (by decide +kernel) ?_ | refine zD (by decide +kernel) ?_ | refine zE (by decide +kernel) ?_ | refine zG (by decide +kernel) ?_)); intro K hK) | ((first | (with_reducible refine aunder_i ?_ ?_ <;> intro hg) | with_reducible intro hg) <;> (first | (exfalso; simp at hg; done) | (have hg' := hg; (try simp only [hcs, beq_iff_eq, ge_iff_le, gt_iff_lt] at hg'); (try simp only [hg]))))) <;> (try simp (disch := omega) only [go_sem, wrap_n, AFile.rgetD, AFile.rsnoc, List.length_take, Nat.min_eq_left, take_mm]) <;> (repeat' with_reducible refine And.intro ?_ ?_) <;> (try (with_reducible refine hK _ ?_; clear hK K)))
| omega)
  · refine ⟨k + 1, by omega, by omega, ?_⟩
    rw [e2 (by assumption)]
    (refine SImp.frame [0, 1, 2, 6] rfl (by intro k hk; first | (simp at hk <;> (simp; omega)) | (simp only [List.mem_cons, List.not_mem_nil, or_false] at hk; simp only [List.length_cons, List.length_nil]; omega)) (by decide) (fun k hk => by first | omega | (rcases k with _ | _ | _ | _ | _ | _ | _ | _ | k <;> first | rfl | omega)) ?_ ?_ <;> simp (disch := omega) only [go_sem, wrap_n, Int.natCast_add, true_and] <;> (try rfl))
  · refine ⟨k + 1, by omega, by omega, ?_⟩
    have e : crashF keep (d.files.getD k default) = ⟨(d.files.getD k default).name, (d.files.getD k default).safe ++ (d.files.getD k default).tail, []⟩ := by
      unfold crashF; rw [List.take_of_length_le (by omega)]
    rw [e2 (by assumption), e]
    (refine SImp.frame [0, 1, 2, 6] rfl (by intro k hk; first | (simp at hk <;> (simp; omega)) | (simp only [List.mem_cons, List.not_mem_nil, or_false] at hk; simp only [List.length_cons, List.length_nil]; omega)) (by decide) (fun k hk => by first | omega | (rcases k with _ | _ | _ | _ | _ | _ | _ | _ | k <;> first | rfl | omega)) ?_ ?_ <;> simp (disch := omega) only [go_sem, wrap_n, Int.natCast_add, true_and] <;> (try rfl))
  · have e : k = d.files.length := by omega
    subst e
    unfold crashD; rw [if_neg (by simp [hg]; omega)]
    simp only [List.take_length]
    (refine zF rfl ?_ ?_ ?_ ?_; (iterate 3 (focus ((try simp (disch := omega) only [go_sem, wrap_n]) <;> (try omega) <;> fail))); (try simp (disch := omega) only [go_sem, wrap_n, I, B, S, inj, List.cons.injEq, and_true, true_and, and_self]))
    exact .inl (List.take_of_length_le (by simp))
theorem change_wf {l : List AFile} {key : List UInt8} {F : AFile → AFile × Int} (h : l.length * 48 ≤ 140737488351232) : (changeD l key F).1.files.length * 48 ≤ 140737488351232 := by
  unfold changeD; split
  · decide
  · split
    · split
      · simpa using h
      · show ([] : List AFile).length * 48 ≤ _; decide
    · decide
theorem crash_wf {l : List AFile} {keep : Int} (h : l.length * 48 ≤ 140737488351232) : (crashD l keep).1.files.length * 48 ≤ 140737488351232 := by
  unfold crashD; split
  · decide
  · simpa using h
end Go.Proofs.YtmpfhalheaeibaaDoor
namespace Go.Proofs.YtmpfhalheaeibaaDoor
set_option linter.unusedVariables false
set_option linter.unusedSimpArgs false
open Go Go.RowKit
set_option maxRecDepth 100000
set_option linter.unusedSimpArgs false
def writeD (l : List AFile) (key s : List UInt8) : ADisk × Int :=
  if goodD l = false then (default, 3) else if namedP key = false then (default, 2) else
    if key ∈ l.map AFile.name then
      (if 1048576 < (l.getD (place (l.map AFile.name) key) default).safe.length + (l.getD (place (l.map AFile.name) key) default).tail.length + s.length then (default, 1)
        else (⟨l.set (place (l.map AFile.name) key) ⟨(l.getD (place (l.map AFile.name) key) default).name, (l.getD (place (l.map AFile.name) key) default).safe, (l.getD (place (l.map AFile.name) key) default).tail ++ s⟩⟩, 0))
    else if 16 ≤ l.length then (default, 6) else if 1048576 < s.length then (default, 1) else (⟨l.insertIdx (place (l.map AFile.name) key) ⟨key, [], s⟩⟩, 0)
theorem good_len {l : List AFile} (h : goodD l = true) : l.length ≤ 16 := by unfold goodD at h; rw [decide_eq_true_eq] at h; exact h.1
theorem place_le' {l : List AFile} {key : List UInt8} : place (l.map AFile.name) key ≤ l.length := by have := place_le (l.map AFile.name) key; simpa using this
theorem write_c (d : ADisk) (key s : List UInt8) (hs : okS s) (hk : okS key) (h : d.files.length * 48 ≤ 140737488351232) (hw : ∀ f, f ∈ d.files → f.wf) : acall Tryd.prog [] 64 [d.av, S key, S s] (ret (.tup [(writeD d.files key s).1.av, I (writeD d.files key s).2])) := by
  obtain ⟨w0, w1, w2, w3⟩ := file_wf hw (place (d.files.map AFile.name) key)
  unfold okS at hs
  by_cases hg : goodD d.files = true
  · have hl16 := good_len hg
    by_cases hn : namedP key = true
    · have hpl' := place_le' (l := d.files) (key := key)
      by_cases hm : key ∈ d.files.map AFile.name
      · have hpl := place_lt hg hm
        have e : writeD d.files key s = (if 1048576 < (d.files.getD (place (d.files.map AFile.name) key) default).safe.length + (d.files.getD (place (d.files.map AFile.name) key) default).tail.length + s.length then (default, 1)
          else (⟨d.files.set (place (d.files.map AFile.name) key) ⟨(d.files.getD (place (d.files.map AFile.name) key) default).name, (d.files.getD (place (d.files.map AFile.name) key) default).safe, (d.files.getD (place (d.files.map AFile.name) key) default).tail ++ s⟩⟩, 0)) := by
          unfold writeD; rw [if_neg (by simp [hg]), if_neg (by simp [hn]), if_pos hm]
        rw [e]
        refine acall_of tabOk Tryd.func64 rfl (by kernel_rfl) (by simp [Tryd.ntmps64]) ?_; simp only [Tryd.ntmps64, Tryd.results64, List.toList_toArray, apar, List.length_nil, List.length_cons, Nat.reduceAdd]
        (repeat' first
      | (with_reducible refine AR.f ?_)
      | refine blkA_x (by decide) ?_
      | (with_reducible refine AWP.cond rfl ?_ ?_ <;> intro hc <;> (try simp only [hcs, beq_iff_eq, ge_iff_le, gt_iff_lt] at hc))
      | ((first | ((first | (with_reducible first | refine zR ?_ | refine zQ (by decide +kernel) ?_ | refine zD (by decide +kernel) ?_ | refine zE (by decide +kernel) ?_ | refine zG (by decide +kernel) ?_)); intro K hK) | ((first | refine zA ((good_d_c d h hw).re (by rw [hg])) ?_ ?_ ?_ ?_ ?_ | refine zA ((named_c key hk).re (by rw [hn])) ?_ ?_ ?_ ?_ ?_ | refine zA ((find_c d key h hg).re (by rw [decide_eq_true hm])) ?_ ?_ ?_ ?_ ?_ | refine zA (copied_d_c d h) ?_ ?_ ?_ ?_ ?_); (focus exact rfl); (focus exact rfl); iterate 2 (focus ((try simp (disch := omega) only [go_sem, wrap_n, AFile.rgetD, getD_set, AFile.rset, getD_mapset, List.set_set]) <;> (try omega) <;> fail))) | ((first | refine zN ((good_d_c d h hw).re (by rw [hg])) rfl ?_ ?_ | refine zN ((named_c key hk).re (by rw [hn])) rfl ?_ ?_ | refine zN ((find_c d key h hg).re (by rw [decide_eq_true hm])) rfl ?_ ?_ | refine zN (copied_d_c d h) rfl ?_ ?_); (focus ((try simp (disch := omega) only [go_sem, wrap_n, AFile.rgetD, getD_set, AFile.rset, getD_mapset, List.set_set]) <;> (try omega) <;> fail))) | (first | ((first | refine zX ((good_d_c d h hw).re (by rw [hg])) rfl ?_ ?_ | refine acallH_anyx ((good_d_c d h hw).re (by rw [hg])) ?_ ?_); (focus ((try simp (disch := omega) only [go_sem, wrap_n, AFile.rgetD, getD_set, AFile.rset, getD_mapset, List.set_set]) <;> (try omega) <;> fail))) | ((first | refine zX ((named_c key hk).re (by rw [hn])) rfl ?_ ?_ | refine acallH_anyx ((named_c key hk).re (by rw [hn])) ?_ ?_); (focus ((try simp (disch := omega) only [go_sem, wrap_n, AFile.rgetD, getD_set, AFile.rset, getD_mapset, List.set_set]) <;> (try omega) <;> fail))) | ((first | refine zX ((find_c d key h hg).re (by rw [decide_eq_true hm])) rfl ?_ ?_ | refine acallH_anyx ((find_c d key h hg).re (by rw [decide_eq_true hm])) ?_ ?_); (focus ((try simp (disch := omega) only [go_sem, wrap_n, AFile.rgetD, getD_set, AFile.rset, getD_mapset, List.set_set]) <;> (try omega) <;> fail))) | ((first | refine zX (copied_d_c d h) rfl ?_ ?_ | refine acallH_anyx (copied_d_c d h) ?_ ?_); (focus ((try simp (disch := omega) only [go_sem, wrap_n, AFile.rgetD, getD_set, AFile.rset, getD_mapset, List.set_set]) <;> (try omega) <;> fail)))) | ((first | (with_reducible refine aunder_i ?_ ?_ <;> intro hg) | with_reducible intro hg) <;> (first | (exfalso; simp at hg; done) | (have hg' := hg; (try simp only [hcs, beq_iff_eq, ge_iff_le, gt_iff_lt] at hg'); (try simp only [hg]))))) <;> (try simp (disch := omega) only [go_sem, wrap_n, AFile.rgetD, getD_set, AFile.rset, getD_mapset, List.set_set]) <;> (repeat' with_reducible refine And.intro ?_ ?_) <;> (try (with_reducible refine hK _ ?_; clear hK K)))
      | omega)
        · rw [if_pos (by omega)]; (refine zF rfl ?_ ?_ ?_ ?_; (iterate 3 (focus ((try simp (disch := omega) only [go_sem, wrap_n, default]) <;> (try omega) <;> fail))); (try simp (disch := omega) only [go_sem, wrap_n, default, I, B, S, inj, List.cons.injEq, and_true, true_and, and_self]))
        · rw [if_neg (by omega)]; (refine zF rfl ?_ ?_ ?_ ?_; (iterate 3 (focus ((try simp (disch := omega) only [go_sem, wrap_n, take_map_set]) <;> (try omega) <;> fail))); (try simp (disch := omega) only [go_sem, wrap_n, take_map_set, I, B, S, inj, List.cons.injEq, and_true, true_and, and_self]))
      · by_cases hf : 16 ≤ d.files.length
        · have e : writeD d.files key s = (default, 6) := by unfold writeD; rw [if_neg (by simp [hg]), if_neg (by simp [hn]), if_neg hm, if_pos hf]
          rw [e]
          refine acall_of tabOk Tryd.func64 rfl (by kernel_rfl) (by simp [Tryd.ntmps64]) ?_; simp only [Tryd.ntmps64, Tryd.results64, List.toList_toArray, apar, List.length_nil, List.length_cons, Nat.reduceAdd]
          (repeat' first
        | (with_reducible refine AR.f ?_)
        | refine blkA_x (by decide) ?_
        | (with_reducible refine AWP.cond rfl ?_ ?_ <;> intro hc <;> (try simp only [hcs, beq_iff_eq, ge_iff_le, gt_iff_lt] at hc))
        | ((first | ((first | (with_reducible first | refine zR ?_ | refine zQ (by decide +kernel) ?_ | refine zD (by decide +kernel) ?_ | refine zE (by decide +kernel) ?_ | refine zG (by decide +kernel) ?_)); intro K hK) | ((first | refine zA ((good_d_c d h hw).re (by rw [hg])) ?_ ?_ ?_ ?_ ?_ | refine zA ((named_c key hk).re (by rw [hn])) ?_ ?_ ?_ ?_ ?_ | refine zA ((find_c d key h hg).re (by rw [decide_eq_false hm])) ?_ ?_ ?_ ?_ ?_ | refine zA (copied_d_c d h) ?_ ?_ ?_ ?_ ?_); (focus exact rfl); (focus exact rfl); iterate 2 (focus ((try simp (disch := omega) only [go_sem, wrap_n]) <;> (try omega) <;> fail))) | ((first | refine zN ((good_d_c d h hw).re (by rw [hg])) rfl ?_ ?_ | refine zN ((named_c key hk).re (by rw [hn])) rfl ?_ ?_ | refine zN ((find_c d key h hg).re (by rw [decide_eq_false hm])) rfl ?_ ?_ | refine zN (copied_d_c d h) rfl ?_ ?_); (focus ((try simp (disch := omega) only [go_sem, wrap_n]) <;> (try omega) <;> fail))) | (first | ((first | refine zX ((good_d_c d h hw).re (by rw [hg])) rfl ?_ ?_ | refine acallH_anyx ((good_d_c d h hw).re (by rw [hg])) ?_ ?_); (focus ((try simp (disch := omega) only [go_sem, wrap_n]) <;> (try omega) <;> fail))) | ((first | refine zX ((named_c key hk).re (by rw [hn])) rfl ?_ ?_ | refine acallH_anyx ((named_c key hk).re (by rw [hn])) ?_ ?_); (focus ((try simp (disch := omega) only [go_sem, wrap_n]) <;> (try omega) <;> fail))) | ((first | refine zX ((find_c d key h hg).re (by rw [decide_eq_false hm])) rfl ?_ ?_ | refine acallH_anyx ((find_c d key h hg).re (by rw [decide_eq_false hm])) ?_ ?_); (focus ((try simp (disch := omega) only [go_sem, wrap_n]) <;> (try omega) <;> fail))) | ((first | refine zX (copied_d_c d h) rfl ?_ ?_ | refine acallH_anyx (copied_d_c d h) ?_ ?_); (focus ((try simp (disch := omega) only [go_sem, wrap_n]) <;> (try omega) <;> fail)))) | ((first | (with_reducible refine aunder_i ?_ ?_ <;> intro hg) | with_reducible intro hg) <;> (first | (exfalso; simp at hg; done) | (have hg' := hg; (try simp only [hcs, beq_iff_eq, ge_iff_le, gt_iff_lt] at hg'); (try simp only [hg]))))) <;> (try simp (disch := omega) only [go_sem, wrap_n]) <;> (repeat' with_reducible refine And.intro ?_ ?_) <;> (try (with_reducible refine hK _ ?_; clear hK K)))
        | omega)
          (refine zF rfl ?_ ?_ ?_ ?_; (iterate 3 (focus ((try simp (disch := omega) only [go_sem, wrap_n, default]) <;> (try omega) <;> fail))); (try simp (disch := omega) only [go_sem, wrap_n, default, I, B, S, inj, List.cons.injEq, and_true, true_and, and_self]))
        · have e : writeD d.files key s = (if 1048576 < s.length then (default, 1) else (⟨d.files.insertIdx (place (d.files.map AFile.name) key) ⟨key, [], s⟩⟩, 0)) := by
            unfold writeD; rw [if_neg (by simp [hg]), if_neg (by simp [hn]), if_neg hm, if_neg hf]
          rw [e]
          have hil := ins_len d.files (place (d.files.map AFile.name) key) (⟨key, [], []⟩ : AFile) hpl'
          have hil2 := ins_len d.files (place (d.files.map AFile.name) key) (⟨key, [], s⟩ : AFile) hpl'
          refine acall_of tabOk Tryd.func64 rfl (by kernel_rfl) (by simp [Tryd.ntmps64]) ?_; simp only [Tryd.ntmps64, Tryd.results64, List.toList_toArray, apar, List.length_nil, List.length_cons, Nat.reduceAdd]
          (repeat' first
        | (with_reducible refine AR.f ?_)
        | refine blkA_x (by decide) ?_
        | (with_reducible refine AWP.cond rfl ?_ ?_ <;> intro hc <;> (try simp only [hcs, beq_iff_eq, ge_iff_le, gt_iff_lt] at hc))
        | ((first | ((first | (with_reducible first | refine zR ?_ | refine zQ (by decide +kernel) ?_ | refine zD (by decide +kernel) ?_ | refine zE (by decide +kernel) ?_ | refine zG (by decide +kernel) ?_)); intro K hK) | ((first | refine zA ((good_d_c d h hw).re (by rw [hg])) ?_ ?_ ?_ ?_ ?_ | refine zA ((named_c key hk).re (by rw [hn])) ?_ ?_ ?_ ?_ ?_ | refine zA ((find_c d key h hg).re (by rw [decide_eq_false hm])) ?_ ?_ ?_ ?_ ?_ | refine zA (copied_d_c d h) ?_ ?_ ?_ ?_ ?_); (focus exact rfl); (focus exact rfl); iterate 2 (focus ((try simp (disch := omega) only [go_sem, wrap_n, AFile.rins, getD_insmap, AFile.rset, set_ins, List.length_nil, List.nil_append]) <;> (try omega) <;> fail))) | ((first | refine zN ((good_d_c d h hw).re (by rw [hg])) rfl ?_ ?_ | refine zN ((named_c key hk).re (by rw [hn])) rfl ?_ ?_ | refine zN ((find_c d key h hg).re (by rw [decide_eq_false hm])) rfl ?_ ?_ | refine zN (copied_d_c d h) rfl ?_ ?_); (focus ((try simp (disch := omega) only [go_sem, wrap_n, AFile.rins, getD_insmap, AFile.rset, set_ins, List.length_nil, List.nil_append]) <;> (try omega) <;> fail))) | (first | ((first | refine zX ((good_d_c d h hw).re (by rw [hg])) rfl ?_ ?_ | refine acallH_anyx ((good_d_c d h hw).re (by rw [hg])) ?_ ?_); (focus ((try simp (disch := omega) only [go_sem, wrap_n, AFile.rins, getD_insmap, AFile.rset, set_ins, List.length_nil, List.nil_append]) <;> (try omega) <;> fail))) | ((first | refine zX ((named_c key hk).re (by rw [hn])) rfl ?_ ?_ | refine acallH_anyx ((named_c key hk).re (by rw [hn])) ?_ ?_); (focus ((try simp (disch := omega) only [go_sem, wrap_n, AFile.rins, getD_insmap, AFile.rset, set_ins, List.length_nil, List.nil_append]) <;> (try omega) <;> fail))) | ((first | refine zX ((find_c d key h hg).re (by rw [decide_eq_false hm])) rfl ?_ ?_ | refine acallH_anyx ((find_c d key h hg).re (by rw [decide_eq_false hm])) ?_ ?_); (focus ((try simp (disch := omega) only [go_sem, wrap_n, AFile.rins, getD_insmap, AFile.rset, set_ins, List.length_nil, List.nil_append]) <;> (try omega) <;> fail))) | ((first | refine zX (copied_d_c d h) rfl ?_ ?_ | refine acallH_anyx (copied_d_c d h) ?_ ?_); (focus ((try simp (disch := omega) only [go_sem, wrap_n, AFile.rins, getD_insmap, AFile.rset, set_ins, List.length_nil, List.nil_append]) <;> (try omega) <;> fail)))) | (refine acallH_own (insFile_c (d.files.map AFile.row) [.str key, .str [], .str []] (place (d.files.map AFile.name) key) (by simpa using hpl') (by simp only [List.length_map]; omega)) ?_ ?_ ?_; (focus ((try simp (disch := omega) only [inj, List.cons.injEq, and_self, List.nodup_cons, List.not_mem_nil, List.mem_cons, not_false_eq_true, List.nodup_nil, go_sem, wrap_n, AFile.rins, getD_insmap, AFile.rset, set_ins, List.length_nil, List.nil_append]) <;> (try omega) <;> fail)); (focus ((try simp (disch := omega) only [inj, List.cons.injEq, and_self, List.nodup_cons, List.not_mem_nil, List.mem_cons, not_false_eq_true, List.nodup_nil, go_sem, wrap_n, AFile.rins, getD_insmap, AFile.rset, set_ins, List.length_nil, List.nil_append]) <;> (try omega) <;> (try decide) <;> fail))) | ((first | (with_reducible refine aunder_i ?_ ?_ <;> intro hg) | with_reducible intro hg) <;> (first | (exfalso; simp at hg; done) | (have hg' := hg; (try simp only [hcs, beq_iff_eq, ge_iff_le, gt_iff_lt] at hg'); (try simp only [hg]))))) <;> (try simp (disch := omega) only [go_sem, wrap_n, AFile.rins, getD_insmap, AFile.rset, set_ins, List.length_nil, List.nil_append]) <;> (repeat' with_reducible refine And.intro ?_ ?_) <;> (try (with_reducible refine hK _ ?_; clear hK K)))
        | omega)
          · rw [if_pos (by omega)]; (refine zF rfl ?_ ?_ ?_ ?_; (iterate 3 (focus ((try simp (disch := omega) only [go_sem, wrap_n, default]) <;> (try omega) <;> fail))); (try simp (disch := omega) only [go_sem, wrap_n, default, I, B, S, inj, List.cons.injEq, and_true, true_and, and_self]))
          · rw [if_neg (by omega)]; (refine zF rfl ?_ ?_ ?_ ?_; (iterate 3 (focus ((try simp (disch := omega) only [go_sem, wrap_n, take_map_ins]) <;> (try omega) <;> fail))); (try simp (disch := omega) only [go_sem, wrap_n, take_map_ins, I, B, S, inj, List.cons.injEq, and_true, true_and, and_self]))
    · have e : writeD d.files key s = (default, 2) := by unfold writeD; rw [if_neg (by simp [hg]), if_pos (by simpa using hn)]
      rw [e]
      rw [Bool.not_eq_true] at hn
      refine acall_of tabOk Tryd.func64 rfl (by kernel_rfl) (by simp [Tryd.ntmps64]) ?_; simp only [Tryd.ntmps64, Tryd.results64, List.toList_toArray, apar, List.length_nil, List.length_cons, Nat.reduceAdd]
      (repeat' first
    | (with_reducible refine AR.f ?_)
    | refine blkA_x (by decide) ?_
    | (with_reducible refine AWP.cond rfl ?_ ?_ <;> intro hc <;> (try simp only [hcs, beq_iff_eq, ge_iff_le, gt_iff_lt] at hc))
    | ((first | ((first | (with_reducible first | refine zR ?_ | refine zQ (by decide +kernel) ?_ | refine zD (by decide +kernel) ?_ | refine zE (by decide +kernel) ?_ | refine zG (by decide +kernel) ?_)); intro K hK) | ((first | refine zA ((good_d_c d h hw).re (by rw [hg])) ?_ ?_ ?_ ?_ ?_ | refine zA ((named_c key hk).re (by rw [hn])) ?_ ?_ ?_ ?_ ?_); (focus exact rfl); (focus exact rfl); iterate 2 (focus ((try simp (disch := omega) only [go_sem, wrap_n]) <;> (try omega) <;> fail))) | ((first | refine zN ((good_d_c d h hw).re (by rw [hg])) rfl ?_ ?_ | refine zN ((named_c key hk).re (by rw [hn])) rfl ?_ ?_); (focus ((try simp (disch := omega) only [go_sem, wrap_n]) <;> (try omega) <;> fail))) | (first | ((first | refine zX ((good_d_c d h hw).re (by rw [hg])) rfl ?_ ?_ | refine acallH_anyx ((good_d_c d h hw).re (by rw [hg])) ?_ ?_); (focus ((try simp (disch := omega) only [go_sem, wrap_n]) <;> (try omega) <;> fail))) | ((first | refine zX ((named_c key hk).re (by rw [hn])) rfl ?_ ?_ | refine acallH_anyx ((named_c key hk).re (by rw [hn])) ?_ ?_); (focus ((try simp (disch := omega) only [go_sem, wrap_n]) <;> (try omega) <;> fail)))) | ((first | (with_reducible refine aunder_i ?_ ?_ <;> intro hg) | with_reducible intro hg) <;> (first | (exfalso; simp at hg; done) | (have hg' := hg; (try simp only [hcs, beq_iff_eq, ge_iff_le, gt_iff_lt] at hg'); (try simp only [hg]))))) <;> (try simp (disch := omega) only [go_sem, wrap_n]) <;> (repeat' with_reducible refine And.intro ?_ ?_) <;> (try (with_reducible refine hK _ ?_; clear hK K)))
    | omega)
      (refine zF rfl ?_ ?_ ?_ ?_; (iterate 3 (focus ((try simp (disch := omega) only [go_sem, wrap_n, default]) <;> (try omega) <;> fail))); (try simp (disch := omega) only [go_sem, wrap_n, default, I, B, S, inj, List.cons.injEq, and_true, true_and, and_self]))
  · have e : writeD d.files key s = (default, 3) := by unfold writeD; rw [if_pos (by simpa using hg)]
    rw [e]
    rw [Bool.not_eq_true] at hg
    refine acall_of tabOk Tryd.func64 rfl (by kernel_rfl) (by simp [Tryd.ntmps64]) ?_; simp only [Tryd.ntmps64, Tryd.results64, List.toList_toArray, apar, List.length_nil, List.length_cons, Nat.reduceAdd]
    (repeat' first
  | (with_reducible refine AR.f ?_)
  | refine blkA_x (by decide) ?_
  | (with_reducible refine AWP.cond rfl ?_ ?_ <;> intro hc <;> (try simp only [hcs, beq_iff_eq, ge_iff_le, gt_iff_lt] at hc))
  | ((first | ((first | (with_reducible first | refine zR ?_ | refine zQ (by decide +kernel) ?_ | refine zD (by decide +kernel) ?_ | refine zE (by decide +kernel) ?_ | refine zG (by decide +kernel) ?_)); intro K hK) | ((first | refine zA ((good_d_c d h hw).re (by rw [hg])) ?_ ?_ ?_ ?_ ?_); (focus exact rfl); (focus exact rfl); iterate 2 (focus ((try simp (disch := omega) only [go_sem, wrap_n]) <;> (try omega) <;> fail))) | ((first | refine zN ((good_d_c d h hw).re (by rw [hg])) rfl ?_ ?_); (focus ((try simp (disch := omega) only [go_sem, wrap_n]) <;> (try omega) <;> fail))) | (first | ((first | refine zX ((good_d_c d h hw).re (by rw [hg])) rfl ?_ ?_ | refine acallH_anyx ((good_d_c d h hw).re (by rw [hg])) ?_ ?_); (focus ((try simp (disch := omega) only [go_sem, wrap_n]) <;> (try omega) <;> fail)))) | ((first | (with_reducible refine aunder_i ?_ ?_ <;> intro hg) | with_reducible intro hg) <;> (first | (exfalso; simp at hg; done) | (have hg' := hg; (try simp only [hcs, beq_iff_eq, ge_iff_le, gt_iff_lt] at hg'); (try simp only [hg]))))) <;> (try simp (disch := omega) only [go_sem, wrap_n]) <;> (repeat' with_reducible refine And.intro ?_ ?_) <;> (try (with_reducible refine hK _ ?_; clear hK K)))
  | omega)
    (refine zF rfl ?_ ?_ ?_ ?_; (iterate 3 (focus ((try simp (disch := omega) only [go_sem, wrap_n, default]) <;> (try omega) <;> fail))); (try simp (disch := omega) only [go_sem, wrap_n, default, I, B, S, inj, List.cons.injEq, and_true, true_and, and_self]))
theorem at_place {l : List AFile} {key : List UInt8} {k : Nat} {x : AFile} (hg : goodD l = true) (hm : ¬ key ∈ l.map AFile.name) (hkl : k ≤ l.length) (hk2 : ∀ j, k ≤ j → j < l.length → key < (l.getD j default).name)
    (hc : (k : Int) ≤ 0 ∨ ((l.insertIdx k x).getD (k - 1) default).name < key ∨ ((l.insertIdx k x).getD (k - 1) default).name = key) : place (l.map AFile.name) key = k := by
  have hnm : ∀ k, (l.map AFile.name).getD k [] = (l.getD k default).name := fun k => getD_map AFile.name l k default
  refine place_eq (by simpa using hkl) (fun j hj => ?_) fun h1 => ?_
  · rw [hnm]
    have hk0 : 0 < k := by omega
    have c1 : (l.getD (k - 1) default).name < key := by
      rw [ins_get_lt _ _ _ _ _ hkl (by omega)] at hc
      rcases hc with c | c | c
      · omega
      · exact c
      · exact absurd ((mem_iff_getD _ [] key).2 ⟨k - 1, by simp; omega, by rw [hnm]; exact c⟩) hm
    by_cases e : j = k - 1
    · subst e; exact c1
    · exact List.lt_trans (by have := rises_lt (goodD_rises hg) (i := j) (j := k - 1) (by omega) (by simp; omega); rwa [hnm, hnm] at this) c1
  · rw [hnm]; exact fun h2 => List.lt_irrefl _ (List.lt_trans h2 (hk2 k (Nat.le_refl _) (by simpa using h1)))
theorem ref_write_c (d : ADisk) (key s : List UInt8) (hs : okS s) (hk : okS key) (h : d.files.length * 48 ≤ 140737488351232) (hw : ∀ f, f ∈ d.files → f.wf) : acall Tryd.prog [] 67 [d.av, S key, S s] (ret (.tup [(writeD d.files key s).1.av, I (writeD d.files key s).2])) := by
  obtain ⟨w0, w1, w2, w3⟩ := file_wf hw (place (d.files.map AFile.name) key)
  unfold okS at hs
  by_cases hg : goodD d.files = true
  · have hl16 := good_len hg
    by_cases hn : namedP key = true
    · have hpl' := place_le' (l := d.files) (key := key)
      by_cases hm : key ∈ d.files.map AFile.name
      · have hpl := place_lt hg hm
        have e : writeD d.files key s = (if 1048576 < (d.files.getD (place (d.files.map AFile.name) key) default).safe.length + (d.files.getD (place (d.files.map AFile.name) key) default).tail.length + s.length then (default, 1)
          else (⟨d.files.set (place (d.files.map AFile.name) key) ⟨(d.files.getD (place (d.files.map AFile.name) key) default).name, (d.files.getD (place (d.files.map AFile.name) key) default).safe, (d.files.getD (place (d.files.map AFile.name) key) default).tail ++ s⟩⟩, 0)) := by
          unfold writeD; rw [if_neg (by simp [hg]), if_neg (by simp [hn]), if_pos hm]
        rw [e]
        refine acall_of tabOk Tryd.func67 rfl (by kernel_rfl) (by simp [Tryd.ntmps67]) ?_; simp only [Tryd.ntmps67, Tryd.results67, List.toList_toArray, apar, List.length_nil, List.length_cons, Nat.reduceAdd]
        (repeat' first
      | (with_reducible refine AR.f ?_)
      | refine blkA_x (by decide) ?_
      | (with_reducible refine AWP.cond rfl ?_ ?_ <;> intro hc <;> (try simp only [hcs, beq_iff_eq, ge_iff_le, gt_iff_lt] at hc))
      | ((first | ((first | (with_reducible first | refine zR ?_ | refine zQ (by decide +kernel) ?_ | refine zD (by decide +kernel) ?_ | refine zE (by decide +kernel) ?_ | refine zG (by decide +kernel) ?_)); intro K hK) | ((first | refine zA ((ref_good_d_c d h hw).re (by rw [hg])) ?_ ?_ ?_ ?_ ?_ | refine zA ((ref_named_c key hk).re (by rw [hn])) ?_ ?_ ?_ ?_ ?_ | refine zA ((file_c d key h hg).re (by rw [fileI_yes hm])) ?_ ?_ ?_ ?_ ?_ | refine zA (ref_copied_o_c d h) ?_ ?_ ?_ ?_ ?_); (focus exact rfl); (focus exact rfl); iterate 2 (focus ((try simp (disch := omega) only [go_sem, wrap_n, AFile.rgetD, getD_set, AFile.rset, getD_mapset, List.set_set]) <;> (try omega) <;> fail))) | ((first | refine zN ((ref_good_d_c d h hw).re (by rw [hg])) rfl ?_ ?_ | refine zN ((ref_named_c key hk).re (by rw [hn])) rfl ?_ ?_ | refine zN ((file_c d key h hg).re (by rw [fileI_yes hm])) rfl ?_ ?_ | refine zN (ref_copied_o_c d h) rfl ?_ ?_); (focus ((try simp (disch := omega) only [go_sem, wrap_n, AFile.rgetD, getD_set, AFile.rset, getD_mapset, List.set_set]) <;> (try omega) <;> fail))) | (first | ((first | refine zX ((ref_good_d_c d h hw).re (by rw [hg])) rfl ?_ ?_ | refine acallH_anyx ((ref_good_d_c d h hw).re (by rw [hg])) ?_ ?_); (focus ((try simp (disch := omega) only [go_sem, wrap_n, AFile.rgetD, getD_set, AFile.rset, getD_mapset, List.set_set]) <;> (try omega) <;> fail))) | ((first | refine zX ((ref_named_c key hk).re (by rw [hn])) rfl ?_ ?_ | refine acallH_anyx ((ref_named_c key hk).re (by rw [hn])) ?_ ?_); (focus ((try simp (disch := omega) only [go_sem, wrap_n, AFile.rgetD, getD_set, AFile.rset, getD_mapset, List.set_set]) <;> (try omega) <;> fail))) | ((first | refine zX ((file_c d key h hg).re (by rw [fileI_yes hm])) rfl ?_ ?_ | refine acallH_anyx ((file_c d key h hg).re (by rw [fileI_yes hm])) ?_ ?_); (focus ((try simp (disch := omega) only [go_sem, wrap_n, AFile.rgetD, getD_set, AFile.rset, getD_mapset, List.set_set]) <;> (try omega) <;> fail))) | ((first | refine zX (ref_copied_o_c d h) rfl ?_ ?_ | refine acallH_anyx (ref_copied_o_c d h) ?_ ?_); (focus ((try simp (disch := omega) only [go_sem, wrap_n, AFile.rgetD, getD_set, AFile.rset, getD_mapset, List.set_set]) <;> (try omega) <;> fail)))) | ((first | (with_reducible refine aunder_i ?_ ?_ <;> intro hg) | with_reducible intro hg) <;> (first | (exfalso; simp at hg; done) | (have hg' := hg; (try simp only [hcs, beq_iff_eq, ge_iff_le, gt_iff_lt] at hg'); (try simp only [hg]))))) <;> (try simp (disch := omega) only [go_sem, wrap_n, AFile.rgetD, getD_set, AFile.rset, getD_mapset, List.set_set]) <;> (repeat' with_reducible refine And.intro ?_ ?_) <;> (try (with_reducible refine hK _ ?_; clear hK K)))
      | omega)
        · rw [if_pos (by omega)]; (refine zF rfl ?_ ?_ ?_ ?_; (iterate 3 (focus ((try simp (disch := omega) only [go_sem, wrap_n, default]) <;> (try omega) <;> fail))); (try simp (disch := omega) only [go_sem, wrap_n, default, I, B, S, inj, List.cons.injEq, and_true, true_and, and_self]))
        · rw [if_neg (by omega)]; (refine zF rfl ?_ ?_ ?_ ?_; (iterate 3 (focus ((try simp (disch := omega) only [go_sem, wrap_n, take_map_set]) <;> (try omega) <;> fail))); (try simp (disch := omega) only [go_sem, wrap_n, take_map_set, I, B, S, inj, List.cons.injEq, and_true, true_and, and_self]))
      · by_cases hf : 16 ≤ d.files.length
        · have e : writeD d.files key s = (default, 6) := by unfold writeD; rw [if_neg (by simp [hg]), if_neg (by simp [hn]), if_neg hm, if_pos hf]
          rw [e]
          refine acall_of tabOk Tryd.func67 rfl (by kernel_rfl) (by simp [Tryd.ntmps67]) ?_; simp only [Tryd.ntmps67, Tryd.results67, List.toList_toArray, apar, List.length_nil, List.length_cons, Nat.reduceAdd]
          (repeat' first
        | (with_reducible refine AR.f ?_)
        | refine blkA_x (by decide) ?_
        | (with_reducible refine AWP.cond rfl ?_ ?_ <;> intro hc <;> (try simp only [hcs, beq_iff_eq, ge_iff_le, gt_iff_lt] at hc))
        | ((first | ((first | (with_reducible first | refine zR ?_ | refine zQ (by decide +kernel) ?_ | refine zD (by decide +kernel) ?_ | refine zE (by decide +kernel) ?_ | refine zG (by decide +kernel) ?_)); intro K hK) | ((first | refine zA ((ref_good_d_c d h hw).re (by rw [hg])) ?_ ?_ ?_ ?_ ?_ | refine zA ((ref_named_c key hk).re (by rw [hn])) ?_ ?_ ?_ ?_ ?_ | refine zA ((file_c d key h hg).re (by rw [fileI_no hm])) ?_ ?_ ?_ ?_ ?_ | refine zA (ref_copied_o_c d h) ?_ ?_ ?_ ?_ ?_); (focus exact rfl); (focus exact rfl); iterate 2 (focus ((try simp (disch := omega) only [go_sem, wrap_n]) <;> (try omega) <;> fail))) | ((first | refine zN ((ref_good_d_c d h hw).re (by rw [hg])) rfl ?_ ?_ | refine zN ((ref_named_c key hk).re (by rw [hn])) rfl ?_ ?_ | refine zN ((file_c d key h hg).re (by rw [fileI_no hm])) rfl ?_ ?_ | refine zN (ref_copied_o_c d h) rfl ?_ ?_); (focus ((try simp (disch := omega) only [go_sem, wrap_n]) <;> (try omega) <;> fail))) | (first | ((first | refine zX ((ref_good_d_c d h hw).re (by rw [hg])) rfl ?_ ?_ | refine acallH_anyx ((ref_good_d_c d h hw).re (by rw [hg])) ?_ ?_); (focus ((try simp (disch := omega) only [go_sem, wrap_n]) <;> (try omega) <;> fail))) | ((first | refine zX ((ref_named_c key hk).re (by rw [hn])) rfl ?_ ?_ | refine acallH_anyx ((ref_named_c key hk).re (by rw [hn])) ?_ ?_); (focus ((try simp (disch := omega) only [go_sem, wrap_n]) <;> (try omega) <;> fail))) | ((first | refine zX ((file_c d key h hg).re (by rw [fileI_no hm])) rfl ?_ ?_ | refine acallH_anyx ((file_c d key h hg).re (by rw [fileI_no hm])) ?_ ?_); (focus ((try simp (disch := omega) only [go_sem, wrap_n]) <;> (try omega) <;> fail))) | ((first | refine zX (ref_copied_o_c d h) rfl ?_ ?_ | refine acallH_anyx (ref_copied_o_c d h) ?_ ?_); (focus ((try simp (disch := omega) only [go_sem, wrap_n]) <;> (try omega) <;> fail)))) | ((first | (with_reducible refine aunder_i ?_ ?_ <;> intro hg) | with_reducible intro hg) <;> (first | (exfalso; simp at hg; done) | (have hg' := hg; (try simp only [hcs, beq_iff_eq, ge_iff_le, gt_iff_lt] at hg'); (try simp only [hg]))))) <;> (try simp (disch := omega) only [go_sem, wrap_n]) <;> (repeat' with_reducible refine And.intro ?_ ?_) <;> (try (with_reducible refine hK _ ?_; clear hK K)))
        | omega)
          (refine zF rfl ?_ ?_ ?_ ?_; (iterate 3 (focus ((try simp (disch := omega) only [go_sem, wrap_n, default]) <;> (try omega) <;> fail))); (try simp (disch := omega) only [go_sem, wrap_n, default, I, B, S, inj, List.cons.injEq, and_true, true_and, and_self]))
        · have e : writeD d.files key s = (if 1048576 < s.length then (default, 1) else (⟨d.files.insertIdx (place (d.files.map AFile.name) key) ⟨key, [], s⟩⟩, 0)) := by
            unfold writeD; rw [if_neg (by simp [hg]), if_neg (by simp [hn]), if_neg hm, if_neg hf]
          rw [e]
          have hil := ins_len d.files (place (d.files.map AFile.name) key) (⟨key, [], []⟩ : AFile) hpl'
          have hil2 := ins_len d.files (place (d.files.map AFile.name) key) (⟨key, [], s⟩ : AFile) hpl'
          refine acall_of tabOk Tryd.func67 rfl (by kernel_rfl) (by simp [Tryd.ntmps67]) ?_; simp only [Tryd.ntmps67, Tryd.results67, List.toList_toArray, apar, List.length_nil, List.length_cons, Nat.reduceAdd]
          (repeat' first
        | (with_reducible refine AR.f ?_)
        | refine blkA_x (by decide) ?_
        | (with_reducible refine AWP.cond rfl ?_ ?_ <;> intro hc <;> (try simp only [hcs, beq_iff_eq, ge_iff_le, gt_iff_lt] at hc))
        | ((first | ((first | (with_reducible first | refine zR ?_ | refine zQ (by decide +kernel) ?_ | refine zD (by decide +kernel) ?_ | refine zE (by decide +kernel) ?_ | refine zG (by decide +kernel) ?_)); intro K hK) | ((first | refine zA ((ref_good_d_c d h hw).re (by rw [hg])) ?_ ?_ ?_ ?_ ?_ | refine zA ((ref_named_c key hk).re (by rw [hn])) ?_ ?_ ?_ ?_ ?_ | refine zA ((file_c d key h hg).re (by rw [fileI_no hm])) ?_ ?_ ?_ ?_ ?_ | refine zA (ref_copied_o_c d h) ?_ ?_ ?_ ?_ ?_); (focus exact rfl); (focus exact rfl); iterate 2 (focus ((try simp (disch := omega) only [go_sem, wrap_n, AFile.rsnoc]) <;> (try omega) <;> fail))) | ((first | refine zN ((ref_good_d_c d h hw).re (by rw [hg])) rfl ?_ ?_ | refine zN ((ref_named_c key hk).re (by rw [hn])) rfl ?_ ?_ | refine zN ((file_c d key h hg).re (by rw [fileI_no hm])) rfl ?_ ?_ | refine zN (ref_copied_o_c d h) rfl ?_ ?_); (focus ((try simp (disch := omega) only [go_sem, wrap_n, AFile.rsnoc]) <;> (try omega) <;> fail))) | (first | ((first | refine zX ((ref_good_d_c d h hw).re (by rw [hg])) rfl ?_ ?_ | refine acallH_anyx ((ref_good_d_c d h hw).re (by rw [hg])) ?_ ?_); (focus ((try simp (disch := omega) only [go_sem, wrap_n, AFile.rsnoc]) <;> (try omega) <;> fail))) | ((first | refine zX ((ref_named_c key hk).re (by rw [hn])) rfl ?_ ?_ | refine acallH_anyx ((ref_named_c key hk).re (by rw [hn])) ?_ ?_); (focus ((try simp (disch := omega) only [go_sem, wrap_n, AFile.rsnoc]) <;> (try omega) <;> fail))) | ((first | refine zX ((file_c d key h hg).re (by rw [fileI_no hm])) rfl ?_ ?_ | refine acallH_anyx ((file_c d key h hg).re (by rw [fileI_no hm])) ?_ ?_); (focus ((try simp (disch := omega) only [go_sem, wrap_n, AFile.rsnoc]) <;> (try omega) <;> fail))) | ((first | refine zX (ref_copied_o_c d h) rfl ?_ ?_ | refine acallH_anyx (ref_copied_o_c d h) ?_ ?_); (focus ((try simp (disch := omega) only [go_sem, wrap_n, AFile.rsnoc]) <;> (try omega) <;> fail)))) | ((first | (with_reducible refine aunder_i ?_ ?_ <;> intro hg) | with_reducible intro hg) <;> (first | (exfalso; simp at hg; done) | (have hg' := hg; (try simp only [hcs, beq_iff_eq, ge_iff_le, gt_iff_lt] at hg'); (try simp only [hg]))))) <;> (try simp (disch := omega) only [go_sem, wrap_n, AFile.rsnoc]) <;> (repeat' with_reducible refine And.intro ?_ ?_) <;> (try (with_reducible refine hK _ ?_; clear hK K)))
        | omega)
          have e8 : ((d.files.length + 1 : Nat) : Int) - 1 = (d.files.length : Nat) := by omega
          have hrr := goodD_rises hg
          have hnm : ∀ k, (d.files.map AFile.name).getD k [] = (d.files.getD k default).name := fun k => getD_map AFile.name d.files k default
          refine AWP.loopB (ι := Nat) (fun k => k ≤ d.files.length ∧ ∀ j, k ≤ j → j < d.files.length → key < (d.files.getD j default).name) (fun k => k) [1, 2, 3, 6] (fun k => [(8, I k)]) (fun k => [.cells [.osl 4 3 0 (d.files.length + 1)], .cells [.d (.sc (.slice none 0 0))], .dead, .rows 3 [[.str key, .str [], .str []]], .rows 3 ((d.files.insertIdx k ⟨key, [], []⟩).map AFile.row)]) d.files.length ?_ ?_ ?_
          · exact ⟨Nat.le_refl _, fun j h1 h2 => by omega⟩
          · simp only [go_sem, ins_end, e8]; (refine SImp.same ?_; simp (disch := omega) only [go_sem, wrap_n, Int.natCast_add])
          intro k ⟨hkl, hk2⟩
          have hik := ins_len d.files k (⟨key, [], []⟩ : AFile) hkl
          have hik2 := ins_len d.files k (⟨key, [], s⟩ : AFile) hkl
          simp only [go_sem]
          (repeat' first
        | (with_reducible refine AR.f ?_)
        | refine blkA_x (by decide) ?_
        | (with_reducible refine AWP.cond rfl ?_ ?_ <;> intro hc <;> (try simp only [hcs, beq_iff_eq, ge_iff_le, gt_iff_lt] at hc))
        | ((first | ((first | refine zP (Plan.takes [0, 1, 2, 3, 4, 6, 7, 8, 9, 10, 11, 12, 13, 14, 15, 16, 17, 18] (.fork 5 (Plan.takes [19, 20, 21] .done) 19 (Plan.takes [5, 20, 21] .done))) (by decide +kernel) ?_ | (with_reducible first | refine zR ?_ | refine zQ (by decide +kernel) ?_ | refine zD (by decide +kernel) ?_ | refine zE (by decide +kernel) ?_ | refine zG (by decide +kernel) ?_)); intro K hK) | ((first | (with_reducible refine aunder_i ?_ ?_ <;> intro hg) | with_reducible intro hg) <;> (first | (exfalso; simp at hg; done) | (have hg' := hg; (try simp only [hcs, beq_iff_eq, ge_iff_le, gt_iff_lt] at hg'); (try simp only [hg]))))) <;> (try simp (disch := omega) only [go_sem, wrap_n, AFile.rgetD, getD_ins, strLt_eq, toNat_pr, AFile.rset, List.length_set, getD_mapset, set_ins]) <;> (repeat' with_reducible refine And.intro ?_ ?_) <;> (try (with_reducible refine hK _ ?_; clear hK K)))
        | omega)
          iterate 2
            · obtain ⟨c0, c1, c2⟩ := hc
              rw [ins_get_lt _ _ _ _ _ hkl (by omega)] at c1 c2
              have e9 : (k : Int) - 1 = ((k - 1 : Nat) : Int) := by omega
              have e10 : (⟨((d.files.insertIdx k (⟨key, [], []⟩ : AFile)).getD (k - 1) default).name, ((d.files.insertIdx k (⟨key, [], []⟩ : AFile)).getD (k - 1) default).safe, ((d.files.insertIdx k (⟨key, [], []⟩ : AFile)).getD (k - 1) default).tail⟩ : AFile) = d.files.getD (k - 1) default := by
                rw [ins_get_lt _ _ _ _ _ hkl (by omega)]
              refine ⟨k - 1, ⟨by omega, fun j h1 h2 => ?_⟩, by omega, ?_⟩
              · by_cases e : j = k - 1
                · subst e; exact lt_of_not c1 c2
                · exact hk2 j (by omega) h2
              rw [e10, ins_swap _ _ _ _ hkl (by omega), e9]
              (refine SImp.same ?_; simp (disch := omega) only [go_sem, wrap_n, Int.natCast_add])
          · rename_i hc1
            have epl := at_place hg hm hkl hk2 hc1
            rw [if_pos (by omega)]; (refine zF rfl ?_ ?_ ?_ ?_; (iterate 3 (focus ((try simp (disch := omega) only [go_sem, wrap_n, default]) <;> (try omega) <;> fail))); (try simp (disch := omega) only [go_sem, wrap_n, default, I, B, S, inj, List.cons.injEq, and_true, true_and, and_self]))
          · rename_i hc1
            have epl := at_place hg hm hkl hk2 hc1
            rw [if_neg (by omega), epl]; (refine zF rfl ?_ ?_ ?_ ?_; (iterate 3 (focus ((try simp (disch := omega) only [go_sem, wrap_n, take_map_ins]) <;> (try omega) <;> fail))); (try simp (disch := omega) only [go_sem, wrap_n, take_map_ins, I, B, S, inj, List.cons.injEq, and_true, true_and, and_self]))
    · have e : writeD d.files key s = (default, 2) := by unfold writeD; rw [if_neg (by simp [hg]), if_pos (by simpa using hn)]
      rw [e]
      rw [Bool.not_eq_true] at hn
      refine acall_of tabOk Tryd.func67 rfl (by kernel_rfl) (by simp [Tryd.ntmps67]) ?_; simp only [Tryd.ntmps67, Tryd.results67, List.toList_toArray, apar, List.length_nil, List.length_cons, Nat.reduceAdd]
      (repeat' first
    | (with_reducible refine AR.f ?_)
    | refine blkA_x (by decide) ?_
    | (with_reducible refine AWP.cond rfl ?_ ?_ <;> intro hc <;> (try simp only [hcs, beq_iff_eq, ge_iff_le, gt_iff_lt] at hc))
    | ((first | ((first | (with_reducible first | refine zR ?_ | refine zQ (by decide +kernel) ?_ | refine zD (by decide +kernel) ?_ | refine zE (by decide +kernel) ?_ | refine zG (by decide +kernel) ?_)); intro K hK) | ((first | refine zA ((ref_good_d_c d h hw).re (by rw [hg])) ?_ ?_ ?_ ?_ ?_ | refine zA ((ref_named_c key hk).re (by rw [hn])) ?_ ?_ ?_ ?_ ?_); (focus exact rfl); (focus exact rfl); iterate 2 (focus ((try simp (disch := omega) only [go_sem, wrap_n]) <;> (try omega) <;> fail))) | ((first | refine zN ((ref_good_d_c d h hw).re (by rw [hg])) rfl ?_ ?_ | refine zN ((ref_named_c key hk).re (by rw [hn])) rfl ?_ ?_); (focus ((try simp (disch := omega) only [go_sem, wrap_n]) <;> (try omega) <;> fail))) | (first | ((first | refine zX ((ref_good_d_c d h hw).re (by rw [hg])) rfl ?_ ?_ | refine acallH_anyx ((ref_good_d_c d h hw).re (by rw [hg])) ?_ ?_); (focus ((try simp (disch := omega) only [go_sem, wrap_n]) <;> (try omega) <;> fail))) | ((first | refine zX ((ref_named_c key hk).re (by rw [hn])) rfl ?_ ?_ | refine acallH_anyx ((ref_named_c key hk).re (by rw [hn])) ?_ ?_); (focus ((try simp (disch := omega) only [go_sem, wrap_n]) <;> (try omega) <;> fail)))) | ((first | (with_reducible refine aunder_i ?_ ?_ <;> intro hg) | with_reducible intro hg) <;> (first | (exfalso; simp at hg; done) | (have hg' := hg; (try simp only [hcs, beq_iff_eq, ge_iff_le, gt_iff_lt] at hg'); (try simp only [hg]))))) <;> (try simp (disch := omega) only [go_sem, wrap_n]) <;> (repeat' with_reducible refine And.intro ?_ ?_) <;> (try (with_reducible refine hK _ ?_; clear hK K)))
    | omega)
      (refine zF rfl ?_ ?_ ?_ ?_; (iterate 3 (focus ((try simp (disch := omega) only [go_sem, wrap_n, default]) <;> (try omega) <;> fail))); (try simp (disch := omega) only [go_sem, wrap_n, default, I, B, S, inj, List.cons.injEq, and_true, true_and, and_self]))
  · have e : writeD d.files key s = (default, 3) := by unfold writeD; rw [if_pos (by simpa using hg)]
    rw [e]
    rw [Bool.not_eq_true] at hg
    refine acall_of tabOk Tryd.func67 rfl (by kernel_rfl) (by simp [Tryd.ntmps67]) ?_; simp only [Tryd.ntmps67, Tryd.results67, List.toList_toArray, apar, List.length_nil, List.length_cons, Nat.reduceAdd]
    (repeat' first
  | (with_reducible refine AR.f ?_)
  | refine blkA_x (by decide) ?_
  | (with_reducible refine AWP.cond rfl ?_ ?_ <;> intro hc <;> (try simp only [hcs, beq_iff_eq, ge_iff_le, gt_iff_lt] at hc))
  | ((first | ((first | (with_reducible first | refine zR ?_ | refine zQ (by decide +kernel) ?_ | refine zD (by decide +kernel) ?_ | refine zE (by decide +kernel) ?_ | refine zG (by decide +kernel) ?_)); intro K hK) | ((first | refine zA ((ref_good_d_c d h hw).re (by rw [hg])) ?_ ?_ ?_ ?_ ?_); (focus exact rfl); (focus exact rfl); iterate 2 (focus ((try simp (disch := omega) only [go_sem, wrap_n]) <;> (try omega) <;> fail))) | ((first | refine zN ((ref_good_d_c d h hw).re (by rw [hg])) rfl ?_ ?_); (focus ((try simp (disch := omega) only [go_sem, wrap_n]) <;> (try omega) <;> fail))) | (first | ((first | refine zX ((ref_good_d_c d h hw).re (by rw [hg])) rfl ?_ ?_ | refine acallH_anyx ((ref_good_d_c d h hw).re (by rw [hg])) ?_ ?_); (focus ((try simp (disch := omega) only [go_sem, wrap_n]) <;> (try omega) <;> fail)))) | ((first | (with_reducible refine aunder_i ?_ ?_ <;> intro hg) | with_reducible intro hg) <;> (first | (exfalso; simp at hg; done) | (have hg' := hg; (try simp only [hcs, beq_iff_eq, ge_iff_le, gt_iff_lt] at hg'); (try simp only [hg]))))) <;> (try simp (disch := omega) only [go_sem, wrap_n]) <;> (repeat' with_reducible refine And.intro ?_ ?_) <;> (try (with_reducible refine hK _ ?_; clear hK K)))
  | omega)
    (refine zF rfl ?_ ?_ ?_ ?_; (iterate 3 (focus ((try simp (disch := omega) only [go_sem, wrap_n, default]) <;> (try omega) <;> fail))); (try simp (disch := omega) only [go_sem, wrap_n, default, I, B, S, inj, List.cons.injEq, and_true, true_and, and_self]))
theorem write_wf {l : List AFile} {key s : List UInt8} : (writeD l key s).1.files.length * 48 ≤ 140737488351232 := by
  unfold writeD; split
  · decide
  · rename_i hg
    have hl := good_len (l := l) (by simpa using hg)
    split
    · decide
    · split
      · split
        · decide
        · show (l.set _ _).length * 48 ≤ _; rw [List.length_set]; omega
      · split
        · decide
        · split
          · decide
          · show (l.insertIdx _ _).length * 48 ≤ _; rw [ins_len _ _ _ place_le']; omega
end Go.Proofs.YtmpfhalheaeibaaDoor
