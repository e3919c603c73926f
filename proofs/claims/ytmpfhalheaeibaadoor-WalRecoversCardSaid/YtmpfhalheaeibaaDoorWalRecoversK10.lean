/- A part of what WalRecovers leans on: texts of this claim, one behind the other. No condition. -/
import Derived.Test.YtmpfhalheaeibaaDoorWalRecoversK9
namespace Go.Proofs.YtmpfhalheaeibaaDoor
set_option linter.unusedVariables false
set_option linter.unusedSimpArgs false
open Go Go.RowKit
set_option maxRecDepth 100000
set_option linter.unusedSimpArgs false
def fileOk (f : AFile) : Prop := namedP f.name = true ∧ f.safe.length + f.tail.length ≤ 1048576
instance (f : AFile) : Decidable (fileOk f) := by unfold fileOk; infer_instance
def fileK (l : List AFile) (k : Nat) : Prop := fileOk (l.getD k default) ∧ (0 < k → (l.getD (k - 1) default).name < (l.getD k default).name)
instance (l : List AFile) (k : Nat) : Decidable (fileK l k) := by unfold fileK; infer_instance
def goodD (l : List AFile) : Bool := decide (l.length ≤ 16 ∧ ∀ k, k < l.length → fileK l k)
theorem goodD_rises {l : List AFile} (h : goodD l = true) : Rises (l.map AFile.name) := by
  intro k hk
  unfold goodD at h; rw [decide_eq_true_eq] at h
  have := (h.2 (k + 1) (by simpa using hk)).2 (by omega)
  have e : ∀ j, (l.map AFile.name).getD j [] = (l.getD j default).name := fun j => getD_map AFile.name l j default
  rw [e, e]
  simpa using this
theorem toNat_pr (n : Nat) : ((n : Int) - 1).toNat = n - 1 := by omega
theorem file_wf {l : List AFile} (h : ∀ f, f ∈ l → f.wf) (k : Nat) : okS (l.getD k default).name ∧ (l.getD k default).name.length ≤ 140737488351232 ∧ (l.getD k default).safe.length ≤ 140737488351232 ∧ (l.getD k default).tail.length ≤ 140737488351232 := by
  by_cases e : k < l.length
  · have := h _ (getD_mem l k e)
    exact ⟨this.1, this.1, this.2.1, this.2.2⟩
  · rw [List.getD_eq_getElem?_getD, List.getElem?_eq_none (by omega)]; exact ⟨show okS [] by unfold okS; decide, by decide, by decide, by decide⟩
theorem good_d_c (d : ADisk) (h : d.files.length * 48 ≤ 140737488351232) (hw : ∀ f, f ∈ d.files → f.wf) : acall Tryd.prog [] 125 [d.av] (ret (B (goodD d.files))) := by
  refine acall_of tabOk Tryd.func125 rfl (by kernel_rfl) (by simp [Tryd.ntmps125]) ?_; simp only [Tryd.ntmps125, Tryd.results125, List.toList_toArray, apar, List.length_nil, List.length_cons, Nat.reduceAdd]
  repeat' first
    | (with_reducible first | refine AWP.seq ?_ | refine thenA_n ?_ | refine thenA_r ?_ | refine thenA_e ?_ | refine blkA_n ?_ | refine blkA_r ?_ | refine blkA_e ?_ | refine blkA_x (by decide) ?_ | refine AWP.skip ?_ | refine AWP.ret ?_ | refine AWP.exit ?_ | refine AWP.block ?_)
    | (with_reducible refine AWP.cond rfl ?_ ?_ <;> intro hc <;> (try simp only [hcs, beq_iff_eq, ge_iff_le, gt_iff_lt] at hc))
    | ((first
      | (with_reducible first | refine AWP.region tabOk ?_ | refine AWP.quietC mixed tabOk (by decide +kernel) ?_ | refine AWP.draw mixed tabOk (by decide +kernel) ?_ | refine AWP.drawE mixed tabOk (by decide +kernel) ?_ | refine AWP.drawG mixed tabOk (by decide +kernel) ?_); intro K hK); ((try simp (disch := omega) only [go_sem, wrap_n]) <;> (repeat' with_reducible refine And.intro ?_ ?_) <;> (try (with_reducible refine hK _ ?_; clear hK K))))
    | ((first | (with_reducible refine aunder_i ?_ ?_ <;> intro hg) | with_reducible intro hg) <;> (first | (exfalso; simp at hg; done) | (have hg' := hg; (try simp only [hcs, beq_iff_eq, ge_iff_le, gt_iff_lt] at hg'); ((try simp (disch := omega) only [hg, go_sem, wrap_n]) <;> (repeat' with_reducible refine And.intro ?_ ?_) <;> (try (with_reducible refine hK _ ?_; clear hK K))))))
                                                            | omega
  · (refine aend_retc ?_ rfl ?_ ?_ ?_ ?_; (focus (first | exact .inl rfl | exact .inr rfl)); (iterate 3 (focus ((try simp (disch := omega) only [go_sem, wrap_n]) <;> (try omega) <;> fail))); (try simp (disch := omega) only [go_sem, wrap_n, I, B, S, inj, List.cons.injEq, and_true, true_and, and_self]))
    unfold goodD; symm; rw [decide_eq_false_iff_not]; rintro ⟨a, -⟩; omega
  refine AWP.loopS (ι := Nat) (fun k => k ≤ d.files.length ∧ ∀ j, j < k → fileK d.files j) (fun k => d.files.length - k) [1, 10, 11] (fun k => [(12, I k)]) 0 ?_ (by simp (disch := omega) only [go_sem, wrap_n, true_and]) ?_
  · exact ⟨by omega, by omega⟩
  intro k ⟨hk, hk2⟩
  obtain ⟨w0, w1, w2, w3⟩ := file_wf hw k
  simp only [go_sem]
  repeat' first
    | (with_reducible first | refine AWP.seq ?_ | refine thenA_n ?_ | refine thenA_r ?_ | refine thenA_e ?_ | refine blkA_n ?_ | refine blkA_r ?_ | refine blkA_e ?_ | refine blkA_x (by decide) ?_ | refine AWP.skip ?_ | refine AWP.ret ?_ | refine AWP.exit ?_ | refine AWP.block ?_)
    | (with_reducible refine AWP.cond rfl ?_ ?_ <;> intro hc <;> (try simp only [hcs, beq_iff_eq, ge_iff_le, gt_iff_lt] at hc))
    | ((first
      | (with_reducible first | refine AWP.region tabOk ?_ | refine AWP.quietC mixed tabOk (by decide +kernel) ?_ | refine AWP.draw mixed tabOk (by decide +kernel) ?_ | refine AWP.drawE mixed tabOk (by decide +kernel) ?_ | refine AWP.drawG mixed tabOk (by decide +kernel) ?_); intro K hK
      | ((first | refine acallH_sc (named_c _ w0) rfl rfl ?_ ?_ ?_ | refine acallQ_sc (named_c _ w0) rfl rfl ?_ ?_ ?_); iterate 2 (focus ((try simp (disch := omega) only [go_sem, wrap_n, toNat_pr, strLt_eq]) <;> (try omega) <;> fail)))
      | ((first | refine acallH_anyr (named_c _ w0) rfl ?_ ?_); (focus ((try simp (disch := omega) only [go_sem, wrap_n, toNat_pr, strLt_eq]) <;> (try omega) <;> fail)))
      | ((first | refine acallH_scx (named_c _ w0) rfl ?_ ?_ | refine acallQ_scx (named_c _ w0) rfl ?_ ?_ | refine acallH_anyx (named_c _ w0) ?_ ?_); (focus ((try simp (disch := omega) only [go_sem, wrap_n, toNat_pr, strLt_eq]) <;> (try omega) <;> fail)))); ((try simp (disch := omega) only [go_sem, wrap_n, toNat_pr, strLt_eq]) <;> (repeat' with_reducible refine And.intro ?_ ?_) <;> (try (with_reducible refine hK _ ?_; clear hK K))))
    | ((first | (with_reducible refine aunder_i ?_ ?_ <;> intro hg) | with_reducible intro hg) <;> (first | (exfalso; simp at hg; done) | (have hg' := hg; (try simp only [hcs, beq_iff_eq, ge_iff_le, gt_iff_lt] at hg'); ((try simp (disch := omega) only [hg, go_sem, wrap_n, toNat_pr, strLt_eq]) <;> (repeat' with_reducible refine And.intro ?_ ?_) <;> (try (with_reducible refine hK _ ?_; clear hK K))))))
                                                            | omega
  · (refine aend_retc ?_ rfl ?_ ?_ ?_ ?_; (focus (first | exact .inl rfl | exact .inr rfl)); (iterate 3 (focus ((try simp (disch := omega) only [go_sem, wrap_n]) <;> (try omega) <;> fail))); (try simp (disch := omega) only [go_sem, wrap_n, I, B, S, inj, List.cons.injEq, and_true, true_and, and_self]))
    unfold goodD; symm; rw [decide_eq_false_iff_not]; rintro ⟨-, a⟩
    have a1 := a k (by assumption)
    rcases hc with (c | c) | c
    · rw [a1.1.1] at c; exact absurd c (by simp)
    · exact absurd (a1.2 (by omega)) (by simpa using c.2)
    · have := a1.1.2; omega
  · refine ⟨k + 1, ⟨by omega, fun j hj => ?_⟩, by omega, ?_⟩
    · by_cases e : j = k
      · subst e
        exact ⟨⟨hc.1.1, by omega⟩, fun h0 => (hc.1.2.resolve_left (by omega))⟩
      · exact hk2 j (by omega)
    (refine SImp.frame [0] rfl (by intro k hk; first | (simp at hk <;> (simp; omega)) | (simp only [List.mem_cons, List.not_mem_nil, or_false] at hk; simp only [List.length_cons, List.length_nil]; omega)) (by decide) (fun k hk => by first | omega | (rcases k with _ | _ | _ | _ | k <;> first | rfl | omega)) ?_ ?_ <;> simp (disch := omega) only [go_sem, wrap_n, Int.natCast_add, true_and] <;> (try rfl))
  · (refine aend_retc ?_ rfl ?_ ?_ ?_ ?_; (focus (first | exact .inl rfl | exact .inr rfl)); (iterate 3 (focus ((try simp (disch := omega) only [go_sem, wrap_n]) <;> (try omega) <;> fail))); (try simp (disch := omega) only [go_sem, wrap_n, I, B, S, inj, List.cons.injEq, and_true, true_and, and_self]))
    unfold goodD; symm; rw [decide_eq_true_eq]; exact ⟨by omega, fun j hj => hk2 j (by omega)⟩
theorem ref_good_d_c (d : ADisk) (h : d.files.length * 48 ≤ 140737488351232) (hw : ∀ f, f ∈ d.files → f.wf) : acall Tryd.prog [] 131 [d.av] (ret (B (goodD d.files))) := by
  refine acall_of tabOk Tryd.func131 rfl (by kernel_rfl) (by simp [Tryd.ntmps131]) ?_; simp only [Tryd.ntmps131, Tryd.results131, List.toList_toArray, apar, List.length_nil, List.length_cons, Nat.reduceAdd]
  repeat' first
    | (with_reducible first | refine AWP.seq ?_ | refine thenA_n ?_ | refine thenA_r ?_ | refine thenA_e ?_ | refine blkA_n ?_ | refine blkA_r ?_ | refine blkA_e ?_ | refine blkA_x (by decide) ?_ | refine AWP.skip ?_ | refine AWP.ret ?_ | refine AWP.exit ?_ | refine AWP.block ?_)
    | (with_reducible refine AWP.cond rfl ?_ ?_ <;> intro hc <;> (try simp only [hcs, beq_iff_eq, ge_iff_le, gt_iff_lt] at hc))
    | ((first
      | (with_reducible first | refine AWP.region tabOk ?_ | refine AWP.quietC mixed tabOk (by decide +kernel) ?_ | refine AWP.draw mixed tabOk (by decide +kernel) ?_ | refine AWP.drawE mixed tabOk (by decide +kernel) ?_ | refine AWP.drawG mixed tabOk (by decide +kernel) ?_); intro K hK); ((try simp (disch := omega) only [go_sem, wrap_n]) <;> (repeat' with_reducible refine And.intro ?_ ?_) <;> (try (with_reducible refine hK _ ?_; clear hK K))))
    | ((first | (with_reducible refine aunder_i ?_ ?_ <;> intro hg) | with_reducible intro hg) <;> (first | (exfalso; simp at hg; done) | (have hg' := hg; (try simp only [hcs, beq_iff_eq, ge_iff_le, gt_iff_lt] at hg'); ((try simp (disch := omega) only [hg, go_sem, wrap_n]) <;> (repeat' with_reducible refine And.intro ?_ ?_) <;> (try (with_reducible refine hK _ ?_; clear hK K))))))
                                                            | omega
  refine AWP.loopS (ι := Nat) (fun k => k ≤ d.files.length ∧ ∀ j, j < k → fileK d.files j) (fun k => d.files.length - k) [1, 6, 7] (fun k => [(8, I k)]) 0 ?_ (by simp (disch := omega) only [go_sem, wrap_n, true_and]) ?_
  · exact ⟨by omega, by omega⟩
  intro k ⟨hk, hk2⟩
  obtain ⟨w0, w1, w2, w3⟩ := file_wf hw k
  simp only [go_sem]
  repeat' first
    | (with_reducible first | refine AWP.seq ?_ | refine thenA_n ?_ | refine thenA_r ?_ | refine thenA_e ?_ | refine blkA_n ?_ | refine blkA_r ?_ | refine blkA_e ?_ | refine blkA_x (by decide) ?_ | refine AWP.skip ?_ | refine AWP.ret ?_ | refine AWP.exit ?_ | refine AWP.block ?_)
    | (with_reducible refine AWP.cond rfl ?_ ?_ <;> intro hc <;> (try simp only [hcs, beq_iff_eq, ge_iff_le, gt_iff_lt] at hc))
    | ((first
      | (with_reducible first | refine AWP.region tabOk ?_ | refine AWP.quietC mixed tabOk (by decide +kernel) ?_ | refine AWP.draw mixed tabOk (by decide +kernel) ?_ | refine AWP.drawE mixed tabOk (by decide +kernel) ?_ | refine AWP.drawG mixed tabOk (by decide +kernel) ?_); intro K hK
      | ((first | refine acallH_sc (ref_named_c _ w0) rfl rfl ?_ ?_ ?_ | refine acallQ_sc (ref_named_c _ w0) rfl rfl ?_ ?_ ?_); iterate 2 (focus ((try simp (disch := omega) only [go_sem, wrap_n, toNat_pr, strLt_eq]) <;> (try omega) <;> fail)))
      | ((first | refine acallH_anyr (ref_named_c _ w0) rfl ?_ ?_); (focus ((try simp (disch := omega) only [go_sem, wrap_n, toNat_pr, strLt_eq]) <;> (try omega) <;> fail)))
      | ((first | refine acallH_scx (ref_named_c _ w0) rfl ?_ ?_ | refine acallQ_scx (ref_named_c _ w0) rfl ?_ ?_ | refine acallH_anyx (ref_named_c _ w0) ?_ ?_); (focus ((try simp (disch := omega) only [go_sem, wrap_n, toNat_pr, strLt_eq]) <;> (try omega) <;> fail)))); ((try simp (disch := omega) only [go_sem, wrap_n, toNat_pr, strLt_eq]) <;> (repeat' with_reducible refine And.intro ?_ ?_) <;> (try (with_reducible refine hK _ ?_; clear hK K))))
    | ((first | (with_reducible refine aunder_i ?_ ?_ <;> intro hg) | with_reducible intro hg) <;> (first | (exfalso; simp at hg; done) | (have hg' := hg; (try simp only [hcs, beq_iff_eq, ge_iff_le, gt_iff_lt] at hg'); ((try simp (disch := omega) only [hg, go_sem, wrap_n, toNat_pr, strLt_eq]) <;> (repeat' with_reducible refine And.intro ?_ ?_) <;> (try (with_reducible refine hK _ ?_; clear hK K))))))
                                                            | omega
  · (refine aend_retc ?_ rfl ?_ ?_ ?_ ?_; (focus (first | exact .inl rfl | exact .inr rfl)); (iterate 3 (focus ((try simp (disch := omega) only [go_sem, wrap_n]) <;> (try omega) <;> fail))); (try simp (disch := omega) only [go_sem, wrap_n, I, B, S, inj, List.cons.injEq, and_true, true_and, and_self]))
    unfold goodD; symm; rw [decide_eq_false_iff_not]; rintro ⟨-, a⟩
    have a1 := a k (by assumption)
    rcases hc with c | c
    · rw [a1.1.1] at c; exact absurd c (by simp)
    · have := a1.1.2; omega
  · (refine aend_retc ?_ rfl ?_ ?_ ?_ ?_; (focus (first | exact .inl rfl | exact .inr rfl)); (iterate 3 (focus ((try simp (disch := omega) only [go_sem, wrap_n]) <;> (try omega) <;> fail))); (try simp (disch := omega) only [go_sem, wrap_n, I, B, S, inj, List.cons.injEq, and_true, true_and, and_self]))
    unfold goodD; symm; rw [decide_eq_false_iff_not]; rintro ⟨-, a⟩
    have a1 := a k (by assumption)
    exact hc.2 (a1.2 (by omega))
  · rename_i hc1
    refine ⟨k + 1, ⟨by omega, fun j hj => ?_⟩, by omega, ?_⟩
    · by_cases e : j = k
      · subst e
        exact ⟨⟨hc1.1, by omega⟩, fun h0 => (hc.resolve_left (by omega))⟩
      · exact hk2 j (by omega)
    (refine SImp.frame [0] rfl (by intro k hk; first | (simp at hk <;> (simp; omega)) | (simp only [List.mem_cons, List.not_mem_nil, or_false] at hk; simp only [List.length_cons, List.length_nil]; omega)) (by decide) (fun k hk => by first | omega | (rcases k with _ | _ | _ | _ | k <;> first | rfl | omega)) ?_ ?_ <;> simp (disch := omega) only [go_sem, wrap_n, Int.natCast_add, true_and] <;> (try rfl))
  · (refine aend_retc ?_ rfl ?_ ?_ ?_ ?_; (focus (first | exact .inl rfl | exact .inr rfl)); (iterate 3 (focus ((try simp (disch := omega) only [go_sem, wrap_n]) <;> (try omega) <;> fail))); (try simp (disch := omega) only [go_sem, wrap_n, I, B, S, inj, List.cons.injEq, and_true, true_and, and_self]))
    have a : ∀ j, j < d.files.length → fileK d.files j := fun j hj => hk2 j (by omega)
    unfold goodD; rw [Bool.eq_iff_iff, decide_eq_true_eq, decide_eq_true_eq]
    exact ⟨fun h => ⟨by omega, a⟩, fun h => by omega⟩
theorem find_c (d : ADisk) (key : List UInt8) (h : d.files.length * 48 ≤ 140737488351232) (hr : goodD d.files = true) :
    acall Tryd.prog [] 126 [d.av, S key] (ret (.tup [I (place (d.files.map AFile.name) key), B (decide (key ∈ d.files.map AFile.name))])) := by
  refine acall_of tabOk Tryd.func126 rfl (by kernel_rfl) (by simp [Tryd.ntmps126]) ?_; simp only [Tryd.ntmps126, Tryd.results126, List.toList_toArray, apar, List.length_nil, List.length_cons, Nat.reduceAdd]
  repeat' first
    | (with_reducible first | refine AWP.seq ?_ | refine thenA_n ?_ | refine thenA_r ?_ | refine thenA_e ?_ | refine blkA_n ?_ | refine blkA_r ?_ | refine blkA_e ?_ | refine blkA_x (by decide) ?_ | refine AWP.skip ?_ | refine AWP.ret ?_ | refine AWP.exit ?_ | refine AWP.block ?_)
    | (with_reducible refine AWP.cond rfl ?_ ?_ <;> intro hc <;> (try simp only [hcs, beq_iff_eq, ge_iff_le, gt_iff_lt] at hc))
    | ((first
      | (with_reducible first | refine AWP.region tabOk ?_ | refine AWP.quietC mixed tabOk (by decide +kernel) ?_ | refine AWP.draw mixed tabOk (by decide +kernel) ?_ | refine AWP.drawE mixed tabOk (by decide +kernel) ?_ | refine AWP.drawG mixed tabOk (by decide +kernel) ?_); intro K hK
      | ((first | refine acallH_sc (bsFile_c _ key h (goodD_rises hr)) rfl rfl ?_ ?_ ?_ | refine acallQ_sc (bsFile_c _ key h (goodD_rises hr)) rfl rfl ?_ ?_ ?_); iterate 2 (focus ((try simp (disch := omega) only [go_sem, wrap_n]) <;> (try omega) <;> fail)))
      | ((first | refine acallH_anyr (bsFile_c _ key h (goodD_rises hr)) rfl ?_ ?_); (focus ((try simp (disch := omega) only [go_sem, wrap_n]) <;> (try omega) <;> fail)))
      | ((first | refine acallH_scx (bsFile_c _ key h (goodD_rises hr)) rfl ?_ ?_ | refine acallQ_scx (bsFile_c _ key h (goodD_rises hr)) rfl ?_ ?_ | refine acallH_anyx (bsFile_c _ key h (goodD_rises hr)) ?_ ?_); (focus ((try simp (disch := omega) only [go_sem, wrap_n]) <;> (try omega) <;> fail)))); ((try simp (disch := omega) only [go_sem, wrap_n]) <;> (repeat' with_reducible refine And.intro ?_ ?_) <;> (try (with_reducible refine hK _ ?_; clear hK K))))
    | ((first | (with_reducible refine aunder_i ?_ ?_ <;> intro hg) | with_reducible intro hg) <;> (first | (exfalso; simp at hg; done) | (have hg' := hg; (try simp only [hcs, beq_iff_eq, ge_iff_le, gt_iff_lt] at hg'); ((try simp (disch := omega) only [hg, go_sem, wrap_n]) <;> (repeat' with_reducible refine And.intro ?_ ?_) <;> (try (with_reducible refine hK _ ?_; clear hK K))))))
                                                            | omega
  (refine aend_retc ?_ rfl ?_ ?_ ?_ ?_; (focus (first | exact .inl rfl | exact .inr rfl)); (iterate 3 (focus ((try simp (disch := omega) only [go_sem, wrap_n]) <;> (try omega) <;> fail))); (try simp (disch := omega) only [go_sem, wrap_n, I, B, S, inj, List.cons.injEq, and_true, true_and, and_self]))
def fileI (l : List AFile) (key : List UInt8) : Int := if key ∈ l.map AFile.name then (place (l.map AFile.name) key : Nat) else -1
theorem file_c (d : ADisk) (key : List UInt8) (h : d.files.length * 48 ≤ 140737488351232) (hr : goodD d.files = true) : acall Tryd.prog [] 75 [d.av, S key] (ret (I (fileI d.files key))) := by
  have hn : ∀ k, (d.files.map AFile.name).getD k [] = (d.files.getD k default).name := fun k => getD_map AFile.name d.files k default
  have hr2 := goodD_rises hr
  refine acall_of tabOk Tryd.func75 rfl (by kernel_rfl) (by simp [Tryd.ntmps75]) ?_; simp only [Tryd.ntmps75, Tryd.results75, List.toList_toArray, apar, List.length_nil, List.length_cons, Nat.reduceAdd]
  repeat' first
    | (with_reducible first | refine AWP.seq ?_ | refine thenA_n ?_ | refine thenA_r ?_ | refine thenA_e ?_ | refine blkA_n ?_ | refine blkA_r ?_ | refine blkA_e ?_ | refine blkA_x (by decide) ?_ | refine AWP.skip ?_ | refine AWP.ret ?_ | refine AWP.exit ?_ | refine AWP.block ?_)
    | (with_reducible refine AWP.cond rfl ?_ ?_ <;> intro hc <;> (try simp only [hcs, beq_iff_eq, ge_iff_le, gt_iff_lt] at hc))
    | ((first
      | (with_reducible first | refine AWP.region tabOk ?_ | refine AWP.quietC mixed tabOk (by decide +kernel) ?_ | refine AWP.draw mixed tabOk (by decide +kernel) ?_ | refine AWP.drawE mixed tabOk (by decide +kernel) ?_ | refine AWP.drawG mixed tabOk (by decide +kernel) ?_); intro K hK); ((try simp (disch := omega) only [go_sem, wrap_n]) <;> (repeat' with_reducible refine And.intro ?_ ?_) <;> (try (with_reducible refine hK _ ?_; clear hK K))))
    | ((first | (with_reducible refine aunder_i ?_ ?_ <;> intro hg) | with_reducible intro hg) <;> (first | (exfalso; simp at hg; done) | (have hg' := hg; (try simp only [hcs, beq_iff_eq, ge_iff_le, gt_iff_lt] at hg'); ((try simp (disch := omega) only [hg, go_sem, wrap_n]) <;> (repeat' with_reducible refine And.intro ?_ ?_) <;> (try (with_reducible refine hK _ ?_; clear hK K))))))
                                                            | omega
  refine AWP.loopS (ι := Nat) (fun k => k ≤ d.files.length ∧ ∀ j, j < k → (d.files.getD j default).name ≠ key) (fun k => d.files.length - k) [1, 8, 9] (fun k => [(10, I k)]) 0 ?_ (by simp (disch := omega) only [go_sem, wrap_n, true_and]) ?_
  · exact ⟨by omega, by omega⟩
  intro k ⟨hk, hk2⟩
  simp only [go_sem]
  repeat' first
    | (with_reducible first | refine AWP.seq ?_ | refine thenA_n ?_ | refine thenA_r ?_ | refine thenA_e ?_ | refine blkA_n ?_ | refine blkA_r ?_ | refine blkA_e ?_ | refine blkA_x (by decide) ?_ | refine AWP.skip ?_ | refine AWP.ret ?_ | refine AWP.exit ?_ | refine AWP.block ?_)
    | (with_reducible refine AWP.cond rfl ?_ ?_ <;> intro hc <;> (try simp only [hcs, beq_iff_eq, ge_iff_le, gt_iff_lt] at hc))
    | ((first
      | (with_reducible first | refine AWP.region tabOk ?_ | refine AWP.quietC mixed tabOk (by decide +kernel) ?_ | refine AWP.draw mixed tabOk (by decide +kernel) ?_ | refine AWP.drawE mixed tabOk (by decide +kernel) ?_ | refine AWP.drawG mixed tabOk (by decide +kernel) ?_); intro K hK); ((try simp (disch := omega) only [go_sem, wrap_n]) <;> (repeat' with_reducible refine And.intro ?_ ?_) <;> (try (with_reducible refine hK _ ?_; clear hK K))))
    | ((first | (with_reducible refine aunder_i ?_ ?_ <;> intro hg) | with_reducible intro hg) <;> (first | (exfalso; simp at hg; done) | (have hg' := hg; (try simp only [hcs, beq_iff_eq, ge_iff_le, gt_iff_lt] at hg'); ((try simp (disch := omega) only [hg, go_sem, wrap_n]) <;> (repeat' with_reducible refine And.intro ?_ ?_) <;> (try (with_reducible refine hK _ ?_; clear hK K))))))
                                                            | omega
  · (refine aend_retc ?_ rfl ?_ ?_ ?_ ?_; (focus (first | exact .inl rfl | exact .inr rfl)); (iterate 3 (focus ((try simp (disch := omega) only [go_sem, wrap_n]) <;> (try omega) <;> fail))); (try simp (disch := omega) only [go_sem, wrap_n, I, B, S, inj, List.cons.injEq, and_true, true_and, and_self]))
    have hl : k < (d.files.map AFile.name).length := by simp; omega
    have e := place_at hr2 hl
    rw [hn, hc] at e
    unfold fileI
    rw [if_pos ((mem_iff_getD _ [] key).2 ⟨k, hl, by rw [hn]; exact hc⟩), e]
  · refine ⟨k + 1, ⟨by omega, fun j hj => ?_⟩, by omega, ?_⟩
    · by_cases e : j = k
      · subst e; exact hc
      · exact hk2 j (by omega)
    (refine SImp.frame [0] rfl (by intro k hk; first | (simp at hk <;> (simp; omega)) | (simp only [List.mem_cons, List.not_mem_nil, or_false] at hk; simp only [List.length_cons, List.length_nil]; omega)) (by decide) (fun k hk => by first | omega | (rcases k with _ | _ | _ | _ | k <;> first | rfl | omega)) ?_ ?_ <;> simp (disch := omega) only [go_sem, wrap_n, Int.natCast_add, true_and] <;> (try rfl))
  · (refine aend_retc ?_ rfl ?_ ?_ ?_ ?_; (focus (first | exact .inl rfl | exact .inr rfl)); (iterate 3 (focus ((try simp (disch := omega) only [go_sem, wrap_n]) <;> (try omega) <;> fail))); (try simp (disch := omega) only [go_sem, wrap_n, I, B, S, inj, List.cons.injEq, and_true, true_and, and_self]))
    unfold fileI
    rw [if_neg]
    rw [mem_iff_getD _ [] key]
    rintro ⟨j, hj, e⟩
    rw [hn] at e
    exact hk2 j (by simp at hj; omega) e
theorem cloneFile_c (l : List AFile) (h : l.length * 48 ≤ 140737488351232) : acall Tryd.prog [] 163 [.d (.sl 3 (l.map AFile.row))] (own 3 (l.map AFile.row)) := by
  refine acall_of tabOk Tryd.func163 rfl (by kernel_rfl) (by simp [Tryd.ntmps163]) ?_; simp only [Tryd.ntmps163, Tryd.results163, List.toList_toArray, apar, List.length_nil, List.length_cons, Nat.reduceAdd]
  repeat' first
    | (with_reducible first | refine AWP.seq ?_ | refine thenA_n ?_ | refine thenA_r ?_ | refine thenA_e ?_ | refine blkA_n ?_ | refine blkA_r ?_ | refine blkA_e ?_ | refine blkA_x (by decide) ?_ | refine AWP.skip ?_ | refine AWP.ret ?_ | refine AWP.exit ?_ | refine AWP.block ?_)
    | (with_reducible refine AWP.cond rfl ?_ ?_ <;> intro hc <;> (try simp only [hcs, beq_iff_eq, ge_iff_le, gt_iff_lt] at hc))
    | ((first
      | (with_reducible first | refine AWP.region tabOk ?_ | refine AWP.quietC mixed tabOk (by decide +kernel) ?_ | refine AWP.draw mixed tabOk (by decide +kernel) ?_ | refine AWP.drawE mixed tabOk (by decide +kernel) ?_ | refine AWP.drawG mixed tabOk (by decide +kernel) ?_); intro K hK); ((try simp (disch := omega) only [go_sem, wrap_n]) <;> (repeat' with_reducible refine And.intro ?_ ?_) <;> (try (with_reducible refine hK _ ?_; clear hK K))))
    | ((first | (with_reducible refine aunder_i ?_ ?_ <;> intro hg) | with_reducible intro hg) <;> (first | (exfalso; simp at hg; done) | (have hg' := hg; (try simp only [hcs, beq_iff_eq, ge_iff_le, gt_iff_lt] at hg'); ((try simp (disch := omega) only [hg, go_sem, wrap_n]) <;> (repeat' with_reducible refine And.intro ?_ ?_) <;> (try (with_reducible refine hK _ ?_; clear hK K))))))
                                                            | omega
  · have e : l.length = 0 := by
      rcases Nat.eq_zero_or_pos l.length with h0 | h0
      · exact h0
      · rw [hg h0] at hc; simp at hc
    rw [nil_of_len e]
    (refine aend_nil (by first | exact .inl rfl | exact .inr rfl) rfl ?_ ?_ <;> simp (disch := omega) only [go_sem, wrap_n])
  · (refine aend_own 1 (by first | exact .inl rfl | exact .inr rfl) rfl ?_ rfl rfl ?_ <;> (try simp (disch := omega) only [go_sem, wrap_n, List.length_map]))
theorem copied_d_c (d : ADisk) (h : d.files.length * 48 ≤ 140737488351232) : acall Tryd.prog [] 127 [d.av] (outs (.agg [.osl 0 3 0 d.files.length]) [.rows 3 (d.files.map AFile.row)]) := by
  refine acall_of tabOk Tryd.func127 rfl (by kernel_rfl) (by simp [Tryd.ntmps127]) ?_; simp only [Tryd.ntmps127, Tryd.results127, List.toList_toArray, apar, List.length_nil, List.length_cons, Nat.reduceAdd]
  repeat' first
    | (with_reducible first | refine AWP.seq ?_ | refine thenA_n ?_ | refine thenA_r ?_ | refine thenA_e ?_ | refine blkA_n ?_ | refine blkA_r ?_ | refine blkA_e ?_ | refine blkA_x (by decide) ?_ | refine AWP.skip ?_ | refine AWP.ret ?_ | refine AWP.exit ?_ | refine AWP.block ?_)
    | (with_reducible refine AWP.cond rfl ?_ ?_ <;> intro hc <;> (try simp only [hcs, beq_iff_eq, ge_iff_le, gt_iff_lt] at hc))
    | ((first
      | (with_reducible first | refine AWP.region tabOk ?_ | refine AWP.quietC mixed tabOk (by decide +kernel) ?_ | refine AWP.draw mixed tabOk (by decide +kernel) ?_ | refine AWP.drawE mixed tabOk (by decide +kernel) ?_ | refine AWP.drawG mixed tabOk (by decide +kernel) ?_); intro K hK
      | ((first | refine acallH_sc (cloneFile_c _ h) rfl rfl ?_ ?_ ?_ | refine acallQ_sc (cloneFile_c _ h) rfl rfl ?_ ?_ ?_); iterate 2 (focus ((try simp (disch := omega) only [go_sem, wrap_n]) <;> (try omega) <;> fail)))
      | ((first | refine acallH_anyr (cloneFile_c _ h) rfl ?_ ?_); (focus ((try simp (disch := omega) only [go_sem, wrap_n]) <;> (try omega) <;> fail)))
      | ((first | refine acallH_scx (cloneFile_c _ h) rfl ?_ ?_ | refine acallQ_scx (cloneFile_c _ h) rfl ?_ ?_ | refine acallH_anyx (cloneFile_c _ h) ?_ ?_); (focus ((try simp (disch := omega) only [go_sem, wrap_n]) <;> (try omega) <;> fail)))); ((try simp (disch := omega) only [go_sem, wrap_n]) <;> (repeat' with_reducible refine And.intro ?_ ?_) <;> (try (with_reducible refine hK _ ?_; clear hK K))))
    | ((first | (with_reducible refine aunder_i ?_ ?_ <;> intro hg) | with_reducible intro hg) <;> (first | (exfalso; simp at hg; done) | (have hg' := hg; (try simp only [hcs, beq_iff_eq, ge_iff_le, gt_iff_lt] at hg'); ((try simp (disch := omega) only [hg, go_sem, wrap_n]) <;> (repeat' with_reducible refine And.intro ?_ ?_) <;> (try (with_reducible refine hK _ ?_; clear hK K))))))
                                                            | omega
  (refine aend_out (by first | exact .inl rfl | exact .inr rfl) ?_ ?_; (focus ((try simp (disch := omega) only [go_sem, wrap_n]) <;> fail)); simp (disch := omega) only [go_sem, wrap_n, true_and]; refine AOut.of_simp ?_ (AOut.same ⟨rfl, rfl⟩); refine SImp.frame [2] rfl (by intro k hk; first | (simp at hk <;> (simp; omega)) | (simp only [List.mem_cons, List.not_mem_nil, or_false] at hk; simp only [List.length_cons, List.length_nil]; omega)) (by decide) (fun k hk => by first | omega | (rcases k with _ | _ | _ | _ | k <;> first | rfl | omega)) ?_ ?_ <;> simp (disch := omega) only [go_sem, wrap_n, true_or, or_true, true_and])
theorem ref_copied_d_c (d : ADisk) (h : d.files.length * 48 ≤ 140737488351232) : acall Tryd.prog [] 15 [d.av] (ret d.av) := by
  refine acall_of tabOk Tryd.func15 rfl (by kernel_rfl) (by simp [Tryd.ntmps15]) ?_; simp only [Tryd.ntmps15, Tryd.results15, List.toList_toArray, apar, List.length_nil, List.length_cons, Nat.reduceAdd]
  repeat' first
    | (with_reducible first | refine AWP.seq ?_ | refine thenA_n ?_ | refine thenA_r ?_ | refine thenA_e ?_ | refine blkA_n ?_ | refine blkA_r ?_ | refine blkA_e ?_ | refine blkA_x (by decide) ?_ | refine AWP.skip ?_ | refine AWP.ret ?_ | refine AWP.exit ?_ | refine AWP.block ?_)
    | (with_reducible refine AWP.cond rfl ?_ ?_ <;> intro hc <;> (try simp only [hcs, beq_iff_eq, ge_iff_le, gt_iff_lt] at hc))
    | ((first
      | (with_reducible first | refine AWP.region tabOk ?_ | refine AWP.quietC mixed tabOk (by decide +kernel) ?_ | refine AWP.draw mixed tabOk (by decide +kernel) ?_ | refine AWP.drawE mixed tabOk (by decide +kernel) ?_ | refine AWP.drawG mixed tabOk (by decide +kernel) ?_); intro K hK); ((try simp (disch := omega) only [go_sem, wrap_n]) <;> (repeat' with_reducible refine And.intro ?_ ?_) <;> (try (with_reducible refine hK _ ?_; clear hK K))))
    | ((first | (with_reducible refine aunder_i ?_ ?_ <;> intro hg) | with_reducible intro hg) <;> (first | (exfalso; simp at hg; done) | (have hg' := hg; (try simp only [hcs, beq_iff_eq, ge_iff_le, gt_iff_lt] at hg'); ((try simp (disch := omega) only [hg, go_sem, wrap_n]) <;> (repeat' with_reducible refine And.intro ?_ ?_) <;> (try (with_reducible refine hK _ ?_; clear hK K))))))
                                                            | omega
  all_goals (refine aend_retc ?_ rfl ?_ ?_ ?_ ?_; (focus (first | exact .inl rfl | exact .inr rfl)); (iterate 3 (focus ((try simp (disch := omega) only [go_sem, wrap_n]) <;> (try omega) <;> fail))); (try simp (disch := omega) only [go_sem, wrap_n, I, B, S, inj, List.cons.injEq, and_true, true_and, and_self]))
theorem same_disk_c (a b : ADisk) (h : a.files.length * 48 ≤ 140737488351232) (h2 : b.files.length * 48 ≤ 140737488351232) : acall Tryd.prog [] 17 [a.av, b.av] (ret (B (decide (a = b)))) := by
  refine acall_of tabOk Tryd.func17 rfl (by kernel_rfl) (by simp [Tryd.ntmps17]) ?_; simp only [Tryd.ntmps17, Tryd.results17, List.toList_toArray, apar, List.length_nil, List.length_cons, Nat.reduceAdd]
  repeat' first
    | (with_reducible first | refine AWP.seq ?_ | refine thenA_n ?_ | refine thenA_r ?_ | refine thenA_e ?_ | refine blkA_n ?_ | refine blkA_r ?_ | refine blkA_e ?_ | refine blkA_x (by decide) ?_ | refine AWP.skip ?_ | refine AWP.ret ?_ | refine AWP.exit ?_ | refine AWP.block ?_)
    | (with_reducible refine AWP.cond rfl ?_ ?_ <;> intro hc <;> (try simp only [hcs, beq_iff_eq, ge_iff_le, gt_iff_lt] at hc))
    | ((first
      | (with_reducible first | refine AWP.region tabOk ?_ | refine AWP.quietC mixed tabOk (by decide +kernel) ?_ | refine AWP.draw mixed tabOk (by decide +kernel) ?_ | refine AWP.drawE mixed tabOk (by decide +kernel) ?_ | refine AWP.drawG mixed tabOk (by decide +kernel) ?_); intro K hK); ((try simp (disch := omega) only [go_sem, wrap_n]) <;> (repeat' with_reducible refine And.intro ?_ ?_) <;> (try (with_reducible refine hK _ ?_; clear hK K))))
    | ((first | (with_reducible refine aunder_i ?_ ?_ <;> intro hg) | with_reducible intro hg) <;> (first | (exfalso; simp at hg; done) | (have hg' := hg; (try simp only [hcs, beq_iff_eq, ge_iff_le, gt_iff_lt] at hg'); ((try simp (disch := omega) only [hg, go_sem, wrap_n]) <;> (repeat' with_reducible refine And.intro ?_ ?_) <;> (try (with_reducible refine hK _ ?_; clear hK K))))))
                                                            | omega
  · (refine aend_retc ?_ rfl ?_ ?_ ?_ ?_; (focus (first | exact .inl rfl | exact .inr rfl)); (iterate 3 (focus ((try simp (disch := omega) only [go_sem, wrap_n]) <;> (try omega) <;> fail))); (try simp (disch := omega) only [go_sem, wrap_n, I, B, S, inj, List.cons.injEq, and_true, true_and, and_self]))
    symm; rw [decide_eq_false_iff_not]; intro e; subst e; simp at hc
  have h3 := hc
  refine AWP.loopS (ι := Nat) (fun k => k ≤ a.files.length ∧ ∀ j, j < k → a.files.getD j default = b.files.getD j default) (fun k => a.files.length - k) [2, 3, 15] (fun k => [(16, I k)]) 0 ?_ (by simp (disch := omega) only [go_sem, wrap_n, true_and]) ?_
  · exact ⟨by omega, by omega⟩
  intro k ⟨hk, hk2⟩
  simp only [go_sem]
  repeat' first
    | (with_reducible first | refine AWP.seq ?_ | refine thenA_n ?_ | refine thenA_r ?_ | refine thenA_e ?_ | refine blkA_n ?_ | refine blkA_r ?_ | refine blkA_e ?_ | refine blkA_x (by decide) ?_ | refine AWP.skip ?_ | refine AWP.ret ?_ | refine AWP.exit ?_ | refine AWP.block ?_)
    | (with_reducible refine AWP.cond rfl ?_ ?_ <;> intro hc <;> (try simp only [hcs, beq_iff_eq, ge_iff_le, gt_iff_lt] at hc))
    | ((first
      | (with_reducible first | refine AWP.region tabOk ?_ | refine AWP.quietC mixed tabOk (by decide +kernel) ?_ | refine AWP.draw mixed tabOk (by decide +kernel) ?_ | refine AWP.drawE mixed tabOk (by decide +kernel) ?_ | refine AWP.drawG mixed tabOk (by decide +kernel) ?_); intro K hK); ((try simp (disch := omega) only [go_sem, wrap_n]) <;> (repeat' with_reducible refine And.intro ?_ ?_) <;> (try (with_reducible refine hK _ ?_; clear hK K))))
    | ((first | (with_reducible refine aunder_i ?_ ?_ <;> intro hg) | with_reducible intro hg) <;> (first | (exfalso; simp at hg; done) | (have hg' := hg; (try simp only [hcs, beq_iff_eq, ge_iff_le, gt_iff_lt] at hg'); ((try simp (disch := omega) only [hg, go_sem, wrap_n]) <;> (repeat' with_reducible refine And.intro ?_ ?_) <;> (try (with_reducible refine hK _ ?_; clear hK K))))))
                                                            | omega
  · (refine aend_retc ?_ rfl ?_ ?_ ?_ ?_; (focus (first | exact .inl rfl | exact .inr rfl)); (iterate 3 (focus ((try simp (disch := omega) only [go_sem, wrap_n]) <;> (try omega) <;> fail))); (try simp (disch := omega) only [go_sem, wrap_n, I, B, S, inj, List.cons.injEq, and_true, true_and, and_self]))
    symm; rw [decide_eq_false_iff_not]; intro e; subst e; simp at hc
  · refine ⟨k + 1, ⟨by omega, fun j hj => ?_⟩, by omega, ?_⟩
    · by_cases e : j = k
      · subst e; exact hc
      · exact hk2 j (by omega)
    (refine SImp.same ?_; simp (disch := omega) only [go_sem, wrap_n, Int.natCast_add])
  · (refine aend_retc ?_ rfl ?_ ?_ ?_ ?_; (focus (first | exact .inl rfl | exact .inr rfl)); (iterate 3 (focus ((try simp (disch := omega) only [go_sem, wrap_n]) <;> (try omega) <;> fail))); (try simp (disch := omega) only [go_sem, wrap_n, I, B, S, inj, List.cons.injEq, and_true, true_and, and_self]))
    symm; rw [decide_eq_true_eq, ADisk.ext_iff]
    exact eq_of_getD (by omega) fun j hj => hk2 j (by omega)
def readD (l : List AFile) (key : List UInt8) : List UInt8 × Int :=
  if goodD l = false then ([], 3) else if key ∈ l.map AFile.name then ((l.getD (place (l.map AFile.name) key) default).safe ++ (l.getD (place (l.map AFile.name) key) default).tail, 0) else ([], 7)
theorem read_c (d : ADisk) (key : List UInt8) (h : d.files.length * 48 ≤ 140737488351232) (hw : ∀ f, f ∈ d.files → f.wf) : acall Tryd.prog [] 69 [d.av, S key] (ret (.tup [S (readD d.files key).1, I (readD d.files key).2])) := by
  obtain ⟨w0, w1, w2, w3⟩ := file_wf hw (place (d.files.map AFile.name) key)
  refine acall_of tabOk Tryd.func69 rfl (by kernel_rfl) (by simp [Tryd.ntmps69]) ?_; simp only [Tryd.ntmps69, Tryd.results69, List.toList_toArray, apar, List.length_nil, List.length_cons, Nat.reduceAdd]
  repeat' first
    | (with_reducible first | refine AWP.seq ?_ | refine thenA_n ?_ | refine thenA_r ?_ | refine thenA_e ?_ | refine blkA_n ?_ | refine blkA_r ?_ | refine blkA_e ?_ | refine blkA_x (by decide) ?_ | refine AWP.skip ?_ | refine AWP.ret ?_ | refine AWP.exit ?_ | refine AWP.block ?_)
    | (with_reducible refine AWP.cond rfl ?_ ?_ <;> intro hc <;> (try simp only [hcs, beq_iff_eq, ge_iff_le, gt_iff_lt] at hc))
    | ((first
      | (with_reducible first | refine AWP.region tabOk ?_ | refine AWP.quietC mixed tabOk (by decide +kernel) ?_ | refine AWP.draw mixed tabOk (by decide +kernel) ?_ | refine AWP.drawE mixed tabOk (by decide +kernel) ?_ | refine AWP.drawG mixed tabOk (by decide +kernel) ?_); intro K hK
      | ((first | refine acallH_sc (good_d_c d h hw) rfl rfl ?_ ?_ ?_ | refine acallQ_sc (good_d_c d h hw) rfl rfl ?_ ?_ ?_ | refine acallH_sc (find_c d key h (by assumption)) rfl rfl ?_ ?_ ?_ | refine acallQ_sc (find_c d key h (by assumption)) rfl rfl ?_ ?_ ?_); iterate 2 (focus ((try simp (disch := omega) only [go_sem, wrap_n]) <;> (try omega) <;> fail)))
      | ((first | refine acallH_anyr (good_d_c d h hw) rfl ?_ ?_ | refine acallH_anyr (find_c d key h (by assumption)) rfl ?_ ?_); (focus ((try simp (disch := omega) only [go_sem, wrap_n]) <;> (try omega) <;> fail)))
      | ((first | refine acallH_scx (good_d_c d h hw) rfl ?_ ?_ | refine acallQ_scx (good_d_c d h hw) rfl ?_ ?_ | refine acallH_anyx (good_d_c d h hw) ?_ ?_); (focus ((try simp (disch := omega) only [go_sem, wrap_n]) <;> (try omega) <;> fail)))
      | ((first | refine acallH_scx (find_c d key h (by assumption)) rfl ?_ ?_ | refine acallQ_scx (find_c d key h (by assumption)) rfl ?_ ?_ | refine acallH_anyx (find_c d key h (by assumption)) ?_ ?_); (focus ((try simp (disch := omega) only [go_sem, wrap_n]) <;> (try omega) <;> fail)))); ((try simp (disch := omega) only [go_sem, wrap_n]) <;> (repeat' with_reducible refine And.intro ?_ ?_) <;> (try (with_reducible refine hK _ ?_; clear hK K))))
    | ((first | (with_reducible refine aunder_i ?_ ?_ <;> intro hg) | with_reducible intro hg) <;> (first | (exfalso; simp at hg; done) | (have hg' := hg; (try simp only [hcs, beq_iff_eq, ge_iff_le, gt_iff_lt] at hg'); ((try simp (disch := omega) only [hg, go_sem, wrap_n]) <;> (repeat' with_reducible refine And.intro ?_ ?_) <;> (try (with_reducible refine hK _ ?_; clear hK K))))))
                                                            | omega
  all_goals (try unfold readD)
  · rw [if_pos hc]; (refine aend_retc ?_ rfl ?_ ?_ ?_ ?_; (focus (first | exact .inl rfl | exact .inr rfl)); (iterate 3 (focus ((try simp (disch := omega) only [go_sem, wrap_n]) <;> (try omega) <;> fail))); (try simp (disch := omega) only [go_sem, wrap_n, I, B, S, inj, List.cons.injEq, and_true, true_and, and_self]))
  · rw [if_neg (by simp [*]), if_neg hc]; (refine aend_retc ?_ rfl ?_ ?_ ?_ ?_; (focus (first | exact .inl rfl | exact .inr rfl)); (iterate 3 (focus ((try simp (disch := omega) only [go_sem, wrap_n]) <;> (try omega) <;> fail))); (try simp (disch := omega) only [go_sem, wrap_n, I, B, S, inj, List.cons.injEq, and_true, true_and, and_self]))
  · have := (place_found (goodD_rises (by assumption)) hc).1; simp at this; omega
  · have := (place_found (goodD_rises (by assumption)) hc).1; simp at this; omega
  · rw [if_neg (by simp [*]), if_pos hc]; (refine aend_retc ?_ rfl ?_ ?_ ?_ ?_; (focus (first | exact .inl rfl | exact .inr rfl)); (iterate 3 (focus ((try simp (disch := omega) only [go_sem, wrap_n]) <;> (try omega) <;> fail))); (try simp (disch := omega) only [go_sem, wrap_n, I, B, S, inj, List.cons.injEq, and_true, true_and, and_self]))
theorem fileI_neg {l : List AFile} {key : List UInt8} (h : fileI l key < 0) : ¬ key ∈ l.map AFile.name := by
  unfold fileI at h; split at h
  · omega
  · assumption
theorem fileI_pos {l : List AFile} {key : List UInt8} (h : 0 ≤ fileI l key) : key ∈ l.map AFile.name ∧ fileI l key = (place (l.map AFile.name) key : Nat) := by
  unfold fileI at h ⊢; split at h
  · rename_i e; rw [if_pos e]; exact ⟨e, rfl⟩
  · omega
theorem fileI_lt {l : List AFile} {key : List UInt8} (hr : goodD l = true) (h : 0 ≤ fileI l key) : fileI l key < l.length := by
  obtain ⟨a, b⟩ := fileI_pos h
  have := (place_found (goodD_rises hr) a).1
  simp at this; omega
theorem ref_read_c (d : ADisk) (key : List UInt8) (h : d.files.length * 48 ≤ 140737488351232) (hw : ∀ f, f ∈ d.files → f.wf) : acall Tryd.prog [] 72 [d.av, S key] (ret (.tup [S (readD d.files key).1, I (readD d.files key).2])) := by
  refine acall_of tabOk Tryd.func72 rfl (by kernel_rfl) (by simp [Tryd.ntmps72]) ?_; simp only [Tryd.ntmps72, Tryd.results72, List.toList_toArray, apar, List.length_nil, List.length_cons, Nat.reduceAdd]
  repeat' first
    | (with_reducible first | refine AWP.seq ?_ | refine thenA_n ?_ | refine thenA_r ?_ | refine thenA_e ?_ | refine blkA_n ?_ | refine blkA_r ?_ | refine blkA_e ?_ | refine blkA_x (by decide) ?_ | refine AWP.skip ?_ | refine AWP.ret ?_ | refine AWP.exit ?_ | refine AWP.block ?_)
    | (with_reducible refine AWP.cond rfl ?_ ?_ <;> intro hc <;> (try simp only [hcs, beq_iff_eq, ge_iff_le, gt_iff_lt] at hc))
    | ((first
      | (with_reducible first | refine AWP.region tabOk ?_ | refine AWP.quietC mixed tabOk (by decide +kernel) ?_ | refine AWP.draw mixed tabOk (by decide +kernel) ?_ | refine AWP.drawE mixed tabOk (by decide +kernel) ?_ | refine AWP.drawG mixed tabOk (by decide +kernel) ?_); intro K hK
      | ((first | refine acallH_sc (ref_good_d_c d h hw) rfl rfl ?_ ?_ ?_ | refine acallQ_sc (ref_good_d_c d h hw) rfl rfl ?_ ?_ ?_ | refine acallH_sc (file_c d key h (by assumption)) rfl rfl ?_ ?_ ?_ | refine acallQ_sc (file_c d key h (by assumption)) rfl rfl ?_ ?_ ?_); iterate 2 (focus ((try simp (disch := omega) only [go_sem, wrap_n]) <;> (try omega) <;> fail)))
      | ((first | refine acallH_anyr (ref_good_d_c d h hw) rfl ?_ ?_ | refine acallH_anyr (file_c d key h (by assumption)) rfl ?_ ?_); (focus ((try simp (disch := omega) only [go_sem, wrap_n]) <;> (try omega) <;> fail)))
      | ((first | refine acallH_scx (ref_good_d_c d h hw) rfl ?_ ?_ | refine acallQ_scx (ref_good_d_c d h hw) rfl ?_ ?_ | refine acallH_anyx (ref_good_d_c d h hw) ?_ ?_); (focus ((try simp (disch := omega) only [go_sem, wrap_n]) <;> (try omega) <;> fail)))
      | ((first | refine acallH_scx (file_c d key h (by assumption)) rfl ?_ ?_ | refine acallQ_scx (file_c d key h (by assumption)) rfl ?_ ?_ | refine acallH_anyx (file_c d key h (by assumption)) ?_ ?_); (focus ((try simp (disch := omega) only [go_sem, wrap_n]) <;> (try omega) <;> fail)))); ((try simp (disch := omega) only [go_sem, wrap_n]) <;> (repeat' with_reducible refine And.intro ?_ ?_) <;> (try (with_reducible refine hK _ ?_; clear hK K))))
    | ((first | (with_reducible refine aunder_i ?_ ?_ <;> intro hg) | with_reducible intro hg) <;> (first | (exfalso; simp at hg; done) | (have hg' := hg; (try simp only [hcs, beq_iff_eq, ge_iff_le, gt_iff_lt] at hg'); ((try simp (disch := omega) only [hg, go_sem, wrap_n]) <;> (repeat' with_reducible refine And.intro ?_ ?_) <;> (try (with_reducible refine hK _ ?_; clear hK K))))))
                                                            | omega
  · unfold readD; rw [if_pos hc]; (refine aend_retc ?_ rfl ?_ ?_ ?_ ?_; (focus (first | exact .inl rfl | exact .inr rfl)); (iterate 3 (focus ((try simp (disch := omega) only [go_sem, wrap_n]) <;> (try omega) <;> fail))); (try simp (disch := omega) only [go_sem, wrap_n, I, B, S, inj, List.cons.injEq, and_true, true_and, and_self]))
  · unfold readD; rw [if_neg (by simp [*]), if_neg (fileI_neg hc)]; (refine aend_retc ?_ rfl ?_ ?_ ?_ ?_; (focus (first | exact .inl rfl | exact .inr rfl)); (iterate 3 (focus ((try simp (disch := omega) only [go_sem, wrap_n]) <;> (try omega) <;> fail))); (try simp (disch := omega) only [go_sem, wrap_n, I, B, S, inj, List.cons.injEq, and_true, true_and, and_self]))
  · exact fileI_lt (by assumption) hc
  · exact fileI_lt (by assumption) hc
  · obtain ⟨w0, w1, w2, w3⟩ := file_wf hw (fileI d.files key).toNat; omega
  · have e := fileI_pos hc
    unfold readD; rw [if_neg (by simp [*]), if_pos e.1]
    rw [e.2]; (refine aend_retc ?_ rfl ?_ ?_ ?_ ?_; (focus (first | exact .inl rfl | exact .inr rfl)); (iterate 3 (focus ((try simp (disch := omega) only [go_sem, wrap_n]) <;> (try omega) <;> fail))); (try simp (disch := omega) only [go_sem, wrap_n, I, B, S, inj, List.cons.injEq, and_true, true_and, and_self]))
def changeD (l : List AFile) (key : List UInt8) (F : AFile → AFile × Int) : ADisk × Int :=
  if goodD l = false then (default, 3) else if key ∈ l.map AFile.name then
    (if (F (l.getD (place (l.map AFile.name) key) default)).2 = 0 then (⟨l.set (place (l.map AFile.name) key) (F (l.getD (place (l.map AFile.name) key) default)).1⟩, 0) else (default, (F (l.getD (place (l.map AFile.name) key) default)).2)) else (default, 7)
def cutF (n : Int) (f : AFile) : AFile × Int := if n < 0 ∨ (f.safe.length : Int) + f.tail.length < n then (default, 3) else (⟨f.name, (f.safe ++ f.tail).take n.toNat, []⟩, 0)
theorem change_bad {l : List AFile} {key : List UInt8} {F : AFile → AFile × Int} (h : ¬ goodD l = true) : changeD l key F = (default, 3) := by unfold changeD; rw [if_pos (by simpa using h)]
theorem change_none {l : List AFile} {key : List UInt8} {F : AFile → AFile × Int} (h : goodD l = true) (h2 : ¬ key ∈ l.map AFile.name) : changeD l key F = (default, 7) := by unfold changeD; rw [if_neg (by simp [h]), if_neg h2]
theorem change_err {l : List AFile} {key : List UInt8} {F : AFile → AFile × Int} (h : goodD l = true) (h2 : key ∈ l.map AFile.name) (h3 : ¬ (F (l.getD (place (l.map AFile.name) key) default)).2 = 0) :
    changeD l key F = (default, (F (l.getD (place (l.map AFile.name) key) default)).2) := by unfold changeD; rw [if_neg (by simp [h]), if_pos h2, if_neg h3]
theorem change_ok {l : List AFile} {key : List UInt8} {F : AFile → AFile × Int} (h : goodD l = true) (h2 : key ∈ l.map AFile.name) (h3 : (F (l.getD (place (l.map AFile.name) key) default)).2 = 0) :
    changeD l key F = (⟨l.set (place (l.map AFile.name) key) (F (l.getD (place (l.map AFile.name) key) default)).1⟩, 0) := by unfold changeD; rw [if_neg (by simp [h]), if_pos h2, if_pos h3]
theorem place_lt {l : List AFile} {key : List UInt8} (h : goodD l = true) (h2 : key ∈ l.map AFile.name) : place (l.map AFile.name) key < l.length := by
  have := (place_found (goodD_rises h) h2).1; simpa using this
theorem ref_copied_o_c (d : ADisk) (h : d.files.length * 48 ≤ 140737488351232) : acall Tryd.prog [] 15 [d.av] (outs (.agg [.osl 0 3 0 d.files.length]) [.rows 3 (d.files.map AFile.row)]) := by
  refine acall_of tabOk Tryd.func15 rfl (by kernel_rfl) (by simp [Tryd.ntmps15]) ?_; simp only [Tryd.ntmps15, Tryd.results15, List.toList_toArray, apar, List.length_nil, List.length_cons, Nat.reduceAdd]
  repeat' first
    | (with_reducible first | refine AWP.seq ?_ | refine thenA_n ?_ | refine thenA_r ?_ | refine thenA_e ?_ | refine blkA_n ?_ | refine blkA_r ?_ | refine blkA_e ?_ | refine blkA_x (by decide) ?_ | refine AWP.skip ?_ | refine AWP.ret ?_ | refine AWP.exit ?_ | refine AWP.block ?_)
    | (with_reducible refine AWP.cond rfl ?_ ?_ <;> intro hc <;> (try simp only [hcs, beq_iff_eq, ge_iff_le, gt_iff_lt] at hc))
    | ((first
      | (with_reducible first | refine AWP.region tabOk ?_ | refine AWP.quietC mixed tabOk (by decide +kernel) ?_ | refine AWP.draw mixed tabOk (by decide +kernel) ?_ | refine AWP.drawE mixed tabOk (by decide +kernel) ?_ | refine AWP.drawG mixed tabOk (by decide +kernel) ?_); intro K hK); ((try simp (disch := omega) only [go_sem, wrap_n]) <;> (repeat' with_reducible refine And.intro ?_ ?_) <;> (try (with_reducible refine hK _ ?_; clear hK K))))
    | ((first | (with_reducible refine aunder_i ?_ ?_ <;> intro hg) | with_reducible intro hg) <;> (first | (exfalso; simp at hg; done) | (have hg' := hg; (try simp only [hcs, beq_iff_eq, ge_iff_le, gt_iff_lt] at hg'); ((try simp (disch := omega) only [hg, go_sem, wrap_n]) <;> (repeat' with_reducible refine And.intro ?_ ?_) <;> (try (with_reducible refine hK _ ?_; clear hK K))))))
                                                            | omega
  all_goals (refine aend_out (by first | exact .inl rfl | exact .inr rfl) ?_ ?_; (focus ((try simp (disch := omega) only [go_sem, wrap_n]) <;> fail)); simp (disch := omega) only [go_sem, wrap_n, true_and]; refine AOut.of_simp ?_ (AOut.same ⟨rfl, rfl⟩); refine SImp.frame [2] rfl (by intro k hk; first | (simp at hk <;> (simp; omega)) | (simp only [List.mem_cons, List.not_mem_nil, or_false] at hk; simp only [List.length_cons, List.length_nil]; omega)) (by decide) (fun k hk => by first | omega | (rcases k with _ | _ | _ | _ | k <;> first | rfl | omega)) ?_ ?_ <;> simp (disch := omega) only [go_sem, wrap_n, true_or, or_true, true_and])
theorem fileI_no {l : List AFile} {key : List UInt8} (h : ¬ key ∈ l.map AFile.name) : fileI l key = -1 := by unfold fileI; rw [if_neg h]
theorem fileI_yes {l : List AFile} {key : List UInt8} (h : key ∈ l.map AFile.name) : fileI l key = (place (l.map AFile.name) key : Nat) := by unfold fileI; rw [if_pos h]
theorem cut_c (d : ADisk) (key : List UInt8) (n : Int) (h : d.files.length * 48 ≤ 140737488351232) (hw : ∀ f, f ∈ d.files → f.wf) : acall Tryd.prog [] 71 [d.av, S key, I n] (ret (.tup [(changeD d.files key (cutF n)).1.av, I (changeD d.files key (cutF n)).2])) := by
  obtain ⟨w0, w1, w2, w3⟩ := file_wf hw (place (d.files.map AFile.name) key)
  by_cases hg : goodD d.files = true
  · by_cases hm : key ∈ d.files.map AFile.name
    · have hpl := place_lt hg hm
      by_cases hn : n < 0 ∨ ((d.files.getD (place (d.files.map AFile.name) key) default).safe.length : Int) + (d.files.getD (place (d.files.map AFile.name) key) default).tail.length < n
      · have e : cutF n (d.files.getD (place (d.files.map AFile.name) key) default) = (default, 3) := by unfold cutF; rw [if_pos hn]
        rw [change_err hg hm (by rw [e]; decide), e]
        refine acall_of tabOk Tryd.func71 rfl (by kernel_rfl) (by simp [Tryd.ntmps71]) ?_; simp only [Tryd.ntmps71, Tryd.results71, List.toList_toArray, apar, List.length_nil, List.length_cons, Nat.reduceAdd]
        repeat' first
          | (with_reducible first | refine AWP.seq ?_ | refine thenA_n ?_ | refine thenA_r ?_ | refine thenA_e ?_ | refine blkA_n ?_ | refine blkA_r ?_ | refine blkA_e ?_ | refine blkA_x (by decide) ?_ | refine AWP.skip ?_ | refine AWP.ret ?_ | refine AWP.exit ?_ | refine AWP.block ?_)
          | (with_reducible refine AWP.cond rfl ?_ ?_ <;> intro hc <;> (try simp only [hcs, beq_iff_eq, ge_iff_le, gt_iff_lt] at hc))
          | ((first
            | (with_reducible first | refine AWP.region tabOk ?_ | refine AWP.quietC mixed tabOk (by decide +kernel) ?_ | refine AWP.draw mixed tabOk (by decide +kernel) ?_ | refine AWP.drawE mixed tabOk (by decide +kernel) ?_ | refine AWP.drawG mixed tabOk (by decide +kernel) ?_); intro K hK
            | ((first | refine acallH_sc ((good_d_c d h hw).re (by rw [hg])) rfl rfl ?_ ?_ ?_ | refine acallQ_sc ((good_d_c d h hw).re (by rw [hg])) rfl rfl ?_ ?_ ?_ | refine acallH_sc ((find_c d key h hg).re (by rw [decide_eq_true hm])) rfl rfl ?_ ?_ ?_ | refine acallQ_sc ((find_c d key h hg).re (by rw [decide_eq_true hm])) rfl rfl ?_ ?_ ?_ | refine acallH_sc (copied_d_c d h) rfl rfl ?_ ?_ ?_ | refine acallQ_sc (copied_d_c d h) rfl rfl ?_ ?_ ?_); iterate 2 (focus ((try simp (disch := omega) only [go_sem, wrap_n, AFile.rgetD, getD_set, AFile.rset, getD_mapset, List.set_set]) <;> (try omega) <;> fail)))
            | ((first | refine acallH_anyr ((good_d_c d h hw).re (by rw [hg])) rfl ?_ ?_ | refine acallH_anyr ((find_c d key h hg).re (by rw [decide_eq_true hm])) rfl ?_ ?_ | refine acallH_anyr (copied_d_c d h) rfl ?_ ?_); (focus ((try simp (disch := omega) only [go_sem, wrap_n, AFile.rgetD, getD_set, AFile.rset, getD_mapset, List.set_set]) <;> (try omega) <;> fail)))
            | ((first | refine acallH_scx ((good_d_c d h hw).re (by rw [hg])) rfl ?_ ?_ | refine acallQ_scx ((good_d_c d h hw).re (by rw [hg])) rfl ?_ ?_ | refine acallH_anyx ((good_d_c d h hw).re (by rw [hg])) ?_ ?_); (focus ((try simp (disch := omega) only [go_sem, wrap_n, AFile.rgetD, getD_set, AFile.rset, getD_mapset, List.set_set]) <;> (try omega) <;> fail)))
            | ((first | refine acallH_scx ((find_c d key h hg).re (by rw [decide_eq_true hm])) rfl ?_ ?_ | refine acallQ_scx ((find_c d key h hg).re (by rw [decide_eq_true hm])) rfl ?_ ?_ | refine acallH_anyx ((find_c d key h hg).re (by rw [decide_eq_true hm])) ?_ ?_); (focus ((try simp (disch := omega) only [go_sem, wrap_n, AFile.rgetD, getD_set, AFile.rset, getD_mapset, List.set_set]) <;> (try omega) <;> fail)))
            | ((first | refine acallH_scx (copied_d_c d h) rfl ?_ ?_ | refine acallQ_scx (copied_d_c d h) rfl ?_ ?_ | refine acallH_anyx (copied_d_c d h) ?_ ?_); (focus ((try simp (disch := omega) only [go_sem, wrap_n, AFile.rgetD, getD_set, AFile.rset, getD_mapset, List.set_set]) <;> (try omega) <;> fail)))); ((try simp (disch := omega) only [go_sem, wrap_n, AFile.rgetD, getD_set, AFile.rset, getD_mapset, List.set_set]) <;> (repeat' with_reducible refine And.intro ?_ ?_) <;> (try (with_reducible refine hK _ ?_; clear hK K))))
          | (refine acallHK_in fun Kk hKk => (acall_of tabOk Tryd.func129 rfl (by kernel_rfl) (by simp [Tryd.ntmps129]) ?_); simp only [Tryd.ntmps129, Tryd.results129, List.toList_toArray, apar, List.length_nil, List.length_cons, Nat.reduceAdd, List.length_append, List.length_set, go_sem])
          | (refine acallHK_in fun Kk hKk => (acall_of tabOk Tryd.func135 rfl (by kernel_rfl) (by simp [Tryd.ntmps135]) ?_); simp only [Tryd.ntmps135, Tryd.results135, List.toList_toArray, apar, List.length_nil, List.length_cons, Nat.reduceAdd, List.length_append, List.length_set, go_sem])
          | (refine aend_in (v := ?_) hKk (by first | exact .inl rfl | exact .inr rfl) ?_ ?_ ?_; rotate_left; (focus ((try simp (disch := omega) only [go_sem, wrap_n, AFile.rgetD, getD_set, AFile.rset, getD_mapset, List.set_set]) <;> (try omega) <;> fail)); (focus ((try simp (disch := omega) only [go_sem, wrap_n, AFile.rgetD, getD_set, AFile.rset, getD_mapset, List.set_set]) <;> (first | done | exact rfl))); clear hKk Kk; ((try simp (disch := omega) only [go_sem, wrap_n, AFile.rgetD, getD_set, AFile.rset, getD_mapset, List.set_set]) <;> (repeat' with_reducible refine And.intro ?_ ?_) <;> (try (with_reducible refine hK _ ?_; clear hK K))))
          | ((first | (with_reducible refine aunder_i ?_ ?_ <;> intro hg) | with_reducible intro hg) <;> (first | (exfalso; simp at hg; done) | (have hg' := hg; (try simp only [hcs, beq_iff_eq, ge_iff_le, gt_iff_lt] at hg'); ((try simp (disch := omega) only [hg, go_sem, wrap_n, AFile.rgetD, getD_set, AFile.rset, getD_mapset, List.set_set]) <;> (repeat' with_reducible refine And.intro ?_ ?_) <;> (try (with_reducible refine hK _ ?_; clear hK K))))))
                                                                  | omega
        all_goals first | omega | skip
        all_goals (refine aend_retc ?_ rfl ?_ ?_ ?_ ?_; (focus (first | exact .inl rfl | exact .inr rfl)); (iterate 3 (focus ((try simp (disch := omega) only [go_sem, wrap_n, default]) <;> (try omega) <;> fail))); (try simp (disch := omega) only [go_sem, wrap_n, default, I, B, S, inj, List.cons.injEq, and_true, true_and, and_self]))
      · have e : cutF n (d.files.getD (place (d.files.map AFile.name) key) default) = (⟨(d.files.getD (place (d.files.map AFile.name) key) default).name, ((d.files.getD (place (d.files.map AFile.name) key) default).safe ++ (d.files.getD (place (d.files.map AFile.name) key) default).tail).take n.toNat, []⟩, 0) := by unfold cutF; rw [if_neg hn]
        rw [change_ok hg hm (by rw [e]), e]
        refine acall_of tabOk Tryd.func71 rfl (by kernel_rfl) (by simp [Tryd.ntmps71]) ?_; simp only [Tryd.ntmps71, Tryd.results71, List.toList_toArray, apar, List.length_nil, List.length_cons, Nat.reduceAdd]
        repeat' first
          | (with_reducible first | refine AWP.seq ?_ | refine thenA_n ?_ | refine thenA_r ?_ | refine thenA_e ?_ | refine blkA_n ?_ | refine blkA_r ?_ | refine blkA_e ?_ | refine blkA_x (by decide) ?_ | refine AWP.skip ?_ | refine AWP.ret ?_ | refine AWP.exit ?_ | refine AWP.block ?_)
          | (with_reducible refine AWP.cond rfl ?_ ?_ <;> intro hc <;> (try simp only [hcs, beq_iff_eq, ge_iff_le, gt_iff_lt] at hc))
          | ((first
            | (with_reducible first | refine AWP.region tabOk ?_ | refine AWP.quietC mixed tabOk (by decide +kernel) ?_ | refine AWP.draw mixed tabOk (by decide +kernel) ?_ | refine AWP.drawE mixed tabOk (by decide +kernel) ?_ | refine AWP.drawG mixed tabOk (by decide +kernel) ?_); intro K hK
            | ((first | refine acallH_sc ((good_d_c d h hw).re (by rw [hg])) rfl rfl ?_ ?_ ?_ | refine acallQ_sc ((good_d_c d h hw).re (by rw [hg])) rfl rfl ?_ ?_ ?_ | refine acallH_sc ((find_c d key h hg).re (by rw [decide_eq_true hm])) rfl rfl ?_ ?_ ?_ | refine acallQ_sc ((find_c d key h hg).re (by rw [decide_eq_true hm])) rfl rfl ?_ ?_ ?_ | refine acallH_sc (copied_d_c d h) rfl rfl ?_ ?_ ?_ | refine acallQ_sc (copied_d_c d h) rfl rfl ?_ ?_ ?_); iterate 2 (focus ((try simp (disch := omega) only [go_sem, wrap_n, AFile.rgetD, getD_set, AFile.rset, getD_mapset, List.set_set]) <;> (try omega) <;> fail)))
            | ((first | refine acallH_anyr ((good_d_c d h hw).re (by rw [hg])) rfl ?_ ?_ | refine acallH_anyr ((find_c d key h hg).re (by rw [decide_eq_true hm])) rfl ?_ ?_ | refine acallH_anyr (copied_d_c d h) rfl ?_ ?_); (focus ((try simp (disch := omega) only [go_sem, wrap_n, AFile.rgetD, getD_set, AFile.rset, getD_mapset, List.set_set]) <;> (try omega) <;> fail)))
            | ((first | refine acallH_scx ((good_d_c d h hw).re (by rw [hg])) rfl ?_ ?_ | refine acallQ_scx ((good_d_c d h hw).re (by rw [hg])) rfl ?_ ?_ | refine acallH_anyx ((good_d_c d h hw).re (by rw [hg])) ?_ ?_); (focus ((try simp (disch := omega) only [go_sem, wrap_n, AFile.rgetD, getD_set, AFile.rset, getD_mapset, List.set_set]) <;> (try omega) <;> fail)))
            | ((first | refine acallH_scx ((find_c d key h hg).re (by rw [decide_eq_true hm])) rfl ?_ ?_ | refine acallQ_scx ((find_c d key h hg).re (by rw [decide_eq_true hm])) rfl ?_ ?_ | refine acallH_anyx ((find_c d key h hg).re (by rw [decide_eq_true hm])) ?_ ?_); (focus ((try simp (disch := omega) only [go_sem, wrap_n, AFile.rgetD, getD_set, AFile.rset, getD_mapset, List.set_set]) <;> (try omega) <;> fail)))
            | ((first | refine acallH_scx (copied_d_c d h) rfl ?_ ?_ | refine acallQ_scx (copied_d_c d h) rfl ?_ ?_ | refine acallH_anyx (copied_d_c d h) ?_ ?_); (focus ((try simp (disch := omega) only [go_sem, wrap_n, AFile.rgetD, getD_set, AFile.rset, getD_mapset, List.set_set]) <;> (try omega) <;> fail)))); ((try simp (disch := omega) only [go_sem, wrap_n, AFile.rgetD, getD_set, AFile.rset, getD_mapset, List.set_set]) <;> (repeat' with_reducible refine And.intro ?_ ?_) <;> (try (with_reducible refine hK _ ?_; clear hK K))))
          | (refine acallHK_in fun Kk hKk => (acall_of tabOk Tryd.func129 rfl (by kernel_rfl) (by simp [Tryd.ntmps129]) ?_); simp only [Tryd.ntmps129, Tryd.results129, List.toList_toArray, apar, List.length_nil, List.length_cons, Nat.reduceAdd, List.length_append, List.length_set, go_sem])
          | (refine acallHK_in fun Kk hKk => (acall_of tabOk Tryd.func135 rfl (by kernel_rfl) (by simp [Tryd.ntmps135]) ?_); simp only [Tryd.ntmps135, Tryd.results135, List.toList_toArray, apar, List.length_nil, List.length_cons, Nat.reduceAdd, List.length_append, List.length_set, go_sem])
          | (refine aend_in (v := ?_) hKk (by first | exact .inl rfl | exact .inr rfl) ?_ ?_ ?_; rotate_left; (focus ((try simp (disch := omega) only [go_sem, wrap_n, AFile.rgetD, getD_set, AFile.rset, getD_mapset, List.set_set]) <;> (try omega) <;> fail)); (focus ((try simp (disch := omega) only [go_sem, wrap_n, AFile.rgetD, getD_set, AFile.rset, getD_mapset, List.set_set]) <;> (first | done | exact rfl))); clear hKk Kk; ((try simp (disch := omega) only [go_sem, wrap_n, AFile.rgetD, getD_set, AFile.rset, getD_mapset, List.set_set]) <;> (repeat' with_reducible refine And.intro ?_ ?_) <;> (try (with_reducible refine hK _ ?_; clear hK K))))
          | ((first | (with_reducible refine aunder_i ?_ ?_ <;> intro hg) | with_reducible intro hg) <;> (first | (exfalso; simp at hg; done) | (have hg' := hg; (try simp only [hcs, beq_iff_eq, ge_iff_le, gt_iff_lt] at hg'); ((try simp (disch := omega) only [hg, go_sem, wrap_n, AFile.rgetD, getD_set, AFile.rset, getD_mapset, List.set_set]) <;> (repeat' with_reducible refine And.intro ?_ ?_) <;> (try (with_reducible refine hK _ ?_; clear hK K))))))
                                                                  | omega
        all_goals first | omega | skip
        (refine aend_retc ?_ rfl ?_ ?_ ?_ ?_; (focus (first | exact .inl rfl | exact .inr rfl)); (iterate 3 (focus ((try simp (disch := omega) only [go_sem, wrap_n, take_map_set]) <;> (try omega) <;> fail))); (try simp (disch := omega) only [go_sem, wrap_n, take_map_set, I, B, S, inj, List.cons.injEq, and_true, true_and, and_self]))
        exact .inl rfl
    · rw [change_none hg hm]
      refine acall_of tabOk Tryd.func71 rfl (by kernel_rfl) (by simp [Tryd.ntmps71]) ?_; simp only [Tryd.ntmps71, Tryd.results71, List.toList_toArray, apar, List.length_nil, List.length_cons, Nat.reduceAdd]
      repeat' first
        | (with_reducible first | refine AWP.seq ?_ | refine thenA_n ?_ | refine thenA_r ?_ | refine thenA_e ?_ | refine blkA_n ?_ | refine blkA_r ?_ | refine blkA_e ?_ | refine blkA_x (by decide) ?_ | refine AWP.skip ?_ | refine AWP.ret ?_ | refine AWP.exit ?_ | refine AWP.block ?_)
        | (with_reducible refine AWP.cond rfl ?_ ?_ <;> intro hc <;> (try simp only [hcs, beq_iff_eq, ge_iff_le, gt_iff_lt] at hc))
        | ((first
          | (with_reducible first | refine AWP.region tabOk ?_ | refine AWP.quietC mixed tabOk (by decide +kernel) ?_ | refine AWP.draw mixed tabOk (by decide +kernel) ?_ | refine AWP.drawE mixed tabOk (by decide +kernel) ?_ | refine AWP.drawG mixed tabOk (by decide +kernel) ?_); intro K hK
          | ((first | refine acallH_sc ((good_d_c d h hw).re (by rw [hg])) rfl rfl ?_ ?_ ?_ | refine acallQ_sc ((good_d_c d h hw).re (by rw [hg])) rfl rfl ?_ ?_ ?_ | refine acallH_sc ((find_c d key h hg).re (by rw [decide_eq_false hm])) rfl rfl ?_ ?_ ?_ | refine acallQ_sc ((find_c d key h hg).re (by rw [decide_eq_false hm])) rfl rfl ?_ ?_ ?_); iterate 2 (focus ((try simp (disch := omega) only [go_sem, wrap_n]) <;> (try omega) <;> fail)))
          | ((first | refine acallH_anyr ((good_d_c d h hw).re (by rw [hg])) rfl ?_ ?_ | refine acallH_anyr ((find_c d key h hg).re (by rw [decide_eq_false hm])) rfl ?_ ?_); (focus ((try simp (disch := omega) only [go_sem, wrap_n]) <;> (try omega) <;> fail)))
          | ((first | refine acallH_scx ((good_d_c d h hw).re (by rw [hg])) rfl ?_ ?_ | refine acallQ_scx ((good_d_c d h hw).re (by rw [hg])) rfl ?_ ?_ | refine acallH_anyx ((good_d_c d h hw).re (by rw [hg])) ?_ ?_); (focus ((try simp (disch := omega) only [go_sem, wrap_n]) <;> (try omega) <;> fail)))
          | ((first | refine acallH_scx ((find_c d key h hg).re (by rw [decide_eq_false hm])) rfl ?_ ?_ | refine acallQ_scx ((find_c d key h hg).re (by rw [decide_eq_false hm])) rfl ?_ ?_ | refine acallH_anyx ((find_c d key h hg).re (by rw [decide_eq_false hm])) ?_ ?_); (focus ((try simp (disch := omega) only [go_sem, wrap_n]) <;> (try omega) <;> fail)))); ((try simp (disch := omega) only [go_sem, wrap_n]) <;> (repeat' with_reducible refine And.intro ?_ ?_) <;> (try (with_reducible refine hK _ ?_; clear hK K))))
        | (refine acallHK_in fun Kk hKk => (acall_of tabOk Tryd.func129 rfl (by kernel_rfl) (by simp [Tryd.ntmps129]) ?_); simp only [Tryd.ntmps129, Tryd.results129, List.toList_toArray, apar, List.length_nil, List.length_cons, Nat.reduceAdd, List.length_append, List.length_set, go_sem])
        | (refine acallHK_in fun Kk hKk => (acall_of tabOk Tryd.func135 rfl (by kernel_rfl) (by simp [Tryd.ntmps135]) ?_); simp only [Tryd.ntmps135, Tryd.results135, List.toList_toArray, apar, List.length_nil, List.length_cons, Nat.reduceAdd, List.length_append, List.length_set, go_sem])
        | (refine aend_in (v := ?_) hKk (by first | exact .inl rfl | exact .inr rfl) ?_ ?_ ?_; rotate_left; (focus ((try simp (disch := omega) only [go_sem, wrap_n]) <;> (try omega) <;> fail)); (focus ((try simp (disch := omega) only [go_sem, wrap_n]) <;> (first | done | exact rfl))); clear hKk Kk; ((try simp (disch := omega) only [go_sem, wrap_n]) <;> (repeat' with_reducible refine And.intro ?_ ?_) <;> (try (with_reducible refine hK _ ?_; clear hK K))))
        | ((first | (with_reducible refine aunder_i ?_ ?_ <;> intro hg) | with_reducible intro hg) <;> (first | (exfalso; simp at hg; done) | (have hg' := hg; (try simp only [hcs, beq_iff_eq, ge_iff_le, gt_iff_lt] at hg'); ((try simp (disch := omega) only [hg, go_sem, wrap_n]) <;> (repeat' with_reducible refine And.intro ?_ ?_) <;> (try (with_reducible refine hK _ ?_; clear hK K))))))
                                                                | omega
      (refine aend_retc ?_ rfl ?_ ?_ ?_ ?_; (focus (first | exact .inl rfl | exact .inr rfl)); (iterate 3 (focus ((try simp (disch := omega) only [go_sem, wrap_n, default]) <;> (try omega) <;> fail))); (try simp (disch := omega) only [go_sem, wrap_n, default, I, B, S, inj, List.cons.injEq, and_true, true_and, and_self]))
  · rw [change_bad hg]
    rw [Bool.not_eq_true] at hg
    refine acall_of tabOk Tryd.func71 rfl (by kernel_rfl) (by simp [Tryd.ntmps71]) ?_; simp only [Tryd.ntmps71, Tryd.results71, List.toList_toArray, apar, List.length_nil, List.length_cons, Nat.reduceAdd]
    repeat' first
      | (with_reducible first | refine AWP.seq ?_ | refine thenA_n ?_ | refine thenA_r ?_ | refine thenA_e ?_ | refine blkA_n ?_ | refine blkA_r ?_ | refine blkA_e ?_ | refine blkA_x (by decide) ?_ | refine AWP.skip ?_ | refine AWP.ret ?_ | refine AWP.exit ?_ | refine AWP.block ?_)
      | (with_reducible refine AWP.cond rfl ?_ ?_ <;> intro hc <;> (try simp only [hcs, beq_iff_eq, ge_iff_le, gt_iff_lt] at hc))
      | ((first
        | (with_reducible first | refine AWP.region tabOk ?_ | refine AWP.quietC mixed tabOk (by decide +kernel) ?_ | refine AWP.draw mixed tabOk (by decide +kernel) ?_ | refine AWP.drawE mixed tabOk (by decide +kernel) ?_ | refine AWP.drawG mixed tabOk (by decide +kernel) ?_); intro K hK
        | ((first | refine acallH_sc ((good_d_c d h hw).re (by rw [hg])) rfl rfl ?_ ?_ ?_ | refine acallQ_sc ((good_d_c d h hw).re (by rw [hg])) rfl rfl ?_ ?_ ?_); iterate 2 (focus ((try simp (disch := omega) only [go_sem, wrap_n]) <;> (try omega) <;> fail)))
        | ((first | refine acallH_anyr ((good_d_c d h hw).re (by rw [hg])) rfl ?_ ?_); (focus ((try simp (disch := omega) only [go_sem, wrap_n]) <;> (try omega) <;> fail)))
        | ((first | refine acallH_scx ((good_d_c d h hw).re (by rw [hg])) rfl ?_ ?_ | refine acallQ_scx ((good_d_c d h hw).re (by rw [hg])) rfl ?_ ?_ | refine acallH_anyx ((good_d_c d h hw).re (by rw [hg])) ?_ ?_); (focus ((try simp (disch := omega) only [go_sem, wrap_n]) <;> (try omega) <;> fail)))); ((try simp (disch := omega) only [go_sem, wrap_n]) <;> (repeat' with_reducible refine And.intro ?_ ?_) <;> (try (with_reducible refine hK _ ?_; clear hK K))))
      | (refine acallHK_in fun Kk hKk => (acall_of tabOk Tryd.func129 rfl (by kernel_rfl) (by simp [Tryd.ntmps129]) ?_); simp only [Tryd.ntmps129, Tryd.results129, List.toList_toArray, apar, List.length_nil, List.length_cons, Nat.reduceAdd, List.length_append, List.length_set, go_sem])
      | (refine acallHK_in fun Kk hKk => (acall_of tabOk Tryd.func135 rfl (by kernel_rfl) (by simp [Tryd.ntmps135]) ?_); simp only [Tryd.ntmps135, Tryd.results135, List.toList_toArray, apar, List.length_nil, List.length_cons, Nat.reduceAdd, List.length_append, List.length_set, go_sem])
      | (refine aend_in (v := ?_) hKk (by first | exact .inl rfl | exact .inr rfl) ?_ ?_ ?_; rotate_left; (focus ((try simp (disch := omega) only [go_sem, wrap_n]) <;> (try omega) <;> fail)); (focus ((try simp (disch := omega) only [go_sem, wrap_n]) <;> (first | done | exact rfl))); clear hKk Kk; ((try simp (disch := omega) only [go_sem, wrap_n]) <;> (repeat' with_reducible refine And.intro ?_ ?_) <;> (try (with_reducible refine hK _ ?_; clear hK K))))
      | ((first | (with_reducible refine aunder_i ?_ ?_ <;> intro hg) | with_reducible intro hg) <;> (first | (exfalso; simp at hg; done) | (have hg' := hg; (try simp only [hcs, beq_iff_eq, ge_iff_le, gt_iff_lt] at hg'); ((try simp (disch := omega) only [hg, go_sem, wrap_n]) <;> (repeat' with_reducible refine And.intro ?_ ?_) <;> (try (with_reducible refine hK _ ?_; clear hK K))))))
                                                              | omega
    (refine aend_retc ?_ rfl ?_ ?_ ?_ ?_; (focus (first | exact .inl rfl | exact .inr rfl)); (iterate 3 (focus ((try simp (disch := omega) only [go_sem, wrap_n, default]) <;> (try omega) <;> fail))); (try simp (disch := omega) only [go_sem, wrap_n, default, I, B, S, inj, List.cons.injEq, and_true, true_and, and_self]))
theorem ref_cut_c (d : ADisk) (key : List UInt8) (n : Int) (h : d.files.length * 48 ≤ 140737488351232) (hw : ∀ f, f ∈ d.files → f.wf) : acall Tryd.prog [] 74 [d.av, S key, I n] (ret (.tup [(changeD d.files key (cutF n)).1.av, I (changeD d.files key (cutF n)).2])) := by
  obtain ⟨w0, w1, w2, w3⟩ := file_wf hw (place (d.files.map AFile.name) key)
  by_cases hg : goodD d.files = true
  · by_cases hm : key ∈ d.files.map AFile.name
    · have hpl := place_lt hg hm
      by_cases hn : n < 0 ∨ ((d.files.getD (place (d.files.map AFile.name) key) default).safe.length : Int) + (d.files.getD (place (d.files.map AFile.name) key) default).tail.length < n
      · have e : cutF n (d.files.getD (place (d.files.map AFile.name) key) default) = (default, 3) := by unfold cutF; rw [if_pos hn]
        rw [change_err hg hm (by rw [e]; decide), e]
        refine acall_of tabOk Tryd.func74 rfl (by kernel_rfl) (by simp [Tryd.ntmps74]) ?_; simp only [Tryd.ntmps74, Tryd.results74, List.toList_toArray, apar, List.length_nil, List.length_cons, Nat.reduceAdd]
        repeat' first
          | (with_reducible first | refine AWP.seq ?_ | refine thenA_n ?_ | refine thenA_r ?_ | refine thenA_e ?_ | refine blkA_n ?_ | refine blkA_r ?_ | refine blkA_e ?_ | refine blkA_x (by decide) ?_ | refine AWP.skip ?_ | refine AWP.ret ?_ | refine AWP.exit ?_ | refine AWP.block ?_)
          | (with_reducible refine AWP.cond rfl ?_ ?_ <;> intro hc <;> (try simp only [hcs, beq_iff_eq, ge_iff_le, gt_iff_lt] at hc))
          | ((first
            | (with_reducible first | refine AWP.region tabOk ?_ | refine AWP.quietC mixed tabOk (by decide +kernel) ?_ | refine AWP.draw mixed tabOk (by decide +kernel) ?_ | refine AWP.drawE mixed tabOk (by decide +kernel) ?_ | refine AWP.drawG mixed tabOk (by decide +kernel) ?_); intro K hK
            | ((first | refine acallH_sc ((ref_good_d_c d h hw).re (by rw [hg])) rfl rfl ?_ ?_ ?_ | refine acallQ_sc ((ref_good_d_c d h hw).re (by rw [hg])) rfl rfl ?_ ?_ ?_ | refine acallH_sc ((file_c d key h hg).re (by rw [fileI_yes hm])) rfl rfl ?_ ?_ ?_ | refine acallQ_sc ((file_c d key h hg).re (by rw [fileI_yes hm])) rfl rfl ?_ ?_ ?_ | refine acallH_sc (ref_copied_o_c d h) rfl rfl ?_ ?_ ?_ | refine acallQ_sc (ref_copied_o_c d h) rfl rfl ?_ ?_ ?_); iterate 2 (focus ((try simp (disch := omega) only [go_sem, wrap_n, AFile.rgetD, getD_set, AFile.rset, getD_mapset, List.set_set]) <;> (try omega) <;> fail)))
            | ((first | refine acallH_anyr ((ref_good_d_c d h hw).re (by rw [hg])) rfl ?_ ?_ | refine acallH_anyr ((file_c d key h hg).re (by rw [fileI_yes hm])) rfl ?_ ?_ | refine acallH_anyr (ref_copied_o_c d h) rfl ?_ ?_); (focus ((try simp (disch := omega) only [go_sem, wrap_n, AFile.rgetD, getD_set, AFile.rset, getD_mapset, List.set_set]) <;> (try omega) <;> fail)))
            | ((first | refine acallH_scx ((ref_good_d_c d h hw).re (by rw [hg])) rfl ?_ ?_ | refine acallQ_scx ((ref_good_d_c d h hw).re (by rw [hg])) rfl ?_ ?_ | refine acallH_anyx ((ref_good_d_c d h hw).re (by rw [hg])) ?_ ?_); (focus ((try simp (disch := omega) only [go_sem, wrap_n, AFile.rgetD, getD_set, AFile.rset, getD_mapset, List.set_set]) <;> (try omega) <;> fail)))
            | ((first | refine acallH_scx ((file_c d key h hg).re (by rw [fileI_yes hm])) rfl ?_ ?_ | refine acallQ_scx ((file_c d key h hg).re (by rw [fileI_yes hm])) rfl ?_ ?_ | refine acallH_anyx ((file_c d key h hg).re (by rw [fileI_yes hm])) ?_ ?_); (focus ((try simp (disch := omega) only [go_sem, wrap_n, AFile.rgetD, getD_set, AFile.rset, getD_mapset, List.set_set]) <;> (try omega) <;> fail)))
            | ((first | refine acallH_scx (ref_copied_o_c d h) rfl ?_ ?_ | refine acallQ_scx (ref_copied_o_c d h) rfl ?_ ?_ | refine acallH_anyx (ref_copied_o_c d h) ?_ ?_); (focus ((try simp (disch := omega) only [go_sem, wrap_n, AFile.rgetD, getD_set, AFile.rset, getD_mapset, List.set_set]) <;> (try omega) <;> fail)))); ((try simp (disch := omega) only [go_sem, wrap_n, AFile.rgetD, getD_set, AFile.rset, getD_mapset, List.set_set]) <;> (repeat' with_reducible refine And.intro ?_ ?_) <;> (try (with_reducible refine hK _ ?_; clear hK K))))
          | (refine acallHK_in fun Kk hKk => (acall_of tabOk Tryd.func132 rfl (by kernel_rfl) (by simp [Tryd.ntmps132]) ?_); simp only [Tryd.ntmps132, Tryd.results132, List.toList_toArray, apar, List.length_nil, List.length_cons, Nat.reduceAdd, List.length_append, List.length_set, go_sem])
          | (refine acallHK_in fun Kk hKk => (acall_of tabOk Tryd.func137 rfl (by kernel_rfl) (by simp [Tryd.ntmps137]) ?_); simp only [Tryd.ntmps137, Tryd.results137, List.toList_toArray, apar, List.length_nil, List.length_cons, Nat.reduceAdd, List.length_append, List.length_set, go_sem])
          | (refine aend_in (v := ?_) hKk (by first | exact .inl rfl | exact .inr rfl) ?_ ?_ ?_; rotate_left; (focus ((try simp (disch := omega) only [go_sem, wrap_n, AFile.rgetD, getD_set, AFile.rset, getD_mapset, List.set_set]) <;> (try omega) <;> fail)); (focus ((try simp (disch := omega) only [go_sem, wrap_n, AFile.rgetD, getD_set, AFile.rset, getD_mapset, List.set_set]) <;> (first | done | exact rfl))); clear hKk Kk; ((try simp (disch := omega) only [go_sem, wrap_n, AFile.rgetD, getD_set, AFile.rset, getD_mapset, List.set_set]) <;> (repeat' with_reducible refine And.intro ?_ ?_) <;> (try (with_reducible refine hK _ ?_; clear hK K))))
          | ((first | (with_reducible refine aunder_i ?_ ?_ <;> intro hg) | with_reducible intro hg) <;> (first | (exfalso; simp at hg; done) | (have hg' := hg; (try simp only [hcs, beq_iff_eq, ge_iff_le, gt_iff_lt] at hg'); ((try simp (disch := omega) only [hg, go_sem, wrap_n, AFile.rgetD, getD_set, AFile.rset, getD_mapset, List.set_set]) <;> (repeat' with_reducible refine And.intro ?_ ?_) <;> (try (with_reducible refine hK _ ?_; clear hK K))))))
                                                                  | omega
        all_goals first | omega | skip
        all_goals (refine aend_retc ?_ rfl ?_ ?_ ?_ ?_; (focus (first | exact .inl rfl | exact .inr rfl)); (iterate 3 (focus ((try simp (disch := omega) only [go_sem, wrap_n, default]) <;> (try omega) <;> fail))); (try simp (disch := omega) only [go_sem, wrap_n, default, I, B, S, inj, List.cons.injEq, and_true, true_and, and_self]))
      · have e : cutF n (d.files.getD (place (d.files.map AFile.name) key) default) = (⟨(d.files.getD (place (d.files.map AFile.name) key) default).name, ((d.files.getD (place (d.files.map AFile.name) key) default).safe ++ (d.files.getD (place (d.files.map AFile.name) key) default).tail).take n.toNat, []⟩, 0) := by unfold cutF; rw [if_neg hn]
        rw [change_ok hg hm (by rw [e]), e]
        refine acall_of tabOk Tryd.func74 rfl (by kernel_rfl) (by simp [Tryd.ntmps74]) ?_; simp only [Tryd.ntmps74, Tryd.results74, List.toList_toArray, apar, List.length_nil, List.length_cons, Nat.reduceAdd]
        repeat' first
          | (with_reducible first | refine AWP.seq ?_ | refine thenA_n ?_ | refine thenA_r ?_ | refine thenA_e ?_ | refine blkA_n ?_ | refine blkA_r ?_ | refine blkA_e ?_ | refine blkA_x (by decide) ?_ | refine AWP.skip ?_ | refine AWP.ret ?_ | refine AWP.exit ?_ | refine AWP.block ?_)
          | (with_reducible refine AWP.cond rfl ?_ ?_ <;> intro hc <;> (try simp only [hcs, beq_iff_eq, ge_iff_le, gt_iff_lt] at hc))
          | ((first
            | (with_reducible first | refine AWP.region tabOk ?_ | refine AWP.quietC mixed tabOk (by decide +kernel) ?_ | refine AWP.draw mixed tabOk (by decide +kernel) ?_ | refine AWP.drawE mixed tabOk (by decide +kernel) ?_ | refine AWP.drawG mixed tabOk (by decide +kernel) ?_); intro K hK
            | ((first | refine acallH_sc ((ref_good_d_c d h hw).re (by rw [hg])) rfl rfl ?_ ?_ ?_ | refine acallQ_sc ((ref_good_d_c d h hw).re (by rw [hg])) rfl rfl ?_ ?_ ?_ | refine acallH_sc ((file_c d key h hg).re (by rw [fileI_yes hm])) rfl rfl ?_ ?_ ?_ | refine acallQ_sc ((file_c d key h hg).re (by rw [fileI_yes hm])) rfl rfl ?_ ?_ ?_ | refine acallH_sc (ref_copied_o_c d h) rfl rfl ?_ ?_ ?_ | refine acallQ_sc (ref_copied_o_c d h) rfl rfl ?_ ?_ ?_); iterate 2 (focus ((try simp (disch := omega) only [go_sem, wrap_n, AFile.rgetD, getD_set, AFile.rset, getD_mapset, List.set_set]) <;> (try omega) <;> fail)))
            | ((first | refine acallH_anyr ((ref_good_d_c d h hw).re (by rw [hg])) rfl ?_ ?_ | refine acallH_anyr ((file_c d key h hg).re (by rw [fileI_yes hm])) rfl ?_ ?_ | refine acallH_anyr (ref_copied_o_c d h) rfl ?_ ?_); (focus ((try simp (disch := omega) only [go_sem, wrap_n, AFile.rgetD, getD_set, AFile.rset, getD_mapset, List.set_set]) <;> (try omega) <;> fail)))
            | ((first | refine acallH_scx ((ref_good_d_c d h hw).re (by rw [hg])) rfl ?_ ?_ | refine acallQ_scx ((ref_good_d_c d h hw).re (by rw [hg])) rfl ?_ ?_ | refine acallH_anyx ((ref_good_d_c d h hw).re (by rw [hg])) ?_ ?_); (focus ((try simp (disch := omega) only [go_sem, wrap_n, AFile.rgetD, getD_set, AFile.rset, getD_mapset, List.set_set]) <;> (try omega) <;> fail)))
            | ((first | refine acallH_scx ((file_c d key h hg).re (by rw [fileI_yes hm])) rfl ?_ ?_ | refine acallQ_scx ((file_c d key h hg).re (by rw [fileI_yes hm])) rfl ?_ ?_ | refine acallH_anyx ((file_c d key h hg).re (by rw [fileI_yes hm])) ?_ ?_); (focus ((try simp (disch := omega) only [go_sem, wrap_n, AFile.rgetD, getD_set, AFile.rset, getD_mapset, List.set_set]) <;> (try omega) <;> fail)))
            | ((first | refine acallH_scx (ref_copied_o_c d h) rfl ?_ ?_ | refine acallQ_scx (ref_copied_o_c d h) rfl ?_ ?_ | refine acallH_anyx (ref_copied_o_c d h) ?_ ?_); (focus ((try simp (disch := omega) only [go_sem, wrap_n, AFile.rgetD, getD_set, AFile.rset, getD_mapset, List.set_set]) <;> (try omega) <;> fail)))); ((try simp (disch := omega) only [go_sem, wrap_n, AFile.rgetD, getD_set, AFile.rset, getD_mapset, List.set_set]) <;> (repeat' with_reducible refine And.intro ?_ ?_) <;> (try (with_reducible refine hK _ ?_; clear hK K))))
          | (refine acallHK_in fun Kk hKk => (acall_of tabOk Tryd.func132 rfl (by kernel_rfl) (by simp [Tryd.ntmps132]) ?_); simp only [Tryd.ntmps132, Tryd.results132, List.toList_toArray, apar, List.length_nil, List.length_cons, Nat.reduceAdd, List.length_append, List.length_set, go_sem])
          | (refine acallHK_in fun Kk hKk => (acall_of tabOk Tryd.func137 rfl (by kernel_rfl) (by simp [Tryd.ntmps137]) ?_); simp only [Tryd.ntmps137, Tryd.results137, List.toList_toArray, apar, List.length_nil, List.length_cons, Nat.reduceAdd, List.length_append, List.length_set, go_sem])
          | (refine aend_in (v := ?_) hKk (by first | exact .inl rfl | exact .inr rfl) ?_ ?_ ?_; rotate_left; (focus ((try simp (disch := omega) only [go_sem, wrap_n, AFile.rgetD, getD_set, AFile.rset, getD_mapset, List.set_set]) <;> (try omega) <;> fail)); (focus ((try simp (disch := omega) only [go_sem, wrap_n, AFile.rgetD, getD_set, AFile.rset, getD_mapset, List.set_set]) <;> (first | done | exact rfl))); clear hKk Kk; ((try simp (disch := omega) only [go_sem, wrap_n, AFile.rgetD, getD_set, AFile.rset, getD_mapset, List.set_set]) <;> (repeat' with_reducible refine And.intro ?_ ?_) <;> (try (with_reducible refine hK _ ?_; clear hK K))))
          | ((first | (with_reducible refine aunder_i ?_ ?_ <;> intro hg) | with_reducible intro hg) <;> (first | (exfalso; simp at hg; done) | (have hg' := hg; (try simp only [hcs, beq_iff_eq, ge_iff_le, gt_iff_lt] at hg'); ((try simp (disch := omega) only [hg, go_sem, wrap_n, AFile.rgetD, getD_set, AFile.rset, getD_mapset, List.set_set]) <;> (repeat' with_reducible refine And.intro ?_ ?_) <;> (try (with_reducible refine hK _ ?_; clear hK K))))))
                                                                  | omega
        all_goals first | omega | skip
        (refine aend_retc ?_ rfl ?_ ?_ ?_ ?_; (focus (first | exact .inl rfl | exact .inr rfl)); (iterate 3 (focus ((try simp (disch := omega) only [go_sem, wrap_n, take_map_set]) <;> (try omega) <;> fail))); (try simp (disch := omega) only [go_sem, wrap_n, take_map_set, I, B, S, inj, List.cons.injEq, and_true, true_and, and_self]))
        exact .inl rfl
    · rw [change_none hg hm]
      refine acall_of tabOk Tryd.func74 rfl (by kernel_rfl) (by simp [Tryd.ntmps74]) ?_; simp only [Tryd.ntmps74, Tryd.results74, List.toList_toArray, apar, List.length_nil, List.length_cons, Nat.reduceAdd]
      repeat' first
        | (with_reducible first | refine AWP.seq ?_ | refine thenA_n ?_ | refine thenA_r ?_ | refine thenA_e ?_ | refine blkA_n ?_ | refine blkA_r ?_ | refine blkA_e ?_ | refine blkA_x (by decide) ?_ | refine AWP.skip ?_ | refine AWP.ret ?_ | refine AWP.exit ?_ | refine AWP.block ?_)
        | (with_reducible refine AWP.cond rfl ?_ ?_ <;> intro hc <;> (try simp only [hcs, beq_iff_eq, ge_iff_le, gt_iff_lt] at hc))
        | ((first
          | (with_reducible first | refine AWP.region tabOk ?_ | refine AWP.quietC mixed tabOk (by decide +kernel) ?_ | refine AWP.draw mixed tabOk (by decide +kernel) ?_ | refine AWP.drawE mixed tabOk (by decide +kernel) ?_ | refine AWP.drawG mixed tabOk (by decide +kernel) ?_); intro K hK
          | ((first | refine acallH_sc ((ref_good_d_c d h hw).re (by rw [hg])) rfl rfl ?_ ?_ ?_ | refine acallQ_sc ((ref_good_d_c d h hw).re (by rw [hg])) rfl rfl ?_ ?_ ?_ | refine acallH_sc ((file_c d key h hg).re (by rw [fileI_no hm])) rfl rfl ?_ ?_ ?_ | refine acallQ_sc ((file_c d key h hg).re (by rw [fileI_no hm])) rfl rfl ?_ ?_ ?_); iterate 2 (focus ((try simp (disch := omega) only [go_sem, wrap_n]) <;> (try omega) <;> fail)))
          | ((first | refine acallH_anyr ((ref_good_d_c d h hw).re (by rw [hg])) rfl ?_ ?_ | refine acallH_anyr ((file_c d key h hg).re (by rw [fileI_no hm])) rfl ?_ ?_); (focus ((try simp (disch := omega) only [go_sem, wrap_n]) <;> (try omega) <;> fail)))
          | ((first | refine acallH_scx ((ref_good_d_c d h hw).re (by rw [hg])) rfl ?_ ?_ | refine acallQ_scx ((ref_good_d_c d h hw).re (by rw [hg])) rfl ?_ ?_ | refine acallH_anyx ((ref_good_d_c d h hw).re (by rw [hg])) ?_ ?_); (focus ((try simp (disch := omega) only [go_sem, wrap_n]) <;> (try omega) <;> fail)))
          | ((first | refine acallH_scx ((file_c d key h hg).re (by rw [fileI_no hm])) rfl ?_ ?_ | refine acallQ_scx ((file_c d key h hg).re (by rw [fileI_no hm])) rfl ?_ ?_ | refine acallH_anyx ((file_c d key h hg).re (by rw [fileI_no hm])) ?_ ?_); (focus ((try simp (disch := omega) only [go_sem, wrap_n]) <;> (try omega) <;> fail)))); ((try simp (disch := omega) only [go_sem, wrap_n]) <;> (repeat' with_reducible refine And.intro ?_ ?_) <;> (try (with_reducible refine hK _ ?_; clear hK K))))
        | (refine acallHK_in fun Kk hKk => (acall_of tabOk Tryd.func132 rfl (by kernel_rfl) (by simp [Tryd.ntmps132]) ?_); simp only [Tryd.ntmps132, Tryd.results132, List.toList_toArray, apar, List.length_nil, List.length_cons, Nat.reduceAdd, List.length_append, List.length_set, go_sem])
        | (refine acallHK_in fun Kk hKk => (acall_of tabOk Tryd.func137 rfl (by kernel_rfl) (by simp [Tryd.ntmps137]) ?_); simp only [Tryd.ntmps137, Tryd.results137, List.toList_toArray, apar, List.length_nil, List.length_cons, Nat.reduceAdd, List.length_append, List.length_set, go_sem])
        | (refine aend_in (v := ?_) hKk (by first | exact .inl rfl | exact .inr rfl) ?_ ?_ ?_; rotate_left; (focus ((try simp (disch := omega) only [go_sem, wrap_n]) <;> (try omega) <;> fail)); (focus ((try simp (disch := omega) only [go_sem, wrap_n]) <;> (first | done | exact rfl))); clear hKk Kk; ((try simp (disch := omega) only [go_sem, wrap_n]) <;> (repeat' with_reducible refine And.intro ?_ ?_) <;> (try (with_reducible refine hK _ ?_; clear hK K))))
        | ((first | (with_reducible refine aunder_i ?_ ?_ <;> intro hg) | with_reducible intro hg) <;> (first | (exfalso; simp at hg; done) | (have hg' := hg; (try simp only [hcs, beq_iff_eq, ge_iff_le, gt_iff_lt] at hg'); ((try simp (disch := omega) only [hg, go_sem, wrap_n]) <;> (repeat' with_reducible refine And.intro ?_ ?_) <;> (try (with_reducible refine hK _ ?_; clear hK K))))))
                                                                | omega
      (refine aend_retc ?_ rfl ?_ ?_ ?_ ?_; (focus (first | exact .inl rfl | exact .inr rfl)); (iterate 3 (focus ((try simp (disch := omega) only [go_sem, wrap_n, default]) <;> (try omega) <;> fail))); (try simp (disch := omega) only [go_sem, wrap_n, default, I, B, S, inj, List.cons.injEq, and_true, true_and, and_self]))
  · rw [change_bad hg]
    rw [Bool.not_eq_true] at hg
    refine acall_of tabOk Tryd.func74 rfl (by kernel_rfl) (by simp [Tryd.ntmps74]) ?_; simp only [Tryd.ntmps74, Tryd.results74, List.toList_toArray, apar, List.length_nil, List.length_cons, Nat.reduceAdd]
    repeat' first
      | (with_reducible first | refine AWP.seq ?_ | refine thenA_n ?_ | refine thenA_r ?_ | refine thenA_e ?_ | refine blkA_n ?_ | refine blkA_r ?_ | refine blkA_e ?_ | refine blkA_x (by decide) ?_ | refine AWP.skip ?_ | refine AWP.ret ?_ | refine AWP.exit ?_ | refine AWP.block ?_)
      | (with_reducible refine AWP.cond rfl ?_ ?_ <;> intro hc <;> (try simp only [hcs, beq_iff_eq, ge_iff_le, gt_iff_lt] at hc))
      | ((first
        | (with_reducible first | refine AWP.region tabOk ?_ | refine AWP.quietC mixed tabOk (by decide +kernel) ?_ | refine AWP.draw mixed tabOk (by decide +kernel) ?_ | refine AWP.drawE mixed tabOk (by decide +kernel) ?_ | refine AWP.drawG mixed tabOk (by decide +kernel) ?_); intro K hK
        | ((first | refine acallH_sc ((ref_good_d_c d h hw).re (by rw [hg])) rfl rfl ?_ ?_ ?_ | refine acallQ_sc ((ref_good_d_c d h hw).re (by rw [hg])) rfl rfl ?_ ?_ ?_); iterate 2 (focus ((try simp (disch := omega) only [go_sem, wrap_n]) <;> (try omega) <;> fail)))
        | ((first | refine acallH_anyr ((ref_good_d_c d h hw).re (by rw [hg])) rfl ?_ ?_); (focus ((try simp (disch := omega) only [go_sem, wrap_n]) <;> (try omega) <;> fail)))
        | ((first | refine acallH_scx ((ref_good_d_c d h hw).re (by rw [hg])) rfl ?_ ?_ | refine acallQ_scx ((ref_good_d_c d h hw).re (by rw [hg])) rfl ?_ ?_ | refine acallH_anyx ((ref_good_d_c d h hw).re (by rw [hg])) ?_ ?_); (focus ((try simp (disch := omega) only [go_sem, wrap_n]) <;> (try omega) <;> fail)))); ((try simp (disch := omega) only [go_sem, wrap_n]) <;> (repeat' with_reducible refine And.intro ?_ ?_) <;> (try (with_reducible refine hK _ ?_; clear hK K))))
      | (refine acallHK_in fun Kk hKk => (acall_of tabOk Tryd.func132 rfl (by kernel_rfl) (by simp [Tryd.ntmps132]) ?_); simp only [Tryd.ntmps132, Tryd.results132, List.toList_toArray, apar, List.length_nil, List.length_cons, Nat.reduceAdd, List.length_append, List.length_set, go_sem])
      | (refine acallHK_in fun Kk hKk => (acall_of tabOk Tryd.func137 rfl (by kernel_rfl) (by simp [Tryd.ntmps137]) ?_); simp only [Tryd.ntmps137, Tryd.results137, List.toList_toArray, apar, List.length_nil, List.length_cons, Nat.reduceAdd, List.length_append, List.length_set, go_sem])
      | (refine aend_in (v := ?_) hKk (by first | exact .inl rfl | exact .inr rfl) ?_ ?_ ?_; rotate_left; (focus ((try simp (disch := omega) only [go_sem, wrap_n]) <;> (try omega) <;> fail)); (focus ((try simp (disch := omega) only [go_sem, wrap_n]) <;> (first | done | exact rfl))); clear hKk Kk; ((try simp (disch := omega) only [go_sem, wrap_n]) <;> (repeat' with_reducible refine And.intro ?_ ?_) <;> (try (with_reducible refine hK _ ?_; clear hK K))))
      | ((first | (with_reducible refine aunder_i ?_ ?_ <;> intro hg) | with_reducible intro hg) <;> (first | (exfalso; simp at hg; done) | (have hg' := hg; (try simp only [hcs, beq_iff_eq, ge_iff_le, gt_iff_lt] at hg'); ((try simp (disch := omega) only [hg, go_sem, wrap_n]) <;> (repeat' with_reducible refine And.intro ?_ ?_) <;> (try (with_reducible refine hK _ ?_; clear hK K))))))
                                                              | omega
    (refine aend_retc ?_ rfl ?_ ?_ ?_ ?_; (focus (first | exact .inl rfl | exact .inr rfl)); (iterate 3 (focus ((try simp (disch := omega) only [go_sem, wrap_n, default]) <;> (try omega) <;> fail))); (try simp (disch := omega) only [go_sem, wrap_n, default, I, B, S, inj, List.cons.injEq, and_true, true_and, and_self]))
end Go.Proofs.YtmpfhalheaeibaaDoor
