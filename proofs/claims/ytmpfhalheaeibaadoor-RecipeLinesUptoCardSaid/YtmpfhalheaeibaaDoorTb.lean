/- Contracts of the search for a node by its path, in lists that rise and in others. No condition. -/
import Derived.Test.YtmpfhalheaeibaaDoorBs
namespace Go.Proofs.YtmpfhalheaeibaaDoor
set_option linter.unusedVariables false
set_option linter.unusedSimpArgs false
open Go Go.RowKit
set_option maxRecDepth 100000
set_option linter.unusedSimpArgs false

/-- Where a search by halves ends. -/
def bsI (lt : Nat → Bool) : Nat → Nat → Nat → Nat
  | 0, i, _ => i
  | f + 1, i, j => if i < j then (if lt ((i + j) / 2) = true then bsI lt f ((i + j) / 2 + 1) j else bsI lt f i ((i + j) / 2)) else i
def ltN (ns : List (List UInt8)) (key : List UInt8) (k : Nat) : Bool := decide (ns.getD k [] < key)
def bsN (ns : List (List UInt8)) (key : List UInt8) : Nat := bsI (ltN ns key) ns.length 0 ns.length
def foundN (ns : List (List UInt8)) (key : List UInt8) : Bool := decide (bsN ns key < ns.length ∧ ns.getD (bsN ns key) [] = key)
theorem bsI_end {lt : Nat → Bool} {f i : Nat} : bsI lt f i i = i := by
  cases f with
  | zero => rfl
  | succ f => rw [bsI, if_neg (by omega)]
theorem bsI_lo {lt : Nat → Bool} {f i j : Nat} (h : i < j) (h2 : lt ((i + j) / 2) = true) : bsI lt (f + 1) i j = bsI lt f ((i + j) / 2 + 1) j := by rw [bsI, if_pos h, if_pos h2]
theorem bsI_hi {lt : Nat → Bool} {f i j : Nat} (h : i < j) (h2 : ¬ lt ((i + j) / 2) = true) : bsI lt (f + 1) i j = bsI lt f i ((i + j) / 2) := by rw [bsI, if_pos h, if_neg h2]
theorem bsI_le {lt : Nat → Bool} : ∀ {f i j : Nat}, i ≤ j → bsI lt f i j ≤ j
  | 0, i, j, h => h
  | f + 1, i, j, h => by
    by_cases h1 : i < j
    · by_cases h2 : lt ((i + j) / 2) = true
      · rw [bsI_lo h1 h2]; exact bsI_le (by omega)
      · rw [bsI_hi h1 h2]; exact Nat.le_trans (bsI_le (by omega)) (by omega)
    · rw [show i = j from by omega, bsI_end]; exact Nat.le_refl _
theorem bsN_le (ns : List (List UInt8)) (key : List UInt8) : bsN ns key ≤ ns.length := bsI_le (Nat.zero_le _)
theorem bsI_place {ns : List (List UInt8)} {key : List UInt8} (hr : Rises ns) : ∀ {f i j : Nat}, i ≤ j → j ≤ ns.length → j - i ≤ f → (∀ k, k < i → ns.getD k [] < key) → (j < ns.length → ¬ ns.getD j [] < key) → bsI (ltN ns key) f i j = place ns key
  | 0, i, j, h1, h2, h3, h4, h5 => by
    rw [bsI]
    rw [show j = i from by omega] at h5
    exact (place_eq (by omega) h4 h5).symm
  | f + 1, i, j, h1, h2, h3, h4, h5 => by
    by_cases h : i < j
    · by_cases hc : ltN ns key ((i + j) / 2) = true
      · rw [bsI_lo h hc]
        unfold ltN at hc
        rw [decide_eq_true_eq] at hc
        refine bsI_place hr (by omega) h2 (by omega) (fun k hk => ?_) h5
        by_cases e : k = (i + j) / 2
        · rw [e]; exact hc
        · exact List.lt_trans (rises_lt (j := (i + j) / 2) hr (by omega) (by omega)) hc
      · rw [bsI_hi h hc]
        unfold ltN at hc
        rw [decide_eq_true_eq] at hc
        exact bsI_place hr (by omega) (by omega) (by omega) h4 fun _ => hc
    · rw [show j = i from by omega] at h5 ⊢
      rw [bsI_end]
      exact (place_eq (by omega) h4 h5).symm
theorem bsN_rises {ns : List (List UInt8)} {key : List UInt8} (hr : Rises ns) : bsN ns key = place ns key :=
  bsI_place hr (Nat.zero_le _) (Nat.le_refl _) (by omega) (fun k hk => by omega) (fun h => by omega)
theorem foundN_rises {ns : List (List UInt8)} {key : List UInt8} (hr : Rises ns) : foundN ns key = decide (key ∈ ns) := by
  unfold foundN
  rw [bsN_rises hr, decide_eq_decide]
  constructor
  · rintro ⟨h1, h2⟩; rw [← h2]; exact mem_getD _ _ h1
  · exact place_found hr
theorem foundN_mem {ns : List (List UInt8)} {key : List UInt8} (h : foundN ns key = true) : key ∈ ns := by
  unfold foundN at h
  rw [decide_eq_true_eq] at h
  have := mem_getD ns [] h.1
  rwa [h.2] at this
theorem bsNodeU_c (l : List ANode) (key : List UInt8) (h : l.length * 88 ≤ 140737488351232) :
    acall Tryd.prog [] 142 [.d (.sl 9 (l.map ANode.row)), S key, .d (.sc (.func (.func 143) #[] #[]))]
      (ret (.tup [I (bsN (l.map ANode.path) key), B (foundN (l.map ANode.path) key)])) := by
  have hn : ∀ k, (l.map ANode.path).getD k [] = (l.getD k default).path := fun k => getD_map ANode.path l k default
  refine acall_of tabOk Tryd.func142 rfl (by kernel_rfl) (by simp [Tryd.ntmps142]) ?_; simp only [Tryd.ntmps142, Tryd.results142, List.toList_toArray, apar, List.length_nil, List.length_cons, Nat.reduceAdd]
  repeat' first
    | (with_reducible first | refine AWP.seq ?_ | refine thenA_n ?_ | refine thenA_r ?_ | refine thenA_e ?_ | refine blkA_n ?_ | refine blkA_r ?_ | refine blkA_e ?_ | refine blkA_x (by decide) ?_ | refine AWP.skip ?_ | refine AWP.ret ?_ | refine AWP.exit ?_ | refine AWP.block ?_)
    | (with_reducible refine AWP.cond rfl ?_ ?_ <;> intro hc <;> (try simp only [hcs, beq_iff_eq, ge_iff_le, gt_iff_lt] at hc))
    | ((first
      | (with_reducible first | refine AWP.region tabOk ?_ | refine AWP.quietC mixed tabOk (by decide +kernel) ?_ | refine AWP.draw mixed tabOk (by decide +kernel) ?_ | refine AWP.drawE mixed tabOk (by decide +kernel) ?_ | refine AWP.drawG mixed tabOk (by decide +kernel) ?_); intro K hK); ((try simp (disch := omega) only [go_sem, wrap_n]) <;> (repeat' with_reducible refine And.intro ?_ ?_) <;> (try (with_reducible refine hK _ ?_; clear hK K))))
    | ((first | (with_reducible refine aunder_i ?_ ?_ <;> intro hg) | with_reducible intro hg) <;> (first | (exfalso; simp at hg; done) | (have hg' := hg; (try simp only [hcs, beq_iff_eq, ge_iff_le, gt_iff_lt] at hg'); ((try simp (disch := omega) only [hg, go_sem, wrap_n]) <;> (repeat' with_reducible refine And.intro ?_ ?_) <;> (try (with_reducible refine hK _ ?_; clear hK K))))))
                                                            | omega
  refine AWP.loopS (ι := Nat × Nat × Nat) (fun v => v.2.1 ≤ v.2.2 ∧ v.2.2 ≤ l.length ∧ v.2.2 - v.2.1 ≤ v.1 ∧ bsI (ltN (l.map ANode.path) key) v.1 v.2.1 v.2.2 = bsN (l.map ANode.path) key) (fun v => v.1) [0, 1, 2, 8] (fun v => [(9, I v.2.1), (10, I v.2.2)]) (l.length, 0, l.length) ?_ (by simp (disch := omega) only [go_sem, wrap_n, true_and]) ?_
  · refine ⟨by simp, by simp, by simp, ?_⟩
    unfold bsN; simp only [List.length_map]
  intro ⟨f, i, j⟩ ⟨h1, h2, h3, h4⟩
  simp only at h1 h2 h3 h4
  simp only [go_sem]
  repeat' first
    | (with_reducible first | refine AWP.seq ?_ | refine thenA_n ?_ | refine thenA_r ?_ | refine thenA_e ?_ | refine blkA_n ?_ | refine blkA_r ?_ | refine blkA_e ?_ | refine blkA_x (by decide) ?_ | refine AWP.skip ?_ | refine AWP.ret ?_ | refine AWP.exit ?_ | refine AWP.block ?_)
    | (with_reducible refine AWP.cond rfl ?_ ?_ <;> intro hc <;> (try simp only [hcs, beq_iff_eq, ge_iff_le, gt_iff_lt] at hc))
    | ((first
      | (with_reducible first | refine AWP.region tabOk ?_ | refine AWP.quietC mixed tabOk (by decide +kernel) ?_ | refine AWP.draw mixed tabOk (by decide +kernel) ?_ | refine AWP.drawE mixed tabOk (by decide +kernel) ?_ | refine AWP.drawG mixed tabOk (by decide +kernel) ?_); intro K hK
      | ((first | refine acallH_sc (treeCmp_c _ _) rfl rfl ?_ ?_ ?_ | refine acallQ_sc (treeCmp_c _ _) rfl rfl ?_ ?_ ?_); iterate 2 (focus ((try simp (disch := omega) only [go_sem, wrap_n, halfw]) <;> (try omega) <;> fail)))
      | ((first | refine acallH_anyr (treeCmp_c _ _) rfl ?_ ?_); (focus ((try simp (disch := omega) only [go_sem, wrap_n, halfw]) <;> (try omega) <;> fail)))
      | ((first | refine acallH_scx (treeCmp_c _ _) rfl ?_ ?_ | refine acallQ_scx (treeCmp_c _ _) rfl ?_ ?_ | refine acallH_anyx (treeCmp_c _ _) ?_ ?_); (focus ((try simp (disch := omega) only [go_sem, wrap_n, halfw]) <;> (try omega) <;> fail)))); ((try simp (disch := omega) only [go_sem, wrap_n, halfw]) <;> (repeat' with_reducible refine And.intro ?_ ?_) <;> (try (with_reducible refine hK _ ?_; clear hK K))))
    | ((first | (with_reducible refine aunder_i ?_ ?_ <;> intro hg) | with_reducible intro hg) <;> (first | (exfalso; simp at hg; done) | (have hg' := hg; (try simp only [hcs, beq_iff_eq, ge_iff_le, gt_iff_lt] at hg'); ((try simp (disch := omega) only [hg, go_sem, wrap_n, halfw]) <;> (repeat' with_reducible refine And.intro ?_ ?_) <;> (try (with_reducible refine hK _ ?_; clear hK K))))))
                                                            | omega
  · rw [cmpB_neg] at hc
    obtain ⟨g, rfl⟩ : ∃ g, f = g + 1 := ⟨f - 1, by omega⟩
    have hlt : ltN (l.map ANode.path) key ((i + j) / 2) = true := by unfold ltN; rw [decide_eq_true_eq, hn]; exact hc
    rw [bsI_lo (by omega) hlt] at h4
    refine ⟨(g, (i + j) / 2 + 1, j), ⟨by simp only; omega, h2, by simp only; omega, h4⟩, by simp only; omega, ?_⟩
    (refine SImp.same ?_; simp (disch := omega) only [go_sem, wrap_n, Int.natCast_add])
  · have hc2 : ¬ cmpB (l.getD ((i + j) / 2) default).path key < 0 := by omega
    rw [cmpB_neg, ← hn] at hc2
    obtain ⟨g, rfl⟩ : ∃ g, f = g + 1 := ⟨f - 1, by omega⟩
    have hlt : ¬ ltN (l.map ANode.path) key ((i + j) / 2) = true := by unfold ltN; rw [decide_eq_true_eq]; exact hc2
    rw [bsI_hi (by omega) hlt] at h4
    refine ⟨(g, i, (i + j) / 2), ⟨by simp only; omega, by simp only; omega, by simp only; omega, h4⟩, by simp only; omega, ?_⟩
    (refine SImp.same ?_; simp (disch := omega) only [go_sem, wrap_n, Int.natCast_add])
  all_goals
    have e0 : i = j := by omega
    subst e0
    rw [bsI_end] at h4
    (refine aend_retc ?_ rfl ?_ ?_ ?_ ?_; (focus (first | exact .inl rfl | exact .inr rfl)); (iterate 3 (focus ((try simp (disch := omega) only [go_sem, wrap_n, h4, foundN]) <;> (try omega) <;> fail))); (try simp (disch := omega) only [go_sem, wrap_n, h4, foundN, I, B, S, inj, List.cons.injEq, and_true, true_and, and_self]))
    simp only [← h4, foundN, List.length_map, hn, cmpB_eq]
    simp at hg; simp; try omega
end Go.Proofs.YtmpfhalheaeibaaDoor
