/- Contract of tree.Good. No condition. -/
import Derived.Test.YtmpfhalheaeibaaDoorTr
namespace Go.Proofs.YtmpfhalheaeibaaDoor
set_option linter.unusedVariables false
set_option linter.unusedSimpArgs false
open Go Go.RowKit
set_option maxRecDepth 100000
set_option linter.unusedSimpArgs false

theorem split_ne {s : List UInt8} (h : (splitP s).2 = 0) : (splitP s).1.1 ≠ [] := by
  unfold splitP at h ⊢
  split at h
  · rename_i hg
    split at h
    · cases h
    · rename_i h0
      rw [if_pos hg, if_neg h0]
      show pathOf _ ≠ []
      unfold pathOf
      split
      · decide
      · rename_i h1; exact joinL_ne h1
  · cases h
theorem split_err {s : List UInt8} (h : ¬ (splitP s).2 = 0) : (splitP s).1.1 = [] := by
  unfold splitP at h ⊢
  split at h
  · rename_i hg
    split at h
    · rename_i h0; rw [if_pos hg, if_pos h0]
    · exact absurd rfl h
  · rename_i hg; rw [if_neg hg]
theorem goodP_ne {s : List UInt8} (h : goodP s = true) : s ≠ [] := by rintro rfl; revert h; decide
theorem kidsN_zero (t : ATree) (p : List UInt8) : kidsN t p 0 = 0 := rfl
theorem kidsN_succ (t : ATree) (p : List UInt8) (k : Nat) : kidsN t p (k + 1) = kidsN t p k + if dirT t k = p then 1 else 0 := by
  unfold kidsN
  rw [List.range_succ, List.filter_append, List.length_append]
  by_cases e : dirT t k = p
  · rw [if_pos e, List.filter_cons_of_pos (by simpa using e)]; rfl
  · rw [if_neg e, List.filter_cons_of_neg (by simpa using e)]; rfl
theorem kidsN_le (t : ATree) (p : List UInt8) (k : Nat) : kidsN t p k ≤ k := by
  unfold kidsN
  exact Nat.le_trans (List.length_filter_le _ _) (by rw [List.length_range]; exact Nat.le_refl _)
theorem goodTr_no {t : ATree} (h : goodTr t = true → False) : goodTr t = false := by
  cases e : goodTr t
  · rfl
  · exact (h e).elim
theorem head_no {t : ATree} (h : ¬ headOk t) : false = goodTr t := (goodTr_no fun h2 => h (good_root h2)).symm
theorem sess_no {t : ATree} {k : Nat} (hk : k < t.sessions.length) (h : ¬ sessOk t.sessions k) : false = goodTr t := (goodTr_no fun h2 => h ((goodTr_iff.1 h2).2.1 k hk)).symm
theorem nodeA_no {t : ATree} {k : Nat} (hk : k < t.nodes.length) (h : ¬ nodeA t k) : false = goodTr t := (goodTr_no fun h2 => h ((goodTr_iff.1 h2).2.2.1 k hk)).symm
theorem nodeB_no {t : ATree} {k : Nat} (hk : k < t.nodes.length) (h : ¬ (statB t (nd t k).stat ∧ ownB t (nd t k).stat ∧ upB t k ∧ (nd t k).stat.kids = kidsN t (nd t k).path t.nodes.length)) : false = goodTr t := (goodTr_no fun h2 => h ((goodTr_iff.1 h2).2.2.2 k hk)).symm
def condP (t : ATree) (i : Nat) : Prop := ((((((((((goodP (nd t i).path = true ∧ ((nd t i).data.length : Int) ≤ 256) ∧ ((i : Int) ≤ 0 ∨ (nd t (i - 1)).path < (nd t i).path)) ∧ 0 ≤ (nd t i).stat.version) ∧ (nd t i).stat.version ≤ 2147483647) ∧ 0 ≤ (nd t i).stat.cversion) ∧ (nd t i).stat.cversion ≤ 2147483647) ∧
  0 ≤ (nd t i).stat.czxid) ∧ (nd t i).stat.czxid ≤ (nd t i).stat.mzxid) ∧ (nd t i).stat.czxid ≤ (nd t i).stat.pzxid) ∧ (nd t i).stat.mzxid ≤ t.zxid) ∧ (nd t i).stat.pzxid ≤ t.zxid
theorem condP_ok {t : ATree} {i : Nat} (h : condP t i) : nodeA t i ∧ statB t (nd t i).stat := by
  obtain ⟨⟨⟨⟨⟨⟨⟨⟨⟨⟨⟨h1, h2⟩, h3⟩, h4⟩, h5⟩, h6⟩, h7⟩, h8⟩, h9⟩, h10⟩, h11⟩, h12⟩ := h
  exact ⟨⟨h1, by omega, fun h0 => h3.resolve_left (by omega)⟩, h4, h5, h6, h7, h8, h9, h10, h11, h12⟩
theorem root_of {s : List UInt8} (hg : goodP s = true) (h : ¬ (splitP s).2 = 0) : s = [47] := by
  unfold splitP at h
  rw [if_pos hg] at h
  split at h
  · rename_i h0
    have := (good_path hg).1
    rw [h0] at this; exact this
  · exact absurd rfl h
theorem first_lt {t : ATree} : ∀ {i : Nat}, (∀ j, j ≤ i → nodeA t j) → 0 < i → (nd t 0).path < (nd t i).path
  | 0, _, h => by omega
  | i + 1, h, _ => by
    have := (h (i + 1) (Nat.le_refl _)).2.2 (by omega)
    rw [Nat.add_sub_cancel] at this
    by_cases e : i = 0
    · subst e; exact this
    · exact List.lt_trans (first_lt (fun j hj => h j (by omega)) (by omega)) this
theorem upB_err {t : ATree} {i : Nat} (hh : headOk t) (hA : ∀ j, j ≤ i → nodeA t j) (he : ¬ (splitP (nd t i).path).2 = 0) : upB t i := by
  by_cases e : i = 0
  · exact .inl e
  · have h1 := first_lt hA (by omega)
    rw [root_of (hA i (Nat.le_refl _)).1 he, hh.2.2.1] at h1
    exact absurd h1 (List.lt_irrefl _)
theorem up_no {t : ATree} {i : Nat} (hi : i < t.nodes.length) (h0 : (splitP (nd t i).path).2 = 0) (h : foundN (pathsT t) (splitP (nd t i).path).1.1 = false) : false = goodTr t := by
  refine (goodTr_no fun h2 => ?_).symm
  rw [foundN_rises (good_rises h2), decide_eq_false_iff_not] at h
  rcases ((goodTr_iff.1 h2).2.2.2 i hi).2.2.1 with e | e
  · subst e
    rw [(good_root h2).2.2.1] at h0
    exact absurd h0 (by decide)
  · exact h e
theorem own_no {t : ATree} {i : Nat} (hi : i < t.nodes.length) (h0 : ¬ (nd t i).stat.owner = 0) (h : ¬ (nd t i).stat.owner ∈ t.sessions ∨ ¬ (nd t i).stat.kids = 0) : false = goodTr t :=
  nodeB_no hi fun ⟨_, ho, _, _⟩ => by
    obtain ⟨a, b⟩ := ho h0
    rcases h with h | h
    · exact h a
    · exact h b
structure TLoop (t : ATree) (i : Nat) (m : List (List UInt8 × Int)) : Prop where
  le : i ≤ t.nodes.length
  ok : ∀ j, j < i → nodeA t j ∧ statB t (nd t j).stat ∧ ownB t (nd t j).stat ∧ upB t j
  cnt : ∀ p, p ≠ [] → mval m p = (kidsN t p i : Nat)
theorem tloop_a {t : ATree} {i : Nat} {m : List (List UInt8 × Int)} (h : TLoop t i m) (hi : i < t.nodes.length) (hc : condP t i) (ho : ownB t (nd t i).stat) (h0 : (splitP (nd t i).path).2 = 0) (hf : foundN (pathsT t) (splitP (nd t i).path).1.1 = true) :
    TLoop t (i + 1) (mset m (splitP (nd t i).path).1.1 (mval m (splitP (nd t i).path).1.1 + 1)) := by
  refine ⟨by omega, fun j hj => ?_, fun p hp => ?_⟩
  · by_cases e : j = i
    · subst e; obtain ⟨a, b⟩ := condP_ok hc; exact ⟨a, b, ho, .inr (foundN_mem hf)⟩
    · exact h.ok j (by omega)
  · have := mval_bump m (splitP (nd t i).path).1.1 p
    unfold mbump at this
    rw [this, h.cnt p hp, kidsN_succ]
    by_cases e : p = (splitP (nd t i).path).1.1
    · rw [if_pos e, if_pos (show dirT t i = p from e.symm)]; omega
    · rw [if_neg e, if_neg (show ¬ dirT t i = p from fun e2 => e e2.symm)]; omega
theorem tloop_b {t : ATree} {i : Nat} {m : List (List UInt8 × Int)} (h : TLoop t i m) (hh : headOk t) (hi : i < t.nodes.length) (hc : condP t i) (ho : ownB t (nd t i).stat) (h0 : ¬ (splitP (nd t i).path).2 = 0) : TLoop t (i + 1) m := by
  obtain ⟨a, b⟩ := condP_ok hc
  have hA : ∀ j, j ≤ i → nodeA t j := fun j hj => by
    by_cases e : j = i
    · subst e; exact a
    · exact (h.ok j (by omega)).1
  refine ⟨by omega, fun j hj => ?_, fun p hp => ?_⟩
  · by_cases e : j = i
    · subst e; exact ⟨a, b, ho, upB_err hh hA h0⟩
    · exact h.ok j (by omega)
  · rw [h.cnt p hp, kidsN_succ, if_neg (show ¬ dirT t i = p from fun e2 => hp (e2.symm.trans (split_err h0)))]; rfl
theorem tloop_w {t : ATree} {i : Nat} {m : List (List UInt8 × Int)} (h : TLoop t i m) (h4 : t.nodes.length ≤ 400) (h0 : (splitP (nd t i).path).2 = 0) : IntKind.i64.wrap (mval m (splitP (nd t i).path).1.1 + 1) = mval m (splitP (nd t i).path).1.1 + 1 := by
  have a := h.cnt _ (split_ne h0)
  have b := kidsN_le t (splitP (nd t i).path).1.1 i
  have c := h.le
  simp [IntKind.wrap, IntKind.bits, IntKind.signed]; omega
theorem own_yes {t : ATree} {i : Nat} (h : (nd t i).stat.owner ∈ t.sessions ∧ (nd t i).stat.kids = 0) : ownB t (nd t i).stat := fun _ => h
theorem own_zero {t : ATree} {i : Nat} (h : (nd t i).stat.owner = 0) : ownB t (nd t i).stat := fun h2 => absurd h h2
theorem tgood_end {t : ATree} {m : List (List UInt8 × Int)} (hh : headOk t) (hs : ∀ j, j < t.sessions.length → sessOk t.sessions j) (h : TLoop t t.nodes.length m) (hk : ∀ j, j < t.nodes.length → (nd t j).stat.kids = mval m (nd t j).path) : goodTr t = true := by
  refine goodTr_iff.2 ⟨hh, hs, fun k hk => (h.ok k hk).1, fun k hk2 => ?_⟩
  obtain ⟨a, b, c, d⟩ := h.ok k hk2
  refine ⟨b, c, d, ?_⟩
  rw [hk k hk2, h.cnt _ (goodP_ne a.1)]
theorem kids_no {t : ATree} {m : List (List UInt8 × Int)} {k : Nat} (h : TLoop t t.nodes.length m) (hk : k < t.nodes.length) (hc : ¬ (nd t k).stat.kids = mval m (nd t k).path) : false = goodTr t :=
  nodeB_no hk fun ⟨_, _, _, h2⟩ => hc (by rw [h2, h.cnt _ (goodP_ne (h.ok k hk).1.1)])
set_option maxHeartbeats 8000000 in
theorem tgood_c (t : ATree) (hw : t.wf) : acall Tryd.prog [] 34 [t.av] (ret (B (goodTr t))) := by
  have hok := node_okS hw
  obtain ⟨hz, ⟨hn, hnw⟩, ⟨hs, hsw⟩⟩ := hw
  refine acall_of tabOk Tryd.func34 rfl (by kernel_rfl) (by simp [Tryd.ntmps34]) ?_; simp only [Tryd.ntmps34, Tryd.results34, List.toList_toArray, apar, List.length_nil, List.length_cons, Nat.reduceAdd]
  repeat' first
    | (with_reducible first | refine AWP.seq ?_ | refine thenA_n ?_ | refine thenA_r ?_ | refine thenA_e ?_ | refine blkA_n ?_ | refine blkA_r ?_ | refine blkA_e ?_ | refine blkA_x (by decide) ?_ | refine AWP.skip ?_ | refine AWP.ret ?_ | refine AWP.exit ?_ | refine AWP.block ?_)
    | (with_reducible refine AWP.cond rfl ?_ ?_ <;> intro hc <;> (try simp only [hcs, beq_iff_eq, ge_iff_le, gt_iff_lt] at hc))
    | ((first
      | (with_reducible first | refine AWP.region tabOk ?_ | refine AWP.quietC mixed tabOk (by decide +kernel) ?_ | refine AWP.draw mixed tabOk (by decide +kernel) ?_ | refine AWP.drawE mixed tabOk (by decide +kernel) ?_ | refine AWP.drawG mixed tabOk (by decide +kernel) ?_); intro K hK
      | ((first | refine acallH_sc (zgood_c t.zxid) rfl rfl ?_ ?_ ?_ | refine acallQ_sc (zgood_c t.zxid) rfl rfl ?_ ?_ ?_); iterate 2 (focus ((try simp (disch := omega) only [go_sem, wrap_n]) <;> (try omega) <;> fail)))
      | ((first | refine acallH_anyr (zgood_c t.zxid) rfl ?_ ?_); (focus ((try simp (disch := omega) only [go_sem, wrap_n]) <;> (try omega) <;> fail)))
      | ((first | refine acallH_scx (zgood_c t.zxid) rfl ?_ ?_ | refine acallQ_scx (zgood_c t.zxid) rfl ?_ ?_ | refine acallH_anyx (zgood_c t.zxid) ?_ ?_); (focus ((try simp (disch := omega) only [go_sem, wrap_n]) <;> (try omega) <;> fail)))); ((try simp (disch := omega) only [go_sem, wrap_n]) <;> (repeat' with_reducible refine And.intro ?_ ?_) <;> (try (with_reducible refine hK _ ?_; clear hK K))))
    | ((first | (with_reducible refine aunder_i ?_ ?_ <;> intro hg) | with_reducible intro hg) <;> (first | (exfalso; simp at hg; done) | (have hg' := hg; (try simp only [hcs, beq_iff_eq, ge_iff_le, gt_iff_lt] at hg'); ((try simp (disch := omega) only [hg, go_sem, wrap_n]) <;> (repeat' with_reducible refine And.intro ?_ ?_) <;> (try (with_reducible refine hK _ ?_; clear hK K))))))
                                                            | omega
  · (refine aend_retc ?_ rfl ?_ ?_ ?_ ?_; (focus (first | exact .inl rfl | exact .inr rfl)); (iterate 3 (focus ((try simp (disch := omega) only [go_sem, wrap_n]) <;> (try omega) <;> fail))); (try simp (disch := omega) only [go_sem, wrap_n, I, B, S, inj, List.cons.injEq, and_true, true_and, and_self]))
    refine head_no fun ⟨a1, a2, a3, a4, a5⟩ => ?_
    rcases hc with (((h | h) | h) | h) | h
    · omega
    · omega
    · exact h a3
    · exact h a4
    · exact h a5
  rotate_left
  · simp_all
  · (refine aend_retc ?_ rfl ?_ ?_ ?_ ?_; (focus (first | exact .inl rfl | exact .inr rfl)); (iterate 3 (focus ((try simp (disch := omega) only [go_sem, wrap_n]) <;> (try omega) <;> fail))); (try simp (disch := omega) only [go_sem, wrap_n, I, B, S, inj, List.cons.injEq, and_true, true_and, and_self]))
    refine head_no fun ⟨a1, a2, a3, a4, a5⟩ => ?_
    rcases hg' with ((h | h) | h) | h
    · omega
    · omega
    · exact h a3
    · exact h a4
  have hhead : headOk t := ⟨by omega, by omega, hc.1.1.2, hc.1.2, hc.2⟩
  have h400 : t.nodes.length ≤ 400 := by omega
  clear hc hg
  refine AWP.loopS (ι := Nat) (fun k => k ≤ t.sessions.length ∧ ∀ j, j < k → sessOk t.sessions j) (fun k => t.sessions.length - k) [1, 50, 51] (fun k => [(52, I k)]) 0 ?_ (by simp (disch := omega) only [go_sem, wrap_n, true_and]) ?_
  · exact ⟨by omega, fun j hj => by omega⟩
  intro k ⟨hk, hk2⟩
  simp only [go_sem]
  repeat' first
    | (with_reducible first | refine AWP.seq ?_ | refine thenA_n ?_ | refine thenA_r ?_ | refine thenA_e ?_ | refine blkA_n ?_ | refine blkA_r ?_ | refine blkA_e ?_ | refine blkA_x (by decide) ?_ | refine AWP.skip ?_ | refine AWP.ret ?_ | refine AWP.exit ?_ | refine AWP.block ?_)
    | (with_reducible refine AWP.cond rfl ?_ ?_ <;> intro hc <;> (try simp only [hcs, beq_iff_eq, ge_iff_le, gt_iff_lt] at hc))
    | ((first
      | (with_reducible first | refine AWP.region tabOk ?_ | refine AWP.quietC mixed tabOk (by decide +kernel) ?_ | refine AWP.draw mixed tabOk (by decide +kernel) ?_ | refine AWP.drawE mixed tabOk (by decide +kernel) ?_ | refine AWP.drawG mixed tabOk (by decide +kernel) ?_); intro K hK); ((try simp (disch := omega) only [go_sem, wrap_n, toNat_pr2]) <;> (repeat' with_reducible refine And.intro ?_ ?_) <;> (try (with_reducible refine hK _ ?_; clear hK K))))
    | ((first | (with_reducible refine aunder_i ?_ ?_ <;> intro hg) | with_reducible intro hg) <;> (first | (exfalso; simp at hg; done) | (have hg' := hg; (try simp only [hcs, beq_iff_eq, ge_iff_le, gt_iff_lt] at hg'); ((try simp (disch := omega) only [hg, go_sem, wrap_n, toNat_pr2]) <;> (repeat' with_reducible refine And.intro ?_ ?_) <;> (try (with_reducible refine hK _ ?_; clear hK K))))))
                                                            | omega
  · (refine aend_retc ?_ rfl ?_ ?_ ?_ ?_; (focus (first | exact .inl rfl | exact .inr rfl)); (iterate 3 (focus ((try simp (disch := omega) only [go_sem, wrap_n]) <;> (try omega) <;> fail))); (try simp (disch := omega) only [go_sem, wrap_n, I, B, S, inj, List.cons.injEq, and_true, true_and, and_self]))
    refine sess_no (k := k) (by omega) fun ⟨a1, a2, a3⟩ => ?_
    rcases hc with (h | h) | h
    · omega
    · omega
    · exact absurd (a3 (by omega)) (by omega)
  · refine ⟨k + 1, ⟨by omega, fun j hj => ?_⟩, by omega, ?_⟩
    · by_cases e : j = k
      · subst e; exact ⟨hc.1.1, hc.1.2, fun h0 => hc.2.resolve_left (by omega)⟩
      · exact hk2 j (by omega)
    (refine SImp.same ?_; simp (disch := omega) only [go_sem, wrap_n, Int.natCast_add])
  have hss : ∀ j, j < t.sessions.length → sessOk t.sessions j := fun j hj => hk2 j (by omega)
  have hri := rises_sess hss
  clear hk2 hk hc
  refine AWP.loopB (ι := Nat × List (List UInt8 × Int)) (fun v => TLoop t v.1 v.2) (fun v => t.nodes.length - v.1) [1, 5, 80, 81] (fun v => [(82, I v.1)]) (fun v => [.cells [.d (.int .i64 t.zxid), .d (.sl 9 (t.nodes.map ANode.row)), .d (.sl 1 (t.sessions.map irow))], .map v.2]) (0, []) ?_ ?_ ?_
  · exact ⟨by simp, fun j hj => by simp at hj, fun p hp => rfl⟩
  · simp only [go_sem]; (refine SImp.same ?_; simp (disch := omega) only [go_sem, wrap_n, Int.natCast_add])
  intro ⟨i, m⟩ hT
  simp only at hT
  have hokk := (hok i).1
  have hokd := (hok i).2
  have hle := hT.le
  simp only [go_sem]
  repeat' first
    | (with_reducible first | refine AWP.seq ?_ | refine thenA_n ?_ | refine thenA_r ?_ | refine thenA_e ?_ | refine blkA_n ?_ | refine blkA_r ?_ | refine blkA_e ?_ | refine blkA_x (by decide) ?_ | refine AWP.skip ?_ | refine AWP.ret ?_ | refine AWP.exit ?_ | refine AWP.block ?_)
    | (with_reducible refine AWP.cond rfl ?_ ?_ <;> intro hc <;> (try simp only [hcs, beq_iff_eq, ge_iff_le, gt_iff_lt] at hc))
    | ((first
      | (with_reducible first | refine AWP.region tabOk ?_ | refine AWP.quietC mixed tabOk (by decide +kernel) ?_ | refine AWP.draw mixed tabOk (by decide +kernel) ?_ | refine AWP.drawE mixed tabOk (by decide +kernel) ?_ | refine AWP.drawG mixed tabOk (by decide +kernel) ?_); intro K hK
      | ((first | refine acallH_sc (good_c _ hokk) rfl rfl ?_ ?_ ?_ | refine acallQ_sc (good_c _ hokk) rfl rfl ?_ ?_ ?_ | refine acallH_sc (open_c t _ hs hri) rfl rfl ?_ ?_ ?_ | refine acallQ_sc (open_c t _ hs hri) rfl rfl ?_ ?_ ?_ | refine acallH_sc (split_c _ hokk) rfl rfl ?_ ?_ ?_ | refine acallQ_sc (split_c _ hokk) rfl rfl ?_ ?_ ?_ | refine acallH_sc (findU_c t _ hn) rfl rfl ?_ ?_ ?_ | refine acallQ_sc (findU_c t _ hn) rfl rfl ?_ ?_ ?_); iterate 2 (focus ((try simp (disch := omega) only [go_sem, wrap_n, toNat_pr2, strLt_eq, List.append_eq]) <;> (try omega) <;> fail)))
      | ((first | refine acallH_anyr (good_c _ hokk) rfl ?_ ?_ | refine acallH_anyr (open_c t _ hs hri) rfl ?_ ?_ | refine acallH_anyr (split_c _ hokk) rfl ?_ ?_ | refine acallH_anyr (findU_c t _ hn) rfl ?_ ?_); (focus ((try simp (disch := omega) only [go_sem, wrap_n, toNat_pr2, strLt_eq, List.append_eq]) <;> (try omega) <;> fail)))
      | ((first | refine acallH_scx (good_c _ hokk) rfl ?_ ?_ | refine acallQ_scx (good_c _ hokk) rfl ?_ ?_ | refine acallH_anyx (good_c _ hokk) ?_ ?_); (focus ((try simp (disch := omega) only [go_sem, wrap_n, toNat_pr2, strLt_eq, List.append_eq]) <;> (try omega) <;> fail)))
      | ((first | refine acallH_scx (open_c t _ hs hri) rfl ?_ ?_ | refine acallQ_scx (open_c t _ hs hri) rfl ?_ ?_ | refine acallH_anyx (open_c t _ hs hri) ?_ ?_); (focus ((try simp (disch := omega) only [go_sem, wrap_n, toNat_pr2, strLt_eq, List.append_eq]) <;> (try omega) <;> fail)))
      | ((first | refine acallH_scx (split_c _ hokk) rfl ?_ ?_ | refine acallQ_scx (split_c _ hokk) rfl ?_ ?_ | refine acallH_anyx (split_c _ hokk) ?_ ?_); (focus ((try simp (disch := omega) only [go_sem, wrap_n, toNat_pr2, strLt_eq, List.append_eq]) <;> (try omega) <;> fail)))
      | ((first | refine acallH_scx (findU_c t _ hn) rfl ?_ ?_ | refine acallQ_scx (findU_c t _ hn) rfl ?_ ?_ | refine acallH_anyx (findU_c t _ hn) ?_ ?_); (focus ((try simp (disch := omega) only [go_sem, wrap_n, toNat_pr2, strLt_eq, List.append_eq]) <;> (try omega) <;> fail)))); ((try simp (disch := omega) only [go_sem, wrap_n, toNat_pr2, strLt_eq, List.append_eq]) <;> (repeat' with_reducible refine And.intro ?_ ?_) <;> (try (with_reducible refine hK _ ?_; clear hK K))))
    | ((first | (with_reducible refine aunder_i ?_ ?_ <;> intro hg) | with_reducible intro hg) <;> (first | (exfalso; simp at hg; done) | (have hg' := hg; (try simp only [hcs, beq_iff_eq, ge_iff_le, gt_iff_lt] at hg'); ((try simp (disch := omega) only [hg, go_sem, wrap_n, toNat_pr2, strLt_eq, List.append_eq]) <;> (repeat' with_reducible refine And.intro ?_ ?_) <;> (try (with_reducible refine hK _ ?_; clear hK K))))))
                                                            | omega
  · (refine aend_retc ?_ rfl ?_ ?_ ?_ ?_; (focus (first | exact .inl rfl | exact .inr rfl)); (iterate 3 (focus ((try simp (disch := omega) only [go_sem, wrap_n]) <;> (try omega) <;> fail))); (try simp (disch := omega) only [go_sem, wrap_n, I, B, S, inj, List.cons.injEq, and_true, true_and, and_self]))
    refine (goodTr_no fun h2 => ?_).symm
    obtain ⟨a1, a2, a3⟩ := (goodTr_iff.1 h2).2.2.1 i (by assumption)
    obtain ⟨b1, b2, b3, b4, b5, b6, b7, b8, b9⟩ := ((goodTr_iff.1 h2).2.2.2 i (by assumption)).1
    unfold nd at a1 a2 a3 b1 b2 b3 b4 b5 b6 b7 b8 b9
    rcases hc with ((((((((((h | h) | h) | h) | h) | h) | h) | h) | h) | h) | h) | h
    · rw [a1] at h; cases h
    · omega
    · exact h.2 (a3 (by omega))
    all_goals omega
  · (refine aend_retc ?_ rfl ?_ ?_ ?_ ?_; (focus (first | exact .inl rfl | exact .inr rfl)); (iterate 3 (focus ((try simp (disch := omega) only [go_sem, wrap_n]) <;> (try omega) <;> fail))); (try simp (disch := omega) only [go_sem, wrap_n, I, B, S, inj, List.cons.injEq, and_true, true_and, and_self]))
    exact own_no (i := i) (by assumption) hg' hc
  · (refine aend_retc ?_ rfl ?_ ?_ ?_ ?_; (focus (first | exact .inl rfl | exact .inr rfl)); (iterate 3 (focus ((try simp (disch := omega) only [go_sem, wrap_n]) <;> (try omega) <;> fail))); (try simp (disch := omega) only [go_sem, wrap_n, I, B, S, inj, List.cons.injEq, and_true, true_and, and_self]))
    exact up_no (i := i) (by assumption) (by assumption) hc
  · refine ⟨(i + 1, _), tloop_a hT (by assumption) (by assumption) (own_yes (by assumption)) (by assumption) hc, by simp only; omega, ?_⟩
    have hw1 := tloop_w hT h400 (by assumption)
    unfold nd at hw1 ⊢
    (refine SImp.frame [0, 1] rfl (by intro k hk; first | (simp at hk <;> (simp; omega)) | (simp only [List.mem_cons, List.not_mem_nil, or_false] at hk; simp only [List.length_cons, List.length_nil]; omega)) (by decide) (fun k hk => by first | omega | (rcases k with _ | _ | _ | _ | k <;> first | rfl | omega)) ?_ ?_ <;> simp (disch := omega) only [go_sem, wrap_n, Int.natCast_add, hw1] <;> (try rfl))
  · refine ⟨(i + 1, m), tloop_b hT hhead (by assumption) (by assumption) (own_yes (by assumption)) hc, by simp only; omega, ?_⟩
    (refine SImp.frame [0, 1] rfl (by intro k hk; first | (simp at hk <;> (simp; omega)) | (simp only [List.mem_cons, List.not_mem_nil, or_false] at hk; simp only [List.length_cons, List.length_nil]; omega)) (by decide) (fun k hk => by first | omega | (rcases k with _ | _ | _ | _ | k <;> first | rfl | omega)) ?_ ?_ <;> simp (disch := omega) only [go_sem, wrap_n, Int.natCast_add, true_and] <;> (try rfl))
  · (refine aend_retc ?_ rfl ?_ ?_ ?_ ?_; (focus (first | exact .inl rfl | exact .inr rfl)); (iterate 3 (focus ((try simp (disch := omega) only [go_sem, wrap_n]) <;> (try omega) <;> fail))); (try simp (disch := omega) only [go_sem, wrap_n, I, B, S, inj, List.cons.injEq, and_true, true_and, and_self]))
    exact up_no (i := i) (by assumption) (by assumption) hc
  · refine ⟨(i + 1, _), tloop_a hT (by assumption) (by assumption) (own_zero hg') (by assumption) hc, by simp only; omega, ?_⟩
    have hw1 := tloop_w hT h400 (by assumption)
    unfold nd at hw1 ⊢
    (refine SImp.frame [0, 1] rfl (by intro k hk; first | (simp at hk <;> (simp; omega)) | (simp only [List.mem_cons, List.not_mem_nil, or_false] at hk; simp only [List.length_cons, List.length_nil]; omega)) (by decide) (fun k hk => by first | omega | (rcases k with _ | _ | _ | _ | k <;> first | rfl | omega)) ?_ ?_ <;> simp (disch := omega) only [go_sem, wrap_n, Int.natCast_add, hw1] <;> (try rfl))
  · refine ⟨(i + 1, m), tloop_b hT hhead (by assumption) (by assumption) (own_zero hg') hc, by simp only; omega, ?_⟩
    (refine SImp.frame [0, 1] rfl (by intro k hk; first | (simp at hk <;> (simp; omega)) | (simp only [List.mem_cons, List.not_mem_nil, or_false] at hk; simp only [List.length_cons, List.length_nil]; omega)) (by decide) (fun k hk => by first | omega | (rcases k with _ | _ | _ | _ | k <;> first | rfl | omega)) ?_ ?_ <;> simp (disch := omega) only [go_sem, wrap_n, Int.natCast_add, true_and] <;> (try rfl))
  obtain rfl : i = t.nodes.length := by omega
  clear hc
  refine AWP.loopB (ι := Nat) (fun k => k ≤ t.nodes.length ∧ ∀ j, j < k → (nd t j).stat.kids = mval m (nd t j).path) (fun k => t.nodes.length - k) [5, 206, 207] (fun k => [(208, I k)]) (fun k => [.cells [.d (.int .i64 t.zxid), .d (.sl 9 (t.nodes.map ANode.row)), .d (.sl 1 (t.sessions.map irow))], .map m]) 0 ?_ ?_ ?_
  · exact ⟨by omega, fun j hj => by omega⟩
  · simp only [go_sem]; (refine SImp.same ?_; simp (disch := omega) only [go_sem, wrap_n, Int.natCast_add])
  intro j ⟨hj, hj2⟩
  simp only [go_sem]
  repeat' first
    | (with_reducible first | refine AWP.seq ?_ | refine thenA_n ?_ | refine thenA_r ?_ | refine thenA_e ?_ | refine blkA_n ?_ | refine blkA_r ?_ | refine blkA_e ?_ | refine blkA_x (by decide) ?_ | refine AWP.skip ?_ | refine AWP.ret ?_ | refine AWP.exit ?_ | refine AWP.block ?_)
    | (with_reducible refine AWP.cond rfl ?_ ?_ <;> intro hc <;> (try simp only [hcs, beq_iff_eq, ge_iff_le, gt_iff_lt] at hc))
    | ((first
      | (with_reducible first | refine AWP.region tabOk ?_ | refine AWP.quietC mixed tabOk (by decide +kernel) ?_ | refine AWP.draw mixed tabOk (by decide +kernel) ?_ | refine AWP.drawE mixed tabOk (by decide +kernel) ?_ | refine AWP.drawG mixed tabOk (by decide +kernel) ?_); intro K hK); ((try simp (disch := omega) only [go_sem, wrap_n]) <;> (repeat' with_reducible refine And.intro ?_ ?_) <;> (try (with_reducible refine hK _ ?_; clear hK K))))
    | ((first | (with_reducible refine aunder_i ?_ ?_ <;> intro hg) | with_reducible intro hg) <;> (first | (exfalso; simp at hg; done) | (have hg' := hg; (try simp only [hcs, beq_iff_eq, ge_iff_le, gt_iff_lt] at hg'); ((try simp (disch := omega) only [hg, go_sem, wrap_n]) <;> (repeat' with_reducible refine And.intro ?_ ?_) <;> (try (with_reducible refine hK _ ?_; clear hK K))))))
                                                            | omega
  · (refine aend_retc ?_ rfl ?_ ?_ ?_ ?_; (focus (first | exact .inl rfl | exact .inr rfl)); (iterate 3 (focus ((try simp (disch := omega) only [go_sem, wrap_n]) <;> (try omega) <;> fail))); (try simp (disch := omega) only [go_sem, wrap_n, I, B, S, inj, List.cons.injEq, and_true, true_and, and_self]))
    exact kids_no (k := j) hT (by assumption) hc
  · refine ⟨j + 1, ⟨by omega, fun q hq => ?_⟩, by omega, ?_⟩
    · by_cases e : q = j
      · subst e; exact hc
      · exact hj2 q (by omega)
    (refine SImp.frame [0, 1] rfl (by intro k hk; first | (simp at hk <;> (simp; omega)) | (simp only [List.mem_cons, List.not_mem_nil, or_false] at hk; simp only [List.length_cons, List.length_nil]; omega)) (by decide) (fun k hk => by first | omega | (rcases k with _ | _ | _ | _ | k <;> first | rfl | omega)) ?_ ?_ <;> simp (disch := omega) only [go_sem, wrap_n, Int.natCast_add, true_and] <;> (try rfl))
  · (refine aend_retc ?_ rfl ?_ ?_ ?_ ?_; (focus (first | exact .inl rfl | exact .inr rfl)); (iterate 3 (focus ((try simp (disch := omega) only [go_sem, wrap_n]) <;> (try omega) <;> fail))); (try simp (disch := omega) only [go_sem, wrap_n, I, B, S, inj, List.cons.injEq, and_true, true_and, and_self]))
    exact (tgood_end hhead hss hT (fun q hq => hj2 q (by omega))).symm
end Go.Proofs.YtmpfhalheaeibaaDoor
