/- A part of what StoreCommits leans on: texts of this claim, one behind the other. No condition. -/
import Derived.Test.YtmpfhalheaeibaaGreatDoorStoreCommitsK12
namespace Go.Proofs.YtmpfhalheaeibaaGreatDoor
set_option linter.unusedVariables false
set_option linter.unusedSimpArgs false
open Go Go.RowKit
set_option maxRecDepth 100000
set_option linter.unusedSimpArgs false
theorem runC_ok : ∀ (X : List ATxn) (p : CSt), okT p.t → (∀ x, x ∈ X → x.wf ∧ x.path.length ≤ 1048576) → okT (runC X p).1.t ∧ (runC X p).1.n.length + (runC X p).1.w.length ≤ p.n.length + p.w.length
  | [], p, h, _ => ⟨h, Nat.le_refl _⟩
  | x :: X, p, h, hX => by
    by_cases he : (applyT p.t x).2.2 = 0
    · rw [runC_cons he]
      obtain ⟨x1, x2⟩ := hX x (List.mem_cons_self ..)
      obtain ⟨a, b⟩ := runC_ok X (nextC (applyT p.t x) p x) (nextC_ok h x1 x2) fun y hy => hX y (List.mem_cons_of_mem _ hy)
      have := nextC_len (applyT p.t x) p x
      exact ⟨a, by omega⟩
    · rw [runC_stop he]; exact ⟨h, Nat.le_refl _⟩
theorem commit_lenS {s : AServer} {n : Int} (hw : s.wf) (ht : okT s.tree) (hx : ∀ x, x ∈ s.peer.log → x.path.length ≤ 1048576) : lenS (commitS s n).1 ∧ (commitS s n).2.1.length * 32 ≤ 140737488351232 := by
  obtain ⟨_, h1, h2, h3, h4⟩ := hw
  unfold commitS
  split
  · exact ⟨default_lenS, by decide⟩
  · have hX : ∀ x, x ∈ (s.peer.log.drop s.peer.done.toNat).take (n.toNat - s.peer.done.toNat) → x.wf ∧ x.path.length ≤ 1048576 := fun x hm => by
      have hm2 := List.mem_of_mem_drop (List.mem_of_mem_take hm)
      exact ⟨h2.2.2.1.2 x hm2, hx x hm2⟩
    obtain ⟨a, b⟩ := runC_ok _ ⟨s.tree, s.watches, []⟩ ht hX
    simp only [List.length_nil] at b
    have h5 := h4.1
    simp only
    split
    · exact ⟨⟨h1.1, h2.2.2.1.1, a.1, by simp only; omega⟩, by simp only; omega⟩
    · exact ⟨default_lenS, (by decide : (0 : Nat) * 32 ≤ 140737488351232)⟩
set_option maxHeartbeats 8000000 in
theorem storeCommits_w (s : AServer) (n : Int) (hw : s.wf) (ht : okT s.tree) (hx : ∀ x, x ∈ s.peer.log → x.path.length ≤ 1048576) : acall Tryz.prog [] 3 [s.av, I n] (ret (B true)) := by
  have hcp := copyServer_c s hw
  have h1 := commit_c s n hw ht hx
  have h2 := ref_commit_c s n hw ht hx
  obtain ⟨l1, l2⟩ := commit_lenS (n := n) hw ht hx
  have s1 := sameServer_c _ l1
  have s2 := (same_notes_c _ _ l2 l2).re (congrArg B (decide_eq_true rfl))
  generalize commitS s n = q at h1 h2 s1 s2
  obtain ⟨a, p, e⟩ := q
  simp only at h1 h2 s1 s2
  refine zi tabOk Tryz.func3 rfl (by kernel_rfl) (by simp [Tryz.ntmps3]) ?_; simp only [Tryz.ntmps3, Tryz.results3, List.toList_toArray, apar, List.length_nil, List.length_cons, Nat.reduceAdd]
  (repeat' first
| (with_reducible refine AR.f ?_)
| refine zb (by decide) ?_
| (with_reducible refine AWP.cond rfl ?_ ?_ <;> intro hc <;> (try simp only [hcs, beq_iff_eq, ge_iff_le, gt_iff_lt] at hc))
| ((first | ((first | (with_reducible first | refine zR ?_ | refine zQ (by decide +kernel) ?_ | refine zD (by decide +kernel) ?_ | refine zE (by decide +kernel) ?_ | refine zG (by decide +kernel) ?_)); intro K hK) | ((first | refine zA hcp ?_ ?_ ?_ ?_ ?_ | refine zA h1 ?_ ?_ ?_ ?_ ?_ | refine zA h2 ?_ ?_ ?_ ?_ ?_ | refine zA s1 ?_ ?_ ?_ ?_ ?_ | refine zA s2 ?_ ?_ ?_ ?_ ?_ | refine zA boots_c ?_ ?_ ?_ ?_ ?_); (focus exact rfl); (focus exact rfl); iterate 2 (focus ((try simp (disch := omega) only [go_sem, wn]) <;> (try omega) <;> fail))) | ((first | refine zN hcp rfl ?_ ?_ | refine zN h1 rfl ?_ ?_ | refine zN h2 rfl ?_ ?_ | refine zN s1 rfl ?_ ?_ | refine zN s2 rfl ?_ ?_ | refine zN boots_c rfl ?_ ?_); (focus ((try simp (disch := omega) only [go_sem, wn]) <;> (try omega) <;> fail))) | (first | ((first | refine zX hcp rfl ?_ ?_ | refine zy hcp ?_ ?_); (focus ((try simp (disch := omega) only [go_sem, wn]) <;> (try omega) <;> fail))) | ((first | refine zX h1 rfl ?_ ?_ | refine zy h1 ?_ ?_); (focus ((try simp (disch := omega) only [go_sem, wn]) <;> (try omega) <;> fail))) | ((first | refine zX h2 rfl ?_ ?_ | refine zy h2 ?_ ?_); (focus ((try simp (disch := omega) only [go_sem, wn]) <;> (try omega) <;> fail))) | ((first | refine zX s1 rfl ?_ ?_ | refine zy s1 ?_ ?_); (focus ((try simp (disch := omega) only [go_sem, wn]) <;> (try omega) <;> fail))) | ((first | refine zX s2 rfl ?_ ?_ | refine zy s2 ?_ ?_); (focus ((try simp (disch := omega) only [go_sem, wn]) <;> (try omega) <;> fail))) | ((first | refine zX boots_c rfl ?_ ?_ | refine zy boots_c ?_ ?_); (focus ((try simp (disch := omega) only [go_sem, wn]) <;> (try omega) <;> fail)))) | ((first | (with_reducible refine zu ?_ ?_ <;> intro hg) | with_reducible intro hg) <;> (first | (exfalso; simp at hg; done) | (have hg' := hg; (try simp only [hcs, beq_iff_eq, ge_iff_le, gt_iff_lt] at hg'); (try simp only [hg]))))) <;> (try simp (disch := omega) only [go_sem, wn]) <;> (repeat' with_reducible refine And.intro ?_ ?_) <;> (try (with_reducible refine hK _ ?_; clear hK K)))
| omega)
  all_goals (refine zF rfl ?_ ?_ ?_ ?_; (iterate 3 (focus ((try simp (disch := omega) only [go_sem, wn]) <;> (try omega) <;> fail))); (try simp (disch := omega) only [go_sem, wn, I, B, S, inj, List.cons.injEq, and_true, true_and, and_self]))
theorem storeCommits_u (dss : List (List DV)) (h : typeds T 6 Tryz.f3.params.toList dss) (hs : ∀ cs, cs ∈ dss → ∀ c, c ∈ cs → SmallD 1048576 c) : acall Tryz.prog [] 3 (aargs T Tryz.f3.params.toList dss) (fun v _ => v = B true) := by
  rw [Tryz.params3] at h ⊢
  simp only [List.toList_toArray, typeds] at h
  obtain ⟨c0, d0, rfl, h0, c1, d1, rfl, h1, rfl⟩ := h
  have s0 := hs c0 (by simp)
  have s1 := hs c1 (by simp)
  obtain ⟨s, rfl, w_s⟩ := AServer_typed (m := 0) h0
  obtain ⟨n, rfl, w_n⟩ := ty_int (m := 5) (by simp only [T_3, ty3]) h1
  have u_s := s0
  have u_n := s1
  simp only [List.toList_toArray, aargs, aarg, TI.agg_mk, T_3, ty3, T_34, ty34]
  exact (storeCommits_w s n w_s ⟨w_s.2.2.2.1, fun y hy => ((u_s (DV.sl 9 (s.tree.nodes.map ANode.row)) (by simp [AServer.row])).rows.2 _ (List.mem_map_of_mem hy) (DV.str y.path) (by simp [ANode.row])).len⟩ (fun x hx => ((u_s (DV.sl 7 (s.peer.log.map ATxn.row)) (by simp [AServer.row])).rows.2 _ (List.mem_map_of_mem hx) (DV.str x.path) (by simp [ATxn.row])).len)).mono fun _ _ h => h.1
end Go.Proofs.YtmpfhalheaeibaaGreatDoor
