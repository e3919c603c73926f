/- A part of what WorldNil leans on: texts of this claim, one behind the other. No condition. -/
import Derived.Shelf.Strconv.Itoa3
import Derived.Test.YtainmipdnjcbkaaGreatDoorProg
import Derived.KernelRfl
import Derived.Test.YtainmipdnjcbkaaGreatDoorWorldNilK7
namespace Go.Proofs.YtainmipdnjcbkaaGreatDoor
open Go Go.Shelf
end Go.Proofs.YtainmipdnjcbkaaGreatDoor
namespace Go.Proofs.YtainmipdnjcbkaaGreatDoor
set_option linter.unusedVariables false
set_option linter.unusedSimpArgs false
open Go Go.RowKit
set_option maxRecDepth 100000
set_option linter.unusedSimpArgs false
end Go.Proofs.YtainmipdnjcbkaaGreatDoor
namespace Go.Proofs.YtainmipdnjcbkaaGreatDoor
set_option linter.unusedVariables false
set_option linter.unusedSimpArgs false
open Go Go.RowKit
set_option maxRecDepth 100000
set_option linter.unusedSimpArgs false
end Go.Proofs.YtainmipdnjcbkaaGreatDoor
namespace Go.Proofs.YtainmipdnjcbkaaGreatDoor
set_option linter.unusedVariables false
set_option linter.unusedSimpArgs false
open Go Go.RowKit
set_option maxRecDepth 100000
set_option linter.unusedSimpArgs false
structure GS (s : AServer) : Prop where
  w : s.wf
  t : okT s.tree
  p : ∀ x, x ∈ s.peer.log → x.path.length ≤ 1048576
structure TkInv (X : List ATxn) (F : AServer × Int) (v : Nat × AServer) : Prop where
  k : v.1 ≤ X.length
  f : takesS v.2 (X.drop v.1) = F
  w : v.2.wf
  l : v.2.peer.log.length + (X.length - v.1) ≤ 1048576
theorem TkInv.end {X : List ATxn} {F : AServer × Int} {v : Nat × AServer} (h : TkInv X F v) (hk : ¬ v.1 < X.length) : F = (v.2, 0) := by
  have h2 := h.f
  rw [List.drop_of_length_le (by have := h.k; omega)] at h2
  exact h2.symm
end Go.Proofs.YtainmipdnjcbkaaGreatDoor
namespace Go.Proofs.YtainmipdnjcbkaaGreatDoor
set_option linter.unusedVariables false
set_option linter.unusedSimpArgs false
open Go Go.RowKit
set_option maxRecDepth 100000
set_option linter.unusedSimpArgs false
theorem same_client_c (a b : AClient) (h : a.cache.length * 40 ≤ 140737488351232) (h2 : b.cache.length * 40 ≤ 140737488351232) : acall Tryz.prog [] 32 [a.av, b.av] (ret (B (decide (a = b)))) := by
  refine zI Tryz.func32 rfl (by kernel_rfl) (by simp [Tryz.ntmps32]) ?_; simp only [Tryz.ntmps32, Tryz.results32, go_sem]
  (repeat' first
| (with_reducible refine AR.f ?_)
| refine zb (by decide) ?_
| (with_reducible refine AWP.cond rfl ?_ ?_ <;> intro hc <;> (try simp only [hcs, beq_iff_eq, ge_iff_le, gt_iff_lt] at hc))
| ((first | ((first | (with_reducible first | refine zR ?_ | refine zQ (by decide +kernel) ?_ | refine zD (by decide +kernel) ?_ | refine zE (by decide +kernel) ?_ | refine zG (by decide +kernel) ?_)); intro K hK) | ((first | (with_reducible refine zu ?_ ?_ <;> intro hg) | with_reducible intro hg) <;> (first | (exfalso; simp at hg; done) | (have hg' := hg; (try simp only [hcs, beq_iff_eq, ge_iff_le, gt_iff_lt] at hg'); (try simp only [hg]))))) <;> (try simp (disch := omega) only [go_sem, wn]) <;> (repeat' with_reducible refine And.intro ?_ ?_) <;> (try (with_reducible refine hK _ ?_; clear hK K)))
| omega)
  · (refine zF rfl ?_ ?_ ?_ ?_; (iterate 3 (focus ((try simp (disch := omega) only [go_sem, wn]) <;> (try omega) <;> fail))); (try simp (disch := omega) only [go_sem, wn, I, B, S, zj]))
    symm; rw [decide_eq_false_iff_not]; intro e; subst e; simp at hc
  have h3 := hc
  refine AWP.loopS (ι := Nat) (fun k => k ≤ a.cache.length ∧ ∀ j, j < k → a.cache.getD j default = b.cache.getD j default) (fun k => a.cache.length - k) [2, 3, 29] (fun k => [(30, I k)]) 0 ?_ (by simp (disch := omega) only [go_sem, wn, true_and]) ?_
  · exact ⟨by omega, by omega⟩
  intro k ⟨hk, hk2⟩
  simp only [go_sem]
  (repeat' first
| (with_reducible refine AR.f ?_)
| refine zb (by decide) ?_
| (with_reducible refine AWP.cond rfl ?_ ?_ <;> intro hc <;> (try simp only [hcs, beq_iff_eq, ge_iff_le, gt_iff_lt] at hc))
| ((first | ((first | (with_reducible first | refine zR ?_ | refine zQ (by decide +kernel) ?_ | refine zD (by decide +kernel) ?_ | refine zE (by decide +kernel) ?_ | refine zG (by decide +kernel) ?_)); intro K hK) | ((first | (with_reducible refine zu ?_ ?_ <;> intro hg) | with_reducible intro hg) <;> (first | (exfalso; simp at hg; done) | (have hg' := hg; (try simp only [hcs, beq_iff_eq, ge_iff_le, gt_iff_lt] at hg'); (try simp only [hg]))))) <;> (try simp (disch := omega) only [go_sem, wn]) <;> (repeat' with_reducible refine And.intro ?_ ?_) <;> (try (with_reducible refine hK _ ?_; clear hK K)))
| omega)
  · (refine zF rfl ?_ ?_ ?_ ?_; (iterate 3 (focus ((try simp (disch := omega) only [go_sem, wn]) <;> (try omega) <;> fail))); (try simp (disch := omega) only [go_sem, wn, I, B, S, zj]))
    symm; rw [decide_eq_false_iff_not]; intro e; subst e; simp at hc
  · refine ⟨k + 1, ⟨by omega, fun j hj => ?_⟩, by omega, ?_⟩
    · by_cases e : j = k
      · subst e; exact hc
      · exact hk2 j (by omega)
    (refine SImp.same ?_; simp (disch := omega) only [go_sem, wn, Int.natCast_add])
  · (refine zF rfl ?_ ?_ ?_ ?_; (iterate 3 (focus ((try simp (disch := omega) only [go_sem, wn]) <;> (try omega) <;> fail))); (try simp (disch := omega) only [go_sem, wn, I, B, S, zj]))
    symm; rw [decide_eq_true_eq, AClient.ext_iff]
    exact ⟨h3.1.1, h3.1.2, eq_of_getD (by omega) fun j hj => hk2 j (by omega)⟩
end Go.Proofs.YtainmipdnjcbkaaGreatDoor
namespace Go.Proofs.YtainmipdnjcbkaaGreatDoor
set_option linter.unusedVariables false
set_option linter.unusedSimpArgs false
open Go Go.RowKit
set_option maxRecDepth 100000
set_option linter.unusedSimpArgs false
def cw (w : AWorld) : CW := ⟨w.s, w.c, w.leader, w.f, w.done.length, w.deeds⟩
theorem cw_s (w : AWorld) : (cw w).s = w.s := rfl
theorem cw_c (w : AWorld) : (cw w).c = w.c := rfl
theorem cw_l (w : AWorld) : (cw w).leader = w.leader := rfl
theorem cw_f (w : AWorld) : (cw w).f = w.f := rfl
theorem cw_n (w : AWorld) : (cw w).n = w.done.length := rfl
theorem cw_d (w : AWorld) : (cw w).deeds = w.deeds := rfl
attribute [go_sem] cw_s cw_c cw_l cw_f cw_n cw_d
structure WL (w : AWorld) : Prop where
  sl : w.sv.length = 3
  fl : w.fl.length = 3
  cl : w.cl.length = 16
end Go.Proofs.YtainmipdnjcbkaaGreatDoor
namespace Go.Proofs.YtainmipdnjcbkaaGreatDoor
set_option linter.unusedVariables false
set_option linter.unusedSimpArgs false
open Go Go.RowKit
set_option maxRecDepth 100000
set_option linter.unusedSimpArgs false
theorem nil_do_c (d : ADeed) : acall Tryz.prog [] 28 [.d (.sc (.pointer none)), d.av] (ret (AReply.av ⟨14, 0, [], [], ⟨0, 0, 0, 0, 0, 0, 0⟩, []⟩)) := by
  refine zI Tryz.func28 rfl (by kernel_rfl) (by simp [Tryz.ntmps28]) ?_; simp only [Tryz.ntmps28, Tryz.results28, go_sem]
  (repeat' first
| (with_reducible refine AR.f ?_)
| refine zb (by decide) ?_
| (with_reducible refine AWP.cond rfl ?_ ?_ <;> intro hc <;> (try simp only [hcs, beq_iff_eq, ge_iff_le, gt_iff_lt] at hc))
| ((first | ((first | (with_reducible first | refine zR ?_ | refine zQ (by decide +kernel) ?_ | refine zD (by decide +kernel) ?_ | refine zE (by decide +kernel) ?_ | refine zG (by decide +kernel) ?_)); intro K hK) | ((first | (with_reducible refine zu ?_ ?_ <;> intro hg) | with_reducible intro hg) <;> (first | (exfalso; simp at hg; done) | (have hg' := hg; (try simp only [hcs, beq_iff_eq, ge_iff_le, gt_iff_lt] at hg'); (try simp only [hg]))))) <;> (try simp (disch := omega) only [go_sem, wn]) <;> (repeat' with_reducible refine And.intro ?_ ?_) <;> (try (with_reducible refine hK _ ?_; clear hK K)))
| omega)
  all_goals first | contradiction | skip
  all_goals (refine zF rfl ?_ ?_ ?_ ?_; (iterate 3 (focus ((try simp (disch := omega) only [go_sem, wn]) <;> (try omega) <;> fail))); (try simp (disch := omega) only [go_sem, wn, I, B, S, zj]))
theorem nil_leader_c : acall Tryz.prog [] 29 [.d (.sc (.pointer none))] (ret (I (-1))) := by
  refine zI Tryz.func29 rfl (by kernel_rfl) (by simp [Tryz.ntmps29]) ?_; simp only [Tryz.ntmps29, Tryz.results29, go_sem]
  (repeat' first
| (with_reducible refine AR.f ?_)
| refine zb (by decide) ?_
| (with_reducible refine AWP.cond rfl ?_ ?_ <;> intro hc <;> (try simp only [hcs, beq_iff_eq, ge_iff_le, gt_iff_lt] at hc))
| ((first | ((first | (with_reducible first | refine zR ?_ | refine zQ (by decide +kernel) ?_ | refine zD (by decide +kernel) ?_ | refine zE (by decide +kernel) ?_ | refine zG (by decide +kernel) ?_)); intro K hK) | ((first | (with_reducible refine zu ?_ ?_ <;> intro hg) | with_reducible intro hg) <;> (first | (exfalso; simp at hg; done) | (have hg' := hg; (try simp only [hcs, beq_iff_eq, ge_iff_le, gt_iff_lt] at hg'); (try simp only [hg]))))) <;> (try simp (disch := omega) only [go_sem, wn]) <;> (repeat' with_reducible refine And.intro ?_ ?_) <;> (try (with_reducible refine hK _ ?_; clear hK K)))
| omega)
  all_goals first | contradiction | skip
  all_goals (refine zF rfl ?_ ?_ ?_ ?_; (iterate 3 (focus ((try simp (disch := omega) only [go_sem, wn]) <;> (try omega) <;> fail))); (try simp (disch := omega) only [go_sem, wn, I, B, S, zj]))
theorem nil_ack_c : acall Tryz.prog [] 30 [.d (.sc (.pointer none))] (ret (.d (.sl 7 []))) := by
  refine zI Tryz.func30 rfl (by kernel_rfl) (by simp [Tryz.ntmps30]) ?_; simp only [Tryz.ntmps30, Tryz.results30, go_sem]
  (repeat' first
| (with_reducible refine AR.f ?_)
| refine zb (by decide) ?_
| (with_reducible refine AWP.cond rfl ?_ ?_ <;> intro hc <;> (try simp only [hcs, beq_iff_eq, ge_iff_le, gt_iff_lt] at hc))
| ((first | ((first | (with_reducible first | refine zR ?_ | refine zQ (by decide +kernel) ?_ | refine zD (by decide +kernel) ?_ | refine zE (by decide +kernel) ?_ | refine zG (by decide +kernel) ?_)); intro K hK) | ((first | (with_reducible refine zu ?_ ?_ <;> intro hg) | with_reducible intro hg) <;> (first | (exfalso; simp at hg; done) | (have hg' := hg; (try simp only [hcs, beq_iff_eq, ge_iff_le, gt_iff_lt] at hg'); (try simp only [hg]))))) <;> (try simp (disch := omega) only [go_sem, wn]) <;> (repeat' with_reducible refine And.intro ?_ ?_) <;> (try (with_reducible refine hK _ ?_; clear hK K)))
| omega)
  all_goals first | contradiction | skip
  all_goals (refine zF rfl ?_ ?_ ?_ ?_; (iterate 3 (focus ((try simp (disch := omega) only [go_sem, wn]) <;> (try omega) <;> fail))); (try simp (disch := omega) only [go_sem, wn, I, B, S, zj]))
theorem nil_server_c (i : Int) : acall Tryz.prog [] 31 [.d (.sc (.pointer none)), I i] (ret (AServer.av ⟨false, ⟨[]⟩, ⟨0, 0, [], 0⟩, ⟨0, [], []⟩, []⟩)) := by
  refine zI Tryz.func31 rfl (by kernel_rfl) (by simp [Tryz.ntmps31]) ?_; simp only [Tryz.ntmps31, Tryz.results31, go_sem]
  (repeat' first
| (with_reducible refine AR.f ?_)
| refine zb (by decide) ?_
| (with_reducible refine AWP.cond rfl ?_ ?_ <;> intro hc <;> (try simp only [hcs, beq_iff_eq, ge_iff_le, gt_iff_lt] at hc))
| ((first | ((first | (with_reducible first | refine zR ?_ | refine zQ (by decide +kernel) ?_ | refine zD (by decide +kernel) ?_ | refine zE (by decide +kernel) ?_ | refine zG (by decide +kernel) ?_)); intro K hK) | ((first | (with_reducible refine zu ?_ ?_ <;> intro hg) | with_reducible intro hg) <;> (first | (exfalso; simp at hg; done) | (have hg' := hg; (try simp only [hcs, beq_iff_eq, ge_iff_le, gt_iff_lt] at hg'); (try simp only [hg]))))) <;> (try simp (disch := omega) only [go_sem, wn]) <;> (repeat' with_reducible refine And.intro ?_ ?_) <;> (try (with_reducible refine hK _ ?_; clear hK K)))
| omega)
  all_goals first | contradiction | skip
  all_goals (refine zF rfl ?_ ?_ ?_ ?_; (iterate 3 (focus ((try simp (disch := omega) only [go_sem, wn]) <;> (try omega) <;> fail))); (try simp (disch := omega) only [go_sem, wn, I, B, S, zj]))
theorem nil_client_c (i : Int) : acall Tryz.prog [] 33 [.d (.sc (.pointer none)), I i] (ret (AClient.av ⟨0, 0, []⟩)) := by
  refine zI Tryz.func33 rfl (by kernel_rfl) (by simp [Tryz.ntmps33]) ?_; simp only [Tryz.ntmps33, Tryz.results33, go_sem]
  (repeat' first
| (with_reducible refine AR.f ?_)
| refine zb (by decide) ?_
| (with_reducible refine AWP.cond rfl ?_ ?_ <;> intro hc <;> (try simp only [hcs, beq_iff_eq, ge_iff_le, gt_iff_lt] at hc))
| ((first | ((first | (with_reducible first | refine zR ?_ | refine zQ (by decide +kernel) ?_ | refine zD (by decide +kernel) ?_ | refine zE (by decide +kernel) ?_ | refine zG (by decide +kernel) ?_)); intro K hK) | ((first | (with_reducible refine zu ?_ ?_ <;> intro hg) | with_reducible intro hg) <;> (first | (exfalso; simp at hg; done) | (have hg' := hg; (try simp only [hcs, beq_iff_eq, ge_iff_le, gt_iff_lt] at hg'); (try simp only [hg]))))) <;> (try simp (disch := omega) only [go_sem, wn]) <;> (repeat' with_reducible refine And.intro ?_ ?_) <;> (try (with_reducible refine hK _ ?_; clear hK K)))
| omega)
  all_goals first | contradiction | skip
  all_goals (refine zF rfl ?_ ?_ ?_ ?_; (iterate 3 (focus ((try simp (disch := omega) only [go_sem, wn]) <;> (try omega) <;> fail))); (try simp (disch := omega) only [go_sem, wn, I, B, S, zj]))
set_option maxHeartbeats 8000000 in
theorem worldNil_w (d : ADeed) (i : Int) : acall Tryz.prog [] 5 [d.av, I i] (ret (B true)) := by
  have h1 := nil_do_c d
  have h2 := nil_server_c i
  have h3 := nil_client_c i
  have s1 := sameServer_c ⟨false, ⟨[]⟩, ⟨0, 0, [], 0⟩, ⟨0, [], []⟩, []⟩ ⟨by simp, by simp, ⟨by show (-9223372036854775808 : Int) ≤ 0 ∧ (0 : Int) ≤ 9223372036854775807; decide, ⟨by simp, fun n hn => by cases hn⟩, ⟨by simp, fun n hn => by cases hn⟩⟩, by simp⟩
  have s2 := (same_client_c ⟨0, 0, []⟩ ⟨0, 0, []⟩ (by simp) (by simp)).re (congrArg B (decide_eq_true rfl))
  refine zI Tryz.func5 rfl (by kernel_rfl) (by simp [Tryz.ntmps5]) ?_; simp only [Tryz.ntmps5, Tryz.results5, go_sem]
  (repeat' first
| (with_reducible refine AR.f ?_)
| refine zb (by decide) ?_
| (with_reducible refine AWP.cond rfl ?_ ?_ <;> intro hc <;> (try simp only [hcs, beq_iff_eq, ge_iff_le, gt_iff_lt] at hc))
| ((first | ((first | (with_reducible first | refine zR ?_ | refine zQ (by decide +kernel) ?_ | refine zD (by decide +kernel) ?_ | refine zE (by decide +kernel) ?_ | refine zG (by decide +kernel) ?_)); intro K hK) | ((first | refine zA h1 ?_ ?_ ?_ ?_ ?_ | refine zA nil_leader_c ?_ ?_ ?_ ?_ ?_ | refine zA h2 ?_ ?_ ?_ ?_ ?_ | refine zA h3 ?_ ?_ ?_ ?_ ?_ | refine zA s1 ?_ ?_ ?_ ?_ ?_ | refine zA s2 ?_ ?_ ?_ ?_ ?_); (focus exact rfl); (focus exact rfl); iterate 2 (focus ((try simp (disch := omega) only [go_sem, wn]) <;> (try omega) <;> fail))) | ((first | refine zN h1 rfl ?_ ?_ | refine zN nil_ack_c rfl ?_ ?_ | refine zN h2 rfl ?_ ?_ | refine zN h3 rfl ?_ ?_ | refine zX h1 rfl ?_ ?_ | refine zY h1 ?_ ?_ | refine zX nil_leader_c rfl ?_ ?_ | refine zY nil_ack_c ?_ ?_ | refine zX h2 rfl ?_ ?_ | refine zY h2 ?_ ?_ | refine zX h3 rfl ?_ ?_ | refine zY h3 ?_ ?_ | refine zX s1 rfl ?_ ?_ | refine zX s2 rfl ?_ ?_); (focus ((try simp (disch := omega) only [go_sem, wn]) <;> (try omega) <;> fail))) | ((first | (with_reducible refine zu ?_ ?_ <;> intro hg) | with_reducible intro hg) <;> (first | (exfalso; simp at hg; done) | (have hg' := hg; (try simp only [hcs, beq_iff_eq, ge_iff_le, gt_iff_lt] at hg'); (try simp only [hg]))))) <;> (try simp (disch := omega) only [go_sem, wn]) <;> (repeat' with_reducible refine And.intro ?_ ?_) <;> (try (with_reducible refine hK _ ?_; clear hK K)))
| omega)
  all_goals first | contradiction | skip
  all_goals (refine zF rfl ?_ ?_ ?_ ?_; (iterate 3 (focus ((try simp (disch := omega) only [go_sem, wn]) <;> (try omega) <;> fail))); (try simp (disch := omega) only [go_sem, wn, I, B, S, zj]))
theorem worldNil_u (dss : List (List DV)) (h : typeds T 6 Tryz.f5.params.toList dss) (hs : ∀ cs, cs ∈ dss → ∀ c, c ∈ cs → SmallD 1048576 c) : acall Tryz.prog [] 5 (aargs T Tryz.f5.params.toList dss) (fun v _ => v = B true) := by
  rw [Tryz.params5] at h ⊢
  simp only [List.toList_toArray, typeds] at h
  obtain ⟨c0, d0, rfl, h0, c1, d1, rfl, h1, rfl⟩ := h
  have s0 := hs c0 (by simp)
  have s1 := hs c1 (by simp)
  obtain ⟨d, rfl, w_d⟩ := ADeed_typed (m := 3) h0
  obtain ⟨i, rfl, w_i⟩ := ty_int (m := 5) (by simp only [T_3, ty3]) h1
  have u_d := s0
  have u_i := s1
  simp only [List.toList_toArray, aargs, aarg, TI.agg_mk, T_3, ty3, T_52, ty52]
  exact (worldNil_w d i).mono fun _ _ h => h.1
end Go.Proofs.YtainmipdnjcbkaaGreatDoor
