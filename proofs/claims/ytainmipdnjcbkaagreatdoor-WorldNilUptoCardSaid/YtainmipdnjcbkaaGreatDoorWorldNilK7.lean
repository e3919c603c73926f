/- A part of what WorldNil leans on: texts of this claim, one behind the other. No condition. -/
import Derived.Lib.IndexLaws
import Derived.Lib.ItoaNum
import Derived.Test.YtainmipdnjcbkaaGreatDoorWorldNilK6
namespace Go.Proofs.YtainmipdnjcbkaaGreatDoor
set_option linter.unusedVariables false
set_option linter.unusedSimpArgs false
open Go Go.RowKit
set_option maxRecDepth 100000
set_option linter.unusedSimpArgs false
def joinL : List (List UInt8) → List UInt8
  | [] => []
  | p :: ps => 47 :: (p ++ joinL ps)
def pathOf (ps : List (List UInt8)) : List UInt8 := if ps = [] then [47] else joinL ps
theorem joinL_app (a b : List (List UInt8)) : joinL (a ++ b) = joinL a ++ joinL b := by
  induction a with
  | nil => rfl
  | cons p a ih => simp [joinL, ih]
theorem splitB_47 (b : List UInt8) : splitB (47 :: b) = [] :: splitB b := by simp [splitB]
theorem splitB_other {c : UInt8} (h : ¬ c = 47) (r : List UInt8) : splitB (c :: r) = match splitB r with
    | p :: ps => (c :: p) :: ps
    | [] => [[c]] := by simp only [splitB, if_neg h] <;> (cases splitB r <;> rfl)
theorem splitB_app (a b : List UInt8) : splitB (a ++ 47 :: b) = splitB a ++ splitB b := by
  induction a with
  | nil => exact splitB_47 b
  | cons c a ih =>
    by_cases h : c = 47
    · subst h
      rw [List.cons_append, splitB_47, splitB_47, ih]; rfl
    · rw [List.cons_append, splitB_other h, splitB_other h, ih]
      cases hs : splitB a with
      | nil => exact absurd hs (splitB_ne a)
      | cons p ps => rfl
theorem splitB_no {p : List UInt8} (h : (47 : UInt8) ∉ p) : splitB p = [p] := by
  induction p with
  | nil => rfl
  | cons c p ih =>
    rw [List.mem_cons, not_or] at h
    rw [splitB_other (fun e => h.1 e.symm), ih h.2]
theorem splitB_join {p : List UInt8} {ps : List (List UInt8)} (hp : (47 : UInt8) ∉ p) (h : ∀ q, q ∈ ps → (47 : UInt8) ∉ q) : splitB (p ++ joinL ps) = p :: ps := by
  induction ps generalizing p with
  | nil => rw [joinL, List.append_nil, splitB_no hp]
  | cons q ps ih =>
    rw [joinL, splitB_app, splitB_no hp, ih (h q (by simp)) (fun x hx => h x (List.mem_cons_of_mem _ hx))]; rfl
theorem join_splitB : ∀ (r : List UInt8), ∃ q qs, splitB r = q :: qs ∧ r = q ++ joinL qs
  | [] => ⟨[], [], rfl, rfl⟩
  | c :: r => by
    obtain ⟨q, qs, e1, e2⟩ := join_splitB r
    by_cases h : c = 47
    · subst h
      exact ⟨[], q :: qs, by rw [splitB_47, e1], by rw [e2]; rfl⟩
    · refine ⟨c :: q, qs, ?_, by rw [e2]; rfl⟩
      rw [splitB_other h, e1]
theorem named_no {p : List UInt8} (h : namedP p = true) : (47 : UInt8) ∉ p := by
  intro hm
  unfold namedP at h
  rw [Bool.and_eq_true, List.all_eq_true] at h
  have := h.1 _ hm
  revert this; decide
def stepsOf (s : List UInt8) : List (List UInt8) := if s = [47] then [] else splitB (s.drop 1)
theorem good_path {s : List UInt8} (h : goodP s = true) : s = pathOf (stepsOf s) ∧ (∀ q, q ∈ stepsOf s → namedP q = true) ∧ s.length ≤ 200 ∧ ∀ q, q ∈ stepsOf s → (47 : UInt8) ∉ q := by
  have hl := goodP_len h
  have key : s = pathOf (stepsOf s) ∧ (∀ q, q ∈ stepsOf s → namedP q = true) := by
    unfold stepsOf
    by_cases h47 : s = [47]
    · rw [if_pos h47]
      exact ⟨by rw [h47]; rfl, by simp⟩
    · rw [if_neg h47]
      unfold goodP at h
      rw [decide_eq_false h47, Bool.false_or, Bool.and_eq_true, Bool.and_eq_true, decide_eq_true_eq, decide_eq_true_eq] at h
      obtain ⟨_, ⟨h1, h2⟩, h3⟩ := h
      cases s with
      | nil => simp at h1
      | cons c r =>
        have hc : c = 47 := by simpa using h2
        subst hc
        obtain ⟨q, qs, e1, e2⟩ := join_splitB r
        refine ⟨?_, fun x hx => ?_⟩
        · show 47 :: r = pathOf (splitB r)
          rw [e1]
          unfold pathOf
          rw [if_neg (by simp), joinL, ← e2]
        · unfold allNamed at h3
          exact List.all_eq_true.1 h3 x hx
  exact ⟨key.1, key.2, hl, fun q hq => named_no (key.2 q hq)⟩
theorem joinL_47 {ps : List (List UInt8)} (hn : ∀ q, q ∈ ps → namedP q = true) : joinL ps ≠ [47] := by
  cases ps with
  | nil => simp [joinL]
  | cons p ps =>
    intro h
    have hp := hn p (by simp)
    rw [joinL, List.cons.injEq] at h
    have h2 := List.append_eq_nil_iff.1 h.2
    rw [h2.1] at hp
    revert hp; decide
theorem pathOf_47 {ps : List (List UInt8)} (hn : ∀ q, q ∈ ps → namedP q = true) : pathOf ps = [47] ↔ ps = [] := by
  unfold pathOf
  split
  · rename_i h; exact iff_of_true rfl h
  · rename_i h; exact iff_of_false (joinL_47 hn) h
theorem steps_pathOf {ps : List (List UInt8)} (hn : ∀ q, q ∈ ps → namedP q = true) : stepsOf (pathOf ps) = ps := by
  unfold stepsOf
  split
  · rename_i h; exact ((pathOf_47 hn).1 h).symm
  · rename_i h
    have h0 : ps ≠ [] := fun e => h ((pathOf_47 hn).2 e)
    unfold pathOf
    rw [if_neg h0]
    cases ps with
    | nil => exact absurd rfl h0
    | cons p ps =>
      show splitB (p ++ joinL ps) = _
      exact splitB_join (named_no (hn p (by simp))) fun q hq => named_no (hn q (List.mem_cons_of_mem _ hq))
theorem good_pathOf {ps : List (List UInt8)} (hn : ∀ q, q ∈ ps → namedP q = true) (hl : (pathOf ps).length ≤ 200) : goodP (pathOf ps) = true := by
  unfold goodP
  by_cases h0 : ps = []
  · subst h0; rfl
  · have e := steps_pathOf hn
    unfold stepsOf at e
    rw [if_neg (fun h => h0 ((pathOf_47 hn).1 h))] at e
    rw [decide_eq_true hl, Bool.true_and]
    unfold allNamed
    rw [e, List.all_eq_true.2 hn, Bool.and_true, Bool.or_eq_true, decide_eq_true_eq]
    refine .inr ?_
    rw [decide_eq_true_eq]
    unfold pathOf
    rw [if_neg h0]
    cases ps with
    | nil => exact absurd rfl h0
    | cons p ps => simp [joinL]
def splitP (s : List UInt8) : (List UInt8 × List UInt8) × Int := if goodP s = true then (if stepsOf s = [] then (([], []), 7) else ((pathOf ((stepsOf s).take ((stepsOf s).length - 1)), (stepsOf s).getD ((stepsOf s).length - 1) []), 0)) else (([], []), 2)
theorem split_root : splitP [47] = (([], []), 7) := by rfl
theorem split_snoc {ps : List (List UInt8)} {p : List UInt8} (hn : ∀ q, q ∈ ps ++ [p] → namedP q = true) (hl : (pathOf (ps ++ [p])).length ≤ 200) : splitP (pathOf (ps ++ [p])) = ((pathOf ps, p), 0) := by
  unfold splitP
  rw [if_pos (good_pathOf hn hl), steps_pathOf hn, if_neg (by simp), List.length_append, List.length_singleton, Nat.add_sub_cancel, List.take_left']
  · simp
  · rfl
theorem good_cases {s : List UInt8} (h : goodP s = true) : s = [47] ∨ ∃ ps p, (∀ q, q ∈ ps ++ [p] → namedP q = true) ∧ s = pathOf (ps ++ [p]) ∧ (pathOf (ps ++ [p])).length ≤ 200 ∧ pathOf (ps ++ [p]) = joinL ps ++ 47 :: p := by
  obtain ⟨h1, h2, h3, h4⟩ := good_path h
  rcases List.eq_nil_or_concat (stepsOf s) with e | ⟨ps, p, e⟩
  · left; rw [h1, e]; rfl
  · right
    rw [List.concat_eq_append] at e
    rw [e] at h1 h2
    refine ⟨ps, p, h2, h1, by rw [← h1]; exact h3, ?_⟩
    unfold pathOf
    rw [if_neg (by simp), joinL_app]
    simp [joinL]
end Go.Proofs.YtainmipdnjcbkaaGreatDoor
namespace Go.Proofs.YtainmipdnjcbkaaGreatDoor
set_option linter.unusedVariables false
set_option linter.unusedSimpArgs false
open Go Go.RowKit
set_option maxRecDepth 100000
set_option linter.unusedSimpArgs false
def pathsT (t : ATree) : List (List UInt8) := t.nodes.map ANode.path
def nd (t : ATree) (k : Nat) : ANode := t.nodes.getD k default
def sessOk (l : List Int) (k : Nat) : Prop := 1 ≤ l.getD k default ∧ l.getD k default ≤ 2147483647 ∧ (0 < k → l.getD (k - 1) default < l.getD k default)
instance (l : List Int) (k : Nat) : Decidable (sessOk l k) := by unfold sessOk; infer_instance
def nodeA (t : ATree) (k : Nat) : Prop := goodP (nd t k).path = true ∧ (nd t k).data.length ≤ 256 ∧ (0 < k → (nd t (k - 1)).path < (nd t k).path)
instance (t : ATree) (k : Nat) : Decidable (nodeA t k) := by unfold nodeA; infer_instance
def statB (t : ATree) (s : AStat) : Prop := 0 ≤ s.version ∧ s.version ≤ 2147483647 ∧ 0 ≤ s.cversion ∧ s.cversion ≤ 2147483647 ∧ 0 ≤ s.czxid ∧ s.czxid ≤ s.mzxid ∧ s.czxid ≤ s.pzxid ∧ s.mzxid ≤ t.zxid ∧ s.pzxid ≤ t.zxid
instance (t : ATree) (s : AStat) : Decidable (statB t s) := by unfold statB; infer_instance
def ownB (t : ATree) (s : AStat) : Prop := s.owner ≠ 0 → s.owner ∈ t.sessions ∧ s.kids = 0
instance (t : ATree) (s : AStat) : Decidable (ownB t s) := by unfold ownB; infer_instance
def dirT (t : ATree) (k : Nat) : List UInt8 := (splitP (nd t k).path).1.1
def kidsN (t : ATree) (p : List UInt8) (n : Nat) : Nat := ((List.range n).filter fun j => decide (dirT t j = p)).length
def upB (t : ATree) (k : Nat) : Prop := k = 0 ∨ dirT t k ∈ pathsT t
instance (t : ATree) (k : Nat) : Decidable (upB t k) := by unfold upB; infer_instance
def headOk (t : ATree) : Prop := 1 ≤ t.nodes.length ∧ t.nodes.length ≤ 400 ∧ (nd t 0).path = [47] ∧ (nd t 0).stat.owner = 0 ∧ goodZ t.zxid
instance (t : ATree) : Decidable (headOk t) := by unfold headOk; infer_instance
def goodTr (t : ATree) : Bool := decide (headOk t ∧ (∀ k, k < t.sessions.length → sessOk t.sessions k) ∧ (∀ k, k < t.nodes.length → nodeA t k) ∧
  ∀ k, k < t.nodes.length → statB t (nd t k).stat ∧ ownB t (nd t k).stat ∧ upB t k ∧ (nd t k).stat.kids = kidsN t (nd t k).path t.nodes.length)
theorem goodTr_iff {t : ATree} : goodTr t = true ↔ headOk t ∧ (∀ k, k < t.sessions.length → sessOk t.sessions k) ∧ (∀ k, k < t.nodes.length → nodeA t k) ∧
    ∀ k, k < t.nodes.length → statB t (nd t k).stat ∧ ownB t (nd t k).stat ∧ upB t k ∧ (nd t k).stat.kids = kidsN t (nd t k).path t.nodes.length := by unfold goodTr; rw [decide_eq_true_eq]
theorem pathsT_get (t : ATree) (k : Nat) : (pathsT t).getD k [] = (nd t k).path := getD_map ANode.path t.nodes k default
theorem pathsT_len (t : ATree) : (pathsT t).length = t.nodes.length := by unfold pathsT; simp
theorem rises_sess {l : List Int} (h : ∀ k, k < l.length → sessOk l k) : RisesI l := fun k hk => by
  have := (h (k + 1) (by omega)).2.2 (by omega)
  simpa using this
theorem rises_paths {t : ATree} (h : ∀ k, k < t.nodes.length → nodeA t k) : Rises (pathsT t) := fun k hk => by
  rw [pathsT_len] at hk
  have := (h (k + 1) hk).2.2 (by omega)
  rw [pathsT_get, pathsT_get]
  simpa using this
theorem good_rises {t : ATree} (h : goodTr t = true) : Rises (pathsT t) := rises_paths (goodTr_iff.1 h).2.2.1
theorem good_root {t : ATree} (h : goodTr t = true) : headOk t := (goodTr_iff.1 h).1
def getT (t : ATree) (key : List UInt8) : ANode × Int := if key ∈ pathsT t then (nd t (place (pathsT t) key), 0) else (default, 7)
def t00 : ATree := ⟨0, [⟨[47], [], ⟨0, 0, 0, 0, 0, 0, 0⟩⟩], []⟩
end Go.Proofs.YtainmipdnjcbkaaGreatDoor
namespace Go.Proofs.YtainmipdnjcbkaaGreatDoor
set_option linter.unusedVariables false
set_option linter.unusedSimpArgs false
open Go Go.RowKit
set_option maxRecDepth 100000
set_option linter.unusedSimpArgs false
theorem kidsN_succ (t : ATree) (p : List UInt8) (k : Nat) : kidsN t p (k + 1) = kidsN t p k + if dirT t k = p then 1 else 0 := by
  unfold kidsN
  rw [List.range_succ, List.filter_append, List.length_append]
  by_cases e : dirT t k = p
  · rw [if_pos e, List.filter_cons_of_pos (by simpa using e)]; rfl
  · rw [if_neg e, List.filter_cons_of_neg (by simpa using e)]; rfl
structure TLoop (t : ATree) (i : Nat) (m : List (List UInt8 × Int)) : Prop where
  le : i ≤ t.nodes.length
  ok : ∀ j, j < i → nodeA t j ∧ statB t (nd t j).stat ∧ ownB t (nd t j).stat ∧ upB t j
  cnt : ∀ p, p ≠ [] → mval m p = (kidsN t p i : Nat)
end Go.Proofs.YtainmipdnjcbkaaGreatDoor
namespace Go.Proofs.YtainmipdnjcbkaaGreatDoor
set_option linter.unusedVariables false
set_option linter.unusedSimpArgs false
open Go Go.RowKit
set_option maxRecDepth 100000
set_option linter.unusedSimpArgs false
end Go.Proofs.YtainmipdnjcbkaaGreatDoor
namespace Go.Proofs.YtainmipdnjcbkaaGreatDoor
set_option linter.unusedVariables false
set_option linter.unusedSimpArgs false
open Go Go.RowKit
set_option maxRecDepth 100000
set_option linter.unusedSimpArgs false
theorem sameTree_c (a b : ATree) (ha : a.wf) (hb : b.wf) : acall Tryz.prog [] 73 [a.av, b.av] (ret (B (decide (a = b)))) := by
  obtain ⟨hz, ⟨hn, hnw⟩, ⟨hs, hsw⟩⟩ := ha
  obtain ⟨kz, ⟨kn, knw⟩, ⟨ks, ksw⟩⟩ := hb
  refine zI Tryz.func73 rfl (by kernel_rfl) (by simp [Tryz.ntmps73]) ?_; simp only [Tryz.ntmps73, Tryz.results73, go_sem]
  (repeat' first
| (with_reducible refine AR.f ?_)
| refine zb (by decide) ?_
| (with_reducible refine AWP.cond rfl ?_ ?_ <;> intro hc <;> (try simp only [hcs, beq_iff_eq, ge_iff_le, gt_iff_lt] at hc))
| ((first | ((first | (with_reducible first | refine zR ?_ | refine zQ (by decide +kernel) ?_ | refine zD (by decide +kernel) ?_ | refine zE (by decide +kernel) ?_ | refine zG (by decide +kernel) ?_)); intro K hK) | ((first | (with_reducible refine zu ?_ ?_ <;> intro hg) | with_reducible intro hg) <;> (first | (exfalso; simp at hg; done) | (have hg' := hg; (try simp only [hcs, beq_iff_eq, ge_iff_le, gt_iff_lt] at hg'); (try simp only [hg]))))) <;> (try simp (disch := omega) only [go_sem, wn]) <;> (repeat' with_reducible refine And.intro ?_ ?_) <;> (try (with_reducible refine hK _ ?_; clear hK K)))
| omega)
  · (refine zF rfl ?_ ?_ ?_ ?_; (iterate 3 (focus ((try simp (disch := omega) only [go_sem, wn]) <;> (try omega) <;> fail))); (try simp (disch := omega) only [go_sem, wn, I, B, S, zj]))
    symm; rw [decide_eq_false_iff_not]; rintro rfl
    simp at hc
  obtain ⟨⟨e1, e2⟩, e3⟩ := hc
  refine AWP.loopS (ι := Nat) (fun k => k ≤ a.nodes.length ∧ ∀ j, j < k → a.nodes.getD j default = b.nodes.getD j default) (fun k => a.nodes.length - k) [2, 3, 32] (fun k => [(33, I k)]) 0 ?_ (by simp (disch := omega) only [go_sem, wn, true_and]) ?_
  · exact ⟨by omega, fun j hj => by omega⟩
  intro k ⟨hk, hk2⟩
  simp only [go_sem]
  (repeat' first
| (with_reducible refine AR.f ?_)
| refine zb (by decide) ?_
| (with_reducible refine AWP.cond rfl ?_ ?_ <;> intro hc <;> (try simp only [hcs, beq_iff_eq, ge_iff_le, gt_iff_lt] at hc))
| ((first | ((first | (with_reducible first | refine zR ?_ | refine zQ (by decide +kernel) ?_ | refine zD (by decide +kernel) ?_ | refine zE (by decide +kernel) ?_ | refine zG (by decide +kernel) ?_)); intro K hK) | ((first | (with_reducible refine zu ?_ ?_ <;> intro hg) | with_reducible intro hg) <;> (first | (exfalso; simp at hg; done) | (have hg' := hg; (try simp only [hcs, beq_iff_eq, ge_iff_le, gt_iff_lt] at hg'); (try simp only [hg]))))) <;> (try simp (disch := omega) only [go_sem, wn]) <;> (repeat' with_reducible refine And.intro ?_ ?_) <;> (try (with_reducible refine hK _ ?_; clear hK K)))
| omega)
  · (refine zF rfl ?_ ?_ ?_ ?_; (iterate 3 (focus ((try simp (disch := omega) only [go_sem, wn]) <;> (try omega) <;> fail))); (try simp (disch := omega) only [go_sem, wn, I, B, S, zj]))
    symm; rw [decide_eq_false_iff_not]; rintro rfl
    simp at hc
  · refine ⟨k + 1, ⟨by omega, fun j hj => ?_⟩, by omega, ?_⟩
    · by_cases e : j = k
      · subst e; exact (ANode.ext_iff _ _).2 hc
      · exact hk2 j (by omega)
    (refine SImp.same ?_; simp (disch := omega) only [go_sem, wn, Int.natCast_add])
  have hnodes : a.nodes = b.nodes := eq_of_getD (by omega) fun j hj => hk2 j (by omega)
  clear hk hk2 hc
  refine AWP.loopS (ι := Nat) (fun j => j ≤ a.sessions.length ∧ ∀ i, i < j → a.sessions.getD i default = b.sessions.getD i default) (fun j => a.sessions.length - j) [2, 3, 50] (fun j => [(51, I j)]) 0 ?_ (by simp (disch := omega) only [go_sem, wn, true_and]) ?_
  · exact ⟨by omega, fun j hj => by omega⟩
  intro j ⟨hj, hj2⟩
  simp only [go_sem]
  (repeat' first
| (with_reducible refine AR.f ?_)
| refine zb (by decide) ?_
| (with_reducible refine AWP.cond rfl ?_ ?_ <;> intro hc <;> (try simp only [hcs, beq_iff_eq, ge_iff_le, gt_iff_lt] at hc))
| ((first | ((first | (with_reducible first | refine zR ?_ | refine zQ (by decide +kernel) ?_ | refine zD (by decide +kernel) ?_ | refine zE (by decide +kernel) ?_ | refine zG (by decide +kernel) ?_)); intro K hK) | ((first | (with_reducible refine zu ?_ ?_ <;> intro hg) | with_reducible intro hg) <;> (first | (exfalso; simp at hg; done) | (have hg' := hg; (try simp only [hcs, beq_iff_eq, ge_iff_le, gt_iff_lt] at hg'); (try simp only [hg]))))) <;> (try simp (disch := omega) only [go_sem, wn]) <;> (repeat' with_reducible refine And.intro ?_ ?_) <;> (try (with_reducible refine hK _ ?_; clear hK K)))
| omega)
  · (refine zF rfl ?_ ?_ ?_ ?_; (iterate 3 (focus ((try simp (disch := omega) only [go_sem, wn]) <;> (try omega) <;> fail))); (try simp (disch := omega) only [go_sem, wn, I, B, S, zj]))
    symm; rw [decide_eq_false_iff_not]; rintro rfl
    simp at hc
  · refine ⟨j + 1, ⟨by omega, fun i hi => ?_⟩, by omega, ?_⟩
    · by_cases e : i = j
      · subst e; exact hc
      · exact hj2 i (by omega)
    (refine SImp.same ?_; simp (disch := omega) only [go_sem, wn, Int.natCast_add])
  · (refine zF rfl ?_ ?_ ?_ ?_; (iterate 3 (focus ((try simp (disch := omega) only [go_sem, wn]) <;> (try omega) <;> fail))); (try simp (disch := omega) only [go_sem, wn, I, B, S, zj]))
    symm; rw [decide_eq_true_eq, ATree.ext_iff]
    exact ⟨e1, hnodes, eq_of_getD (by omega) fun i hi => hj2 i (by omega)⟩
theorem t00_good : goodTr t00 = true := by decide +kernel
end Go.Proofs.YtainmipdnjcbkaaGreatDoor
namespace Go.Proofs.YtainmipdnjcbkaaGreatDoor
set_option linter.unusedVariables false
set_option linter.unusedSimpArgs false
open Go Go.RowKit
set_option maxRecDepth 100000
set_option linter.unusedSimpArgs false
def takeS (s : AServer) (x : ATxn) (safe : Bool) : AServer × Int :=
  if x.zxid ≤ lastZ s.peer.log then (default, 13) else if (appendD s.disk.files x safe).2 = 0 then (⟨s.up, (appendD s.disk.files x safe).1, ⟨s.peer.id, s.peer.epoch, s.peer.log ++ [x], s.peer.done⟩, s.tree, s.watches⟩, 0) else (default, (appendD s.disk.files x safe).2)
end Go.Proofs.YtainmipdnjcbkaaGreatDoor
namespace Go.Proofs.YtainmipdnjcbkaaGreatDoor
set_option linter.unusedVariables false
set_option linter.unusedSimpArgs false
open Go Go.RowKit
set_option maxRecDepth 100000
def addW (l : List AWatch) (w : AWatch) : List AWatch × Int :=
  if w.kind ≠ 1 ∧ w.kind ≠ 2 then ([], 4) else if ¬ goodP w.path = true then ([], 2) else if w.session < 1 ∨ 2147483647 < w.session then ([], 3)
  else if w ∈ l then (l, 0) else if 400 ≤ l.length then ([], 6) else (l ++ [w], 0)
theorem same_watches_c (a b : List AWatch) (h : a.length * 32 ≤ 140737488351232) (h2 : b.length * 32 ≤ 140737488351232) : acall Tryz.prog [] 74 [.d (.sl 3 (a.map AWatch.row)), .d (.sl 3 (b.map AWatch.row))] (ret (B (decide (a = b)))) := by
  refine zI Tryz.func74 rfl (by kernel_rfl) (by simp [Tryz.ntmps74]) ?_; simp only [Tryz.ntmps74, Tryz.results74, go_sem]
  (repeat' first
| (with_reducible refine AR.f ?_)
| refine zb (by decide) ?_
| (with_reducible refine AWP.cond rfl ?_ ?_ <;> intro hc <;> (try simp only [hcs, beq_iff_eq, ge_iff_le, gt_iff_lt] at hc))
| ((first | ((first | (with_reducible first | refine zR ?_ | refine zQ (by decide +kernel) ?_ | refine zD (by decide +kernel) ?_ | refine zE (by decide +kernel) ?_ | refine zG (by decide +kernel) ?_)); intro K hK) | ((first | (with_reducible refine zu ?_ ?_ <;> intro hg) | with_reducible intro hg) <;> (first | (exfalso; simp at hg; done) | (have hg' := hg; (try simp only [hcs, beq_iff_eq, ge_iff_le, gt_iff_lt] at hg'); (try simp only [hg]))))) <;> (try simp (disch := omega) only [go_sem, wn]) <;> (repeat' with_reducible refine And.intro ?_ ?_) <;> (try (with_reducible refine hK _ ?_; clear hK K)))
| omega)
  · (refine zF rfl ?_ ?_ ?_ ?_; (iterate 3 (focus ((try simp (disch := omega) only [go_sem, wn]) <;> (try omega) <;> fail))); (try simp (disch := omega) only [go_sem, wn, I, B, S, zj]))
    symm; rw [decide_eq_false_iff_not]; intro e; subst e; simp at hc
  have h3 := hc
  refine AWP.loopS (ι := Nat) (fun k => k ≤ a.length ∧ ∀ j, j < k → a.getD j default = b.getD j default) (fun k => a.length - k) [0, 1, 12] (fun k => [(13, I k)]) 0 ?_ (by simp (disch := omega) only [go_sem, wn, true_and]) ?_
  · exact ⟨by omega, by omega⟩
  intro k ⟨hk, hk2⟩
  simp only [go_sem]
  (repeat' first
| (with_reducible refine AR.f ?_)
| refine zb (by decide) ?_
| (with_reducible refine AWP.cond rfl ?_ ?_ <;> intro hc <;> (try simp only [hcs, beq_iff_eq, ge_iff_le, gt_iff_lt] at hc))
| ((first | ((first | (with_reducible first | refine zR ?_ | refine zQ (by decide +kernel) ?_ | refine zD (by decide +kernel) ?_ | refine zE (by decide +kernel) ?_ | refine zG (by decide +kernel) ?_)); intro K hK) | ((first | (with_reducible refine zu ?_ ?_ <;> intro hg) | with_reducible intro hg) <;> (first | (exfalso; simp at hg; done) | (have hg' := hg; (try simp only [hcs, beq_iff_eq, ge_iff_le, gt_iff_lt] at hg'); (try simp only [hg]))))) <;> (try simp (disch := omega) only [go_sem, wn, AWatch.rgetD]) <;> (repeat' with_reducible refine And.intro ?_ ?_) <;> (try (with_reducible refine hK _ ?_; clear hK K)))
| omega)
  · (refine zF rfl ?_ ?_ ?_ ?_; (iterate 3 (focus ((try simp (disch := omega) only [go_sem, wn]) <;> (try omega) <;> fail))); (try simp (disch := omega) only [go_sem, wn, I, B, S, zj]))
    symm; rw [decide_eq_false_iff_not]; intro e; subst e; simp at hc
  · refine ⟨k + 1, ⟨by omega, fun j hj => ?_⟩, by omega, ?_⟩
    · by_cases e : j = k
      · subst e; exact hc
      · exact hk2 j (by omega)
    (refine SImp.same ?_; simp (disch := omega) only [go_sem, wn, Int.natCast_add])
  · (refine zF rfl ?_ ?_ ?_ ?_; (iterate 3 (focus ((try simp (disch := omega) only [go_sem, wn]) <;> (try omega) <;> fail))); (try simp (disch := omega) only [go_sem, wn, I, B, S, zj]))
    symm; rw [decide_eq_true_eq]
    exact eq_of_getD (by omega) fun j hj => hk2 j (by omega)
end Go.Proofs.YtainmipdnjcbkaaGreatDoor
namespace Go.Proofs.YtainmipdnjcbkaaGreatDoor
set_option linter.unusedVariables false
set_option linter.unusedSimpArgs false
open Go Go.RowKit
set_option maxRecDepth 100000
set_option linter.unusedSimpArgs false
def lenS (s : AServer) : Prop := s.disk.files.length * 48 ≤ 140737488351232 ∧ s.peer.log.length * 72 ≤ 140737488351232 ∧ s.tree.wf ∧ s.watches.length * 32 ≤ 140737488351232
theorem samePeer_c (a b : APeer) (h1 : a.log.length * 72 ≤ 140737488351232) (h2 : b.log.length * 72 ≤ 140737488351232) : acall Tryz.prog [] 72 [a.av, b.av] (ret (B (decide (a = b)))) := by
  have hs := sameLog_c a.log b.log h1 h2
  refine zI Tryz.func72 rfl (by kernel_rfl) (by simp [Tryz.ntmps72]) ?_; simp only [Tryz.ntmps72, Tryz.results72, go_sem]
  (repeat' first
| (with_reducible refine AR.f ?_)
| refine zb (by decide) ?_
| (with_reducible refine AWP.cond rfl ?_ ?_ <;> intro hc <;> (try simp only [hcs, beq_iff_eq, ge_iff_le, gt_iff_lt] at hc))
| ((first | ((first | (with_reducible first | refine zR ?_ | refine zQ (by decide +kernel) ?_ | refine zD (by decide +kernel) ?_ | refine zE (by decide +kernel) ?_ | refine zG (by decide +kernel) ?_)); intro K hK) | ((first | refine zA hs ?_ ?_ ?_ ?_ ?_); (focus exact rfl); (focus exact rfl); iterate 2 (focus ((try simp (disch := omega) only [go_sem, wn]) <;> (try omega) <;> fail))) | ((first | refine zX hs rfl ?_ ?_); (focus ((try simp (disch := omega) only [go_sem, wn]) <;> (try omega) <;> fail))) | ((first | (with_reducible refine zu ?_ ?_ <;> intro hg) | with_reducible intro hg) <;> (first | (exfalso; simp at hg; done) | (have hg' := hg; (try simp only [hcs, beq_iff_eq, ge_iff_le, gt_iff_lt] at hg'); (try simp only [hg]))))) <;> (try simp (disch := omega) only [go_sem, wn]) <;> (repeat' with_reducible refine And.intro ?_ ?_) <;> (try (with_reducible refine hK _ ?_; clear hK K)))
| omega)
  all_goals (refine zF rfl ?_ ?_ ?_ ?_; (iterate 3 (focus ((try simp (disch := omega) only [go_sem, wn, APeer.ext_iff]) <;> (try omega) <;> fail))); (try simp (disch := omega) only [go_sem, wn, APeer.ext_iff, I, B, S, zj]))
  all_goals (try simp_all)
theorem sameServer_c (a : AServer) (h : lenS a) : acall Tryz.prog [] 20 [a.av, a.av] (ret (B true)) := by
  have hd := (same_disk_c a.disk a.disk h.1 h.1).re (congrArg B (decide_eq_true rfl))
  have hp := (samePeer_c a.peer a.peer h.2.1 h.2.1).re (congrArg B (decide_eq_true rfl))
  have ht := (sameTree_c a.tree a.tree h.2.2.1 h.2.2.1).re (congrArg B (decide_eq_true rfl))
  have hw := (same_watches_c a.watches a.watches h.2.2.2 h.2.2.2).re (congrArg B (decide_eq_true rfl))
  refine zI Tryz.func20 rfl (by kernel_rfl) (by simp [Tryz.ntmps20]) ?_; simp only [Tryz.ntmps20, Tryz.results20, go_sem]
  (repeat' first
| (with_reducible refine AR.f ?_)
| refine zb (by decide) ?_
| (with_reducible refine AWP.cond rfl ?_ ?_ <;> intro hc <;> (try simp only [hcs, beq_iff_eq, ge_iff_le, gt_iff_lt] at hc))
| ((first | ((first | (with_reducible first | refine zR ?_ | refine zQ (by decide +kernel) ?_ | refine zD (by decide +kernel) ?_ | refine zE (by decide +kernel) ?_ | refine zG (by decide +kernel) ?_)); intro K hK) | ((first | refine zA hd ?_ ?_ ?_ ?_ ?_ | refine zA hp ?_ ?_ ?_ ?_ ?_ | refine zA ht ?_ ?_ ?_ ?_ ?_ | refine zA hw ?_ ?_ ?_ ?_ ?_); (focus exact rfl); (focus exact rfl); iterate 2 (focus ((try simp (disch := omega) only [go_sem, wn]) <;> (try omega) <;> fail))) | ((first | refine zX hd rfl ?_ ?_ | refine zX hp rfl ?_ ?_ | refine zX ht rfl ?_ ?_ | refine zX hw rfl ?_ ?_); (focus ((try simp (disch := omega) only [go_sem, wn]) <;> (try omega) <;> fail))) | ((first | (with_reducible refine zu ?_ ?_ <;> intro hg) | with_reducible intro hg) <;> (first | (exfalso; simp at hg; done) | (have hg' := hg; (try simp only [hcs, beq_iff_eq, ge_iff_le, gt_iff_lt] at hg'); (try simp only [hg]))))) <;> (try simp (disch := omega) only [go_sem, wn]) <;> (repeat' with_reducible refine And.intro ?_ ?_) <;> (try (with_reducible refine hK _ ?_; clear hK K)))
| omega)
  all_goals (refine zF rfl ?_ ?_ ?_ ?_; (iterate 3 (focus ((try simp (disch := omega) only [go_sem, wn]) <;> (try omega) <;> fail))); (try simp (disch := omega) only [go_sem, wn, I, B, S, zj]))
end Go.Proofs.YtainmipdnjcbkaaGreatDoor
namespace Go.Proofs.YtainmipdnjcbkaaGreatDoor
set_option linter.unusedVariables false
set_option linter.unusedSimpArgs false
open Go Go.RowKit
set_option maxRecDepth 100000
set_option linter.unusedSimpArgs false
def lacksT (t : ATree) (x : ATxn) (there : Int) : Int :=
  if there = 0 then 8 else if ¬ (getT t (splitP x.path).1.1).2 = 0 then (getT t (splitP x.path).1.1).2 else if ¬ (getT t (splitP x.path).1.1).1.stat.owner = 0 then 11
  else if ¬ x.owner = 0 ∧ ¬ x.owner = x.session then 12 else if 400 ≤ t.nodes.length then 6 else 0
def wrongT (t : ATree) (x : ATxn) : Int :=
  if goodTr t = false then 3 else if ¬ goodT x = 0 then goodT x else if x.zxid ≤ t.zxid then 13
  else if x.op = 1 then (if x.session ∈ t.sessions then 8 else 0)
  else if ¬ x.session ∈ t.sessions then 12
  else if x.op = 3 then lacksT t x (getT t x.path).2
  else if x.op = 4 then (if (getT t x.path).2 = 0 ∧ 0 < (getT t x.path).1.stat.kids then 10 else (getT t x.path).2)
  else if x.op = 5 then (if (getT t x.path).2 = 0 ∧ ¬ x.version = (getT t x.path).1.stat.version + 1 then 9 else (getT t x.path).2)
  else 0
def bigN (n : ANode) : Bool := decide (2147483647 < n.stat.cversion)
end Go.Proofs.YtainmipdnjcbkaaGreatDoor
namespace Go.Proofs.YtainmipdnjcbkaaGreatDoor
set_option linter.unusedVariables false
set_option linter.unusedSimpArgs false
open Go Go.RowKit
set_option maxRecDepth 100000
set_option linter.unusedSimpArgs false
def pathsN (ns : List ANode) : List (List UInt8) := ns.map ANode.path
def dirP (p : List UInt8) : List UInt8 := (splitP p).1.1
def kidF (more z : Int) (n : ANode) : ANode := ⟨n.path, n.data, ⟨n.stat.czxid, n.stat.mzxid, z, n.stat.version, IntKind.i64.wrap (n.stat.cversion + 1), n.stat.owner, IntKind.i64.wrap (n.stat.kids + more)⟩⟩
def kidN (ns : List ANode) (p : List UInt8) (more z : Int) : List ANode := if dirP p ∈ pathsN ns then ns.set (place (pathsN ns) (dirP p)) (kidF more z (ns.getD (place (pathsN ns) (dirP p)) default)) else ns
def delN (ns : List ANode) (p : List UInt8) (z : Int) : List ANode := kidN (ns.eraseIdx (place (pathsN ns) p)) p (-1) z
def mkN (x : ATxn) : ANode := ⟨x.path, x.data, ⟨x.zxid, x.zxid, x.zxid, 0, 0, x.owner, 0⟩⟩
def addN (ns : List ANode) (x : ATxn) : List ANode := kidN (ns.insertIdx (place (pathsN ns) x.path) (mkN x)) x.path 1 x.zxid
def setF (x : ATxn) (n : ANode) : ANode := ⟨n.path, x.data, ⟨n.stat.czxid, x.zxid, n.stat.pzxid, x.version, n.stat.cversion, n.stat.owner, n.stat.kids⟩⟩
def setN (ns : List ANode) (x : ATxn) : List ANode := ns.set (place (pathsN ns) x.path) (setF x (ns.getD (place (pathsN ns) x.path) default))
def goneE (p : List UInt8) : List AEvent := [⟨2, p⟩, ⟨4, dirP p⟩]
def closeN (t : ATree) (s z : Int) : Nat → List ANode × List AEvent
  | 0 => (t.nodes, [])
  | k + 1 => if (t.nodes.getD k default).stat.owner = s then (delN (closeN t s z k).1 (t.nodes.getD k default).path z, (closeN t s z k).2 ++ goneE (t.nodes.getD k default).path) else closeN t s z k
def doneT (t : ATree) (x : ATxn) : ATree × List AEvent :=
  if x.op = 1 then (⟨x.zxid, t.nodes, t.sessions.insertIdx (placeI t.sessions x.session) x.session⟩, [])
  else if x.op = 2 then (⟨x.zxid, (closeN t x.session x.zxid t.nodes.length).1, t.sessions.eraseIdx (placeI t.sessions x.session)⟩, (closeN t x.session x.zxid t.nodes.length).2)
  else if x.op = 3 then (⟨x.zxid, addN t.nodes x, t.sessions⟩, [⟨1, x.path⟩, ⟨4, dirP x.path⟩])
  else if x.op = 4 then (⟨x.zxid, delN t.nodes x.path x.zxid, t.sessions⟩, goneE x.path)
  else (⟨x.zxid, setN t.nodes x, t.sessions⟩, [⟨3, x.path⟩])
def applyT (t : ATree) (x : ATxn) : ATree × List AEvent × Int :=
  if ¬ wrongT t x = 0 then (default, [], wrongT t x) else if (doneT t x).1.nodes.any bigN = true then (default, [], 6) else ((doneT t x).1, (doneT t x).2, 0)
theorem apply_no {t : ATree} {x : ATxn} (h : ¬ wrongT t x = 0) : applyT t x = (default, [], wrongT t x) := by unfold applyT; rw [if_pos h]
theorem apply_full {t : ATree} {x : ATxn} (h : wrongT t x = 0) (h2 : (doneT t x).1.nodes.any bigN = true) : applyT t x = (default, [], 6) := by unfold applyT; rw [if_neg (fun h' => h' h), if_pos h2]
theorem apply_ok {t : ATree} {x : ATxn} (h : wrongT t x = 0) (h2 : (doneT t x).1.nodes.any bigN = false) : applyT t x = ((doneT t x).1, (doneT t x).2, 0) := by unfold applyT; rw [if_neg (fun h' => h' h), if_neg (by rw [h2]; decide)]
theorem getT_zero {t : ATree} {p : List UInt8} : (getT t p).2 = 0 ↔ p ∈ pathsT t := by
  by_cases h : p ∈ pathsT t
  · unfold getT; rw [if_pos h]; exact ⟨fun _ => h, fun _ => rfl⟩
  · unfold getT; rw [if_neg h]; exact ⟨fun h' => (by cases h'), fun h' => absurd h' h⟩
theorem getT_seven {t : ATree} {p : List UInt8} (h : ¬ p ∈ pathsT t) : (getT t p).2 = 7 := by unfold getT; rw [if_neg h]
theorem wrong_ok {t : ATree} {x : ATxn} (h : wrongT t x = 0) : goodTr t = true ∧ goodT x = 0 ∧ t.zxid < x.zxid ∧ (x.op = 1 → ¬ x.session ∈ t.sessions) ∧ (¬ x.op = 1 → x.session ∈ t.sessions) ∧
    (x.op = 3 → ¬ x.path ∈ pathsT t ∧ dirP x.path ∈ pathsT t ∧ t.nodes.length < 400) ∧ (x.op = 4 → x.path ∈ pathsT t ∧ (getT t x.path).1.stat.kids ≤ 0) ∧ (x.op = 5 → x.path ∈ pathsT t) := by
  unfold wrongT at h
  by_cases a1 : goodTr t = true
  case neg => rw [if_pos (by simpa using a1)] at h; cases h
  rw [if_neg (by simp [a1])] at h
  by_cases a2 : goodT x = 0
  case neg => rw [if_pos a2] at h; exact absurd h a2
  rw [if_neg (fun h => h a2)] at h
  by_cases a3 : x.zxid ≤ t.zxid
  · rw [if_pos a3] at h; cases h
  rw [if_neg a3] at h
  have a5 : ¬ x.op = 1 → x.session ∈ t.sessions := fun o => by
    rw [if_neg o] at h
    by_cases m : x.session ∈ t.sessions
    · exact m
    · rw [if_pos m] at h; cases h
  refine ⟨a1, a2, by omega, fun o => ?_, a5, fun o => ?_, fun o => ?_, fun o => ?_⟩
  · rw [if_pos o] at h
    intro m; rw [if_pos m] at h; cases h
  · rw [if_neg (by omega), if_neg (fun h => h (a5 (by omega))), if_pos o] at h
    unfold lacksT at h
    by_cases q1 : (getT t x.path).2 = 0
    · rw [if_pos q1] at h; cases h
    rw [if_neg q1] at h
    by_cases q2 : (getT t (splitP x.path).1.1).2 = 0
    case neg => rw [if_pos q2] at h; exact absurd h q2
    rw [if_neg (fun h => h q2)] at h
    split at h
    · cases h
    · split at h
      · cases h
      · split at h
        · cases h
        · exact ⟨fun m => q1 (getT_zero.2 m), getT_zero.1 q2, by omega⟩
  · rw [if_neg (by omega), if_neg (fun h => h (a5 (by omega))), if_neg (by omega), if_pos o] at h
    split at h
    · cases h
    · rename_i q; exact ⟨getT_zero.1 h, by omega⟩
  · rw [if_neg (by omega), if_neg (fun h => h (a5 (by omega))), if_neg (by omega), if_neg (by omega), if_pos o] at h
    split at h
    · cases h
    · exact getT_zero.1 h
theorem goodT_nums {x : ATxn} (h : goodT x = 0) : 1 ≤ x.op ∧ x.op ≤ 5 ∧ 1 ≤ x.session ∧ badT x = false := by
  by_cases h1 : x.op < 1 ∨ 5 < x.op
  · rw [goodT_op h1] at h; cases h
  by_cases h2 : numsB x = true
  case neg => rw [goodT_num (by omega) h2] at h; cases h
  by_cases h3 : 256 < x.data.length
  · rw [goodT_long (by omega) h2 h3] at h; cases h
  rw [goodT_ok (by omega) h2 (by omega)] at h
  refine ⟨by omega, by omega, ((numsB_iff x).1 h2).2.1.1, ?_⟩
  cases e : badT x
  · rfl
  · rw [e, if_pos rfl] at h; cases h
theorem goodT_path {x : ATxn} (h : goodT x = 0) (ho : 3 ≤ x.op ∧ x.op ≤ 4) : goodP x.path = true ∧ x.path ≠ [47] := by
  obtain ⟨_, _, _, hb⟩ := goodT_nums h
  unfold badT at hb
  rw [if_neg (by omega)] at hb
  split at hb
  · simp at hb; exact ⟨hb.1, hb.2.1⟩
  · rw [if_pos (by omega)] at hb; simp at hb; exact ⟨hb.1, hb.2.1⟩
theorem mem_ins {l : List (List UInt8)} {i : Nat} {x y : List UInt8} (h : i ≤ l.length) : y ∈ l.insertIdx i x ↔ y = x ∨ y ∈ l := List.mem_insertIdx h
theorem rises_ins {l : List (List UInt8)} {key : List UInt8} (hr : Rises l) (hm : ¬ key ∈ l) : Rises (l.insertIdx (place l key) key) := by
  have hp := place_le l key
  have lo : ∀ j, j < place l key → l.getD j [] < key := fun j hj => by
    have := List.not_of_lt_findIdx (p := fun x => !decide (x < key)) (xs := l) hj
    rw [List.getD_eq_getElem?_getD, List.getElem?_eq_getElem (by omega)]
    simpa using this
  have hi : ∀ j, place l key ≤ j → j < l.length → key < l.getD j [] := fun j h1 h2 => by
    have a : ¬ l.getD (place l key) [] < key := by
      have := List.findIdx_getElem (p := fun x => !decide (x < key)) (xs := l) (w := (by unfold place at h1; omega))
      rw [Bool.not_eq_true', decide_eq_false_iff_not] at this
      rw [List.getD_eq_getElem?_getD, List.getElem?_eq_getElem (by omega)]
      exact this
    have b : key < l.getD (place l key) [] := lt_of_not a fun e => hm (by rw [← e]; exact mem_getD _ _ (by omega))
    by_cases e : place l key = j
    · rw [← e]; exact b
    · exact List.lt_trans b (rises_lt hr (by omega) h2)
  generalize place l key = p at *
  intro k hk
  rw [ins_len _ _ _ hp] at hk
  have gt (q : Nat) (hq : p < q) : (l.insertIdx p key).getD q [] = l.getD (q - 1) [] := by
    rw [ins_eq _ _ _ hp, List.getD_eq_getElem?_getD, List.getElem?_append_right (by rw [List.length_take]; omega), List.length_take, Nat.min_eq_left hp, show q - p = (q - p - 1) + 1 from by omega, List.getElem?_cons_succ, List.getElem?_drop, List.getD_eq_getElem?_getD]
    congr 2; omega
  rcases Nat.lt_trichotomy (k + 1) p with h | h | h
  · rw [ins_get_lt _ _ _ _ _ hp (by omega), ins_get_lt _ _ _ _ _ hp (by omega)]; exact hr k (by omega)
  · subst h
    rw [ins_get_lt _ _ _ _ _ hp (by omega), getD_ins _ _ _ _ hp]; exact lo k (by omega)
  · rw [gt _ h, Nat.add_sub_cancel]
    by_cases e : k = p
    · subst e; rw [getD_ins _ _ _ _ hp]; exact hi _ (Nat.le_refl _) (by omega)
    · rw [gt _ (by omega)]
      have := hr (k - 1) (by omega)
      rwa [show k - 1 + 1 = k from by omega] at this
theorem rises_erase {l : List (List UInt8)} (hr : Rises l) (i : Nat) : Rises (l.eraseIdx i) := by
  by_cases h : i < l.length
  · intro k hk
    rw [erase_len _ _ h] at hk
    have g (q : Nat) : (l.eraseIdx i).getD q [] = if q < i then l.getD q [] else l.getD (q + 1) [] := by
      rw [List.getD_eq_getElem?_getD, List.getElem?_eraseIdx]; split <;> rw [List.getD_eq_getElem?_getD]
    rw [g, g]
    split <;> split
    · exact hr k (by omega)
    · exact rises_lt hr (by omega) (by omega)
    · omega
    · exact hr (k + 1) (by omega)
  · rw [List.eraseIdx_of_length_le (by omega)]; exact hr
theorem pathsN_ins (ns : List ANode) (i : Nat) (n : ANode) : pathsN (ns.insertIdx i n) = (pathsN ns).insertIdx i n.path := by unfold pathsN; exact (ins_map ANode.path ns i n).symm
theorem pathsN_erase (ns : List ANode) (i : Nat) : pathsN (ns.eraseIdx i) = (pathsN ns).eraseIdx i := by unfold pathsN; exact (zr ANode.path ns i).symm
theorem pathsN_set (ns : List ANode) (i : Nat) (n : ANode) (h : n.path = (ns.getD i default).path) : pathsN (ns.set i n) = pathsN ns := by
  unfold pathsN
  apply List.ext_getElem?
  intro j
  rw [List.getElem?_map, List.getElem?_map, List.getElem?_set]
  split
  · rename_i e; subst e
    split
    · rename_i h2; rw [List.getD_eq_getElem?_getD, List.getElem?_eq_getElem h2] at h; rw [List.getElem?_eq_getElem h2]; simp [h]
    · rename_i h2; rw [List.getElem?_eq_none (by omega)]
  · rfl
theorem pathsN_kid (ns : List ANode) (p : List UInt8) (m z : Int) : pathsN (kidN ns p m z) = pathsN ns := by
  unfold kidN; split
  · exact pathsN_set _ _ _ rfl
  · rfl
theorem pathsN_len (ns : List ANode) : (pathsN ns).length = ns.length := by unfold pathsN; simp
theorem dir_ne {s : List UInt8} (hg : goodP s = true) (h : s ≠ [47]) : dirP s ≠ s := by
  rcases good_cases hg with e | ⟨ps, p, h1, h2, h3, _⟩
  · exact absurd e h
  · unfold dirP
    rw [h2, split_snoc h1 h3]
    intro e
    have := congrArg stepsOf e
    rw [steps_pathOf h1, steps_pathOf (fun q hq => h1 q (List.mem_append.2 (.inl hq)))] at this
    have := congrArg List.length this
    simp at this
theorem mem_erase {l : List (List UInt8)} {i : Nat} {y : List UInt8} (h : y ∈ l) (hy : l.getD i [] ≠ y) : y ∈ l.eraseIdx i := by
  by_cases hi : i < l.length
  · rw [erase_eq, List.mem_append]
    have : l = l.take i ++ l.getD i [] :: l.drop (i + 1) := by
      rw [List.getD_eq_getElem?_getD, List.getElem?_eq_getElem hi]; simp
    rw [this, List.mem_append, List.mem_cons] at h
    rcases h with h | h | h
    · exact .inl h
    · exact absurd h.symm hy
    · exact .inr h
  · rw [List.eraseIdx_of_length_le (by omega)]; exact h
theorem placeI_lt {l : List Int} {key : Int} (hr : RisesI l) (h : key ∈ l) : placeI l key < l.length := by
  obtain ⟨k, hk, e⟩ := (mem_iff_getD l default key).1 h
  have : placeI l key = k := placeI_eq (by omega) (fun j hj => by rw [← e]; exact risesI_lt hr hj hk) (fun _ => by rw [e]; omega)
  omega
theorem sess_lo {l : List Int} (h : ∀ k, k < l.length → sessOk l k) : ∀ k, k < l.length → ((k : Nat) : Int) + 1 ≤ l.getD k default
  | 0, hk => by have := (h 0 hk).1; omega
  | k + 1, hk => by
    have a := sess_lo h k (by omega)
    have b := (h (k + 1) hk).2.2 (by omega)
    rw [Nat.add_sub_cancel] at b; omega
theorem sess_len {t : ATree} (hg : goodTr t = true) : t.sessions.length ≤ 2147483647 := by
  have h := (goodTr_iff.1 hg).2.1
  rcases Nat.eq_zero_or_pos t.sessions.length with e | e
  · omega
  · have a := sess_lo h (t.sessions.length - 1) (by omega)
    have b := (h (t.sessions.length - 1) (by omega)).2.1
    omega
end Go.Proofs.YtainmipdnjcbkaaGreatDoor
namespace Go.Proofs.YtainmipdnjcbkaaGreatDoor
set_option linter.unusedVariables false
set_option linter.unusedSimpArgs false
open Go Go.RowKit
set_option maxRecDepth 100000
set_option linter.unusedSimpArgs false
structure CloseOk (t : ATree) (s : Int) (k : Nat) (ns : List ANode) (es : List AEvent) : Prop where
  rises : Rises (pathsN ns)
  rest : ∀ j, k ≤ j → j < t.nodes.length → (nd t j).path ∈ pathsN ns
  dirs : ∀ j, j < t.nodes.length → (nd t j).stat.owner = s → dirP (nd t j).path ∈ pathsN ns
  len : ns.length ≤ t.nodes.length
  elen : es.length ≤ 2 * k
end Go.Proofs.YtainmipdnjcbkaaGreatDoor
namespace Go.Proofs.YtainmipdnjcbkaaGreatDoor
set_option linter.unusedVariables false
set_option linter.unusedSimpArgs false
open Go Go.RowKit
set_option maxRecDepth 100000
set_option linter.unusedSimpArgs false
end Go.Proofs.YtainmipdnjcbkaaGreatDoor
namespace Go.Proofs.YtainmipdnjcbkaaGreatDoor
set_option linter.unusedVariables false
set_option linter.unusedSimpArgs false
open Go Go.RowKit
set_option maxRecDepth 100000
set_option linter.unusedSimpArgs false
end Go.Proofs.YtainmipdnjcbkaaGreatDoor
namespace Go.Proofs.YtainmipdnjcbkaaGreatDoor
set_option linter.unusedVariables false
set_option linter.unusedSimpArgs false
open Go Go.RowKit
set_option maxRecDepth 100000
set_option linter.unusedSimpArgs false
end Go.Proofs.YtainmipdnjcbkaaGreatDoor
namespace Go.Proofs.YtainmipdnjcbkaaGreatDoor
set_option linter.unusedVariables false
set_option linter.unusedSimpArgs false
open Go Go.RowKit
set_option maxRecDepth 100000
set_option linter.unusedSimpArgs false
def lessI (l : List Int) (key : Int) : List Int := l.filter fun s => decide (s < key)
def moreI (l : List Int) (key : Int) : List Int := l.filter fun s => decide (key < s)
theorem less_moreI {l : List Int} {key : Int} (hr : RisesI l) (h : ¬ key ∈ l) : lessI l key ++ key :: moreI l key = l.insertIdx (placeI l key) key := by
  have hp : placeI l key ≤ l.length := List.findIdx_le_length
  have gd (j : Nat) (hj : j < l.length) : l.getD j default = l[j] := by rw [List.getD_eq_getElem?_getD, List.getElem?_eq_getElem hj]; rfl
  have lo : ∀ j, j < placeI l key → l.getD j default < key := fun j hj => by
    have := List.not_of_lt_findIdx (p := fun x => !decide (x < key)) (xs := l) hj
    rw [gd j (by omega)]
    simpa using this
  have hi : ∀ j, placeI l key ≤ j → j < l.length → key < l.getD j default := fun j h1 h2 => by
    have a : ¬ l.getD (placeI l key) default < key := by
      have := List.findIdx_getElem (p := fun x => !decide (x < key)) (xs := l) (w := (by unfold placeI at h1; omega))
      rw [Bool.not_eq_true', decide_eq_false_iff_not] at this
      rw [gd _ (by omega)]
      exact this
    have c : l.getD (placeI l key) default ≠ key := fun e => h (by rw [← e]; exact mem_getD _ _ (by omega))
    by_cases e : placeI l key = j
    · rw [← e]; omega
    · have := risesI_lt hr (i := placeI l key) (j := j) (by omega) h2; omega
  generalize placeI l key = p at *
  have e1 : lessI l key = l.take p := by
    unfold lessI
    conv => lhs; rw [← List.take_append_drop p l]
    rw [List.filter_append]
    have a1 : (l.take p).filter (fun s => decide (s < key)) = l.take p := by
      rw [List.filter_eq_self]
      intro f hf
      obtain ⟨j, hj, rfl⟩ := List.mem_take_iff_getElem.1 hf
      have := lo j (by omega)
      rw [gd j (by omega)] at this; simpa using this
    have a2 : (l.drop p).filter (fun s => decide (s < key)) = [] := by
      rw [List.filter_eq_nil_iff]
      intro f hf
      obtain ⟨j, hj, rfl⟩ := List.mem_drop_iff_getElem.1 hf
      have := hi (p + j) (by omega) (by omega)
      rw [gd _ (by omega)] at this
      rw [decide_eq_true_eq]; omega
    rw [a1, a2, List.append_nil]
  have e2 : moreI l key = l.drop p := by
    unfold moreI
    conv => lhs; rw [← List.take_append_drop p l]
    rw [List.filter_append]
    have a1 : (l.drop p).filter (fun s => decide (key < s)) = l.drop p := by
      rw [List.filter_eq_self]
      intro f hf
      obtain ⟨j, hj, rfl⟩ := List.mem_drop_iff_getElem.1 hf
      have := hi (p + j) (by omega) (by omega)
      rw [gd _ (by omega)] at this; simpa using this
    have a2 : (l.take p).filter (fun s => decide (key < s)) = [] := by
      rw [List.filter_eq_nil_iff]
      intro f hf
      obtain ⟨j, hj, rfl⟩ := List.mem_take_iff_getElem.1 hf
      have := lo j (by omega)
      rw [gd _ (by omega)] at this
      rw [decide_eq_true_eq]; omega
    rw [a1, a2, List.nil_append]
  rw [e1, e2, ins_eq _ _ _ hp]
end Go.Proofs.YtainmipdnjcbkaaGreatDoor
namespace Go.Proofs.YtainmipdnjcbkaaGreatDoor
set_option linter.unusedVariables false
set_option linter.unusedSimpArgs false
open Go Go.RowKit
set_option maxRecDepth 100000
set_option linter.unusedSimpArgs false
def othersI (l : List Int) (key : Int) : List Int := l.filter fun s => decide (s ≠ key)
theorem placeI_get {l : List Int} {key : Int} (hr : RisesI l) (h : key ∈ l) : l.getD (placeI l key) default = key := by
  obtain ⟨k, hk, e⟩ := List.mem_iff_getElem.1 h
  have e2 : l.getD k default = key := by rw [List.getD_eq_getElem?_getD, List.getElem?_eq_getElem hk]; exact e
  have : placeI l key = k := placeI_eq (by omega) (fun j hj => by rw [← e2]; exact risesI_lt hr hj hk) (fun _ => by rw [e2]; omega)
  rw [this, e2]
theorem othersI_erase {l : List Int} {key : Int} (hr : RisesI l) (h : key ∈ l) : othersI l key = l.eraseIdx (placeI l key) := by
  have hpl : placeI l key < l.length := placeI_lt hr h
  have hpk : l.getD (placeI l key) default = key := placeI_get hr h
  generalize placeI l key = p at *
  have hne : ∀ j, j < l.length → j ≠ p → l.getD j default ≠ key := fun j hj hjp e => by
    rcases Nat.lt_or_gt_of_ne hjp with h1 | h1
    · have := risesI_lt hr h1 hpl; omega
    · have := risesI_lt hr h1 hj; omega
  have hs : l = l.take p ++ l.getD p default :: l.drop (p + 1) := by
    rw [List.getD_eq_getElem?_getD, List.getElem?_eq_getElem hpl]
    simp
  have h1 : (l.take p).filter (fun f => decide (f ≠ key)) = l.take p := by
    rw [List.filter_eq_self]
    intro f hf
    obtain ⟨j, hj, rfl⟩ := List.mem_take_iff_getElem.1 hf
    have := hne j (by omega) (by omega)
    rw [List.getD_eq_getElem?_getD, List.getElem?_eq_getElem (by omega)] at this
    simpa using this
  have h2 : (l.drop (p + 1)).filter (fun f => decide (f ≠ key)) = l.drop (p + 1) := by
    rw [List.filter_eq_self]
    intro f hf
    obtain ⟨j, hj, rfl⟩ := List.mem_drop_iff_getElem.1 hf
    have := hne (p + 1 + j) (by omega) (by omega)
    rw [List.getD_eq_getElem?_getD, List.getElem?_eq_getElem (by omega)] at this
    simpa using this
  rw [erase_eq]
  unfold othersI
  conv => lhs; rw [hs]
  rw [List.filter_append, List.filter_cons_of_neg (by simp only [hpk]; simp), h1, h2]
end Go.Proofs.YtainmipdnjcbkaaGreatDoor
namespace Go.Proofs.YtainmipdnjcbkaaGreatDoor
set_option linter.unusedVariables false
set_option linter.unusedSimpArgs false
open Go Go.RowKit
set_option maxRecDepth 100000
set_option linter.unusedSimpArgs false
end Go.Proofs.YtainmipdnjcbkaaGreatDoor
namespace Go.Proofs.YtainmipdnjcbkaaGreatDoor
set_option linter.unusedVariables false
set_option linter.unusedSimpArgs false
open Go Go.RowKit
set_option maxRecDepth 100000
set_option linter.unusedSimpArgs false
end Go.Proofs.YtainmipdnjcbkaaGreatDoor
namespace Go.Proofs.YtainmipdnjcbkaaGreatDoor
set_option linter.unusedVariables false
set_option linter.unusedSimpArgs false
open Go Go.RowKit
set_option maxRecDepth 100000
set_option linter.unusedSimpArgs false
def okT (t : ATree) : Prop := t.wf ∧ ∀ n, n ∈ t.nodes → n.path.length ≤ 1048576
end Go.Proofs.YtainmipdnjcbkaaGreatDoor
namespace Go.Proofs.YtainmipdnjcbkaaGreatDoor
set_option linter.unusedVariables false
set_option linter.unusedSimpArgs false
open Go Go.RowKit
set_option maxRecDepth 100000
set_option linter.unusedSimpArgs false
end Go.Proofs.YtainmipdnjcbkaaGreatDoor
namespace Go.Proofs.YtainmipdnjcbkaaGreatDoor
set_option linter.unusedVariables false
set_option linter.unusedSimpArgs false
open Go Go.RowKit
set_option maxRecDepth 100000
set_option linter.unusedSimpArgs false
structure CSt where
  t : ATree
  w : List AWatch
  n : List ANote
end Go.Proofs.YtainmipdnjcbkaaGreatDoor
namespace Go.Proofs.YtainmipdnjcbkaaGreatDoor
set_option linter.unusedVariables false
set_option linter.unusedSimpArgs false
open Go Go.RowKit
set_option maxRecDepth 100000
set_option linter.unusedSimpArgs false
def playT (t : ATree) : List ATxn → Option ATree
  | [] => some t
  | x :: r => if (applyT t x).2.2 = 0 then playT (applyT t x).1 r else none
theorem playT_app (a b : List ATxn) : ∀ t, playT t (a ++ b) = (playT t a).bind fun u => playT u b := by
  induction a with
  | nil => intro t; rfl
  | cons x a ih =>
    intro t
    rw [List.cons_append, playT, playT]
    split
    · exact ih _
    · rfl
theorem playT_take {t u : ATree} {l : List ATxn} (h : playT t l = some u) (k : Nat) : ∃ v, playT t (l.take k) = some v := by
  rw [← List.take_append_drop k l, playT_app] at h
  cases e : playT t (l.take k) with
  | none => rw [e] at h; cases h
  | some v => exact ⟨v, rfl⟩
structure UpOk (s : AServer) (e : Option (List UInt8)) (a : Nat) : Prop where
  up : s.up = true
  disk : s.disk.files = mkD e (encs (s.peer.log.take a)) (encs (s.peer.log.drop a))
  le : a ≤ s.peer.log.length
  log : logOk s.peer.log
  small : (encs s.peer.log).length ≤ 1048576
  elen : ∀ x, e = some x → x.length ≤ 1048576
  d0 : 0 ≤ s.peer.done
  dl : s.peer.done ≤ s.peer.log.length
  tree : playT t00 (s.peer.log.take s.peer.done.toNat) = some s.tree
  play : ∃ v, playT t00 s.peer.log = some v
theorem split_encs (l : List ATxn) (a : Nat) : encs (l.take a) ++ encs (l.drop a) = encs l := by rw [← encs_app, List.take_append_drop]
theorem UpOk.okD {s : AServer} {e : Option (List UInt8)} {a : Nat} (h : UpOk s e a) : okD e (encs (s.peer.log.take a)) (encs (s.peer.log.drop a)) :=
  ⟨h.elen, by rw [← List.length_append, split_encs]; exact h.small⟩
theorem UpOk.scan {s : AServer} {e : Option (List UInt8)} {a : Nat} (h : UpOk s e a) : scanT (encs s.peer.log) = (s.peer.log, (encs s.peer.log).length) := by
  have := scan_log h.log (rest := []) dec_nil
  rwa [List.append_nil] at this
theorem UpOk.recovers {s : AServer} {e : Option (List UInt8)} {a : Nat} (h : UpOk s e a) : recoverD s.disk.files = (s.peer.log, ⟨mkD e (encs s.peer.log) []⟩, 0) := by
  rw [h.disk, recover_mk h.okD, split_encs, h.scan]
theorem UpOk.good {s : AServer} {e : Option (List UInt8)} {a : Nat} (h : UpOk s e a) : goodD s.disk.files = true := by rw [h.disk]; exact mk_good h.okD
theorem UpOk.take {s : AServer} {e : Option (List UInt8)} {a : Nat} (h : UpOk s e a) {x : ATxn} (hx : goodT x = 0) (hz : lastZ s.peer.log < x.zxid) (hl : (encs s.peer.log).length + (encT x).1.length ≤ 1048576) (hp : ∃ v, playT t00 (s.peer.log ++ [x]) = some v) (safe : Bool) :
    ∃ d, takeS s x safe = (⟨s.up, d, ⟨s.peer.id, s.peer.epoch, s.peer.log ++ [x], s.peer.done⟩, s.tree, s.watches⟩, 0) ∧ UpOk ⟨s.up, d, ⟨s.peer.id, s.peer.epoch, s.peer.log ++ [x], s.peer.done⟩, s.tree, s.watches⟩ e (if safe then s.peer.log.length + 1 else a) := by
  have hle := h.le
  have hlen : (encs (s.peer.log.take a)).length + (encs (s.peer.log.drop a)).length = (encs s.peer.log).length := by rw [← List.length_append, split_encs]
  have hap := append_mk h.okD hx (by omega) safe
  refine ⟨(appendD s.disk.files x safe).1, ?_, ?_⟩
  · unfold takeS
    rw [if_neg (by omega), if_pos (by rw [h.disk, hap])]
  · have hd : (appendD s.disk.files x safe).1.files = mkD e (encs ((s.peer.log ++ [x]).take (if safe then s.peer.log.length + 1 else a))) (encs ((s.peer.log ++ [x]).drop (if safe then s.peer.log.length + 1 else a))) := by
      rw [h.disk, hap]
      cases safe with
      | true =>
        simp only [if_true]
        have e1 : (s.peer.log ++ [x]).take (s.peer.log.length + 1) = s.peer.log ++ [x] := List.take_of_length_le (by simp)
        have e2 : (s.peer.log ++ [x]).drop (s.peer.log.length + 1) = [] := List.drop_eq_nil_of_le (by simp)
        rw [e1, e2, encs_nil, encs_snoc, ← List.append_assoc, split_encs]
      | false =>
        simp only [Bool.false_eq_true, if_false]
        rw [List.take_append_of_le_length hle, List.drop_append_of_le_length hle, encs_snoc]
    refine ⟨h.up, hd, ?_, logOk_snoc h.log (fun _ => hz) hx, by simp only; rw [encs_snoc, List.length_append]; exact hl, h.elen, h.d0, ?_, ?_, hp⟩
    · simp only [List.length_append, List.length_singleton]; split <;> omega
    · have := h.dl; simp only [List.length_append, List.length_singleton]; omega
    · have := h.dl; have := h.d0
      simp only
      rw [List.take_append_of_le_length (by omega)]; exact h.tree
structure DownOk (s : AServer) (e : Option (List UInt8)) (l : List ATxn) : Prop where
  up : s.up = false
  disk : ∃ c, s.disk.files = mkD e c [] ∧ c.length ≤ 1048576 ∧ (scanT c).1 = l
  elen : ∀ x, e = some x → x.length ≤ 1048576
  log : s.peer.log = []
  done : s.peer.done = 0
  ep : s.peer.epoch = 0
  tree : s.tree = t00
  watches : s.watches = []
  play : ∃ v, playT t00 l = some v
theorem DownOk.logOk {s : AServer} {e : Option (List UInt8)} {l : List ATxn} (h : DownOk s e l) : logOk l := by
  obtain ⟨c, _, _, h3⟩ := h.disk
  rw [← h3]; exact (scanT_ok c).1
theorem DownOk.good {s : AServer} {e : Option (List UInt8)} {l : List ATxn} (h : DownOk s e l) : goodD s.disk.files = true := by
  obtain ⟨c, h1, h2, _⟩ := h.disk
  rw [h1]; exact mk_good ⟨h.elen, by simpa using h2⟩
theorem DownOk.recovers {s : AServer} {e : Option (List UInt8)} {l : List ATxn} (h : DownOk s e l) : recoverD s.disk.files = (l, ⟨mkD e (encs l) []⟩, 0) ∧ (encs l).length ≤ 1048576 := by
  obtain ⟨c, h1, h2, h3⟩ := h.disk
  have hr := recover_mk (e := e) (s := c) (t := []) ⟨h.elen, by simpa using h2⟩
  have hsm := scan_small c
  rw [List.append_nil, h3] at hr
  rw [h3] at hsm
  exact ⟨by rw [h1, hr], by omega⟩
theorem DownOk.boot {s : AServer} {e : Option (List UInt8)} {l : List ATxn} (h : DownOk s e l) (id ep : Int) : UpOk ⟨true, ⟨mkD e (encs l) []⟩, ⟨id, ep, l, 0⟩, t00, []⟩ e l.length := by
  refine ⟨rfl, ?_, Nat.le_refl _, h.logOk, h.recovers.2, h.elen, Int.le_refl _, by simp, ?_, h.play⟩
  · simp only; rw [List.take_length, List.drop_length, encs_nil]
  · show playT t00 (l.take 0) = some t00
    rw [List.take_zero]; rfl
end Go.Proofs.YtainmipdnjcbkaaGreatDoor
namespace Go.Proofs.YtainmipdnjcbkaaGreatDoor
set_option linter.unusedVariables false
set_option linter.unusedSimpArgs false
open Go Go.RowKit
set_option maxRecDepth 100000
set_option linter.unusedSimpArgs false
def isDig (c : UInt8) : Bool := decide (48 ≤ c.toNat ∧ c.toNat ≤ 57)
def valS (t : List UInt8) : Nat := t.foldl (fun n c => n * 10 + (c.toNat - 48)) 0
def smallB (t : List UInt8) : Bool := !decide (t = []) && (decide (t.length ≤ 10) && (!(decide (1 < t.length) && decide (((t.getD 0 0).toNat : Int) = 48)) && t.all isDig))
def cutP (s : List UInt8) (c : UInt8) : (List UInt8 × List UInt8) × Bool := if 0 ≤ Lib.indexByte s c then ((s.take (Lib.indexByte s c).toNat, s.drop ((Lib.indexByte s c).toNat + 1)), true) else ((s, []), false)
def readZ (s : List UInt8) : Int × Int := if (cutP s 46).2 = true ∧ smallB (cutP s 46).1.1 = true ∧ smallB (cutP s 46).1.2 = true then mkZ (valS (cutP s 46).1.1) (valS (cutP s 46).1.2) else (0, 2)
theorem getD_some {s : List UInt8} {k : Nat} {c : UInt8} (h : s[k]? = some c) : k < s.length ∧ s.getD k 0 = c := by
  rw [List.getD_eq_getElem?_getD, h]
  exact ⟨(List.getElem?_eq_some_iff.1 h).1, rfl⟩
end Go.Proofs.YtainmipdnjcbkaaGreatDoor
namespace Go.Proofs.YtainmipdnjcbkaaGreatDoor
set_option linter.unusedVariables false
set_option linter.unusedSimpArgs false
open Go Go.RowKit
set_option maxRecDepth 100000
set_option linter.unusedSimpArgs false
def ztext (z : Int) : List UInt8 := Lib.decDigits (z / 2147483648).toNat ++ (46 :: Lib.decDigits (z % 2147483648).toNat)
theorem dig_nat {k : Nat} (h : k < 10) : (UInt8.ofNat (48 + k)).toNat = 48 + k := by rw [UInt8.toNat_ofNat']; exact Nat.mod_eq_of_lt (by omega)
theorem dgt_small {u : Nat} (h : u < 10) : Lib.decDigits u = [UInt8.ofNat (48 + u)] := by rw [Lib.decDigits, dif_pos h]
theorem dgt_big {u : Nat} (h : ¬ u < 10) : Lib.decDigits u = Lib.decDigits (u / 10) ++ [UInt8.ofNat (48 + u % 10)] := by rw [Lib.decDigits, dif_neg h]
theorem dgt_ne (u : Nat) : Lib.decDigits u ≠ [] := by
  by_cases h : u < 10
  · rw [dgt_small h]; simp
  · rw [dgt_big h]; simp
theorem dgt_dig (u : Nat) : ∀ c, c ∈ Lib.decDigits u → isDig c = true := by
  induction u using Nat.strongRecOn with
  | _ u ih =>
    by_cases h : u < 10
    · rw [dgt_small h]
      intro c hc
      rw [List.mem_singleton.1 hc]; unfold isDig; rw [dig_nat h]; simp; omega
    · rw [dgt_big h]
      intro c hc
      rcases List.mem_append.1 hc with hc | hc
      · exact ih (u / 10) (by omega) c hc
      · rw [List.mem_singleton.1 hc]; unfold isDig; rw [dig_nat (Nat.mod_lt _ (by decide))]; simp; omega
theorem valS_snoc1 (a : List UInt8) (c : UInt8) : valS (a ++ [c]) = valS a * 10 + (c.toNat - 48) := by unfold valS; rw [List.foldl_append]; rfl
theorem dgt_val (u : Nat) : valS (Lib.decDigits u) = u := by
  induction u using Nat.strongRecOn with
  | _ u ih =>
    by_cases h : u < 10
    · rw [dgt_small h]; show 0 * 10 + ((UInt8.ofNat (48 + u)).toNat - 48) = u; rw [dig_nat h]; omega
    · rw [dgt_big h, valS_snoc1, ih (u / 10) (by omega), dig_nat (Nat.mod_lt _ (by decide))]; omega
theorem dgt_head (u : Nat) : u ≠ 0 → ((Lib.decDigits u).getD 0 0).toNat ≠ 48 := by
  induction u using Nat.strongRecOn with
  | _ u ih =>
    intro h0
    by_cases h : u < 10
    · rw [dgt_small h]; show (UInt8.ofNat (48 + u)).toNat ≠ 48; rw [dig_nat h]; omega
    · have := ih (u / 10) (by omega) (by omega)
      have hl : 0 < (Lib.decDigits (u / 10)).length := List.length_pos_iff.2 (dgt_ne _)
      rw [dgt_big h, List.getD_eq_getElem?_getD, List.getElem?_append_left hl, ← List.getD_eq_getElem?_getD]
      exact this
theorem dgt_len (u : Nat) : ∀ k, u < 10 ^ (k + 1) → (Lib.decDigits u).length ≤ k + 1 := by
  induction u using Nat.strongRecOn with
  | _ u ih =>
    intro k hk
    by_cases h : u < 10
    · rw [dgt_small h]; simp
    · rw [dgt_big h, List.length_append, List.length_singleton]
      rcases k with _ | k
      · simp at hk; omega
      · have := ih (u / 10) (by omega) k (by rw [Nat.pow_succ] at hk; omega)
        omega
theorem dgt_smallB {u : Nat} (h : u ≤ 2147483647) : smallB (Lib.decDigits u) = true := by
  have hl := dgt_len u 9 (by omega)
  unfold smallB
  simp only [Bool.and_eq_true, Bool.not_eq_true', decide_eq_false_iff_not, decide_eq_true_eq, Bool.and_eq_false_iff, List.all_eq_true]
  refine ⟨dgt_ne u, hl, ?_, dgt_dig u⟩
  by_cases h0 : u = 0
  · subst h0; left; rw [dgt_small (by decide)]; simp
  · right; have := dgt_head u h0; omega
theorem index_at (a b : List UInt8) (h : ∀ c, c ∈ a → c ≠ 46) : Lib.indexByte (a ++ 46 :: b) 46 = a.length := by
  induction a with
  | nil => simp [Lib.indexByte]
  | cons x a ih =>
    have hx : x ≠ 46 := h x (List.mem_cons_self ..)
    have := ih fun c hc => h c (List.mem_cons_of_mem _ hc)
    simp only [List.cons_append, Lib.indexByte]
    rw [this]
    simp [hx]
    try omega
theorem cut_text (a b : List UInt8) (h : ∀ c, c ∈ a → isDig c = true) : cutP (a ++ 46 :: b) 46 = ((a, b), true) := by
  have hi := index_at a b fun c hc e => by subst e; exact absurd (h _ hc) (by decide)
  unfold cutP
  rw [hi, if_pos (by omega), Int.toNat_natCast, List.take_left' rfl]
  congr 2
  rw [show a ++ 46 :: b = (a ++ [46]) ++ b from by simp, List.drop_left' (by simp)]
theorem read_text {z : Int} (h : goodZ z) : readZ (ztext z) = (z, 0) := by
  unfold goodZ at h
  have h1 : (z / 2147483648).toNat ≤ 2147483647 := by omega
  have h2 : (z % 2147483648).toNat ≤ 2147483647 := by omega
  unfold readZ ztext
  rw [cut_text _ _ (dgt_dig _)]
  simp only
  rw [if_pos ⟨trivial, dgt_smallB h1, dgt_smallB h2⟩, dgt_val, dgt_val]
  unfold mkZ
  rw [if_neg (by unfold badZ; omega)]
  congr 1
  omega
theorem ztext_len {z : Int} (h : goodZ z) : (ztext z).length ≤ 21 := by
  unfold goodZ at h
  have h1 := dgt_len (z / 2147483648).toNat 9 (by omega)
  have h2 := dgt_len (z % 2147483648).toNat 9 (by omega)
  unfold ztext
  rw [List.length_append, List.length_cons]; omega
end Go.Proofs.YtainmipdnjcbkaaGreatDoor
namespace Go.Proofs.YtainmipdnjcbkaaGreatDoor
set_option linter.unusedVariables false
set_option linter.unusedSimpArgs false
open Go Go.RowKit
set_option maxRecDepth 100000
set_option linter.unusedSimpArgs false
def epochD (l : List AFile) : Int := if (readD l epN).2 ≠ 0 then 0 else if (readZ (readD l epN).1).2 ≠ 0 then 0 else epZ (readZ (readD l epN).1).1
def bootS (id : Int) (l : List AFile) : AServer × Int :=
  if id < 0 ∨ 2 < id then (default, 3) else if (recoverD l).2.2 ≠ 0 then (default, (recoverD l).2.2) else (⟨true, (recoverD l).2.1, ⟨id, epochD l, (recoverD l).1, 0⟩, t00, []⟩, 0)
def takesS (s : AServer) : List ATxn → AServer × Int
  | [] => (s, 0)
  | x :: r => if (takeS s x true).2 = 0 then takesS (takeS s x true).1 r else (default, (takeS s x true).2)
theorem goodZ_mk {ep : Int} (h0 : 0 ≤ ep) (h1 : ep ≤ 2147483647) : mkZ ep 0 = (ep * 2147483648, 0) ∧ goodZ (ep * 2147483648) ∧ epZ (ep * 2147483648) = ep := by
  have hg : goodZ (ep * 2147483648) := by unfold goodZ; omega
  refine ⟨?_, hg, ?_⟩
  · unfold mkZ; rw [if_neg (by unfold badZ; omega)]; simp
  · unfold epZ; rw [if_pos hg]; omega
def epB (ep : Int) : List UInt8 := ztext (ep * 2147483648)
theorem epB_len {ep : Int} (h0 : 0 ≤ ep) (h1 : ep ≤ 2147483647) : (epB ep).length ≤ 21 := ztext_len (goodZ_mk h0 h1).2.1
theorem epoch_mk {ep : Int} (h0 : 0 ≤ ep) (h1 : ep ≤ 2147483647) {s t : List UInt8} (h : s.length + t.length ≤ 1048576) : epochD (mkD (some (epB ep)) s t) = ep := by
  obtain ⟨_, g2, g3⟩ := goodZ_mk h0 h1
  have hl := epB_len h0 h1
  have hr := read_ep1 (x := epB ep) (s := s) (t := t) ⟨fun x hx => by injection hx with hx; subst hx; omega, h⟩
  have hz : readZ (epB ep) = (ep * 2147483648, 0) := read_text g2
  unfold epochD
  rw [hr, if_neg (fun h => h rfl), hz, if_neg (fun h => h rfl)]
  exact g3
theorem epoch_none {s t : List UInt8} (h : s.length + t.length ≤ 1048576) : epochD (mkD none s t) = 0 := by
  have hr := read_ep0 (s := s) (t := t) ⟨(fun x hx => by cases hx), h⟩
  unfold epochD
  rw [hr, if_pos (by decide)]
theorem play_pos {x : ATxn} {r : List ATxn} {v : ATree} (h : playT t00 (x :: r) = some v) : 0 < x.zxid := by
  rw [playT] at h
  split at h
  · rename_i he
    unfold applyT at he
    split at he
    · rename_i hw; exact absurd he hw
    · rename_i hw
      have := (wrong_ok (Classical.not_not.1 hw)).2.2.1
      exact this
  · cases h
theorem UpOk.takes : ∀ (r : List ATxn) {s : AServer} {e : Option (List UInt8)}, UpOk s e s.peer.log.length → logOk (s.peer.log ++ r) → (encs (s.peer.log ++ r)).length ≤ 1048576 → (∃ v, playT t00 (s.peer.log ++ r) = some v) →
    ∃ d, takesS s r = (⟨s.up, d, ⟨s.peer.id, s.peer.epoch, s.peer.log ++ r, s.peer.done⟩, s.tree, s.watches⟩, 0) ∧ UpOk ⟨s.up, d, ⟨s.peer.id, s.peer.epoch, s.peer.log ++ r, s.peer.done⟩, s.tree, s.watches⟩ e (s.peer.log ++ r).length
  | [], s, e, h, _, _, _ => ⟨s.disk, by rw [List.append_nil]; rfl, by rw [List.append_nil]; exact h⟩
  | x :: r, s, e, h, ho, hl, hp => by
    have hx : goodT x = 0 := ho.2 x (by simp)
    have hz : lastZ s.peer.log < x.zxid := by
      by_cases h0 : 0 < s.peer.log.length
      · rw [lastZ_pos h0]
        have := logOk_lt ho (i := s.peer.log.length - 1) (j := s.peer.log.length) (by omega) (by simp)
        rw [List.getD_eq_getElem?_getD, List.getElem?_append_left (by omega), ← List.getD_eq_getElem?_getD, List.getD_eq_getElem?_getD (i := s.peer.log.length), List.getElem?_append_right (Nat.le_refl _), Nat.sub_self] at this
        exact this
      · have hn : s.peer.log = [] := List.eq_nil_of_length_eq_zero (by omega)
        obtain ⟨v, hv⟩ := hp
        rw [hn, List.nil_append] at hv
        rw [hn, lastZ_nil]; exact play_pos hv
    have hl1 : (encs s.peer.log).length + (encT x).1.length ≤ 1048576 := by
      rw [encs_app, encs_cons, List.length_append, List.length_append] at hl; omega
    have hp1 : ∃ v, playT t00 (s.peer.log ++ [x]) = some v := by
      obtain ⟨v, hv⟩ := hp
      have := playT_take hv (s.peer.log.length + 1)
      rwa [List.take_append, List.take_of_length_le (by omega), Nat.add_sub_cancel_left, List.take_succ_cons, List.take_zero] at this
    obtain ⟨d, t1, t2⟩ := h.take hx hz hl1 hp1 true
    rw [if_pos rfl] at t2
    have e1 : s.peer.log ++ x :: r = (s.peer.log ++ [x]) ++ r := by simp
    obtain ⟨d2, q1, q2⟩ := UpOk.takes r (s := ⟨s.up, d, ⟨s.peer.id, s.peer.epoch, s.peer.log ++ [x], s.peer.done⟩, s.tree, s.watches⟩) (e := e) (by simp only [List.length_append, List.length_singleton]; exact t2) (by simp only; rw [← e1]; exact ho) (by simp only; rw [← e1]; exact hl) (by simp only; rw [← e1]; exact hp)
    simp only at q1 q2
    rw [← e1] at q1 q2
    exact ⟨d2, by rw [takesS, t1, if_pos rfl]; exact q1, q2⟩
end Go.Proofs.YtainmipdnjcbkaaGreatDoor
namespace Go.Proofs.YtainmipdnjcbkaaGreatDoor
set_option linter.unusedVariables false
set_option linter.unusedSimpArgs false
open Go Go.RowKit
set_option maxRecDepth 100000
set_option linter.unusedSimpArgs false
def askOk (t : ATree) (z : Int) (r : ARequest) : Prop := goodTr t = true ∧ goodZ z ∧ 1 ≤ r.session ∧ r.session ≤ 2147483647
instance (t : ATree) (z : Int) (r : ARequest) : Decidable (askOk t z r) := by unfold askOk; infer_instance
end Go.Proofs.YtainmipdnjcbkaaGreatDoor
namespace Go.Proofs.YtainmipdnjcbkaaGreatDoor
set_option linter.unusedVariables false
set_option linter.unusedSimpArgs false
open Go Go.RowKit
set_option maxRecDepth 100000
set_option linter.unusedSimpArgs false
structure AWorld where
  sv : List AServer
  cl : List AClient
  leader : Int
  fl : List Bool
  done : List ATxn
  deeds : Int
namespace AWorld
def s (w : AWorld) (i : Nat) : AServer := w.sv.getD i default
def c (w : AWorld) (i : Nat) : AClient := w.cl.getD i default
def f (w : AWorld) (i : Nat) : Bool := w.fl.getD i false
def setS (w : AWorld) (i : Nat) (s : AServer) : AWorld := { w with sv := w.sv.set i s }
def setC (w : AWorld) (i : Nat) (c : AClient) : AWorld := { w with cl := w.cl.set i c }
def setF (w : AWorld) (i : Nat) (b : Bool) : AWorld := { w with fl := w.fl.set i b }
end AWorld
def noR (e : Int) : AReply := ⟨e, 0, [], [], default, []⟩
def upW (w : AWorld) (i : Nat) : AWorld × AReply :=
  if (w.s i).up = true then (w, noR 8) else
  if (bootS i (w.s i).disk.files).2 ≠ 0 then (w, noR (bootS i (w.s i).disk.files).2) else
  (w.setS i (bootS i (w.s i).disk.files).1, noR 0)
def readW (w : AWorld) (d : ADeed) : AWorld × AReply :=
  if d.client < 0 ∨ 16 ≤ d.client ∨ d.server < 0 ∨ 3 ≤ d.server then (w, noR 3) else
  let i := d.server.toNat
  let k := d.client.toNat
  if (w.s i).up = false then (w, noR 14) else
  if (seeC (w.c k) (w.s i).tree.zxid).2 ≠ 0 then (w, noR (seeC (w.c k) (w.s i).tree.zxid).2) else
  let c := (seeC (w.c k) (w.s i).tree.zxid).1
  let n := getT (w.s i).tree d.request.path
  if d.watch = true then
    let a := addW (w.s i).watches ⟨c.session, 1, d.request.path⟩
    if a.2 ≠ 0 then (w, noR a.2) else
    ((w.setS i { w.s i with watches := a.1 }).setC k ⟨c.session, c.seen, ckeepL c.cache ⟨d.request.path, n.1.data, decide (n.2 = 0)⟩⟩,
      ⟨n.2, (w.s i).tree.zxid, n.1.path, n.1.data, n.1.stat, []⟩)
  else (w.setC k c, ⟨n.2, (w.s i).tree.zxid, n.1.path, n.1.data, n.1.stat, []⟩)
end Go.Proofs.YtainmipdnjcbkaaGreatDoor
namespace Go.Proofs.YtainmipdnjcbkaaGreatDoor
set_option linter.unusedVariables false
set_option linter.unusedSimpArgs false
open Go Go.RowKit
set_option maxRecDepth 100000
set_option linter.unusedSimpArgs false
structure Gh where
  D : List ATxn
  a : Nat
  E : Int
def Two (P : Nat → Prop) : Prop := ∃ i j, i < 3 ∧ j < 3 ∧ i ≠ j ∧ P i ∧ P j
theorem Two.mono {P Q : Nat → Prop} (h : Two P) (hq : ∀ i, i < 3 → P i → Q i) : Two Q := by
  obtain ⟨i, j, h1, h2, h3, h4, h5⟩ := h
  exact ⟨i, j, h1, h2, h3, hq i h1 h4, hq j h2 h5⟩
theorem Two.meet {P Q : Nat → Prop} (h : Two P) (h2 : Two Q) : ∃ i, i < 3 ∧ P i ∧ Q i := by
  obtain ⟨i, j, a1, a2, a3, a4, a5⟩ := h
  obtain ⟨k, m, b1, b2, b3, b4, b5⟩ := h2
  by_cases e1 : i = k
  · subst e1; exact ⟨i, a1, a4, b4⟩
  by_cases e2 : i = m
  · subst e2; exact ⟨i, a1, a4, b5⟩
  by_cases e3 : j = k
  · subst e3; exact ⟨j, a2, a5, b4⟩
  have e4 : j = m := by omega
  subst e4; exact ⟨j, a2, a5, b5⟩
def Old (ld es : Int) (L : List ATxn) (n : Nat) (z : Int) : Prop := 0 ≤ z ∧ z / 2147483648 ≤ es ∧ z % 2147483648 ≤ n ∧ (0 ≤ ld → z / 2147483648 < es ∨ z ≤ lastZ L)
structure Pr (g : Nat → Gh) (ld es : Int) (K : List ATxn) (n : Nat) : Prop where
  log : ∀ j, j < 3 → logOk (g j).D
  al : ∀ j, j < 3 → (g j).a ≤ (g j).D.length
  pos : ∀ j, j < 3 → ∀ x, x ∈ (g j).D → 0 < x.zxid
  old : ∀ j, j < 3 → ∀ x, x ∈ (g j).D → Old ld es (g ld.toNat).D n x.zxid
  es0 : 0 ≤ es
  esn : es ≤ n
  E0 : ∀ j, j < 3 → 0 ≤ (g j).E ∧ (g j).E ≤ n
  q : Two fun j => es ≤ (g j).E
  one : ∀ i j, i < 3 → j < 3 → ∀ x y, x ∈ (g i).D → y ∈ (g j).D → x.zxid = y.zxid → x = y
  k1 : Two fun j => K <+: (g j).D ∧ K.length ≤ (g j).a
  k2 : ∀ j, j < 3 → lastZ K ≤ lastZ (g j).D → K <+: (g j).D
  k3 : 0 ≤ ld → K <+: (g ld.toNat).D
  ld0 : 0 ≤ ld → ld < 3 ∧ (g ld.toNat).E = es
def upd (g : Nat → Gh) (j : Nat) (x : Gh) : Nat → Gh := fun i => if i = j then x else g i
theorem lastZ_mem {l : List ATxn} (h : l ≠ []) : ∃ x, x ∈ l ∧ x.zxid = lastZ l := by
  have hp := List.length_pos_iff.2 h
  exact ⟨_, getD_mem l (l.length - 1) (by omega), (lastZ_pos hp).symm⟩
theorem lastZ_ge {l : List ATxn} (h : logOk l) {x : ATxn} (hx : x ∈ l) : x.zxid ≤ lastZ l := by
  obtain ⟨k, hk, rfl⟩ := List.getElem_of_mem hx
  rw [lastZ_pos (by omega)]
  have e : l[k] = l.getD k default := by rw [List.getD_eq_getElem?_getD, List.getElem?_eq_getElem hk]; rfl
  rw [e]
  by_cases h2 : k = l.length - 1
  · subst h2; exact Int.le_refl _
  · exact Int.le_of_lt (logOk_lt h (by omega) (by omega))
theorem lastZ_nonneg {l : List ATxn} (h : ∀ x, x ∈ l → 0 < x.zxid) : 0 ≤ lastZ l := by
  by_cases e : l = []
  · subst e; exact Int.le_refl _
  · obtain ⟨x, h1, h2⟩ := lastZ_mem e
    have := h x h1; omega
theorem Old.up {ld es : Int} {L : List ATxn} {n m : Nat} {z : Int} (h : Old ld es L n z) (hm : n ≤ m) : Old ld es L m z := ⟨h.1, h.2.1, by have := h.2.2.1; omega, h.2.2.2⟩
theorem Old.lead {ld es : Int} {L : List ATxn} {n : Nat} {z : Int} (h : Old ld es L n z) {b ep : Int} (he : es < ep) (L2 : List ATxn) : Old b ep L2 n z := ⟨h.1, by have := h.2.1; omega, h.2.2.1, fun _ => .inl (by have := h.2.1; omega)⟩
theorem Old.more {ld es : Int} {L : List ATxn} {n : Nat} {z : Int} (h : Old ld es L n z) {L2 : List ATxn} (hl : lastZ L ≤ lastZ L2) : Old ld es L2 n z := ⟨h.1, h.2.1, h.2.2.1, fun h0 => (h.2.2.2 h0).imp id fun h1 => by omega⟩
theorem Pr.mono {g : Nat → Gh} {ld es : Int} {K : List ATxn} {n m : Nat} (h : Pr g ld es K n) (hm : n ≤ m) : Pr g ld es K m :=
  { h with
    old := fun j hj x hx => (h.old j hj x hx).up hm
    esn := by have := h.esn; omega
    E0 := fun j hj => ⟨(h.E0 j hj).1, by have := (h.E0 j hj).2; omega⟩ }
theorem Pr.lead {g : Nat → Gh} {es : Int} {K : List ATxn} {n : Nat} (h : Pr g (-1) es K n) {ep : Int} (h1 : es < ep) (h2 : ep ≤ n) (hq : Two fun j => ep ≤ (g j).E) {b : Nat} (hb : b < 3) (hE : (g b).E = ep) (hK : K <+: (g b).D) : Pr g b ep K n :=
  { h with
    old := fun j hj x hx => (h.old j hj x hx).lead h1 _
    es0 := by have := h.es0; omega
    esn := h2
    q := hq
    k3 := fun _ => hK
    ld0 := fun _ => ⟨by omega, hE⟩ }
theorem Pr.epoch {g : Nat → Gh} {ld es : Int} {K : List ATxn} {n : Nat} (h : Pr g ld es K n) {U : Nat → Prop} (hU : Two U) {ep : Int} (hm : ∀ j, j < 3 → U j → (g j).E < ep) : es < ep := by
  obtain ⟨i, h1, h2, h3⟩ := hU.meet h.q
  have := hm i h1 h2
  omega
end Go.Proofs.YtainmipdnjcbkaaGreatDoor
namespace Go.Proofs.YtainmipdnjcbkaaGreatDoor
set_option linter.unusedVariables false
set_option linter.unusedSimpArgs false
open Go Go.RowKit
set_option maxRecDepth 100000
set_option linter.unusedSimpArgs false
end Go.Proofs.YtainmipdnjcbkaaGreatDoor
namespace Go.Proofs.YtainmipdnjcbkaaGreatDoor
set_option linter.unusedVariables false
set_option linter.unusedSimpArgs false
open Go Go.RowKit
set_option maxRecDepth 100000
set_option linter.unusedSimpArgs false
def kidsC (L : List (List UInt8)) (p : List UInt8) : Nat := L.countP fun q => decide (dirP q = p)
structure PsOk (L : List (List UInt8)) : Prop where
  rises : Rises L
  root : [47] ∈ L
  len : L.length ≤ 400
  good : ∀ q, q ∈ L → goodP q = true
  up : ∀ q, q ∈ L → q = [47] ∨ dirP q ∈ L
structure NdOk (L : List (List UInt8)) (ss : List Int) (z C : Int) (n : ANode) : Prop where
  data : n.data.length ≤ 256
  v : 0 ≤ n.stat.version ∧ n.stat.version ≤ 2147483647
  cv : 0 ≤ n.stat.cversion ∧ n.stat.cversion ≤ C
  zs : 0 ≤ n.stat.czxid ∧ n.stat.czxid ≤ n.stat.mzxid ∧ n.stat.czxid ≤ n.stat.pzxid ∧ n.stat.mzxid ≤ z ∧ n.stat.pzxid ≤ z
  own : n.stat.owner ≠ 0 → n.stat.owner ∈ ss ∧ n.stat.kids = 0
  root : n.path = [47] → n.stat.owner = 0
  kids : n.stat.kids = kidsC L n.path
theorem dirT_dirP (t : ATree) (k : Nat) : dirT t k = dirP (nd t k).path := rfl
theorem kidsN_C (t : ATree) (p : List UInt8) : ∀ n, n ≤ t.nodes.length → kidsN t p n = kidsC ((pathsT t).take n) p
  | 0, _ => rfl
  | n + 1, h => by
    rw [kidsN_succ, kidsN_C t p n (by omega)]
    unfold kidsC
    have e : (pathsT t).take (n + 1) = (pathsT t).take n ++ [(nd t n).path] := by
      rw [List.take_add_one, ← pathsT_get, List.getD_eq_getElem?_getD]
      rw [List.getElem?_eq_getElem (by rw [pathsT_len]; omega)]; rfl
    rw [e, List.countP_append, dirT_dirP]
    congr 1
    by_cases e2 : dirP (nd t n).path = p
    · rw [if_pos e2, List.countP_cons_of_pos (by simpa using e2)]; rfl
    · rw [if_neg e2, List.countP_cons_of_neg (by simpa using e2)]; rfl
theorem goodP_ge {q : List UInt8} (h : goodP q = true) : ¬ q < [47] := by
  have h47 : ∃ r, q = 47 :: r := by
    unfold goodP at h
    rw [Bool.or_eq_true, Bool.and_eq_true, Bool.and_eq_true, decide_eq_true_eq, decide_eq_true_eq, decide_eq_true_eq] at h
    rcases h with h | h
    · exact ⟨[], h⟩
    · rcases q with _ | ⟨a, r⟩
      · simp at h
      · have := h.2.1.2
        rw [List.take_succ_cons, List.take_zero] at this
        injection this with this
        exact ⟨r, by rw [this]⟩
  obtain ⟨r, rfl⟩ := h47
  intro hl
  rcases List.cons_lt_cons_iff.1 hl with h | h
  · exact absurd h (by decide)
  · exact absurd h.2 (List.not_lt_nil _)
theorem goodP_nil : goodP [] = false := by decide
theorem mem_path {ns : List ANode} {n : ANode} (h : n ∈ ns) : n.path ∈ pathsN ns := List.mem_map_of_mem h
theorem nd_mem {t : ATree} {k : Nat} (h : k < t.nodes.length) : nd t k ∈ t.nodes := getD_mem t.nodes k h
theorem good_to {t : ATree} (h : goodTr t = true) : PsOk (pathsT t) ∧ ∀ n, n ∈ t.nodes → NdOk (pathsT t) t.sessions t.zxid 2147483647 n := by
  obtain ⟨⟨a1, a2, a3, a4, a5⟩, b, c, d⟩ := goodTr_iff.1 h
  have hr := good_rises h
  refine ⟨⟨hr, ?_, by rw [pathsT_len]; exact a2, fun q hq => ?_, fun q hq => ?_⟩, fun n hn => ?_⟩
  · rw [← a3]; exact List.mem_map_of_mem (nd_mem (by omega))
  · obtain ⟨n, hn, rfl⟩ := List.mem_map.1 hq
    obtain ⟨k, hk, rfl⟩ := (mem_iff_getD t.nodes default n).1 hn
    exact (c k hk).1
  · obtain ⟨n, hn, rfl⟩ := List.mem_map.1 hq
    obtain ⟨k, hk, rfl⟩ := (mem_iff_getD t.nodes default n).1 hn
    rcases (d k hk).2.2.1 with e | e
    · subst e; exact .inl a3
    · exact .inr e
  · obtain ⟨k, hk, rfl⟩ := (mem_iff_getD t.nodes default n).1 hn
    obtain ⟨d1, d2, d3, d4⟩ := d k hk
    obtain ⟨s1, s2, s3, s4, s5, s6, s7, s8, s9⟩ := d1
    refine ⟨(c k hk).2.1, ⟨s1, s2⟩, ⟨s3, s4⟩, ⟨s5, s6, s7, s8, s9⟩, d2, fun e => ?_, ?_⟩
    · by_cases e0 : k = 0
      · subst e0; exact a4
      · exfalso
        have := rises_lt hr (i := 0) (j := k) (by omega) (by rw [pathsT_len]; exact hk)
        rw [pathsT_get, pathsT_get, a3] at this
        change (nd t k).path = [47] at e
        rw [e] at this
        exact List.lt_irrefl _ this
    · show (nd t k).stat.kids = _
      rw [d4, kidsN_C t _ _ (Nat.le_refl _), List.take_of_length_le (by rw [pathsT_len]; exact Nat.le_refl _)]; rfl
theorem good_from {t : ATree} (hz : goodZ t.zxid) (hs : ∀ k, k < t.sessions.length → sessOk t.sessions k) (hp : PsOk (pathsT t)) (hn : ∀ n, n ∈ t.nodes → NdOk (pathsT t) t.sessions t.zxid 2147483647 n) : goodTr t = true := by
  have hl := hp.len
  rw [pathsT_len] at hl
  have hpos : 1 ≤ t.nodes.length := by
    have := List.length_pos_of_mem hp.root
    rw [pathsT_len] at this; omega
  have hq : ∀ k, k < t.nodes.length → (nd t k).path ∈ pathsT t := fun k hk => List.mem_map_of_mem (nd_mem hk)
  have h0 : (nd t 0).path = [47] := by
    obtain ⟨k, hk, e⟩ := (mem_iff_getD (pathsT t) [] [47]).1 hp.root
    by_cases e0 : k = 0
    · subst e0; rw [← pathsT_get]; exact e
    · exfalso
      have := rises_lt hp.rises (i := 0) (j := k) (by omega) hk
      rw [e, pathsT_get] at this
      exact goodP_ge (hp.good _ (hq 0 (by omega))) this
  refine goodTr_iff.2 ⟨⟨hpos, hl, h0, (hn _ (nd_mem (by omega))).root h0, hz⟩, hs, fun k hk => ⟨hp.good _ (hq k hk), (hn _ (nd_mem hk)).data, fun hk0 => ?_⟩, fun k hk => ?_⟩
  · have := hp.rises (k - 1) (by rw [pathsT_len]; omega)
    rwa [pathsT_get, pathsT_get, Nat.sub_add_cancel hk0] at this
  · have h := hn _ (nd_mem hk)
    obtain ⟨z1, z2, z3, z4, z5⟩ := h.zs
    refine ⟨⟨h.v.1, h.v.2, h.cv.1, h.cv.2, z1, z2, z3, z4, z5⟩, h.own, ?_, ?_⟩
    · rcases hp.up _ (hq k hk) with e | e
      · left
        apply Classical.byContradiction
        intro e0
        have := rises_lt hp.rises (i := 0) (j := k) (by omega) (by rw [pathsT_len]; exact hk)
        rw [pathsT_get, pathsT_get, h0, e] at this
        exact List.lt_irrefl _ this
      · exact .inr e
    · rw [h.kids, kidsN_C t _ _ (Nat.le_refl _), List.take_of_length_le (by rw [pathsT_len]; exact Nat.le_refl _)]
theorem kidsC_erase {L : List (List UInt8)} {i : Nat} (hi : i < L.length) (q : List UInt8) : kidsC (L.eraseIdx i) q + (if dirP (L.getD i []) = q then 1 else 0) = kidsC L q := by
  have e : L = L.take i ++ L.getD i [] :: L.drop (i + 1) := by
    rw [List.getD_eq_getElem?_getD, List.getElem?_eq_getElem hi]; simp
  unfold kidsC
  conv => rhs; rw [e]
  rw [erase_eq, List.countP_append, List.countP_append]
  by_cases h : dirP (L.getD i []) = q
  · rw [if_pos h, List.countP_cons_of_pos (by simpa using h)]; omega
  · rw [if_neg h, List.countP_cons_of_neg (by simpa using h)]; omega
theorem kidsC_ins {L : List (List UInt8)} {i : Nat} (hi : i ≤ L.length) (p q : List UInt8) : kidsC (L.insertIdx i p) q = kidsC L q + (if dirP p = q then 1 else 0) := by
  unfold kidsC
  conv => rhs; rw [← List.take_append_drop i L]
  rw [ins_eq _ _ _ hi, List.countP_append, List.countP_append]
  by_cases h : dirP p = q
  · rw [if_pos h, List.countP_cons_of_pos (by simpa using h)]; omega
  · rw [if_neg h, List.countP_cons_of_neg (by simpa using h)]; omega
theorem kidsC_le (L : List (List UInt8)) (q : List UInt8) : kidsC L q ≤ L.length := List.countP_le_length
theorem kidsC_pos {L : List (List UInt8)} {p : List UInt8} (h : p ∈ L) : 0 < kidsC L (dirP p) := List.countP_pos_iff.2 ⟨p, h, by simp⟩
theorem getD_pathsN (ns : List ANode) (i : Nat) : (pathsN ns).getD i [] = (ns.getD i default).path := getD_map ANode.path ns i default
theorem mem_setN {ns : List ANode} (hr : Rises (pathsN ns)) {i : Nat} {n m : ANode} (hi : i < ns.length) (h : m ∈ ns.set i n) : m = n ∨ (m ∈ ns ∧ m.path ≠ (ns.getD i default).path) := by
  obtain ⟨j, hj, rfl⟩ := List.getElem_of_mem h
  rw [List.length_set] at hj
  rw [List.getElem_set]
  split
  · exact .inl rfl
  · rename_i e
    refine .inr ⟨List.getElem_mem _, fun e2 => ?_⟩
    have ej : ns[j].path = (pathsN ns).getD j [] := by rw [getD_pathsN, List.getD_eq_getElem?_getD, List.getElem?_eq_getElem hj]; rfl
    rw [ej, ← getD_pathsN] at e2
    have hl := pathsN_len ns
    rcases Nat.lt_or_gt_of_ne e with h1 | h1
    · have := rises_lt hr h1 (by omega); rw [e2] at this; exact List.lt_irrefl _ this
    · have := rises_lt hr h1 (by omega); rw [e2] at this; exact List.lt_irrefl _ this
theorem mem_eraseN {ns : List ANode} (hr : Rises (pathsN ns)) {i : Nat} {m : ANode} (hi : i < ns.length) (h : m ∈ ns.eraseIdx i) : m ∈ ns ∧ m.path ≠ (ns.getD i default).path := by
  refine ⟨List.mem_of_mem_eraseIdx h, fun e2 => ?_⟩
  rw [List.mem_eraseIdx_iff_getElem] at h
  obtain ⟨j, hj, hne, e⟩ := h
  have ej : m.path = (pathsN ns).getD j [] := by rw [getD_pathsN, List.getD_eq_getElem?_getD, List.getElem?_eq_getElem hj, ← e]; rfl
  rw [ej, ← getD_pathsN] at e2
  have hl := pathsN_len ns
  rcases Nat.lt_or_gt_of_ne hne with h1 | h1
  · have := rises_lt hr h1 (by omega); rw [e2] at this; exact List.lt_irrefl _ this
  · have := rises_lt hr h1 (by omega); rw [e2] at this; exact List.lt_irrefl _ this
theorem memI_iff {L : List (List UInt8)} {p : List UInt8} (hr : Rises L) (h : p ∈ L) {q : List UInt8} : q ∈ L.eraseIdx (place L p) ↔ q ∈ L ∧ q ≠ p := by
  have hf := zc hr h
  constructor
  · intro hq
    refine ⟨List.mem_of_mem_eraseIdx hq, fun e => ?_⟩
    subst e
    rw [List.mem_eraseIdx_iff_getElem] at hq
    obtain ⟨j, hj, hne, e⟩ := hq
    have ej : L.getD j [] = q := by rw [List.getD_eq_getElem?_getD, List.getElem?_eq_getElem hj]; exact e
    have hpl := hf.1
    rcases Nat.lt_or_gt_of_ne hne with h1 | h1
    · have := rises_lt hr h1 (by omega); rw [hf.2, ej] at this; exact List.lt_irrefl _ this
    · have := rises_lt hr h1 (by omega); rw [hf.2, ej] at this; exact List.lt_irrefl _ this
  · intro hq
    exact mem_erase hq.1 (by rw [hf.2]; exact fun e => hq.2 e.symm)
end Go.Proofs.YtainmipdnjcbkaaGreatDoor
namespace Go.Proofs.YtainmipdnjcbkaaGreatDoor
set_option linter.unusedVariables false
set_option linter.unusedSimpArgs false
open Go Go.RowKit
set_option maxRecDepth 100000
set_option linter.unusedSimpArgs false
theorem wrap_small {z : Int} (h0 : -9223372036854775808 ≤ z) (h1 : z < 9223372036854775808) : IntKind.i64.wrap z = z := by
  rw [IntKind.wrap_i64]; omega
theorem dir_root : dirP [47] = [] := by unfold dirP; rw [split_root]
theorem del_ok {ns : List ANode} {ss : List Int} {z C : Int} (hp : PsOk (pathsN ns)) (hn : ∀ n, n ∈ ns → NdOk (pathsN ns) ss z C n) {p : List UInt8} (hm : p ∈ pathsN ns) (h47 : p ≠ [47]) (hk : kidsC (pathsN ns) p = 0) {z' : Int} (hz : z ≤ z') (hC : C < 4294967296) :
    pathsN (delN ns p z') = (pathsN ns).eraseIdx (place (pathsN ns) p) ∧ PsOk (pathsN (delN ns p z')) ∧ ∀ n, n ∈ delN ns p z' → NdOk (pathsN (delN ns p z')) ss z' (C + 1) n ∧ ∃ m, m ∈ ns ∧ m.path = n.path ∧ m.stat.owner = n.stat.owner := by
  have hr := hp.rises
  have hf := zc hr hm
  have hi : place (pathsN ns) p < ns.length := by have := hf.1; rwa [pathsN_len] at this
  have e1 : pathsN (delN ns p z') = (pathsN ns).eraseIdx (place (pathsN ns) p) := by unfold delN; rw [pathsN_kid, pathsN_erase]
  have hmem := fun q => memI_iff hr hm (q := q)
  have hdm : dirP p ∈ pathsN ns := (hp.up p hm).resolve_left h47
  have hdn : dirP p ≠ p := dir_ne (hp.good p hm) h47
  have hdm2 : dirP p ∈ (pathsN ns).eraseIdx (place (pathsN ns) p) := (hmem _).2 ⟨hdm, hdn⟩
  have hr2 := rises_erase hr (place (pathsN ns) p)
  have hno : ∀ q, q ∈ pathsN ns → dirP q ≠ p := fun q hq e => by
    have := kidsC_pos hq; rw [e] at this; omega
  have hct : ∀ q, kidsC ((pathsN ns).eraseIdx (place (pathsN ns) p)) q + (if dirP p = q then 1 else 0) = kidsC (pathsN ns) q := fun q => by
    have := kidsC_erase hf.1 q
    rwa [hf.2] at this
  refine ⟨e1, ?_, ?_⟩
  · rw [e1]
    refine ⟨hr2, (hmem _).2 ⟨hp.root, fun e => h47 e.symm⟩, ?_, fun q hq => hp.good q ((hmem q).1 hq).1, fun q hq => ?_⟩
    · have := hp.len; rw [erase_len _ _ hf.1]; omega
    · have hq1 := ((hmem q).1 hq).1
      exact (hp.up q hq1).imp id fun h => (hmem _).2 ⟨h, hno q hq1⟩
  · intro n hnm
    rw [e1]
    unfold delN kidN at hnm
    rw [if_pos (by rw [pathsN_erase]; exact hdm2), pathsN_erase] at hnm
    have hf2 := zc hr2 hdm2
    have hlen : (ns.eraseIdx (place (pathsN ns) p)).length = ((pathsN ns).eraseIdx (place (pathsN ns) p)).length := by rw [← pathsN_erase, pathsN_len]
    have hi2 : place ((pathsN ns).eraseIdx (place (pathsN ns) p)) (dirP p) < (ns.eraseIdx (place (pathsN ns) p)).length := by rw [hlen]; exact hf2.1
    have hpd : ((ns.eraseIdx (place (pathsN ns) p)).getD (place ((pathsN ns).eraseIdx (place (pathsN ns) p)) (dirP p)) default).path = dirP p := by
      rw [← getD_pathsN, pathsN_erase]; exact hf2.2
    have hd0 := getD_mem (ns.eraseIdx (place (pathsN ns) p)) _ hi2
    rcases mem_setN (by rw [pathsN_erase]; exact hr2) hi2 hnm with e | ⟨h1, h2⟩
    · generalize (ns.eraseIdx (place (pathsN ns) p)).getD (place ((pathsN ns).eraseIdx (place (pathsN ns) p)) (dirP p)) default = d at hpd hd0 e
      have hdn2 := List.mem_of_mem_eraseIdx hd0
      have ho := hn d hdn2
      have hpos := kidsC_pos hm
      have hle := kidsC_le (pathsN ns) (dirP p)
      have hl4 := hp.len
      have hkd := ho.kids
      rw [hpd] at hkd
      have how : d.stat.owner = 0 := by
        apply Classical.byContradiction
        intro h; have := (ho.own h).2; omega
      have hc := hct (dirP p)
      rw [if_pos rfl] at hc
      subst e
      have hcv := ho.cv
      have hzs := ho.zs
      refine ⟨⟨ho.data, ho.v, ⟨?_, ?_⟩, ?_, fun h => absurd how h, fun h => how, ?_⟩, d, hdn2, rfl, rfl⟩
      · show 0 ≤ IntKind.i64.wrap (d.stat.cversion + 1)
        rw [wrap_small (by omega) (by omega)]; omega
      · show IntKind.i64.wrap (d.stat.cversion + 1) ≤ C + 1
        rw [wrap_small (by omega) (by omega)]; omega
      · show 0 ≤ d.stat.czxid ∧ d.stat.czxid ≤ d.stat.mzxid ∧ d.stat.czxid ≤ z' ∧ d.stat.mzxid ≤ z' ∧ z' ≤ z'
        omega
      · show IntKind.i64.wrap (d.stat.kids + -1) = _
        rw [wrap_small (by omega) (by omega)]
        show _ = ((kidsC _ d.path : Nat) : Int)
        rw [hpd]; omega
    · obtain ⟨h3, h4⟩ := mem_eraseN hr hi h1
      rw [hpd] at h2
      have ho := hn n h3
      have hc := hct n.path
      rw [if_neg (fun e => h2 e.symm)] at hc
      have hcv := ho.cv
      have hzs := ho.zs
      exact ⟨⟨ho.data, ho.v, by omega, by omega, ho.own, ho.root, by rw [ho.kids]; omega⟩, n, h3, rfl, rfl⟩
theorem NdOk.more {L : List (List UInt8)} {ss ss' : List Int} {z z' C : Int} {n : ANode} (h : NdOk L ss z C n) (hz : z ≤ z') (hs : ∀ s, s ∈ ss → s ∈ ss') : NdOk L ss' z' C n :=
  ⟨h.data, h.v, h.cv, by have := h.zs; omega, fun h0 => ⟨hs _ (h.own h0).1, (h.own h0).2⟩, h.root, h.kids⟩
theorem add_ok {ns : List ANode} {ss : List Int} {z C : Int} (hp : PsOk (pathsN ns)) (hn : ∀ n, n ∈ ns → NdOk (pathsN ns) ss z C n) {x : ATxn} (hm : ¬ x.path ∈ pathsN ns) (hg : goodP x.path = true) (h47 : x.path ≠ [47]) (hd : dirP x.path ∈ pathsN ns) (hdata : x.data.length ≤ 256)
    (hl : ns.length < 400) (hown : ∀ n, n ∈ ns → n.path = dirP x.path → n.stat.owner = 0) (hxo : x.owner ≠ 0 → x.owner ∈ ss) (hz : z ≤ x.zxid) (hz0 : 0 ≤ x.zxid) (hC : C < 4294967296) (hC0 : 0 ≤ C) :
    PsOk (pathsN (addN ns x)) ∧ ∀ n, n ∈ addN ns x → NdOk (pathsN (addN ns x)) ss x.zxid (C + 1) n := by
  have hr := hp.rises
  have hpl := place_le (pathsN ns) x.path
  have hpl2 : place (pathsN ns) x.path ≤ ns.length := by rwa [pathsN_len] at hpl
  have e1 : pathsN (addN ns x) = (pathsN ns).insertIdx (place (pathsN ns) x.path) x.path := by unfold addN; rw [pathsN_kid, pathsN_ins]; rfl
  have hmem := fun q => mem_ins (y := q) (x := x.path) hpl
  have hr2 := rises_ins hr hm
  have hdn : dirP x.path ≠ x.path := dir_ne hg h47
  have hct : ∀ q, kidsC ((pathsN ns).insertIdx (place (pathsN ns) x.path) x.path) q = kidsC (pathsN ns) q + (if dirP x.path = q then 1 else 0) := fun q => kidsC_ins hpl x.path q
  have hd2 : dirP x.path ∈ (pathsN ns).insertIdx (place (pathsN ns) x.path) x.path := (hmem _).2 (.inr hd)
  have hkx : kidsC (pathsN ns) x.path = 0 := by
    apply Classical.byContradiction
    intro h
    obtain ⟨q, hq, hq2⟩ := List.countP_pos_iff.1 (Nat.pos_of_ne_zero h)
    have hq2 : dirP q = x.path := by simpa using hq2
    rcases hp.up q hq with e | e
    · rw [e, dir_root] at hq2
      rw [← hq2, goodP_nil] at hg; cases hg
    · rw [hq2] at e; exact hm e
  refine ⟨?_, ?_⟩
  · rw [e1]
    refine ⟨hr2, (hmem _).2 (.inr hp.root), ?_, fun q hq => ?_, fun q hq => ?_⟩
    · rw [ins_len _ _ _ hpl, pathsN_len]; omega
    · rcases (hmem q).1 hq with e | e
      · rw [e]; exact hg
      · exact hp.good q e
    · rcases (hmem q).1 hq with e | e
      · rw [e]; exact .inr hd2
      · exact (hp.up q e).imp id fun h => (hmem _).2 (.inr h)
  · intro n hnm
    rw [e1]
    unfold addN kidN at hnm
    have ep : pathsN (ns.insertIdx (place (pathsN ns) x.path) (mkN x)) = (pathsN ns).insertIdx (place (pathsN ns) x.path) x.path := by rw [pathsN_ins]; rfl
    rw [ep, if_pos hd2] at hnm
    have hf2 := zc hr2 hd2
    have hi2 : place ((pathsN ns).insertIdx (place (pathsN ns) x.path) x.path) (dirP x.path) < (ns.insertIdx (place (pathsN ns) x.path) (mkN x)).length := by rw [← pathsN_len, ep]; exact hf2.1
    have hpd : ((ns.insertIdx (place (pathsN ns) x.path) (mkN x)).getD (place ((pathsN ns).insertIdx (place (pathsN ns) x.path) x.path) (dirP x.path)) default).path = dirP x.path := by
      rw [← getD_pathsN, ep]; exact hf2.2
    have hd0 := getD_mem (ns.insertIdx (place (pathsN ns) x.path) (mkN x)) _ hi2
    rcases mem_setN (by rw [ep]; exact hr2) hi2 hnm with e | ⟨h1, h2⟩
    · generalize (ns.insertIdx (place (pathsN ns) x.path) (mkN x)).getD (place ((pathsN ns).insertIdx (place (pathsN ns) x.path) x.path) (dirP x.path)) default = d at hpd hd0 e
      rcases (List.mem_insertIdx hpl2).1 hd0 with hdx | hdn2
      · rw [hdx] at hpd; exact absurd hpd.symm hdn
      have ho := hn d hdn2
      have how := hown d hdn2 hpd
      have hle := kidsC_le (pathsN ns) (dirP x.path)
      have hl4 := hp.len
      have hkd := ho.kids
      rw [hpd] at hkd
      have hc := hct (dirP x.path)
      rw [if_pos rfl] at hc
      subst e
      have hcv := ho.cv
      have hzs := ho.zs
      refine ⟨ho.data, ho.v, ⟨?_, ?_⟩, ?_, fun h => absurd how h, fun h => how, ?_⟩
      · show 0 ≤ IntKind.i64.wrap (d.stat.cversion + 1)
        rw [wrap_small (by omega) (by omega)]; omega
      · show IntKind.i64.wrap (d.stat.cversion + 1) ≤ C + 1
        rw [wrap_small (by omega) (by omega)]; omega
      · show 0 ≤ d.stat.czxid ∧ d.stat.czxid ≤ d.stat.mzxid ∧ d.stat.czxid ≤ x.zxid ∧ d.stat.mzxid ≤ x.zxid ∧ x.zxid ≤ x.zxid
        omega
      · show IntKind.i64.wrap (d.stat.kids + 1) = ((kidsC _ d.path : Nat) : Int)
        rw [wrap_small (by omega) (by omega), hpd]; omega
    · rw [hpd] at h2
      rcases (List.mem_insertIdx hpl2).1 h1 with e | h3
      · subst e
        have hc := hct x.path
        rw [if_neg hdn, hkx] at hc
        refine ⟨hdata, ⟨Int.le_refl _, by show (0:Int) ≤ 2147483647; decide⟩, ⟨Int.le_refl _, by show 0 ≤ C + 1; omega⟩, ?_, fun h => ⟨hxo h, rfl⟩, fun h => absurd h h47, ?_⟩
        · show 0 ≤ x.zxid ∧ x.zxid ≤ x.zxid ∧ x.zxid ≤ x.zxid ∧ x.zxid ≤ x.zxid ∧ x.zxid ≤ x.zxid
          omega
        · show (0 : Int) = ((kidsC _ x.path : Nat) : Int)
          rw [hc]; rfl
      · have ho := hn n h3
        have hc := hct n.path
        rw [if_neg (fun e => h2 e.symm)] at hc
        have hcv := ho.cv
        have hzs := ho.zs
        exact ⟨ho.data, ho.v, by omega, by omega, ho.own, ho.root, by rw [ho.kids]; omega⟩
theorem set_ok {ns : List ANode} {ss : List Int} {z C : Int} (hp : PsOk (pathsN ns)) (hn : ∀ n, n ∈ ns → NdOk (pathsN ns) ss z C n) {x : ATxn} (hm : x.path ∈ pathsN ns) (hdata : x.data.length ≤ 256) (hv : 0 ≤ x.version ∧ x.version ≤ 2147483647) (hz : z ≤ x.zxid) :
    PsOk (pathsN (setN ns x)) ∧ ∀ n, n ∈ setN ns x → NdOk (pathsN (setN ns x)) ss x.zxid C n := by
  have hf := zc hp.rises hm
  have hi : place (pathsN ns) x.path < ns.length := by have := hf.1; rwa [pathsN_len] at this
  have e1 : pathsN (setN ns x) = pathsN ns := by unfold setN; exact pathsN_set _ _ _ rfl
  refine ⟨by rw [e1]; exact hp, fun n hnm => ?_⟩
  rw [e1]
  unfold setN at hnm
  rcases mem_setN hp.rises hi hnm with e | ⟨h1, h2⟩
  · have hd0 := getD_mem ns _ hi
    generalize ns.getD (place (pathsN ns) x.path) default = d at hd0 e
    have ho := hn d hd0
    have hzs := ho.zs
    subst e
    refine ⟨hdata, hv, ho.cv, ?_, ho.own, ho.root, ho.kids⟩
    show 0 ≤ d.stat.czxid ∧ d.stat.czxid ≤ x.zxid ∧ d.stat.czxid ≤ d.stat.pzxid ∧ x.zxid ≤ x.zxid ∧ d.stat.pzxid ≤ x.zxid
    omega
  · exact (hn n h1).more hz fun _ h => h
theorem NdOk.cap {L : List (List UInt8)} {ss : List Int} {z C : Int} {n : ANode} (h : NdOk L ss z C n) (hb : bigN n = false) : NdOk L ss z 2147483647 n := by
  unfold bigN at hb
  rw [decide_eq_false_iff_not] at hb
  exact ⟨h.data, h.v, ⟨h.cv.1, by omega⟩, h.zs, h.own, h.root, h.kids⟩
theorem rI_pw {l : List Int} : RisesI l ↔ l.Pairwise (fun a b => a < b) := by
  have gd (j : Nat) (hj : j < l.length) : l.getD j default = l[j] := by rw [List.getD_eq_getElem?_getD, List.getElem?_eq_getElem hj]; rfl
  constructor
  · intro h
    refine List.pairwise_iff_getElem.2 fun i j hi hj hij => ?_
    have := risesI_lt h hij hj
    rwa [gd i hi, gd j hj] at this
  · intro h k hk
    rw [gd k (by omega), gd (k + 1) hk]
    exact List.pairwise_iff_getElem.1 h k (k + 1) (by omega) hk (by omega)
theorem sess_iff {l : List Int} : (∀ k, k < l.length → sessOk l k) ↔ RisesI l ∧ ∀ s, s ∈ l → 1 ≤ s ∧ s ≤ 2147483647 := by
  constructor
  · intro h
    refine ⟨rises_sess h, fun s hs => ?_⟩
    obtain ⟨k, hk, rfl⟩ := (mem_iff_getD l default s).1 hs
    exact ⟨(h k hk).1, (h k hk).2.1⟩
  · intro h k hk
    have := h.2 _ (getD_mem l k hk)
    refine ⟨this.1, this.2, fun h0 => ?_⟩
    have := h.1 (k - 1) (by omega)
    rwa [Nat.sub_add_cancel h0] at this
theorem sess_ins {l : List Int} (h : ∀ k, k < l.length → sessOk l k) {s : Int} (hs : 1 ≤ s ∧ s ≤ 2147483647) (hm : ¬ s ∈ l) : ∀ k, k < (l.insertIdx (placeI l s) s).length → sessOk (l.insertIdx (placeI l s) s) k := by
  obtain ⟨h1, h2⟩ := sess_iff.1 h
  rw [← less_moreI h1 hm]
  have hp := rI_pw.1 h1
  refine sess_iff.2 ⟨rI_pw.2 ?_, fun q hq => ?_⟩
  · refine List.pairwise_append.2 ⟨hp.filter _, List.pairwise_cons.2 ⟨fun b hb => ?_, hp.filter _⟩, fun a ha b hb => ?_⟩
    · exact of_decide_eq_true (List.mem_filter.1 hb).2
    · have h3 : a < s := of_decide_eq_true (List.mem_filter.1 ha).2
      rcases List.mem_cons.1 hb with e | e
      · omega
      · have h4 : s < b := of_decide_eq_true (List.mem_filter.1 e).2
        omega
  · rcases List.mem_append.1 hq with e | e
    · exact h2 q (List.mem_filter.1 e).1
    · rcases List.mem_cons.1 e with e | e
      · rw [e]; exact hs
      · exact h2 q (List.mem_filter.1 e).1
theorem sess_erase {l : List Int} (h : ∀ k, k < l.length → sessOk l k) {s : Int} (hm : s ∈ l) : (∀ k, k < (l.eraseIdx (placeI l s)).length → sessOk (l.eraseIdx (placeI l s)) k) ∧ ∀ q, q ∈ l → q ≠ s → q ∈ l.eraseIdx (placeI l s) := by
  obtain ⟨h1, h2⟩ := sess_iff.1 h
  rw [← othersI_erase h1 hm]
  refine ⟨sess_iff.2 ⟨rI_pw.2 ((rI_pw.1 h1).filter _), fun q hq => h2 q (List.mem_filter.1 hq).1⟩, fun q hq hne => List.mem_filter.2 ⟨hq, by simpa using hne⟩⟩
theorem same_node {t : ATree} (hr : Rises (pathsT t)) {j k : Nat} (hj : j < t.nodes.length) (hk : k < t.nodes.length) (h : (nd t j).path = (nd t k).path) : j = k := by
  rw [← pathsT_get, ← pathsT_get] at h
  have hl := pathsT_len t
  rcases Nat.lt_trichotomy j k with h1 | h1 | h1
  · have := rises_lt hr h1 (by omega); rw [h] at this; exact absurd this (List.lt_irrefl _)
  · exact h1
  · have := rises_lt hr h1 (by omega); rw [h] at this; exact absurd this (List.lt_irrefl _)
theorem vclose_ok {t : ATree} (hg : goodTr t = true) {s z : Int} (hs : s ≠ 0) (hz : t.zxid ≤ z) : ∀ k, k ≤ t.nodes.length →
    PsOk (pathsN (closeN t s z k).1) ∧ (∀ n, n ∈ (closeN t s z k).1 → NdOk (pathsN (closeN t s z k).1) t.sessions z (2147483647 + k) n ∧ ∃ m, m ∈ t.nodes ∧ m.path = n.path ∧ m.stat.owner = n.stat.owner) ∧
      ∀ j, j < t.nodes.length → (¬ (nd t j).path ∈ pathsN (closeN t s z k).1 ↔ j < k ∧ (nd t j).stat.owner = s)
  | 0, _ => by
    obtain ⟨h1, h2⟩ := good_to hg
    refine ⟨h1, fun n hn => ⟨(h2 n hn).more hz fun _ h => h, n, hn, rfl, rfl⟩, fun j hj => ⟨fun h => absurd (List.mem_map_of_mem (nd_mem hj)) h, fun h => absurd h.1 (by omega)⟩⟩
  | k + 1, hk => by
    obtain ⟨h1, h2, h3⟩ := vclose_ok hg hs hz k (by omega)
    have hr := good_rises hg
    have hl4 := (good_root hg).2.1
    by_cases e : (nd t k).stat.owner = s
    · have ec : (closeN t s z (k + 1)).1 = delN (closeN t s z k).1 (nd t k).path z := by
        rw [closeN]; unfold nd at e; rw [if_pos e]; rfl
      have hm : (nd t k).path ∈ pathsN (closeN t s z k).1 := Classical.not_not.1 fun h => absurd ((h3 k (by omega)).1 h).1 (by omega)
      obtain ⟨m, hm1, hm2⟩ := List.mem_map.1 hm
      obtain ⟨q1, m0, q2, q3, q4⟩ := h2 m hm1
      have howner : m.stat.owner = s := by
        obtain ⟨j, hj, rfl⟩ := (mem_iff_getD t.nodes default m0).1 q2
        change (nd t j).path = m.path at q3
        change (nd t j).stat.owner = m.stat.owner at q4
        rw [hm2] at q3
        have := same_node hr hj (by omega) q3
        subst this
        rw [← q4]; exact e
      have h47 : (nd t k).path ≠ [47] := fun h => by
        have := q1.root (by rw [hm2]; exact h)
        omega
      have hk0 : kidsC (pathsN (closeN t s z k).1) (nd t k).path = 0 := by
        have a := (q1.own (by omega)).2
        have b := q1.kids
        rw [hm2] at b; omega
      obtain ⟨d1, d2, d3⟩ := del_ok h1 (fun n hn => (h2 n hn).1) hm h47 hk0 (Int.le_refl z) (by omega)
      rw [ec]
      refine ⟨d2, fun n hn => ?_, fun j hj => ?_⟩
      · obtain ⟨b1, m2, b2, b3, b4⟩ := d3 n hn
        obtain ⟨_, m3, c1, c2, c3⟩ := h2 m2 b2
        refine ⟨by rw [show (2147483647 + ((k + 1 : Nat) : Int)) = 2147483647 + (k : Int) + 1 from by omega]; exact b1, m3, c1, by rw [c2, b3], by rw [c3, b4]⟩
      · rw [d1, memI_iff h1.rises hm]
        have h3j := h3 j hj
        constructor
        · intro h
          by_cases ej : (nd t j).path = (nd t k).path
          · have := same_node hr hj (by omega) ej
            subst this; exact ⟨by omega, e⟩
          · have := h3j.1 fun hh => h ⟨hh, ej⟩
            exact ⟨by omega, this.2⟩
        · intro h hh
          by_cases ej : j = k
          · subst ej; exact hh.2 rfl
          · exact h3j.2 ⟨by omega, h.2⟩ hh.1
    · have ec : (closeN t s z (k + 1)).1 = (closeN t s z k).1 := by
        rw [closeN]; unfold nd at e; rw [if_neg e]
      rw [ec]
      refine ⟨h1, fun n hn => ⟨?_, (h2 n hn).2⟩, fun j hj => ?_⟩
      · have := (h2 n hn).1
        exact ⟨this.data, this.v, by have := this.cv; omega, this.zs, this.own, this.root, this.kids⟩
      · rw [h3 j hj]
        constructor
        · intro h; exact ⟨by omega, h.2⟩
        · intro h
          refine ⟨?_, h.2⟩
          have : j ≠ k := fun ej => e (by rw [← ej]; exact h.2)
          omega
theorem apply_good {t : ATree} {x : ATxn} (h : (applyT t x).2.2 = 0) : goodTr (applyT t x).1 = true := by
  have h0 : wrongT t x = 0 := by
    apply Classical.byContradiction; intro hw
    rw [apply_no hw] at h; exact hw h
  have hb : (doneT t x).1.nodes.any bigN = false := by
    apply Classical.byContradiction; intro hb
    rw [apply_full h0 (by simpa using hb)] at h; cases h
  rw [apply_ok h0 hb]
  obtain ⟨hg, hx, hz, w1, w2, w3, w4, w5⟩ := wrong_ok h0
  obtain ⟨g1, g2, g3, g4, g5, g6, g7⟩ := goodT_all hx
  obtain ⟨p1, p2⟩ := good_to hg
  obtain ⟨hhd, hss, _, _⟩ := goodTr_iff.1 hg
  have hl4 := hhd.2.1
  have hgz : goodZ x.zxid := by
    have h9 : numsB x = true := by
      apply Classical.byContradiction; intro hn
      rw [goodT_num g2 hn] at hx; cases hx
    unfold numsB at h9
    rw [Bool.and_eq_true, decide_eq_true_eq] at h9
    exact h9.1
  have hcap : ∀ n, n ∈ (doneT t x).1.nodes → bigN n = false := fun n hn => by
    have := List.any_eq_false.1 hb n hn
    simpa using this
  unfold doneT at hcap ⊢
  by_cases o1 : x.op = 1
  · rw [if_pos o1] at hcap ⊢
    have hpl : placeI t.sessions x.session ≤ t.sessions.length := List.findIdx_le_length
    exact good_from hgz (sess_ins hss g3 (w1 o1)) p1 fun n hn => (p2 n hn).more (Int.le_of_lt hz) fun s hs => (List.mem_insertIdx hpl).2 (.inr hs)
  have hm := w2 o1
  rw [if_neg o1] at hcap ⊢
  by_cases o2 : x.op = 2
  · rw [if_pos o2] at hcap ⊢
    obtain ⟨c1, c2, c3⟩ := vclose_ok hg (s := x.session) (z := x.zxid) (by omega) (Int.le_of_lt hz) t.nodes.length (Nat.le_refl _)
    obtain ⟨e1, e2⟩ := sess_erase hss hm
    refine good_from hgz e1 c1 fun n hn => ?_
    obtain ⟨b1, m, b2, b3, b4⟩ := c2 n hn
    have hne : n.stat.owner ≠ x.session := fun e => by
      obtain ⟨j, hj, rfl⟩ := (mem_iff_getD t.nodes default m).1 b2
      have := (c3 j hj).2 ⟨hj, by change (nd t j).stat.owner = _ at b4; rw [b4]; exact e⟩
      change (nd t j).path = _ at b3
      rw [b3] at this
      exact this (mem_path hn)
    have b5 := b1.cap (hcap n hn)
    exact ⟨b5.data, b5.v, b5.cv, b5.zs, fun h => ⟨e2 _ (b5.own h).1 hne, (b5.own h).2⟩, b5.root, b5.kids⟩
  rw [if_neg o2] at hcap ⊢
  by_cases o3 : x.op = 3
  · rw [if_pos o3] at hcap ⊢
    obtain ⟨q1, q2⟩ := goodT_path hx (by omega)
    obtain ⟨r1, r2, r3⟩ := w3 o3
    have hlk : lacksT t x (getT t x.path).2 = 0 := by
      unfold wrongT at h0
      rw [if_neg (by rw [hg]; decide), if_neg (fun h => h hx), if_neg (by omega), if_neg o1, if_neg (fun h => h hm), if_pos o3] at h0
      exact h0
    unfold lacksT at hlk
    rw [getT_seven r1, if_neg (by decide)] at hlk
    have hdz : (getT t (splitP x.path).1.1).2 = 0 := getT_zero.2 r2
    rw [if_neg (fun h => h hdz)] at hlk
    have hpo : (getT t (splitP x.path).1.1).1.stat.owner = 0 := by
      apply Classical.byContradiction; intro hn; rw [if_pos hn] at hlk; cases hlk
    rw [if_neg (fun h => h hpo)] at hlk
    have hxo : ¬ (¬ x.owner = 0 ∧ ¬ x.owner = x.session) := fun hn => by rw [if_pos hn] at hlk; cases hlk
    have hown : ∀ n, n ∈ t.nodes → n.path = dirP x.path → n.stat.owner = 0 := fun n hn he => by
      obtain ⟨j, hj, rfl⟩ := (mem_iff_getD t.nodes default n).1 hn
      change (nd t j).path = _ at he
      change (nd t j).stat.owner = 0
      have hf := zc (good_rises hg) r2
      unfold getT at hpo
      rw [if_pos (show (splitP x.path).1.1 ∈ pathsT t from r2)] at hpo
      have hpl := hf.1
      rw [pathsT_len] at hpl
      have : j = place (pathsT t) (splitP x.path).1.1 := same_node (good_rises hg) hj hpl (by rw [he, ← pathsT_get]; exact hf.2.symm)
      rw [this]; exact hpo
    obtain ⟨a1, a2⟩ := add_ok p1 p2 r1 q1 q2 r2 g7 r3 hown (fun h => by
      have : x.owner = x.session := Classical.byContradiction fun hn => hxo ⟨h, hn⟩
      rw [this]; exact hm) (Int.le_of_lt hz) g1.1 (by decide) (by decide)
    exact good_from hgz hss a1 fun n hn => (a2 n hn).cap (hcap n hn)
  rw [if_neg o3] at hcap ⊢
  by_cases o4 : x.op = 4
  · rw [if_pos o4] at hcap ⊢
    obtain ⟨q1, q2⟩ := goodT_path hx (by omega)
    obtain ⟨r1, r2⟩ := w4 o4
    have hf := zc (good_rises hg) r1
    have hpl := hf.1
    rw [pathsT_len] at hpl
    have hk0 : kidsC (pathsN t.nodes) x.path = 0 := by
      have := (p2 _ (nd_mem hpl)).kids
      unfold getT at r2
      rw [if_pos r1] at r2
      simp only at r2
      have hpe := hf.2
      rw [pathsT_get] at hpe
      rw [hpe] at this
      change _ = ((kidsC (pathsN t.nodes) x.path : Nat) : Int) at this
      omega
    obtain ⟨d1, d2, d3⟩ := del_ok p1 p2 r1 q2 hk0 (Int.le_of_lt hz) (by decide)
    exact good_from hgz hss d2 fun n hn => (d3 n hn).1.cap (hcap n hn)
  rw [if_neg o4] at hcap ⊢
  obtain ⟨a1, a2⟩ := set_ok p1 p2 (w5 (by omega)) g7 g4 (Int.le_of_lt hz)
  exact good_from hgz hss a1 a2
end Go.Proofs.YtainmipdnjcbkaaGreatDoor
namespace Go.Proofs.YtainmipdnjcbkaaGreatDoor
set_option linter.unusedVariables false
set_option linter.unusedSimpArgs false
open Go Go.RowKit
set_option maxRecDepth 100000
set_option linter.unusedSimpArgs false
theorem play_good : ∀ {l : List ATxn} {t v : ATree}, goodTr t = true → playT t l = some v → goodTr v = true
  | [], t, v, hg, h => by injection h with h; subst h; exact hg
  | x :: r, t, v, hg, h => by
    rw [playT] at h
    split at h
    · rename_i he; exact play_good (apply_good he) h
    · cases h
theorem play_zxid : ∀ {l : List ATxn} {t v : ATree}, playT t l = some v → v.zxid = if l = [] then t.zxid else lastZ l
  | [], t, v, h => by injection h with h; subst h; rfl
  | x :: r, t, v, h => by
    rw [playT] at h
    split at h
    · rename_i he
      have h2 := play_zxid h
      have h3 : (applyT t x).1.zxid = x.zxid := by
        have h0 : wrongT t x = 0 := by
          apply Classical.byContradiction; intro hw
          rw [apply_no hw] at he; exact hw he
        have hb : (doneT t x).1.nodes.any bigN = false := by
          apply Classical.byContradiction; intro hb
          rw [apply_full h0 (by simpa using hb)] at he; cases he
        rw [apply_ok h0 hb]
        unfold doneT
        repeat' split
        all_goals rfl
      rw [if_neg (List.cons_ne_nil x r), h2]
      by_cases e : r = []
      · subst e; rw [if_pos rfl, h3]; rfl
      · rw [if_neg e, lastZ_pos (List.length_pos_iff.2 e), lastZ_pos (by simp)]
        have := List.length_pos_iff.2 e
        rw [List.length_cons, show r.length + 1 - 1 = (r.length - 1) + 1 from by omega, List.getD_cons_succ]
    · cases h
def EpOk (e : Option (List UInt8)) (E : Int) : Prop := (e = none ∧ E = 0) ∨ (e = some (epB E) ∧ 0 ≤ E ∧ E ≤ 2147483647)
theorem EpOk.read {e : Option (List UInt8)} {E : Int} (h : EpOk e E) {s t : List UInt8} (hl : s.length + t.length ≤ 1048576) : epochD (mkD e s t) = E := by
  rcases h with ⟨rfl, rfl⟩ | ⟨rfl, h0, h1⟩
  · exact epoch_none hl
  · exact epoch_mk h0 h1 hl
def SvUp (s : AServer) (g : Gh) : Prop := ∃ e, EpOk e g.E ∧ UpOk s e g.a ∧ s.peer.log = g.D ∧ s.peer.epoch = g.E
def SvDown (s : AServer) (g : Gh) : Prop := ∃ e, EpOk e g.E ∧ DownOk s e g.D ∧ g.a = g.D.length
def SvOk (s : AServer) (g : Gh) (j : Nat) : Prop := s.peer.id = j ∧ (s.up = true → SvUp s g) ∧ (s.up = false → SvDown s g)
theorem UpOk.posZ {s : AServer} {e : Option (List UInt8)} {a : Nat} (h : UpOk s e a) : 0 ≤ s.tree.zxid ∧ s.tree.zxid ≤ lastZ s.peer.log ∧ (s.tree.zxid = 0 ∨ ∃ x, x ∈ s.peer.log ∧ x.zxid = s.tree.zxid) := by
  have hz := play_zxid h.tree
  have h0 : ∀ x, x ∈ s.peer.log → 0 ≤ x.zxid := fun x hx => (goodT_all (h.log.2 x hx)).1.1
  have hl0 : 0 ≤ lastZ s.peer.log := by
    by_cases e : s.peer.log = []
    · rw [e]; exact Int.le_refl _
    · obtain ⟨x, q1, q2⟩ := lastZ_mem e
      have := h0 x q1; omega
  by_cases e : s.peer.log.take s.peer.done.toNat = []
  · rw [if_pos e] at hz
    have : t00.zxid = 0 := by decide
    rw [hz, this]; exact ⟨Int.le_refl _, hl0, .inl rfl⟩
  · rw [if_neg e] at hz
    obtain ⟨x, q1, q2⟩ := lastZ_mem e
    have hx := List.mem_of_mem_take q1
    rw [hz, ← q2]
    exact ⟨h0 x hx, lastZ_ge h.log hx, .inr ⟨x, hx, rfl⟩⟩
theorem sv_boot {s : AServer} {g : Gh} {j : Nat} (h : SvOk s g j) (hu : s.up = false) (hj : j < 3) : (bootS j s.disk.files).2 = 0 ∧ SvOk (bootS j s.disk.files).1 g j ∧ (bootS j s.disk.files).1.up = true ∧ (bootS j s.disk.files).1.peer.done = 0 ∧ (bootS j s.disk.files).1.watches = [] := by
  obtain ⟨hid, _, h1⟩ := h
  obtain ⟨e, he, hk, ha⟩ := h1 hu
  obtain ⟨c, c1, c2, c3⟩ := hk.disk
  have hr := hk.recovers
  have hep : epochD s.disk.files = g.E := by rw [c1]; exact he.read (by simpa using c2)
  have hb : bootS j s.disk.files = (⟨true, ⟨mkD e (encs g.D) []⟩, ⟨j, g.E, g.D, 0⟩, t00, []⟩, 0) := by
    unfold bootS
    rw [if_neg (by omega), hr.1, if_neg (fun h => h rfl), hep]
  rw [hb]
  refine ⟨rfl, ⟨rfl, fun _ => ⟨e, he, ?_, rfl, rfl⟩, fun hf => (by cases hf)⟩, rfl, rfl, rfl⟩
  rw [ha]; exact hk.boot _ _
end Go.Proofs.YtainmipdnjcbkaaGreatDoor
namespace Go.Proofs.YtainmipdnjcbkaaGreatDoor
set_option linter.unusedVariables false
set_option linter.unusedSimpArgs false
open Go Go.RowKit
set_option maxRecDepth 100000
set_option linter.unusedSimpArgs false
structure WInv (w : AWorld) (g : Nat → Gh) (es : Int) (K : List ATxn) (n : Nat) : Prop where
  sl : w.sv.length = 3
  fl : w.fl.length = 3
  cl : w.cl.length = 16
  pr : Pr g w.leader es K n
  sv : ∀ j, j < 3 → SvOk (w.s j) (g j) j
  small : ∀ j, j < 3 → (g j).D.length ≤ n
  lead : 0 ≤ w.leader → w.f w.leader.toNat = true ∧ (w.s w.leader.toNat).peer.done = (g w.leader.toNat).D.length
  fol : 0 ≤ w.leader → ∀ j, j < 3 → w.f j = true → (w.s j).up = true ∧ (g j).D = (g w.leader.toNat).D
  ack : w.done.Sublist K
  cli : ∀ i, i < 16 → (w.c i).session = (i : Int) + 1 ∧ Old w.leader es (g w.leader.toNat).D n (w.c i).seen
theorem getD_setV {α : Type} (l : List α) (i j : Nat) (x d : α) (h : i < l.length) : (l.set i x).getD j d = if j = i then x else l.getD j d := by
  rw [List.getD_eq_getElem?_getD, List.getD_eq_getElem?_getD, List.getElem?_set]
  by_cases e : i = j
  · subst e; rw [if_pos rfl, if_pos rfl, if_pos h]; rfl
  · rw [if_neg e, if_neg (fun h => e h.symm)]
theorem s_setS {w : AWorld} {i : Nat} (h : i < w.sv.length) (s : AServer) (j : Nat) : (w.setS i s).s j = if j = i then s else w.s j := getD_setV _ _ _ _ _ h
theorem c_setC {w : AWorld} {i : Nat} (h : i < w.cl.length) (c : AClient) (j : Nat) : (w.setC i c).c j = if j = i then c else w.c j := getD_setV _ _ _ _ _ h
theorem WInv.mono {w : AWorld} {g : Nat → Gh} {es : Int} {K : List ATxn} {n m : Nat} (h : WInv w g es K n) (hm : n ≤ m) : WInv w g es K m :=
  { h with pr := h.pr.mono hm, small := fun j hj => Nat.le_trans (h.small j hj) hm, cli := fun i hi => ⟨(h.cli i hi).1, (h.cli i hi).2.up hm⟩ }
theorem WInv.deeds {w : AWorld} {g : Nat → Gh} {es : Int} {K : List ATxn} {n : Nat} (h : WInv w g es K n) (d : Int) : WInv { w with deeds := d } g es K n :=
  ⟨h.sl, h.fl, h.cl, h.pr, h.sv, h.small, h.lead, h.fol, h.ack, h.cli⟩
theorem WInv.up {w : AWorld} {g : Nat → Gh} {es : Int} {K : List ATxn} {n : Nat} (h : WInv w g es K n) {i : Nat} (hi : i < 3) : WInv (upW w i).1 g es K n := by
  unfold upW
  by_cases hu : (w.s i).up = true
  · rw [if_pos hu]; exact h
  rw [if_neg hu]
  have hu' : (w.s i).up = false := by simpa using hu
  obtain ⟨b1, b2, b3, b4, b5⟩ := sv_boot (h.sv i hi) hu' hi
  rw [if_neg (fun h => h b1)]
  have hsl := h.sl
  have hs : ∀ j, (w.setS i (bootS i (w.s i).disk.files).1).s j = if j = i then (bootS i (w.s i).disk.files).1 else w.s j := fun j => s_setS (by omega) _ j
  refine ⟨by simp only [AWorld.setS, List.length_set]; exact hsl, h.fl, h.cl, h.pr, fun j hj => ?_, h.small, fun h0 => ?_, fun h0 j hj hf => ?_, h.ack, h.cli⟩
  · rw [hs]
    by_cases e : j = i
    · subst e; rw [if_pos rfl]; exact b2
    · rw [if_neg e]; exact h.sv j hj
  · change 0 ≤ w.leader at h0
    have hl := h.lead h0
    have hl2 := h.fol h0 w.leader.toNat (by have := (h.pr.ld0 h0).1; omega) hl.1
    have hne : w.leader.toNat ≠ i := fun e => by rw [e, hu'] at hl2; cases hl2.1
    show w.f w.leader.toNat = true ∧ ((w.setS i (bootS i (w.s i).disk.files).1).s w.leader.toNat).peer.done = _
    rw [hs, if_neg hne]; exact hl
  · change 0 ≤ w.leader at h0
    have hj2 := h.fol h0 j hj hf
    have hne : j ≠ i := fun e => by rw [e, hu'] at hj2; cases hj2.1
    show ((w.setS i (bootS i (w.s i).disk.files).1).s j).up = true ∧ _
    rw [hs, if_neg hne]; exact hj2
end Go.Proofs.YtainmipdnjcbkaaGreatDoor
namespace Go.Proofs.YtainmipdnjcbkaaGreatDoor
set_option linter.unusedVariables false
set_option linter.unusedSimpArgs false
open Go Go.RowKit
set_option maxRecDepth 100000
set_option linter.unusedSimpArgs false
theorem SvOk.watch {s : AServer} {g : Gh} {j : Nat} (h : SvOk s g j) (hu : s.up = true) (l : List AWatch) : SvOk { s with watches := l } g j := by
  obtain ⟨hid, h1, _⟩ := h
  obtain ⟨e, he, hk, hlg, hep⟩ := h1 hu
  refine ⟨hid, fun _ => ⟨e, he, ⟨hk.up, hk.disk, hk.le, hk.log, hk.small, hk.elen, hk.d0, hk.dl, hk.tree, hk.play⟩, hlg, hep⟩, fun hf => ?_⟩
  change s.up = false at hf; rw [hu] at hf; cases hf
theorem Pr.zero {g : Nat → Gh} {ld es : Int} {K : List ATxn} {n : Nat} (h : Pr g ld es K n) : Old ld es (g ld.toNat).D n 0 :=
  ⟨Int.le_refl _, h.es0, Int.natCast_nonneg _, fun h0 => .inr (lastZ_nonneg (h.pos ld.toNat (by have := h.ld0 h0; omega)))⟩
theorem WInv.treeOld {w : AWorld} {g : Nat → Gh} {es : Int} {K : List ATxn} {n : Nat} (h : WInv w g es K n) {i : Nat} (hi : i < 3) (hu : (w.s i).up = true) : Old w.leader es (g w.leader.toNat).D n (w.s i).tree.zxid := by
  obtain ⟨e, he, hk, hlg, hep⟩ := (h.sv i hi).2.1 hu
  rcases hk.posZ.2.2 with h0 | ⟨x, hx, hz⟩
  · rw [h0]; exact h.pr.zero
  · rw [← hz]; exact h.pr.old i hi x (by rw [← hlg]; exact hx)
theorem WInv.setC {w : AWorld} {g : Nat → Gh} {es : Int} {K : List ATxn} {n : Nat} (h : WInv w g es K n) {k : Nat} (hk : k < 16) {c : AClient} (hs : c.session = (k : Int) + 1) (ho : Old w.leader es (g w.leader.toNat).D n c.seen) : WInv (w.setC k c) g es K n := by
  have hcl := h.cl
  refine ⟨h.sl, h.fl, by simp only [AWorld.setC, List.length_set]; exact hcl, h.pr, h.sv, h.small, h.lead, h.fol, h.ack, fun i hi => ?_⟩
  rw [c_setC (by omega)]
  by_cases e : i = k
  · subst e; rw [if_pos rfl]; exact ⟨hs, ho⟩
  · rw [if_neg e]; exact h.cli i hi
theorem WInv.setS {w : AWorld} {g : Nat → Gh} {es : Int} {K : List ATxn} {n : Nat} (h : WInv w g es K n) {i : Nat} (hi : i < 3) {s : AServer} (hs : SvOk s (g i) i) (hu : s.up = (w.s i).up) (hd : s.peer.done = (w.s i).peer.done) : WInv (w.setS i s) g es K n := by
  have hsl := h.sl
  refine ⟨by simp only [AWorld.setS, List.length_set]; exact hsl, h.fl, h.cl, h.pr, fun j hj => ?_, h.small, fun h0 => ?_, fun h0 j hj hf => ?_, h.ack, h.cli⟩
  · rw [s_setS (by omega)]
    by_cases e : j = i
    · subst e; rw [if_pos rfl]; exact hs
    · rw [if_neg e]; exact h.sv j hj
  · show w.f w.leader.toNat = true ∧ ((w.setS i s).s w.leader.toNat).peer.done = _
    rw [s_setS (by omega)]
    by_cases e : w.leader.toNat = i
    · rw [if_pos e, hd, ← e]; exact h.lead h0
    · rw [if_neg e]; exact h.lead h0
  · show ((w.setS i s).s j).up = true ∧ _
    rw [s_setS (by omega)]
    by_cases e : j = i
    · rw [if_pos e, hu, ← e]; exact h.fol h0 j hj hf
    · rw [if_neg e]; exact h.fol h0 j hj hf
theorem WInv.read {w : AWorld} {g : Nat → Gh} {es : Int} {K : List ATxn} {n : Nat} (h : WInv w g es K n) (d : ADeed) : WInv (readW w d).1 g es K n := by
  unfold readW
  split
  · exact h
  rename_i hd
  have hi : d.server.toNat < 3 := by omega
  have hk : d.client.toNat < 16 := by omega
  simp only
  split
  · exact h
  rename_i hu
  have hu : (w.s d.server.toNat).up = true := by simpa using hu
  have ho := h.treeOld hi hu
  have hc := h.cli _ hk
  split
  · exact h
  rename_i hs
  have hse : seeC (w.c d.client.toNat) (w.s d.server.toNat).tree.zxid = ({ w.c d.client.toNat with seen := (w.s d.server.toNat).tree.zxid }, 0) := by
    unfold seeC at hs ⊢
    split
    · rename_i hh; rw [if_pos hh] at hs; exact absurd (show (15 : Int) ≠ 0 by decide) hs
    · rfl
  rw [hse]
  split
  · split
    · exact h
    · refine WInv.setC ?_ hk ?_ ?_
      · exact WInv.setS h hi (SvOk.watch (h.sv _ hi) hu (addW (w.s d.server.toNat).watches ⟨(w.c d.client.toNat).session, 1, d.request.path⟩).1) rfl rfl
      · exact hc.1
      · exact ho
  · exact h.setC hk hc.1 ho
end Go.Proofs.YtainmipdnjcbkaaGreatDoor
namespace Go.Proofs.YtainmipdnjcbkaaGreatDoor
set_option linter.unusedVariables false
set_option linter.unusedSimpArgs false
open Go Go.RowKit
set_option maxRecDepth 100000
set_option linter.unusedSimpArgs false
end Go.Proofs.YtainmipdnjcbkaaGreatDoor
namespace Go.Proofs.YtainmipdnjcbkaaGreatDoor
set_option linter.unusedVariables false
set_option linter.unusedSimpArgs false
open Go Go.RowKit
set_option maxRecDepth 100000
set_option linter.unusedSimpArgs false
end Go.Proofs.YtainmipdnjcbkaaGreatDoor
namespace Go.Proofs.YtainmipdnjcbkaaGreatDoor
set_option linter.unusedVariables false
set_option linter.unusedSimpArgs false
open Go Go.RowKit
set_option maxRecDepth 100000
set_option linter.unusedSimpArgs false
end Go.Proofs.YtainmipdnjcbkaaGreatDoor
namespace Go.Proofs.YtainmipdnjcbkaaGreatDoor
set_option linter.unusedVariables false
set_option linter.unusedSimpArgs false
open Go Go.RowKit
set_option maxRecDepth 100000
set_option linter.unusedSimpArgs false
end Go.Proofs.YtainmipdnjcbkaaGreatDoor
namespace Go.Proofs.YtainmipdnjcbkaaGreatDoor
set_option linter.unusedVariables false
set_option linter.unusedSimpArgs false
open Go Go.RowKit
set_option maxRecDepth 100000
set_option linter.unusedSimpArgs false
end Go.Proofs.YtainmipdnjcbkaaGreatDoor
namespace Go.Proofs.YtainmipdnjcbkaaGreatDoor
set_option linter.unusedVariables false
set_option linter.unusedSimpArgs false
open Go Go.RowKit
set_option maxRecDepth 100000
set_option linter.unusedSimpArgs false
theorem okI_of {z : Int} (h0 : 0 ≤ z) (h1 : z < 9223372036854775808) : okI z := by unfold okI; omega
theorem good_okT {t : ATree} (hg : goodTr t = true) : okT t ∧ t.nodes.length ≤ 400 ∧ t.sessions.length ≤ 2147483647 ∧ ∀ n, n ∈ t.nodes → n.path.length ≤ 200 ∧ n.data.length ≤ 256 := by
  obtain ⟨p1, p2⟩ := good_to hg
  obtain ⟨h1, h2, _, _⟩ := goodTr_iff.1 hg
  obtain ⟨_, h3⟩ := sess_iff.1 h2
  have hz := h1.2.2.2.2
  unfold goodZ at hz
  have hl := sess_len hg
  have hn : ∀ n, n ∈ t.nodes → n.path.length ≤ 200 ∧ n.data.length ≤ 256 := fun n hn => ⟨(good_path (p1.good _ (List.mem_map_of_mem hn))).2.2.1, (p2 n hn).data⟩
  refine ⟨⟨⟨okI_of hz.1 (by omega), ⟨by have := h1.2.1; omega, fun n hm => ?_⟩, ⟨by omega, fun s hs => ?_⟩⟩, fun n hm => by have := (hn n hm).1; omega⟩, h1.2.1, hl, hn⟩
  · have hk := p2 n hm
    have hs := hn n hm
    obtain ⟨z1, z2, z3, z4, z5⟩ := hk.zs
    have hkl := kidsC_le (pathsT t) n.path
    have hl4 := p1.len
    have hkk := hk.kids
    refine ⟨by unfold okS; omega, by unfold okS; omega, okI_of z1 (by omega), okI_of (by omega) (by omega), okI_of (by omega) (by omega), okI_of hk.v.1 (by have := hk.v.2; omega), okI_of hk.cv.1 (by have := hk.cv.2; omega), ?_, okI_of (by omega) (by omega)⟩
    by_cases ho : n.stat.owner = 0
    · rw [ho]; exact okI_of (by decide) (by decide)
    · have := h3 _ (hk.own ho).1
      exact okI_of (by omega) (by omega)
  · have := h3 s hs
    exact okI_of (by omega) (by omega)
theorem txn_wf {x : ATxn} (h : goodT x = 0) : x.wf ∧ x.path.length ≤ 200 := by
  obtain ⟨g1, g2, g3, g4, g5, g6, g7⟩ := goodT_all h
  exact ⟨⟨okI_of g1.1 g1.2, okI_of (by omega) (by omega), okI_of (by omega) (by omega), by unfold okS; omega, by unfold okS; omega, okI_of (by omega) (by omega), okI_of (by omega) (by omega)⟩, g6⟩
theorem mkD_wf {e : Option (List UInt8)} {s t : List UInt8} (h : okD e s t) : ADisk.wf ⟨mkD e s t⟩ := by
  have hn1 : okS epN := by unfold okS; decide
  have hn2 : okS logN := by unfold okS; decide
  have h0 : okS [] := by unfold okS; decide
  have h2 := h.2
  cases e with
  | none => exact ⟨by simp [mkD], fun f hf => by rw [List.mem_singleton.1 hf]; exact ⟨hn2, by show s.length ≤ _; omega, by show t.length ≤ _; omega⟩⟩
  | some x =>
    have := h.1 x rfl
    refine ⟨by simp [mkD], fun f hf => ?_⟩
    rcases List.mem_cons.1 hf with e | e
    · rw [e]; exact ⟨hn1, by show x.length ≤ _; omega, h0⟩
    · rw [List.mem_singleton.1 e]; exact ⟨hn2, by show s.length ≤ _; omega, by show t.length ≤ _; omega⟩
def WatOk (l : List AWatch) : Prop := l.length ≤ 400 ∧ ∀ x, x ∈ l → x.wf ∧ x.path.length ≤ 200
theorem WatOk.sub {l m : List AWatch} (h : WatOk l) (hs : m.Sublist l) : WatOk m := ⟨Nat.le_trans hs.length_le h.1, fun x hx => h.2 x (hs.subset hx)⟩
theorem WatOk.nil : WatOk [] := ⟨Nat.zero_le _, fun x hx => by cases hx⟩
theorem WatOk.add {l : List AWatch} (h : WatOk l) {x : AWatch} (hx : (addW l x).2 = 0) : WatOk (addW l x).1 := by
  unfold addW at hx ⊢
  split
  · exact WatOk.nil
  rename_i h1
  rw [if_neg h1] at hx
  split
  · exact WatOk.nil
  rename_i h2
  rw [if_neg h2] at hx
  split
  · exact WatOk.nil
  rename_i h3
  rw [if_neg h3] at hx
  split
  · exact h
  rename_i h4
  rw [if_neg h4] at hx
  split
  · exact WatOk.nil
  rename_i h5
  have hp := (good_path (Classical.not_not.1 h2)).2.2.1
  refine ⟨by simp only [List.length_append, List.length_singleton]; omega, fun y hy => ?_⟩
  rcases List.mem_append.1 hy with e | e
  · exact h.2 y e
  · rw [List.mem_singleton.1 e]
    exact ⟨⟨okI_of (by omega) (by omega), okI_of (by omega) (by omega), by unfold okS; omega⟩, hp⟩
theorem SvOk.wf {s : AServer} {g : Gh} {j n : Nat} (h : SvOk s g j) (hj : j < 3) (hn : g.D.length ≤ n) (hn2 : n < 100000) (hE : 0 ≤ g.E ∧ g.E ≤ n) (hw : WatOk s.watches) : s.wf ∧ okT s.tree ∧ goodTr s.tree = true ∧ ∀ x, x ∈ s.peer.log → x.wf ∧ x.path.length ≤ 200 := by
  obtain ⟨hid, h1, h2⟩ := h
  have hwl := hw.1
  have hww : s.watches.length * 32 ≤ 140737488351232 ∧ ∀ y : AWatch, y ∈ s.watches → y.wf := ⟨by omega, fun y hy => (hw.2 y hy).1⟩
  have hidk : okI s.peer.id := by rw [hid]; exact okI_of (by omega) (by omega)
  cases hu : s.up
  · obtain ⟨e, _, hk, _⟩ := h2 hu
    obtain ⟨c, c1, c2, _⟩ := hk.disk
    have hg : goodTr s.tree = true := by rw [hk.tree]; exact t00_good
    have hdw : s.disk.wf := by
      have := mkD_wf (e := e) (s := c) (t := []) ⟨hk.elen, by simpa using c2⟩
      unfold ADisk.wf at this ⊢
      rw [c1]; exact this
    refine ⟨⟨trivial, hdw, ⟨hidk, by rw [hk.ep]; exact okI_of (by decide) (by decide), ⟨by rw [hk.log]; simp, fun x hm => by rw [hk.log] at hm; cases hm⟩, by rw [hk.done]; exact okI_of (by decide) (by decide)⟩, (good_okT hg).1.1, hww⟩, (good_okT hg).1, hg, fun x hm => by rw [hk.log] at hm; cases hm⟩
  · obtain ⟨e, _, hk, hlg, hep⟩ := h1 hu
    have hg : goodTr s.tree = true := play_good t00_good hk.tree
    have hdw : s.disk.wf := by
      have := mkD_wf hk.okD
      unfold ADisk.wf at this ⊢
      rw [hk.disk]; exact this
    have hx : ∀ x, x ∈ s.peer.log → x.wf ∧ x.path.length ≤ 200 := fun x hx => txn_wf (hk.log.2 x hx)
    have hd0 := hk.d0
    have hdl := hk.dl
    rw [hlg] at hdl
    exact ⟨⟨trivial, hdw, ⟨hidk, by rw [hep]; exact okI_of hE.1 (by omega), ⟨by rw [hlg]; omega, fun x hm => (hx x hm).1⟩, okI_of hd0 (by omega)⟩, (good_okT hg).1.1, hww⟩, (good_okT hg).1, hg, hx⟩
end Go.Proofs.YtainmipdnjcbkaaGreatDoor
namespace Go.Proofs.YtainmipdnjcbkaaGreatDoor
set_option linter.unusedVariables false
set_option linter.unusedSimpArgs false
open Go Go.RowKit
set_option maxRecDepth 100000
set_option linter.unusedSimpArgs false
def WatAll (w : AWorld) : Prop := ∀ j, WatOk (w.s j).watches
theorem s_set_or (w : AWorld) (i : Nat) (s : AServer) (j : Nat) : (w.setS i s).s j = s ∨ (w.setS i s).s j = w.s j := by
  by_cases h : i < w.sv.length
  · rw [s_setS h]
    split
    · exact .inl rfl
    · exact .inr rfl
  · right
    unfold AWorld.setS AWorld.s
    simp only
    rw [List.set_eq_of_length_le (by omega)]
theorem WatAll.set {w : AWorld} (h : WatAll w) {s : AServer} (hs : WatOk s.watches) (i : Nat) : WatAll (w.setS i s) := fun j => by
  rcases s_set_or w i s j with e | e
  · rw [e]; exact hs
  · rw [e]; exact h j
end Go.Proofs.YtainmipdnjcbkaaGreatDoor
namespace Go.Proofs.YtainmipdnjcbkaaGreatDoor
set_option linter.unusedVariables false
set_option linter.unusedSimpArgs false
open Go Go.RowKit
set_option maxRecDepth 100000
set_option linter.unusedSimpArgs false
end Go.Proofs.YtainmipdnjcbkaaGreatDoor
namespace Go.Proofs.YtainmipdnjcbkaaGreatDoor
set_option linter.unusedVariables false
set_option linter.unusedSimpArgs false
open Go Go.RowKit
set_option maxRecDepth 100000
set_option linter.unusedSimpArgs false
theorem rises_pwL {l : List (List UInt8)} : Rises l ↔ l.Pairwise (fun a b => a < b) := by
  have gd (j : Nat) (hj : j < l.length) : l.getD j [] = l[j] := by rw [List.getD_eq_getElem?_getD, List.getElem?_eq_getElem hj]; rfl
  constructor
  · intro h
    refine List.pairwise_iff_getElem.2 fun i j hi hj hij => ?_
    have := rises_lt h hij hj
    rwa [gd i hi, gd j hj] at this
  · intro h k hk
    rw [gd k (by omega), gd (k + 1) hk]
    exact List.pairwise_iff_getElem.1 h k (k + 1) (by omega) hk (by omega)
def CacOk (l : List AEntry) (n : Nat) : Prop := Rises (l.map AEntry.path) ∧ l.length ≤ n ∧ ∀ e, e ∈ l → e.path.length ≤ 200 ∧ e.data.length ≤ 256
theorem CacOk.sub {l m : List AEntry} {n : Nat} (h : CacOk l n) (hs : m.Sublist l) : CacOk m n :=
  ⟨rises_pwL.2 ((rises_pwL.1 h.1).sublist (hs.map _)), Nat.le_trans hs.length_le h.2.1, fun e he => h.2.2 e (hs.subset he)⟩
theorem CacOk.nil (n : Nat) : CacOk [] n := ⟨fun k hk => absurd hk (by simp), Nat.zero_le _, fun e he => by cases he⟩
theorem CacOk.mono {l : List AEntry} {n m : Nat} (h : CacOk l n) (hm : n ≤ m) : CacOk l m := ⟨h.1, Nat.le_trans h.2.1 hm, h.2.2⟩
theorem normE_small {e : AEntry} (h : e.path.length ≤ 200 ∧ e.data.length ≤ 256) : (normE e).path = e.path ∧ (normE e).path.length ≤ 200 ∧ (normE e).data.length ≤ 256 := by
  unfold normE
  split
  · exact ⟨rfl, h⟩
  · exact ⟨rfl, h.1, Nat.zero_le _⟩
theorem CacOk.keep {l : List AEntry} {n : Nat} (h : CacOk l n) {e : AEntry} (he : e.path.length ≤ 200 ∧ e.data.length ≤ 256) : CacOk (ckeepL l e) (n + 1) := by
  obtain ⟨h1, h2, h3⟩ := h
  obtain ⟨e1, e2, e3⟩ := normE_small he
  unfold ckeepL
  split
  · rename_i hm
    have hf := zc h1 hm
    have hi : place (l.map AEntry.path) e.path < l.length := by have := hf.1; rwa [List.length_map] at this
    refine ⟨?_, by rw [List.length_set]; omega, fun x hx => ?_⟩
    · have : (l.set (place (l.map AEntry.path) e.path) (normE e)).map AEntry.path = l.map AEntry.path := by
        rw [List.map_set, e1]
        apply List.ext_getElem?
        intro j
        rw [List.getElem?_set]
        split
        · rename_i ej; subst ej
          rw [if_pos hf.1]
          have := hf.2
          rw [List.getD_eq_getElem?_getD, List.getElem?_eq_getElem hf.1] at this
          rw [List.getElem?_eq_getElem hf.1]
          exact congrArg some this.symm
        · rfl
      rw [this]; exact h1
    · rcases List.mem_or_eq_of_mem_set hx with hx | hx
      · exact h3 x hx
      · rw [hx]; exact ⟨e2, e3⟩
  · rename_i hm
    have hp := place_le (l.map AEntry.path) e.path
    rw [List.length_map] at hp
    refine ⟨?_, by rw [ins_len _ _ _ hp]; omega, fun x hx => ?_⟩
    · have : (l.insertIdx (place (l.map AEntry.path) e.path) (normE e)).map AEntry.path = (l.map AEntry.path).insertIdx (place (l.map AEntry.path) e.path) e.path := by
        rw [← ins_map, e1]
      rw [this]; exact rises_ins h1 hm
    · rcases (List.mem_insertIdx hp).1 hx with hx | hx
      · rw [hx]; exact ⟨e2, e3⟩
      · exact h3 x hx
def CacAll (l : List AClient) (n : Nat) : Prop := ∀ c, c ∈ l → CacOk c.cache n
theorem CacAll.mono {l : List AClient} {n m : Nat} (h : CacAll l n) (hm : n ≤ m) : CacAll l m := fun c hc => (h c hc).mono hm
theorem CacAll.set {l : List AClient} {n : Nat} (h : CacAll l n) {c : AClient} (hc : CacOk c.cache n) (i : Nat) : CacAll (l.set i c) n := fun x hx => by
  rcases List.mem_or_eq_of_mem_set hx with hx | hx
  · exact h x hx
  · rw [hx]; exact hc
theorem CacAll.getD {l : List AClient} {n : Nat} (h : CacAll l n) (i : Nat) : CacOk (l.getD i default).cache n := by
  by_cases hi : i < l.length
  · exact h _ (getD_mem l i hi)
  · rw [List.getD_eq_getElem?_getD, List.getElem?_eq_none (by omega)]
    exact CacOk.nil n
def WAll (w : AWorld) (n : Nat) : Prop := (∃ g es K, WInv w g es K n) ∧ WatAll w ∧ CacAll w.cl n
theorem WAll.server {w : AWorld} {n : Nat} (h : WAll w n) (hn : n < 1000) {j : Nat} (hj : j < 3) : (w.s j).wf ∧ okT (w.s j).tree ∧ goodTr (w.s j).tree = true ∧ (∀ x, x ∈ (w.s j).peer.log → x.wf ∧ x.path.length ≤ 200) ∧ WatOk (w.s j).watches := by
  obtain ⟨⟨g, es, K, h1⟩, h2, _⟩ := h
  have hE := h1.pr.E0 j hj
  obtain ⟨a, b, c, d⟩ := (h1.sv j hj).wf hj (h1.small j hj) (by omega) ⟨hE.1, hE.2⟩ (h2 j)
  exact ⟨a, b, c, d, h2 j⟩
theorem WAll.client {w : AWorld} {n : Nat} (h : WAll w n) (hn : n < 1000) {i : Nat} (hi : i < 16) : (w.c i).wf ∧ (w.c i).session = (i : Int) + 1 ∧ CacOk (w.c i).cache n := by
  obtain ⟨⟨g, es, K, h1⟩, _, h3⟩ := h
  have hc := h1.cli i hi
  have ho := h3.getD i
  change CacOk (w.c i).cache n at ho
  have hes := h1.pr.esn
  obtain ⟨o1, o2, o3, _⟩ := hc.2
  refine ⟨⟨by rw [hc.1]; exact okI_of (by omega) (by omega), okI_of o1 (by omega), ⟨by have := ho.2.1; omega, fun e he => ?_⟩⟩, hc.1, ho⟩
  have := ho.2.2 e he
  exact ⟨by unfold okS; omega, by unfold okS; omega, trivial⟩
end Go.Proofs.YtainmipdnjcbkaaGreatDoor
