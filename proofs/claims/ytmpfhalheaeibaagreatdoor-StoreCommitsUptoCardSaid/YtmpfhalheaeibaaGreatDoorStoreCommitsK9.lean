/- A part of what StoreCommits leans on: texts of this claim, one behind the other. No condition. -/
import Derived.Test.YtmpfhalheaeibaaGreatDoorStoreCommitsK8
namespace Go.Proofs.YtmpfhalheaeibaaGreatDoor
set_option linter.unusedVariables false
set_option linter.unusedSimpArgs false
open Go Go.RowKit
set_option maxRecDepth 100000
set_option linter.unusedSimpArgs false
def joinL : List (List UInt8) → List UInt8
  | [] => []
  | p :: ps => 47 :: (p ++ joinL ps)
def pathOf (ps : List (List UInt8)) : List UInt8 := if ps = [] then [47] else joinL ps
theorem joinL_app (a b : List (List UInt8)) : joinL (a ++ b) = joinL a ++ joinL b := by
  induction a with
  | nil => rfl
  | cons p a ih => simp [joinL, ih]
theorem splitB_47 (b : List UInt8) : splitB (47 :: b) = [] :: splitB b := by simp [splitB]
theorem splitB_other {c : UInt8} (h : ¬ c = 47) (r : List UInt8) : splitB (c :: r) = match splitB r with
    | p :: ps => (c :: p) :: ps
    | [] => [[c]] := by simp only [splitB, if_neg h] <;> (cases splitB r <;> rfl)
theorem splitB_app (a b : List UInt8) : splitB (a ++ 47 :: b) = splitB a ++ splitB b := by
  induction a with
  | nil => exact splitB_47 b
  | cons c a ih =>
    by_cases h : c = 47
    · subst h
      rw [List.cons_append, splitB_47, splitB_47, ih]; rfl
    · rw [List.cons_append, splitB_other h, splitB_other h, ih]
      cases hs : splitB a with
      | nil => exact absurd hs (splitB_ne a)
      | cons p ps => rfl
theorem splitB_no {p : List UInt8} (h : (47 : UInt8) ∉ p) : splitB p = [p] := by
  induction p with
  | nil => rfl
  | cons c p ih =>
    rw [List.mem_cons, not_or] at h
    rw [splitB_other (fun e => h.1 e.symm), ih h.2]
theorem splitB_join {p : List UInt8} {ps : List (List UInt8)} (hp : (47 : UInt8) ∉ p) (h : ∀ q, q ∈ ps → (47 : UInt8) ∉ q) : splitB (p ++ joinL ps) = p :: ps := by
  induction ps generalizing p with
  | nil => rw [joinL, List.append_nil, splitB_no hp]
  | cons q ps ih =>
    rw [joinL, splitB_app, splitB_no hp, ih (h q (by simp)) (fun x hx => h x (List.mem_cons_of_mem _ hx))]; rfl
theorem splitB_joinL {ps : List (List UInt8)} (h : ∀ q, q ∈ ps → (47 : UInt8) ∉ q) : splitB (joinL ps) = [] :: ps :=
  splitB_join (p := []) (by simp) h
theorem join_splitB : ∀ (r : List UInt8), ∃ q qs, splitB r = q :: qs ∧ r = q ++ joinL qs
  | [] => ⟨[], [], rfl, rfl⟩
  | c :: r => by
    obtain ⟨q, qs, e1, e2⟩ := join_splitB r
    by_cases h : c = 47
    · subst h
      exact ⟨[], q :: qs, by rw [splitB_47, e1], by rw [e2]; rfl⟩
    · refine ⟨c :: q, qs, ?_, by rw [e2]; rfl⟩
      rw [splitB_other h, e1]
theorem named_no {p : List UInt8} (h : namedP p = true) : (47 : UInt8) ∉ p := by
  intro hm
  unfold namedP at h
  rw [Bool.and_eq_true, List.all_eq_true] at h
  have := h.1 _ hm
  revert this; decide
def stepsOf (s : List UInt8) : List (List UInt8) := if s = [47] then [] else splitB (s.drop 1)
theorem good_path {s : List UInt8} (h : goodP s = true) : s = pathOf (stepsOf s) ∧ (∀ q, q ∈ stepsOf s → namedP q = true) ∧ s.length ≤ 200 ∧ ∀ q, q ∈ stepsOf s → (47 : UInt8) ∉ q := by
  have hl := goodP_len h
  have key : s = pathOf (stepsOf s) ∧ (∀ q, q ∈ stepsOf s → namedP q = true) := by
    unfold stepsOf
    by_cases h47 : s = [47]
    · rw [if_pos h47]
      exact ⟨by rw [h47]; rfl, by simp⟩
    · rw [if_neg h47]
      unfold goodP at h
      rw [decide_eq_false h47, Bool.false_or, Bool.and_eq_true, Bool.and_eq_true, decide_eq_true_eq, decide_eq_true_eq] at h
      obtain ⟨_, ⟨h1, h2⟩, h3⟩ := h
      cases s with
      | nil => simp at h1
      | cons c r =>
        have hc : c = 47 := by simpa using h2
        subst hc
        obtain ⟨q, qs, e1, e2⟩ := join_splitB r
        refine ⟨?_, fun x hx => ?_⟩
        · show 47 :: r = pathOf (splitB r)
          rw [e1]
          unfold pathOf
          rw [if_neg (by simp), joinL, ← e2]
        · unfold allNamed at h3
          exact List.all_eq_true.1 h3 x hx
  exact ⟨key.1, key.2, hl, fun q hq => named_no (key.2 q hq)⟩
theorem joinL_ne {ps : List (List UInt8)} (h : ps ≠ []) : joinL ps ≠ [] := by
  cases ps with
  | nil => exact absurd rfl h
  | cons p ps => simp [joinL]
theorem joinL_47 {ps : List (List UInt8)} (hn : ∀ q, q ∈ ps → namedP q = true) : joinL ps ≠ [47] := by
  cases ps with
  | nil => simp [joinL]
  | cons p ps =>
    intro h
    have hp := hn p (by simp)
    rw [joinL, List.cons.injEq] at h
    have h2 := List.append_eq_nil_iff.1 h.2
    rw [h2.1] at hp
    revert hp; decide
theorem pathOf_47 {ps : List (List UInt8)} (hn : ∀ q, q ∈ ps → namedP q = true) : pathOf ps = [47] ↔ ps = [] := by
  unfold pathOf
  split
  · rename_i h; exact iff_of_true rfl h
  · rename_i h; exact iff_of_false (joinL_47 hn) h
theorem steps_pathOf {ps : List (List UInt8)} (hn : ∀ q, q ∈ ps → namedP q = true) : stepsOf (pathOf ps) = ps := by
  unfold stepsOf
  split
  · rename_i h; exact ((pathOf_47 hn).1 h).symm
  · rename_i h
    have h0 : ps ≠ [] := fun e => h ((pathOf_47 hn).2 e)
    unfold pathOf
    rw [if_neg h0]
    cases ps with
    | nil => exact absurd rfl h0
    | cons p ps =>
      show splitB (p ++ joinL ps) = _
      exact splitB_join (named_no (hn p (by simp))) fun q hq => named_no (hn q (List.mem_cons_of_mem _ hq))
theorem splitB_pathOf {ps : List (List UInt8)} (h : ∀ q, q ∈ ps → namedP q = true) (h0 : ps ≠ []) : splitB (pathOf ps) = [] :: ps := by
  unfold pathOf
  rw [if_neg h0]
  exact splitB_joinL fun q hq => named_no (h q hq)
theorem good_pathOf {ps : List (List UInt8)} (hn : ∀ q, q ∈ ps → namedP q = true) (hl : (pathOf ps).length ≤ 200) : goodP (pathOf ps) = true := by
  unfold goodP
  by_cases h0 : ps = []
  · subst h0; rfl
  · have e := steps_pathOf hn
    unfold stepsOf at e
    rw [if_neg (fun h => h0 ((pathOf_47 hn).1 h))] at e
    rw [decide_eq_true hl, Bool.true_and]
    unfold allNamed
    rw [e, List.all_eq_true.2 hn, Bool.and_true, Bool.or_eq_true, decide_eq_true_eq]
    refine .inr ?_
    rw [decide_eq_true_eq]
    unfold pathOf
    rw [if_neg h0]
    cases ps with
    | nil => exact absurd rfl h0
    | cons p ps => simp [joinL]
theorem joinL_take (ps : List (List UInt8)) (k : Nat) : (joinL (ps.take k)).length ≤ (joinL ps).length := by
  have := joinL_app (ps.take k) (ps.drop k)
  rw [List.take_append_drop] at this
  rw [this, List.length_append]; omega
def splitP (s : List UInt8) : (List UInt8 × List UInt8) × Int := if goodP s = true then (if stepsOf s = [] then (([], []), 7) else ((pathOf ((stepsOf s).take ((stepsOf s).length - 1)), (stepsOf s).getD ((stepsOf s).length - 1) []), 0)) else (([], []), 2)
theorem split_bad {s : List UInt8} (h : ¬ goodP s = true) : splitP s = (([], []), 2) := by unfold splitP; rw [if_neg h]
theorem split_root : splitP [47] = (([], []), 7) := by rfl
theorem split_snoc {ps : List (List UInt8)} {p : List UInt8} (hn : ∀ q, q ∈ ps ++ [p] → namedP q = true) (hl : (pathOf (ps ++ [p])).length ≤ 200) : splitP (pathOf (ps ++ [p])) = ((pathOf ps, p), 0) := by
  unfold splitP
  rw [if_pos (good_pathOf hn hl), steps_pathOf hn, if_neg (by simp), List.length_append, List.length_singleton, Nat.add_sub_cancel, List.take_left']
  · simp
  · rfl
theorem good_cases {s : List UInt8} (h : goodP s = true) : s = [47] ∨ ∃ ps p, (∀ q, q ∈ ps ++ [p] → namedP q = true) ∧ s = pathOf (ps ++ [p]) ∧ (pathOf (ps ++ [p])).length ≤ 200 ∧ pathOf (ps ++ [p]) = joinL ps ++ 47 :: p := by
  obtain ⟨h1, h2, h3, h4⟩ := good_path h
  rcases List.eq_nil_or_concat (stepsOf s) with e | ⟨ps, p, e⟩
  · left; rw [h1, e]; rfl
  · right
    rw [List.concat_eq_append] at e
    rw [e] at h1 h2
    refine ⟨ps, p, h2, h1, by rw [← h1]; exact h3, ?_⟩
    unfold pathOf
    rw [if_neg (by simp), joinL_app]
    simp [joinL]
theorem len_cat (a b : List UInt8) (c : UInt8) : (a ++ c :: b).length = a.length + b.length + 1 := by simp; omega
theorem cat_get_lt (a b : List UInt8) (c d : UInt8) (j : Nat) (h : j < b.length) : (a ++ c :: b).getD (a.length + b.length - j) d = b.getD (b.length - 1 - j) d := by
  rw [List.getD_eq_getElem?_getD, List.getElem?_append_right (by omega), show a.length + b.length - j - a.length = (b.length - 1 - j) + 1 from by omega, List.getElem?_cons_succ, ← List.getD_eq_getElem?_getD]
theorem cat_get_eq (a b : List UInt8) (c d : UInt8) : (a ++ c :: b).getD a.length d = c := by
  rw [List.getD_eq_getElem?_getD, List.getElem?_append_right (by omega), Nat.sub_self]; rfl
theorem lastB_c (a b : List UInt8) (c : UInt8) (hc : c ∉ b) (hs : okS (a ++ c :: b)) : acall Tryz.prog [] 118 [S (a ++ c :: b), .d (.int .u8 c.toNat)] (ret (I a.length)) := by
  unfold okS at hs
  have hlen := len_cat a b c
  rw [hlen] at hs
  have hst : ((a.length + b.length + 1 : Nat) : Int) - 1 = ((a.length + b.length : Nat) : Int) := by omega
  refine zi tabOk Tryz.func118 rfl (by kernel_rfl) (by simp [Tryz.ntmps118]) ?_; simp only [Tryz.ntmps118, Tryz.results118, List.toList_toArray, apar, List.length_nil, List.length_cons, Nat.reduceAdd]
  (repeat' first
| (with_reducible refine AR.f ?_)
| refine zb (by decide) ?_
| (with_reducible refine AWP.cond rfl ?_ ?_ <;> intro hc <;> (try simp only [hcs, beq_iff_eq, ge_iff_le, gt_iff_lt] at hc))
| ((first | ((first | (with_reducible first | refine zR ?_ | refine zQ (by decide +kernel) ?_ | refine zD (by decide +kernel) ?_ | refine zE (by decide +kernel) ?_ | refine zG (by decide +kernel) ?_)); intro K hK) | ((first | (with_reducible refine zu ?_ ?_ <;> intro hg) | with_reducible intro hg) <;> (first | (exfalso; simp at hg; done) | (have hg' := hg; (try simp only [hcs, beq_iff_eq, ge_iff_le, gt_iff_lt] at hg'); (try simp only [hg]))))) <;> (try simp (disch := omega) only [go_sem, wn, hlen]) <;> (repeat' with_reducible refine And.intro ?_ ?_) <;> (try (with_reducible refine hK _ ?_; clear hK K)))
| omega)
  refine AWP.loopS (ι := Nat) (fun j => j ≤ b.length) (fun j => b.length - j) [0, 1] (fun j => [(5, I ((a.length + b.length - j : Nat) : Int))]) 0 ?_ (by simp (disch := omega) only [go_sem, wn, hst, Nat.sub_zero]) ?_
  · omega
  intro j hj
  simp only [go_sem]
  (repeat' first
| (with_reducible refine AR.f ?_)
| refine zb (by decide) ?_
| (with_reducible refine AWP.cond rfl ?_ ?_ <;> intro hc <;> (try simp only [hcs, beq_iff_eq, ge_iff_le, gt_iff_lt] at hc))
| ((first | ((first | (with_reducible first | refine zR ?_ | refine zQ (by decide +kernel) ?_ | refine zD (by decide +kernel) ?_ | refine zE (by decide +kernel) ?_ | refine zG (by decide +kernel) ?_)); intro K hK) | ((first | (with_reducible refine zu ?_ ?_ <;> intro hg) | with_reducible intro hg) <;> (first | (exfalso; simp at hg; done) | (have hg' := hg; (try simp only [hcs, beq_iff_eq, ge_iff_le, gt_iff_lt] at hg'); (try simp only [hg]))))) <;> (try simp (disch := omega) only [go_sem, wn, hlen]) <;> (repeat' with_reducible refine And.intro ?_ ?_) <;> (try (with_reducible refine hK _ ?_; clear hK K)))
| omega)
  · by_cases e : j = b.length
    · subst e
      (refine zF rfl ?_ ?_ ?_ ?_; (iterate 3 (focus ((try simp (disch := omega) only [go_sem, wn, Nat.add_sub_cancel]) <;> (try omega) <;> fail))); (try simp (disch := omega) only [go_sem, wn, Nat.add_sub_cancel, I, B, S, inj, List.cons.injEq, and_true, true_and, and_self]))
    · have hlt : j < b.length := by omega
      rw [cat_get_lt a b c 0 j hlt] at hc
      exfalso
      have hb : b.getD (b.length - 1 - j) 0 = c := UInt8.toNat.inj (Int.ofNat_inj.1 hc)
      rw [List.getD_eq_getElem?_getD, List.getElem?_eq_getElem (by omega)] at hb
      have hin := List.getElem_mem (l := b) (n := b.length - 1 - j) (by omega)
      rw [show b[b.length - 1 - j] = c from hb] at hin
      exact absurd hin (by assumption)
  · by_cases e : j = b.length
    · subst e
      exfalso
      rw [Nat.add_sub_cancel, cat_get_eq] at hc
      exact hc rfl
    · refine ⟨j + 1, by omega, by omega, ?_⟩
      have e1 : ((a.length + b.length - (j + 1) : Nat) : Int) = ((a.length + b.length - j : Nat) : Int) - 1 := by omega
      rw [e1]
      (refine SImp.same ?_; simp (disch := omega) only [go_sem, wn, Int.natCast_add])
  all_goals (exfalso; omega)
theorem lastIndex_c (a b : List UInt8) (c : UInt8) (hc : c ∉ b) (hs : okS (a ++ c :: b)) : acall Tryz.prog [] 103 [S (a ++ c :: b), .d (.int .u8 c.toNat)] (ret (I a.length)) := by
  refine zi tabOk Tryz.func103 rfl (by kernel_rfl) (by simp [Tryz.ntmps103]) ?_; simp only [Tryz.ntmps103, Tryz.results103, List.toList_toArray, apar, List.length_nil, List.length_cons, Nat.reduceAdd]
  (repeat' first
| (with_reducible refine AR.f ?_)
| refine zb (by decide) ?_
| (with_reducible refine AWP.cond rfl ?_ ?_ <;> intro hc <;> (try simp only [hcs, beq_iff_eq, ge_iff_le, gt_iff_lt] at hc))
| ((first | ((first | (with_reducible first | refine zR ?_ | refine zQ (by decide +kernel) ?_ | refine zD (by decide +kernel) ?_ | refine zE (by decide +kernel) ?_ | refine zG (by decide +kernel) ?_)); intro K hK) | ((first | refine zA (lastB_c a b c hc hs) ?_ ?_ ?_ ?_ ?_); (focus exact rfl); (focus exact rfl); iterate 2 (focus ((try simp (disch := omega) only [go_sem, wn]) <;> (try omega) <;> fail))) | ((first | refine zN (lastB_c a b c hc hs) rfl ?_ ?_); (focus ((try simp (disch := omega) only [go_sem, wn]) <;> (try omega) <;> fail))) | (first | ((first | refine zX (lastB_c a b c hc hs) rfl ?_ ?_ | refine zy (lastB_c a b c hc hs) ?_ ?_); (focus ((try simp (disch := omega) only [go_sem, wn]) <;> (try omega) <;> fail)))) | ((first | (with_reducible refine zu ?_ ?_ <;> intro hg) | with_reducible intro hg) <;> (first | (exfalso; simp at hg; done) | (have hg' := hg; (try simp only [hcs, beq_iff_eq, ge_iff_le, gt_iff_lt] at hg'); (try simp only [hg]))))) <;> (try simp (disch := omega) only [go_sem, wn]) <;> (repeat' with_reducible refine And.intro ?_ ?_) <;> (try (with_reducible refine hK _ ?_; clear hK K)))
| omega)
  (refine zF rfl ?_ ?_ ?_ ?_; (iterate 3 (focus ((try simp (disch := omega) only [go_sem, wn]) <;> (try omega) <;> fail))); (try simp (disch := omega) only [go_sem, wn, I, B, S, inj, List.cons.injEq, and_true, true_and, and_self]))
theorem split_c (s : List UInt8) (hs : okS s) : acall Tryz.prog [] 82 [S s] (ret (.tup [S (splitP s).1.1, S (splitP s).1.2, I (splitP s).2])) := by
  by_cases h : goodP s = true
  case neg =>
    rw [split_bad h]
    refine zi tabOk Tryz.func82 rfl (by kernel_rfl) (by simp [Tryz.ntmps82]) ?_; simp only [Tryz.ntmps82, Tryz.results82, List.toList_toArray, apar, List.length_nil, List.length_cons, Nat.reduceAdd]
    (repeat' first
  | (with_reducible refine AR.f ?_)
  | refine zb (by decide) ?_
  | (with_reducible refine AWP.cond rfl ?_ ?_ <;> intro hc <;> (try simp only [hcs, beq_iff_eq, ge_iff_le, gt_iff_lt] at hc))
  | ((first | ((first | (with_reducible first | refine zR ?_ | refine zQ (by decide +kernel) ?_ | refine zD (by decide +kernel) ?_ | refine zE (by decide +kernel) ?_ | refine zG (by decide +kernel) ?_)); intro K hK) | ((first | refine zA ((good_c s hs).re (congrArg B (eq_false_of_ne_true h))) ?_ ?_ ?_ ?_ ?_); (focus exact rfl); (focus exact rfl); iterate 2 (focus ((try simp (disch := omega) only [go_sem, wn]) <;> (try omega) <;> fail))) | ((first | refine zN ((good_c s hs).re (congrArg B (eq_false_of_ne_true h))) rfl ?_ ?_); (focus ((try simp (disch := omega) only [go_sem, wn]) <;> (try omega) <;> fail))) | (first | ((first | refine zX ((good_c s hs).re (congrArg B (eq_false_of_ne_true h))) rfl ?_ ?_ | refine zy ((good_c s hs).re (congrArg B (eq_false_of_ne_true h))) ?_ ?_); (focus ((try simp (disch := omega) only [go_sem, wn]) <;> (try omega) <;> fail)))) | ((first | (with_reducible refine zu ?_ ?_ <;> intro hg) | with_reducible intro hg) <;> (first | (exfalso; simp at hg; done) | (have hg' := hg; (try simp only [hcs, beq_iff_eq, ge_iff_le, gt_iff_lt] at hg'); (try simp only [hg]))))) <;> (try simp (disch := omega) only [go_sem, wn]) <;> (repeat' with_reducible refine And.intro ?_ ?_) <;> (try (with_reducible refine hK _ ?_; clear hK K)))
  | omega)
    (refine zF rfl ?_ ?_ ?_ ?_; (iterate 3 (focus ((try simp (disch := omega) only [go_sem, wn]) <;> (try omega) <;> fail))); (try simp (disch := omega) only [go_sem, wn, I, B, S, inj, List.cons.injEq, and_true, true_and, and_self]))
  rcases good_cases h with rfl | ⟨ps, p, hn, e, hl, hj⟩
  · rw [split_root]
    refine zi tabOk Tryz.func82 rfl (by kernel_rfl) (by simp [Tryz.ntmps82]) ?_; simp only [Tryz.ntmps82, Tryz.results82, List.toList_toArray, apar, List.length_nil, List.length_cons, Nat.reduceAdd]
    (repeat' first
  | (with_reducible refine AR.f ?_)
  | refine zb (by decide) ?_
  | (with_reducible refine AWP.cond rfl ?_ ?_ <;> intro hc <;> (try simp only [hcs, beq_iff_eq, ge_iff_le, gt_iff_lt] at hc))
  | ((first | ((first | (with_reducible first | refine zR ?_ | refine zQ (by decide +kernel) ?_ | refine zD (by decide +kernel) ?_ | refine zE (by decide +kernel) ?_ | refine zG (by decide +kernel) ?_)); intro K hK) | ((first | refine zA ((good_c [47] hs).re (congrArg B h)) ?_ ?_ ?_ ?_ ?_); (focus exact rfl); (focus exact rfl); iterate 2 (focus ((try simp (disch := omega) only [go_sem, wn]) <;> (try omega) <;> fail))) | ((first | refine zN ((good_c [47] hs).re (congrArg B h)) rfl ?_ ?_); (focus ((try simp (disch := omega) only [go_sem, wn]) <;> (try omega) <;> fail))) | (first | ((first | refine zX ((good_c [47] hs).re (congrArg B h)) rfl ?_ ?_ | refine zy ((good_c [47] hs).re (congrArg B h)) ?_ ?_); (focus ((try simp (disch := omega) only [go_sem, wn]) <;> (try omega) <;> fail)))) | ((first | (with_reducible refine zu ?_ ?_ <;> intro hg) | with_reducible intro hg) <;> (first | (exfalso; simp at hg; done) | (have hg' := hg; (try simp only [hcs, beq_iff_eq, ge_iff_le, gt_iff_lt] at hg'); (try simp only [hg]))))) <;> (try simp (disch := omega) only [go_sem, wn]) <;> (repeat' with_reducible refine And.intro ?_ ?_) <;> (try (with_reducible refine hK _ ?_; clear hK K)))
  | omega)
    (refine zF rfl ?_ ?_ ?_ ?_; (iterate 3 (focus ((try simp (disch := omega) only [go_sem, wn]) <;> (try omega) <;> fail))); (try simp (disch := omega) only [go_sem, wn, I, B, S, inj, List.cons.injEq, and_true, true_and, and_self]))
  have hsp := split_snoc hn hl
  rw [← e] at hsp hl
  rw [hsp]
  rw [hj] at e
  have hp := named_no (hn p (by simp))
  have hlen := len_cat (joinL ps) p 47
  rw [← e] at hlen
  have hp0 : p ≠ [] := fun h1 => by
    have := hn p (by simp)
    rw [h1] at this; revert this; decide
  have hpl := List.length_pos_iff.2 hp0
  have h47 : ¬ s = [47] := fun h0 => by
    rw [h0, List.length_singleton] at hlen; omega
  have hlast : acall Tryz.prog [] 103 [S (joinL ps ++ 47 :: p), .d (.int .u8 47)] (ret (I (joinL ps).length)) := lastIndex_c (joinL ps) p 47 hp (by rw [← e]; exact hs)
  rw [← e] at hlast
  refine zi tabOk Tryz.func82 rfl (by kernel_rfl) (by simp [Tryz.ntmps82]) ?_; simp only [Tryz.ntmps82, Tryz.results82, List.toList_toArray, apar, List.length_nil, List.length_cons, Nat.reduceAdd]
  (repeat' first
| (with_reducible refine AR.f ?_)
| refine zb (by decide) ?_
| (with_reducible refine AWP.cond rfl ?_ ?_ <;> intro hc <;> (try simp only [hcs, beq_iff_eq, ge_iff_le, gt_iff_lt] at hc))
| ((first | ((first | (with_reducible first | refine zR ?_ | refine zQ (by decide +kernel) ?_ | refine zD (by decide +kernel) ?_ | refine zE (by decide +kernel) ?_ | refine zG (by decide +kernel) ?_)); intro K hK) | ((first | refine zA ((good_c s hs).re (congrArg B h)) ?_ ?_ ?_ ?_ ?_ | refine zA hlast ?_ ?_ ?_ ?_ ?_); (focus exact rfl); (focus exact rfl); iterate 2 (focus ((try simp (disch := omega) only [go_sem, wn, h47]) <;> (try omega) <;> fail))) | ((first | refine zN ((good_c s hs).re (congrArg B h)) rfl ?_ ?_ | refine zN hlast rfl ?_ ?_); (focus ((try simp (disch := omega) only [go_sem, wn, h47]) <;> (try omega) <;> fail))) | (first | ((first | refine zX ((good_c s hs).re (congrArg B h)) rfl ?_ ?_ | refine zy ((good_c s hs).re (congrArg B h)) ?_ ?_); (focus ((try simp (disch := omega) only [go_sem, wn, h47]) <;> (try omega) <;> fail))) | ((first | refine zX hlast rfl ?_ ?_ | refine zy hlast ?_ ?_); (focus ((try simp (disch := omega) only [go_sem, wn, h47]) <;> (try omega) <;> fail)))) | ((first | (with_reducible refine zu ?_ ?_ <;> intro hg) | with_reducible intro hg) <;> (first | (exfalso; simp at hg; done) | (have hg' := hg; (try simp only [hcs, beq_iff_eq, ge_iff_le, gt_iff_lt] at hg'); (try simp only [hg]))))) <;> (try simp (disch := omega) only [go_sem, wn, h47]) <;> (repeat' with_reducible refine And.intro ?_ ?_) <;> (try (with_reducible refine hK _ ?_; clear hK K)))
| omega)
  · have e0 : joinL ps = [] := List.eq_nil_of_length_eq_zero hc
    have eps : ps = [] := Decidable.byContradiction fun h => joinL_ne h e0
    have e1 : List.take (s.length - 1) (List.drop 1 s) = p := by
      rw [List.take_of_length_le (by simp), e, e0]; rfl
    have e2 : pathOf ps = [47] := by rw [eps]; rfl
    rw [e2]
    (refine zF rfl ?_ ?_ ?_ ?_; (iterate 3 (focus ((try simp (disch := omega) only [go_sem, wn, e1]) <;> (try omega) <;> fail))); (try simp (disch := omega) only [go_sem, wn, e1, I, B, S, inj, List.cons.injEq, and_true, true_and, and_self]))
  · have eps : ps ≠ [] := fun h => hc (by rw [h]; rfl)
    have e1 : List.take (s.length - ((joinL ps).length + 1)) (List.drop ((joinL ps).length + 1) s) = p := by
      rw [List.take_of_length_le (by simp), e, ← List.drop_drop, List.drop_left]; rfl
    have e2 : pathOf ps = joinL ps := by unfold pathOf; rw [if_neg eps]
    have e3 : List.take (joinL ps).length s = joinL ps := by rw [e, List.take_left]
    have e4 : (((joinL ps).length : Int) + 1).toNat = (joinL ps).length + 1 := by omega
    rw [e2]
    (refine zF rfl ?_ ?_ ?_ ?_; (iterate 3 (focus ((try simp (disch := omega) only [go_sem, wn, e4, e1, e3, Nat.sub_zero]) <;> (try omega) <;> fail))); (try simp (disch := omega) only [go_sem, wn, e4, e1, e3, Nat.sub_zero, I, B, S, inj, List.cons.injEq, and_true, true_and, and_self]))
theorem joinL_snoc (ps : List (List UInt8)) (p : List UInt8) : joinL (ps ++ [p]) = joinL ps ++ 47 :: p := by
  rw [joinL_app]; simp [joinL]
theorem ref_split_c (s : List UInt8) (hs : s.length ≤ 1048576) : acall Tryz.prog [] 43 [S s] (ret (.tup [S (splitP s).1.1, S (splitP s).1.2, I (splitP s).2])) := by
  by_cases h : goodP s = true
  case neg =>
    rw [split_bad h]
    refine zi tabOk Tryz.func43 rfl (by kernel_rfl) (by simp [Tryz.ntmps43]) ?_; simp only [Tryz.ntmps43, Tryz.results43, List.toList_toArray, apar, List.length_nil, List.length_cons, Nat.reduceAdd]
    (repeat' first
  | (with_reducible refine AR.f ?_)
  | refine zb (by decide) ?_
  | (with_reducible refine AWP.cond rfl ?_ ?_ <;> intro hc <;> (try simp only [hcs, beq_iff_eq, ge_iff_le, gt_iff_lt] at hc))
  | ((first | ((first | (with_reducible first | refine zR ?_ | refine zQ (by decide +kernel) ?_ | refine zD (by decide +kernel) ?_ | refine zE (by decide +kernel) ?_ | refine zG (by decide +kernel) ?_)); intro K hK) | ((first | refine zA ((ref_good_c s hs).re (congrArg B (eq_false_of_ne_true h))) ?_ ?_ ?_ ?_ ?_); (focus exact rfl); (focus exact rfl); iterate 2 (focus ((try simp (disch := omega) only [go_sem, wn]) <;> (try omega) <;> fail))) | ((first | refine zN ((ref_good_c s hs).re (congrArg B (eq_false_of_ne_true h))) rfl ?_ ?_); (focus ((try simp (disch := omega) only [go_sem, wn]) <;> (try omega) <;> fail))) | (first | ((first | refine zX ((ref_good_c s hs).re (congrArg B (eq_false_of_ne_true h))) rfl ?_ ?_ | refine zy ((ref_good_c s hs).re (congrArg B (eq_false_of_ne_true h))) ?_ ?_); (focus ((try simp (disch := omega) only [go_sem, wn]) <;> (try omega) <;> fail)))) | ((first | (with_reducible refine zu ?_ ?_ <;> intro hg) | with_reducible intro hg) <;> (first | (exfalso; simp at hg; done) | (have hg' := hg; (try simp only [hcs, beq_iff_eq, ge_iff_le, gt_iff_lt] at hg'); (try simp only [hg]))))) <;> (try simp (disch := omega) only [go_sem, wn]) <;> (repeat' with_reducible refine And.intro ?_ ?_) <;> (try (with_reducible refine hK _ ?_; clear hK K)))
  | omega)
    (refine zF rfl ?_ ?_ ?_ ?_; (iterate 3 (focus ((try simp (disch := omega) only [go_sem, wn]) <;> (try omega) <;> fail))); (try simp (disch := omega) only [go_sem, wn, I, B, S, inj, List.cons.injEq, and_true, true_and, and_self]))
  rcases good_cases h with rfl | ⟨ps, p, hn, e, hl, hj⟩
  · rw [split_root]
    refine zi tabOk Tryz.func43 rfl (by kernel_rfl) (by simp [Tryz.ntmps43]) ?_; simp only [Tryz.ntmps43, Tryz.results43, List.toList_toArray, apar, List.length_nil, List.length_cons, Nat.reduceAdd]
    (repeat' first
  | (with_reducible refine AR.f ?_)
  | refine zb (by decide) ?_
  | (with_reducible refine AWP.cond rfl ?_ ?_ <;> intro hc <;> (try simp only [hcs, beq_iff_eq, ge_iff_le, gt_iff_lt] at hc))
  | ((first | ((first | (with_reducible first | refine zR ?_ | refine zQ (by decide +kernel) ?_ | refine zD (by decide +kernel) ?_ | refine zE (by decide +kernel) ?_ | refine zG (by decide +kernel) ?_)); intro K hK) | ((first | refine zA ((ref_good_c [47] hs).re (congrArg B h)) ?_ ?_ ?_ ?_ ?_); (focus exact rfl); (focus exact rfl); iterate 2 (focus ((try simp (disch := omega) only [go_sem, wn]) <;> (try omega) <;> fail))) | ((first | refine zN ((ref_good_c [47] hs).re (congrArg B h)) rfl ?_ ?_); (focus ((try simp (disch := omega) only [go_sem, wn]) <;> (try omega) <;> fail))) | (first | ((first | refine zX ((ref_good_c [47] hs).re (congrArg B h)) rfl ?_ ?_ | refine zy ((ref_good_c [47] hs).re (congrArg B h)) ?_ ?_); (focus ((try simp (disch := omega) only [go_sem, wn]) <;> (try omega) <;> fail)))) | ((first | (with_reducible refine zu ?_ ?_ <;> intro hg) | with_reducible intro hg) <;> (first | (exfalso; simp at hg; done) | (have hg' := hg; (try simp only [hcs, beq_iff_eq, ge_iff_le, gt_iff_lt] at hg'); (try simp only [hg]))))) <;> (try simp (disch := omega) only [go_sem, wn]) <;> (repeat' with_reducible refine And.intro ?_ ?_) <;> (try (with_reducible refine hK _ ?_; clear hK K)))
  | omega)
    (refine zF rfl ?_ ?_ ?_ ?_; (iterate 3 (focus ((try simp (disch := omega) only [go_sem, wn]) <;> (try omega) <;> fail))); (try simp (disch := omega) only [go_sem, wn, I, B, S, inj, List.cons.injEq, and_true, true_and, and_self]))
  have hsp := split_snoc hn hl
  have hpieces := splitB_pathOf hn (by simp)
  rw [← e] at hsp hl hpieces
  rw [hsp]
  rw [hj] at e
  have hn47 : ¬ s = [47] := fun h0 => by
    rw [h0] at hpieces
    have h2 := hn p (by simp)
    have h3 : ps ++ [p] = [[]] := by
      have : splitB [47] = [[], []] := rfl
      rw [this, List.cons.injEq] at hpieces
      exact hpieces.2.symm
    have h4 : p ∈ ps ++ [p] := by simp
    rw [h3, List.mem_singleton] at h4
    rw [h4] at h2; revert h2; decide
  have hst := (steps_c s hs).re (by rw [hpieces])
  have hjl : (joinL ps).length ≤ 200 := by
    have := len_cat (joinL ps) p 47
    rw [← e] at this; omega
  have hpl : ps.length + 1 ≤ 201 := by
    have := splitB_le s
    rw [hpieces] at this
    simp at this; omega
  have en : ((ps.length + 1 + 1 : Nat) : Int) - 1 = ((ps.length + 1 : Nat) : Int) := by omega
  have em : min ps.length (ps.length + 1) = ps.length := by omega
  have etk : List.take ps.length (List.map srow (ps ++ [p])) = List.map srow ps := by simp
  have eg : ([DV.str []] :: List.map srow (ps ++ [p])).getD (ps.length + 1) [] = srow p := by
    rw [List.getD_eq_getElem?_getD, List.getElem?_cons_succ, List.map_append, List.getElem?_append_right (by simp)]; simp
  refine zi tabOk Tryz.func43 rfl (by kernel_rfl) (by simp [Tryz.ntmps43]) ?_; simp only [Tryz.ntmps43, Tryz.results43, List.toList_toArray, apar, List.length_nil, List.length_cons, Nat.reduceAdd]
  (repeat' first
| (with_reducible refine AR.f ?_)
| refine zb (by decide) ?_
| (with_reducible refine AWP.cond rfl ?_ ?_ <;> intro hc <;> (try simp only [hcs, beq_iff_eq, ge_iff_le, gt_iff_lt] at hc))
| ((first | ((first | (with_reducible first | refine zR ?_ | refine zQ (by decide +kernel) ?_ | refine zD (by decide +kernel) ?_ | refine zE (by decide +kernel) ?_ | refine zG (by decide +kernel) ?_)); intro K hK) | ((first | refine zA ((ref_good_c s hs).re (congrArg B h)) ?_ ?_ ?_ ?_ ?_ | refine zA hst ?_ ?_ ?_ ?_ ?_); (focus exact rfl); (focus exact rfl); iterate 2 (focus ((try simp (disch := omega) only [go_sem, wn, hn47, en, em, etk, eg, Nat.add_sub_cancel]) <;> (try omega) <;> fail))) | ((first | refine zN ((ref_good_c s hs).re (congrArg B h)) rfl ?_ ?_ | refine zN hst rfl ?_ ?_); (focus ((try simp (disch := omega) only [go_sem, wn, hn47, en, em, etk, eg, Nat.add_sub_cancel]) <;> (try omega) <;> fail))) | (first | ((first | refine zX ((ref_good_c s hs).re (congrArg B h)) rfl ?_ ?_ | refine zy ((ref_good_c s hs).re (congrArg B h)) ?_ ?_); (focus ((try simp (disch := omega) only [go_sem, wn, hn47, en, em, etk, eg, Nat.add_sub_cancel]) <;> (try omega) <;> fail))) | ((first | refine zX hst rfl ?_ ?_ | refine zy hst ?_ ?_); (focus ((try simp (disch := omega) only [go_sem, wn, hn47, en, em, etk, eg, Nat.add_sub_cancel]) <;> (try omega) <;> fail)))) | ((first | (with_reducible refine zu ?_ ?_ <;> intro hg) | with_reducible intro hg) <;> (first | (exfalso; simp at hg; done) | (have hg' := hg; (try simp only [hcs, beq_iff_eq, ge_iff_le, gt_iff_lt] at hg'); (try simp only [hg]))))) <;> (try simp (disch := omega) only [go_sem, wn, hn47, en, em, etk, eg, Nat.add_sub_cancel]) <;> (repeat' with_reducible refine And.intro ?_ ?_) <;> (try (with_reducible refine hK _ ?_; clear hK K)))
| omega)
  refine AWP.loopS (ι := Nat) (fun k => k ≤ ps.length) (fun k => ps.length - k) [5, 6, 22, 23] (fun k => [(7, S (joinL (ps.take k))), (24, I k)]) 0 ?_ (by simp (disch := omega) only [go_sem, wn, joinL]) ?_
  · omega
  intro k hk
  have hkl := joinL_take ps k
  have hgk : (ps.getD k []).length ≤ 40 := by
    by_cases hk2 : k < ps.length
    · exact namedP_len (hn _ (List.mem_append_left _ (mem_getD ps [] hk2)))
    · rw [List.getD_eq_getElem?_getD, List.getElem?_eq_none (by omega)]; exact Nat.zero_le _
  have egd : (ps ++ [p]).getD ps.length default = p := by
    rw [List.getD_eq_getElem?_getD, List.getElem?_append_right (Nat.le_refl _), Nat.sub_self]; rfl
  simp only [go_sem]
  (repeat' first
| (with_reducible refine AR.f ?_)
| refine zb (by decide) ?_
| (with_reducible refine AWP.cond rfl ?_ ?_ <;> intro hc <;> (try simp only [hcs, beq_iff_eq, ge_iff_le, gt_iff_lt] at hc))
| ((first | ((first | (with_reducible first | refine zR ?_ | refine zQ (by decide +kernel) ?_ | refine zD (by decide +kernel) ?_ | refine zE (by decide +kernel) ?_ | refine zG (by decide +kernel) ?_)); intro K hK) | ((first | (with_reducible refine zu ?_ ?_ <;> intro hg) | with_reducible intro hg) <;> (first | (exfalso; simp at hg; done) | (have hg' := hg; (try simp only [hcs, beq_iff_eq, ge_iff_le, gt_iff_lt] at hg'); (try simp only [hg]))))) <;> (try simp (disch := omega) only [go_sem, wn, srow_rgetD, srow, en, eg]) <;> (repeat' with_reducible refine And.intro ?_ ?_) <;> (try (with_reducible refine hK _ ?_; clear hK K)))
| omega)
  · refine ⟨k + 1, by omega, by omega, ?_⟩
    have ets : ps.take (k + 1) = ps.take k ++ [ps.getD k []] := take_snoc ps k (by assumption)
    rw [ets, joinL_snoc]
    (refine SImp.same ?_; simp (disch := omega) only [go_sem, wn, Int.natCast_add])
  · have ek : k = ps.length := by omega
    rw [ek, List.take_length] at hc
    have eps : ps = [] := Decidable.byContradiction fun h => joinL_ne h hc
    have e2 : pathOf ps = [47] := by rw [eps]; rfl
    rw [e2]
    (refine zF rfl ?_ ?_ ?_ ?_; (iterate 3 (focus ((try simp (disch := omega) only [go_sem, wn, egd]) <;> (try omega) <;> fail))); (try simp (disch := omega) only [go_sem, wn, egd, I, B, S, inj, List.cons.injEq, and_true, true_and, and_self]))
  · have ek : k = ps.length := by omega
    subst ek
    rw [List.take_length] at *
    have eps : ps ≠ [] := fun h => hc (by rw [h]; rfl)
    have e2 : pathOf ps = joinL ps := by unfold pathOf; rw [if_neg eps]
    rw [e2]
    (refine zF rfl ?_ ?_ ?_ ?_; (iterate 3 (focus ((try simp (disch := omega) only [go_sem, wn, egd]) <;> (try omega) <;> fail))); (try simp (disch := omega) only [go_sem, wn, egd, I, B, S, inj, List.cons.injEq, and_true, true_and, and_self]))
/-! Depth. -/
end Go.Proofs.YtmpfhalheaeibaaGreatDoor
namespace Go.Proofs.YtmpfhalheaeibaaGreatDoor
set_option linter.unusedVariables false
set_option linter.unusedSimpArgs false
open Go Go.RowKit
set_option maxRecDepth 100000
set_option linter.unusedSimpArgs false
def pathsT (t : ATree) : List (List UInt8) := t.nodes.map ANode.path
def nd (t : ATree) (k : Nat) : ANode := t.nodes.getD k default
def sessOk (l : List Int) (k : Nat) : Prop := 1 ≤ l.getD k default ∧ l.getD k default ≤ 2147483647 ∧ (0 < k → l.getD (k - 1) default < l.getD k default)
instance (l : List Int) (k : Nat) : Decidable (sessOk l k) := by unfold sessOk; infer_instance
def nodeA (t : ATree) (k : Nat) : Prop := goodP (nd t k).path = true ∧ (nd t k).data.length ≤ 256 ∧ (0 < k → (nd t (k - 1)).path < (nd t k).path)
instance (t : ATree) (k : Nat) : Decidable (nodeA t k) := by unfold nodeA; infer_instance
def statB (t : ATree) (s : AStat) : Prop := 0 ≤ s.version ∧ s.version ≤ 2147483647 ∧ 0 ≤ s.cversion ∧ s.cversion ≤ 2147483647 ∧ 0 ≤ s.czxid ∧ s.czxid ≤ s.mzxid ∧ s.czxid ≤ s.pzxid ∧ s.mzxid ≤ t.zxid ∧ s.pzxid ≤ t.zxid
instance (t : ATree) (s : AStat) : Decidable (statB t s) := by unfold statB; infer_instance
def ownB (t : ATree) (s : AStat) : Prop := s.owner ≠ 0 → s.owner ∈ t.sessions ∧ s.kids = 0
instance (t : ATree) (s : AStat) : Decidable (ownB t s) := by unfold ownB; infer_instance
def dirT (t : ATree) (k : Nat) : List UInt8 := (splitP (nd t k).path).1.1
def kidsN (t : ATree) (p : List UInt8) (n : Nat) : Nat := ((List.range n).filter fun j => decide (dirT t j = p)).length
def upB (t : ATree) (k : Nat) : Prop := k = 0 ∨ dirT t k ∈ pathsT t
instance (t : ATree) (k : Nat) : Decidable (upB t k) := by unfold upB; infer_instance
def headOk (t : ATree) : Prop := 1 ≤ t.nodes.length ∧ t.nodes.length ≤ 400 ∧ (nd t 0).path = [47] ∧ (nd t 0).stat.owner = 0 ∧ goodZ t.zxid
instance (t : ATree) : Decidable (headOk t) := by unfold headOk; infer_instance
def goodTr (t : ATree) : Bool := decide (headOk t ∧ (∀ k, k < t.sessions.length → sessOk t.sessions k) ∧ (∀ k, k < t.nodes.length → nodeA t k) ∧
  ∀ k, k < t.nodes.length → statB t (nd t k).stat ∧ ownB t (nd t k).stat ∧ upB t k ∧ (nd t k).stat.kids = kidsN t (nd t k).path t.nodes.length)
theorem goodTr_iff {t : ATree} : goodTr t = true ↔ headOk t ∧ (∀ k, k < t.sessions.length → sessOk t.sessions k) ∧ (∀ k, k < t.nodes.length → nodeA t k) ∧
    ∀ k, k < t.nodes.length → statB t (nd t k).stat ∧ ownB t (nd t k).stat ∧ upB t k ∧ (nd t k).stat.kids = kidsN t (nd t k).path t.nodes.length := by unfold goodTr; rw [decide_eq_true_eq]
theorem pathsT_get (t : ATree) (k : Nat) : (pathsT t).getD k [] = (nd t k).path := getD_map ANode.path t.nodes k default
theorem pathsT_len (t : ATree) : (pathsT t).length = t.nodes.length := by unfold pathsT; simp
theorem rises_sess {l : List Int} (h : ∀ k, k < l.length → sessOk l k) : RisesI l := fun k hk => by
  have := (h (k + 1) (by omega)).2.2 (by omega)
  simpa using this
theorem rises_paths {t : ATree} (h : ∀ k, k < t.nodes.length → nodeA t k) : Rises (pathsT t) := fun k hk => by
  rw [pathsT_len] at hk
  have := (h (k + 1) hk).2.2 (by omega)
  rw [pathsT_get, pathsT_get]
  simpa using this
theorem good_rises {t : ATree} (h : goodTr t = true) : Rises (pathsT t) := rises_paths (goodTr_iff.1 h).2.2.1
theorem good_sess {t : ATree} (h : goodTr t = true) : RisesI t.sessions := rises_sess (goodTr_iff.1 h).2.1
theorem good_root {t : ATree} (h : goodTr t = true) : headOk t := (goodTr_iff.1 h).1
theorem findU_c (t : ATree) (key : List UInt8) (h : t.nodes.length * 88 ≤ 140737488351232) : acall Tryz.prog [] 30 [t.av, S key] (ret (.tup [I (bsN (pathsT t) key), B (foundN (pathsT t) key)])) := by
  unfold pathsT
  refine zi tabOk Tryz.func30 rfl (by kernel_rfl) (by simp [Tryz.ntmps30]) ?_; simp only [Tryz.ntmps30, Tryz.results30, List.toList_toArray, apar, List.length_nil, List.length_cons, Nat.reduceAdd]
  (repeat' first
| (with_reducible refine AR.f ?_)
| refine zb (by decide) ?_
| (with_reducible refine AWP.cond rfl ?_ ?_ <;> intro hc <;> (try simp only [hcs, beq_iff_eq, ge_iff_le, gt_iff_lt] at hc))
| ((first | ((first | (with_reducible first | refine zR ?_ | refine zQ (by decide +kernel) ?_ | refine zD (by decide +kernel) ?_ | refine zE (by decide +kernel) ?_ | refine zG (by decide +kernel) ?_)); intro K hK) | ((first | refine zA (bsNodeU_c t.nodes key h) ?_ ?_ ?_ ?_ ?_); (focus exact rfl); (focus exact rfl); iterate 2 (focus ((try simp (disch := omega) only [go_sem, wn]) <;> (try omega) <;> fail))) | ((first | refine zN (bsNodeU_c t.nodes key h) rfl ?_ ?_); (focus ((try simp (disch := omega) only [go_sem, wn]) <;> (try omega) <;> fail))) | (first | ((first | refine zX (bsNodeU_c t.nodes key h) rfl ?_ ?_ | refine zy (bsNodeU_c t.nodes key h) ?_ ?_); (focus ((try simp (disch := omega) only [go_sem, wn]) <;> (try omega) <;> fail)))) | ((first | (with_reducible refine zu ?_ ?_ <;> intro hg) | with_reducible intro hg) <;> (first | (exfalso; simp at hg; done) | (have hg' := hg; (try simp only [hcs, beq_iff_eq, ge_iff_le, gt_iff_lt] at hg'); (try simp only [hg]))))) <;> (try simp (disch := omega) only [go_sem, wn]) <;> (repeat' with_reducible refine And.intro ?_ ?_) <;> (try (with_reducible refine hK _ ?_; clear hK K)))
| omega)
  (refine zF rfl ?_ ?_ ?_ ?_; (iterate 3 (focus ((try simp (disch := omega) only [go_sem, wn]) <;> (try omega) <;> fail))); (try simp (disch := omega) only [go_sem, wn, I, B, S, inj, List.cons.injEq, and_true, true_and, and_self]))
theorem findT_c (t : ATree) (key : List UInt8) (h : t.nodes.length * 88 ≤ 140737488351232) (hr : Rises (pathsT t)) : acall Tryz.prog [] 30 [t.av, S key] (ret (.tup [I (place (pathsT t) key), B (decide (key ∈ pathsT t))])) := by
  have := findU_c t key h
  rwa [bsN_rises hr, foundN_rises hr] at this
theorem open_c (t : ATree) (s : Int) (h : t.sessions.length * 8 ≤ 140737488351232) (hr : RisesI t.sessions) : acall Tryz.prog [] 52 [t.av, I s] (ret (B (decide (s ∈ t.sessions)))) := by
  refine zi tabOk Tryz.func52 rfl (by kernel_rfl) (by simp [Tryz.ntmps52]) ?_; simp only [Tryz.ntmps52, Tryz.results52, List.toList_toArray, apar, List.length_nil, List.length_cons, Nat.reduceAdd]
  (repeat' first
| (with_reducible refine AR.f ?_)
| refine zb (by decide) ?_
| (with_reducible refine AWP.cond rfl ?_ ?_ <;> intro hc <;> (try simp only [hcs, beq_iff_eq, ge_iff_le, gt_iff_lt] at hc))
| ((first | ((first | (with_reducible first | refine zR ?_ | refine zQ (by decide +kernel) ?_ | refine zD (by decide +kernel) ?_ | refine zE (by decide +kernel) ?_ | refine zG (by decide +kernel) ?_)); intro K hK) | ((first | refine zA (bsInt_c t.sessions s h hr) ?_ ?_ ?_ ?_ ?_); (focus exact rfl); (focus exact rfl); iterate 2 (focus ((try simp (disch := omega) only [go_sem, wn]) <;> (try omega) <;> fail))) | ((first | refine zN (bsInt_c t.sessions s h hr) rfl ?_ ?_); (focus ((try simp (disch := omega) only [go_sem, wn]) <;> (try omega) <;> fail))) | (first | ((first | refine zX (bsInt_c t.sessions s h hr) rfl ?_ ?_ | refine zy (bsInt_c t.sessions s h hr) ?_ ?_); (focus ((try simp (disch := omega) only [go_sem, wn]) <;> (try omega) <;> fail)))) | ((first | (with_reducible refine zu ?_ ?_ <;> intro hg) | with_reducible intro hg) <;> (first | (exfalso; simp at hg; done) | (have hg' := hg; (try simp only [hcs, beq_iff_eq, ge_iff_le, gt_iff_lt] at hg'); (try simp only [hg]))))) <;> (try simp (disch := omega) only [go_sem, wn]) <;> (repeat' with_reducible refine And.intro ?_ ?_) <;> (try (with_reducible refine hK _ ?_; clear hK K)))
| omega)
  (refine zF rfl ?_ ?_ ?_ ?_; (iterate 3 (focus ((try simp (disch := omega) only [go_sem, wn]) <;> (try omega) <;> fail))); (try simp (disch := omega) only [go_sem, wn, I, B, S, inj, List.cons.injEq, and_true, true_and, and_self]))
def getT (t : ATree) (key : List UInt8) : ANode × Int := if key ∈ pathsT t then (nd t (place (pathsT t) key), 0) else (default, 7)
theorem getT_c (t : ATree) (key : List UInt8) (h : t.nodes.length * 88 ≤ 140737488351232) (hr : Rises (pathsT t)) : acall Tryz.prog [] 53 [t.av, S key] (ret (.tup [(getT t key).1.av, I (getT t key).2])) := by
  by_cases hm : key ∈ pathsT t
  · have hp := (zc hr hm).1
    rw [pathsT_len] at hp
    unfold getT
    rw [if_pos hm]
    refine zi tabOk Tryz.func53 rfl (by kernel_rfl) (by simp [Tryz.ntmps53]) ?_; simp only [Tryz.ntmps53, Tryz.results53, List.toList_toArray, apar, List.length_nil, List.length_cons, Nat.reduceAdd]
    (repeat' first
  | (with_reducible refine AR.f ?_)
  | refine zb (by decide) ?_
  | (with_reducible refine AWP.cond rfl ?_ ?_ <;> intro hc <;> (try simp only [hcs, beq_iff_eq, ge_iff_le, gt_iff_lt] at hc))
  | ((first | ((first | (with_reducible first | refine zR ?_ | refine zQ (by decide +kernel) ?_ | refine zD (by decide +kernel) ?_ | refine zE (by decide +kernel) ?_ | refine zG (by decide +kernel) ?_)); intro K hK) | ((first | refine zA ((findT_c t key h hr).re (by rw [decide_eq_true hm])) ?_ ?_ ?_ ?_ ?_); (focus exact rfl); (focus exact rfl); iterate 2 (focus ((try simp (disch := omega) only [go_sem, wn]) <;> (try omega) <;> fail))) | ((first | refine zN ((findT_c t key h hr).re (by rw [decide_eq_true hm])) rfl ?_ ?_); (focus ((try simp (disch := omega) only [go_sem, wn]) <;> (try omega) <;> fail))) | (first | ((first | refine zX ((findT_c t key h hr).re (by rw [decide_eq_true hm])) rfl ?_ ?_ | refine zy ((findT_c t key h hr).re (by rw [decide_eq_true hm])) ?_ ?_); (focus ((try simp (disch := omega) only [go_sem, wn]) <;> (try omega) <;> fail)))) | ((first | (with_reducible refine zu ?_ ?_ <;> intro hg) | with_reducible intro hg) <;> (first | (exfalso; simp at hg; done) | (have hg' := hg; (try simp only [hcs, beq_iff_eq, ge_iff_le, gt_iff_lt] at hg'); (try simp only [hg]))))) <;> (try simp (disch := omega) only [go_sem, wn]) <;> (repeat' with_reducible refine And.intro ?_ ?_) <;> (try (with_reducible refine hK _ ?_; clear hK K)))
  | omega)
    (refine zF rfl ?_ ?_ ?_ ?_; (iterate 3 (focus ((try simp (disch := omega) only [go_sem, wn, nd]) <;> (try omega) <;> fail))); (try simp (disch := omega) only [go_sem, wn, nd, I, B, S, inj, List.cons.injEq, and_true, true_and, and_self]))
  · unfold getT
    rw [if_neg hm]
    refine zi tabOk Tryz.func53 rfl (by kernel_rfl) (by simp [Tryz.ntmps53]) ?_; simp only [Tryz.ntmps53, Tryz.results53, List.toList_toArray, apar, List.length_nil, List.length_cons, Nat.reduceAdd]
    (repeat' first
  | (with_reducible refine AR.f ?_)
  | refine zb (by decide) ?_
  | (with_reducible refine AWP.cond rfl ?_ ?_ <;> intro hc <;> (try simp only [hcs, beq_iff_eq, ge_iff_le, gt_iff_lt] at hc))
  | ((first | ((first | (with_reducible first | refine zR ?_ | refine zQ (by decide +kernel) ?_ | refine zD (by decide +kernel) ?_ | refine zE (by decide +kernel) ?_ | refine zG (by decide +kernel) ?_)); intro K hK) | ((first | refine zA ((findT_c t key h hr).re (by rw [decide_eq_false hm])) ?_ ?_ ?_ ?_ ?_); (focus exact rfl); (focus exact rfl); iterate 2 (focus ((try simp (disch := omega) only [go_sem, wn]) <;> (try omega) <;> fail))) | ((first | refine zN ((findT_c t key h hr).re (by rw [decide_eq_false hm])) rfl ?_ ?_); (focus ((try simp (disch := omega) only [go_sem, wn]) <;> (try omega) <;> fail))) | (first | ((first | refine zX ((findT_c t key h hr).re (by rw [decide_eq_false hm])) rfl ?_ ?_ | refine zy ((findT_c t key h hr).re (by rw [decide_eq_false hm])) ?_ ?_); (focus ((try simp (disch := omega) only [go_sem, wn]) <;> (try omega) <;> fail)))) | ((first | (with_reducible refine zu ?_ ?_ <;> intro hg) | with_reducible intro hg) <;> (first | (exfalso; simp at hg; done) | (have hg' := hg; (try simp only [hcs, beq_iff_eq, ge_iff_le, gt_iff_lt] at hg'); (try simp only [hg]))))) <;> (try simp (disch := omega) only [go_sem, wn]) <;> (repeat' with_reducible refine And.intro ?_ ?_) <;> (try (with_reducible refine hK _ ?_; clear hK K)))
  | omega)
    (refine zF rfl ?_ ?_ ?_ ?_; (iterate 3 (focus ((try simp (disch := omega) only [go_sem, wn, default]) <;> (try omega) <;> fail))); (try simp (disch := omega) only [go_sem, wn, default, I, B, S, inj, List.cons.injEq, and_true, true_and, and_self]))
def t00 : ATree := ⟨0, [⟨[47], [], ⟨0, 0, 0, 0, 0, 0, 0⟩⟩], []⟩
theorem new_c : acall Tryz.prog [] 49 [] (ret t00.av) := by
  refine zi tabOk Tryz.func49 rfl (by kernel_rfl) (by simp [Tryz.ntmps49]) ?_; simp only [Tryz.ntmps49, Tryz.results49, List.toList_toArray, apar, List.length_nil, List.length_cons, Nat.reduceAdd]
  (repeat' first
| (with_reducible refine AR.f ?_)
| refine zb (by decide) ?_
| (with_reducible refine AWP.cond rfl ?_ ?_ <;> intro hc <;> (try simp only [hcs, beq_iff_eq, ge_iff_le, gt_iff_lt] at hc))
| ((first | ((first | (with_reducible first | refine zR ?_ | refine zQ (by decide +kernel) ?_ | refine zD (by decide +kernel) ?_ | refine zE (by decide +kernel) ?_ | refine zG (by decide +kernel) ?_)); intro K hK) | ((first | (with_reducible refine zu ?_ ?_ <;> intro hg) | with_reducible intro hg) <;> (first | (exfalso; simp at hg; done) | (have hg' := hg; (try simp only [hcs, beq_iff_eq, ge_iff_le, gt_iff_lt] at hg'); (try simp only [hg]))))) <;> (try simp (disch := omega) only [go_sem, wn]) <;> (repeat' with_reducible refine And.intro ?_ ?_) <;> (try (with_reducible refine hK _ ?_; clear hK K)))
| omega)
  (refine zF rfl ?_ ?_ ?_ ?_; (iterate 3 (focus ((try simp (disch := omega) only [go_sem, wn, t00]) <;> (try omega) <;> fail))); (try simp (disch := omega) only [go_sem, wn, t00, I, B, S, inj, List.cons.injEq, and_true, true_and, and_self]))
theorem node_okS {t : ATree} (hw : t.wf) (k : Nat) : okS (t.nodes.getD k default).path ∧ okS (t.nodes.getD k default).data := by
  by_cases e : k < t.nodes.length
  · have := hw.2.1.2 _ (getD_mem t.nodes k e)
    exact ⟨this.1, this.2.1⟩
  · rw [List.getD_eq_getElem?_getD, List.getElem?_eq_none (by omega)]; exact ⟨show okS [] by unfold okS; decide, show okS [] by unfold okS; decide⟩
end Go.Proofs.YtmpfhalheaeibaaGreatDoor
namespace Go.Proofs.YtmpfhalheaeibaaGreatDoor
set_option linter.unusedVariables false
set_option linter.unusedSimpArgs false
open Go Go.RowKit
set_option maxRecDepth 100000
set_option linter.unusedSimpArgs false
theorem split_ne {s : List UInt8} (h : (splitP s).2 = 0) : (splitP s).1.1 ≠ [] := by
  unfold splitP at h ⊢
  split at h
  · rename_i hg
    split at h
    · cases h
    · rename_i h0
      rw [if_pos hg, if_neg h0]
      show pathOf _ ≠ []
      unfold pathOf
      split
      · decide
      · rename_i h1; exact joinL_ne h1
  · cases h
theorem split_err {s : List UInt8} (h : ¬ (splitP s).2 = 0) : (splitP s).1.1 = [] := by
  unfold splitP at h ⊢
  split at h
  · rename_i hg
    split at h
    · rename_i h0; rw [if_pos hg, if_pos h0]
    · exact absurd rfl h
  · rename_i hg; rw [if_neg hg]
theorem goodP_ne {s : List UInt8} (h : goodP s = true) : s ≠ [] := by rintro rfl; revert h; decide
theorem kidsN_zero (t : ATree) (p : List UInt8) : kidsN t p 0 = 0 := rfl
theorem kidsN_succ (t : ATree) (p : List UInt8) (k : Nat) : kidsN t p (k + 1) = kidsN t p k + if dirT t k = p then 1 else 0 := by
  unfold kidsN
  rw [List.range_succ, List.filter_append, List.length_append]
  by_cases e : dirT t k = p
  · rw [if_pos e, List.filter_cons_of_pos (by simpa using e)]; rfl
  · rw [if_neg e, List.filter_cons_of_neg (by simpa using e)]; rfl
theorem kidsN_le (t : ATree) (p : List UInt8) (k : Nat) : kidsN t p k ≤ k := by
  unfold kidsN
  exact Nat.le_trans (List.length_filter_le _ _) (by rw [List.length_range]; exact Nat.le_refl _)
theorem goodTr_no {t : ATree} (h : goodTr t = true → False) : goodTr t = false := by
  cases e : goodTr t
  · rfl
  · exact (h e).elim
theorem head_no {t : ATree} (h : ¬ headOk t) : false = goodTr t := (goodTr_no fun h2 => h (good_root h2)).symm
theorem sess_no {t : ATree} {k : Nat} (hk : k < t.sessions.length) (h : ¬ sessOk t.sessions k) : false = goodTr t := (goodTr_no fun h2 => h ((goodTr_iff.1 h2).2.1 k hk)).symm
theorem nodeA_no {t : ATree} {k : Nat} (hk : k < t.nodes.length) (h : ¬ nodeA t k) : false = goodTr t := (goodTr_no fun h2 => h ((goodTr_iff.1 h2).2.2.1 k hk)).symm
theorem nodeB_no {t : ATree} {k : Nat} (hk : k < t.nodes.length) (h : ¬ (statB t (nd t k).stat ∧ ownB t (nd t k).stat ∧ upB t k ∧ (nd t k).stat.kids = kidsN t (nd t k).path t.nodes.length)) : false = goodTr t := (goodTr_no fun h2 => h ((goodTr_iff.1 h2).2.2.2 k hk)).symm
def condP (t : ATree) (i : Nat) : Prop := ((((((((((goodP (nd t i).path = true ∧ ((nd t i).data.length : Int) ≤ 256) ∧ ((i : Int) ≤ 0 ∨ (nd t (i - 1)).path < (nd t i).path)) ∧ 0 ≤ (nd t i).stat.version) ∧ (nd t i).stat.version ≤ 2147483647) ∧ 0 ≤ (nd t i).stat.cversion) ∧ (nd t i).stat.cversion ≤ 2147483647) ∧
  0 ≤ (nd t i).stat.czxid) ∧ (nd t i).stat.czxid ≤ (nd t i).stat.mzxid) ∧ (nd t i).stat.czxid ≤ (nd t i).stat.pzxid) ∧ (nd t i).stat.mzxid ≤ t.zxid) ∧ (nd t i).stat.pzxid ≤ t.zxid
theorem condP_ok {t : ATree} {i : Nat} (h : condP t i) : nodeA t i ∧ statB t (nd t i).stat := by
  obtain ⟨⟨⟨⟨⟨⟨⟨⟨⟨⟨⟨h1, h2⟩, h3⟩, h4⟩, h5⟩, h6⟩, h7⟩, h8⟩, h9⟩, h10⟩, h11⟩, h12⟩ := h
  exact ⟨⟨h1, by omega, fun h0 => h3.resolve_left (by omega)⟩, h4, h5, h6, h7, h8, h9, h10, h11, h12⟩
theorem root_of {s : List UInt8} (hg : goodP s = true) (h : ¬ (splitP s).2 = 0) : s = [47] := by
  unfold splitP at h
  rw [if_pos hg] at h
  split at h
  · rename_i h0
    have := (good_path hg).1
    rw [h0] at this; exact this
  · exact absurd rfl h
theorem first_lt {t : ATree} : ∀ {i : Nat}, (∀ j, j ≤ i → nodeA t j) → 0 < i → (nd t 0).path < (nd t i).path
  | 0, _, h => by omega
  | i + 1, h, _ => by
    have := (h (i + 1) (Nat.le_refl _)).2.2 (by omega)
    rw [Nat.add_sub_cancel] at this
    by_cases e : i = 0
    · subst e; exact this
    · exact List.lt_trans (first_lt (fun j hj => h j (by omega)) (by omega)) this
theorem upB_err {t : ATree} {i : Nat} (hh : headOk t) (hA : ∀ j, j ≤ i → nodeA t j) (he : ¬ (splitP (nd t i).path).2 = 0) : upB t i := by
  by_cases e : i = 0
  · exact .inl e
  · have h1 := first_lt hA (by omega)
    rw [root_of (hA i (Nat.le_refl _)).1 he, hh.2.2.1] at h1
    exact absurd h1 (List.lt_irrefl _)
theorem up_no {t : ATree} {i : Nat} (hi : i < t.nodes.length) (h0 : (splitP (nd t i).path).2 = 0) (h : foundN (pathsT t) (splitP (nd t i).path).1.1 = false) : false = goodTr t := by
  refine (goodTr_no fun h2 => ?_).symm
  rw [foundN_rises (good_rises h2), decide_eq_false_iff_not] at h
  rcases ((goodTr_iff.1 h2).2.2.2 i hi).2.2.1 with e | e
  · subst e
    rw [(good_root h2).2.2.1] at h0
    exact absurd h0 (by decide)
  · exact h e
theorem own_no {t : ATree} {i : Nat} (hi : i < t.nodes.length) (h0 : ¬ (nd t i).stat.owner = 0) (h : ¬ (nd t i).stat.owner ∈ t.sessions ∨ ¬ (nd t i).stat.kids = 0) : false = goodTr t :=
  nodeB_no hi fun ⟨_, ho, _, _⟩ => by
    obtain ⟨a, b⟩ := ho h0
    rcases h with h | h
    · exact h a
    · exact h b
structure TLoop (t : ATree) (i : Nat) (m : List (List UInt8 × Int)) : Prop where
  le : i ≤ t.nodes.length
  ok : ∀ j, j < i → nodeA t j ∧ statB t (nd t j).stat ∧ ownB t (nd t j).stat ∧ upB t j
  cnt : ∀ p, p ≠ [] → mval m p = (kidsN t p i : Nat)
theorem tloop_a {t : ATree} {i : Nat} {m : List (List UInt8 × Int)} (h : TLoop t i m) (hi : i < t.nodes.length) (hc : condP t i) (ho : ownB t (nd t i).stat) (h0 : (splitP (nd t i).path).2 = 0) (hf : foundN (pathsT t) (splitP (nd t i).path).1.1 = true) :
    TLoop t (i + 1) (mset m (splitP (nd t i).path).1.1 (mval m (splitP (nd t i).path).1.1 + 1)) := by
  refine ⟨by omega, fun j hj => ?_, fun p hp => ?_⟩
  · by_cases e : j = i
    · subst e; obtain ⟨a, b⟩ := condP_ok hc; exact ⟨a, b, ho, .inr (foundN_mem hf)⟩
    · exact h.ok j (by omega)
  · have := mval_bump m (splitP (nd t i).path).1.1 p
    unfold mbump at this
    rw [this, h.cnt p hp, kidsN_succ]
    by_cases e : p = (splitP (nd t i).path).1.1
    · rw [if_pos e, if_pos (show dirT t i = p from e.symm)]; omega
    · rw [if_neg e, if_neg (show ¬ dirT t i = p from fun e2 => e e2.symm)]; omega
theorem tloop_b {t : ATree} {i : Nat} {m : List (List UInt8 × Int)} (h : TLoop t i m) (hh : headOk t) (hi : i < t.nodes.length) (hc : condP t i) (ho : ownB t (nd t i).stat) (h0 : ¬ (splitP (nd t i).path).2 = 0) : TLoop t (i + 1) m := by
  obtain ⟨a, b⟩ := condP_ok hc
  have hA : ∀ j, j ≤ i → nodeA t j := fun j hj => by
    by_cases e : j = i
    · subst e; exact a
    · exact (h.ok j (by omega)).1
  refine ⟨by omega, fun j hj => ?_, fun p hp => ?_⟩
  · by_cases e : j = i
    · subst e; exact ⟨a, b, ho, upB_err hh hA h0⟩
    · exact h.ok j (by omega)
  · rw [h.cnt p hp, kidsN_succ, if_neg (show ¬ dirT t i = p from fun e2 => hp (e2.symm.trans (split_err h0)))]; rfl
theorem tloop_w {t : ATree} {i : Nat} {m : List (List UInt8 × Int)} (h : TLoop t i m) (h4 : t.nodes.length ≤ 400) (h0 : (splitP (nd t i).path).2 = 0) : IntKind.i64.wrap (mval m (splitP (nd t i).path).1.1 + 1) = mval m (splitP (nd t i).path).1.1 + 1 := by
  have a := h.cnt _ (split_ne h0)
  have b := kidsN_le t (splitP (nd t i).path).1.1 i
  have c := h.le
  simp [IntKind.wrap, IntKind.bits, IntKind.signed]; omega
theorem own_yes {t : ATree} {i : Nat} (h : (nd t i).stat.owner ∈ t.sessions ∧ (nd t i).stat.kids = 0) : ownB t (nd t i).stat := fun _ => h
theorem own_zero {t : ATree} {i : Nat} (h : (nd t i).stat.owner = 0) : ownB t (nd t i).stat := fun h2 => absurd h h2
theorem tgood_end {t : ATree} {m : List (List UInt8 × Int)} (hh : headOk t) (hs : ∀ j, j < t.sessions.length → sessOk t.sessions j) (h : TLoop t t.nodes.length m) (hk : ∀ j, j < t.nodes.length → (nd t j).stat.kids = mval m (nd t j).path) : goodTr t = true := by
  refine goodTr_iff.2 ⟨hh, hs, fun k hk => (h.ok k hk).1, fun k hk2 => ?_⟩
  obtain ⟨a, b, c, d⟩ := h.ok k hk2
  refine ⟨b, c, d, ?_⟩
  rw [hk k hk2, h.cnt _ (goodP_ne a.1)]
theorem kids_no {t : ATree} {m : List (List UInt8 × Int)} {k : Nat} (h : TLoop t t.nodes.length m) (hk : k < t.nodes.length) (hc : ¬ (nd t k).stat.kids = mval m (nd t k).path) : false = goodTr t :=
  nodeB_no hk fun ⟨_, _, _, h2⟩ => hc (by rw [h2, h.cnt _ (goodP_ne (h.ok k hk).1.1)])
set_option maxHeartbeats 8000000 in
theorem tgood_c (t : ATree) (hw : t.wf) : acall Tryz.prog [] 50 [t.av] (ret (B (goodTr t))) := by
  have hok := node_okS hw
  obtain ⟨hz, ⟨hn, hnw⟩, ⟨hs, hsw⟩⟩ := hw
  refine zi tabOk Tryz.func50 rfl (by kernel_rfl) (by simp [Tryz.ntmps50]) ?_; simp only [Tryz.ntmps50, Tryz.results50, List.toList_toArray, apar, List.length_nil, List.length_cons, Nat.reduceAdd]
  (repeat' first
| (with_reducible refine AR.f ?_)
| refine zb (by decide) ?_
| (with_reducible refine AWP.cond rfl ?_ ?_ <;> intro hc <;> (try simp only [hcs, beq_iff_eq, ge_iff_le, gt_iff_lt] at hc))
| ((first | ((first | (with_reducible first | refine zR ?_ | refine zQ (by decide +kernel) ?_ | refine zD (by decide +kernel) ?_ | refine zE (by decide +kernel) ?_ | refine zG (by decide +kernel) ?_)); intro K hK) | ((first | refine zA (zgood_c t.zxid) ?_ ?_ ?_ ?_ ?_); (focus exact rfl); (focus exact rfl); iterate 2 (focus ((try simp (disch := omega) only [go_sem, wn]) <;> (try omega) <;> fail))) | ((first | refine zN (zgood_c t.zxid) rfl ?_ ?_); (focus ((try simp (disch := omega) only [go_sem, wn]) <;> (try omega) <;> fail))) | (first | ((first | refine zX (zgood_c t.zxid) rfl ?_ ?_ | refine zy (zgood_c t.zxid) ?_ ?_); (focus ((try simp (disch := omega) only [go_sem, wn]) <;> (try omega) <;> fail)))) | ((first | (with_reducible refine zu ?_ ?_ <;> intro hg) | with_reducible intro hg) <;> (first | (exfalso; simp at hg; done) | (have hg' := hg; (try simp only [hcs, beq_iff_eq, ge_iff_le, gt_iff_lt] at hg'); (try simp only [hg]))))) <;> (try simp (disch := omega) only [go_sem, wn]) <;> (repeat' with_reducible refine And.intro ?_ ?_) <;> (try (with_reducible refine hK _ ?_; clear hK K)))
| omega)
  · (refine zF rfl ?_ ?_ ?_ ?_; (iterate 3 (focus ((try simp (disch := omega) only [go_sem, wn]) <;> (try omega) <;> fail))); (try simp (disch := omega) only [go_sem, wn, I, B, S, inj, List.cons.injEq, and_true, true_and, and_self]))
    refine head_no fun ⟨a1, a2, a3, a4, a5⟩ => ?_
    rcases hc with (((h | h) | h) | h) | h
    · omega
    · omega
    · exact h a3
    · exact h a4
    · exact h a5
  rotate_left
  · simp_all
  · (refine zF rfl ?_ ?_ ?_ ?_; (iterate 3 (focus ((try simp (disch := omega) only [go_sem, wn]) <;> (try omega) <;> fail))); (try simp (disch := omega) only [go_sem, wn, I, B, S, inj, List.cons.injEq, and_true, true_and, and_self]))
    refine head_no fun ⟨a1, a2, a3, a4, a5⟩ => ?_
    rcases hg' with ((h | h) | h) | h
    · omega
    · omega
    · exact h a3
    · exact h a4
  have hhead : headOk t := ⟨by omega, by omega, hc.1.1.2, hc.1.2, hc.2⟩
  have h400 : t.nodes.length ≤ 400 := by omega
  clear hc hg
  refine AWP.loopS (ι := Nat) (fun k => k ≤ t.sessions.length ∧ ∀ j, j < k → sessOk t.sessions j) (fun k => t.sessions.length - k) [1, 50, 51] (fun k => [(52, I k)]) 0 ?_ (by simp (disch := omega) only [go_sem, wn, true_and]) ?_
  · exact ⟨by omega, fun j hj => by omega⟩
  intro k ⟨hk, hk2⟩
  simp only [go_sem]
  (repeat' first
| (with_reducible refine AR.f ?_)
| refine zb (by decide) ?_
| (with_reducible refine AWP.cond rfl ?_ ?_ <;> intro hc <;> (try simp only [hcs, beq_iff_eq, ge_iff_le, gt_iff_lt] at hc))
| ((first | ((first | (with_reducible first | refine zR ?_ | refine zQ (by decide +kernel) ?_ | refine zD (by decide +kernel) ?_ | refine zE (by decide +kernel) ?_ | refine zG (by decide +kernel) ?_)); intro K hK) | ((first | (with_reducible refine zu ?_ ?_ <;> intro hg) | with_reducible intro hg) <;> (first | (exfalso; simp at hg; done) | (have hg' := hg; (try simp only [hcs, beq_iff_eq, ge_iff_le, gt_iff_lt] at hg'); (try simp only [hg]))))) <;> (try simp (disch := omega) only [go_sem, wn, toNat_pr2]) <;> (repeat' with_reducible refine And.intro ?_ ?_) <;> (try (with_reducible refine hK _ ?_; clear hK K)))
| omega)
  · (refine zF rfl ?_ ?_ ?_ ?_; (iterate 3 (focus ((try simp (disch := omega) only [go_sem, wn]) <;> (try omega) <;> fail))); (try simp (disch := omega) only [go_sem, wn, I, B, S, inj, List.cons.injEq, and_true, true_and, and_self]))
    refine sess_no (k := k) (by omega) fun ⟨a1, a2, a3⟩ => ?_
    rcases hc with (h | h) | h
    · omega
    · omega
    · exact absurd (a3 (by omega)) (by omega)
  · refine ⟨k + 1, ⟨by omega, fun j hj => ?_⟩, by omega, ?_⟩
    · by_cases e : j = k
      · subst e; exact ⟨hc.1.1, hc.1.2, fun h0 => hc.2.resolve_left (by omega)⟩
      · exact hk2 j (by omega)
    (refine SImp.same ?_; simp (disch := omega) only [go_sem, wn, Int.natCast_add])
  have hss : ∀ j, j < t.sessions.length → sessOk t.sessions j := fun j hj => hk2 j (by omega)
  have hri := rises_sess hss
  clear hk2 hk hc
  refine AWP.loopB (ι := Nat × List (List UInt8 × Int)) (fun v => TLoop t v.1 v.2) (fun v => t.nodes.length - v.1) [1, 5, 80, 81] (fun v => [(82, I v.1)]) (fun v => [.cells [.d (.int .i64 t.zxid), .d (.sl 9 (t.nodes.map ANode.row)), .d (.sl 1 (t.sessions.map irow))], .map v.2]) (0, []) ?_ ?_ ?_
  · exact ⟨by simp, fun j hj => by simp at hj, fun p hp => rfl⟩
  · simp only [go_sem]; (refine SImp.same ?_; simp (disch := omega) only [go_sem, wn, Int.natCast_add])
  intro ⟨i, m⟩ hT
  simp only at hT
  have hokk := (hok i).1
  have hokd := (hok i).2
  have hle := hT.le
  simp only [go_sem]
  (repeat' first
| (with_reducible refine AR.f ?_)
| refine zb (by decide) ?_
| (with_reducible refine AWP.cond rfl ?_ ?_ <;> intro hc <;> (try simp only [hcs, beq_iff_eq, ge_iff_le, gt_iff_lt] at hc))
| ((first | ((first | (with_reducible first | refine zR ?_ | refine zQ (by decide +kernel) ?_ | refine zD (by decide +kernel) ?_ | refine zE (by decide +kernel) ?_ | refine zG (by decide +kernel) ?_)); intro K hK) | ((first | refine acallH_sc (good_c _ hokk) rfl rfl ?_ ?_ ?_ | refine acallQ_sc (good_c _ hokk) rfl rfl ?_ ?_ ?_ | refine acallH_sc (open_c t _ hs hri) rfl rfl ?_ ?_ ?_ | refine acallQ_sc (open_c t _ hs hri) rfl rfl ?_ ?_ ?_ | refine acallH_sc (split_c _ hokk) rfl rfl ?_ ?_ ?_ | refine acallQ_sc (split_c _ hokk) rfl rfl ?_ ?_ ?_ | refine acallH_sc (findU_c t _ hn) rfl rfl ?_ ?_ ?_ | refine acallQ_sc (findU_c t _ hn) rfl rfl ?_ ?_ ?_); iterate 2 (focus ((try simp (disch := omega) only [go_sem, wn, toNat_pr2, strLt_eq, List.append_eq]) <;> (try omega) <;> fail))) | ((first | refine zN (good_c _ hokk) rfl ?_ ?_ | refine zN (open_c t _ hs hri) rfl ?_ ?_ | refine zN (split_c _ hokk) rfl ?_ ?_ | refine zN (findU_c t _ hn) rfl ?_ ?_); (focus ((try simp (disch := omega) only [go_sem, wn, toNat_pr2, strLt_eq, List.append_eq]) <;> (try omega) <;> fail))) | (first | ((first | refine zX (good_c _ hokk) rfl ?_ ?_ | refine zy (good_c _ hokk) ?_ ?_); (focus ((try simp (disch := omega) only [go_sem, wn, toNat_pr2, strLt_eq, List.append_eq]) <;> (try omega) <;> fail))) | ((first | refine zX (open_c t _ hs hri) rfl ?_ ?_ | refine zy (open_c t _ hs hri) ?_ ?_); (focus ((try simp (disch := omega) only [go_sem, wn, toNat_pr2, strLt_eq, List.append_eq]) <;> (try omega) <;> fail))) | ((first | refine zX (split_c _ hokk) rfl ?_ ?_ | refine zy (split_c _ hokk) ?_ ?_); (focus ((try simp (disch := omega) only [go_sem, wn, toNat_pr2, strLt_eq, List.append_eq]) <;> (try omega) <;> fail))) | ((first | refine zX (findU_c t _ hn) rfl ?_ ?_ | refine zy (findU_c t _ hn) ?_ ?_); (focus ((try simp (disch := omega) only [go_sem, wn, toNat_pr2, strLt_eq, List.append_eq]) <;> (try omega) <;> fail)))) | ((first | (with_reducible refine zu ?_ ?_ <;> intro hg) | with_reducible intro hg) <;> (first | (exfalso; simp at hg; done) | (have hg' := hg; (try simp only [hcs, beq_iff_eq, ge_iff_le, gt_iff_lt] at hg'); (try simp only [hg]))))) <;> (try simp (disch := omega) only [go_sem, wn, toNat_pr2, strLt_eq, List.append_eq]) <;> (repeat' with_reducible refine And.intro ?_ ?_) <;> (try (with_reducible refine hK _ ?_; clear hK K)))
| omega)
  · (refine zF rfl ?_ ?_ ?_ ?_; (iterate 3 (focus ((try simp (disch := omega) only [go_sem, wn]) <;> (try omega) <;> fail))); (try simp (disch := omega) only [go_sem, wn, I, B, S, inj, List.cons.injEq, and_true, true_and, and_self]))
    refine (goodTr_no fun h2 => ?_).symm
    obtain ⟨a1, a2, a3⟩ := (goodTr_iff.1 h2).2.2.1 i (by assumption)
    obtain ⟨b1, b2, b3, b4, b5, b6, b7, b8, b9⟩ := ((goodTr_iff.1 h2).2.2.2 i (by assumption)).1
    unfold nd at a1 a2 a3 b1 b2 b3 b4 b5 b6 b7 b8 b9
    rcases hc with ((((((((((h | h) | h) | h) | h) | h) | h) | h) | h) | h) | h) | h
    · rw [a1] at h; cases h
    · omega
    · exact h.2 (a3 (by omega))
    all_goals omega
  · (refine zF rfl ?_ ?_ ?_ ?_; (iterate 3 (focus ((try simp (disch := omega) only [go_sem, wn]) <;> (try omega) <;> fail))); (try simp (disch := omega) only [go_sem, wn, I, B, S, inj, List.cons.injEq, and_true, true_and, and_self]))
    exact own_no (i := i) (by assumption) hg' hc
  · (refine zF rfl ?_ ?_ ?_ ?_; (iterate 3 (focus ((try simp (disch := omega) only [go_sem, wn]) <;> (try omega) <;> fail))); (try simp (disch := omega) only [go_sem, wn, I, B, S, inj, List.cons.injEq, and_true, true_and, and_self]))
    exact up_no (i := i) (by assumption) (by assumption) hc
  · refine ⟨(i + 1, _), tloop_a hT (by assumption) (by assumption) (own_yes (by assumption)) (by assumption) hc, by simp only; omega, ?_⟩
    have hw1 := tloop_w hT h400 (by assumption)
    unfold nd at hw1 ⊢
    (refine SImp.frame [0, 1] rfl (by intro k hk; first | (simp at hk <;> (simp; omega)) | (simp only [List.mem_cons, List.not_mem_nil, or_false] at hk; simp only [List.length_cons, List.length_nil]; omega)) (by decide) (fun k hk => by first | omega | (rcases k with _ | _ | _ | _ | _ | _ | _ | _ | k <;> first | rfl | omega)) ?_ ?_ <;> simp (disch := omega) only [go_sem, wn, Int.natCast_add, hw1] <;> (try rfl))
  · refine ⟨(i + 1, m), tloop_b hT hhead (by assumption) (by assumption) (own_yes (by assumption)) hc, by simp only; omega, ?_⟩
    (refine SImp.frame [0, 1] rfl (by intro k hk; first | (simp at hk <;> (simp; omega)) | (simp only [List.mem_cons, List.not_mem_nil, or_false] at hk; simp only [List.length_cons, List.length_nil]; omega)) (by decide) (fun k hk => by first | omega | (rcases k with _ | _ | _ | _ | _ | _ | _ | _ | k <;> first | rfl | omega)) ?_ ?_ <;> simp (disch := omega) only [go_sem, wn, Int.natCast_add, true_and] <;> (try rfl))
  · (refine zF rfl ?_ ?_ ?_ ?_; (iterate 3 (focus ((try simp (disch := omega) only [go_sem, wn]) <;> (try omega) <;> fail))); (try simp (disch := omega) only [go_sem, wn, I, B, S, inj, List.cons.injEq, and_true, true_and, and_self]))
    exact up_no (i := i) (by assumption) (by assumption) hc
  · refine ⟨(i + 1, _), tloop_a hT (by assumption) (by assumption) (own_zero hg') (by assumption) hc, by simp only; omega, ?_⟩
    have hw1 := tloop_w hT h400 (by assumption)
    unfold nd at hw1 ⊢
    (refine SImp.frame [0, 1] rfl (by intro k hk; first | (simp at hk <;> (simp; omega)) | (simp only [List.mem_cons, List.not_mem_nil, or_false] at hk; simp only [List.length_cons, List.length_nil]; omega)) (by decide) (fun k hk => by first | omega | (rcases k with _ | _ | _ | _ | _ | _ | _ | _ | k <;> first | rfl | omega)) ?_ ?_ <;> simp (disch := omega) only [go_sem, wn, Int.natCast_add, hw1] <;> (try rfl))
  · refine ⟨(i + 1, m), tloop_b hT hhead (by assumption) (by assumption) (own_zero hg') hc, by simp only; omega, ?_⟩
    (refine SImp.frame [0, 1] rfl (by intro k hk; first | (simp at hk <;> (simp; omega)) | (simp only [List.mem_cons, List.not_mem_nil, or_false] at hk; simp only [List.length_cons, List.length_nil]; omega)) (by decide) (fun k hk => by first | omega | (rcases k with _ | _ | _ | _ | _ | _ | _ | _ | k <;> first | rfl | omega)) ?_ ?_ <;> simp (disch := omega) only [go_sem, wn, Int.natCast_add, true_and] <;> (try rfl))
  obtain rfl : i = t.nodes.length := by omega
  clear hc
  refine AWP.loopB (ι := Nat) (fun k => k ≤ t.nodes.length ∧ ∀ j, j < k → (nd t j).stat.kids = mval m (nd t j).path) (fun k => t.nodes.length - k) [5, 206, 207] (fun k => [(208, I k)]) (fun k => [.cells [.d (.int .i64 t.zxid), .d (.sl 9 (t.nodes.map ANode.row)), .d (.sl 1 (t.sessions.map irow))], .map m]) 0 ?_ ?_ ?_
  · exact ⟨by omega, fun j hj => by omega⟩
  · simp only [go_sem]; (refine SImp.same ?_; simp (disch := omega) only [go_sem, wn, Int.natCast_add])
  intro j ⟨hj, hj2⟩
  simp only [go_sem]
  (repeat' first
| (with_reducible refine AR.f ?_)
| refine zb (by decide) ?_
| (with_reducible refine AWP.cond rfl ?_ ?_ <;> intro hc <;> (try simp only [hcs, beq_iff_eq, ge_iff_le, gt_iff_lt] at hc))
| ((first | ((first | (with_reducible first | refine zR ?_ | refine zQ (by decide +kernel) ?_ | refine zD (by decide +kernel) ?_ | refine zE (by decide +kernel) ?_ | refine zG (by decide +kernel) ?_)); intro K hK) | ((first | (with_reducible refine zu ?_ ?_ <;> intro hg) | with_reducible intro hg) <;> (first | (exfalso; simp at hg; done) | (have hg' := hg; (try simp only [hcs, beq_iff_eq, ge_iff_le, gt_iff_lt] at hg'); (try simp only [hg]))))) <;> (try simp (disch := omega) only [go_sem, wn]) <;> (repeat' with_reducible refine And.intro ?_ ?_) <;> (try (with_reducible refine hK _ ?_; clear hK K)))
| omega)
  · (refine zF rfl ?_ ?_ ?_ ?_; (iterate 3 (focus ((try simp (disch := omega) only [go_sem, wn]) <;> (try omega) <;> fail))); (try simp (disch := omega) only [go_sem, wn, I, B, S, inj, List.cons.injEq, and_true, true_and, and_self]))
    exact kids_no (k := j) hT (by assumption) hc
  · refine ⟨j + 1, ⟨by omega, fun q hq => ?_⟩, by omega, ?_⟩
    · by_cases e : q = j
      · subst e; exact hc
      · exact hj2 q (by omega)
    (refine SImp.frame [0, 1] rfl (by intro k hk; first | (simp at hk <;> (simp; omega)) | (simp only [List.mem_cons, List.not_mem_nil, or_false] at hk; simp only [List.length_cons, List.length_nil]; omega)) (by decide) (fun k hk => by first | omega | (rcases k with _ | _ | _ | _ | _ | _ | _ | _ | k <;> first | rfl | omega)) ?_ ?_ <;> simp (disch := omega) only [go_sem, wn, Int.natCast_add, true_and] <;> (try rfl))
  · (refine zF rfl ?_ ?_ ?_ ?_; (iterate 3 (focus ((try simp (disch := omega) only [go_sem, wn]) <;> (try omega) <;> fail))); (try simp (disch := omega) only [go_sem, wn, I, B, S, inj, List.cons.injEq, and_true, true_and, and_self]))
    exact (tgood_end hhead hss hT (fun q hq => hj2 q (by omega))).symm
end Go.Proofs.YtmpfhalheaeibaaGreatDoor
namespace Go.Proofs.YtmpfhalheaeibaaGreatDoor
set_option linter.unusedVariables false
set_option linter.unusedSimpArgs false
open Go Go.RowKit
set_option maxRecDepth 100000
set_option linter.unusedSimpArgs false
theorem has_c (l : List Int) (x : Int) (h : l.length * 8 ≤ 140737488351232) : acall Tryz.prog [] 72 [.d (.sl 1 (l.map irow)), I x] (ret (B (decide (x ∈ l)))) := by
  refine zi tabOk Tryz.func72 rfl (by kernel_rfl) (by simp [Tryz.ntmps72]) ?_; simp only [Tryz.ntmps72, Tryz.results72, List.toList_toArray, apar, List.length_nil, List.length_cons, Nat.reduceAdd]
  (repeat' first
| (with_reducible refine AR.f ?_)
| refine zb (by decide) ?_
| (with_reducible refine AWP.cond rfl ?_ ?_ <;> intro hc <;> (try simp only [hcs, beq_iff_eq, ge_iff_le, gt_iff_lt] at hc))
| ((first | ((first | (with_reducible first | refine zR ?_ | refine zQ (by decide +kernel) ?_ | refine zD (by decide +kernel) ?_ | refine zE (by decide +kernel) ?_ | refine zG (by decide +kernel) ?_)); intro K hK) | ((first | (with_reducible refine zu ?_ ?_ <;> intro hg) | with_reducible intro hg) <;> (first | (exfalso; simp at hg; done) | (have hg' := hg; (try simp only [hcs, beq_iff_eq, ge_iff_le, gt_iff_lt] at hg'); (try simp only [hg]))))) <;> (try simp (disch := omega) only [go_sem, wn]) <;> (repeat' with_reducible refine And.intro ?_ ?_) <;> (try (with_reducible refine hK _ ?_; clear hK K)))
| omega)
  refine AWP.loopS (ι := Nat) (fun k => k ≤ l.length ∧ ∀ j, j < k → l.getD j default ≠ x) (fun k => l.length - k) [1, 7, 8] (fun k => [(9, I k)]) 0 ?_ (by simp (disch := omega) only [go_sem, wn, true_and]) ?_
  · exact ⟨by omega, fun j hj => by omega⟩
  intro k ⟨hk, hk2⟩
  simp only [go_sem]
  (repeat' first
| (with_reducible refine AR.f ?_)
| refine zb (by decide) ?_
| (with_reducible refine AWP.cond rfl ?_ ?_ <;> intro hc <;> (try simp only [hcs, beq_iff_eq, ge_iff_le, gt_iff_lt] at hc))
| ((first | ((first | (with_reducible first | refine zR ?_ | refine zQ (by decide +kernel) ?_ | refine zD (by decide +kernel) ?_ | refine zE (by decide +kernel) ?_ | refine zG (by decide +kernel) ?_)); intro K hK) | ((first | (with_reducible refine zu ?_ ?_ <;> intro hg) | with_reducible intro hg) <;> (first | (exfalso; simp at hg; done) | (have hg' := hg; (try simp only [hcs, beq_iff_eq, ge_iff_le, gt_iff_lt] at hg'); (try simp only [hg]))))) <;> (try simp (disch := omega) only [go_sem, wn]) <;> (repeat' with_reducible refine And.intro ?_ ?_) <;> (try (with_reducible refine hK _ ?_; clear hK K)))
| omega)
  · (refine zF rfl ?_ ?_ ?_ ?_; (iterate 3 (focus ((try simp (disch := omega) only [go_sem, wn]) <;> (try omega) <;> fail))); (try simp (disch := omega) only [go_sem, wn, I, B, S, inj, List.cons.injEq, and_true, true_and, and_self]))
    symm; rw [decide_eq_true_eq, mem_iff_getD l default]
    exact ⟨k, by omega, by simp only [*]⟩
  · refine ⟨k + 1, ⟨by omega, fun j hj => ?_⟩, by omega, ?_⟩
    · by_cases e : j = k
      · subst e; exact fun e2 => hc (by simp only [*])
      · exact hk2 j (by omega)
    (refine SImp.same ?_; simp (disch := omega) only [go_sem, wn, Int.natCast_add])
  · (refine zF rfl ?_ ?_ ?_ ?_; (iterate 3 (focus ((try simp (disch := omega) only [go_sem, wn]) <;> (try omega) <;> fail))); (try simp (disch := omega) only [go_sem, wn, I, B, S, inj, List.cons.injEq, and_true, true_and, and_self]))
    symm; rw [decide_eq_false_iff_not, mem_iff_getD l default]
    rintro ⟨j, hj, e⟩
    exact hk2 j (by omega) e
theorem isOpen_c (t : ATree) (s : Int) (h : t.sessions.length * 8 ≤ 140737488351232) : acall Tryz.prog [] 41 [t.av, I s] (ret (B (decide (s ∈ t.sessions)))) := by
  refine zi tabOk Tryz.func41 rfl (by kernel_rfl) (by simp [Tryz.ntmps41]) ?_; simp only [Tryz.ntmps41, Tryz.results41, List.toList_toArray, apar, List.length_nil, List.length_cons, Nat.reduceAdd]
  (repeat' first
| (with_reducible refine AR.f ?_)
| refine zb (by decide) ?_
| (with_reducible refine AWP.cond rfl ?_ ?_ <;> intro hc <;> (try simp only [hcs, beq_iff_eq, ge_iff_le, gt_iff_lt] at hc))
| ((first | ((first | (with_reducible first | refine zR ?_ | refine zQ (by decide +kernel) ?_ | refine zD (by decide +kernel) ?_ | refine zE (by decide +kernel) ?_ | refine zG (by decide +kernel) ?_)); intro K hK) | ((first | refine zA (has_c t.sessions s h) ?_ ?_ ?_ ?_ ?_); (focus exact rfl); (focus exact rfl); iterate 2 (focus ((try simp (disch := omega) only [go_sem, wn]) <;> (try omega) <;> fail))) | ((first | refine zN (has_c t.sessions s h) rfl ?_ ?_); (focus ((try simp (disch := omega) only [go_sem, wn]) <;> (try omega) <;> fail))) | (first | ((first | refine zX (has_c t.sessions s h) rfl ?_ ?_ | refine zy (has_c t.sessions s h) ?_ ?_); (focus ((try simp (disch := omega) only [go_sem, wn]) <;> (try omega) <;> fail)))) | ((first | (with_reducible refine zu ?_ ?_ <;> intro hg) | with_reducible intro hg) <;> (first | (exfalso; simp at hg; done) | (have hg' := hg; (try simp only [hcs, beq_iff_eq, ge_iff_le, gt_iff_lt] at hg'); (try simp only [hg]))))) <;> (try simp (disch := omega) only [go_sem, wn]) <;> (repeat' with_reducible refine And.intro ?_ ?_) <;> (try (with_reducible refine hK _ ?_; clear hK K)))
| omega)
  (refine zF rfl ?_ ?_ ?_ ?_; (iterate 3 (focus ((try simp (disch := omega) only [go_sem, wn]) <;> (try omega) <;> fail))); (try simp (disch := omega) only [go_sem, wn, I, B, S, inj, List.cons.injEq, and_true, true_and, and_self]))
def nodeI (t : ATree) (p : List UInt8) : Int := if p ∈ pathsT t then (place (pathsT t) p : Nat) else -1
theorem nodeI_yes {t : ATree} {p : List UInt8} (h : p ∈ pathsT t) : nodeI t p = (place (pathsT t) p : Nat) := by unfold nodeI; rw [if_pos h]
theorem nodeI_no {t : ATree} {p : List UInt8} (h : ¬ p ∈ pathsT t) : nodeI t p = -1 := by unfold nodeI; rw [if_neg h]
theorem nodeI_c (t : ATree) (p : List UInt8) (h : t.nodes.length * 88 ≤ 140737488351232) (hr : Rises (pathsT t)) : acall Tryz.prog [] 42 [t.av, S p] (ret (I (nodeI t p))) := by
  refine zi tabOk Tryz.func42 rfl (by kernel_rfl) (by simp [Tryz.ntmps42]) ?_; simp only [Tryz.ntmps42, Tryz.results42, List.toList_toArray, apar, List.length_nil, List.length_cons, Nat.reduceAdd]
  (repeat' first
| (with_reducible refine AR.f ?_)
| refine zb (by decide) ?_
| (with_reducible refine AWP.cond rfl ?_ ?_ <;> intro hc <;> (try simp only [hcs, beq_iff_eq, ge_iff_le, gt_iff_lt] at hc))
| ((first | ((first | (with_reducible first | refine zR ?_ | refine zQ (by decide +kernel) ?_ | refine zD (by decide +kernel) ?_ | refine zE (by decide +kernel) ?_ | refine zG (by decide +kernel) ?_)); intro K hK) | ((first | (with_reducible refine zu ?_ ?_ <;> intro hg) | with_reducible intro hg) <;> (first | (exfalso; simp at hg; done) | (have hg' := hg; (try simp only [hcs, beq_iff_eq, ge_iff_le, gt_iff_lt] at hg'); (try simp only [hg]))))) <;> (try simp (disch := omega) only [go_sem, wn]) <;> (repeat' with_reducible refine And.intro ?_ ?_) <;> (try (with_reducible refine hK _ ?_; clear hK K)))
| omega)
  refine AWP.loopS (ι := Nat) (fun k => k ≤ t.nodes.length ∧ ∀ j, j < k → (t.nodes.getD j default).path ≠ p) (fun k => t.nodes.length - k) [1, 8, 9] (fun k => [(10, I k)]) 0 ?_ (by simp (disch := omega) only [go_sem, wn, true_and]) ?_
  · exact ⟨by omega, fun j hj => by omega⟩
  intro k ⟨hk, hk2⟩
  simp only [go_sem]
  (repeat' first
| (with_reducible refine AR.f ?_)
| refine zb (by decide) ?_
| (with_reducible refine AWP.cond rfl ?_ ?_ <;> intro hc <;> (try simp only [hcs, beq_iff_eq, ge_iff_le, gt_iff_lt] at hc))
| ((first | ((first | (with_reducible first | refine zR ?_ | refine zQ (by decide +kernel) ?_ | refine zD (by decide +kernel) ?_ | refine zE (by decide +kernel) ?_ | refine zG (by decide +kernel) ?_)); intro K hK) | ((first | (with_reducible refine zu ?_ ?_ <;> intro hg) | with_reducible intro hg) <;> (first | (exfalso; simp at hg; done) | (have hg' := hg; (try simp only [hcs, beq_iff_eq, ge_iff_le, gt_iff_lt] at hg'); (try simp only [hg]))))) <;> (try simp (disch := omega) only [go_sem, wn]) <;> (repeat' with_reducible refine And.intro ?_ ?_) <;> (try (with_reducible refine hK _ ?_; clear hK K)))
| omega)
  · (refine zF rfl ?_ ?_ ?_ ?_; (iterate 3 (focus ((try simp (disch := omega) only [go_sem, wn]) <;> (try omega) <;> fail))); (try simp (disch := omega) only [go_sem, wn, I, B, S, inj, List.cons.injEq, and_true, true_and, and_self]))
    have hl : k < (pathsT t).length := by rw [pathsT_len]; omega
    have e := place_at hr hl
    rw [pathsT_get] at e
    unfold nd at e
    rw [hc] at e
    have hm : p ∈ pathsT t := (mem_iff_getD _ [] p).2 ⟨k, hl, by rw [pathsT_get]; exact hc⟩
    rw [nodeI_yes hm, e]
  · refine ⟨k + 1, ⟨by omega, fun j hj => ?_⟩, by omega, ?_⟩
    · by_cases e : j = k
      · subst e; exact hc
      · exact hk2 j (by omega)
    (refine SImp.frame [0] rfl (by intro k hk; first | (simp at hk <;> (simp; omega)) | (simp only [List.mem_cons, List.not_mem_nil, or_false] at hk; simp only [List.length_cons, List.length_nil]; omega)) (by decide) (fun k hk => by first | omega | (rcases k with _ | _ | _ | _ | _ | _ | _ | _ | k <;> first | rfl | omega)) ?_ ?_ <;> simp (disch := omega) only [go_sem, wn, Int.natCast_add, true_and] <;> (try rfl))
  · (refine zF rfl ?_ ?_ ?_ ?_; (iterate 3 (focus ((try simp (disch := omega) only [go_sem, wn]) <;> (try omega) <;> fail))); (try simp (disch := omega) only [go_sem, wn, I, B, S, inj, List.cons.injEq, and_true, true_and, and_self]))
    rw [nodeI_no]
    rw [mem_iff_getD _ []]
    rintro ⟨j, hj, e⟩
    rw [pathsT_get] at e
    rw [pathsT_len] at hj
    exact hk2 j (by omega) e
theorem path_small {t : ATree} (hp : ∀ x, x ∈ t.nodes → x.path.length ≤ 1048576) (k : Nat) : (t.nodes.getD k default).path.length ≤ 1048576 := by
  by_cases e : k < t.nodes.length
  · exact hp _ (getD_mem t.nodes k e)
  · rw [List.getD_eq_getElem?_getD, List.getElem?_eq_none (by omega)]; exact Nat.zero_le _
def dirsR (t : ATree) (k : Nat) : List (List UInt8) := (List.range t.nodes.length).map fun j => if j < k then dirT t j else []
theorem dirs_len (t : ATree) (k : Nat) : (dirsR t k).length = t.nodes.length := by unfold dirsR; simp
theorem dirs_zero (t : ATree) : List.replicate t.nodes.length [DV.str []] = (dirsR t 0).map srow := by
  unfold dirsR
  apply List.ext_getElem?
  intro j
  simp only [List.getElem?_replicate, List.getElem?_map, Nat.not_lt_zero, if_false]
  by_cases h : j < t.nodes.length
  · rw [if_pos h, List.getElem?_range h]; rfl
  · rw [if_neg h, List.getElem?_eq_none (by simpa using h)]; rfl
theorem dirs_set (t : ATree) (k : Nat) : (dirsR t k).set k (splitP (t.nodes.getD k default).path).1.1 = dirsR t (k + 1) := by
  unfold dirsR
  apply List.ext_getElem?
  intro j
  rw [List.getElem?_set]
  simp only [List.length_map, List.length_range, List.getElem?_map]
  by_cases h : j < t.nodes.length
  · rw [List.getElem?_range h]
    by_cases e : k = j
    · subst e; simp [h, dirT, nd]
    · simp only [e, if_false, Option.map_some]
      congr 1
      by_cases h2 : j < k
      · rw [if_pos h2, if_pos (by omega)]
      · rw [if_neg h2, if_neg (by omega)]
  · rw [List.getElem?_eq_none (l := List.range _) (by simpa using h)]
    by_cases e : k = j
    · subst e; simp [h]
    · simp [e]
theorem dirs_get (t : ATree) (j : Nat) (h : j < t.nodes.length) : (dirsR t t.nodes.length).getD j [] = dirT t j := by
  unfold dirsR
  rw [List.getD_eq_getElem?_getD, List.getElem?_map, List.getElem?_range h]
  simp [h]
def upN (t : ATree) (i k : Nat) : Bool := decide (i = 0) || (List.range k).any fun j => decide ((nd t j).path = dirT t i)
theorem upN_zero (t : ATree) (i : Nat) : upN t i 0 = decide (i = 0) := by unfold upN; simp
theorem upN_succ (t : ATree) (i k : Nat) : upN t i (k + 1) = (upN t i k || decide ((nd t k).path = dirT t i)) := by
  unfold upN; rw [List.range_succ, List.any_append, Bool.or_assoc]; simp
theorem upN_iff (t : ATree) (i : Nat) : upN t i t.nodes.length = true ↔ upB t i := by
  unfold upN upB
  rw [Bool.or_eq_true, decide_eq_true_eq, List.any_eq_true, mem_iff_getD _ []]
  constructor
  · rintro (h | ⟨j, hj, h⟩)
    · exact .inl h
    · rw [decide_eq_true_eq] at h
      rw [List.mem_range] at hj
      exact .inr ⟨j, by rw [pathsT_len]; exact hj, by rw [pathsT_get]; exact h⟩
  · rintro (h | ⟨j, hj, h⟩)
    · exact .inl h
    · rw [pathsT_len] at hj
      rw [pathsT_get] at h
      exact .inr ⟨j, List.mem_range.2 hj, by rw [decide_eq_true_eq]; exact h⟩
def condQ (t : ATree) (i : Nat) : Prop := (((((((((upN t i t.nodes.length = true ∧ (nd t i).stat.kids = (kidsN t (nd t i).path t.nodes.length : Nat)) ∧ 0 ≤ (nd t i).stat.version) ∧ (nd t i).stat.version < 2147483648) ∧ 0 ≤ (nd t i).stat.cversion) ∧ (nd t i).stat.cversion < 2147483648) ∧
  0 ≤ (nd t i).stat.czxid) ∧ (nd t i).stat.czxid ≤ (nd t i).stat.mzxid) ∧ (nd t i).stat.czxid ≤ (nd t i).stat.pzxid) ∧ (nd t i).stat.mzxid ≤ t.zxid) ∧ (nd t i).stat.pzxid ≤ t.zxid
theorem condQ_ok {t : ATree} {i : Nat} (h : condQ t i) (ho : (nd t i).stat.owner ≠ 0 → (nd t i).stat.owner ∈ t.sessions ∧ kidsN t (nd t i).path t.nodes.length = 0) : statB t (nd t i).stat ∧ ownB t (nd t i).stat ∧ upB t i ∧ (nd t i).stat.kids = kidsN t (nd t i).path t.nodes.length := by
  obtain ⟨⟨⟨⟨⟨⟨⟨⟨⟨⟨h1, h2⟩, h4⟩, h5⟩, h6⟩, h7⟩, h8⟩, h9⟩, h10⟩, h11⟩, h12⟩ := h
  refine ⟨⟨h4, by omega, h6, by omega, h8, h9, h10, h11, h12⟩, fun h0 => ?_, (upN_iff t i).1 h1, h2⟩
  obtain ⟨a, b⟩ := ho h0
  exact ⟨a, by rw [h2, b]; rfl⟩
set_option maxHeartbeats 8000000 in
theorem ref_tgood_c (t : ATree) (hw : t.wf) (hp : ∀ x, x ∈ t.nodes → x.path.length ≤ 1048576) : acall Tryz.prog [] 39 [t.av] (ret (B (goodTr t))) := by
  have hok := node_okS hw
  obtain ⟨hz, ⟨hn, hnw⟩, ⟨hs, hsw⟩⟩ := hw
  refine zi tabOk Tryz.func39 rfl (by kernel_rfl) (by simp [Tryz.ntmps39]) ?_; simp only [Tryz.ntmps39, Tryz.results39, List.toList_toArray, apar, List.length_nil, List.length_cons, Nat.reduceAdd]
  (repeat' first
| (with_reducible refine AR.f ?_)
| refine zb (by decide) ?_
| (with_reducible refine AWP.cond rfl ?_ ?_ <;> intro hc <;> (try simp only [hcs, beq_iff_eq, ge_iff_le, gt_iff_lt] at hc))
| ((first | ((first | (with_reducible first | refine zR ?_ | refine zQ (by decide +kernel) ?_ | refine zD (by decide +kernel) ?_ | refine zE (by decide +kernel) ?_ | refine zG (by decide +kernel) ?_)); intro K hK) | ((first | refine zA (ref_zgood_c t.zxid hz) ?_ ?_ ?_ ?_ ?_); (focus exact rfl); (focus exact rfl); iterate 2 (focus ((try simp (disch := omega) only [go_sem, wn]) <;> (try omega) <;> fail))) | ((first | refine zN (ref_zgood_c t.zxid hz) rfl ?_ ?_); (focus ((try simp (disch := omega) only [go_sem, wn]) <;> (try omega) <;> fail))) | (first | ((first | refine zX (ref_zgood_c t.zxid hz) rfl ?_ ?_ | refine zy (ref_zgood_c t.zxid hz) ?_ ?_); (focus ((try simp (disch := omega) only [go_sem, wn]) <;> (try omega) <;> fail)))) | ((first | (with_reducible refine zu ?_ ?_ <;> intro hg) | with_reducible intro hg) <;> (first | (exfalso; simp at hg; done) | (have hg' := hg; (try simp only [hcs, beq_iff_eq, ge_iff_le, gt_iff_lt] at hg'); (try simp only [hg]))))) <;> (try simp (disch := omega) only [go_sem, wn]) <;> (repeat' with_reducible refine And.intro ?_ ?_) <;> (try (with_reducible refine hK _ ?_; clear hK K)))
| omega)
  · (refine zF rfl ?_ ?_ ?_ ?_; (iterate 3 (focus ((try simp (disch := omega) only [go_sem, wn]) <;> (try omega) <;> fail))); (try simp (disch := omega) only [go_sem, wn, I, B, S, inj, List.cons.injEq, and_true, true_and, and_self]))
    refine head_no fun ⟨a1, a2, a3, a4, a5⟩ => ?_
    rcases hc with (((h | h) | h) | h) | h
    · omega
    · omega
    · exact h a3
    · exact h a4
    · exact h a5
  rotate_left
  · simp_all
  · (refine zF rfl ?_ ?_ ?_ ?_; (iterate 3 (focus ((try simp (disch := omega) only [go_sem, wn]) <;> (try omega) <;> fail))); (try simp (disch := omega) only [go_sem, wn, I, B, S, inj, List.cons.injEq, and_true, true_and, and_self]))
    refine head_no fun ⟨a1, a2, a3, a4, a5⟩ => ?_
    rcases hg' with ((h | h) | h) | h
    · omega
    · omega
    · exact h a3
    · exact h a4
  have hhead : headOk t := ⟨by omega, by omega, hc.1.1.2, hc.1.2, hc.2⟩
  have h400 : t.nodes.length ≤ 400 := by omega
  clear hc hg
  refine AWP.loopS (ι := Nat) (fun k => k ≤ t.sessions.length ∧ ∀ j, j < k → sessOk t.sessions j) (fun k => t.sessions.length - k) [1, 48, 49] (fun k => [(50, I k)]) 0 ?_ (by simp (disch := omega) only [go_sem, wn, true_and]) ?_
  · exact ⟨by omega, fun j hj => by omega⟩
  intro k ⟨hk, hk2⟩
  simp only [go_sem]
  (repeat' first
| (with_reducible refine AR.f ?_)
| refine zb (by decide) ?_
| (with_reducible refine AWP.cond rfl ?_ ?_ <;> intro hc <;> (try simp only [hcs, beq_iff_eq, ge_iff_le, gt_iff_lt] at hc))
| ((first | ((first | (with_reducible first | refine zR ?_ | refine zQ (by decide +kernel) ?_ | refine zD (by decide +kernel) ?_ | refine zE (by decide +kernel) ?_ | refine zG (by decide +kernel) ?_)); intro K hK) | ((first | (with_reducible refine zu ?_ ?_ <;> intro hg) | with_reducible intro hg) <;> (first | (exfalso; simp at hg; done) | (have hg' := hg; (try simp only [hcs, beq_iff_eq, ge_iff_le, gt_iff_lt] at hg'); (try simp only [hg]))))) <;> (try simp (disch := omega) only [go_sem, wn, toNat_pr2]) <;> (repeat' with_reducible refine And.intro ?_ ?_) <;> (try (with_reducible refine hK _ ?_; clear hK K)))
| omega)
  · (refine zF rfl ?_ ?_ ?_ ?_; (iterate 3 (focus ((try simp (disch := omega) only [go_sem, wn]) <;> (try omega) <;> fail))); (try simp (disch := omega) only [go_sem, wn, I, B, S, inj, List.cons.injEq, and_true, true_and, and_self]))
    refine sess_no (k := k) (by omega) fun ⟨a1, a2, a3⟩ => ?_
    rcases hc with (h | h) | h
    · omega
    · omega
    · exact absurd (a3 (by omega)) (by omega)
  · refine ⟨k + 1, ⟨by omega, fun j hj => ?_⟩, by omega, ?_⟩
    · by_cases e : j = k
      · subst e; exact ⟨hc.1.1, by omega, fun h0 => hc.2.resolve_left (by omega)⟩
      · exact hk2 j (by omega)
    (refine SImp.same ?_; simp (disch := omega) only [go_sem, wn, Int.natCast_add])
  have hss : ∀ j, j < t.sessions.length → sessOk t.sessions j := fun j hj => hk2 j (by omega)
  clear hk2 hk hc
  refine AWP.loopB (ι := Nat) (fun k => k ≤ t.nodes.length ∧ ∀ j, j < k → nodeA t j) (fun k => t.nodes.length - k) [1, 5, 81, 82] (fun k => [(83, I k)]) (fun k => [.cells [.d (.int .i64 t.zxid), .d (.sl 9 (t.nodes.map ANode.row)), .d (.sl 1 (t.sessions.map irow))], .rows 1 ((dirsR t k).map srow)]) 0 ?_ ?_ ?_
  · exact ⟨by omega, fun j hj => by omega⟩
  · simp only [go_sem, ← dirs_zero]; (refine SImp.same ?_; simp (disch := omega) only [go_sem, wn, Int.natCast_add])
  intro i ⟨hi, hi2⟩
  have hpi := path_small hp i
  have hdl := dirs_len t i
  simp only [go_sem]
  (repeat' first
| (with_reducible refine AR.f ?_)
| refine zb (by decide) ?_
| (with_reducible refine AWP.cond rfl ?_ ?_ <;> intro hc <;> (try simp only [hcs, beq_iff_eq, ge_iff_le, gt_iff_lt] at hc))
| ((first | ((first | (with_reducible first | refine zR ?_ | refine zQ (by decide +kernel) ?_ | refine zD (by decide +kernel) ?_ | refine zE (by decide +kernel) ?_ | refine zG (by decide +kernel) ?_)); intro K hK) | ((first | refine acallH_sc (ref_good_c _ hpi) rfl rfl ?_ ?_ ?_ | refine acallQ_sc (ref_good_c _ hpi) rfl rfl ?_ ?_ ?_ | refine acallH_sc (ref_split_c _ hpi) rfl rfl ?_ ?_ ?_ | refine acallQ_sc (ref_split_c _ hpi) rfl rfl ?_ ?_ ?_); iterate 2 (focus ((try simp (disch := omega) only [go_sem, wn, toNat_pr2, strLt_eq, List.append_eq, srow_rset, srow_rgetD]) <;> (try omega) <;> fail))) | ((first | refine zN (ref_good_c _ hpi) rfl ?_ ?_ | refine zN (ref_split_c _ hpi) rfl ?_ ?_); (focus ((try simp (disch := omega) only [go_sem, wn, toNat_pr2, strLt_eq, List.append_eq, srow_rset, srow_rgetD]) <;> (try omega) <;> fail))) | (first | ((first | refine zX (ref_good_c _ hpi) rfl ?_ ?_ | refine zy (ref_good_c _ hpi) ?_ ?_); (focus ((try simp (disch := omega) only [go_sem, wn, toNat_pr2, strLt_eq, List.append_eq, srow_rset, srow_rgetD]) <;> (try omega) <;> fail))) | ((first | refine zX (ref_split_c _ hpi) rfl ?_ ?_ | refine zy (ref_split_c _ hpi) ?_ ?_); (focus ((try simp (disch := omega) only [go_sem, wn, toNat_pr2, strLt_eq, List.append_eq, srow_rset, srow_rgetD]) <;> (try omega) <;> fail)))) | ((first | (with_reducible refine zu ?_ ?_ <;> intro hg) | with_reducible intro hg) <;> (first | (exfalso; simp at hg; done) | (have hg' := hg; (try simp only [hcs, beq_iff_eq, ge_iff_le, gt_iff_lt] at hg'); (try simp only [hg]))))) <;> (try simp (disch := omega) only [go_sem, wn, toNat_pr2, strLt_eq, List.append_eq, srow_rset, srow_rgetD]) <;> (repeat' with_reducible refine And.intro ?_ ?_) <;> (try (with_reducible refine hK _ ?_; clear hK K)))
| omega)
  · (refine zF rfl ?_ ?_ ?_ ?_; (iterate 3 (focus ((try simp (disch := omega) only [go_sem, wn]) <;> (try omega) <;> fail))); (try simp (disch := omega) only [go_sem, wn, I, B, S, inj, List.cons.injEq, and_true, true_and, and_self]))
    refine nodeA_no (k := i) (by assumption) fun ⟨a1, a2, a3⟩ => ?_
    unfold nd at a1 a2 a3
    rcases hc with (h | h) | ⟨h0, h⟩
    · rw [a1] at h; cases h
    · omega
    · have h1 := a3 (by omega)
      rcases h with h | h
      · exact List.lt_irrefl _ (List.lt_trans h1 h)
      · rw [h] at h1; exact List.lt_irrefl _ h1
  · refine ⟨i + 1, ⟨by omega, fun j hj => ?_⟩, by omega, ?_⟩
    · by_cases e : j = i
      · subst e; exact ⟨hc.1.1, by unfold nd; omega, fun h0 => (hc.2.resolve_left (by omega)) |> fun h => lt_of_not h.1 h.2⟩
      · exact hi2 j (by omega)
    rw [← dirs_set t i]
    (refine SImp.frame [0, 1] rfl (by intro k hk; first | (simp at hk <;> (simp; omega)) | (simp only [List.mem_cons, List.not_mem_nil, or_false] at hk; simp only [List.length_cons, List.length_nil]; omega)) (by decide) (fun k hk => by first | omega | (rcases k with _ | _ | _ | _ | _ | _ | _ | _ | k <;> first | rfl | omega)) ?_ ?_ <;> simp (disch := omega) only [go_sem, wn, Int.natCast_add, true_and] <;> (try rfl))
  obtain rfl : i = t.nodes.length := by omega
  clear hc
  have hT : ∀ j, j < t.nodes.length → nodeA t j := hi2
  clear hi2 hpi hdl
  refine AWP.loopB (ι := Nat) (fun k => k ≤ t.nodes.length ∧ ∀ j, j < k → statB t (nd t j).stat ∧ ownB t (nd t j).stat ∧ upB t j ∧ (nd t j).stat.kids = kidsN t (nd t j).path t.nodes.length) (fun k => t.nodes.length - k) [1, 5, 126, 127] (fun k => [(128, I k)]) (fun k => [.cells [.d (.int .i64 t.zxid), .d (.sl 9 (t.nodes.map ANode.row)), .d (.sl 1 (t.sessions.map irow))], .rows 1 ((dirsR t t.nodes.length).map srow)]) 0 ?_ ?_ ?_
  · exact ⟨by omega, fun j hj => by omega⟩
  · simp only [go_sem]; (refine SImp.same ?_; simp (disch := omega) only [go_sem, wn, Int.natCast_add])
  intro j ⟨hj, hj2⟩
  simp only [go_sem]
  (repeat' first
| (with_reducible refine AR.f ?_)
| refine zb (by decide) ?_
| (with_reducible refine AWP.cond rfl ?_ ?_ <;> intro hc <;> (try simp only [hcs, beq_iff_eq, ge_iff_le, gt_iff_lt] at hc))
| ((first | ((first | (with_reducible first | refine zR ?_ | refine zQ (by decide +kernel) ?_ | refine zD (by decide +kernel) ?_ | refine zE (by decide +kernel) ?_ | refine zG (by decide +kernel) ?_)); intro K hK) | ((first | (with_reducible refine zu ?_ ?_ <;> intro hg) | with_reducible intro hg) <;> (first | (exfalso; simp at hg; done) | (have hg' := hg; (try simp only [hcs, beq_iff_eq, ge_iff_le, gt_iff_lt] at hg'); (try simp only [hg]))))) <;> (try simp (disch := omega) only [go_sem, wn]) <;> (repeat' with_reducible refine And.intro ?_ ?_) <;> (try (with_reducible refine hK _ ?_; clear hK K)))
| omega)
  rotate_left
  · (refine zF rfl ?_ ?_ ?_ ?_; (iterate 3 (focus ((try simp (disch := omega) only [go_sem, wn]) <;> (try omega) <;> fail))); (try simp (disch := omega) only [go_sem, wn, I, B, S, inj, List.cons.injEq, and_true, true_and, and_self]))
    exact (goodTr_iff.2 ⟨hhead, hss, hT, fun q hq => hj2 q (by omega)⟩).symm
  refine AWP.loopB (ι := Nat) (fun k => k ≤ t.nodes.length) (fun k => t.nodes.length - k) [1, 5, 8, 9, 126, 127, 128, 137] (fun k => [(138, I k), (10, I (kidsN t (nd t j).path k)), (11, B (upN t j k))]) (fun k => [.cells [.d (.int .i64 t.zxid), .d (.sl 9 (t.nodes.map ANode.row)), .d (.sl 1 (t.sessions.map irow))], .rows 1 ((dirsR t t.nodes.length).map srow), .cells [S (t.nodes.getD j default).path, S (t.nodes.getD j default).data, I (t.nodes.getD j default).stat.czxid, I (t.nodes.getD j default).stat.mzxid, I (t.nodes.getD j default).stat.pzxid, I (t.nodes.getD j default).stat.version, I (t.nodes.getD j default).stat.cversion, I (t.nodes.getD j default).stat.owner, I (t.nodes.getD j default).stat.kids]]) 0 ?_ ?_ ?_
  · omega
  · simp only [go_sem, kidsN_zero, upN_zero]; (refine SImp.same ?_; simp (disch := omega) only [go_sem, wn, Int.natCast_add, Int.natCast_eq_zero])
  intro k hk
  have hkn := kidsN_le t (nd t j).path k
  have hdl := dirs_len t t.nodes.length
  simp only [go_sem]
  (repeat' first
| (with_reducible refine AR.f ?_)
| refine zb (by decide) ?_
| (with_reducible refine AWP.cond rfl ?_ ?_ <;> intro hc <;> (try simp only [hcs, beq_iff_eq, ge_iff_le, gt_iff_lt] at hc))
| ((first | ((first | (with_reducible first | refine zR ?_ | refine zQ (by decide +kernel) ?_ | refine zD (by decide +kernel) ?_ | refine zE (by decide +kernel) ?_ | refine zG (by decide +kernel) ?_)); intro K hK) | ((first | refine acallH_sc (isOpen_c t _ hs) rfl rfl ?_ ?_ ?_ | refine acallQ_sc (isOpen_c t _ hs) rfl rfl ?_ ?_ ?_); iterate 2 (focus ((try simp (disch := omega) only [go_sem, wn, List.append_eq, srow_rgetD, dirs_get]) <;> (try omega) <;> fail))) | ((first | refine zN (isOpen_c t _ hs) rfl ?_ ?_); (focus ((try simp (disch := omega) only [go_sem, wn, List.append_eq, srow_rgetD, dirs_get]) <;> (try omega) <;> fail))) | (first | ((first | refine zX (isOpen_c t _ hs) rfl ?_ ?_ | refine zy (isOpen_c t _ hs) ?_ ?_); (focus ((try simp (disch := omega) only [go_sem, wn, List.append_eq, srow_rgetD, dirs_get]) <;> (try omega) <;> fail)))) | ((first | (with_reducible refine zu ?_ ?_ <;> intro hg) | with_reducible intro hg) <;> (first | (exfalso; simp at hg; done) | (have hg' := hg; (try simp only [hcs, beq_iff_eq, ge_iff_le, gt_iff_lt] at hg'); (try simp only [hg]))))) <;> (try simp (disch := omega) only [go_sem, wn, List.append_eq, srow_rgetD, dirs_get]) <;> (repeat' with_reducible refine And.intro ?_ ?_) <;> (try (with_reducible refine hK _ ?_; clear hK K)))
| omega)
  · refine ⟨k + 1, by omega, by omega, ?_⟩
    rw [kidsN_succ, if_pos (show dirT t k = (nd t j).path from hc), upN_succ]
    (refine SImp.same ?_; simp (disch := omega) only [go_sem, wn, Int.natCast_add, nd, B, I, Int.add_zero, Int.cast_ofNat_Int])
    congr
  · refine ⟨k + 1, by omega, by omega, ?_⟩
    rw [kidsN_succ, if_neg (show ¬ dirT t k = (nd t j).path from hc), upN_succ]
    (refine SImp.same ?_; simp (disch := omega) only [go_sem, wn, Int.natCast_add, nd, B, I, Int.add_zero, Int.cast_ofNat_Int])
    congr
  · (refine zF rfl ?_ ?_ ?_ ?_; (iterate 3 (focus ((try simp (disch := omega) only [go_sem, wn]) <;> (try omega) <;> fail))); (try simp (disch := omega) only [go_sem, wn, I, B, S, inj, List.cons.injEq, and_true, true_and, and_self]))
    obtain rfl : k = t.nodes.length := by omega
    refine nodeB_no (k := j) (by assumption) fun ⟨⟨b1, b2, b3, b4, b5, b6, b7, b8, b9⟩, _, hu, hkd⟩ => ?_
    rw [← upN_iff] at hu
    have hkd' : (t.nodes.getD j default).stat.kids = (kidsN t (nd t j).path t.nodes.length : Nat) := hkd
    unfold nd at b1 b2 b3 b4 b5 b6 b7 b8 b9
    rcases hc with (((((((((h | h) | h) | h) | h) | h) | h) | h) | h) | h) | h
    · rw [hu] at h; cases h
    · exact h hkd'
    all_goals omega
  · (refine zF rfl ?_ ?_ ?_ ?_; (iterate 3 (focus ((try simp (disch := omega) only [go_sem, wn]) <;> (try omega) <;> fail))); (try simp (disch := omega) only [go_sem, wn, I, B, S, inj, List.cons.injEq, and_true, true_and, and_self]))
    obtain rfl : k = t.nodes.length := by omega
    refine nodeB_no (k := j) (by assumption) fun ⟨_, ho, _, hkd⟩ => ?_
    obtain ⟨o1, o2⟩ := ho hg'
    rcases hc with h | h
    · exact h o1
    · omega
  · obtain rfl : k = t.nodes.length := by omega
    refine ⟨j + 1, ⟨by omega, fun q hq => ?_⟩, by omega, ?_⟩
    · by_cases e : q = j
      · subst e; exact condQ_ok (by assumption) (fun _ => ⟨hc.1, by omega⟩)
      · exact hj2 q (by omega)
    (refine SImp.frame [0, 1] rfl (by intro k hk; first | (simp at hk <;> (simp; omega)) | (simp only [List.mem_cons, List.not_mem_nil, or_false] at hk; simp only [List.length_cons, List.length_nil]; omega)) (by decide) (fun k hk => by first | omega | (rcases k with _ | _ | _ | _ | _ | _ | _ | _ | k <;> first | rfl | omega)) ?_ ?_ <;> simp (disch := omega) only [go_sem, wn, Int.natCast_add, true_and] <;> (try rfl))
  · obtain rfl : k = t.nodes.length := by omega
    refine ⟨j + 1, ⟨by omega, fun q hq => ?_⟩, by omega, ?_⟩
    · by_cases e : q = j
      · subst e; exact condQ_ok (by assumption) (fun h => absurd hg' h)
      · exact hj2 q (by omega)
    (refine SImp.frame [0, 1] rfl (by intro k hk; first | (simp at hk <;> (simp; omega)) | (simp only [List.mem_cons, List.not_mem_nil, or_false] at hk; simp only [List.length_cons, List.length_nil]; omega)) (by decide) (fun k hk => by first | omega | (rcases k with _ | _ | _ | _ | _ | _ | _ | _ | k <;> first | rfl | omega)) ?_ ?_ <;> simp (disch := omega) only [go_sem, wn, Int.natCast_add, true_and] <;> (try rfl))
end Go.Proofs.YtmpfhalheaeibaaGreatDoor
namespace Go.Proofs.YtmpfhalheaeibaaGreatDoor
set_option linter.unusedVariables false
set_option linter.unusedSimpArgs false
open Go Go.RowKit
set_option maxRecDepth 100000
set_option linter.unusedSimpArgs false
theorem copyT_c (t : ATree) (hw : t.wf) : acall Tryz.prog [] 14 [t.av] (ret t.av) := by
  obtain ⟨hz, ⟨hn, hnw⟩, ⟨hs, hsw⟩⟩ := hw
  refine zi tabOk Tryz.func14 rfl (by kernel_rfl) (by simp [Tryz.ntmps14]) ?_; simp only [Tryz.ntmps14, Tryz.results14, List.toList_toArray, apar, List.length_nil, List.length_cons, Nat.reduceAdd]
  (repeat' first
| (with_reducible refine AR.f ?_)
| refine zb (by decide) ?_
| (with_reducible refine AWP.cond rfl ?_ ?_ <;> intro hc <;> (try simp only [hcs, beq_iff_eq, ge_iff_le, gt_iff_lt] at hc))
| ((first | ((first | (with_reducible first | refine zR ?_ | refine zQ (by decide +kernel) ?_ | refine zD (by decide +kernel) ?_ | refine zE (by decide +kernel) ?_ | refine zG (by decide +kernel) ?_)); intro K hK) | ((first | (with_reducible refine zu ?_ ?_ <;> intro hg) | with_reducible intro hg) <;> (first | (exfalso; simp at hg; done) | (have hg' := hg; (try simp only [hcs, beq_iff_eq, ge_iff_le, gt_iff_lt] at hg'); (try simp only [hg]))))) <;> (try simp (disch := omega) only [go_sem, wn]) <;> (repeat' with_reducible refine And.intro ?_ ?_) <;> (try (with_reducible refine hK _ ?_; clear hK K)))
| omega)
  all_goals (refine zF rfl ?_ ?_ ?_ ?_; (iterate 3 (focus ((try simp (disch := omega) only [go_sem, wn]) <;> (try omega) <;> fail))); (try simp (disch := omega) only [go_sem, wn, I, B, S, inj, List.cons.injEq, and_true, true_and, and_self]))
theorem sameTree_c (a b : ATree) (ha : a.wf) (hb : b.wf) : acall Tryz.prog [] 20 [a.av, b.av] (ret (B (decide (a = b)))) := by
  obtain ⟨hz, ⟨hn, hnw⟩, ⟨hs, hsw⟩⟩ := ha
  obtain ⟨kz, ⟨kn, knw⟩, ⟨ks, ksw⟩⟩ := hb
  refine zi tabOk Tryz.func20 rfl (by kernel_rfl) (by simp [Tryz.ntmps20]) ?_; simp only [Tryz.ntmps20, Tryz.results20, List.toList_toArray, apar, List.length_nil, List.length_cons, Nat.reduceAdd]
  (repeat' first
| (with_reducible refine AR.f ?_)
| refine zb (by decide) ?_
| (with_reducible refine AWP.cond rfl ?_ ?_ <;> intro hc <;> (try simp only [hcs, beq_iff_eq, ge_iff_le, gt_iff_lt] at hc))
| ((first | ((first | (with_reducible first | refine zR ?_ | refine zQ (by decide +kernel) ?_ | refine zD (by decide +kernel) ?_ | refine zE (by decide +kernel) ?_ | refine zG (by decide +kernel) ?_)); intro K hK) | ((first | (with_reducible refine zu ?_ ?_ <;> intro hg) | with_reducible intro hg) <;> (first | (exfalso; simp at hg; done) | (have hg' := hg; (try simp only [hcs, beq_iff_eq, ge_iff_le, gt_iff_lt] at hg'); (try simp only [hg]))))) <;> (try simp (disch := omega) only [go_sem, wn]) <;> (repeat' with_reducible refine And.intro ?_ ?_) <;> (try (with_reducible refine hK _ ?_; clear hK K)))
| omega)
  · (refine zF rfl ?_ ?_ ?_ ?_; (iterate 3 (focus ((try simp (disch := omega) only [go_sem, wn]) <;> (try omega) <;> fail))); (try simp (disch := omega) only [go_sem, wn, I, B, S, inj, List.cons.injEq, and_true, true_and, and_self]))
    symm; rw [decide_eq_false_iff_not]; rintro rfl
    simp at hc
  obtain ⟨⟨e1, e2⟩, e3⟩ := hc
  refine AWP.loopS (ι := Nat) (fun k => k ≤ a.nodes.length ∧ ∀ j, j < k → a.nodes.getD j default = b.nodes.getD j default) (fun k => a.nodes.length - k) [2, 3, 32] (fun k => [(33, I k)]) 0 ?_ (by simp (disch := omega) only [go_sem, wn, true_and]) ?_
  · exact ⟨by omega, fun j hj => by omega⟩
  intro k ⟨hk, hk2⟩
  simp only [go_sem]
  (repeat' first
| (with_reducible refine AR.f ?_)
| refine zb (by decide) ?_
| (with_reducible refine AWP.cond rfl ?_ ?_ <;> intro hc <;> (try simp only [hcs, beq_iff_eq, ge_iff_le, gt_iff_lt] at hc))
| ((first | ((first | (with_reducible first | refine zR ?_ | refine zQ (by decide +kernel) ?_ | refine zD (by decide +kernel) ?_ | refine zE (by decide +kernel) ?_ | refine zG (by decide +kernel) ?_)); intro K hK) | ((first | (with_reducible refine zu ?_ ?_ <;> intro hg) | with_reducible intro hg) <;> (first | (exfalso; simp at hg; done) | (have hg' := hg; (try simp only [hcs, beq_iff_eq, ge_iff_le, gt_iff_lt] at hg'); (try simp only [hg]))))) <;> (try simp (disch := omega) only [go_sem, wn]) <;> (repeat' with_reducible refine And.intro ?_ ?_) <;> (try (with_reducible refine hK _ ?_; clear hK K)))
| omega)
  · (refine zF rfl ?_ ?_ ?_ ?_; (iterate 3 (focus ((try simp (disch := omega) only [go_sem, wn]) <;> (try omega) <;> fail))); (try simp (disch := omega) only [go_sem, wn, I, B, S, inj, List.cons.injEq, and_true, true_and, and_self]))
    symm; rw [decide_eq_false_iff_not]; rintro rfl
    simp at hc
  · refine ⟨k + 1, ⟨by omega, fun j hj => ?_⟩, by omega, ?_⟩
    · by_cases e : j = k
      · subst e; exact (ANode.ext_iff _ _).2 hc
      · exact hk2 j (by omega)
    (refine SImp.same ?_; simp (disch := omega) only [go_sem, wn, Int.natCast_add])
  have hnodes : a.nodes = b.nodes := eq_of_getD (by omega) fun j hj => hk2 j (by omega)
  clear hk hk2 hc
  refine AWP.loopS (ι := Nat) (fun j => j ≤ a.sessions.length ∧ ∀ i, i < j → a.sessions.getD i default = b.sessions.getD i default) (fun j => a.sessions.length - j) [2, 3, 50] (fun j => [(51, I j)]) 0 ?_ (by simp (disch := omega) only [go_sem, wn, true_and]) ?_
  · exact ⟨by omega, fun j hj => by omega⟩
  intro j ⟨hj, hj2⟩
  simp only [go_sem]
  (repeat' first
| (with_reducible refine AR.f ?_)
| refine zb (by decide) ?_
| (with_reducible refine AWP.cond rfl ?_ ?_ <;> intro hc <;> (try simp only [hcs, beq_iff_eq, ge_iff_le, gt_iff_lt] at hc))
| ((first | ((first | (with_reducible first | refine zR ?_ | refine zQ (by decide +kernel) ?_ | refine zD (by decide +kernel) ?_ | refine zE (by decide +kernel) ?_ | refine zG (by decide +kernel) ?_)); intro K hK) | ((first | (with_reducible refine zu ?_ ?_ <;> intro hg) | with_reducible intro hg) <;> (first | (exfalso; simp at hg; done) | (have hg' := hg; (try simp only [hcs, beq_iff_eq, ge_iff_le, gt_iff_lt] at hg'); (try simp only [hg]))))) <;> (try simp (disch := omega) only [go_sem, wn]) <;> (repeat' with_reducible refine And.intro ?_ ?_) <;> (try (with_reducible refine hK _ ?_; clear hK K)))
| omega)
  · (refine zF rfl ?_ ?_ ?_ ?_; (iterate 3 (focus ((try simp (disch := omega) only [go_sem, wn]) <;> (try omega) <;> fail))); (try simp (disch := omega) only [go_sem, wn, I, B, S, inj, List.cons.injEq, and_true, true_and, and_self]))
    symm; rw [decide_eq_false_iff_not]; rintro rfl
    simp at hc
  · refine ⟨j + 1, ⟨by omega, fun i hi => ?_⟩, by omega, ?_⟩
    · by_cases e : i = j
      · subst e; exact hc
      · exact hj2 i (by omega)
    (refine SImp.same ?_; simp (disch := omega) only [go_sem, wn, Int.natCast_add])
  · (refine zF rfl ?_ ?_ ?_ ?_; (iterate 3 (focus ((try simp (disch := omega) only [go_sem, wn]) <;> (try omega) <;> fail))); (try simp (disch := omega) only [go_sem, wn, I, B, S, inj, List.cons.injEq, and_true, true_and, and_self]))
    symm; rw [decide_eq_true_eq, ATree.ext_iff]
    exact ⟨e1, hnodes, eq_of_getD (by omega) fun i hi => hj2 i (by omega)⟩
end Go.Proofs.YtmpfhalheaeibaaGreatDoor
namespace Go.Proofs.YtmpfhalheaeibaaGreatDoor
set_option linter.unusedVariables false
set_option linter.unusedSimpArgs false
open Go Go.RowKit
set_option maxRecDepth 100000
set_option linter.unusedSimpArgs false
theorem copyServer_c (s : AServer) (hw : s.wf) : acall Tryz.prog [] 5 [s.av] (ret s.av) := by
  obtain ⟨_, h1, h2, h3, h4⟩ := hw
  have hl1 := h2.2.2.1.1
  have hl2 := h4.1
  refine zi tabOk Tryz.func5 rfl (by kernel_rfl) (by simp [Tryz.ntmps5]) ?_; simp only [Tryz.ntmps5, Tryz.results5, List.toList_toArray, apar, List.length_nil, List.length_cons, Nat.reduceAdd]
  (repeat' first
| (with_reducible refine AR.f ?_)
| refine zb (by decide) ?_
| (with_reducible refine AWP.cond rfl ?_ ?_ <;> intro hc <;> (try simp only [hcs, beq_iff_eq, ge_iff_le, gt_iff_lt] at hc))
| ((first | ((first | (with_reducible first | refine zR ?_ | refine zQ (by decide +kernel) ?_ | refine zD (by decide +kernel) ?_ | refine zE (by decide +kernel) ?_ | refine zG (by decide +kernel) ?_)); intro K hK) | ((first | refine zA (ref_copied_d_c s.disk h1.1) ?_ ?_ ?_ ?_ ?_ | refine zA (copyT_c s.tree h3) ?_ ?_ ?_ ?_ ?_); (focus exact rfl); (focus exact rfl); iterate 2 (focus ((try simp (disch := omega) only [go_sem, wn]) <;> (try omega) <;> fail))) | ((first | refine zN (ref_copied_d_c s.disk h1.1) rfl ?_ ?_ | refine zN (copyT_c s.tree h3) rfl ?_ ?_); (focus ((try simp (disch := omega) only [go_sem, wn]) <;> (try omega) <;> fail))) | (first | ((first | refine zX (ref_copied_d_c s.disk h1.1) rfl ?_ ?_ | refine zy (ref_copied_d_c s.disk h1.1) ?_ ?_); (focus ((try simp (disch := omega) only [go_sem, wn]) <;> (try omega) <;> fail))) | ((first | refine zX (copyT_c s.tree h3) rfl ?_ ?_ | refine zy (copyT_c s.tree h3) ?_ ?_); (focus ((try simp (disch := omega) only [go_sem, wn]) <;> (try omega) <;> fail)))) | ((first | (with_reducible refine zu ?_ ?_ <;> intro hg) | with_reducible intro hg) <;> (first | (exfalso; simp at hg; done) | (have hg' := hg; (try simp only [hcs, beq_iff_eq, ge_iff_le, gt_iff_lt] at hg'); (try simp only [hg]))))) <;> (try simp (disch := omega) only [go_sem, wn]) <;> (repeat' with_reducible refine And.intro ?_ ?_) <;> (try (with_reducible refine hK _ ?_; clear hK K)))
| omega)
  all_goals (refine zF rfl ?_ ?_ ?_ ?_; (iterate 3 (focus ((try simp (disch := omega) only [go_sem, wn]) <;> (try omega) <;> fail))); (try simp (disch := omega) only [go_sem, wn, I, B, S, inj, List.cons.injEq, and_true, true_and, and_self]))
theorem boots_c : acall Tryz.prog [] 9 [] (ret (B true)) := by
  have hr := recover_c ⟨[]⟩ (by decide) (fun f hf => by cases hf)
  have hd := read_c ⟨[]⟩ [101, 112, 111, 99, 104] (by decide) (fun f hf => by cases hf)
  have e1 : recoverD [] = ([], ⟨[⟨[108, 111, 103], [], []⟩]⟩, 0) := by decide +kernel
  have e2 : readD [] [101, 112, 111, 99, 104] = ([], 7) := by decide +kernel
  simp only [e1] at hr
  simp only [e2] at hd
  refine zi tabOk Tryz.func9 rfl (by kernel_rfl) (by simp [Tryz.ntmps9]) ?_; simp only [Tryz.ntmps9, Tryz.results9, List.toList_toArray, apar, List.length_nil, List.length_cons, Nat.reduceAdd]
  (repeat' first
| (with_reducible refine AR.f ?_)
| refine zb (by decide) ?_
| (with_reducible refine AWP.cond rfl ?_ ?_ <;> intro hc <;> (try simp only [hcs, beq_iff_eq, ge_iff_le, gt_iff_lt] at hc))
| (refine zh fun Kk hKk => (zi tabOk Tryz.func22 rfl (by kernel_rfl) (by simp [Tryz.ntmps22]) ?_); simp only [Tryz.ntmps22, Tryz.results22, List.toList_toArray, apar, List.length_nil, List.length_cons, Nat.reduceAdd, List.length_append, List.length_set, go_sem])
| (refine zh fun Kk hKk => (zi tabOk Tryz.func47 rfl (by kernel_rfl) (by simp [Tryz.ntmps47]) ?_); simp only [Tryz.ntmps47, Tryz.results47, List.toList_toArray, apar, List.length_nil, List.length_cons, Nat.reduceAdd, List.length_append, List.length_set, go_sem])
| ((first | ((first | refine zP ((Plan.takes [1, 2, 3, 4] (.fork 0 (Plan.takes [5, 6, 7, 8] .done) 5 (Plan.takes [0, 6, 7, 8] .done)))) (by decide +kernel) ?_ | (with_reducible first | refine zR ?_ | refine zQ (by decide +kernel) ?_ | refine zD (by decide +kernel) ?_ | refine zE (by decide +kernel) ?_ | refine zG (by decide +kernel) ?_)); intro K hK) | ((first | refine zA hr ?_ ?_ ?_ ?_ ?_ | refine zA hd ?_ ?_ ?_ ?_ ?_ | refine zA new_c ?_ ?_ ?_ ?_ ?_); (focus exact rfl); (focus exact rfl); iterate 2 (focus ((try simp (disch := omega) only [go_sem, wn]) <;> (try omega) <;> fail))) | ((first | refine zN hr rfl ?_ ?_ | refine zN hd rfl ?_ ?_ | refine zN new_c rfl ?_ ?_); (focus ((try simp (disch := omega) only [go_sem, wn]) <;> (try omega) <;> fail))) | (first | ((first | refine zX hr rfl ?_ ?_ | refine zy hr ?_ ?_); (focus ((try simp (disch := omega) only [go_sem, wn]) <;> (try omega) <;> fail))) | ((first | refine zX hd rfl ?_ ?_ | refine zy hd ?_ ?_); (focus ((try simp (disch := omega) only [go_sem, wn]) <;> (try omega) <;> fail))) | ((first | refine zX new_c rfl ?_ ?_ | refine zy new_c ?_ ?_); (focus ((try simp (disch := omega) only [go_sem, wn]) <;> (try omega) <;> fail)))) | (refine zw (v := ?_) hKk (by first | exact .inl rfl | exact .inr rfl) ?_ ?_ ?_; rotate_left; (focus ((try simp (disch := omega) only [go_sem, wn]) <;> (try omega) <;> fail)); (focus ((try simp (disch := omega) only [go_sem, wn]) <;> (first | done | exact rfl))); clear hKk Kk) | ((first | (with_reducible refine zu ?_ ?_ <;> intro hg) | with_reducible intro hg) <;> (first | (exfalso; simp at hg; done) | (have hg' := hg; (try simp only [hcs, beq_iff_eq, ge_iff_le, gt_iff_lt] at hg'); (try simp only [hg]))))) <;> (try simp (disch := omega) only [go_sem, wn]) <;> (repeat' with_reducible refine And.intro ?_ ?_) <;> (try (with_reducible refine hK _ ?_; clear hK K)))
| omega)
  all_goals (refine zF rfl ?_ ?_ ?_ ?_; (iterate 3 (focus ((try simp (disch := omega) only [go_sem, wn]) <;> (try omega) <;> fail))); (try simp (disch := omega) only [go_sem, wn, I, B, S, inj, List.cons.injEq, and_true, true_and, and_self]))
end Go.Proofs.YtmpfhalheaeibaaGreatDoor
namespace Go.Proofs.YtmpfhalheaeibaaGreatDoor
set_option linter.unusedVariables false
set_option linter.unusedSimpArgs false
open Go Go.RowKit
set_option maxRecDepth 100000
def dropW (l : List AWatch) (s : Int) : List AWatch := l.filter fun w => decide (w.session ≠ s)
theorem dropW_snoc (l : List AWatch) (s : Int) (k : Nat) (h : k < l.length) : dropW (l.take (k + 1)) s = if (l.getD k default).session ≠ s then dropW (l.take k) s ++ [l.getD k default] else dropW (l.take k) s := by
  have : l.take (k + 1) = l.take k ++ [l.getD k default] := take_snoc l k h
  rw [this]; unfold dropW
  rw [List.filter_append]
  split
  · rw [List.filter_cons_of_pos (by simpa using (by assumption : _ ≠ _))]; rfl
  · rw [List.filter_cons_of_neg (by simpa using (by assumption : ¬ _ ≠ _)), List.filter_nil, List.append_nil]
theorem dropW_nil (s : Int) : dropW [] s = [] := rfl
theorem drop_c (l : List AWatch) (s : Int) (h : l.length * 32 ≤ 140737488351232) : acall Tryz.prog [] 12 [.d (.sl 3 (l.map AWatch.row)), I s] (ret (.d (.sl 3 ((dropW l s).map AWatch.row)))) := by
  refine zi tabOk Tryz.func12 rfl (by kernel_rfl) (by simp [Tryz.ntmps12]) ?_; simp only [Tryz.ntmps12, Tryz.results12, List.toList_toArray, apar, List.length_nil, List.length_cons, Nat.reduceAdd]
  (repeat' first
| (with_reducible refine AR.f ?_)
| refine zb (by decide) ?_
| (with_reducible refine AWP.cond rfl ?_ ?_ <;> intro hc <;> (try simp only [hcs, beq_iff_eq, ge_iff_le, gt_iff_lt] at hc))
| ((first | ((first | (with_reducible first | refine zR ?_ | refine zQ (by decide +kernel) ?_ | refine zD (by decide +kernel) ?_ | refine zE (by decide +kernel) ?_ | refine zG (by decide +kernel) ?_)); intro K hK) | ((first | (with_reducible refine zu ?_ ?_ <;> intro hg) | with_reducible intro hg) <;> (first | (exfalso; simp at hg; done) | (have hg' := hg; (try simp only [hcs, beq_iff_eq, ge_iff_le, gt_iff_lt] at hg'); (try simp only [hg]))))) <;> (try simp (disch := omega) only [go_sem, wn]) <;> (repeat' with_reducible refine And.intro ?_ ?_) <;> (try (with_reducible refine hK _ ?_; clear hK K)))
| omega)
  refine AWP.weaken (SImp.nilOwn 5 3 rfl) ?_
  simp only [go_sem]
  refine AWP.loopB (ι := Nat) (fun k => k ≤ l.length) (fun k => l.length - k) [1, 8, 9] (fun k => [(10, I k), (5, .osl 0 3 0 (dropW (l.take k) s).length)]) (fun k => [.rows 3 ((dropW (l.take k) s).map AWatch.row)]) 0 ?_ ?_ ?_
  · omega
  · simp only [go_sem, dropW_nil]; (refine SImp.same ?_; simp (disch := omega) only [go_sem, wn, Int.natCast_add])
  intro k hk
  have hol : (dropW (l.take k) s).length ≤ k := Nat.le_trans (List.length_filter_le _ _) (List.length_take_le _ _)
  simp only [go_sem]
  (repeat' first
| (with_reducible refine AR.f ?_)
| refine zb (by decide) ?_
| (with_reducible refine AWP.cond rfl ?_ ?_ <;> intro hc <;> (try simp only [hcs, beq_iff_eq, ge_iff_le, gt_iff_lt] at hc))
| ((first | ((first | (with_reducible first | refine zR ?_ | refine zQ (by decide +kernel) ?_ | refine zD (by decide +kernel) ?_ | refine zE (by decide +kernel) ?_ | refine zG (by decide +kernel) ?_)); intro K hK) | ((first | (with_reducible refine zu ?_ ?_ <;> intro hg) | with_reducible intro hg) <;> (first | (exfalso; simp at hg; done) | (have hg' := hg; (try simp only [hcs, beq_iff_eq, ge_iff_le, gt_iff_lt] at hg'); (try simp only [hg]))))) <;> (try simp (disch := omega) only [go_sem, wn, AWatch.rgetD, zl, AWatch.rsnoc]) <;> (repeat' with_reducible refine And.intro ?_ ?_) <;> (try (with_reducible refine hK _ ?_; clear hK K)))
| omega)
  · refine ⟨k + 1, by omega, by omega, ?_⟩
    rw [dropW_snoc _ _ _ (by assumption), if_pos hc]
    (refine SImp.frame [3] rfl (by intro k hk; first | (simp at hk <;> (simp; omega)) | (simp only [List.mem_cons, List.not_mem_nil, or_false] at hk; simp only [List.length_cons, List.length_nil]; omega)) (by decide) (fun k hk => by first | omega | (rcases k with _ | _ | _ | _ | _ | _ | _ | _ | k <;> first | rfl | omega)) ?_ ?_ <;> simp (disch := omega) only [go_sem, wn, Int.natCast_add, List.length_append] <;> (try rfl))
  · refine ⟨k + 1, by omega, by omega, ?_⟩
    rw [dropW_snoc _ _ _ (by assumption), if_neg (by simpa using hc)]
    (refine SImp.frame [0] rfl (by intro k hk; first | (simp at hk <;> (simp; omega)) | (simp only [List.mem_cons, List.not_mem_nil, or_false] at hk; simp only [List.length_cons, List.length_nil]; omega)) (by decide) (fun k hk => by first | omega | (rcases k with _ | _ | _ | _ | _ | _ | _ | _ | k <;> first | rfl | omega)) ?_ ?_ <;> simp (disch := omega) only [go_sem, wn, Int.natCast_add, true_and] <;> (try rfl))
  · have e : k = l.length := by omega
    subst e
    simp only [List.take_length]
    (refine zF rfl ?_ ?_ ?_ ?_; (iterate 3 (focus ((try simp (disch := omega) only [go_sem, wn]) <;> (try omega) <;> fail))); (try simp (disch := omega) only [go_sem, wn, I, B, S, inj, List.cons.injEq, and_true, true_and, and_self]))
theorem ref_drop_c (l : List AWatch) (s : Int) (h : l.length * 32 ≤ 140737488351232) : acall Tryz.prog [] 17 [.d (.sl 3 (l.map AWatch.row)), I s] (ret (.d (.sl 3 ((dropW l s).map AWatch.row)))) := by
  refine zi tabOk Tryz.func17 rfl (by kernel_rfl) (by simp [Tryz.ntmps17]) ?_; simp only [Tryz.ntmps17, Tryz.results17, List.toList_toArray, apar, List.length_nil, List.length_cons, Nat.reduceAdd]
  (repeat' first
| (with_reducible refine AR.f ?_)
| refine zb (by decide) ?_
| (with_reducible refine AWP.cond rfl ?_ ?_ <;> intro hc <;> (try simp only [hcs, beq_iff_eq, ge_iff_le, gt_iff_lt] at hc))
| ((first | ((first | (with_reducible first | refine zR ?_ | refine zQ (by decide +kernel) ?_ | refine zD (by decide +kernel) ?_ | refine zE (by decide +kernel) ?_ | refine zG (by decide +kernel) ?_)); intro K hK) | ((first | (with_reducible refine zu ?_ ?_ <;> intro hg) | with_reducible intro hg) <;> (first | (exfalso; simp at hg; done) | (have hg' := hg; (try simp only [hcs, beq_iff_eq, ge_iff_le, gt_iff_lt] at hg'); (try simp only [hg]))))) <;> (try simp (disch := omega) only [go_sem, wn]) <;> (repeat' with_reducible refine And.intro ?_ ?_) <;> (try (with_reducible refine hK _ ?_; clear hK K)))
| omega)
  refine AWP.weaken (SImp.nilOwn 5 3 rfl) ?_
  simp only [go_sem]
  refine AWP.loopB (ι := Nat) (fun k => k ≤ l.length) (fun k => l.length - k) [1, 8, 9] (fun k => [(10, I k), (5, .osl 0 3 0 (dropW (l.take k) s).length)]) (fun k => [.rows 3 ((dropW (l.take k) s).map AWatch.row)]) 0 ?_ ?_ ?_
  · omega
  · simp only [go_sem, dropW_nil]; (refine SImp.same ?_; simp (disch := omega) only [go_sem, wn, Int.natCast_add])
  intro k hk
  have hol : (dropW (l.take k) s).length ≤ k := Nat.le_trans (List.length_filter_le _ _) (List.length_take_le _ _)
  simp only [go_sem]
  (repeat' first
| (with_reducible refine AR.f ?_)
| refine zb (by decide) ?_
| (with_reducible refine AWP.cond rfl ?_ ?_ <;> intro hc <;> (try simp only [hcs, beq_iff_eq, ge_iff_le, gt_iff_lt] at hc))
| ((first | ((first | (with_reducible first | refine zR ?_ | refine zQ (by decide +kernel) ?_ | refine zD (by decide +kernel) ?_ | refine zE (by decide +kernel) ?_ | refine zG (by decide +kernel) ?_)); intro K hK) | ((first | (with_reducible refine zu ?_ ?_ <;> intro hg) | with_reducible intro hg) <;> (first | (exfalso; simp at hg; done) | (have hg' := hg; (try simp only [hcs, beq_iff_eq, ge_iff_le, gt_iff_lt] at hg'); (try simp only [hg]))))) <;> (try simp (disch := omega) only [go_sem, wn, AWatch.rgetD, zl, AWatch.rsnoc]) <;> (repeat' with_reducible refine And.intro ?_ ?_) <;> (try (with_reducible refine hK _ ?_; clear hK K)))
| omega)
  · refine ⟨k + 1, by omega, by omega, ?_⟩
    rw [dropW_snoc _ _ _ (by assumption), if_pos hc]
    (refine SImp.frame [3] rfl (by intro k hk; first | (simp at hk <;> (simp; omega)) | (simp only [List.mem_cons, List.not_mem_nil, or_false] at hk; simp only [List.length_cons, List.length_nil]; omega)) (by decide) (fun k hk => by first | omega | (rcases k with _ | _ | _ | _ | _ | _ | _ | _ | k <;> first | rfl | omega)) ?_ ?_ <;> simp (disch := omega) only [go_sem, wn, Int.natCast_add, List.length_append] <;> (try rfl))
  · refine ⟨k + 1, by omega, by omega, ?_⟩
    rw [dropW_snoc _ _ _ (by assumption), if_neg (by simpa using hc)]
    (refine SImp.frame [0] rfl (by intro k hk; first | (simp at hk <;> (simp; omega)) | (simp only [List.mem_cons, List.not_mem_nil, or_false] at hk; simp only [List.length_cons, List.length_nil]; omega)) (by decide) (fun k hk => by first | omega | (rcases k with _ | _ | _ | _ | _ | _ | _ | _ | k <;> first | rfl | omega)) ?_ ?_ <;> simp (disch := omega) only [go_sem, wn, Int.natCast_add, true_and] <;> (try rfl))
  · have e : k = l.length := by omega
    subst e
    simp only [List.take_length]
    (refine zF rfl ?_ ?_ ?_ ?_; (iterate 3 (focus ((try simp (disch := omega) only [go_sem, wn]) <;> (try omega) <;> fail))); (try simp (disch := omega) only [go_sem, wn, I, B, S, inj, List.cons.injEq, and_true, true_and, and_self]))
theorem same_watches_c (a b : List AWatch) (h : a.length * 32 ≤ 140737488351232) (h2 : b.length * 32 ≤ 140737488351232) : acall Tryz.prog [] 21 [.d (.sl 3 (a.map AWatch.row)), .d (.sl 3 (b.map AWatch.row))] (ret (B (decide (a = b)))) := by
  refine zi tabOk Tryz.func21 rfl (by kernel_rfl) (by simp [Tryz.ntmps21]) ?_; simp only [Tryz.ntmps21, Tryz.results21, List.toList_toArray, apar, List.length_nil, List.length_cons, Nat.reduceAdd]
  (repeat' first
| (with_reducible refine AR.f ?_)
| refine zb (by decide) ?_
| (with_reducible refine AWP.cond rfl ?_ ?_ <;> intro hc <;> (try simp only [hcs, beq_iff_eq, ge_iff_le, gt_iff_lt] at hc))
| ((first | ((first | (with_reducible first | refine zR ?_ | refine zQ (by decide +kernel) ?_ | refine zD (by decide +kernel) ?_ | refine zE (by decide +kernel) ?_ | refine zG (by decide +kernel) ?_)); intro K hK) | ((first | (with_reducible refine zu ?_ ?_ <;> intro hg) | with_reducible intro hg) <;> (first | (exfalso; simp at hg; done) | (have hg' := hg; (try simp only [hcs, beq_iff_eq, ge_iff_le, gt_iff_lt] at hg'); (try simp only [hg]))))) <;> (try simp (disch := omega) only [go_sem, wn]) <;> (repeat' with_reducible refine And.intro ?_ ?_) <;> (try (with_reducible refine hK _ ?_; clear hK K)))
| omega)
  · (refine zF rfl ?_ ?_ ?_ ?_; (iterate 3 (focus ((try simp (disch := omega) only [go_sem, wn]) <;> (try omega) <;> fail))); (try simp (disch := omega) only [go_sem, wn, I, B, S, inj, List.cons.injEq, and_true, true_and, and_self]))
    symm; rw [decide_eq_false_iff_not]; intro e; subst e; simp at hc
  have h3 := hc
  refine AWP.loopS (ι := Nat) (fun k => k ≤ a.length ∧ ∀ j, j < k → a.getD j default = b.getD j default) (fun k => a.length - k) [0, 1, 12] (fun k => [(13, I k)]) 0 ?_ (by simp (disch := omega) only [go_sem, wn, true_and]) ?_
  · exact ⟨by omega, by omega⟩
  intro k ⟨hk, hk2⟩
  simp only [go_sem]
  (repeat' first
| (with_reducible refine AR.f ?_)
| refine zb (by decide) ?_
| (with_reducible refine AWP.cond rfl ?_ ?_ <;> intro hc <;> (try simp only [hcs, beq_iff_eq, ge_iff_le, gt_iff_lt] at hc))
| ((first | ((first | (with_reducible first | refine zR ?_ | refine zQ (by decide +kernel) ?_ | refine zD (by decide +kernel) ?_ | refine zE (by decide +kernel) ?_ | refine zG (by decide +kernel) ?_)); intro K hK) | ((first | (with_reducible refine zu ?_ ?_ <;> intro hg) | with_reducible intro hg) <;> (first | (exfalso; simp at hg; done) | (have hg' := hg; (try simp only [hcs, beq_iff_eq, ge_iff_le, gt_iff_lt] at hg'); (try simp only [hg]))))) <;> (try simp (disch := omega) only [go_sem, wn, AWatch.rgetD]) <;> (repeat' with_reducible refine And.intro ?_ ?_) <;> (try (with_reducible refine hK _ ?_; clear hK K)))
| omega)
  · (refine zF rfl ?_ ?_ ?_ ?_; (iterate 3 (focus ((try simp (disch := omega) only [go_sem, wn]) <;> (try omega) <;> fail))); (try simp (disch := omega) only [go_sem, wn, I, B, S, inj, List.cons.injEq, and_true, true_and, and_self]))
    symm; rw [decide_eq_false_iff_not]; intro e; subst e; simp at hc
  · refine ⟨k + 1, ⟨by omega, fun j hj => ?_⟩, by omega, ?_⟩
    · by_cases e : j = k
      · subst e; exact hc
      · exact hk2 j (by omega)
    (refine SImp.same ?_; simp (disch := omega) only [go_sem, wn, Int.natCast_add])
  · (refine zF rfl ?_ ?_ ?_ ?_; (iterate 3 (focus ((try simp (disch := omega) only [go_sem, wn]) <;> (try omega) <;> fail))); (try simp (disch := omega) only [go_sem, wn, I, B, S, inj, List.cons.injEq, and_true, true_and, and_self]))
    symm; rw [decide_eq_true_eq]
    exact eq_of_getD (by omega) fun j hj => hk2 j (by omega)
end Go.Proofs.YtmpfhalheaeibaaGreatDoor
namespace Go.Proofs.YtmpfhalheaeibaaGreatDoor
set_option linter.unusedVariables false
set_option linter.unusedSimpArgs false
open Go Go.RowKit
set_option maxRecDepth 100000
set_option linter.unusedSimpArgs false
def lenS (s : AServer) : Prop := s.disk.files.length * 48 ≤ 140737488351232 ∧ s.peer.log.length * 72 ≤ 140737488351232 ∧ s.tree.wf ∧ s.watches.length * 32 ≤ 140737488351232
theorem samePeer_c (a b : APeer) (h1 : a.log.length * 72 ≤ 140737488351232) (h2 : b.log.length * 72 ≤ 140737488351232) : acall Tryz.prog [] 19 [a.av, b.av] (ret (B (decide (a = b)))) := by
  have hs := sameLog_c a.log b.log h1 h2
  refine zi tabOk Tryz.func19 rfl (by kernel_rfl) (by simp [Tryz.ntmps19]) ?_; simp only [Tryz.ntmps19, Tryz.results19, List.toList_toArray, apar, List.length_nil, List.length_cons, Nat.reduceAdd]
  (repeat' first
| (with_reducible refine AR.f ?_)
| refine zb (by decide) ?_
| (with_reducible refine AWP.cond rfl ?_ ?_ <;> intro hc <;> (try simp only [hcs, beq_iff_eq, ge_iff_le, gt_iff_lt] at hc))
| ((first | ((first | (with_reducible first | refine zR ?_ | refine zQ (by decide +kernel) ?_ | refine zD (by decide +kernel) ?_ | refine zE (by decide +kernel) ?_ | refine zG (by decide +kernel) ?_)); intro K hK) | ((first | refine zA hs ?_ ?_ ?_ ?_ ?_); (focus exact rfl); (focus exact rfl); iterate 2 (focus ((try simp (disch := omega) only [go_sem, wn]) <;> (try omega) <;> fail))) | ((first | refine zN hs rfl ?_ ?_); (focus ((try simp (disch := omega) only [go_sem, wn]) <;> (try omega) <;> fail))) | (first | ((first | refine zX hs rfl ?_ ?_ | refine zy hs ?_ ?_); (focus ((try simp (disch := omega) only [go_sem, wn]) <;> (try omega) <;> fail)))) | ((first | (with_reducible refine zu ?_ ?_ <;> intro hg) | with_reducible intro hg) <;> (first | (exfalso; simp at hg; done) | (have hg' := hg; (try simp only [hcs, beq_iff_eq, ge_iff_le, gt_iff_lt] at hg'); (try simp only [hg]))))) <;> (try simp (disch := omega) only [go_sem, wn]) <;> (repeat' with_reducible refine And.intro ?_ ?_) <;> (try (with_reducible refine hK _ ?_; clear hK K)))
| omega)
  all_goals (refine zF rfl ?_ ?_ ?_ ?_; (iterate 3 (focus ((try simp (disch := omega) only [go_sem, wn, APeer.ext_iff]) <;> (try omega) <;> fail))); (try simp (disch := omega) only [go_sem, wn, APeer.ext_iff, I, B, S, inj, List.cons.injEq, and_true, true_and, and_self]))
  all_goals (try simp_all)
theorem sameServer_c (a : AServer) (h : lenS a) : acall Tryz.prog [] 7 [a.av, a.av] (ret (B true)) := by
  have hd := (same_disk_c a.disk a.disk h.1 h.1).re (congrArg B (decide_eq_true rfl))
  have hp := (samePeer_c a.peer a.peer h.2.1 h.2.1).re (congrArg B (decide_eq_true rfl))
  have ht := (sameTree_c a.tree a.tree h.2.2.1 h.2.2.1).re (congrArg B (decide_eq_true rfl))
  have hw := (same_watches_c a.watches a.watches h.2.2.2 h.2.2.2).re (congrArg B (decide_eq_true rfl))
  refine zi tabOk Tryz.func7 rfl (by kernel_rfl) (by simp [Tryz.ntmps7]) ?_; simp only [Tryz.ntmps7, Tryz.results7, List.toList_toArray, apar, List.length_nil, List.length_cons, Nat.reduceAdd]
  (repeat' first
| (with_reducible refine AR.f ?_)
| refine zb (by decide) ?_
| (with_reducible refine AWP.cond rfl ?_ ?_ <;> intro hc <;> (try simp only [hcs, beq_iff_eq, ge_iff_le, gt_iff_lt] at hc))
| ((first | ((first | (with_reducible first | refine zR ?_ | refine zQ (by decide +kernel) ?_ | refine zD (by decide +kernel) ?_ | refine zE (by decide +kernel) ?_ | refine zG (by decide +kernel) ?_)); intro K hK) | ((first | refine zA hd ?_ ?_ ?_ ?_ ?_ | refine zA hp ?_ ?_ ?_ ?_ ?_ | refine zA ht ?_ ?_ ?_ ?_ ?_ | refine zA hw ?_ ?_ ?_ ?_ ?_); (focus exact rfl); (focus exact rfl); iterate 2 (focus ((try simp (disch := omega) only [go_sem, wn]) <;> (try omega) <;> fail))) | ((first | refine zN hd rfl ?_ ?_ | refine zN hp rfl ?_ ?_ | refine zN ht rfl ?_ ?_ | refine zN hw rfl ?_ ?_); (focus ((try simp (disch := omega) only [go_sem, wn]) <;> (try omega) <;> fail))) | (first | ((first | refine zX hd rfl ?_ ?_ | refine zy hd ?_ ?_); (focus ((try simp (disch := omega) only [go_sem, wn]) <;> (try omega) <;> fail))) | ((first | refine zX hp rfl ?_ ?_ | refine zy hp ?_ ?_); (focus ((try simp (disch := omega) only [go_sem, wn]) <;> (try omega) <;> fail))) | ((first | refine zX ht rfl ?_ ?_ | refine zy ht ?_ ?_); (focus ((try simp (disch := omega) only [go_sem, wn]) <;> (try omega) <;> fail))) | ((first | refine zX hw rfl ?_ ?_ | refine zy hw ?_ ?_); (focus ((try simp (disch := omega) only [go_sem, wn]) <;> (try omega) <;> fail)))) | ((first | (with_reducible refine zu ?_ ?_ <;> intro hg) | with_reducible intro hg) <;> (first | (exfalso; simp at hg; done) | (have hg' := hg; (try simp only [hcs, beq_iff_eq, ge_iff_le, gt_iff_lt] at hg'); (try simp only [hg]))))) <;> (try simp (disch := omega) only [go_sem, wn]) <;> (repeat' with_reducible refine And.intro ?_ ?_) <;> (try (with_reducible refine hK _ ?_; clear hK K)))
| omega)
  all_goals (refine zF rfl ?_ ?_ ?_ ?_; (iterate 3 (focus ((try simp (disch := omega) only [go_sem, wn]) <;> (try omega) <;> fail))); (try simp (disch := omega) only [go_sem, wn, I, B, S, inj, List.cons.injEq, and_true, true_and, and_self]))
theorem default_lenS : lenS default := ⟨by decide, by decide, ⟨by unfold okI; decide, ⟨by decide, fun _ h => by cases h⟩, by decide, fun _ h => by cases h⟩, by decide⟩
end Go.Proofs.YtmpfhalheaeibaaGreatDoor
