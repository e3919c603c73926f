/- Contracts of path.Split, path.Depth, path.Under and their references. No condition. -/
import Derived.Test.YtecbkeddfjalcaaDoorPj
namespace Go.Proofs.YtecbkeddfjalcaaDoor
set_option linter.unusedVariables false
set_option linter.unusedSimpArgs false
open Go Go.RowKit
set_option maxRecDepth 100000
set_option linter.unusedSimpArgs false

/-- The text of steps. -/
def joinL : List (List UInt8) → List UInt8
  | [] => []
  | p :: ps => 47 :: (p ++ joinL ps)
def pathOf (ps : List (List UInt8)) : List UInt8 := if ps = [] then [47] else joinL ps
theorem joinL_app (a b : List (List UInt8)) : joinL (a ++ b) = joinL a ++ joinL b := by
  induction a with
  | nil => rfl
  | cons p a ih => simp [joinL, ih]
theorem splitB_47 (b : List UInt8) : splitB (47 :: b) = [] :: splitB b := by simp [splitB]
theorem splitB_other {c : UInt8} (h : ¬ c = 47) (r : List UInt8) : splitB (c :: r) = match splitB r with
    | p :: ps => (c :: p) :: ps
    | [] => [[c]] := by simp only [splitB, if_neg h]; cases splitB r <;> rfl
theorem splitB_app (a b : List UInt8) : splitB (a ++ 47 :: b) = splitB a ++ splitB b := by
  induction a with
  | nil => exact splitB_47 b
  | cons c a ih =>
    by_cases h : c = 47
    · subst h
      rw [List.cons_append, splitB_47, splitB_47, ih]; rfl
    · rw [List.cons_append, splitB_other h, splitB_other h, ih]
      cases hs : splitB a with
      | nil => exact absurd hs (splitB_ne a)
      | cons p ps => rfl
theorem splitB_no {p : List UInt8} (h : (47 : UInt8) ∉ p) : splitB p = [p] := by
  induction p with
  | nil => rfl
  | cons c p ih =>
    rw [List.mem_cons, not_or] at h
    rw [splitB_other (fun e => h.1 e.symm), ih h.2]
theorem splitB_join {p : List UInt8} {ps : List (List UInt8)} (hp : (47 : UInt8) ∉ p) (h : ∀ q, q ∈ ps → (47 : UInt8) ∉ q) : splitB (p ++ joinL ps) = p :: ps := by
  induction ps generalizing p with
  | nil => rw [joinL, List.append_nil, splitB_no hp]
  | cons q ps ih =>
    rw [joinL, splitB_app, splitB_no hp, ih (h q (by simp)) (fun x hx => h x (List.mem_cons_of_mem _ hx))]; rfl
theorem splitB_joinL {ps : List (List UInt8)} (h : ∀ q, q ∈ ps → (47 : UInt8) ∉ q) : splitB (joinL ps) = [] :: ps :=
  splitB_join (p := []) (by simp) h
theorem join_splitB : ∀ (r : List UInt8), ∃ q qs, splitB r = q :: qs ∧ r = q ++ joinL qs
  | [] => ⟨[], [], rfl, rfl⟩
  | c :: r => by
    obtain ⟨q, qs, e1, e2⟩ := join_splitB r
    by_cases h : c = 47
    · subst h
      exact ⟨[], q :: qs, by rw [splitB_47, e1], by rw [e2]; rfl⟩
    · refine ⟨c :: q, qs, ?_, by rw [e2]; rfl⟩
      rw [splitB_other h, e1]
theorem named_no {p : List UInt8} (h : namedP p = true) : (47 : UInt8) ∉ p := by
  intro hm
  unfold namedP at h
  rw [Bool.and_eq_true, List.all_eq_true] at h
  have := h.1 _ hm
  revert this; decide
/-- A good path's steps. -/
def stepsOf (s : List UInt8) : List (List UInt8) := if s = [47] then [] else splitB (s.drop 1)
theorem good_path {s : List UInt8} (h : goodP s = true) : s = pathOf (stepsOf s) ∧ (∀ q, q ∈ stepsOf s → namedP q = true) ∧ s.length ≤ 200 ∧ ∀ q, q ∈ stepsOf s → (47 : UInt8) ∉ q := by
  have hl := goodP_len h
  have key : s = pathOf (stepsOf s) ∧ (∀ q, q ∈ stepsOf s → namedP q = true) := by
    unfold stepsOf
    by_cases h47 : s = [47]
    · rw [if_pos h47]
      exact ⟨by rw [h47]; rfl, by simp⟩
    · rw [if_neg h47]
      unfold goodP at h
      rw [decide_eq_false h47, Bool.false_or, Bool.and_eq_true, Bool.and_eq_true, decide_eq_true_eq, decide_eq_true_eq] at h
      obtain ⟨_, ⟨h1, h2⟩, h3⟩ := h
      cases s with
      | nil => simp at h1
      | cons c r =>
        have hc : c = 47 := by simpa using h2
        subst hc
        obtain ⟨q, qs, e1, e2⟩ := join_splitB r
        refine ⟨?_, fun x hx => ?_⟩
        · show 47 :: r = pathOf (splitB r)
          rw [e1]
          unfold pathOf
          rw [if_neg (by simp), joinL, ← e2]
        · unfold allNamed at h3
          exact List.all_eq_true.1 h3 x hx
  exact ⟨key.1, key.2, hl, fun q hq => named_no (key.2 q hq)⟩
theorem joinL_ne {ps : List (List UInt8)} (h : ps ≠ []) : joinL ps ≠ [] := by
  cases ps with
  | nil => exact absurd rfl h
  | cons p ps => simp [joinL]
theorem joinL_47 {ps : List (List UInt8)} (hn : ∀ q, q ∈ ps → namedP q = true) : joinL ps ≠ [47] := by
  cases ps with
  | nil => simp [joinL]
  | cons p ps =>
    intro h
    have hp := hn p (by simp)
    rw [joinL, List.cons.injEq] at h
    have h2 := List.append_eq_nil_iff.1 h.2
    rw [h2.1] at hp
    revert hp; decide
theorem pathOf_47 {ps : List (List UInt8)} (hn : ∀ q, q ∈ ps → namedP q = true) : pathOf ps = [47] ↔ ps = [] := by
  unfold pathOf
  split
  · rename_i h; exact iff_of_true rfl h
  · rename_i h; exact iff_of_false (joinL_47 hn) h
theorem steps_pathOf {ps : List (List UInt8)} (hn : ∀ q, q ∈ ps → namedP q = true) : stepsOf (pathOf ps) = ps := by
  unfold stepsOf
  split
  · rename_i h; exact ((pathOf_47 hn).1 h).symm
  · rename_i h
    have h0 : ps ≠ [] := fun e => h ((pathOf_47 hn).2 e)
    unfold pathOf
    rw [if_neg h0]
    cases ps with
    | nil => exact absurd rfl h0
    | cons p ps =>
      show splitB (p ++ joinL ps) = _
      exact splitB_join (named_no (hn p (by simp))) fun q hq => named_no (hn q (List.mem_cons_of_mem _ hq))
theorem splitB_pathOf {ps : List (List UInt8)} (h : ∀ q, q ∈ ps → namedP q = true) (h0 : ps ≠ []) : splitB (pathOf ps) = [] :: ps := by
  unfold pathOf
  rw [if_neg h0]
  exact splitB_joinL fun q hq => named_no (h q hq)
theorem good_pathOf {ps : List (List UInt8)} (hn : ∀ q, q ∈ ps → namedP q = true) (hl : (pathOf ps).length ≤ 200) : goodP (pathOf ps) = true := by
  unfold goodP
  by_cases h0 : ps = []
  · subst h0; rfl
  · have e := steps_pathOf hn
    unfold stepsOf at e
    rw [if_neg (fun h => h0 ((pathOf_47 hn).1 h))] at e
    rw [decide_eq_true hl, Bool.true_and]
    unfold allNamed
    rw [e, List.all_eq_true.2 hn, Bool.and_true, Bool.or_eq_true, decide_eq_true_eq]
    refine .inr ?_
    rw [decide_eq_true_eq]
    unfold pathOf
    rw [if_neg h0]
    cases ps with
    | nil => exact absurd rfl h0
    | cons p ps => simp [joinL]
theorem joinL_take (ps : List (List UInt8)) (k : Nat) : (joinL (ps.take k)).length ≤ (joinL ps).length := by
  have := joinL_app (ps.take k) (ps.drop k)
  rw [List.take_append_drop] at this
  rw [this, List.length_append]; omega
theorem pathOf_take {ps : List (List UInt8)} (k : Nat) (h : (pathOf ps).length ≤ 200) : (pathOf (ps.take k)).length ≤ 200 := by
  have := joinL_take ps k
  unfold pathOf at *
  split at h
  · rename_i e; subst e; simp
  · split
    · simp
    · omega
/-- P1.3. -/
def splitP (s : List UInt8) : (List UInt8 × List UInt8) × Int := if goodP s = true then (if stepsOf s = [] then (([], []), 7) else ((pathOf ((stepsOf s).take ((stepsOf s).length - 1)), (stepsOf s).getD ((stepsOf s).length - 1) []), 0)) else (([], []), 2)
theorem split_bad {s : List UInt8} (h : ¬ goodP s = true) : splitP s = (([], []), 2) := by unfold splitP; rw [if_neg h]
theorem split_root : splitP [47] = (([], []), 7) := by rfl
theorem split_snoc {ps : List (List UInt8)} {p : List UInt8} (hn : ∀ q, q ∈ ps ++ [p] → namedP q = true) (hl : (pathOf (ps ++ [p])).length ≤ 200) : splitP (pathOf (ps ++ [p])) = ((pathOf ps, p), 0) := by
  unfold splitP
  rw [if_pos (good_pathOf hn hl), steps_pathOf hn, if_neg (by simp), List.length_append, List.length_singleton, Nat.add_sub_cancel, List.take_left']
  · simp
  · rfl
theorem good_cases {s : List UInt8} (h : goodP s = true) : s = [47] ∨ ∃ ps p, (∀ q, q ∈ ps ++ [p] → namedP q = true) ∧ s = pathOf (ps ++ [p]) ∧ (pathOf (ps ++ [p])).length ≤ 200 ∧ pathOf (ps ++ [p]) = joinL ps ++ 47 :: p := by
  obtain ⟨h1, h2, h3, h4⟩ := good_path h
  rcases List.eq_nil_or_concat (stepsOf s) with e | ⟨ps, p, e⟩
  · left; rw [h1, e]; rfl
  · right
    rw [List.concat_eq_append] at e
    rw [e] at h1 h2
    refine ⟨ps, p, h2, h1, by rw [← h1]; exact h3, ?_⟩
    unfold pathOf
    rw [if_neg (by simp), joinL_app]
    simp [joinL]
theorem len_cat (a b : List UInt8) (c : UInt8) : (a ++ c :: b).length = a.length + b.length + 1 := by simp; omega
theorem cat_get_lt (a b : List UInt8) (c d : UInt8) (j : Nat) (h : j < b.length) : (a ++ c :: b).getD (a.length + b.length - j) d = b.getD (b.length - 1 - j) d := by
  rw [List.getD_eq_getElem?_getD, List.getElem?_append_right (by omega), show a.length + b.length - j - a.length = (b.length - 1 - j) + 1 from by omega, List.getElem?_cons_succ, ← List.getD_eq_getElem?_getD]
theorem cat_get_eq (a b : List UInt8) (c d : UInt8) : (a ++ c :: b).getD a.length d = c := by
  rw [List.getD_eq_getElem?_getD, List.getElem?_append_right (by omega), Nat.sub_self]; rfl
theorem lastB_c (a b : List UInt8) (c : UInt8) (hc : c ∉ b) (hs : okS (a ++ c :: b)) : acall Tryd.prog [] 81 [S (a ++ c :: b), .d (.int .u8 c.toNat)] (ret (I a.length)) := by
  unfold okS at hs
  have hlen := len_cat a b c
  rw [hlen] at hs
  have hst : ((a.length + b.length + 1 : Nat) : Int) - 1 = ((a.length + b.length : Nat) : Int) := by omega
  refine acall_of tabOk Tryd.func81 rfl (by kernel_rfl) (by simp [Tryd.ntmps81]) ?_; simp only [Tryd.ntmps81, Tryd.results81, List.toList_toArray, apar, List.length_nil, List.length_cons, Nat.reduceAdd]
  repeat' first
    | with_reducible refine AWP.seq ?_
    | with_reducible refine thenA_n ?_
    | with_reducible refine thenA_r ?_
    | with_reducible refine thenA_e ?_
    | with_reducible refine blkA_n ?_
    | with_reducible refine blkA_r ?_
    | with_reducible refine blkA_e ?_
    | with_reducible refine blkA_x (by decide) ?_
    | with_reducible refine AWP.skip ?_
    | with_reducible refine AWP.ret ?_
    | with_reducible refine AWP.exit ?_
    | with_reducible refine AWP.block ?_
    | (with_reducible refine AWP.cond rfl ?_ ?_ <;> intro hc <;> (try simp only [decide_eq_true_eq, decide_eq_false_iff_not, Bool.and_eq_true, Bool.or_eq_true, Bool.or_eq_false_iff, Bool.and_eq_false_iff, Bool.not_eq_true', Bool.not_eq_false', Bool.true_eq_false, Bool.false_eq_true, Bool.not_eq_true, Bool.not_eq_false, Int.not_lt, Int.not_le, Nat.not_lt, Nat.not_le, Int.ofNat_lt, Int.ofNat_le, Int.natCast_eq_zero, not_true_eq_false, not_false_eq_true, beq_iff_eq, Bool.not_true, Bool.not_false, ge_iff_le, gt_iff_lt] at hc))
    | ((first | with_reducible refine AWP.region tabOk ?_ | with_reducible refine AWP.quietC mixed tabOk (by decide +kernel) ?_ | with_reducible refine AWP.draw mixed tabOk (by decide +kernel) ?_ | with_reducible refine AWP.drawE mixed tabOk (by decide +kernel) ?_); intro K hK; ((try simp (disch := omega) only [go_sem, wrap_n, hlen]) <;> (repeat' with_reducible refine And.intro ?_ ?_) <;> (try (with_reducible refine hK _ ?_; clear hK K))))
    | ((first | (with_reducible refine aunder_i ?_ ?_ <;> intro hg) | with_reducible intro hg) <;> (first | (exfalso; simp at hg; done) | (have hg' := hg; (try simp only [decide_eq_true_eq, decide_eq_false_iff_not, Bool.and_eq_true, Bool.or_eq_true, Bool.or_eq_false_iff, Bool.and_eq_false_iff, Bool.not_eq_true', Bool.not_eq_false', Bool.true_eq_false, Bool.false_eq_true, Bool.not_eq_true, Bool.not_eq_false, Int.not_lt, Int.not_le, Nat.not_lt, Nat.not_le, Int.ofNat_lt, Int.ofNat_le, Int.natCast_eq_zero, not_true_eq_false, not_false_eq_true, beq_iff_eq, Bool.not_true, Bool.not_false, ge_iff_le, gt_iff_lt] at hg'); ((try simp (disch := omega) only [hg, go_sem, wrap_n, hlen]) <;> (repeat' with_reducible refine And.intro ?_ ?_) <;> (try (with_reducible refine hK _ ?_; clear hK K))))))
                                                            | omega
  refine AWP.loopS (ι := Nat) (fun j => j ≤ b.length) (fun j => b.length - j) [0, 1] (fun j => [(5, I ((a.length + b.length - j : Nat) : Int))]) 0 ?_ (by simp (disch := omega) only [go_sem, wrap_n, hst, Nat.sub_zero]) ?_
  · omega
  intro j hj
  simp only [go_sem]
  repeat' first
    | with_reducible refine AWP.seq ?_
    | with_reducible refine thenA_n ?_
    | with_reducible refine thenA_r ?_
    | with_reducible refine thenA_e ?_
    | with_reducible refine blkA_n ?_
    | with_reducible refine blkA_r ?_
    | with_reducible refine blkA_e ?_
    | with_reducible refine blkA_x (by decide) ?_
    | with_reducible refine AWP.skip ?_
    | with_reducible refine AWP.ret ?_
    | with_reducible refine AWP.exit ?_
    | with_reducible refine AWP.block ?_
    | (with_reducible refine AWP.cond rfl ?_ ?_ <;> intro hc <;> (try simp only [decide_eq_true_eq, decide_eq_false_iff_not, Bool.and_eq_true, Bool.or_eq_true, Bool.or_eq_false_iff, Bool.and_eq_false_iff, Bool.not_eq_true', Bool.not_eq_false', Bool.true_eq_false, Bool.false_eq_true, Bool.not_eq_true, Bool.not_eq_false, Int.not_lt, Int.not_le, Nat.not_lt, Nat.not_le, Int.ofNat_lt, Int.ofNat_le, Int.natCast_eq_zero, not_true_eq_false, not_false_eq_true, beq_iff_eq, Bool.not_true, Bool.not_false, ge_iff_le, gt_iff_lt] at hc))
    | ((first | with_reducible refine AWP.region tabOk ?_ | with_reducible refine AWP.quietC mixed tabOk (by decide +kernel) ?_ | with_reducible refine AWP.draw mixed tabOk (by decide +kernel) ?_ | with_reducible refine AWP.drawE mixed tabOk (by decide +kernel) ?_); intro K hK; ((try simp (disch := omega) only [go_sem, wrap_n, hlen]) <;> (repeat' with_reducible refine And.intro ?_ ?_) <;> (try (with_reducible refine hK _ ?_; clear hK K))))
    | ((first | (with_reducible refine aunder_i ?_ ?_ <;> intro hg) | with_reducible intro hg) <;> (first | (exfalso; simp at hg; done) | (have hg' := hg; (try simp only [decide_eq_true_eq, decide_eq_false_iff_not, Bool.and_eq_true, Bool.or_eq_true, Bool.or_eq_false_iff, Bool.and_eq_false_iff, Bool.not_eq_true', Bool.not_eq_false', Bool.true_eq_false, Bool.false_eq_true, Bool.not_eq_true, Bool.not_eq_false, Int.not_lt, Int.not_le, Nat.not_lt, Nat.not_le, Int.ofNat_lt, Int.ofNat_le, Int.natCast_eq_zero, not_true_eq_false, not_false_eq_true, beq_iff_eq, Bool.not_true, Bool.not_false, ge_iff_le, gt_iff_lt] at hg'); ((try simp (disch := omega) only [hg, go_sem, wrap_n, hlen]) <;> (repeat' with_reducible refine And.intro ?_ ?_) <;> (try (with_reducible refine hK _ ?_; clear hK K))))))
                                                            | omega
  · by_cases e : j = b.length
    · subst e
      (refine aend_retc ?_ rfl ?_ ?_ ?_ ?_; (focus (first | exact .inl rfl | exact .inr rfl)); (focus ((try simp (disch := omega) only [go_sem, wrap_n, Nat.add_sub_cancel]) <;> (try omega) <;> fail)); (focus ((try simp (disch := omega) only [go_sem, wrap_n, Nat.add_sub_cancel]) <;> (try omega) <;> fail)); (focus ((try simp (disch := omega) only [go_sem, wrap_n, Nat.add_sub_cancel]) <;> (try omega) <;> fail)); (try simp (disch := omega) only [go_sem, wrap_n, Nat.add_sub_cancel, I, B, S, AV.d.injEq, DV.int.injEq, DV.bool.injEq, DV.str.injEq, DV.sl.injEq, AV.tup.injEq, AV.agg.injEq, List.cons.injEq, and_true, true_and, and_self]))
    · have hlt : j < b.length := by omega
      rw [cat_get_lt a b c 0 j hlt] at hc
      exfalso
      have hb : b.getD (b.length - 1 - j) 0 = c := UInt8.toNat.inj (Int.ofNat_inj.1 hc)
      rw [List.getD_eq_getElem?_getD, List.getElem?_eq_getElem (by omega)] at hb
      have hin := List.getElem_mem (l := b) (n := b.length - 1 - j) (by omega)
      rw [show b[b.length - 1 - j] = c from hb] at hin
      exact absurd hin (by assumption)
  · by_cases e : j = b.length
    · subst e
      exfalso
      rw [Nat.add_sub_cancel, cat_get_eq] at hc
      exact hc rfl
    · refine ⟨j + 1, by omega, by omega, ?_⟩
      have e1 : ((a.length + b.length - (j + 1) : Nat) : Int) = ((a.length + b.length - j : Nat) : Int) - 1 := by omega
      rw [e1]
      (refine SImp.same ?_; simp (disch := omega) only [go_sem, wrap_n, Int.natCast_add, true_and])
  all_goals (exfalso; omega)
theorem lastIndex_c (a b : List UInt8) (c : UInt8) (hc : c ∉ b) (hs : okS (a ++ c :: b)) : acall Tryd.prog [] 68 [S (a ++ c :: b), .d (.int .u8 c.toNat)] (ret (I a.length)) := by
  refine acall_of tabOk Tryd.func68 rfl (by kernel_rfl) (by simp [Tryd.ntmps68]) ?_; simp only [Tryd.ntmps68, Tryd.results68, List.toList_toArray, apar, List.length_nil, List.length_cons, Nat.reduceAdd]
  repeat' first
    | with_reducible refine AWP.seq ?_
    | with_reducible refine thenA_n ?_
    | with_reducible refine thenA_r ?_
    | with_reducible refine thenA_e ?_
    | with_reducible refine blkA_n ?_
    | with_reducible refine blkA_r ?_
    | with_reducible refine blkA_e ?_
    | with_reducible refine blkA_x (by decide) ?_
    | with_reducible refine AWP.skip ?_
    | with_reducible refine AWP.ret ?_
    | with_reducible refine AWP.exit ?_
    | with_reducible refine AWP.block ?_
    | (with_reducible refine AWP.cond rfl ?_ ?_ <;> intro hc <;> (try simp only [decide_eq_true_eq, decide_eq_false_iff_not, Bool.and_eq_true, Bool.or_eq_true, Bool.or_eq_false_iff, Bool.and_eq_false_iff, Bool.not_eq_true', Bool.not_eq_false', Bool.true_eq_false, Bool.false_eq_true, Bool.not_eq_true, Bool.not_eq_false, Int.not_lt, Int.not_le, Nat.not_lt, Nat.not_le, Int.ofNat_lt, Int.ofNat_le, Int.natCast_eq_zero, not_true_eq_false, not_false_eq_true, beq_iff_eq, Bool.not_true, Bool.not_false, ge_iff_le, gt_iff_lt] at hc))
    | ((first | with_reducible refine AWP.region tabOk ?_ | with_reducible refine AWP.quietC mixed tabOk (by decide +kernel) ?_ | with_reducible refine AWP.draw mixed tabOk (by decide +kernel) ?_ | with_reducible refine AWP.drawE mixed tabOk (by decide +kernel) ?_); intro K hK; ((try simp (disch := omega) only [go_sem, wrap_n, true_and]) <;> (repeat' with_reducible refine And.intro ?_ ?_) <;> (try (with_reducible refine hK _ ?_; clear hK K))))
    | ((first | refine acallH_sc (lastB_c a b c hc hs) rfl rfl ?_ ?_ ?_); (focus ((try simp (disch := omega) only [go_sem, wrap_n, true_and]) <;> (try omega) <;> fail)); (focus ((try simp (disch := omega) only [go_sem, wrap_n, true_and]) <;> (try omega) <;> fail)); ((try simp (disch := omega) only [go_sem, wrap_n, true_and]) <;> (repeat' with_reducible refine And.intro ?_ ?_) <;> (try (with_reducible refine hK _ ?_; clear hK K))))
    | ((first | refine acallQ_sc (lastB_c a b c hc hs) rfl rfl ?_ ?_ ?_); (focus ((try simp (disch := omega) only [go_sem, wrap_n, true_and]) <;> (try omega) <;> fail)); (focus ((try simp (disch := omega) only [go_sem, wrap_n, true_and]) <;> (try omega) <;> fail)); ((try simp (disch := omega) only [go_sem, wrap_n, true_and]) <;> (repeat' with_reducible refine And.intro ?_ ?_) <;> (try (with_reducible refine hK _ ?_; clear hK K))))
    | ((first | refine acallH_anyr (lastB_c a b c hc hs) rfl ?_ ?_); (focus ((try simp (disch := omega) only [go_sem, wrap_n, true_and]) <;> (try omega) <;> fail)); ((try simp (disch := omega) only [go_sem, wrap_n, true_and]) <;> (repeat' with_reducible refine And.intro ?_ ?_) <;> (try (with_reducible refine hK _ ?_; clear hK K))))
    | ((first | refine acallH_scx (lastB_c a b c hc hs) rfl ?_ ?_ | refine acallQ_scx (lastB_c a b c hc hs) rfl ?_ ?_ | refine acallH_anyx (lastB_c a b c hc hs) ?_ ?_); (focus ((try simp (disch := omega) only [go_sem, wrap_n, true_and]) <;> (try omega) <;> fail)); ((try simp (disch := omega) only [go_sem, wrap_n, true_and]) <;> (repeat' with_reducible refine And.intro ?_ ?_) <;> (try (with_reducible refine hK _ ?_; clear hK K))))
    | ((first | (with_reducible refine aunder_i ?_ ?_ <;> intro hg) | with_reducible intro hg) <;> (first | (exfalso; simp at hg; done) | (have hg' := hg; (try simp only [decide_eq_true_eq, decide_eq_false_iff_not, Bool.and_eq_true, Bool.or_eq_true, Bool.or_eq_false_iff, Bool.and_eq_false_iff, Bool.not_eq_true', Bool.not_eq_false', Bool.true_eq_false, Bool.false_eq_true, Bool.not_eq_true, Bool.not_eq_false, Int.not_lt, Int.not_le, Nat.not_lt, Nat.not_le, Int.ofNat_lt, Int.ofNat_le, Int.natCast_eq_zero, not_true_eq_false, not_false_eq_true, beq_iff_eq, Bool.not_true, Bool.not_false, ge_iff_le, gt_iff_lt] at hg'); ((try simp (disch := omega) only [hg, go_sem, wrap_n, true_and]) <;> (repeat' with_reducible refine And.intro ?_ ?_) <;> (try (with_reducible refine hK _ ?_; clear hK K))))))
                                                            | omega
  (refine aend_retc ?_ rfl ?_ ?_ ?_ ?_; (focus (first | exact .inl rfl | exact .inr rfl)); (focus ((try simp (disch := omega) only [go_sem, wrap_n, true_and]) <;> (try omega) <;> fail)); (focus ((try simp (disch := omega) only [go_sem, wrap_n, true_and]) <;> (try omega) <;> fail)); (focus ((try simp (disch := omega) only [go_sem, wrap_n, true_and]) <;> (try omega) <;> fail)); (try simp (disch := omega) only [go_sem, wrap_n, true_and, I, B, S, AV.d.injEq, DV.int.injEq, DV.bool.injEq, DV.str.injEq, DV.sl.injEq, AV.tup.injEq, AV.agg.injEq, List.cons.injEq, and_true, true_and, and_self]))
theorem ext_count {P : Program} {hp : List ABlk} {g : FuncId} {fn : Func} (hf : P.funcs[g]? = some fn) (hn : (fn.name == "runtime.NumGoroutine") = false) (hb : fn.body.isNone = true) (hx : Extern.findNext fn = none)
    (he : Extern.find fn = some Extern.BytealgCount.count) (s : List UInt8) (c : UInt8) : aextQ P hp g [S s, .d (.int .u8 c.toNat)] (I (s.count c : Nat)) := by
  intro E ρ w us hH hus
  refine ⟨.int .i64 (s.count c : Nat), .d _ _ (.int _ _), fun w' hbl => ?_⟩
  match us, hus with
  | [u, u'], hus =>
    have hu := hus.2 0 _ u rfl rfl
    have hu' := hus.2 1 _ u' rfl rfl
    cases hu with | d _ _ hu => cases hu with | str _ =>
    cases hu' with | d _ _ hu' => cases hu' with | int _ _ =>
    rw [run_callFunc_extern hf hn hb hx he]
    have := Lib.run_countString (P := P) ⟨s.toArray⟩ (c.toNat : Int) w'
    have e : ((c.toNat : Int)).toNat.toUInt8 = c := by simp
    rw [e] at this
    show (Extern.BytealgCount.count #[.string ⟨s.toArray⟩, .int .u8 (c.toNat : Int)] |>.run P w').andThen _ = _
    rw [this]
    rfl
theorem count_c (s : List UInt8) (c : UInt8) : acall Tryd.prog [] 69 [S s, S [c]] (ret (I (s.count c : Nat))) := by
  refine acall_of tabOk Tryd.func69 rfl (by kernel_rfl) (by simp [Tryd.ntmps69]) ?_; simp only [Tryd.ntmps69, Tryd.results69, List.toList_toArray, apar, List.length_nil, List.length_cons, Nat.reduceAdd]
  repeat' first
    | with_reducible refine AWP.seq ?_
    | with_reducible refine thenA_n ?_
    | with_reducible refine thenA_r ?_
    | with_reducible refine thenA_e ?_
    | with_reducible refine blkA_n ?_
    | with_reducible refine blkA_r ?_
    | with_reducible refine blkA_e ?_
    | with_reducible refine blkA_x (by decide) ?_
    | with_reducible refine AWP.skip ?_
    | with_reducible refine AWP.ret ?_
    | with_reducible refine AWP.exit ?_
    | with_reducible refine AWP.block ?_
    | (with_reducible refine AWP.cond rfl ?_ ?_ <;> intro hc <;> (try simp only [decide_eq_true_eq, decide_eq_false_iff_not, Bool.and_eq_true, Bool.or_eq_true, Bool.or_eq_false_iff, Bool.and_eq_false_iff, Bool.not_eq_true', Bool.not_eq_false', Bool.true_eq_false, Bool.false_eq_true, Bool.not_eq_true, Bool.not_eq_false, Int.not_lt, Int.not_le, Nat.not_lt, Nat.not_le, Int.ofNat_lt, Int.ofNat_le, Int.natCast_eq_zero, not_true_eq_false, not_false_eq_true, beq_iff_eq, Bool.not_true, Bool.not_false, ge_iff_le, gt_iff_lt] at hc))
    | ((first | with_reducible refine AWP.region tabOk ?_ | with_reducible refine AWP.quietC mixed tabOk (by decide +kernel) ?_ | with_reducible refine AWP.draw mixed tabOk (by decide +kernel) ?_ | with_reducible refine AWP.drawE mixed tabOk (by decide +kernel) ?_); intro K hK; ((try simp (disch := omega) only [go_sem, wrap_n, true_and]) <;> (repeat' with_reducible refine And.intro ?_ ?_) <;> (try (with_reducible refine hK _ ?_; clear hK K))))
    | (refine acallHK_ext (ext_count Tryd.func83 (by kernel_rfl) (by kernel_rfl) (by kernel_rfl) (by kernel_rfl) s c) ?_; ((try simp (disch := omega) only [go_sem, wrap_n, true_and]) <;> (repeat' with_reducible refine And.intro ?_ ?_) <;> (try (with_reducible refine hK _ ?_; clear hK K))))
    | ((first | (with_reducible refine aunder_i ?_ ?_ <;> intro hg) | with_reducible intro hg) <;> (first | (exfalso; simp at hg; done) | (have hg' := hg; (try simp only [decide_eq_true_eq, decide_eq_false_iff_not, Bool.and_eq_true, Bool.or_eq_true, Bool.or_eq_false_iff, Bool.and_eq_false_iff, Bool.not_eq_true', Bool.not_eq_false', Bool.true_eq_false, Bool.false_eq_true, Bool.not_eq_true, Bool.not_eq_false, Int.not_lt, Int.not_le, Nat.not_lt, Nat.not_le, Int.ofNat_lt, Int.ofNat_le, Int.natCast_eq_zero, not_true_eq_false, not_false_eq_true, beq_iff_eq, Bool.not_true, Bool.not_false, ge_iff_le, gt_iff_lt] at hg'); ((try simp (disch := omega) only [hg, go_sem, wrap_n, true_and]) <;> (repeat' with_reducible refine And.intro ?_ ?_) <;> (try (with_reducible refine hK _ ?_; clear hK K))))))
                                                            | omega
  (refine aend_retc ?_ rfl ?_ ?_ ?_ ?_; (focus (first | exact .inl rfl | exact .inr rfl)); (focus ((try simp (disch := omega) only [go_sem, wrap_n, true_and]) <;> (try omega) <;> fail)); (focus ((try simp (disch := omega) only [go_sem, wrap_n, true_and]) <;> (try omega) <;> fail)); (focus ((try simp (disch := omega) only [go_sem, wrap_n, true_and]) <;> (try omega) <;> fail)); (try simp (disch := omega) only [go_sem, wrap_n, true_and, I, B, S, AV.d.injEq, DV.int.injEq, DV.bool.injEq, DV.str.injEq, DV.sl.injEq, AV.tup.injEq, AV.agg.injEq, List.cons.injEq, and_true, true_and, and_self]))
theorem split_c (s : List UInt8) (hs : okS s) : acall Tryd.prog [] 41 [S s] (ret (.tup [S (splitP s).1.1, S (splitP s).1.2, I (splitP s).2])) := by
  by_cases h : goodP s = true
  case neg =>
    rw [split_bad h]
    refine acall_of tabOk Tryd.func41 rfl (by kernel_rfl) (by simp [Tryd.ntmps41]) ?_; simp only [Tryd.ntmps41, Tryd.results41, List.toList_toArray, apar, List.length_nil, List.length_cons, Nat.reduceAdd]
    repeat' first
      | with_reducible refine AWP.seq ?_
      | with_reducible refine thenA_n ?_
      | with_reducible refine thenA_r ?_
      | with_reducible refine thenA_e ?_
      | with_reducible refine blkA_n ?_
      | with_reducible refine blkA_r ?_
      | with_reducible refine blkA_e ?_
      | with_reducible refine blkA_x (by decide) ?_
      | with_reducible refine AWP.skip ?_
      | with_reducible refine AWP.ret ?_
      | with_reducible refine AWP.exit ?_
      | with_reducible refine AWP.block ?_
      | (with_reducible refine AWP.cond rfl ?_ ?_ <;> intro hc <;> (try simp only [decide_eq_true_eq, decide_eq_false_iff_not, Bool.and_eq_true, Bool.or_eq_true, Bool.or_eq_false_iff, Bool.and_eq_false_iff, Bool.not_eq_true', Bool.not_eq_false', Bool.true_eq_false, Bool.false_eq_true, Bool.not_eq_true, Bool.not_eq_false, Int.not_lt, Int.not_le, Nat.not_lt, Nat.not_le, Int.ofNat_lt, Int.ofNat_le, Int.natCast_eq_zero, not_true_eq_false, not_false_eq_true, beq_iff_eq, Bool.not_true, Bool.not_false, ge_iff_le, gt_iff_lt] at hc))
      | ((first | with_reducible refine AWP.region tabOk ?_ | with_reducible refine AWP.quietC mixed tabOk (by decide +kernel) ?_ | with_reducible refine AWP.draw mixed tabOk (by decide +kernel) ?_ | with_reducible refine AWP.drawE mixed tabOk (by decide +kernel) ?_); intro K hK; ((try simp (disch := omega) only [go_sem, wrap_n, true_and]) <;> (repeat' with_reducible refine And.intro ?_ ?_) <;> (try (with_reducible refine hK _ ?_; clear hK K))))
      | ((first | refine acallH_sc ((good_c s hs).re (congrArg B (eq_false_of_ne_true h))) rfl rfl ?_ ?_ ?_); (focus ((try simp (disch := omega) only [go_sem, wrap_n, true_and]) <;> (try omega) <;> fail)); (focus ((try simp (disch := omega) only [go_sem, wrap_n, true_and]) <;> (try omega) <;> fail)); ((try simp (disch := omega) only [go_sem, wrap_n, true_and]) <;> (repeat' with_reducible refine And.intro ?_ ?_) <;> (try (with_reducible refine hK _ ?_; clear hK K))))
      | ((first | refine acallQ_sc ((good_c s hs).re (congrArg B (eq_false_of_ne_true h))) rfl rfl ?_ ?_ ?_); (focus ((try simp (disch := omega) only [go_sem, wrap_n, true_and]) <;> (try omega) <;> fail)); (focus ((try simp (disch := omega) only [go_sem, wrap_n, true_and]) <;> (try omega) <;> fail)); ((try simp (disch := omega) only [go_sem, wrap_n, true_and]) <;> (repeat' with_reducible refine And.intro ?_ ?_) <;> (try (with_reducible refine hK _ ?_; clear hK K))))
      | ((first | refine acallH_anyr ((good_c s hs).re (congrArg B (eq_false_of_ne_true h))) rfl ?_ ?_); (focus ((try simp (disch := omega) only [go_sem, wrap_n, true_and]) <;> (try omega) <;> fail)); ((try simp (disch := omega) only [go_sem, wrap_n, true_and]) <;> (repeat' with_reducible refine And.intro ?_ ?_) <;> (try (with_reducible refine hK _ ?_; clear hK K))))
      | ((first | refine acallH_scx ((good_c s hs).re (congrArg B (eq_false_of_ne_true h))) rfl ?_ ?_ | refine acallQ_scx ((good_c s hs).re (congrArg B (eq_false_of_ne_true h))) rfl ?_ ?_ | refine acallH_anyx ((good_c s hs).re (congrArg B (eq_false_of_ne_true h))) ?_ ?_); (focus ((try simp (disch := omega) only [go_sem, wrap_n, true_and]) <;> (try omega) <;> fail)); ((try simp (disch := omega) only [go_sem, wrap_n, true_and]) <;> (repeat' with_reducible refine And.intro ?_ ?_) <;> (try (with_reducible refine hK _ ?_; clear hK K))))
      | ((first | (with_reducible refine aunder_i ?_ ?_ <;> intro hg) | with_reducible intro hg) <;> (first | (exfalso; simp at hg; done) | (have hg' := hg; (try simp only [decide_eq_true_eq, decide_eq_false_iff_not, Bool.and_eq_true, Bool.or_eq_true, Bool.or_eq_false_iff, Bool.and_eq_false_iff, Bool.not_eq_true', Bool.not_eq_false', Bool.true_eq_false, Bool.false_eq_true, Bool.not_eq_true, Bool.not_eq_false, Int.not_lt, Int.not_le, Nat.not_lt, Nat.not_le, Int.ofNat_lt, Int.ofNat_le, Int.natCast_eq_zero, not_true_eq_false, not_false_eq_true, beq_iff_eq, Bool.not_true, Bool.not_false, ge_iff_le, gt_iff_lt] at hg'); ((try simp (disch := omega) only [hg, go_sem, wrap_n, true_and]) <;> (repeat' with_reducible refine And.intro ?_ ?_) <;> (try (with_reducible refine hK _ ?_; clear hK K))))))
                                                              | omega
    (refine aend_retc ?_ rfl ?_ ?_ ?_ ?_; (focus (first | exact .inl rfl | exact .inr rfl)); (focus ((try simp (disch := omega) only [go_sem, wrap_n, true_and]) <;> (try omega) <;> fail)); (focus ((try simp (disch := omega) only [go_sem, wrap_n, true_and]) <;> (try omega) <;> fail)); (focus ((try simp (disch := omega) only [go_sem, wrap_n, true_and]) <;> (try omega) <;> fail)); (try simp (disch := omega) only [go_sem, wrap_n, true_and, I, B, S, AV.d.injEq, DV.int.injEq, DV.bool.injEq, DV.str.injEq, DV.sl.injEq, AV.tup.injEq, AV.agg.injEq, List.cons.injEq, and_true, true_and, and_self]))
  rcases good_cases h with rfl | ⟨ps, p, hn, e, hl, hj⟩
  · rw [split_root]
    refine acall_of tabOk Tryd.func41 rfl (by kernel_rfl) (by simp [Tryd.ntmps41]) ?_; simp only [Tryd.ntmps41, Tryd.results41, List.toList_toArray, apar, List.length_nil, List.length_cons, Nat.reduceAdd]
    repeat' first
      | with_reducible refine AWP.seq ?_
      | with_reducible refine thenA_n ?_
      | with_reducible refine thenA_r ?_
      | with_reducible refine thenA_e ?_
      | with_reducible refine blkA_n ?_
      | with_reducible refine blkA_r ?_
      | with_reducible refine blkA_e ?_
      | with_reducible refine blkA_x (by decide) ?_
      | with_reducible refine AWP.skip ?_
      | with_reducible refine AWP.ret ?_
      | with_reducible refine AWP.exit ?_
      | with_reducible refine AWP.block ?_
      | (with_reducible refine AWP.cond rfl ?_ ?_ <;> intro hc <;> (try simp only [decide_eq_true_eq, decide_eq_false_iff_not, Bool.and_eq_true, Bool.or_eq_true, Bool.or_eq_false_iff, Bool.and_eq_false_iff, Bool.not_eq_true', Bool.not_eq_false', Bool.true_eq_false, Bool.false_eq_true, Bool.not_eq_true, Bool.not_eq_false, Int.not_lt, Int.not_le, Nat.not_lt, Nat.not_le, Int.ofNat_lt, Int.ofNat_le, Int.natCast_eq_zero, not_true_eq_false, not_false_eq_true, beq_iff_eq, Bool.not_true, Bool.not_false, ge_iff_le, gt_iff_lt] at hc))
      | ((first | with_reducible refine AWP.region tabOk ?_ | with_reducible refine AWP.quietC mixed tabOk (by decide +kernel) ?_ | with_reducible refine AWP.draw mixed tabOk (by decide +kernel) ?_ | with_reducible refine AWP.drawE mixed tabOk (by decide +kernel) ?_); intro K hK; ((try simp (disch := omega) only [go_sem, wrap_n, true_and]) <;> (repeat' with_reducible refine And.intro ?_ ?_) <;> (try (with_reducible refine hK _ ?_; clear hK K))))
      | ((first | refine acallH_sc ((good_c [47] hs).re (congrArg B h)) rfl rfl ?_ ?_ ?_); (focus ((try simp (disch := omega) only [go_sem, wrap_n, true_and]) <;> (try omega) <;> fail)); (focus ((try simp (disch := omega) only [go_sem, wrap_n, true_and]) <;> (try omega) <;> fail)); ((try simp (disch := omega) only [go_sem, wrap_n, true_and]) <;> (repeat' with_reducible refine And.intro ?_ ?_) <;> (try (with_reducible refine hK _ ?_; clear hK K))))
      | ((first | refine acallQ_sc ((good_c [47] hs).re (congrArg B h)) rfl rfl ?_ ?_ ?_); (focus ((try simp (disch := omega) only [go_sem, wrap_n, true_and]) <;> (try omega) <;> fail)); (focus ((try simp (disch := omega) only [go_sem, wrap_n, true_and]) <;> (try omega) <;> fail)); ((try simp (disch := omega) only [go_sem, wrap_n, true_and]) <;> (repeat' with_reducible refine And.intro ?_ ?_) <;> (try (with_reducible refine hK _ ?_; clear hK K))))
      | ((first | refine acallH_anyr ((good_c [47] hs).re (congrArg B h)) rfl ?_ ?_); (focus ((try simp (disch := omega) only [go_sem, wrap_n, true_and]) <;> (try omega) <;> fail)); ((try simp (disch := omega) only [go_sem, wrap_n, true_and]) <;> (repeat' with_reducible refine And.intro ?_ ?_) <;> (try (with_reducible refine hK _ ?_; clear hK K))))
      | ((first | refine acallH_scx ((good_c [47] hs).re (congrArg B h)) rfl ?_ ?_ | refine acallQ_scx ((good_c [47] hs).re (congrArg B h)) rfl ?_ ?_ | refine acallH_anyx ((good_c [47] hs).re (congrArg B h)) ?_ ?_); (focus ((try simp (disch := omega) only [go_sem, wrap_n, true_and]) <;> (try omega) <;> fail)); ((try simp (disch := omega) only [go_sem, wrap_n, true_and]) <;> (repeat' with_reducible refine And.intro ?_ ?_) <;> (try (with_reducible refine hK _ ?_; clear hK K))))
      | ((first | (with_reducible refine aunder_i ?_ ?_ <;> intro hg) | with_reducible intro hg) <;> (first | (exfalso; simp at hg; done) | (have hg' := hg; (try simp only [decide_eq_true_eq, decide_eq_false_iff_not, Bool.and_eq_true, Bool.or_eq_true, Bool.or_eq_false_iff, Bool.and_eq_false_iff, Bool.not_eq_true', Bool.not_eq_false', Bool.true_eq_false, Bool.false_eq_true, Bool.not_eq_true, Bool.not_eq_false, Int.not_lt, Int.not_le, Nat.not_lt, Nat.not_le, Int.ofNat_lt, Int.ofNat_le, Int.natCast_eq_zero, not_true_eq_false, not_false_eq_true, beq_iff_eq, Bool.not_true, Bool.not_false, ge_iff_le, gt_iff_lt] at hg'); ((try simp (disch := omega) only [hg, go_sem, wrap_n, true_and]) <;> (repeat' with_reducible refine And.intro ?_ ?_) <;> (try (with_reducible refine hK _ ?_; clear hK K))))))
                                                              | omega
    (refine aend_retc ?_ rfl ?_ ?_ ?_ ?_; (focus (first | exact .inl rfl | exact .inr rfl)); (focus ((try simp (disch := omega) only [go_sem, wrap_n, true_and]) <;> (try omega) <;> fail)); (focus ((try simp (disch := omega) only [go_sem, wrap_n, true_and]) <;> (try omega) <;> fail)); (focus ((try simp (disch := omega) only [go_sem, wrap_n, true_and]) <;> (try omega) <;> fail)); (try simp (disch := omega) only [go_sem, wrap_n, true_and, I, B, S, AV.d.injEq, DV.int.injEq, DV.bool.injEq, DV.str.injEq, DV.sl.injEq, AV.tup.injEq, AV.agg.injEq, List.cons.injEq, and_true, true_and, and_self]))
  have hsp := split_snoc hn hl
  rw [← e] at hsp hl
  rw [hsp]
  rw [hj] at e
  have hp := named_no (hn p (by simp))
  have hlen := len_cat (joinL ps) p 47
  rw [← e] at hlen
  have hp0 : p ≠ [] := fun h1 => by
    have := hn p (by simp)
    rw [h1] at this; revert this; decide
  have hpl := List.length_pos_iff.2 hp0
  have h47 : ¬ s = [47] := fun h0 => by
    rw [h0, List.length_singleton] at hlen; omega
  have hlast : acall Tryd.prog [] 68 [S (joinL ps ++ 47 :: p), .d (.int .u8 47)] (ret (I (joinL ps).length)) := lastIndex_c (joinL ps) p 47 hp (by rw [← e]; exact hs)
  rw [← e] at hlast
  refine acall_of tabOk Tryd.func41 rfl (by kernel_rfl) (by simp [Tryd.ntmps41]) ?_; simp only [Tryd.ntmps41, Tryd.results41, List.toList_toArray, apar, List.length_nil, List.length_cons, Nat.reduceAdd]
  repeat' first
    | with_reducible refine AWP.seq ?_
    | with_reducible refine thenA_n ?_
    | with_reducible refine thenA_r ?_
    | with_reducible refine thenA_e ?_
    | with_reducible refine blkA_n ?_
    | with_reducible refine blkA_r ?_
    | with_reducible refine blkA_e ?_
    | with_reducible refine blkA_x (by decide) ?_
    | with_reducible refine AWP.skip ?_
    | with_reducible refine AWP.ret ?_
    | with_reducible refine AWP.exit ?_
    | with_reducible refine AWP.block ?_
    | (with_reducible refine AWP.cond rfl ?_ ?_ <;> intro hc <;> (try simp only [decide_eq_true_eq, decide_eq_false_iff_not, Bool.and_eq_true, Bool.or_eq_true, Bool.or_eq_false_iff, Bool.and_eq_false_iff, Bool.not_eq_true', Bool.not_eq_false', Bool.true_eq_false, Bool.false_eq_true, Bool.not_eq_true, Bool.not_eq_false, Int.not_lt, Int.not_le, Nat.not_lt, Nat.not_le, Int.ofNat_lt, Int.ofNat_le, Int.natCast_eq_zero, not_true_eq_false, not_false_eq_true, beq_iff_eq, Bool.not_true, Bool.not_false, ge_iff_le, gt_iff_lt] at hc))
    | ((first | with_reducible refine AWP.region tabOk ?_ | with_reducible refine AWP.quietC mixed tabOk (by decide +kernel) ?_ | with_reducible refine AWP.draw mixed tabOk (by decide +kernel) ?_ | with_reducible refine AWP.drawE mixed tabOk (by decide +kernel) ?_); intro K hK; ((try simp (disch := omega) only [go_sem, wrap_n, h47]) <;> (repeat' with_reducible refine And.intro ?_ ?_) <;> (try (with_reducible refine hK _ ?_; clear hK K))))
    | ((first | refine acallH_sc ((good_c s hs).re (congrArg B h)) rfl rfl ?_ ?_ ?_ | refine acallH_sc (hlast) rfl rfl ?_ ?_ ?_); (focus ((try simp (disch := omega) only [go_sem, wrap_n, h47]) <;> (try omega) <;> fail)); (focus ((try simp (disch := omega) only [go_sem, wrap_n, h47]) <;> (try omega) <;> fail)); ((try simp (disch := omega) only [go_sem, wrap_n, h47]) <;> (repeat' with_reducible refine And.intro ?_ ?_) <;> (try (with_reducible refine hK _ ?_; clear hK K))))
    | ((first | refine acallQ_sc ((good_c s hs).re (congrArg B h)) rfl rfl ?_ ?_ ?_ | refine acallQ_sc (hlast) rfl rfl ?_ ?_ ?_); (focus ((try simp (disch := omega) only [go_sem, wrap_n, h47]) <;> (try omega) <;> fail)); (focus ((try simp (disch := omega) only [go_sem, wrap_n, h47]) <;> (try omega) <;> fail)); ((try simp (disch := omega) only [go_sem, wrap_n, h47]) <;> (repeat' with_reducible refine And.intro ?_ ?_) <;> (try (with_reducible refine hK _ ?_; clear hK K))))
    | ((first | refine acallH_anyr ((good_c s hs).re (congrArg B h)) rfl ?_ ?_ | refine acallH_anyr (hlast) rfl ?_ ?_); (focus ((try simp (disch := omega) only [go_sem, wrap_n, h47]) <;> (try omega) <;> fail)); ((try simp (disch := omega) only [go_sem, wrap_n, h47]) <;> (repeat' with_reducible refine And.intro ?_ ?_) <;> (try (with_reducible refine hK _ ?_; clear hK K))))
    | ((first | refine acallH_scx ((good_c s hs).re (congrArg B h)) rfl ?_ ?_ | refine acallQ_scx ((good_c s hs).re (congrArg B h)) rfl ?_ ?_ | refine acallH_anyx ((good_c s hs).re (congrArg B h)) ?_ ?_); (focus ((try simp (disch := omega) only [go_sem, wrap_n, h47]) <;> (try omega) <;> fail)); ((try simp (disch := omega) only [go_sem, wrap_n, h47]) <;> (repeat' with_reducible refine And.intro ?_ ?_) <;> (try (with_reducible refine hK _ ?_; clear hK K))))
    | ((first | refine acallH_scx (hlast) rfl ?_ ?_ | refine acallQ_scx (hlast) rfl ?_ ?_ | refine acallH_anyx (hlast) ?_ ?_); (focus ((try simp (disch := omega) only [go_sem, wrap_n, h47]) <;> (try omega) <;> fail)); ((try simp (disch := omega) only [go_sem, wrap_n, h47]) <;> (repeat' with_reducible refine And.intro ?_ ?_) <;> (try (with_reducible refine hK _ ?_; clear hK K))))
    | ((first | (with_reducible refine aunder_i ?_ ?_ <;> intro hg) | with_reducible intro hg) <;> (first | (exfalso; simp at hg; done) | (have hg' := hg; (try simp only [decide_eq_true_eq, decide_eq_false_iff_not, Bool.and_eq_true, Bool.or_eq_true, Bool.or_eq_false_iff, Bool.and_eq_false_iff, Bool.not_eq_true', Bool.not_eq_false', Bool.true_eq_false, Bool.false_eq_true, Bool.not_eq_true, Bool.not_eq_false, Int.not_lt, Int.not_le, Nat.not_lt, Nat.not_le, Int.ofNat_lt, Int.ofNat_le, Int.natCast_eq_zero, not_true_eq_false, not_false_eq_true, beq_iff_eq, Bool.not_true, Bool.not_false, ge_iff_le, gt_iff_lt] at hg'); ((try simp (disch := omega) only [hg, go_sem, wrap_n, h47]) <;> (repeat' with_reducible refine And.intro ?_ ?_) <;> (try (with_reducible refine hK _ ?_; clear hK K))))))
                                                            | omega
  · have e0 : joinL ps = [] := List.eq_nil_of_length_eq_zero hc
    have eps : ps = [] := Decidable.byContradiction fun h => joinL_ne h e0
    have e1 : List.take (s.length - 1) (List.drop 1 s) = p := by
      rw [List.take_of_length_le (by simp), e, e0]; rfl
    have e2 : pathOf ps = [47] := by rw [eps]; rfl
    rw [e2]
    (refine aend_retc ?_ rfl ?_ ?_ ?_ ?_; (focus (first | exact .inl rfl | exact .inr rfl)); (focus ((try simp (disch := omega) only [go_sem, wrap_n, e1]) <;> (try omega) <;> fail)); (focus ((try simp (disch := omega) only [go_sem, wrap_n, e1]) <;> (try omega) <;> fail)); (focus ((try simp (disch := omega) only [go_sem, wrap_n, e1]) <;> (try omega) <;> fail)); (try simp (disch := omega) only [go_sem, wrap_n, e1, I, B, S, AV.d.injEq, DV.int.injEq, DV.bool.injEq, DV.str.injEq, DV.sl.injEq, AV.tup.injEq, AV.agg.injEq, List.cons.injEq, and_true, true_and, and_self]))
  · have eps : ps ≠ [] := fun h => hc (by rw [h]; rfl)
    have e1 : List.take (s.length - ((joinL ps).length + 1)) (List.drop ((joinL ps).length + 1) s) = p := by
      rw [List.take_of_length_le (by simp), e, ← List.drop_drop, List.drop_left]; rfl
    have e2 : pathOf ps = joinL ps := by unfold pathOf; rw [if_neg eps]
    have e3 : List.take (joinL ps).length s = joinL ps := by rw [e, List.take_left]
    have e4 : (((joinL ps).length : Int) + 1).toNat = (joinL ps).length + 1 := by omega
    rw [e2]
    (refine aend_retc ?_ rfl ?_ ?_ ?_ ?_; (focus (first | exact .inl rfl | exact .inr rfl)); (focus ((try simp (disch := omega) only [go_sem, wrap_n, e4, e1, e3, Nat.sub_zero]) <;> (try omega) <;> fail)); (focus ((try simp (disch := omega) only [go_sem, wrap_n, e4, e1, e3, Nat.sub_zero]) <;> (try omega) <;> fail)); (focus ((try simp (disch := omega) only [go_sem, wrap_n, e4, e1, e3, Nat.sub_zero]) <;> (try omega) <;> fail)); (try simp (disch := omega) only [go_sem, wrap_n, e4, e1, e3, Nat.sub_zero, I, B, S, AV.d.injEq, DV.int.injEq, DV.bool.injEq, DV.str.injEq, DV.sl.injEq, AV.tup.injEq, AV.agg.injEq, List.cons.injEq, and_true, true_and, and_self]))
theorem take_drop_map2 (l : List (List UInt8)) (x y : List UInt8) : List.take l.length (List.drop 1 ((x :: (l ++ [y])).map srow)) = l.map srow := by
  simp
theorem getD_last (l : List (List UInt8)) (x y : List UInt8) : (x :: (l ++ [y])).getD (l.length + 1) [] = y := by
  rw [List.getD_eq_getElem?_getD, List.getElem?_cons_succ, List.getElem?_append_right (Nat.le_refl _), Nat.sub_self]; rfl
theorem joinL_snoc (ps : List (List UInt8)) (p : List UInt8) : joinL (ps ++ [p]) = joinL ps ++ 47 :: p := by
  rw [joinL_app]; simp [joinL]
theorem ref_split_c (s : List UInt8) (hs : s.length ≤ 1048576) : acall Tryd.prog [] 42 [S s] (ret (.tup [S (splitP s).1.1, S (splitP s).1.2, I (splitP s).2])) := by
  by_cases h : goodP s = true
  case neg =>
    rw [split_bad h]
    refine acall_of tabOk Tryd.func42 rfl (by kernel_rfl) (by simp [Tryd.ntmps42]) ?_; simp only [Tryd.ntmps42, Tryd.results42, List.toList_toArray, apar, List.length_nil, List.length_cons, Nat.reduceAdd]
    repeat' first
      | with_reducible refine AWP.seq ?_
      | with_reducible refine thenA_n ?_
      | with_reducible refine thenA_r ?_
      | with_reducible refine thenA_e ?_
      | with_reducible refine blkA_n ?_
      | with_reducible refine blkA_r ?_
      | with_reducible refine blkA_e ?_
      | with_reducible refine blkA_x (by decide) ?_
      | with_reducible refine AWP.skip ?_
      | with_reducible refine AWP.ret ?_
      | with_reducible refine AWP.exit ?_
      | with_reducible refine AWP.block ?_
      | (with_reducible refine AWP.cond rfl ?_ ?_ <;> intro hc <;> (try simp only [decide_eq_true_eq, decide_eq_false_iff_not, Bool.and_eq_true, Bool.or_eq_true, Bool.or_eq_false_iff, Bool.and_eq_false_iff, Bool.not_eq_true', Bool.not_eq_false', Bool.true_eq_false, Bool.false_eq_true, Bool.not_eq_true, Bool.not_eq_false, Int.not_lt, Int.not_le, Nat.not_lt, Nat.not_le, Int.ofNat_lt, Int.ofNat_le, Int.natCast_eq_zero, not_true_eq_false, not_false_eq_true, beq_iff_eq, Bool.not_true, Bool.not_false, ge_iff_le, gt_iff_lt] at hc))
      | ((first | with_reducible refine AWP.region tabOk ?_ | with_reducible refine AWP.quietC mixed tabOk (by decide +kernel) ?_ | with_reducible refine AWP.draw mixed tabOk (by decide +kernel) ?_ | with_reducible refine AWP.drawE mixed tabOk (by decide +kernel) ?_); intro K hK; ((try simp (disch := omega) only [go_sem, wrap_n, true_and]) <;> (repeat' with_reducible refine And.intro ?_ ?_) <;> (try (with_reducible refine hK _ ?_; clear hK K))))
      | ((first | refine acallH_sc ((ref_good_c s hs).re (congrArg B (eq_false_of_ne_true h))) rfl rfl ?_ ?_ ?_); (focus ((try simp (disch := omega) only [go_sem, wrap_n, true_and]) <;> (try omega) <;> fail)); (focus ((try simp (disch := omega) only [go_sem, wrap_n, true_and]) <;> (try omega) <;> fail)); ((try simp (disch := omega) only [go_sem, wrap_n, true_and]) <;> (repeat' with_reducible refine And.intro ?_ ?_) <;> (try (with_reducible refine hK _ ?_; clear hK K))))
      | ((first | refine acallQ_sc ((ref_good_c s hs).re (congrArg B (eq_false_of_ne_true h))) rfl rfl ?_ ?_ ?_); (focus ((try simp (disch := omega) only [go_sem, wrap_n, true_and]) <;> (try omega) <;> fail)); (focus ((try simp (disch := omega) only [go_sem, wrap_n, true_and]) <;> (try omega) <;> fail)); ((try simp (disch := omega) only [go_sem, wrap_n, true_and]) <;> (repeat' with_reducible refine And.intro ?_ ?_) <;> (try (with_reducible refine hK _ ?_; clear hK K))))
      | ((first | refine acallH_anyr ((ref_good_c s hs).re (congrArg B (eq_false_of_ne_true h))) rfl ?_ ?_); (focus ((try simp (disch := omega) only [go_sem, wrap_n, true_and]) <;> (try omega) <;> fail)); ((try simp (disch := omega) only [go_sem, wrap_n, true_and]) <;> (repeat' with_reducible refine And.intro ?_ ?_) <;> (try (with_reducible refine hK _ ?_; clear hK K))))
      | ((first | refine acallH_scx ((ref_good_c s hs).re (congrArg B (eq_false_of_ne_true h))) rfl ?_ ?_ | refine acallQ_scx ((ref_good_c s hs).re (congrArg B (eq_false_of_ne_true h))) rfl ?_ ?_ | refine acallH_anyx ((ref_good_c s hs).re (congrArg B (eq_false_of_ne_true h))) ?_ ?_); (focus ((try simp (disch := omega) only [go_sem, wrap_n, true_and]) <;> (try omega) <;> fail)); ((try simp (disch := omega) only [go_sem, wrap_n, true_and]) <;> (repeat' with_reducible refine And.intro ?_ ?_) <;> (try (with_reducible refine hK _ ?_; clear hK K))))
      | ((first | (with_reducible refine aunder_i ?_ ?_ <;> intro hg) | with_reducible intro hg) <;> (first | (exfalso; simp at hg; done) | (have hg' := hg; (try simp only [decide_eq_true_eq, decide_eq_false_iff_not, Bool.and_eq_true, Bool.or_eq_true, Bool.or_eq_false_iff, Bool.and_eq_false_iff, Bool.not_eq_true', Bool.not_eq_false', Bool.true_eq_false, Bool.false_eq_true, Bool.not_eq_true, Bool.not_eq_false, Int.not_lt, Int.not_le, Nat.not_lt, Nat.not_le, Int.ofNat_lt, Int.ofNat_le, Int.natCast_eq_zero, not_true_eq_false, not_false_eq_true, beq_iff_eq, Bool.not_true, Bool.not_false, ge_iff_le, gt_iff_lt] at hg'); ((try simp (disch := omega) only [hg, go_sem, wrap_n, true_and]) <;> (repeat' with_reducible refine And.intro ?_ ?_) <;> (try (with_reducible refine hK _ ?_; clear hK K))))))
                                                              | omega
    (refine aend_retc ?_ rfl ?_ ?_ ?_ ?_; (focus (first | exact .inl rfl | exact .inr rfl)); (focus ((try simp (disch := omega) only [go_sem, wrap_n, true_and]) <;> (try omega) <;> fail)); (focus ((try simp (disch := omega) only [go_sem, wrap_n, true_and]) <;> (try omega) <;> fail)); (focus ((try simp (disch := omega) only [go_sem, wrap_n, true_and]) <;> (try omega) <;> fail)); (try simp (disch := omega) only [go_sem, wrap_n, true_and, I, B, S, AV.d.injEq, DV.int.injEq, DV.bool.injEq, DV.str.injEq, DV.sl.injEq, AV.tup.injEq, AV.agg.injEq, List.cons.injEq, and_true, true_and, and_self]))
  rcases good_cases h with rfl | ⟨ps, p, hn, e, hl, hj⟩
  · rw [split_root]
    refine acall_of tabOk Tryd.func42 rfl (by kernel_rfl) (by simp [Tryd.ntmps42]) ?_; simp only [Tryd.ntmps42, Tryd.results42, List.toList_toArray, apar, List.length_nil, List.length_cons, Nat.reduceAdd]
    repeat' first
      | with_reducible refine AWP.seq ?_
      | with_reducible refine thenA_n ?_
      | with_reducible refine thenA_r ?_
      | with_reducible refine thenA_e ?_
      | with_reducible refine blkA_n ?_
      | with_reducible refine blkA_r ?_
      | with_reducible refine blkA_e ?_
      | with_reducible refine blkA_x (by decide) ?_
      | with_reducible refine AWP.skip ?_
      | with_reducible refine AWP.ret ?_
      | with_reducible refine AWP.exit ?_
      | with_reducible refine AWP.block ?_
      | (with_reducible refine AWP.cond rfl ?_ ?_ <;> intro hc <;> (try simp only [decide_eq_true_eq, decide_eq_false_iff_not, Bool.and_eq_true, Bool.or_eq_true, Bool.or_eq_false_iff, Bool.and_eq_false_iff, Bool.not_eq_true', Bool.not_eq_false', Bool.true_eq_false, Bool.false_eq_true, Bool.not_eq_true, Bool.not_eq_false, Int.not_lt, Int.not_le, Nat.not_lt, Nat.not_le, Int.ofNat_lt, Int.ofNat_le, Int.natCast_eq_zero, not_true_eq_false, not_false_eq_true, beq_iff_eq, Bool.not_true, Bool.not_false, ge_iff_le, gt_iff_lt] at hc))
      | ((first | with_reducible refine AWP.region tabOk ?_ | with_reducible refine AWP.quietC mixed tabOk (by decide +kernel) ?_ | with_reducible refine AWP.draw mixed tabOk (by decide +kernel) ?_ | with_reducible refine AWP.drawE mixed tabOk (by decide +kernel) ?_); intro K hK; ((try simp (disch := omega) only [go_sem, wrap_n, true_and]) <;> (repeat' with_reducible refine And.intro ?_ ?_) <;> (try (with_reducible refine hK _ ?_; clear hK K))))
      | ((first | refine acallH_sc ((ref_good_c [47] hs).re (congrArg B h)) rfl rfl ?_ ?_ ?_); (focus ((try simp (disch := omega) only [go_sem, wrap_n, true_and]) <;> (try omega) <;> fail)); (focus ((try simp (disch := omega) only [go_sem, wrap_n, true_and]) <;> (try omega) <;> fail)); ((try simp (disch := omega) only [go_sem, wrap_n, true_and]) <;> (repeat' with_reducible refine And.intro ?_ ?_) <;> (try (with_reducible refine hK _ ?_; clear hK K))))
      | ((first | refine acallQ_sc ((ref_good_c [47] hs).re (congrArg B h)) rfl rfl ?_ ?_ ?_); (focus ((try simp (disch := omega) only [go_sem, wrap_n, true_and]) <;> (try omega) <;> fail)); (focus ((try simp (disch := omega) only [go_sem, wrap_n, true_and]) <;> (try omega) <;> fail)); ((try simp (disch := omega) only [go_sem, wrap_n, true_and]) <;> (repeat' with_reducible refine And.intro ?_ ?_) <;> (try (with_reducible refine hK _ ?_; clear hK K))))
      | ((first | refine acallH_anyr ((ref_good_c [47] hs).re (congrArg B h)) rfl ?_ ?_); (focus ((try simp (disch := omega) only [go_sem, wrap_n, true_and]) <;> (try omega) <;> fail)); ((try simp (disch := omega) only [go_sem, wrap_n, true_and]) <;> (repeat' with_reducible refine And.intro ?_ ?_) <;> (try (with_reducible refine hK _ ?_; clear hK K))))
      | ((first | refine acallH_scx ((ref_good_c [47] hs).re (congrArg B h)) rfl ?_ ?_ | refine acallQ_scx ((ref_good_c [47] hs).re (congrArg B h)) rfl ?_ ?_ | refine acallH_anyx ((ref_good_c [47] hs).re (congrArg B h)) ?_ ?_); (focus ((try simp (disch := omega) only [go_sem, wrap_n, true_and]) <;> (try omega) <;> fail)); ((try simp (disch := omega) only [go_sem, wrap_n, true_and]) <;> (repeat' with_reducible refine And.intro ?_ ?_) <;> (try (with_reducible refine hK _ ?_; clear hK K))))
      | ((first | (with_reducible refine aunder_i ?_ ?_ <;> intro hg) | with_reducible intro hg) <;> (first | (exfalso; simp at hg; done) | (have hg' := hg; (try simp only [decide_eq_true_eq, decide_eq_false_iff_not, Bool.and_eq_true, Bool.or_eq_true, Bool.or_eq_false_iff, Bool.and_eq_false_iff, Bool.not_eq_true', Bool.not_eq_false', Bool.true_eq_false, Bool.false_eq_true, Bool.not_eq_true, Bool.not_eq_false, Int.not_lt, Int.not_le, Nat.not_lt, Nat.not_le, Int.ofNat_lt, Int.ofNat_le, Int.natCast_eq_zero, not_true_eq_false, not_false_eq_true, beq_iff_eq, Bool.not_true, Bool.not_false, ge_iff_le, gt_iff_lt] at hg'); ((try simp (disch := omega) only [hg, go_sem, wrap_n, true_and]) <;> (repeat' with_reducible refine And.intro ?_ ?_) <;> (try (with_reducible refine hK _ ?_; clear hK K))))))
                                                              | omega
    (refine aend_retc ?_ rfl ?_ ?_ ?_ ?_; (focus (first | exact .inl rfl | exact .inr rfl)); (focus ((try simp (disch := omega) only [go_sem, wrap_n, true_and]) <;> (try omega) <;> fail)); (focus ((try simp (disch := omega) only [go_sem, wrap_n, true_and]) <;> (try omega) <;> fail)); (focus ((try simp (disch := omega) only [go_sem, wrap_n, true_and]) <;> (try omega) <;> fail)); (try simp (disch := omega) only [go_sem, wrap_n, true_and, I, B, S, AV.d.injEq, DV.int.injEq, DV.bool.injEq, DV.str.injEq, DV.sl.injEq, AV.tup.injEq, AV.agg.injEq, List.cons.injEq, and_true, true_and, and_self]))
  have hsp := split_snoc hn hl
  have hpieces := splitB_pathOf hn (by simp)
  rw [← e] at hsp hl hpieces
  rw [hsp]
  rw [hj] at e
  have hn47 : ¬ s = [47] := fun h0 => by
    rw [h0] at hpieces
    have h2 := hn p (by simp)
    have h3 : ps ++ [p] = [[]] := by
      have : splitB [47] = [[], []] := rfl
      rw [this, List.cons.injEq] at hpieces
      exact hpieces.2.symm
    have h4 : p ∈ ps ++ [p] := by simp
    rw [h3, List.mem_singleton] at h4
    rw [h4] at h2; revert h2; decide
  have hst := (steps_c s hs).re (by rw [hpieces])
  have hjl : (joinL ps).length ≤ 200 := by
    have := len_cat (joinL ps) p 47
    rw [← e] at this; omega
  have hpl : ps.length + 1 ≤ 201 := by
    have := splitB_le s
    rw [hpieces] at this
    simp at this; omega
  have en : ((ps.length + 1 + 1 : Nat) : Int) - 1 = ((ps.length + 1 : Nat) : Int) := by omega
  have em : min ps.length (ps.length + 1) = ps.length := by omega
  have etk : List.take ps.length (List.map srow (ps ++ [p])) = List.map srow ps := by simp
  have eg : ([DV.str []] :: List.map srow (ps ++ [p])).getD (ps.length + 1) [] = srow p := by
    rw [List.getD_eq_getElem?_getD, List.getElem?_cons_succ, List.map_append, List.getElem?_append_right (by simp)]; simp
  refine acall_of tabOk Tryd.func42 rfl (by kernel_rfl) (by simp [Tryd.ntmps42]) ?_; simp only [Tryd.ntmps42, Tryd.results42, List.toList_toArray, apar, List.length_nil, List.length_cons, Nat.reduceAdd]
  repeat' first
    | with_reducible refine AWP.seq ?_
    | with_reducible refine thenA_n ?_
    | with_reducible refine thenA_r ?_
    | with_reducible refine thenA_e ?_
    | with_reducible refine blkA_n ?_
    | with_reducible refine blkA_r ?_
    | with_reducible refine blkA_e ?_
    | with_reducible refine blkA_x (by decide) ?_
    | with_reducible refine AWP.skip ?_
    | with_reducible refine AWP.ret ?_
    | with_reducible refine AWP.exit ?_
    | with_reducible refine AWP.block ?_
    | (with_reducible refine AWP.cond rfl ?_ ?_ <;> intro hc <;> (try simp only [decide_eq_true_eq, decide_eq_false_iff_not, Bool.and_eq_true, Bool.or_eq_true, Bool.or_eq_false_iff, Bool.and_eq_false_iff, Bool.not_eq_true', Bool.not_eq_false', Bool.true_eq_false, Bool.false_eq_true, Bool.not_eq_true, Bool.not_eq_false, Int.not_lt, Int.not_le, Nat.not_lt, Nat.not_le, Int.ofNat_lt, Int.ofNat_le, Int.natCast_eq_zero, not_true_eq_false, not_false_eq_true, beq_iff_eq, Bool.not_true, Bool.not_false, ge_iff_le, gt_iff_lt] at hc))
    | ((first | with_reducible refine AWP.region tabOk ?_ | with_reducible refine AWP.quietC mixed tabOk (by decide +kernel) ?_ | with_reducible refine AWP.draw mixed tabOk (by decide +kernel) ?_ | with_reducible refine AWP.drawE mixed tabOk (by decide +kernel) ?_); intro K hK; ((try simp (disch := omega) only [go_sem, wrap_n, hn47, en, em, etk, eg, Nat.add_sub_cancel]) <;> (repeat' with_reducible refine And.intro ?_ ?_) <;> (try (with_reducible refine hK _ ?_; clear hK K))))
    | ((first | refine acallH_sc ((ref_good_c s hs).re (congrArg B h)) rfl rfl ?_ ?_ ?_ | refine acallH_sc (hst) rfl rfl ?_ ?_ ?_); (focus ((try simp (disch := omega) only [go_sem, wrap_n, hn47, en, em, etk, eg, Nat.add_sub_cancel]) <;> (try omega) <;> fail)); (focus ((try simp (disch := omega) only [go_sem, wrap_n, hn47, en, em, etk, eg, Nat.add_sub_cancel]) <;> (try omega) <;> fail)); ((try simp (disch := omega) only [go_sem, wrap_n, hn47, en, em, etk, eg, Nat.add_sub_cancel]) <;> (repeat' with_reducible refine And.intro ?_ ?_) <;> (try (with_reducible refine hK _ ?_; clear hK K))))
    | ((first | refine acallQ_sc ((ref_good_c s hs).re (congrArg B h)) rfl rfl ?_ ?_ ?_ | refine acallQ_sc (hst) rfl rfl ?_ ?_ ?_); (focus ((try simp (disch := omega) only [go_sem, wrap_n, hn47, en, em, etk, eg, Nat.add_sub_cancel]) <;> (try omega) <;> fail)); (focus ((try simp (disch := omega) only [go_sem, wrap_n, hn47, en, em, etk, eg, Nat.add_sub_cancel]) <;> (try omega) <;> fail)); ((try simp (disch := omega) only [go_sem, wrap_n, hn47, en, em, etk, eg, Nat.add_sub_cancel]) <;> (repeat' with_reducible refine And.intro ?_ ?_) <;> (try (with_reducible refine hK _ ?_; clear hK K))))
    | ((first | refine acallH_anyr ((ref_good_c s hs).re (congrArg B h)) rfl ?_ ?_ | refine acallH_anyr (hst) rfl ?_ ?_); (focus ((try simp (disch := omega) only [go_sem, wrap_n, hn47, en, em, etk, eg, Nat.add_sub_cancel]) <;> (try omega) <;> fail)); ((try simp (disch := omega) only [go_sem, wrap_n, hn47, en, em, etk, eg, Nat.add_sub_cancel]) <;> (repeat' with_reducible refine And.intro ?_ ?_) <;> (try (with_reducible refine hK _ ?_; clear hK K))))
    | ((first | refine acallH_scx ((ref_good_c s hs).re (congrArg B h)) rfl ?_ ?_ | refine acallQ_scx ((ref_good_c s hs).re (congrArg B h)) rfl ?_ ?_ | refine acallH_anyx ((ref_good_c s hs).re (congrArg B h)) ?_ ?_); (focus ((try simp (disch := omega) only [go_sem, wrap_n, hn47, en, em, etk, eg, Nat.add_sub_cancel]) <;> (try omega) <;> fail)); ((try simp (disch := omega) only [go_sem, wrap_n, hn47, en, em, etk, eg, Nat.add_sub_cancel]) <;> (repeat' with_reducible refine And.intro ?_ ?_) <;> (try (with_reducible refine hK _ ?_; clear hK K))))
    | ((first | refine acallH_scx (hst) rfl ?_ ?_ | refine acallQ_scx (hst) rfl ?_ ?_ | refine acallH_anyx (hst) ?_ ?_); (focus ((try simp (disch := omega) only [go_sem, wrap_n, hn47, en, em, etk, eg, Nat.add_sub_cancel]) <;> (try omega) <;> fail)); ((try simp (disch := omega) only [go_sem, wrap_n, hn47, en, em, etk, eg, Nat.add_sub_cancel]) <;> (repeat' with_reducible refine And.intro ?_ ?_) <;> (try (with_reducible refine hK _ ?_; clear hK K))))
    | ((first | (with_reducible refine aunder_i ?_ ?_ <;> intro hg) | with_reducible intro hg) <;> (first | (exfalso; simp at hg; done) | (have hg' := hg; (try simp only [decide_eq_true_eq, decide_eq_false_iff_not, Bool.and_eq_true, Bool.or_eq_true, Bool.or_eq_false_iff, Bool.and_eq_false_iff, Bool.not_eq_true', Bool.not_eq_false', Bool.true_eq_false, Bool.false_eq_true, Bool.not_eq_true, Bool.not_eq_false, Int.not_lt, Int.not_le, Nat.not_lt, Nat.not_le, Int.ofNat_lt, Int.ofNat_le, Int.natCast_eq_zero, not_true_eq_false, not_false_eq_true, beq_iff_eq, Bool.not_true, Bool.not_false, ge_iff_le, gt_iff_lt] at hg'); ((try simp (disch := omega) only [hg, go_sem, wrap_n, hn47, en, em, etk, eg, Nat.add_sub_cancel]) <;> (repeat' with_reducible refine And.intro ?_ ?_) <;> (try (with_reducible refine hK _ ?_; clear hK K))))))
                                                            | omega
  refine AWP.loopS (ι := Nat) (fun k => k ≤ ps.length) (fun k => ps.length - k) [5, 6, 22, 23] (fun k => [(7, S (joinL (ps.take k))), (24, I k)]) 0 ?_ (by simp (disch := omega) only [go_sem, wrap_n, joinL]) ?_
  · omega
  intro k hk
  have hkl := joinL_take ps k
  have hgk : (ps.getD k []).length ≤ 40 := by
    by_cases hk2 : k < ps.length
    · exact namedP_len (hn _ (List.mem_append_left _ (mem_getD ps [] hk2)))
    · rw [List.getD_eq_getElem?_getD, List.getElem?_eq_none (by omega)]; exact Nat.zero_le _
  have egd : (ps ++ [p]).getD ps.length default = p := by
    rw [List.getD_eq_getElem?_getD, List.getElem?_append_right (Nat.le_refl _), Nat.sub_self]; rfl
  simp only [go_sem]
  repeat' first
    | with_reducible refine AWP.seq ?_
    | with_reducible refine thenA_n ?_
    | with_reducible refine thenA_r ?_
    | with_reducible refine thenA_e ?_
    | with_reducible refine blkA_n ?_
    | with_reducible refine blkA_r ?_
    | with_reducible refine blkA_e ?_
    | with_reducible refine blkA_x (by decide) ?_
    | with_reducible refine AWP.skip ?_
    | with_reducible refine AWP.ret ?_
    | with_reducible refine AWP.exit ?_
    | with_reducible refine AWP.block ?_
    | (with_reducible refine AWP.cond rfl ?_ ?_ <;> intro hc <;> (try simp only [decide_eq_true_eq, decide_eq_false_iff_not, Bool.and_eq_true, Bool.or_eq_true, Bool.or_eq_false_iff, Bool.and_eq_false_iff, Bool.not_eq_true', Bool.not_eq_false', Bool.true_eq_false, Bool.false_eq_true, Bool.not_eq_true, Bool.not_eq_false, Int.not_lt, Int.not_le, Nat.not_lt, Nat.not_le, Int.ofNat_lt, Int.ofNat_le, Int.natCast_eq_zero, not_true_eq_false, not_false_eq_true, beq_iff_eq, Bool.not_true, Bool.not_false, ge_iff_le, gt_iff_lt] at hc))
    | ((first | with_reducible refine AWP.region tabOk ?_ | with_reducible refine AWP.quietC mixed tabOk (by decide +kernel) ?_ | with_reducible refine AWP.draw mixed tabOk (by decide +kernel) ?_ | with_reducible refine AWP.drawE mixed tabOk (by decide +kernel) ?_); intro K hK; ((try simp (disch := omega) only [go_sem, wrap_n, srow_rgetD, srow, en, eg]) <;> (repeat' with_reducible refine And.intro ?_ ?_) <;> (try (with_reducible refine hK _ ?_; clear hK K))))
    | ((first | (with_reducible refine aunder_i ?_ ?_ <;> intro hg) | with_reducible intro hg) <;> (first | (exfalso; simp at hg; done) | (have hg' := hg; (try simp only [decide_eq_true_eq, decide_eq_false_iff_not, Bool.and_eq_true, Bool.or_eq_true, Bool.or_eq_false_iff, Bool.and_eq_false_iff, Bool.not_eq_true', Bool.not_eq_false', Bool.true_eq_false, Bool.false_eq_true, Bool.not_eq_true, Bool.not_eq_false, Int.not_lt, Int.not_le, Nat.not_lt, Nat.not_le, Int.ofNat_lt, Int.ofNat_le, Int.natCast_eq_zero, not_true_eq_false, not_false_eq_true, beq_iff_eq, Bool.not_true, Bool.not_false, ge_iff_le, gt_iff_lt] at hg'); ((try simp (disch := omega) only [hg, go_sem, wrap_n, srow_rgetD, srow, en, eg]) <;> (repeat' with_reducible refine And.intro ?_ ?_) <;> (try (with_reducible refine hK _ ?_; clear hK K))))))
                                                            | omega
  · refine ⟨k + 1, by omega, by omega, ?_⟩
    have ets : ps.take (k + 1) = ps.take k ++ [ps.getD k []] := take_snoc ps k (by assumption)
    rw [ets, joinL_snoc]
    (refine SImp.same ?_; simp (disch := omega) only [go_sem, wrap_n, Int.natCast_add, true_and])
  · have ek : k = ps.length := by omega
    rw [ek, List.take_length] at hc
    have eps : ps = [] := Decidable.byContradiction fun h => joinL_ne h hc
    have e2 : pathOf ps = [47] := by rw [eps]; rfl
    rw [e2]
    (refine aend_retc ?_ rfl ?_ ?_ ?_ ?_; (focus (first | exact .inl rfl | exact .inr rfl)); (focus ((try simp (disch := omega) only [go_sem, wrap_n, egd]) <;> (try omega) <;> fail)); (focus ((try simp (disch := omega) only [go_sem, wrap_n, egd]) <;> (try omega) <;> fail)); (focus ((try simp (disch := omega) only [go_sem, wrap_n, egd]) <;> (try omega) <;> fail)); (try simp (disch := omega) only [go_sem, wrap_n, egd, I, B, S, AV.d.injEq, DV.int.injEq, DV.bool.injEq, DV.str.injEq, DV.sl.injEq, AV.tup.injEq, AV.agg.injEq, List.cons.injEq, and_true, true_and, and_self]))
  · have ek : k = ps.length := by omega
    subst ek
    rw [List.take_length] at *
    have eps : ps ≠ [] := fun h => hc (by rw [h]; rfl)
    have e2 : pathOf ps = joinL ps := by unfold pathOf; rw [if_neg eps]
    rw [e2]
    (refine aend_retc ?_ rfl ?_ ?_ ?_ ?_; (focus (first | exact .inl rfl | exact .inr rfl)); (focus ((try simp (disch := omega) only [go_sem, wrap_n, egd]) <;> (try omega) <;> fail)); (focus ((try simp (disch := omega) only [go_sem, wrap_n, egd]) <;> (try omega) <;> fail)); (focus ((try simp (disch := omega) only [go_sem, wrap_n, egd]) <;> (try omega) <;> fail)); (try simp (disch := omega) only [go_sem, wrap_n, egd, I, B, S, AV.d.injEq, DV.int.injEq, DV.bool.injEq, DV.str.injEq, DV.sl.injEq, AV.tup.injEq, AV.agg.injEq, List.cons.injEq, and_true, true_and, and_self]))
/-! Depth. -/
def depthP (s : List UInt8) : Int × Int := if goodP s = true then ((stepsOf s).length, 0) else (0, 2)
theorem depth_bad {s : List UInt8} (h : ¬ goodP s = true) : depthP s = (0, 2) := by unfold depthP; rw [if_neg h]
theorem depth_ok {s : List UInt8} (h : goodP s = true) : depthP s = ((((stepsOf s).length : Nat) : Int), 0) := by unfold depthP; rw [if_pos h]
theorem count_joinL {ps : List (List UInt8)} (h : ∀ q, q ∈ ps → (47 : UInt8) ∉ q) : (joinL ps).count 47 = ps.length := by
  induction ps with
  | nil => rfl
  | cons p ps ih =>
    rw [joinL, List.count_cons_self, List.count_append, ih fun q hq => h q (List.mem_cons_of_mem _ hq), List.count_eq_zero.2 (h p (by simp)), List.length_cons, Nat.zero_add]
theorem depth_c (s : List UInt8) (hs : okS s) : acall Tryd.prog [] 43 [S s] (ret (.tup [I (depthP s).1, I (depthP s).2])) := by
  by_cases h : goodP s = true
  case neg =>
    rw [depth_bad h]
    refine acall_of tabOk Tryd.func43 rfl (by kernel_rfl) (by simp [Tryd.ntmps43]) ?_; simp only [Tryd.ntmps43, Tryd.results43, List.toList_toArray, apar, List.length_nil, List.length_cons, Nat.reduceAdd]
    repeat' first
      | with_reducible refine AWP.seq ?_
      | with_reducible refine thenA_n ?_
      | with_reducible refine thenA_r ?_
      | with_reducible refine thenA_e ?_
      | with_reducible refine blkA_n ?_
      | with_reducible refine blkA_r ?_
      | with_reducible refine blkA_e ?_
      | with_reducible refine blkA_x (by decide) ?_
      | with_reducible refine AWP.skip ?_
      | with_reducible refine AWP.ret ?_
      | with_reducible refine AWP.exit ?_
      | with_reducible refine AWP.block ?_
      | (with_reducible refine AWP.cond rfl ?_ ?_ <;> intro hc <;> (try simp only [decide_eq_true_eq, decide_eq_false_iff_not, Bool.and_eq_true, Bool.or_eq_true, Bool.or_eq_false_iff, Bool.and_eq_false_iff, Bool.not_eq_true', Bool.not_eq_false', Bool.true_eq_false, Bool.false_eq_true, Bool.not_eq_true, Bool.not_eq_false, Int.not_lt, Int.not_le, Nat.not_lt, Nat.not_le, Int.ofNat_lt, Int.ofNat_le, Int.natCast_eq_zero, not_true_eq_false, not_false_eq_true, beq_iff_eq, Bool.not_true, Bool.not_false, ge_iff_le, gt_iff_lt] at hc))
      | ((first | with_reducible refine AWP.region tabOk ?_ | with_reducible refine AWP.quietC mixed tabOk (by decide +kernel) ?_ | with_reducible refine AWP.draw mixed tabOk (by decide +kernel) ?_ | with_reducible refine AWP.drawE mixed tabOk (by decide +kernel) ?_); intro K hK; ((try simp (disch := omega) only [go_sem, wrap_n, true_and]) <;> (repeat' with_reducible refine And.intro ?_ ?_) <;> (try (with_reducible refine hK _ ?_; clear hK K))))
      | ((first | refine acallH_sc ((good_c s hs).re (congrArg B (eq_false_of_ne_true h))) rfl rfl ?_ ?_ ?_); (focus ((try simp (disch := omega) only [go_sem, wrap_n, true_and]) <;> (try omega) <;> fail)); (focus ((try simp (disch := omega) only [go_sem, wrap_n, true_and]) <;> (try omega) <;> fail)); ((try simp (disch := omega) only [go_sem, wrap_n, true_and]) <;> (repeat' with_reducible refine And.intro ?_ ?_) <;> (try (with_reducible refine hK _ ?_; clear hK K))))
      | ((first | refine acallQ_sc ((good_c s hs).re (congrArg B (eq_false_of_ne_true h))) rfl rfl ?_ ?_ ?_); (focus ((try simp (disch := omega) only [go_sem, wrap_n, true_and]) <;> (try omega) <;> fail)); (focus ((try simp (disch := omega) only [go_sem, wrap_n, true_and]) <;> (try omega) <;> fail)); ((try simp (disch := omega) only [go_sem, wrap_n, true_and]) <;> (repeat' with_reducible refine And.intro ?_ ?_) <;> (try (with_reducible refine hK _ ?_; clear hK K))))
      | ((first | refine acallH_anyr ((good_c s hs).re (congrArg B (eq_false_of_ne_true h))) rfl ?_ ?_); (focus ((try simp (disch := omega) only [go_sem, wrap_n, true_and]) <;> (try omega) <;> fail)); ((try simp (disch := omega) only [go_sem, wrap_n, true_and]) <;> (repeat' with_reducible refine And.intro ?_ ?_) <;> (try (with_reducible refine hK _ ?_; clear hK K))))
      | ((first | refine acallH_scx ((good_c s hs).re (congrArg B (eq_false_of_ne_true h))) rfl ?_ ?_ | refine acallQ_scx ((good_c s hs).re (congrArg B (eq_false_of_ne_true h))) rfl ?_ ?_ | refine acallH_anyx ((good_c s hs).re (congrArg B (eq_false_of_ne_true h))) ?_ ?_); (focus ((try simp (disch := omega) only [go_sem, wrap_n, true_and]) <;> (try omega) <;> fail)); ((try simp (disch := omega) only [go_sem, wrap_n, true_and]) <;> (repeat' with_reducible refine And.intro ?_ ?_) <;> (try (with_reducible refine hK _ ?_; clear hK K))))
      | ((first | (with_reducible refine aunder_i ?_ ?_ <;> intro hg) | with_reducible intro hg) <;> (first | (exfalso; simp at hg; done) | (have hg' := hg; (try simp only [decide_eq_true_eq, decide_eq_false_iff_not, Bool.and_eq_true, Bool.or_eq_true, Bool.or_eq_false_iff, Bool.and_eq_false_iff, Bool.not_eq_true', Bool.not_eq_false', Bool.true_eq_false, Bool.false_eq_true, Bool.not_eq_true, Bool.not_eq_false, Int.not_lt, Int.not_le, Nat.not_lt, Nat.not_le, Int.ofNat_lt, Int.ofNat_le, Int.natCast_eq_zero, not_true_eq_false, not_false_eq_true, beq_iff_eq, Bool.not_true, Bool.not_false, ge_iff_le, gt_iff_lt] at hg'); ((try simp (disch := omega) only [hg, go_sem, wrap_n, true_and]) <;> (repeat' with_reducible refine And.intro ?_ ?_) <;> (try (with_reducible refine hK _ ?_; clear hK K))))))
                                                              | omega
    (refine aend_retc ?_ rfl ?_ ?_ ?_ ?_; (focus (first | exact .inl rfl | exact .inr rfl)); (focus ((try simp (disch := omega) only [go_sem, wrap_n, true_and]) <;> (try omega) <;> fail)); (focus ((try simp (disch := omega) only [go_sem, wrap_n, true_and]) <;> (try omega) <;> fail)); (focus ((try simp (disch := omega) only [go_sem, wrap_n, true_and]) <;> (try omega) <;> fail)); (try simp (disch := omega) only [go_sem, wrap_n, true_and, I, B, S, AV.d.injEq, DV.int.injEq, DV.bool.injEq, DV.str.injEq, DV.sl.injEq, AV.tup.injEq, AV.agg.injEq, List.cons.injEq, and_true, true_and, and_self]))
  rw [depth_ok h]
  obtain ⟨h1, h2, h3, h4⟩ := good_path h
  have hcnt : ¬ s = [47] → s.count 47 = (stepsOf s).length := fun h0 => by
    have hne : stepsOf s ≠ [] := fun e => h0 (by rw [h1, e]; rfl)
    have e : s = joinL (stepsOf s) := by
      have := h1
      unfold pathOf at this
      rwa [if_neg hne] at this
    have := count_joinL h4
    rwa [← e] at this
  have hroot : s = [47] → (stepsOf s).length = 0 := fun h0 => by rw [h0]; rfl
  refine acall_of tabOk Tryd.func43 rfl (by kernel_rfl) (by simp [Tryd.ntmps43]) ?_; simp only [Tryd.ntmps43, Tryd.results43, List.toList_toArray, apar, List.length_nil, List.length_cons, Nat.reduceAdd]
  repeat' first
    | with_reducible refine AWP.seq ?_
    | with_reducible refine thenA_n ?_
    | with_reducible refine thenA_r ?_
    | with_reducible refine thenA_e ?_
    | with_reducible refine blkA_n ?_
    | with_reducible refine blkA_r ?_
    | with_reducible refine blkA_e ?_
    | with_reducible refine blkA_x (by decide) ?_
    | with_reducible refine AWP.skip ?_
    | with_reducible refine AWP.ret ?_
    | with_reducible refine AWP.exit ?_
    | with_reducible refine AWP.block ?_
    | (with_reducible refine AWP.cond rfl ?_ ?_ <;> intro hc <;> (try simp only [decide_eq_true_eq, decide_eq_false_iff_not, Bool.and_eq_true, Bool.or_eq_true, Bool.or_eq_false_iff, Bool.and_eq_false_iff, Bool.not_eq_true', Bool.not_eq_false', Bool.true_eq_false, Bool.false_eq_true, Bool.not_eq_true, Bool.not_eq_false, Int.not_lt, Int.not_le, Nat.not_lt, Nat.not_le, Int.ofNat_lt, Int.ofNat_le, Int.natCast_eq_zero, not_true_eq_false, not_false_eq_true, beq_iff_eq, Bool.not_true, Bool.not_false, ge_iff_le, gt_iff_lt] at hc))
    | ((first | with_reducible refine AWP.region tabOk ?_ | with_reducible refine AWP.quietC mixed tabOk (by decide +kernel) ?_ | with_reducible refine AWP.draw mixed tabOk (by decide +kernel) ?_ | with_reducible refine AWP.drawE mixed tabOk (by decide +kernel) ?_); intro K hK; ((try simp (disch := omega) only [go_sem, wrap_n, true_and]) <;> (repeat' with_reducible refine And.intro ?_ ?_) <;> (try (with_reducible refine hK _ ?_; clear hK K))))
    | ((first | refine acallH_sc ((good_c s hs).re (congrArg B h)) rfl rfl ?_ ?_ ?_ | refine acallH_sc (count_c s 47) rfl rfl ?_ ?_ ?_); (focus ((try simp (disch := omega) only [go_sem, wrap_n, true_and]) <;> (try omega) <;> fail)); (focus ((try simp (disch := omega) only [go_sem, wrap_n, true_and]) <;> (try omega) <;> fail)); ((try simp (disch := omega) only [go_sem, wrap_n, true_and]) <;> (repeat' with_reducible refine And.intro ?_ ?_) <;> (try (with_reducible refine hK _ ?_; clear hK K))))
    | ((first | refine acallQ_sc ((good_c s hs).re (congrArg B h)) rfl rfl ?_ ?_ ?_ | refine acallQ_sc (count_c s 47) rfl rfl ?_ ?_ ?_); (focus ((try simp (disch := omega) only [go_sem, wrap_n, true_and]) <;> (try omega) <;> fail)); (focus ((try simp (disch := omega) only [go_sem, wrap_n, true_and]) <;> (try omega) <;> fail)); ((try simp (disch := omega) only [go_sem, wrap_n, true_and]) <;> (repeat' with_reducible refine And.intro ?_ ?_) <;> (try (with_reducible refine hK _ ?_; clear hK K))))
    | ((first | refine acallH_anyr ((good_c s hs).re (congrArg B h)) rfl ?_ ?_ | refine acallH_anyr (count_c s 47) rfl ?_ ?_); (focus ((try simp (disch := omega) only [go_sem, wrap_n, true_and]) <;> (try omega) <;> fail)); ((try simp (disch := omega) only [go_sem, wrap_n, true_and]) <;> (repeat' with_reducible refine And.intro ?_ ?_) <;> (try (with_reducible refine hK _ ?_; clear hK K))))
    | ((first | refine acallH_scx ((good_c s hs).re (congrArg B h)) rfl ?_ ?_ | refine acallQ_scx ((good_c s hs).re (congrArg B h)) rfl ?_ ?_ | refine acallH_anyx ((good_c s hs).re (congrArg B h)) ?_ ?_); (focus ((try simp (disch := omega) only [go_sem, wrap_n, true_and]) <;> (try omega) <;> fail)); ((try simp (disch := omega) only [go_sem, wrap_n, true_and]) <;> (repeat' with_reducible refine And.intro ?_ ?_) <;> (try (with_reducible refine hK _ ?_; clear hK K))))
    | ((first | refine acallH_scx (count_c s 47) rfl ?_ ?_ | refine acallQ_scx (count_c s 47) rfl ?_ ?_ | refine acallH_anyx (count_c s 47) ?_ ?_); (focus ((try simp (disch := omega) only [go_sem, wrap_n, true_and]) <;> (try omega) <;> fail)); ((try simp (disch := omega) only [go_sem, wrap_n, true_and]) <;> (repeat' with_reducible refine And.intro ?_ ?_) <;> (try (with_reducible refine hK _ ?_; clear hK K))))
    | ((first | (with_reducible refine aunder_i ?_ ?_ <;> intro hg) | with_reducible intro hg) <;> (first | (exfalso; simp at hg; done) | (have hg' := hg; (try simp only [decide_eq_true_eq, decide_eq_false_iff_not, Bool.and_eq_true, Bool.or_eq_true, Bool.or_eq_false_iff, Bool.and_eq_false_iff, Bool.not_eq_true', Bool.not_eq_false', Bool.true_eq_false, Bool.false_eq_true, Bool.not_eq_true, Bool.not_eq_false, Int.not_lt, Int.not_le, Nat.not_lt, Nat.not_le, Int.ofNat_lt, Int.ofNat_le, Int.natCast_eq_zero, not_true_eq_false, not_false_eq_true, beq_iff_eq, Bool.not_true, Bool.not_false, ge_iff_le, gt_iff_lt] at hg'); ((try simp (disch := omega) only [hg, go_sem, wrap_n, true_and]) <;> (repeat' with_reducible refine And.intro ?_ ?_) <;> (try (with_reducible refine hK _ ?_; clear hK K))))))
                                                            | omega
  · rw [hroot hc]; (refine aend_retc ?_ rfl ?_ ?_ ?_ ?_; (focus (first | exact .inl rfl | exact .inr rfl)); (focus ((try simp (disch := omega) only [go_sem, wrap_n, true_and]) <;> (try omega) <;> fail)); (focus ((try simp (disch := omega) only [go_sem, wrap_n, true_and]) <;> (try omega) <;> fail)); (focus ((try simp (disch := omega) only [go_sem, wrap_n, true_and]) <;> (try omega) <;> fail)); (try simp (disch := omega) only [go_sem, wrap_n, true_and, I, B, S, AV.d.injEq, DV.int.injEq, DV.bool.injEq, DV.str.injEq, DV.sl.injEq, AV.tup.injEq, AV.agg.injEq, List.cons.injEq, and_true, true_and, and_self]))
  · rw [← hcnt hc]; (refine aend_retc ?_ rfl ?_ ?_ ?_ ?_; (focus (first | exact .inl rfl | exact .inr rfl)); (focus ((try simp (disch := omega) only [go_sem, wrap_n, true_and]) <;> (try omega) <;> fail)); (focus ((try simp (disch := omega) only [go_sem, wrap_n, true_and]) <;> (try omega) <;> fail)); (focus ((try simp (disch := omega) only [go_sem, wrap_n, true_and]) <;> (try omega) <;> fail)); (try simp (disch := omega) only [go_sem, wrap_n, true_and, I, B, S, AV.d.injEq, DV.int.injEq, DV.bool.injEq, DV.str.injEq, DV.sl.injEq, AV.tup.injEq, AV.agg.injEq, List.cons.injEq, and_true, true_and, and_self]))
theorem take_pre {ps : List (List UInt8)} {k : Nat} (hk : k < ps.length) : ∃ p, ps.take (k + 1) = ps.take k ++ [p] := ⟨_, take_snoc ps k hk⟩
theorem split_take {ps : List (List UInt8)} (hn : ∀ q, q ∈ ps → namedP q = true) (hl : (pathOf ps).length ≤ 200) {k : Nat} (hk : k < ps.length) : splitP (pathOf (ps.take (k + 1))) = ((pathOf (ps.take k), (splitP (pathOf (ps.take (k + 1)))).1.2), 0) := by
  obtain ⟨p, e⟩ := take_pre hk
  have hl2 := pathOf_take (k + 1) hl
  have hn2 : ∀ q, q ∈ ps.take (k + 1) → namedP q = true := fun q hq => hn q (List.mem_of_mem_take hq)
  rw [e] at *
  rw [split_snoc hn2 hl2]
theorem path_len {ps : List (List UInt8)} (hn : ∀ q, q ∈ ps → namedP q = true) (hl : (pathOf ps).length ≤ 200) : ps.length ≤ 200 := by
  by_cases h0 : ps = []
  · subst h0; simp
  · have e := splitB_pathOf hn h0
    have := splitB_le (pathOf ps)
    rw [e] at this; simp at this; omega
theorem ref_depth_c (s : List UInt8) (hs : s.length ≤ 1048576) : acall Tryd.prog [] 44 [S s] (ret (.tup [I (depthP s).1, I (depthP s).2])) := by
  by_cases h : goodP s = true
  case neg =>
    rw [depth_bad h]
    refine acall_of tabOk Tryd.func44 rfl (by kernel_rfl) (by simp [Tryd.ntmps44]) ?_; simp only [Tryd.ntmps44, Tryd.results44, List.toList_toArray, apar, List.length_nil, List.length_cons, Nat.reduceAdd]
    repeat' first
      | with_reducible refine AWP.seq ?_
      | with_reducible refine thenA_n ?_
      | with_reducible refine thenA_r ?_
      | with_reducible refine thenA_e ?_
      | with_reducible refine blkA_n ?_
      | with_reducible refine blkA_r ?_
      | with_reducible refine blkA_e ?_
      | with_reducible refine blkA_x (by decide) ?_
      | with_reducible refine AWP.skip ?_
      | with_reducible refine AWP.ret ?_
      | with_reducible refine AWP.exit ?_
      | with_reducible refine AWP.block ?_
      | (with_reducible refine AWP.cond rfl ?_ ?_ <;> intro hc <;> (try simp only [decide_eq_true_eq, decide_eq_false_iff_not, Bool.and_eq_true, Bool.or_eq_true, Bool.or_eq_false_iff, Bool.and_eq_false_iff, Bool.not_eq_true', Bool.not_eq_false', Bool.true_eq_false, Bool.false_eq_true, Bool.not_eq_true, Bool.not_eq_false, Int.not_lt, Int.not_le, Nat.not_lt, Nat.not_le, Int.ofNat_lt, Int.ofNat_le, Int.natCast_eq_zero, not_true_eq_false, not_false_eq_true, beq_iff_eq, Bool.not_true, Bool.not_false, ge_iff_le, gt_iff_lt] at hc))
      | ((first | with_reducible refine AWP.region tabOk ?_ | with_reducible refine AWP.quietC mixed tabOk (by decide +kernel) ?_ | with_reducible refine AWP.draw mixed tabOk (by decide +kernel) ?_ | with_reducible refine AWP.drawE mixed tabOk (by decide +kernel) ?_); intro K hK; ((try simp (disch := omega) only [go_sem, wrap_n, true_and]) <;> (repeat' with_reducible refine And.intro ?_ ?_) <;> (try (with_reducible refine hK _ ?_; clear hK K))))
      | ((first | refine acallH_sc ((ref_good_c s hs).re (congrArg B (eq_false_of_ne_true h))) rfl rfl ?_ ?_ ?_); (focus ((try simp (disch := omega) only [go_sem, wrap_n, true_and]) <;> (try omega) <;> fail)); (focus ((try simp (disch := omega) only [go_sem, wrap_n, true_and]) <;> (try omega) <;> fail)); ((try simp (disch := omega) only [go_sem, wrap_n, true_and]) <;> (repeat' with_reducible refine And.intro ?_ ?_) <;> (try (with_reducible refine hK _ ?_; clear hK K))))
      | ((first | refine acallQ_sc ((ref_good_c s hs).re (congrArg B (eq_false_of_ne_true h))) rfl rfl ?_ ?_ ?_); (focus ((try simp (disch := omega) only [go_sem, wrap_n, true_and]) <;> (try omega) <;> fail)); (focus ((try simp (disch := omega) only [go_sem, wrap_n, true_and]) <;> (try omega) <;> fail)); ((try simp (disch := omega) only [go_sem, wrap_n, true_and]) <;> (repeat' with_reducible refine And.intro ?_ ?_) <;> (try (with_reducible refine hK _ ?_; clear hK K))))
      | ((first | refine acallH_anyr ((ref_good_c s hs).re (congrArg B (eq_false_of_ne_true h))) rfl ?_ ?_); (focus ((try simp (disch := omega) only [go_sem, wrap_n, true_and]) <;> (try omega) <;> fail)); ((try simp (disch := omega) only [go_sem, wrap_n, true_and]) <;> (repeat' with_reducible refine And.intro ?_ ?_) <;> (try (with_reducible refine hK _ ?_; clear hK K))))
      | ((first | refine acallH_scx ((ref_good_c s hs).re (congrArg B (eq_false_of_ne_true h))) rfl ?_ ?_ | refine acallQ_scx ((ref_good_c s hs).re (congrArg B (eq_false_of_ne_true h))) rfl ?_ ?_ | refine acallH_anyx ((ref_good_c s hs).re (congrArg B (eq_false_of_ne_true h))) ?_ ?_); (focus ((try simp (disch := omega) only [go_sem, wrap_n, true_and]) <;> (try omega) <;> fail)); ((try simp (disch := omega) only [go_sem, wrap_n, true_and]) <;> (repeat' with_reducible refine And.intro ?_ ?_) <;> (try (with_reducible refine hK _ ?_; clear hK K))))
      | ((first | (with_reducible refine aunder_i ?_ ?_ <;> intro hg) | with_reducible intro hg) <;> (first | (exfalso; simp at hg; done) | (have hg' := hg; (try simp only [decide_eq_true_eq, decide_eq_false_iff_not, Bool.and_eq_true, Bool.or_eq_true, Bool.or_eq_false_iff, Bool.and_eq_false_iff, Bool.not_eq_true', Bool.not_eq_false', Bool.true_eq_false, Bool.false_eq_true, Bool.not_eq_true, Bool.not_eq_false, Int.not_lt, Int.not_le, Nat.not_lt, Nat.not_le, Int.ofNat_lt, Int.ofNat_le, Int.natCast_eq_zero, not_true_eq_false, not_false_eq_true, beq_iff_eq, Bool.not_true, Bool.not_false, ge_iff_le, gt_iff_lt] at hg'); ((try simp (disch := omega) only [hg, go_sem, wrap_n, true_and]) <;> (repeat' with_reducible refine And.intro ?_ ?_) <;> (try (with_reducible refine hK _ ?_; clear hK K))))))
                                                              | omega
    (refine aend_retc ?_ rfl ?_ ?_ ?_ ?_; (focus (first | exact .inl rfl | exact .inr rfl)); (focus ((try simp (disch := omega) only [go_sem, wrap_n, true_and]) <;> (try omega) <;> fail)); (focus ((try simp (disch := omega) only [go_sem, wrap_n, true_and]) <;> (try omega) <;> fail)); (focus ((try simp (disch := omega) only [go_sem, wrap_n, true_and]) <;> (try omega) <;> fail)); (try simp (disch := omega) only [go_sem, wrap_n, true_and, I, B, S, AV.d.injEq, DV.int.injEq, DV.bool.injEq, DV.str.injEq, DV.sl.injEq, AV.tup.injEq, AV.agg.injEq, List.cons.injEq, and_true, true_and, and_self]))
  rw [depth_ok h]
  obtain ⟨h1, h2, h3, h4⟩ := good_path h
  have hgc := (ref_good_c s hs).re (congrArg B h)
  have hl : (pathOf (stepsOf s)).length ≤ 200 := by rw [← h1]; exact h3
  have hpl := path_len h2 hl
  generalize stepsOf s = ps at *
  subst h1
  refine acall_of tabOk Tryd.func44 rfl (by kernel_rfl) (by simp [Tryd.ntmps44]) ?_; simp only [Tryd.ntmps44, Tryd.results44, List.toList_toArray, apar, List.length_nil, List.length_cons, Nat.reduceAdd]
  repeat' first
    | with_reducible refine AWP.seq ?_
    | with_reducible refine thenA_n ?_
    | with_reducible refine thenA_r ?_
    | with_reducible refine thenA_e ?_
    | with_reducible refine blkA_n ?_
    | with_reducible refine blkA_r ?_
    | with_reducible refine blkA_e ?_
    | with_reducible refine blkA_x (by decide) ?_
    | with_reducible refine AWP.skip ?_
    | with_reducible refine AWP.ret ?_
    | with_reducible refine AWP.exit ?_
    | with_reducible refine AWP.block ?_
    | (with_reducible refine AWP.cond rfl ?_ ?_ <;> intro hc <;> (try simp only [decide_eq_true_eq, decide_eq_false_iff_not, Bool.and_eq_true, Bool.or_eq_true, Bool.or_eq_false_iff, Bool.and_eq_false_iff, Bool.not_eq_true', Bool.not_eq_false', Bool.true_eq_false, Bool.false_eq_true, Bool.not_eq_true, Bool.not_eq_false, Int.not_lt, Int.not_le, Nat.not_lt, Nat.not_le, Int.ofNat_lt, Int.ofNat_le, Int.natCast_eq_zero, not_true_eq_false, not_false_eq_true, beq_iff_eq, Bool.not_true, Bool.not_false, ge_iff_le, gt_iff_lt] at hc))
    | ((first | with_reducible refine AWP.region tabOk ?_ | with_reducible refine AWP.quietC mixed tabOk (by decide +kernel) ?_ | with_reducible refine AWP.draw mixed tabOk (by decide +kernel) ?_ | with_reducible refine AWP.drawE mixed tabOk (by decide +kernel) ?_); intro K hK; ((try simp (disch := omega) only [go_sem, wrap_n, true_and]) <;> (repeat' with_reducible refine And.intro ?_ ?_) <;> (try (with_reducible refine hK _ ?_; clear hK K))))
    | ((first | refine acallH_sc (hgc) rfl rfl ?_ ?_ ?_); (focus ((try simp (disch := omega) only [go_sem, wrap_n, true_and]) <;> (try omega) <;> fail)); (focus ((try simp (disch := omega) only [go_sem, wrap_n, true_and]) <;> (try omega) <;> fail)); ((try simp (disch := omega) only [go_sem, wrap_n, true_and]) <;> (repeat' with_reducible refine And.intro ?_ ?_) <;> (try (with_reducible refine hK _ ?_; clear hK K))))
    | ((first | refine acallQ_sc (hgc) rfl rfl ?_ ?_ ?_); (focus ((try simp (disch := omega) only [go_sem, wrap_n, true_and]) <;> (try omega) <;> fail)); (focus ((try simp (disch := omega) only [go_sem, wrap_n, true_and]) <;> (try omega) <;> fail)); ((try simp (disch := omega) only [go_sem, wrap_n, true_and]) <;> (repeat' with_reducible refine And.intro ?_ ?_) <;> (try (with_reducible refine hK _ ?_; clear hK K))))
    | ((first | refine acallH_anyr (hgc) rfl ?_ ?_); (focus ((try simp (disch := omega) only [go_sem, wrap_n, true_and]) <;> (try omega) <;> fail)); ((try simp (disch := omega) only [go_sem, wrap_n, true_and]) <;> (repeat' with_reducible refine And.intro ?_ ?_) <;> (try (with_reducible refine hK _ ?_; clear hK K))))
    | ((first | refine acallH_scx (hgc) rfl ?_ ?_ | refine acallQ_scx (hgc) rfl ?_ ?_ | refine acallH_anyx (hgc) ?_ ?_); (focus ((try simp (disch := omega) only [go_sem, wrap_n, true_and]) <;> (try omega) <;> fail)); ((try simp (disch := omega) only [go_sem, wrap_n, true_and]) <;> (repeat' with_reducible refine And.intro ?_ ?_) <;> (try (with_reducible refine hK _ ?_; clear hK K))))
    | ((first | (with_reducible refine aunder_i ?_ ?_ <;> intro hg) | with_reducible intro hg) <;> (first | (exfalso; simp at hg; done) | (have hg' := hg; (try simp only [decide_eq_true_eq, decide_eq_false_iff_not, Bool.and_eq_true, Bool.or_eq_true, Bool.or_eq_false_iff, Bool.and_eq_false_iff, Bool.not_eq_true', Bool.not_eq_false', Bool.true_eq_false, Bool.false_eq_true, Bool.not_eq_true, Bool.not_eq_false, Int.not_lt, Int.not_le, Nat.not_lt, Nat.not_le, Int.ofNat_lt, Int.ofNat_le, Int.natCast_eq_zero, not_true_eq_false, not_false_eq_true, beq_iff_eq, Bool.not_true, Bool.not_false, ge_iff_le, gt_iff_lt] at hg'); ((try simp (disch := omega) only [hg, go_sem, wrap_n, true_and]) <;> (repeat' with_reducible refine And.intro ?_ ?_) <;> (try (with_reducible refine hK _ ?_; clear hK K))))))
                                                            | omega
  refine AWP.loopS (ι := Nat) (fun j => j ≤ ps.length) (fun j => ps.length - j) [] (fun j => [(0, S (pathOf (ps.take (ps.length - j)))), (4, I j)]) 0 ?_ (by simp (disch := omega) only [go_sem, wrap_n, Nat.sub_zero, List.take_length]) ?_
  · omega
  intro j hj
  simp only [go_sem]
  have hn2 : ∀ q, q ∈ ps.take (ps.length - j) → namedP q = true := fun q hq => h2 q (List.mem_of_mem_take hq)
  have hl2 := pathOf_take (ps.length - j) hl
  by_cases hjl : j = ps.length
  · have e0 : pathOf (ps.take (ps.length - j)) = [47] := by rw [hjl, Nat.sub_self]; rfl
    rw [e0]
    repeat' first
      | with_reducible refine AWP.seq ?_
      | with_reducible refine thenA_n ?_
      | with_reducible refine thenA_r ?_
      | with_reducible refine thenA_e ?_
      | with_reducible refine blkA_n ?_
      | with_reducible refine blkA_r ?_
      | with_reducible refine blkA_e ?_
      | with_reducible refine blkA_x (by decide) ?_
      | with_reducible refine AWP.skip ?_
      | with_reducible refine AWP.ret ?_
      | with_reducible refine AWP.exit ?_
      | with_reducible refine AWP.block ?_
      | (with_reducible refine AWP.cond rfl ?_ ?_ <;> intro hc <;> (try simp only [decide_eq_true_eq, decide_eq_false_iff_not, Bool.and_eq_true, Bool.or_eq_true, Bool.or_eq_false_iff, Bool.and_eq_false_iff, Bool.not_eq_true', Bool.not_eq_false', Bool.true_eq_false, Bool.false_eq_true, Bool.not_eq_true, Bool.not_eq_false, Int.not_lt, Int.not_le, Nat.not_lt, Nat.not_le, Int.ofNat_lt, Int.ofNat_le, Int.natCast_eq_zero, not_true_eq_false, not_false_eq_true, beq_iff_eq, Bool.not_true, Bool.not_false, ge_iff_le, gt_iff_lt] at hc))
      | ((first | with_reducible refine AWP.region tabOk ?_ | with_reducible refine AWP.quietC mixed tabOk (by decide +kernel) ?_ | with_reducible refine AWP.draw mixed tabOk (by decide +kernel) ?_ | with_reducible refine AWP.drawE mixed tabOk (by decide +kernel) ?_); intro K hK; ((try simp (disch := omega) only [go_sem, wrap_n, true_and]) <;> (repeat' with_reducible refine And.intro ?_ ?_) <;> (try (with_reducible refine hK _ ?_; clear hK K))))
      | ((first | (with_reducible refine aunder_i ?_ ?_ <;> intro hg) | with_reducible intro hg) <;> (first | (exfalso; simp at hg; done) | (have hg' := hg; (try simp only [decide_eq_true_eq, decide_eq_false_iff_not, Bool.and_eq_true, Bool.or_eq_true, Bool.or_eq_false_iff, Bool.and_eq_false_iff, Bool.not_eq_true', Bool.not_eq_false', Bool.true_eq_false, Bool.false_eq_true, Bool.not_eq_true, Bool.not_eq_false, Int.not_lt, Int.not_le, Nat.not_lt, Nat.not_le, Int.ofNat_lt, Int.ofNat_le, Int.natCast_eq_zero, not_true_eq_false, not_false_eq_true, beq_iff_eq, Bool.not_true, Bool.not_false, ge_iff_le, gt_iff_lt] at hg'); ((try simp (disch := omega) only [hg, go_sem, wrap_n, true_and]) <;> (repeat' with_reducible refine And.intro ?_ ?_) <;> (try (with_reducible refine hK _ ?_; clear hK K))))))
                                                              | omega
    (refine aend_retc ?_ rfl ?_ ?_ ?_ ?_; (focus (first | exact .inl rfl | exact .inr rfl)); (focus ((try simp (disch := omega) only [go_sem, wrap_n, hjl]) <;> (try omega) <;> fail)); (focus ((try simp (disch := omega) only [go_sem, wrap_n, hjl]) <;> (try omega) <;> fail)); (focus ((try simp (disch := omega) only [go_sem, wrap_n, hjl]) <;> (try omega) <;> fail)); (try simp (disch := omega) only [go_sem, wrap_n, hjl, I, B, S, AV.d.injEq, DV.int.injEq, DV.bool.injEq, DV.str.injEq, DV.sl.injEq, AV.tup.injEq, AV.agg.injEq, List.cons.injEq, and_true, true_and, and_self]))
  have hjlt : j < ps.length := by omega
  have hs47 : ¬ pathOf (ps.take (ps.length - j)) = [47] := fun e => by
    have := congrArg List.length ((pathOf_47 hn2).1 e)
    rw [List.length_take] at this
    simp at this; omega
  have hsp := split_take h2 hl (k := ps.length - (j + 1)) (by omega)
  rw [show ps.length - (j + 1) + 1 = ps.length - j from by omega] at hsp
  have hsc := (ref_split_c (pathOf (ps.take (ps.length - j))) (by omega)).re (by rw [hsp])
  repeat' first
    | with_reducible refine AWP.seq ?_
    | with_reducible refine thenA_n ?_
    | with_reducible refine thenA_r ?_
    | with_reducible refine thenA_e ?_
    | with_reducible refine blkA_n ?_
    | with_reducible refine blkA_r ?_
    | with_reducible refine blkA_e ?_
    | with_reducible refine blkA_x (by decide) ?_
    | with_reducible refine AWP.skip ?_
    | with_reducible refine AWP.ret ?_
    | with_reducible refine AWP.exit ?_
    | with_reducible refine AWP.block ?_
    | (with_reducible refine AWP.cond rfl ?_ ?_ <;> intro hc <;> (try simp only [decide_eq_true_eq, decide_eq_false_iff_not, Bool.and_eq_true, Bool.or_eq_true, Bool.or_eq_false_iff, Bool.and_eq_false_iff, Bool.not_eq_true', Bool.not_eq_false', Bool.true_eq_false, Bool.false_eq_true, Bool.not_eq_true, Bool.not_eq_false, Int.not_lt, Int.not_le, Nat.not_lt, Nat.not_le, Int.ofNat_lt, Int.ofNat_le, Int.natCast_eq_zero, not_true_eq_false, not_false_eq_true, beq_iff_eq, Bool.not_true, Bool.not_false, ge_iff_le, gt_iff_lt] at hc))
    | ((first | with_reducible refine AWP.region tabOk ?_ | with_reducible refine AWP.quietC mixed tabOk (by decide +kernel) ?_ | with_reducible refine AWP.draw mixed tabOk (by decide +kernel) ?_ | with_reducible refine AWP.drawE mixed tabOk (by decide +kernel) ?_); intro K hK; ((try simp (disch := omega) only [go_sem, wrap_n, hs47]) <;> (repeat' with_reducible refine And.intro ?_ ?_) <;> (try (with_reducible refine hK _ ?_; clear hK K))))
    | ((first | refine acallH_sc (hsc) rfl rfl ?_ ?_ ?_); (focus ((try simp (disch := omega) only [go_sem, wrap_n, hs47]) <;> (try omega) <;> fail)); (focus ((try simp (disch := omega) only [go_sem, wrap_n, hs47]) <;> (try omega) <;> fail)); ((try simp (disch := omega) only [go_sem, wrap_n, hs47]) <;> (repeat' with_reducible refine And.intro ?_ ?_) <;> (try (with_reducible refine hK _ ?_; clear hK K))))
    | ((first | refine acallQ_sc (hsc) rfl rfl ?_ ?_ ?_); (focus ((try simp (disch := omega) only [go_sem, wrap_n, hs47]) <;> (try omega) <;> fail)); (focus ((try simp (disch := omega) only [go_sem, wrap_n, hs47]) <;> (try omega) <;> fail)); ((try simp (disch := omega) only [go_sem, wrap_n, hs47]) <;> (repeat' with_reducible refine And.intro ?_ ?_) <;> (try (with_reducible refine hK _ ?_; clear hK K))))
    | ((first | refine acallH_anyr (hsc) rfl ?_ ?_); (focus ((try simp (disch := omega) only [go_sem, wrap_n, hs47]) <;> (try omega) <;> fail)); ((try simp (disch := omega) only [go_sem, wrap_n, hs47]) <;> (repeat' with_reducible refine And.intro ?_ ?_) <;> (try (with_reducible refine hK _ ?_; clear hK K))))
    | ((first | refine acallH_scx (hsc) rfl ?_ ?_ | refine acallQ_scx (hsc) rfl ?_ ?_ | refine acallH_anyx (hsc) ?_ ?_); (focus ((try simp (disch := omega) only [go_sem, wrap_n, hs47]) <;> (try omega) <;> fail)); ((try simp (disch := omega) only [go_sem, wrap_n, hs47]) <;> (repeat' with_reducible refine And.intro ?_ ?_) <;> (try (with_reducible refine hK _ ?_; clear hK K))))
    | ((first | (with_reducible refine aunder_i ?_ ?_ <;> intro hg) | with_reducible intro hg) <;> (first | (exfalso; simp at hg; done) | (have hg' := hg; (try simp only [decide_eq_true_eq, decide_eq_false_iff_not, Bool.and_eq_true, Bool.or_eq_true, Bool.or_eq_false_iff, Bool.and_eq_false_iff, Bool.not_eq_true', Bool.not_eq_false', Bool.true_eq_false, Bool.false_eq_true, Bool.not_eq_true, Bool.not_eq_false, Int.not_lt, Int.not_le, Nat.not_lt, Nat.not_le, Int.ofNat_lt, Int.ofNat_le, Int.natCast_eq_zero, not_true_eq_false, not_false_eq_true, beq_iff_eq, Bool.not_true, Bool.not_false, ge_iff_le, gt_iff_lt] at hg'); ((try simp (disch := omega) only [hg, go_sem, wrap_n, hs47]) <;> (repeat' with_reducible refine And.intro ?_ ?_) <;> (try (with_reducible refine hK _ ?_; clear hK K))))))
                                                            | omega
  refine ⟨j + 1, by omega, by omega, ?_⟩
  (refine SImp.same ?_; simp (disch := omega) only [go_sem, wrap_n, Int.natCast_add, true_and])
theorem splits_known : splitP [47, 97, 47, 98] = (([47, 97], [98]), 0) := by decide +kernel
theorem pathSplits_b (s : List UInt8) (h : s.length ≤ 1048576) : acall Tryd.prog [] 9 [S s] (ret (B true)) := by
  have hs : okS s := by unfold okS; omega
  refine acall_of tabOk Tryd.func9 rfl (by kernel_rfl) (by simp [Tryd.ntmps9]) ?_; simp only [Tryd.ntmps9, Tryd.results9, List.toList_toArray, apar, List.length_nil, List.length_cons, Nat.reduceAdd]
  repeat' first
    | with_reducible refine AWP.seq ?_
    | with_reducible refine thenA_n ?_
    | with_reducible refine thenA_r ?_
    | with_reducible refine thenA_e ?_
    | with_reducible refine blkA_n ?_
    | with_reducible refine blkA_r ?_
    | with_reducible refine blkA_e ?_
    | with_reducible refine blkA_x (by decide) ?_
    | with_reducible refine AWP.skip ?_
    | with_reducible refine AWP.ret ?_
    | with_reducible refine AWP.exit ?_
    | with_reducible refine AWP.block ?_
    | (with_reducible refine AWP.cond rfl ?_ ?_ <;> intro hc <;> (try simp only [decide_eq_true_eq, decide_eq_false_iff_not, Bool.and_eq_true, Bool.or_eq_true, Bool.or_eq_false_iff, Bool.and_eq_false_iff, Bool.not_eq_true', Bool.not_eq_false', Bool.true_eq_false, Bool.false_eq_true, Bool.not_eq_true, Bool.not_eq_false, Int.not_lt, Int.not_le, Nat.not_lt, Nat.not_le, Int.ofNat_lt, Int.ofNat_le, Int.natCast_eq_zero, not_true_eq_false, not_false_eq_true, beq_iff_eq, Bool.not_true, Bool.not_false, ge_iff_le, gt_iff_lt] at hc))
    | ((first | with_reducible refine AWP.region tabOk ?_ | with_reducible refine AWP.quietC mixed tabOk (by decide +kernel) ?_ | with_reducible refine AWP.draw mixed tabOk (by decide +kernel) ?_ | with_reducible refine AWP.drawE mixed tabOk (by decide +kernel) ?_); intro K hK; ((try simp (disch := omega) only [go_sem, wrap_n, true_and]) <;> (repeat' with_reducible refine And.intro ?_ ?_) <;> (try (with_reducible refine hK _ ?_; clear hK K))))
    | ((first | refine acallH_sc (split_c s hs) rfl rfl ?_ ?_ ?_ | refine acallH_sc (ref_split_c s h) rfl rfl ?_ ?_ ?_ | refine acallH_sc (depth_c s hs) rfl rfl ?_ ?_ ?_ | refine acallH_sc (ref_depth_c s h) rfl rfl ?_ ?_ ?_ | refine acallH_sc ((split_c [47, 97, 47, 98] (by unfold okS; decide)).re (by rw [splits_known])) rfl rfl ?_ ?_ ?_); (focus ((try simp (disch := omega) only [go_sem, wrap_n, true_and]) <;> (try omega) <;> fail)); (focus ((try simp (disch := omega) only [go_sem, wrap_n, true_and]) <;> (try omega) <;> fail)); ((try simp (disch := omega) only [go_sem, wrap_n, true_and]) <;> (repeat' with_reducible refine And.intro ?_ ?_) <;> (try (with_reducible refine hK _ ?_; clear hK K))))
    | ((first | refine acallQ_sc (split_c s hs) rfl rfl ?_ ?_ ?_ | refine acallQ_sc (ref_split_c s h) rfl rfl ?_ ?_ ?_ | refine acallQ_sc (depth_c s hs) rfl rfl ?_ ?_ ?_ | refine acallQ_sc (ref_depth_c s h) rfl rfl ?_ ?_ ?_ | refine acallQ_sc ((split_c [47, 97, 47, 98] (by unfold okS; decide)).re (by rw [splits_known])) rfl rfl ?_ ?_ ?_); (focus ((try simp (disch := omega) only [go_sem, wrap_n, true_and]) <;> (try omega) <;> fail)); (focus ((try simp (disch := omega) only [go_sem, wrap_n, true_and]) <;> (try omega) <;> fail)); ((try simp (disch := omega) only [go_sem, wrap_n, true_and]) <;> (repeat' with_reducible refine And.intro ?_ ?_) <;> (try (with_reducible refine hK _ ?_; clear hK K))))
    | ((first | refine acallH_anyr (split_c s hs) rfl ?_ ?_ | refine acallH_anyr (ref_split_c s h) rfl ?_ ?_ | refine acallH_anyr (depth_c s hs) rfl ?_ ?_ | refine acallH_anyr (ref_depth_c s h) rfl ?_ ?_ | refine acallH_anyr ((split_c [47, 97, 47, 98] (by unfold okS; decide)).re (by rw [splits_known])) rfl ?_ ?_); (focus ((try simp (disch := omega) only [go_sem, wrap_n, true_and]) <;> (try omega) <;> fail)); ((try simp (disch := omega) only [go_sem, wrap_n, true_and]) <;> (repeat' with_reducible refine And.intro ?_ ?_) <;> (try (with_reducible refine hK _ ?_; clear hK K))))
    | ((first | refine acallH_scx (split_c s hs) rfl ?_ ?_ | refine acallQ_scx (split_c s hs) rfl ?_ ?_ | refine acallH_anyx (split_c s hs) ?_ ?_); (focus ((try simp (disch := omega) only [go_sem, wrap_n, true_and]) <;> (try omega) <;> fail)); ((try simp (disch := omega) only [go_sem, wrap_n, true_and]) <;> (repeat' with_reducible refine And.intro ?_ ?_) <;> (try (with_reducible refine hK _ ?_; clear hK K))))
    | ((first | refine acallH_scx (ref_split_c s h) rfl ?_ ?_ | refine acallQ_scx (ref_split_c s h) rfl ?_ ?_ | refine acallH_anyx (ref_split_c s h) ?_ ?_); (focus ((try simp (disch := omega) only [go_sem, wrap_n, true_and]) <;> (try omega) <;> fail)); ((try simp (disch := omega) only [go_sem, wrap_n, true_and]) <;> (repeat' with_reducible refine And.intro ?_ ?_) <;> (try (with_reducible refine hK _ ?_; clear hK K))))
    | ((first | refine acallH_scx (depth_c s hs) rfl ?_ ?_ | refine acallQ_scx (depth_c s hs) rfl ?_ ?_ | refine acallH_anyx (depth_c s hs) ?_ ?_); (focus ((try simp (disch := omega) only [go_sem, wrap_n, true_and]) <;> (try omega) <;> fail)); ((try simp (disch := omega) only [go_sem, wrap_n, true_and]) <;> (repeat' with_reducible refine And.intro ?_ ?_) <;> (try (with_reducible refine hK _ ?_; clear hK K))))
    | ((first | refine acallH_scx (ref_depth_c s h) rfl ?_ ?_ | refine acallQ_scx (ref_depth_c s h) rfl ?_ ?_ | refine acallH_anyx (ref_depth_c s h) ?_ ?_); (focus ((try simp (disch := omega) only [go_sem, wrap_n, true_and]) <;> (try omega) <;> fail)); ((try simp (disch := omega) only [go_sem, wrap_n, true_and]) <;> (repeat' with_reducible refine And.intro ?_ ?_) <;> (try (with_reducible refine hK _ ?_; clear hK K))))
    | ((first | refine acallH_scx ((split_c [47, 97, 47, 98] (by unfold okS; decide)).re (by rw [splits_known])) rfl ?_ ?_ | refine acallQ_scx ((split_c [47, 97, 47, 98] (by unfold okS; decide)).re (by rw [splits_known])) rfl ?_ ?_ | refine acallH_anyx ((split_c [47, 97, 47, 98] (by unfold okS; decide)).re (by rw [splits_known])) ?_ ?_); (focus ((try simp (disch := omega) only [go_sem, wrap_n, true_and]) <;> (try omega) <;> fail)); ((try simp (disch := omega) only [go_sem, wrap_n, true_and]) <;> (repeat' with_reducible refine And.intro ?_ ?_) <;> (try (with_reducible refine hK _ ?_; clear hK K))))
    | ((first | (with_reducible refine aunder_i ?_ ?_ <;> intro hg) | with_reducible intro hg) <;> (first | (exfalso; simp at hg; done) | (have hg' := hg; (try simp only [decide_eq_true_eq, decide_eq_false_iff_not, Bool.and_eq_true, Bool.or_eq_true, Bool.or_eq_false_iff, Bool.and_eq_false_iff, Bool.not_eq_true', Bool.not_eq_false', Bool.true_eq_false, Bool.false_eq_true, Bool.not_eq_true, Bool.not_eq_false, Int.not_lt, Int.not_le, Nat.not_lt, Nat.not_le, Int.ofNat_lt, Int.ofNat_le, Int.natCast_eq_zero, not_true_eq_false, not_false_eq_true, beq_iff_eq, Bool.not_true, Bool.not_false, ge_iff_le, gt_iff_lt] at hg'); ((try simp (disch := omega) only [hg, go_sem, wrap_n, true_and]) <;> (repeat' with_reducible refine And.intro ?_ ?_) <;> (try (with_reducible refine hK _ ?_; clear hK K))))))
                                                            | omega
  (refine aend_retc ?_ rfl ?_ ?_ ?_ ?_; (focus (first | exact .inl rfl | exact .inr rfl)); (focus ((try simp (disch := omega) only [go_sem, wrap_n, true_and]) <;> (try omega) <;> fail)); (focus ((try simp (disch := omega) only [go_sem, wrap_n, true_and]) <;> (try omega) <;> fail)); (focus ((try simp (disch := omega) only [go_sem, wrap_n, true_and]) <;> (try omega) <;> fail)); (try simp (disch := omega) only [go_sem, wrap_n, true_and, I, B, S, AV.d.injEq, DV.int.injEq, DV.bool.injEq, DV.str.injEq, DV.sl.injEq, AV.tup.injEq, AV.agg.injEq, List.cons.injEq, and_true, true_and, and_self]))
theorem pathSplits_u (dss : List (List DV)) (h : typeds T 6 Tryd.f9.params.toList dss) (hs : ∀ cs, cs ∈ dss → ∀ c, c ∈ cs → SmallD 1048576 c) : acall Tryd.prog [] 9 (aargs T Tryd.f9.params.toList dss) (fun v _ => v = B true) := by
  rw [Tryd.params9] at h ⊢
  simp only [List.toList_toArray, typeds] at h
  obtain ⟨c0, d0, rfl, h0, rfl⟩ := h
  have s0 := hs c0 (by simp)
  obtain ⟨s, rfl, w_s⟩ := ty_str (m := 5) (by simp only [T_9, ty9]) h0
  have u_s := (s0 _ (List.mem_singleton.2 rfl)).len
  simp only [List.toList_toArray, aargs, aarg, TI.agg_mk, T_9, ty9]
  exact (pathSplits_b s u_s).mono fun _ _ h => h.1
/-! Under. -/
def underP (s t : List UInt8) : Bool := goodP s && (goodP t && (decide ((stepsOf t).length < (stepsOf s).length) && decide ((stepsOf s).take (stepsOf t).length = stepsOf t)))
theorem under_bad {s t : List UInt8} (h : ¬ (goodP s = true ∧ goodP t = true)) : underP s t = false := by
  unfold underP
  rcases hs : goodP s with _ | _ <;> rcases ht : goodP t with _ | _ <;> simp_all
theorem under_ok {s t : List UInt8} (h1 : goodP s = true) (h2 : goodP t = true) : underP s t = (decide ((stepsOf t).length < (stepsOf s).length) && decide ((stepsOf s).take (stepsOf t).length = stepsOf t)) := by
  unfold underP; rw [h1, h2]; rfl
theorem joinL_pre {ps ts : List (List UInt8)} (h1 : ∀ q, q ∈ ps → (47 : UInt8) ∉ q) (h2 : ∀ q, q ∈ ts → (47 : UInt8) ∉ q) :
    ((joinL ts ++ [47]).length ≤ (joinL ps).length ∧ (joinL ps).take (joinL ts ++ [47]).length = joinL ts ++ [47]) ↔ (ts.length < ps.length ∧ ps.take ts.length = ts) := by
  constructor
  · rintro ⟨_, h⟩
    have e : joinL ps = joinL ts ++ 47 :: (joinL ps).drop (joinL ts ++ [47]).length := by
      have := List.take_append_drop (joinL ts ++ [47]).length (joinL ps)
      rw [h, List.append_assoc] at this
      exact this.symm
    have e2 := congrArg splitB e
    rw [splitB_app, splitB_joinL h1, splitB_joinL h2, List.cons_append, List.cons.injEq] at e2
    have e3 := e2.2
    generalize hm : splitB ((joinL ps).drop (joinL ts ++ [47]).length) = m at e3
    have hm0 := splitB_ne ((joinL ps).drop (joinL ts ++ [47]).length)
    rw [hm] at hm0
    subst e3
    have := List.length_pos_iff.2 hm0
    exact ⟨by rw [List.length_append]; omega, List.take_left' rfl⟩
  · rintro ⟨h3, h4⟩
    have e := joinL_app (ps.take ts.length) (ps.drop ts.length)
    rw [List.take_append_drop, h4] at e
    obtain ⟨p, r, hp⟩ : ∃ p r, ps.drop ts.length = p :: r := by
      cases hd : ps.drop ts.length with
      | nil => have := congrArg List.length hd; rw [List.length_drop] at this; simp at this; omega
      | cons p r => exact ⟨p, r, rfl⟩
    rw [hp, joinL] at e
    rw [e]
    refine ⟨by simp, ?_⟩
    rw [show joinL ts ++ 47 :: (p ++ joinL r) = (joinL ts ++ [47]) ++ (p ++ joinL r) by simp]
    exact List.take_left' rfl
theorem under_c (s t : List UInt8) (hs : okS s) (ht : okS t) : acall Tryd.prog [] 25 [S s, S t] (ret (B (underP s t))) := by
  by_cases h1 : goodP s = true
  case neg =>
    rw [under_bad (fun h => h1 h.1)]
    refine acall_of tabOk Tryd.func25 rfl (by kernel_rfl) (by simp [Tryd.ntmps25]) ?_; simp only [Tryd.ntmps25, Tryd.results25, List.toList_toArray, apar, List.length_nil, List.length_cons, Nat.reduceAdd]
    repeat' first
      | with_reducible refine AWP.seq ?_
      | with_reducible refine thenA_n ?_
      | with_reducible refine thenA_r ?_
      | with_reducible refine thenA_e ?_
      | with_reducible refine blkA_n ?_
      | with_reducible refine blkA_r ?_
      | with_reducible refine blkA_e ?_
      | with_reducible refine blkA_x (by decide) ?_
      | with_reducible refine AWP.skip ?_
      | with_reducible refine AWP.ret ?_
      | with_reducible refine AWP.exit ?_
      | with_reducible refine AWP.block ?_
      | (with_reducible refine AWP.cond rfl ?_ ?_ <;> intro hc <;> (try simp only [decide_eq_true_eq, decide_eq_false_iff_not, Bool.and_eq_true, Bool.or_eq_true, Bool.or_eq_false_iff, Bool.and_eq_false_iff, Bool.not_eq_true', Bool.not_eq_false', Bool.true_eq_false, Bool.false_eq_true, Bool.not_eq_true, Bool.not_eq_false, Int.not_lt, Int.not_le, Nat.not_lt, Nat.not_le, Int.ofNat_lt, Int.ofNat_le, Int.natCast_eq_zero, not_true_eq_false, not_false_eq_true, beq_iff_eq, Bool.not_true, Bool.not_false, ge_iff_le, gt_iff_lt] at hc))
      | ((first | with_reducible refine AWP.region tabOk ?_ | with_reducible refine AWP.quietC mixed tabOk (by decide +kernel) ?_ | with_reducible refine AWP.draw mixed tabOk (by decide +kernel) ?_ | with_reducible refine AWP.drawE mixed tabOk (by decide +kernel) ?_); intro K hK; ((try simp (disch := omega) only [go_sem, wrap_n, true_and]) <;> (repeat' with_reducible refine And.intro ?_ ?_) <;> (try (with_reducible refine hK _ ?_; clear hK K))))
      | ((first | refine acallH_sc ((good_c s hs).re (congrArg B (eq_false_of_ne_true h1))) rfl rfl ?_ ?_ ?_); (focus ((try simp (disch := omega) only [go_sem, wrap_n, true_and]) <;> (try omega) <;> fail)); (focus ((try simp (disch := omega) only [go_sem, wrap_n, true_and]) <;> (try omega) <;> fail)); ((try simp (disch := omega) only [go_sem, wrap_n, true_and]) <;> (repeat' with_reducible refine And.intro ?_ ?_) <;> (try (with_reducible refine hK _ ?_; clear hK K))))
      | ((first | refine acallQ_sc ((good_c s hs).re (congrArg B (eq_false_of_ne_true h1))) rfl rfl ?_ ?_ ?_); (focus ((try simp (disch := omega) only [go_sem, wrap_n, true_and]) <;> (try omega) <;> fail)); (focus ((try simp (disch := omega) only [go_sem, wrap_n, true_and]) <;> (try omega) <;> fail)); ((try simp (disch := omega) only [go_sem, wrap_n, true_and]) <;> (repeat' with_reducible refine And.intro ?_ ?_) <;> (try (with_reducible refine hK _ ?_; clear hK K))))
      | ((first | refine acallH_anyr ((good_c s hs).re (congrArg B (eq_false_of_ne_true h1))) rfl ?_ ?_); (focus ((try simp (disch := omega) only [go_sem, wrap_n, true_and]) <;> (try omega) <;> fail)); ((try simp (disch := omega) only [go_sem, wrap_n, true_and]) <;> (repeat' with_reducible refine And.intro ?_ ?_) <;> (try (with_reducible refine hK _ ?_; clear hK K))))
      | ((first | refine acallH_scx ((good_c s hs).re (congrArg B (eq_false_of_ne_true h1))) rfl ?_ ?_ | refine acallQ_scx ((good_c s hs).re (congrArg B (eq_false_of_ne_true h1))) rfl ?_ ?_ | refine acallH_anyx ((good_c s hs).re (congrArg B (eq_false_of_ne_true h1))) ?_ ?_); (focus ((try simp (disch := omega) only [go_sem, wrap_n, true_and]) <;> (try omega) <;> fail)); ((try simp (disch := omega) only [go_sem, wrap_n, true_and]) <;> (repeat' with_reducible refine And.intro ?_ ?_) <;> (try (with_reducible refine hK _ ?_; clear hK K))))
      | ((first | (with_reducible refine aunder_i ?_ ?_ <;> intro hg) | with_reducible intro hg) <;> (first | (exfalso; simp at hg; done) | (have hg' := hg; (try simp only [decide_eq_true_eq, decide_eq_false_iff_not, Bool.and_eq_true, Bool.or_eq_true, Bool.or_eq_false_iff, Bool.and_eq_false_iff, Bool.not_eq_true', Bool.not_eq_false', Bool.true_eq_false, Bool.false_eq_true, Bool.not_eq_true, Bool.not_eq_false, Int.not_lt, Int.not_le, Nat.not_lt, Nat.not_le, Int.ofNat_lt, Int.ofNat_le, Int.natCast_eq_zero, not_true_eq_false, not_false_eq_true, beq_iff_eq, Bool.not_true, Bool.not_false, ge_iff_le, gt_iff_lt] at hg'); ((try simp (disch := omega) only [hg, go_sem, wrap_n, true_and]) <;> (repeat' with_reducible refine And.intro ?_ ?_) <;> (try (with_reducible refine hK _ ?_; clear hK K))))))
                                                              | omega
    (refine aend_retc ?_ rfl ?_ ?_ ?_ ?_; (focus (first | exact .inl rfl | exact .inr rfl)); (focus ((try simp (disch := omega) only [go_sem, wrap_n, true_and]) <;> (try omega) <;> fail)); (focus ((try simp (disch := omega) only [go_sem, wrap_n, true_and]) <;> (try omega) <;> fail)); (focus ((try simp (disch := omega) only [go_sem, wrap_n, true_and]) <;> (try omega) <;> fail)); (try simp (disch := omega) only [go_sem, wrap_n, true_and, I, B, S, AV.d.injEq, DV.int.injEq, DV.bool.injEq, DV.str.injEq, DV.sl.injEq, AV.tup.injEq, AV.agg.injEq, List.cons.injEq, and_true, true_and, and_self]))
  by_cases h2 : goodP t = true
  case neg =>
    rw [under_bad (fun h => h2 h.2)]
    refine acall_of tabOk Tryd.func25 rfl (by kernel_rfl) (by simp [Tryd.ntmps25]) ?_; simp only [Tryd.ntmps25, Tryd.results25, List.toList_toArray, apar, List.length_nil, List.length_cons, Nat.reduceAdd]
    repeat' first
      | with_reducible refine AWP.seq ?_
      | with_reducible refine thenA_n ?_
      | with_reducible refine thenA_r ?_
      | with_reducible refine thenA_e ?_
      | with_reducible refine blkA_n ?_
      | with_reducible refine blkA_r ?_
      | with_reducible refine blkA_e ?_
      | with_reducible refine blkA_x (by decide) ?_
      | with_reducible refine AWP.skip ?_
      | with_reducible refine AWP.ret ?_
      | with_reducible refine AWP.exit ?_
      | with_reducible refine AWP.block ?_
      | (with_reducible refine AWP.cond rfl ?_ ?_ <;> intro hc <;> (try simp only [decide_eq_true_eq, decide_eq_false_iff_not, Bool.and_eq_true, Bool.or_eq_true, Bool.or_eq_false_iff, Bool.and_eq_false_iff, Bool.not_eq_true', Bool.not_eq_false', Bool.true_eq_false, Bool.false_eq_true, Bool.not_eq_true, Bool.not_eq_false, Int.not_lt, Int.not_le, Nat.not_lt, Nat.not_le, Int.ofNat_lt, Int.ofNat_le, Int.natCast_eq_zero, not_true_eq_false, not_false_eq_true, beq_iff_eq, Bool.not_true, Bool.not_false, ge_iff_le, gt_iff_lt] at hc))
      | ((first | with_reducible refine AWP.region tabOk ?_ | with_reducible refine AWP.quietC mixed tabOk (by decide +kernel) ?_ | with_reducible refine AWP.draw mixed tabOk (by decide +kernel) ?_ | with_reducible refine AWP.drawE mixed tabOk (by decide +kernel) ?_); intro K hK; ((try simp (disch := omega) only [go_sem, wrap_n, true_and]) <;> (repeat' with_reducible refine And.intro ?_ ?_) <;> (try (with_reducible refine hK _ ?_; clear hK K))))
      | ((first | refine acallH_sc ((good_c s hs).re (congrArg B h1)) rfl rfl ?_ ?_ ?_ | refine acallH_sc ((good_c t ht).re (congrArg B (eq_false_of_ne_true h2))) rfl rfl ?_ ?_ ?_); (focus ((try simp (disch := omega) only [go_sem, wrap_n, true_and]) <;> (try omega) <;> fail)); (focus ((try simp (disch := omega) only [go_sem, wrap_n, true_and]) <;> (try omega) <;> fail)); ((try simp (disch := omega) only [go_sem, wrap_n, true_and]) <;> (repeat' with_reducible refine And.intro ?_ ?_) <;> (try (with_reducible refine hK _ ?_; clear hK K))))
      | ((first | refine acallQ_sc ((good_c s hs).re (congrArg B h1)) rfl rfl ?_ ?_ ?_ | refine acallQ_sc ((good_c t ht).re (congrArg B (eq_false_of_ne_true h2))) rfl rfl ?_ ?_ ?_); (focus ((try simp (disch := omega) only [go_sem, wrap_n, true_and]) <;> (try omega) <;> fail)); (focus ((try simp (disch := omega) only [go_sem, wrap_n, true_and]) <;> (try omega) <;> fail)); ((try simp (disch := omega) only [go_sem, wrap_n, true_and]) <;> (repeat' with_reducible refine And.intro ?_ ?_) <;> (try (with_reducible refine hK _ ?_; clear hK K))))
      | ((first | refine acallH_anyr ((good_c s hs).re (congrArg B h1)) rfl ?_ ?_ | refine acallH_anyr ((good_c t ht).re (congrArg B (eq_false_of_ne_true h2))) rfl ?_ ?_); (focus ((try simp (disch := omega) only [go_sem, wrap_n, true_and]) <;> (try omega) <;> fail)); ((try simp (disch := omega) only [go_sem, wrap_n, true_and]) <;> (repeat' with_reducible refine And.intro ?_ ?_) <;> (try (with_reducible refine hK _ ?_; clear hK K))))
      | ((first | refine acallH_scx ((good_c s hs).re (congrArg B h1)) rfl ?_ ?_ | refine acallQ_scx ((good_c s hs).re (congrArg B h1)) rfl ?_ ?_ | refine acallH_anyx ((good_c s hs).re (congrArg B h1)) ?_ ?_); (focus ((try simp (disch := omega) only [go_sem, wrap_n, true_and]) <;> (try omega) <;> fail)); ((try simp (disch := omega) only [go_sem, wrap_n, true_and]) <;> (repeat' with_reducible refine And.intro ?_ ?_) <;> (try (with_reducible refine hK _ ?_; clear hK K))))
      | ((first | refine acallH_scx ((good_c t ht).re (congrArg B (eq_false_of_ne_true h2))) rfl ?_ ?_ | refine acallQ_scx ((good_c t ht).re (congrArg B (eq_false_of_ne_true h2))) rfl ?_ ?_ | refine acallH_anyx ((good_c t ht).re (congrArg B (eq_false_of_ne_true h2))) ?_ ?_); (focus ((try simp (disch := omega) only [go_sem, wrap_n, true_and]) <;> (try omega) <;> fail)); ((try simp (disch := omega) only [go_sem, wrap_n, true_and]) <;> (repeat' with_reducible refine And.intro ?_ ?_) <;> (try (with_reducible refine hK _ ?_; clear hK K))))
      | ((first | (with_reducible refine aunder_i ?_ ?_ <;> intro hg) | with_reducible intro hg) <;> (first | (exfalso; simp at hg; done) | (have hg' := hg; (try simp only [decide_eq_true_eq, decide_eq_false_iff_not, Bool.and_eq_true, Bool.or_eq_true, Bool.or_eq_false_iff, Bool.and_eq_false_iff, Bool.not_eq_true', Bool.not_eq_false', Bool.true_eq_false, Bool.false_eq_true, Bool.not_eq_true, Bool.not_eq_false, Int.not_lt, Int.not_le, Nat.not_lt, Nat.not_le, Int.ofNat_lt, Int.ofNat_le, Int.natCast_eq_zero, not_true_eq_false, not_false_eq_true, beq_iff_eq, Bool.not_true, Bool.not_false, ge_iff_le, gt_iff_lt] at hg'); ((try simp (disch := omega) only [hg, go_sem, wrap_n, true_and]) <;> (repeat' with_reducible refine And.intro ?_ ?_) <;> (try (with_reducible refine hK _ ?_; clear hK K))))))
                                                              | omega
    (refine aend_retc ?_ rfl ?_ ?_ ?_ ?_; (focus (first | exact .inl rfl | exact .inr rfl)); (focus ((try simp (disch := omega) only [go_sem, wrap_n, true_and]) <;> (try omega) <;> fail)); (focus ((try simp (disch := omega) only [go_sem, wrap_n, true_and]) <;> (try omega) <;> fail)); (focus ((try simp (disch := omega) only [go_sem, wrap_n, true_and]) <;> (try omega) <;> fail)); (try simp (disch := omega) only [go_sem, wrap_n, true_and, I, B, S, AV.d.injEq, DV.int.injEq, DV.bool.injEq, DV.str.injEq, DV.sl.injEq, AV.tup.injEq, AV.agg.injEq, List.cons.injEq, and_true, true_and, and_self]))
  rw [under_ok h1 h2]
  obtain ⟨a1, a2, a3, a4⟩ := good_path h1
  obtain ⟨b1, b2, b3, b4⟩ := good_path h2
  have c1 := (good_c s hs).re (congrArg B h1)
  have c2 := (good_c t ht).re (congrArg B h2)
  by_cases hst : s = t
  · have e : (decide ((stepsOf t).length < (stepsOf s).length) && decide ((stepsOf s).take (stepsOf t).length = stepsOf t)) = false := by
      rw [hst, decide_eq_false (by omega)]; rfl
    rw [e]
    refine acall_of tabOk Tryd.func25 rfl (by kernel_rfl) (by simp [Tryd.ntmps25]) ?_; simp only [Tryd.ntmps25, Tryd.results25, List.toList_toArray, apar, List.length_nil, List.length_cons, Nat.reduceAdd]
    repeat' first
      | with_reducible refine AWP.seq ?_
      | with_reducible refine thenA_n ?_
      | with_reducible refine thenA_r ?_
      | with_reducible refine thenA_e ?_
      | with_reducible refine blkA_n ?_
      | with_reducible refine blkA_r ?_
      | with_reducible refine blkA_e ?_
      | with_reducible refine blkA_x (by decide) ?_
      | with_reducible refine AWP.skip ?_
      | with_reducible refine AWP.ret ?_
      | with_reducible refine AWP.exit ?_
      | with_reducible refine AWP.block ?_
      | (with_reducible refine AWP.cond rfl ?_ ?_ <;> intro hc <;> (try simp only [decide_eq_true_eq, decide_eq_false_iff_not, Bool.and_eq_true, Bool.or_eq_true, Bool.or_eq_false_iff, Bool.and_eq_false_iff, Bool.not_eq_true', Bool.not_eq_false', Bool.true_eq_false, Bool.false_eq_true, Bool.not_eq_true, Bool.not_eq_false, Int.not_lt, Int.not_le, Nat.not_lt, Nat.not_le, Int.ofNat_lt, Int.ofNat_le, Int.natCast_eq_zero, not_true_eq_false, not_false_eq_true, beq_iff_eq, Bool.not_true, Bool.not_false, ge_iff_le, gt_iff_lt] at hc))
      | ((first | with_reducible refine AWP.region tabOk ?_ | with_reducible refine AWP.quietC mixed tabOk (by decide +kernel) ?_ | with_reducible refine AWP.draw mixed tabOk (by decide +kernel) ?_ | with_reducible refine AWP.drawE mixed tabOk (by decide +kernel) ?_); intro K hK; ((try simp (disch := omega) only [go_sem, wrap_n, hst]) <;> (repeat' with_reducible refine And.intro ?_ ?_) <;> (try (with_reducible refine hK _ ?_; clear hK K))))
      | ((first | refine acallH_sc (c1) rfl rfl ?_ ?_ ?_ | refine acallH_sc (c2) rfl rfl ?_ ?_ ?_); (focus ((try simp (disch := omega) only [go_sem, wrap_n, hst]) <;> (try omega) <;> fail)); (focus ((try simp (disch := omega) only [go_sem, wrap_n, hst]) <;> (try omega) <;> fail)); ((try simp (disch := omega) only [go_sem, wrap_n, hst]) <;> (repeat' with_reducible refine And.intro ?_ ?_) <;> (try (with_reducible refine hK _ ?_; clear hK K))))
      | ((first | refine acallQ_sc (c1) rfl rfl ?_ ?_ ?_ | refine acallQ_sc (c2) rfl rfl ?_ ?_ ?_); (focus ((try simp (disch := omega) only [go_sem, wrap_n, hst]) <;> (try omega) <;> fail)); (focus ((try simp (disch := omega) only [go_sem, wrap_n, hst]) <;> (try omega) <;> fail)); ((try simp (disch := omega) only [go_sem, wrap_n, hst]) <;> (repeat' with_reducible refine And.intro ?_ ?_) <;> (try (with_reducible refine hK _ ?_; clear hK K))))
      | ((first | refine acallH_anyr (c1) rfl ?_ ?_ | refine acallH_anyr (c2) rfl ?_ ?_); (focus ((try simp (disch := omega) only [go_sem, wrap_n, hst]) <;> (try omega) <;> fail)); ((try simp (disch := omega) only [go_sem, wrap_n, hst]) <;> (repeat' with_reducible refine And.intro ?_ ?_) <;> (try (with_reducible refine hK _ ?_; clear hK K))))
      | ((first | refine acallH_scx (c1) rfl ?_ ?_ | refine acallQ_scx (c1) rfl ?_ ?_ | refine acallH_anyx (c1) ?_ ?_); (focus ((try simp (disch := omega) only [go_sem, wrap_n, hst]) <;> (try omega) <;> fail)); ((try simp (disch := omega) only [go_sem, wrap_n, hst]) <;> (repeat' with_reducible refine And.intro ?_ ?_) <;> (try (with_reducible refine hK _ ?_; clear hK K))))
      | ((first | refine acallH_scx (c2) rfl ?_ ?_ | refine acallQ_scx (c2) rfl ?_ ?_ | refine acallH_anyx (c2) ?_ ?_); (focus ((try simp (disch := omega) only [go_sem, wrap_n, hst]) <;> (try omega) <;> fail)); ((try simp (disch := omega) only [go_sem, wrap_n, hst]) <;> (repeat' with_reducible refine And.intro ?_ ?_) <;> (try (with_reducible refine hK _ ?_; clear hK K))))
      | ((first | (with_reducible refine aunder_i ?_ ?_ <;> intro hg) | with_reducible intro hg) <;> (first | (exfalso; simp at hg; done) | (have hg' := hg; (try simp only [decide_eq_true_eq, decide_eq_false_iff_not, Bool.and_eq_true, Bool.or_eq_true, Bool.or_eq_false_iff, Bool.and_eq_false_iff, Bool.not_eq_true', Bool.not_eq_false', Bool.true_eq_false, Bool.false_eq_true, Bool.not_eq_true, Bool.not_eq_false, Int.not_lt, Int.not_le, Nat.not_lt, Nat.not_le, Int.ofNat_lt, Int.ofNat_le, Int.natCast_eq_zero, not_true_eq_false, not_false_eq_true, beq_iff_eq, Bool.not_true, Bool.not_false, ge_iff_le, gt_iff_lt] at hg'); ((try simp (disch := omega) only [hg, go_sem, wrap_n, hst]) <;> (repeat' with_reducible refine And.intro ?_ ?_) <;> (try (with_reducible refine hK _ ?_; clear hK K))))))
                                                              | omega
    (refine aend_retc ?_ rfl ?_ ?_ ?_ ?_; (focus (first | exact .inl rfl | exact .inr rfl)); (focus ((try simp (disch := omega) only [go_sem, wrap_n, true_and]) <;> (try omega) <;> fail)); (focus ((try simp (disch := omega) only [go_sem, wrap_n, true_and]) <;> (try omega) <;> fail)); (focus ((try simp (disch := omega) only [go_sem, wrap_n, true_and]) <;> (try omega) <;> fail)); (try simp (disch := omega) only [go_sem, wrap_n, true_and, I, B, S, AV.d.injEq, DV.int.injEq, DV.bool.injEq, DV.str.injEq, DV.sl.injEq, AV.tup.injEq, AV.agg.injEq, List.cons.injEq, and_true, true_and, and_self]))
  by_cases ht47 : t = [47]
  · have e : (decide ((stepsOf t).length < (stepsOf s).length) && decide ((stepsOf s).take (stepsOf t).length = stepsOf t)) = true := by
      have e0 : stepsOf t = [] := by rw [ht47]; rfl
      have e1 : stepsOf s ≠ [] := fun h => hst (by rw [a1, h, ht47]; rfl)
      rw [e0]; simp [List.length_pos_iff, e1]
    have hst' : ¬ s = [47] := fun h => hst (by rw [h, ht47])
    rw [e]
    refine acall_of tabOk Tryd.func25 rfl (by kernel_rfl) (by simp [Tryd.ntmps25]) ?_; simp only [Tryd.ntmps25, Tryd.results25, List.toList_toArray, apar, List.length_nil, List.length_cons, Nat.reduceAdd]
    repeat' first
      | with_reducible refine AWP.seq ?_
      | with_reducible refine thenA_n ?_
      | with_reducible refine thenA_r ?_
      | with_reducible refine thenA_e ?_
      | with_reducible refine blkA_n ?_
      | with_reducible refine blkA_r ?_
      | with_reducible refine blkA_e ?_
      | with_reducible refine blkA_x (by decide) ?_
      | with_reducible refine AWP.skip ?_
      | with_reducible refine AWP.ret ?_
      | with_reducible refine AWP.exit ?_
      | with_reducible refine AWP.block ?_
      | (with_reducible refine AWP.cond rfl ?_ ?_ <;> intro hc <;> (try simp only [decide_eq_true_eq, decide_eq_false_iff_not, Bool.and_eq_true, Bool.or_eq_true, Bool.or_eq_false_iff, Bool.and_eq_false_iff, Bool.not_eq_true', Bool.not_eq_false', Bool.true_eq_false, Bool.false_eq_true, Bool.not_eq_true, Bool.not_eq_false, Int.not_lt, Int.not_le, Nat.not_lt, Nat.not_le, Int.ofNat_lt, Int.ofNat_le, Int.natCast_eq_zero, not_true_eq_false, not_false_eq_true, beq_iff_eq, Bool.not_true, Bool.not_false, ge_iff_le, gt_iff_lt] at hc))
      | ((first | with_reducible refine AWP.region tabOk ?_ | with_reducible refine AWP.quietC mixed tabOk (by decide +kernel) ?_ | with_reducible refine AWP.draw mixed tabOk (by decide +kernel) ?_ | with_reducible refine AWP.drawE mixed tabOk (by decide +kernel) ?_); intro K hK; ((try simp (disch := omega) only [go_sem, wrap_n, hst', ht47]) <;> (repeat' with_reducible refine And.intro ?_ ?_) <;> (try (with_reducible refine hK _ ?_; clear hK K))))
      | ((first | refine acallH_sc (c1) rfl rfl ?_ ?_ ?_ | refine acallH_sc (c2) rfl rfl ?_ ?_ ?_); (focus ((try simp (disch := omega) only [go_sem, wrap_n, hst', ht47]) <;> (try omega) <;> fail)); (focus ((try simp (disch := omega) only [go_sem, wrap_n, hst', ht47]) <;> (try omega) <;> fail)); ((try simp (disch := omega) only [go_sem, wrap_n, hst', ht47]) <;> (repeat' with_reducible refine And.intro ?_ ?_) <;> (try (with_reducible refine hK _ ?_; clear hK K))))
      | ((first | refine acallQ_sc (c1) rfl rfl ?_ ?_ ?_ | refine acallQ_sc (c2) rfl rfl ?_ ?_ ?_); (focus ((try simp (disch := omega) only [go_sem, wrap_n, hst', ht47]) <;> (try omega) <;> fail)); (focus ((try simp (disch := omega) only [go_sem, wrap_n, hst', ht47]) <;> (try omega) <;> fail)); ((try simp (disch := omega) only [go_sem, wrap_n, hst', ht47]) <;> (repeat' with_reducible refine And.intro ?_ ?_) <;> (try (with_reducible refine hK _ ?_; clear hK K))))
      | ((first | refine acallH_anyr (c1) rfl ?_ ?_ | refine acallH_anyr (c2) rfl ?_ ?_); (focus ((try simp (disch := omega) only [go_sem, wrap_n, hst', ht47]) <;> (try omega) <;> fail)); ((try simp (disch := omega) only [go_sem, wrap_n, hst', ht47]) <;> (repeat' with_reducible refine And.intro ?_ ?_) <;> (try (with_reducible refine hK _ ?_; clear hK K))))
      | ((first | refine acallH_scx (c1) rfl ?_ ?_ | refine acallQ_scx (c1) rfl ?_ ?_ | refine acallH_anyx (c1) ?_ ?_); (focus ((try simp (disch := omega) only [go_sem, wrap_n, hst', ht47]) <;> (try omega) <;> fail)); ((try simp (disch := omega) only [go_sem, wrap_n, hst', ht47]) <;> (repeat' with_reducible refine And.intro ?_ ?_) <;> (try (with_reducible refine hK _ ?_; clear hK K))))
      | ((first | refine acallH_scx (c2) rfl ?_ ?_ | refine acallQ_scx (c2) rfl ?_ ?_ | refine acallH_anyx (c2) ?_ ?_); (focus ((try simp (disch := omega) only [go_sem, wrap_n, hst', ht47]) <;> (try omega) <;> fail)); ((try simp (disch := omega) only [go_sem, wrap_n, hst', ht47]) <;> (repeat' with_reducible refine And.intro ?_ ?_) <;> (try (with_reducible refine hK _ ?_; clear hK K))))
      | ((first | (with_reducible refine aunder_i ?_ ?_ <;> intro hg) | with_reducible intro hg) <;> (first | (exfalso; simp at hg; done) | (have hg' := hg; (try simp only [decide_eq_true_eq, decide_eq_false_iff_not, Bool.and_eq_true, Bool.or_eq_true, Bool.or_eq_false_iff, Bool.and_eq_false_iff, Bool.not_eq_true', Bool.not_eq_false', Bool.true_eq_false, Bool.false_eq_true, Bool.not_eq_true, Bool.not_eq_false, Int.not_lt, Int.not_le, Nat.not_lt, Nat.not_le, Int.ofNat_lt, Int.ofNat_le, Int.natCast_eq_zero, not_true_eq_false, not_false_eq_true, beq_iff_eq, Bool.not_true, Bool.not_false, ge_iff_le, gt_iff_lt] at hg'); ((try simp (disch := omega) only [hg, go_sem, wrap_n, hst', ht47]) <;> (repeat' with_reducible refine And.intro ?_ ?_) <;> (try (with_reducible refine hK _ ?_; clear hK K))))))
                                                              | omega
    (refine aend_retc ?_ rfl ?_ ?_ ?_ ?_; (focus (first | exact .inl rfl | exact .inr rfl)); (focus ((try simp (disch := omega) only [go_sem, wrap_n, true_and]) <;> (try omega) <;> fail)); (focus ((try simp (disch := omega) only [go_sem, wrap_n, true_and]) <;> (try omega) <;> fail)); (focus ((try simp (disch := omega) only [go_sem, wrap_n, true_and]) <;> (try omega) <;> fail)); (try simp (disch := omega) only [go_sem, wrap_n, true_and, I, B, S, AV.d.injEq, DV.int.injEq, DV.bool.injEq, DV.str.injEq, DV.sl.injEq, AV.tup.injEq, AV.agg.injEq, List.cons.injEq, and_true, true_and, and_self]))
  have hts : stepsOf t ≠ [] := fun h => ht47 (by rw [b1, h]; rfl)
  have et : t = joinL (stepsOf t) := by
    have := b1
    unfold pathOf at this
    rwa [if_neg hts] at this
  have hp := (hasPrefix_c s (t ++ [47]) (by unfold okS; simp; omega) hs)
  have key : decide ((t ++ [47]).length ≤ s.length ∧ s.take (t ++ [47]).length = t ++ [47]) = (decide ((stepsOf t).length < (stepsOf s).length) && decide ((stepsOf s).take (stepsOf t).length = stepsOf t)) := by
    rw [Bool.eq_iff_iff, decide_eq_true_eq, Bool.and_eq_true, decide_eq_true_eq, decide_eq_true_eq]
    by_cases hs47 : s = [47]
    · have e0 : stepsOf s = [] := by rw [hs47]; rfl
      rw [e0, hs47]
      have : 0 < t.length := by
        rw [et]; exact List.length_pos_iff.2 (joinL_ne hts)
      refine iff_of_false (fun h => ?_) (fun h => ?_)
      · have h5 : t.length + 1 ≤ 1 := Nat.le_trans (Nat.le_of_eq (by simp)) h.1
        omega
      · exact absurd h.1 (by simp)
    · have hss : stepsOf s ≠ [] := fun h => hs47 (by rw [a1, h]; rfl)
      have es : s = joinL (stepsOf s) := by
        have := a1
        unfold pathOf at this
        rwa [if_neg hss] at this
      have := joinL_pre a4 b4
      rw [← es, ← et] at this
      exact this
  rw [← key]
  refine acall_of tabOk Tryd.func25 rfl (by kernel_rfl) (by simp [Tryd.ntmps25]) ?_; simp only [Tryd.ntmps25, Tryd.results25, List.toList_toArray, apar, List.length_nil, List.length_cons, Nat.reduceAdd]
  repeat' first
    | with_reducible refine AWP.seq ?_
    | with_reducible refine thenA_n ?_
    | with_reducible refine thenA_r ?_
    | with_reducible refine thenA_e ?_
    | with_reducible refine blkA_n ?_
    | with_reducible refine blkA_r ?_
    | with_reducible refine blkA_e ?_
    | with_reducible refine blkA_x (by decide) ?_
    | with_reducible refine AWP.skip ?_
    | with_reducible refine AWP.ret ?_
    | with_reducible refine AWP.exit ?_
    | with_reducible refine AWP.block ?_
    | (with_reducible refine AWP.cond rfl ?_ ?_ <;> intro hc <;> (try simp only [decide_eq_true_eq, decide_eq_false_iff_not, Bool.and_eq_true, Bool.or_eq_true, Bool.or_eq_false_iff, Bool.and_eq_false_iff, Bool.not_eq_true', Bool.not_eq_false', Bool.true_eq_false, Bool.false_eq_true, Bool.not_eq_true, Bool.not_eq_false, Int.not_lt, Int.not_le, Nat.not_lt, Nat.not_le, Int.ofNat_lt, Int.ofNat_le, Int.natCast_eq_zero, not_true_eq_false, not_false_eq_true, beq_iff_eq, Bool.not_true, Bool.not_false, ge_iff_le, gt_iff_lt] at hc))
    | ((first | with_reducible refine AWP.region tabOk ?_ | with_reducible refine AWP.quietC mixed tabOk (by decide +kernel) ?_ | with_reducible refine AWP.draw mixed tabOk (by decide +kernel) ?_ | with_reducible refine AWP.drawE mixed tabOk (by decide +kernel) ?_); intro K hK; ((try simp (disch := omega) only [go_sem, wrap_n, hst, ht47]) <;> (repeat' with_reducible refine And.intro ?_ ?_) <;> (try (with_reducible refine hK _ ?_; clear hK K))))
    | ((first | refine acallH_sc (c1) rfl rfl ?_ ?_ ?_ | refine acallH_sc (c2) rfl rfl ?_ ?_ ?_ | refine acallH_sc (hp) rfl rfl ?_ ?_ ?_); (focus ((try simp (disch := omega) only [go_sem, wrap_n, hst, ht47]) <;> (try omega) <;> fail)); (focus ((try simp (disch := omega) only [go_sem, wrap_n, hst, ht47]) <;> (try omega) <;> fail)); ((try simp (disch := omega) only [go_sem, wrap_n, hst, ht47]) <;> (repeat' with_reducible refine And.intro ?_ ?_) <;> (try (with_reducible refine hK _ ?_; clear hK K))))
    | ((first | refine acallQ_sc (c1) rfl rfl ?_ ?_ ?_ | refine acallQ_sc (c2) rfl rfl ?_ ?_ ?_ | refine acallQ_sc (hp) rfl rfl ?_ ?_ ?_); (focus ((try simp (disch := omega) only [go_sem, wrap_n, hst, ht47]) <;> (try omega) <;> fail)); (focus ((try simp (disch := omega) only [go_sem, wrap_n, hst, ht47]) <;> (try omega) <;> fail)); ((try simp (disch := omega) only [go_sem, wrap_n, hst, ht47]) <;> (repeat' with_reducible refine And.intro ?_ ?_) <;> (try (with_reducible refine hK _ ?_; clear hK K))))
    | ((first | refine acallH_anyr (c1) rfl ?_ ?_ | refine acallH_anyr (c2) rfl ?_ ?_ | refine acallH_anyr (hp) rfl ?_ ?_); (focus ((try simp (disch := omega) only [go_sem, wrap_n, hst, ht47]) <;> (try omega) <;> fail)); ((try simp (disch := omega) only [go_sem, wrap_n, hst, ht47]) <;> (repeat' with_reducible refine And.intro ?_ ?_) <;> (try (with_reducible refine hK _ ?_; clear hK K))))
    | ((first | refine acallH_scx (c1) rfl ?_ ?_ | refine acallQ_scx (c1) rfl ?_ ?_ | refine acallH_anyx (c1) ?_ ?_); (focus ((try simp (disch := omega) only [go_sem, wrap_n, hst, ht47]) <;> (try omega) <;> fail)); ((try simp (disch := omega) only [go_sem, wrap_n, hst, ht47]) <;> (repeat' with_reducible refine And.intro ?_ ?_) <;> (try (with_reducible refine hK _ ?_; clear hK K))))
    | ((first | refine acallH_scx (c2) rfl ?_ ?_ | refine acallQ_scx (c2) rfl ?_ ?_ | refine acallH_anyx (c2) ?_ ?_); (focus ((try simp (disch := omega) only [go_sem, wrap_n, hst, ht47]) <;> (try omega) <;> fail)); ((try simp (disch := omega) only [go_sem, wrap_n, hst, ht47]) <;> (repeat' with_reducible refine And.intro ?_ ?_) <;> (try (with_reducible refine hK _ ?_; clear hK K))))
    | ((first | refine acallH_scx (hp) rfl ?_ ?_ | refine acallQ_scx (hp) rfl ?_ ?_ | refine acallH_anyx (hp) ?_ ?_); (focus ((try simp (disch := omega) only [go_sem, wrap_n, hst, ht47]) <;> (try omega) <;> fail)); ((try simp (disch := omega) only [go_sem, wrap_n, hst, ht47]) <;> (repeat' with_reducible refine And.intro ?_ ?_) <;> (try (with_reducible refine hK _ ?_; clear hK K))))
    | ((first | (with_reducible refine aunder_i ?_ ?_ <;> intro hg) | with_reducible intro hg) <;> (first | (exfalso; simp at hg; done) | (have hg' := hg; (try simp only [decide_eq_true_eq, decide_eq_false_iff_not, Bool.and_eq_true, Bool.or_eq_true, Bool.or_eq_false_iff, Bool.and_eq_false_iff, Bool.not_eq_true', Bool.not_eq_false', Bool.true_eq_false, Bool.false_eq_true, Bool.not_eq_true, Bool.not_eq_false, Int.not_lt, Int.not_le, Nat.not_lt, Nat.not_le, Int.ofNat_lt, Int.ofNat_le, Int.natCast_eq_zero, not_true_eq_false, not_false_eq_true, beq_iff_eq, Bool.not_true, Bool.not_false, ge_iff_le, gt_iff_lt] at hg'); ((try simp (disch := omega) only [hg, go_sem, wrap_n, hst, ht47]) <;> (repeat' with_reducible refine And.intro ?_ ?_) <;> (try (with_reducible refine hK _ ?_; clear hK K))))))
                                                            | omega
  (refine aend_retc ?_ rfl ?_ ?_ ?_ ?_; (focus (first | exact .inl rfl | exact .inr rfl)); (focus ((try simp (disch := omega) only [go_sem, wrap_n, true_and]) <;> (try omega) <;> fail)); (focus ((try simp (disch := omega) only [go_sem, wrap_n, true_and]) <;> (try omega) <;> fail)); (focus ((try simp (disch := omega) only [go_sem, wrap_n, true_and]) <;> (try omega) <;> fail)); (try simp (disch := omega) only [go_sem, wrap_n, true_and, I, B, S, AV.d.injEq, DV.int.injEq, DV.bool.injEq, DV.str.injEq, DV.sl.injEq, AV.tup.injEq, AV.agg.injEq, List.cons.injEq, and_true, true_and, and_self]))
theorem ref_under_c (s t : List UInt8) (hs : s.length ≤ 1048576) (ht : t.length ≤ 1048576) : acall Tryd.prog [] 26 [S s, S t] (ret (B (underP s t))) := by
  by_cases h1 : goodP s = true
  case neg =>
    rw [under_bad (fun h => h1 h.1)]
    refine acall_of tabOk Tryd.func26 rfl (by kernel_rfl) (by simp [Tryd.ntmps26]) ?_; simp only [Tryd.ntmps26, Tryd.results26, List.toList_toArray, apar, List.length_nil, List.length_cons, Nat.reduceAdd]
    repeat' first
      | with_reducible refine AWP.seq ?_
      | with_reducible refine thenA_n ?_
      | with_reducible refine thenA_r ?_
      | with_reducible refine thenA_e ?_
      | with_reducible refine blkA_n ?_
      | with_reducible refine blkA_r ?_
      | with_reducible refine blkA_e ?_
      | with_reducible refine blkA_x (by decide) ?_
      | with_reducible refine AWP.skip ?_
      | with_reducible refine AWP.ret ?_
      | with_reducible refine AWP.exit ?_
      | with_reducible refine AWP.block ?_
      | (with_reducible refine AWP.cond rfl ?_ ?_ <;> intro hc <;> (try simp only [decide_eq_true_eq, decide_eq_false_iff_not, Bool.and_eq_true, Bool.or_eq_true, Bool.or_eq_false_iff, Bool.and_eq_false_iff, Bool.not_eq_true', Bool.not_eq_false', Bool.true_eq_false, Bool.false_eq_true, Bool.not_eq_true, Bool.not_eq_false, Int.not_lt, Int.not_le, Nat.not_lt, Nat.not_le, Int.ofNat_lt, Int.ofNat_le, Int.natCast_eq_zero, not_true_eq_false, not_false_eq_true, beq_iff_eq, Bool.not_true, Bool.not_false, ge_iff_le, gt_iff_lt] at hc))
      | ((first | with_reducible refine AWP.region tabOk ?_ | with_reducible refine AWP.quietC mixed tabOk (by decide +kernel) ?_ | with_reducible refine AWP.draw mixed tabOk (by decide +kernel) ?_ | with_reducible refine AWP.drawE mixed tabOk (by decide +kernel) ?_); intro K hK; ((try simp (disch := omega) only [go_sem, wrap_n, true_and]) <;> (repeat' with_reducible refine And.intro ?_ ?_) <;> (try (with_reducible refine hK _ ?_; clear hK K))))
      | ((first | refine acallH_sc ((ref_good_c s hs).re (congrArg B (eq_false_of_ne_true h1))) rfl rfl ?_ ?_ ?_); (focus ((try simp (disch := omega) only [go_sem, wrap_n, true_and]) <;> (try omega) <;> fail)); (focus ((try simp (disch := omega) only [go_sem, wrap_n, true_and]) <;> (try omega) <;> fail)); ((try simp (disch := omega) only [go_sem, wrap_n, true_and]) <;> (repeat' with_reducible refine And.intro ?_ ?_) <;> (try (with_reducible refine hK _ ?_; clear hK K))))
      | ((first | refine acallQ_sc ((ref_good_c s hs).re (congrArg B (eq_false_of_ne_true h1))) rfl rfl ?_ ?_ ?_); (focus ((try simp (disch := omega) only [go_sem, wrap_n, true_and]) <;> (try omega) <;> fail)); (focus ((try simp (disch := omega) only [go_sem, wrap_n, true_and]) <;> (try omega) <;> fail)); ((try simp (disch := omega) only [go_sem, wrap_n, true_and]) <;> (repeat' with_reducible refine And.intro ?_ ?_) <;> (try (with_reducible refine hK _ ?_; clear hK K))))
      | ((first | refine acallH_anyr ((ref_good_c s hs).re (congrArg B (eq_false_of_ne_true h1))) rfl ?_ ?_); (focus ((try simp (disch := omega) only [go_sem, wrap_n, true_and]) <;> (try omega) <;> fail)); ((try simp (disch := omega) only [go_sem, wrap_n, true_and]) <;> (repeat' with_reducible refine And.intro ?_ ?_) <;> (try (with_reducible refine hK _ ?_; clear hK K))))
      | ((first | refine acallH_scx ((ref_good_c s hs).re (congrArg B (eq_false_of_ne_true h1))) rfl ?_ ?_ | refine acallQ_scx ((ref_good_c s hs).re (congrArg B (eq_false_of_ne_true h1))) rfl ?_ ?_ | refine acallH_anyx ((ref_good_c s hs).re (congrArg B (eq_false_of_ne_true h1))) ?_ ?_); (focus ((try simp (disch := omega) only [go_sem, wrap_n, true_and]) <;> (try omega) <;> fail)); ((try simp (disch := omega) only [go_sem, wrap_n, true_and]) <;> (repeat' with_reducible refine And.intro ?_ ?_) <;> (try (with_reducible refine hK _ ?_; clear hK K))))
      | ((first | (with_reducible refine aunder_i ?_ ?_ <;> intro hg) | with_reducible intro hg) <;> (first | (exfalso; simp at hg; done) | (have hg' := hg; (try simp only [decide_eq_true_eq, decide_eq_false_iff_not, Bool.and_eq_true, Bool.or_eq_true, Bool.or_eq_false_iff, Bool.and_eq_false_iff, Bool.not_eq_true', Bool.not_eq_false', Bool.true_eq_false, Bool.false_eq_true, Bool.not_eq_true, Bool.not_eq_false, Int.not_lt, Int.not_le, Nat.not_lt, Nat.not_le, Int.ofNat_lt, Int.ofNat_le, Int.natCast_eq_zero, not_true_eq_false, not_false_eq_true, beq_iff_eq, Bool.not_true, Bool.not_false, ge_iff_le, gt_iff_lt] at hg'); ((try simp (disch := omega) only [hg, go_sem, wrap_n, true_and]) <;> (repeat' with_reducible refine And.intro ?_ ?_) <;> (try (with_reducible refine hK _ ?_; clear hK K))))))
                                                              | omega
    (refine aend_retc ?_ rfl ?_ ?_ ?_ ?_; (focus (first | exact .inl rfl | exact .inr rfl)); (focus ((try simp (disch := omega) only [go_sem, wrap_n, true_and]) <;> (try omega) <;> fail)); (focus ((try simp (disch := omega) only [go_sem, wrap_n, true_and]) <;> (try omega) <;> fail)); (focus ((try simp (disch := omega) only [go_sem, wrap_n, true_and]) <;> (try omega) <;> fail)); (try simp (disch := omega) only [go_sem, wrap_n, true_and, I, B, S, AV.d.injEq, DV.int.injEq, DV.bool.injEq, DV.str.injEq, DV.sl.injEq, AV.tup.injEq, AV.agg.injEq, List.cons.injEq, and_true, true_and, and_self]))
  by_cases h2 : goodP t = true
  case neg =>
    rw [under_bad (fun h => h2 h.2)]
    refine acall_of tabOk Tryd.func26 rfl (by kernel_rfl) (by simp [Tryd.ntmps26]) ?_; simp only [Tryd.ntmps26, Tryd.results26, List.toList_toArray, apar, List.length_nil, List.length_cons, Nat.reduceAdd]
    repeat' first
      | with_reducible refine AWP.seq ?_
      | with_reducible refine thenA_n ?_
      | with_reducible refine thenA_r ?_
      | with_reducible refine thenA_e ?_
      | with_reducible refine blkA_n ?_
      | with_reducible refine blkA_r ?_
      | with_reducible refine blkA_e ?_
      | with_reducible refine blkA_x (by decide) ?_
      | with_reducible refine AWP.skip ?_
      | with_reducible refine AWP.ret ?_
      | with_reducible refine AWP.exit ?_
      | with_reducible refine AWP.block ?_
      | (with_reducible refine AWP.cond rfl ?_ ?_ <;> intro hc <;> (try simp only [decide_eq_true_eq, decide_eq_false_iff_not, Bool.and_eq_true, Bool.or_eq_true, Bool.or_eq_false_iff, Bool.and_eq_false_iff, Bool.not_eq_true', Bool.not_eq_false', Bool.true_eq_false, Bool.false_eq_true, Bool.not_eq_true, Bool.not_eq_false, Int.not_lt, Int.not_le, Nat.not_lt, Nat.not_le, Int.ofNat_lt, Int.ofNat_le, Int.natCast_eq_zero, not_true_eq_false, not_false_eq_true, beq_iff_eq, Bool.not_true, Bool.not_false, ge_iff_le, gt_iff_lt] at hc))
      | ((first | with_reducible refine AWP.region tabOk ?_ | with_reducible refine AWP.quietC mixed tabOk (by decide +kernel) ?_ | with_reducible refine AWP.draw mixed tabOk (by decide +kernel) ?_ | with_reducible refine AWP.drawE mixed tabOk (by decide +kernel) ?_); intro K hK; ((try simp (disch := omega) only [go_sem, wrap_n, true_and]) <;> (repeat' with_reducible refine And.intro ?_ ?_) <;> (try (with_reducible refine hK _ ?_; clear hK K))))
      | ((first | refine acallH_sc ((ref_good_c s hs).re (congrArg B h1)) rfl rfl ?_ ?_ ?_ | refine acallH_sc ((ref_good_c t ht).re (congrArg B (eq_false_of_ne_true h2))) rfl rfl ?_ ?_ ?_); (focus ((try simp (disch := omega) only [go_sem, wrap_n, true_and]) <;> (try omega) <;> fail)); (focus ((try simp (disch := omega) only [go_sem, wrap_n, true_and]) <;> (try omega) <;> fail)); ((try simp (disch := omega) only [go_sem, wrap_n, true_and]) <;> (repeat' with_reducible refine And.intro ?_ ?_) <;> (try (with_reducible refine hK _ ?_; clear hK K))))
      | ((first | refine acallQ_sc ((ref_good_c s hs).re (congrArg B h1)) rfl rfl ?_ ?_ ?_ | refine acallQ_sc ((ref_good_c t ht).re (congrArg B (eq_false_of_ne_true h2))) rfl rfl ?_ ?_ ?_); (focus ((try simp (disch := omega) only [go_sem, wrap_n, true_and]) <;> (try omega) <;> fail)); (focus ((try simp (disch := omega) only [go_sem, wrap_n, true_and]) <;> (try omega) <;> fail)); ((try simp (disch := omega) only [go_sem, wrap_n, true_and]) <;> (repeat' with_reducible refine And.intro ?_ ?_) <;> (try (with_reducible refine hK _ ?_; clear hK K))))
      | ((first | refine acallH_anyr ((ref_good_c s hs).re (congrArg B h1)) rfl ?_ ?_ | refine acallH_anyr ((ref_good_c t ht).re (congrArg B (eq_false_of_ne_true h2))) rfl ?_ ?_); (focus ((try simp (disch := omega) only [go_sem, wrap_n, true_and]) <;> (try omega) <;> fail)); ((try simp (disch := omega) only [go_sem, wrap_n, true_and]) <;> (repeat' with_reducible refine And.intro ?_ ?_) <;> (try (with_reducible refine hK _ ?_; clear hK K))))
      | ((first | refine acallH_scx ((ref_good_c s hs).re (congrArg B h1)) rfl ?_ ?_ | refine acallQ_scx ((ref_good_c s hs).re (congrArg B h1)) rfl ?_ ?_ | refine acallH_anyx ((ref_good_c s hs).re (congrArg B h1)) ?_ ?_); (focus ((try simp (disch := omega) only [go_sem, wrap_n, true_and]) <;> (try omega) <;> fail)); ((try simp (disch := omega) only [go_sem, wrap_n, true_and]) <;> (repeat' with_reducible refine And.intro ?_ ?_) <;> (try (with_reducible refine hK _ ?_; clear hK K))))
      | ((first | refine acallH_scx ((ref_good_c t ht).re (congrArg B (eq_false_of_ne_true h2))) rfl ?_ ?_ | refine acallQ_scx ((ref_good_c t ht).re (congrArg B (eq_false_of_ne_true h2))) rfl ?_ ?_ | refine acallH_anyx ((ref_good_c t ht).re (congrArg B (eq_false_of_ne_true h2))) ?_ ?_); (focus ((try simp (disch := omega) only [go_sem, wrap_n, true_and]) <;> (try omega) <;> fail)); ((try simp (disch := omega) only [go_sem, wrap_n, true_and]) <;> (repeat' with_reducible refine And.intro ?_ ?_) <;> (try (with_reducible refine hK _ ?_; clear hK K))))
      | ((first | (with_reducible refine aunder_i ?_ ?_ <;> intro hg) | with_reducible intro hg) <;> (first | (exfalso; simp at hg; done) | (have hg' := hg; (try simp only [decide_eq_true_eq, decide_eq_false_iff_not, Bool.and_eq_true, Bool.or_eq_true, Bool.or_eq_false_iff, Bool.and_eq_false_iff, Bool.not_eq_true', Bool.not_eq_false', Bool.true_eq_false, Bool.false_eq_true, Bool.not_eq_true, Bool.not_eq_false, Int.not_lt, Int.not_le, Nat.not_lt, Nat.not_le, Int.ofNat_lt, Int.ofNat_le, Int.natCast_eq_zero, not_true_eq_false, not_false_eq_true, beq_iff_eq, Bool.not_true, Bool.not_false, ge_iff_le, gt_iff_lt] at hg'); ((try simp (disch := omega) only [hg, go_sem, wrap_n, true_and]) <;> (repeat' with_reducible refine And.intro ?_ ?_) <;> (try (with_reducible refine hK _ ?_; clear hK K))))))
                                                              | omega
    (refine aend_retc ?_ rfl ?_ ?_ ?_ ?_; (focus (first | exact .inl rfl | exact .inr rfl)); (focus ((try simp (disch := omega) only [go_sem, wrap_n, true_and]) <;> (try omega) <;> fail)); (focus ((try simp (disch := omega) only [go_sem, wrap_n, true_and]) <;> (try omega) <;> fail)); (focus ((try simp (disch := omega) only [go_sem, wrap_n, true_and]) <;> (try omega) <;> fail)); (try simp (disch := omega) only [go_sem, wrap_n, true_and, I, B, S, AV.d.injEq, DV.int.injEq, DV.bool.injEq, DV.str.injEq, DV.sl.injEq, AV.tup.injEq, AV.agg.injEq, List.cons.injEq, and_true, true_and, and_self]))
  rw [under_ok h1 h2]
  obtain ⟨a1, a2, a3, a4⟩ := good_path h1
  obtain ⟨b1, b2, b3, b4⟩ := good_path h2
  have c1 := (ref_good_c s hs).re (congrArg B h1)
  have c2 := (ref_good_c t ht).re (congrArg B h2)
  have hl : (pathOf (stepsOf s)).length ≤ 200 := by rw [← a1]; exact a3
  have hpl := path_len a2 hl
  generalize stepsOf s = ps at *
  generalize stepsOf t = ts at *
  subst a1
  refine acall_of tabOk Tryd.func26 rfl (by kernel_rfl) (by simp [Tryd.ntmps26]) ?_; simp only [Tryd.ntmps26, Tryd.results26, List.toList_toArray, apar, List.length_nil, List.length_cons, Nat.reduceAdd]
  repeat' first
    | with_reducible refine AWP.seq ?_
    | with_reducible refine thenA_n ?_
    | with_reducible refine thenA_r ?_
    | with_reducible refine thenA_e ?_
    | with_reducible refine blkA_n ?_
    | with_reducible refine blkA_r ?_
    | with_reducible refine blkA_e ?_
    | with_reducible refine blkA_x (by decide) ?_
    | with_reducible refine AWP.skip ?_
    | with_reducible refine AWP.ret ?_
    | with_reducible refine AWP.exit ?_
    | with_reducible refine AWP.block ?_
    | (with_reducible refine AWP.cond rfl ?_ ?_ <;> intro hc <;> (try simp only [decide_eq_true_eq, decide_eq_false_iff_not, Bool.and_eq_true, Bool.or_eq_true, Bool.or_eq_false_iff, Bool.and_eq_false_iff, Bool.not_eq_true', Bool.not_eq_false', Bool.true_eq_false, Bool.false_eq_true, Bool.not_eq_true, Bool.not_eq_false, Int.not_lt, Int.not_le, Nat.not_lt, Nat.not_le, Int.ofNat_lt, Int.ofNat_le, Int.natCast_eq_zero, not_true_eq_false, not_false_eq_true, beq_iff_eq, Bool.not_true, Bool.not_false, ge_iff_le, gt_iff_lt] at hc))
    | ((first | with_reducible refine AWP.region tabOk ?_ | with_reducible refine AWP.quietC mixed tabOk (by decide +kernel) ?_ | with_reducible refine AWP.draw mixed tabOk (by decide +kernel) ?_ | with_reducible refine AWP.drawE mixed tabOk (by decide +kernel) ?_); intro K hK; ((try simp (disch := omega) only [go_sem, wrap_n, true_and]) <;> (repeat' with_reducible refine And.intro ?_ ?_) <;> (try (with_reducible refine hK _ ?_; clear hK K))))
    | ((first | refine acallH_sc (c1) rfl rfl ?_ ?_ ?_ | refine acallH_sc (c2) rfl rfl ?_ ?_ ?_); (focus ((try simp (disch := omega) only [go_sem, wrap_n, true_and]) <;> (try omega) <;> fail)); (focus ((try simp (disch := omega) only [go_sem, wrap_n, true_and]) <;> (try omega) <;> fail)); ((try simp (disch := omega) only [go_sem, wrap_n, true_and]) <;> (repeat' with_reducible refine And.intro ?_ ?_) <;> (try (with_reducible refine hK _ ?_; clear hK K))))
    | ((first | refine acallQ_sc (c1) rfl rfl ?_ ?_ ?_ | refine acallQ_sc (c2) rfl rfl ?_ ?_ ?_); (focus ((try simp (disch := omega) only [go_sem, wrap_n, true_and]) <;> (try omega) <;> fail)); (focus ((try simp (disch := omega) only [go_sem, wrap_n, true_and]) <;> (try omega) <;> fail)); ((try simp (disch := omega) only [go_sem, wrap_n, true_and]) <;> (repeat' with_reducible refine And.intro ?_ ?_) <;> (try (with_reducible refine hK _ ?_; clear hK K))))
    | ((first | refine acallH_anyr (c1) rfl ?_ ?_ | refine acallH_anyr (c2) rfl ?_ ?_); (focus ((try simp (disch := omega) only [go_sem, wrap_n, true_and]) <;> (try omega) <;> fail)); ((try simp (disch := omega) only [go_sem, wrap_n, true_and]) <;> (repeat' with_reducible refine And.intro ?_ ?_) <;> (try (with_reducible refine hK _ ?_; clear hK K))))
    | ((first | refine acallH_scx (c1) rfl ?_ ?_ | refine acallQ_scx (c1) rfl ?_ ?_ | refine acallH_anyx (c1) ?_ ?_); (focus ((try simp (disch := omega) only [go_sem, wrap_n, true_and]) <;> (try omega) <;> fail)); ((try simp (disch := omega) only [go_sem, wrap_n, true_and]) <;> (repeat' with_reducible refine And.intro ?_ ?_) <;> (try (with_reducible refine hK _ ?_; clear hK K))))
    | ((first | refine acallH_scx (c2) rfl ?_ ?_ | refine acallQ_scx (c2) rfl ?_ ?_ | refine acallH_anyx (c2) ?_ ?_); (focus ((try simp (disch := omega) only [go_sem, wrap_n, true_and]) <;> (try omega) <;> fail)); ((try simp (disch := omega) only [go_sem, wrap_n, true_and]) <;> (repeat' with_reducible refine And.intro ?_ ?_) <;> (try (with_reducible refine hK _ ?_; clear hK K))))
    | ((first | (with_reducible refine aunder_i ?_ ?_ <;> intro hg) | with_reducible intro hg) <;> (first | (exfalso; simp at hg; done) | (have hg' := hg; (try simp only [decide_eq_true_eq, decide_eq_false_iff_not, Bool.and_eq_true, Bool.or_eq_true, Bool.or_eq_false_iff, Bool.and_eq_false_iff, Bool.not_eq_true', Bool.not_eq_false', Bool.true_eq_false, Bool.false_eq_true, Bool.not_eq_true, Bool.not_eq_false, Int.not_lt, Int.not_le, Nat.not_lt, Nat.not_le, Int.ofNat_lt, Int.ofNat_le, Int.natCast_eq_zero, not_true_eq_false, not_false_eq_true, beq_iff_eq, Bool.not_true, Bool.not_false, ge_iff_le, gt_iff_lt] at hg'); ((try simp (disch := omega) only [hg, go_sem, wrap_n, true_and]) <;> (repeat' with_reducible refine And.intro ?_ ?_) <;> (try (with_reducible refine hK _ ?_; clear hK K))))))
                                                            | omega
  refine AWP.loopS (ι := Nat) (fun j => j ≤ ps.length ∧ ∀ k, k < ps.length → ps.length - j ≤ k → ps.take k ≠ ts) (fun j => ps.length - j) [1] (fun j => [(0, S (pathOf (ps.take (ps.length - j))))]) 0 ?_ (by simp (disch := omega) only [go_sem, wrap_n, Nat.sub_zero, List.take_length]) ?_
  · exact ⟨by omega, fun k h3 h4 => by omega⟩
  intro j ⟨hj, hno⟩
  simp only [go_sem]
  have hn2 : ∀ q, q ∈ ps.take (ps.length - j) → namedP q = true := fun q hq => a2 q (List.mem_of_mem_take hq)
  have hl2 := pathOf_take (ps.length - j) hl
  by_cases hjl : j = ps.length
  · have e0 : pathOf (ps.take (ps.length - j)) = [47] := by rw [hjl, Nat.sub_self]; rfl
    have e : (decide (ts.length < ps.length) && decide (ps.take ts.length = ts)) = false := by
      rw [← Bool.not_eq_true, Bool.and_eq_true, decide_eq_true_eq, decide_eq_true_eq]
      rintro ⟨h3, h4⟩
      exact hno ts.length h3 (by omega) h4
    rw [e0, e]
    repeat' first
      | with_reducible refine AWP.seq ?_
      | with_reducible refine thenA_n ?_
      | with_reducible refine thenA_r ?_
      | with_reducible refine thenA_e ?_
      | with_reducible refine blkA_n ?_
      | with_reducible refine blkA_r ?_
      | with_reducible refine blkA_e ?_
      | with_reducible refine blkA_x (by decide) ?_
      | with_reducible refine AWP.skip ?_
      | with_reducible refine AWP.ret ?_
      | with_reducible refine AWP.exit ?_
      | with_reducible refine AWP.block ?_
      | (with_reducible refine AWP.cond rfl ?_ ?_ <;> intro hc <;> (try simp only [decide_eq_true_eq, decide_eq_false_iff_not, Bool.and_eq_true, Bool.or_eq_true, Bool.or_eq_false_iff, Bool.and_eq_false_iff, Bool.not_eq_true', Bool.not_eq_false', Bool.true_eq_false, Bool.false_eq_true, Bool.not_eq_true, Bool.not_eq_false, Int.not_lt, Int.not_le, Nat.not_lt, Nat.not_le, Int.ofNat_lt, Int.ofNat_le, Int.natCast_eq_zero, not_true_eq_false, not_false_eq_true, beq_iff_eq, Bool.not_true, Bool.not_false, ge_iff_le, gt_iff_lt] at hc))
      | ((first | with_reducible refine AWP.region tabOk ?_ | with_reducible refine AWP.quietC mixed tabOk (by decide +kernel) ?_ | with_reducible refine AWP.draw mixed tabOk (by decide +kernel) ?_ | with_reducible refine AWP.drawE mixed tabOk (by decide +kernel) ?_); intro K hK; ((try simp (disch := omega) only [go_sem, wrap_n, true_and]) <;> (repeat' with_reducible refine And.intro ?_ ?_) <;> (try (with_reducible refine hK _ ?_; clear hK K))))
      | ((first | (with_reducible refine aunder_i ?_ ?_ <;> intro hg) | with_reducible intro hg) <;> (first | (exfalso; simp at hg; done) | (have hg' := hg; (try simp only [decide_eq_true_eq, decide_eq_false_iff_not, Bool.and_eq_true, Bool.or_eq_true, Bool.or_eq_false_iff, Bool.and_eq_false_iff, Bool.not_eq_true', Bool.not_eq_false', Bool.true_eq_false, Bool.false_eq_true, Bool.not_eq_true, Bool.not_eq_false, Int.not_lt, Int.not_le, Nat.not_lt, Nat.not_le, Int.ofNat_lt, Int.ofNat_le, Int.natCast_eq_zero, not_true_eq_false, not_false_eq_true, beq_iff_eq, Bool.not_true, Bool.not_false, ge_iff_le, gt_iff_lt] at hg'); ((try simp (disch := omega) only [hg, go_sem, wrap_n, true_and]) <;> (repeat' with_reducible refine And.intro ?_ ?_) <;> (try (with_reducible refine hK _ ?_; clear hK K))))))
                                                              | omega
    (refine aend_retc ?_ rfl ?_ ?_ ?_ ?_; (focus (first | exact .inl rfl | exact .inr rfl)); (focus ((try simp (disch := omega) only [go_sem, wrap_n, true_and]) <;> (try omega) <;> fail)); (focus ((try simp (disch := omega) only [go_sem, wrap_n, true_and]) <;> (try omega) <;> fail)); (focus ((try simp (disch := omega) only [go_sem, wrap_n, true_and]) <;> (try omega) <;> fail)); (try simp (disch := omega) only [go_sem, wrap_n, true_and, I, B, S, AV.d.injEq, DV.int.injEq, DV.bool.injEq, DV.str.injEq, DV.sl.injEq, AV.tup.injEq, AV.agg.injEq, List.cons.injEq, and_true, true_and, and_self]))
  have hjlt : j < ps.length := by omega
  have hs47 : ¬ pathOf (ps.take (ps.length - j)) = [47] := fun e => by
    have := congrArg List.length ((pathOf_47 hn2).1 e)
    rw [List.length_take] at this
    simp at this; omega
  have hsp := split_take a2 hl (k := ps.length - (j + 1)) (by omega)
  rw [show ps.length - (j + 1) + 1 = ps.length - j from by omega] at hsp
  have hsc := (ref_split_c (pathOf (ps.take (ps.length - j))) (by omega)).re (by rw [hsp])
  have hinj : pathOf (ps.take (ps.length - (j + 1))) = t ↔ ps.take (ps.length - (j + 1)) = ts := by
    have hn3 : ∀ q, q ∈ ps.take (ps.length - (j + 1)) → namedP q = true := fun q hq => a2 q (List.mem_of_mem_take hq)
    constructor
    · intro e
      rw [b1] at e
      have := congrArg stepsOf e
      rwa [steps_pathOf hn3, steps_pathOf b2] at this
    · intro e
      rw [e, ← b1]
  repeat' first
    | with_reducible refine AWP.seq ?_
    | with_reducible refine thenA_n ?_
    | with_reducible refine thenA_r ?_
    | with_reducible refine thenA_e ?_
    | with_reducible refine blkA_n ?_
    | with_reducible refine blkA_r ?_
    | with_reducible refine blkA_e ?_
    | with_reducible refine blkA_x (by decide) ?_
    | with_reducible refine AWP.skip ?_
    | with_reducible refine AWP.ret ?_
    | with_reducible refine AWP.exit ?_
    | with_reducible refine AWP.block ?_
    | (with_reducible refine AWP.cond rfl ?_ ?_ <;> intro hc <;> (try simp only [decide_eq_true_eq, decide_eq_false_iff_not, Bool.and_eq_true, Bool.or_eq_true, Bool.or_eq_false_iff, Bool.and_eq_false_iff, Bool.not_eq_true', Bool.not_eq_false', Bool.true_eq_false, Bool.false_eq_true, Bool.not_eq_true, Bool.not_eq_false, Int.not_lt, Int.not_le, Nat.not_lt, Nat.not_le, Int.ofNat_lt, Int.ofNat_le, Int.natCast_eq_zero, not_true_eq_false, not_false_eq_true, beq_iff_eq, Bool.not_true, Bool.not_false, ge_iff_le, gt_iff_lt] at hc))
    | ((first | with_reducible refine AWP.region tabOk ?_ | with_reducible refine AWP.quietC mixed tabOk (by decide +kernel) ?_ | with_reducible refine AWP.draw mixed tabOk (by decide +kernel) ?_ | with_reducible refine AWP.drawE mixed tabOk (by decide +kernel) ?_); intro K hK; ((try simp (disch := omega) only [go_sem, wrap_n, hs47]) <;> (repeat' with_reducible refine And.intro ?_ ?_) <;> (try (with_reducible refine hK _ ?_; clear hK K))))
    | ((first | refine acallH_sc (hsc) rfl rfl ?_ ?_ ?_); (focus ((try simp (disch := omega) only [go_sem, wrap_n, hs47]) <;> (try omega) <;> fail)); (focus ((try simp (disch := omega) only [go_sem, wrap_n, hs47]) <;> (try omega) <;> fail)); ((try simp (disch := omega) only [go_sem, wrap_n, hs47]) <;> (repeat' with_reducible refine And.intro ?_ ?_) <;> (try (with_reducible refine hK _ ?_; clear hK K))))
    | ((first | refine acallQ_sc (hsc) rfl rfl ?_ ?_ ?_); (focus ((try simp (disch := omega) only [go_sem, wrap_n, hs47]) <;> (try omega) <;> fail)); (focus ((try simp (disch := omega) only [go_sem, wrap_n, hs47]) <;> (try omega) <;> fail)); ((try simp (disch := omega) only [go_sem, wrap_n, hs47]) <;> (repeat' with_reducible refine And.intro ?_ ?_) <;> (try (with_reducible refine hK _ ?_; clear hK K))))
    | ((first | refine acallH_anyr (hsc) rfl ?_ ?_); (focus ((try simp (disch := omega) only [go_sem, wrap_n, hs47]) <;> (try omega) <;> fail)); ((try simp (disch := omega) only [go_sem, wrap_n, hs47]) <;> (repeat' with_reducible refine And.intro ?_ ?_) <;> (try (with_reducible refine hK _ ?_; clear hK K))))
    | ((first | refine acallH_scx (hsc) rfl ?_ ?_ | refine acallQ_scx (hsc) rfl ?_ ?_ | refine acallH_anyx (hsc) ?_ ?_); (focus ((try simp (disch := omega) only [go_sem, wrap_n, hs47]) <;> (try omega) <;> fail)); ((try simp (disch := omega) only [go_sem, wrap_n, hs47]) <;> (repeat' with_reducible refine And.intro ?_ ?_) <;> (try (with_reducible refine hK _ ?_; clear hK K))))
    | ((first | (with_reducible refine aunder_i ?_ ?_ <;> intro hg) | with_reducible intro hg) <;> (first | (exfalso; simp at hg; done) | (have hg' := hg; (try simp only [decide_eq_true_eq, decide_eq_false_iff_not, Bool.and_eq_true, Bool.or_eq_true, Bool.or_eq_false_iff, Bool.and_eq_false_iff, Bool.not_eq_true', Bool.not_eq_false', Bool.true_eq_false, Bool.false_eq_true, Bool.not_eq_true, Bool.not_eq_false, Int.not_lt, Int.not_le, Nat.not_lt, Nat.not_le, Int.ofNat_lt, Int.ofNat_le, Int.natCast_eq_zero, not_true_eq_false, not_false_eq_true, beq_iff_eq, Bool.not_true, Bool.not_false, ge_iff_le, gt_iff_lt] at hg'); ((try simp (disch := omega) only [hg, go_sem, wrap_n, hs47]) <;> (repeat' with_reducible refine And.intro ?_ ?_) <;> (try (with_reducible refine hK _ ?_; clear hK K))))))
                                                            | omega
  · have e2 := hinj.1 hc
    have e3 : ts.length = ps.length - (j + 1) := by rw [← e2, List.length_take]; omega
    have e : (decide (ts.length < ps.length) && decide (ps.take ts.length = ts)) = true := by
      rw [decide_eq_true (p := ts.length < ps.length) (by omega), e3, decide_eq_true e2]; rfl
    rw [e]
    (refine aend_retc ?_ rfl ?_ ?_ ?_ ?_; (focus (first | exact .inl rfl | exact .inr rfl)); (focus ((try simp (disch := omega) only [go_sem, wrap_n, true_and]) <;> (try omega) <;> fail)); (focus ((try simp (disch := omega) only [go_sem, wrap_n, true_and]) <;> (try omega) <;> fail)); (focus ((try simp (disch := omega) only [go_sem, wrap_n, true_and]) <;> (try omega) <;> fail)); (try simp (disch := omega) only [go_sem, wrap_n, true_and, I, B, S, AV.d.injEq, DV.int.injEq, DV.bool.injEq, DV.str.injEq, DV.sl.injEq, AV.tup.injEq, AV.agg.injEq, List.cons.injEq, and_true, true_and, and_self]))
  · refine ⟨j + 1, ⟨by omega, fun k h3 h4 => ?_⟩, by omega, ?_⟩
    · by_cases ek : k = ps.length - (j + 1)
      · subst ek; exact fun h => hc (hinj.2 h)
      · exact hno k h3 (by omega)
    (refine SImp.same ?_; simp (disch := omega) only [go_sem, wrap_n, Int.natCast_add, true_and])
theorem under_known : underP [47, 97] [47] = true := by decide +kernel
theorem pathUnders_b (s t : List UInt8) (hs : s.length ≤ 1048576) (ht : t.length ≤ 1048576) : acall Tryd.prog [] 5 [S s, S t] (ret (B true)) := by
  have hs' : okS s := by unfold okS; omega
  have ht' : okS t := by unfold okS; omega
  refine acall_of tabOk Tryd.func5 rfl (by kernel_rfl) (by simp [Tryd.ntmps5]) ?_; simp only [Tryd.ntmps5, Tryd.results5, List.toList_toArray, apar, List.length_nil, List.length_cons, Nat.reduceAdd]
  repeat' first
    | with_reducible refine AWP.seq ?_
    | with_reducible refine thenA_n ?_
    | with_reducible refine thenA_r ?_
    | with_reducible refine thenA_e ?_
    | with_reducible refine blkA_n ?_
    | with_reducible refine blkA_r ?_
    | with_reducible refine blkA_e ?_
    | with_reducible refine blkA_x (by decide) ?_
    | with_reducible refine AWP.skip ?_
    | with_reducible refine AWP.ret ?_
    | with_reducible refine AWP.exit ?_
    | with_reducible refine AWP.block ?_
    | (with_reducible refine AWP.cond rfl ?_ ?_ <;> intro hc <;> (try simp only [decide_eq_true_eq, decide_eq_false_iff_not, Bool.and_eq_true, Bool.or_eq_true, Bool.or_eq_false_iff, Bool.and_eq_false_iff, Bool.not_eq_true', Bool.not_eq_false', Bool.true_eq_false, Bool.false_eq_true, Bool.not_eq_true, Bool.not_eq_false, Int.not_lt, Int.not_le, Nat.not_lt, Nat.not_le, Int.ofNat_lt, Int.ofNat_le, Int.natCast_eq_zero, not_true_eq_false, not_false_eq_true, beq_iff_eq, Bool.not_true, Bool.not_false, ge_iff_le, gt_iff_lt] at hc))
    | ((first | with_reducible refine AWP.region tabOk ?_ | with_reducible refine AWP.quietC mixed tabOk (by decide +kernel) ?_ | with_reducible refine AWP.draw mixed tabOk (by decide +kernel) ?_ | with_reducible refine AWP.drawE mixed tabOk (by decide +kernel) ?_); intro K hK; ((try simp (disch := omega) only [go_sem, wrap_n, true_and]) <;> (repeat' with_reducible refine And.intro ?_ ?_) <;> (try (with_reducible refine hK _ ?_; clear hK K))))
    | ((first | refine acallH_sc (under_c s t hs' ht') rfl rfl ?_ ?_ ?_ | refine acallH_sc (ref_under_c s t hs ht) rfl rfl ?_ ?_ ?_ | refine acallH_sc ((under_c [47, 97] [47] (by unfold okS; decide) (by unfold okS; decide)).re (by rw [under_known])) rfl rfl ?_ ?_ ?_); (focus ((try simp (disch := omega) only [go_sem, wrap_n, true_and]) <;> (try omega) <;> fail)); (focus ((try simp (disch := omega) only [go_sem, wrap_n, true_and]) <;> (try omega) <;> fail)); ((try simp (disch := omega) only [go_sem, wrap_n, true_and]) <;> (repeat' with_reducible refine And.intro ?_ ?_) <;> (try (with_reducible refine hK _ ?_; clear hK K))))
    | ((first | refine acallQ_sc (under_c s t hs' ht') rfl rfl ?_ ?_ ?_ | refine acallQ_sc (ref_under_c s t hs ht) rfl rfl ?_ ?_ ?_ | refine acallQ_sc ((under_c [47, 97] [47] (by unfold okS; decide) (by unfold okS; decide)).re (by rw [under_known])) rfl rfl ?_ ?_ ?_); (focus ((try simp (disch := omega) only [go_sem, wrap_n, true_and]) <;> (try omega) <;> fail)); (focus ((try simp (disch := omega) only [go_sem, wrap_n, true_and]) <;> (try omega) <;> fail)); ((try simp (disch := omega) only [go_sem, wrap_n, true_and]) <;> (repeat' with_reducible refine And.intro ?_ ?_) <;> (try (with_reducible refine hK _ ?_; clear hK K))))
    | ((first | refine acallH_anyr (under_c s t hs' ht') rfl ?_ ?_ | refine acallH_anyr (ref_under_c s t hs ht) rfl ?_ ?_ | refine acallH_anyr ((under_c [47, 97] [47] (by unfold okS; decide) (by unfold okS; decide)).re (by rw [under_known])) rfl ?_ ?_); (focus ((try simp (disch := omega) only [go_sem, wrap_n, true_and]) <;> (try omega) <;> fail)); ((try simp (disch := omega) only [go_sem, wrap_n, true_and]) <;> (repeat' with_reducible refine And.intro ?_ ?_) <;> (try (with_reducible refine hK _ ?_; clear hK K))))
    | ((first | refine acallH_scx (under_c s t hs' ht') rfl ?_ ?_ | refine acallQ_scx (under_c s t hs' ht') rfl ?_ ?_ | refine acallH_anyx (under_c s t hs' ht') ?_ ?_); (focus ((try simp (disch := omega) only [go_sem, wrap_n, true_and]) <;> (try omega) <;> fail)); ((try simp (disch := omega) only [go_sem, wrap_n, true_and]) <;> (repeat' with_reducible refine And.intro ?_ ?_) <;> (try (with_reducible refine hK _ ?_; clear hK K))))
    | ((first | refine acallH_scx (ref_under_c s t hs ht) rfl ?_ ?_ | refine acallQ_scx (ref_under_c s t hs ht) rfl ?_ ?_ | refine acallH_anyx (ref_under_c s t hs ht) ?_ ?_); (focus ((try simp (disch := omega) only [go_sem, wrap_n, true_and]) <;> (try omega) <;> fail)); ((try simp (disch := omega) only [go_sem, wrap_n, true_and]) <;> (repeat' with_reducible refine And.intro ?_ ?_) <;> (try (with_reducible refine hK _ ?_; clear hK K))))
    | ((first | refine acallH_scx ((under_c [47, 97] [47] (by unfold okS; decide) (by unfold okS; decide)).re (by rw [under_known])) rfl ?_ ?_ | refine acallQ_scx ((under_c [47, 97] [47] (by unfold okS; decide) (by unfold okS; decide)).re (by rw [under_known])) rfl ?_ ?_ | refine acallH_anyx ((under_c [47, 97] [47] (by unfold okS; decide) (by unfold okS; decide)).re (by rw [under_known])) ?_ ?_); (focus ((try simp (disch := omega) only [go_sem, wrap_n, true_and]) <;> (try omega) <;> fail)); ((try simp (disch := omega) only [go_sem, wrap_n, true_and]) <;> (repeat' with_reducible refine And.intro ?_ ?_) <;> (try (with_reducible refine hK _ ?_; clear hK K))))
    | ((first | (with_reducible refine aunder_i ?_ ?_ <;> intro hg) | with_reducible intro hg) <;> (first | (exfalso; simp at hg; done) | (have hg' := hg; (try simp only [decide_eq_true_eq, decide_eq_false_iff_not, Bool.and_eq_true, Bool.or_eq_true, Bool.or_eq_false_iff, Bool.and_eq_false_iff, Bool.not_eq_true', Bool.not_eq_false', Bool.true_eq_false, Bool.false_eq_true, Bool.not_eq_true, Bool.not_eq_false, Int.not_lt, Int.not_le, Nat.not_lt, Nat.not_le, Int.ofNat_lt, Int.ofNat_le, Int.natCast_eq_zero, not_true_eq_false, not_false_eq_true, beq_iff_eq, Bool.not_true, Bool.not_false, ge_iff_le, gt_iff_lt] at hg'); ((try simp (disch := omega) only [hg, go_sem, wrap_n, true_and]) <;> (repeat' with_reducible refine And.intro ?_ ?_) <;> (try (with_reducible refine hK _ ?_; clear hK K))))))
                                                            | omega
  (refine aend_retc ?_ rfl ?_ ?_ ?_ ?_; (focus (first | exact .inl rfl | exact .inr rfl)); (focus ((try simp (disch := omega) only [go_sem, wrap_n, true_and]) <;> (try omega) <;> fail)); (focus ((try simp (disch := omega) only [go_sem, wrap_n, true_and]) <;> (try omega) <;> fail)); (focus ((try simp (disch := omega) only [go_sem, wrap_n, true_and]) <;> (try omega) <;> fail)); (try simp (disch := omega) only [go_sem, wrap_n, true_and, I, B, S, AV.d.injEq, DV.int.injEq, DV.bool.injEq, DV.str.injEq, DV.sl.injEq, AV.tup.injEq, AV.agg.injEq, List.cons.injEq, and_true, true_and, and_self]))
theorem pathUnders_u (dss : List (List DV)) (h : typeds T 6 Tryd.f5.params.toList dss) (hs : ∀ cs, cs ∈ dss → ∀ c, c ∈ cs → SmallD 1048576 c) : acall Tryd.prog [] 5 (aargs T Tryd.f5.params.toList dss) (fun v _ => v = B true) := by
  rw [Tryd.params5] at h ⊢
  simp only [List.toList_toArray, typeds] at h
  obtain ⟨c0, d0, rfl, h0, c1, d1, rfl, h1, rfl⟩ := h
  have s0 := hs c0 (by simp)
  have s1 := hs c1 (by simp)
  obtain ⟨s, rfl, w_s⟩ := ty_str (m := 5) (by simp only [T_9, ty9]) h0
  obtain ⟨top, rfl, w_top⟩ := ty_str (m := 5) (by simp only [T_9, ty9]) h1
  have u_s := (s0 _ (List.mem_singleton.2 rfl)).len
  have u_top := (s1 _ (List.mem_singleton.2 rfl)).len
  simp only [List.toList_toArray, aargs, aarg, TI.agg_mk, T_9, ty9]
  exact (pathUnders_b s top u_s u_top).mono fun _ _ h => h.1
end Go.Proofs.YtecbkeddfjalcaaDoor
