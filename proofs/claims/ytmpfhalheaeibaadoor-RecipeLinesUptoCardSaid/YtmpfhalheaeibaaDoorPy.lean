/- Contracts of path.Split, path.Depth, path.Under and their references. No condition. -/
import Derived.Test.YtmpfhalheaeibaaDoorPj
namespace Go.Proofs.YtmpfhalheaeibaaDoor
set_option linter.unusedVariables false
set_option linter.unusedSimpArgs false
open Go Go.RowKit
set_option maxRecDepth 100000
set_option linter.unusedSimpArgs false

/-- The text of steps. -/
def joinL : List (List UInt8) → List UInt8
  | [] => []
  | p :: ps => 47 :: (p ++ joinL ps)
def pathOf (ps : List (List UInt8)) : List UInt8 := if ps = [] then [47] else joinL ps
theorem joinL_app (a b : List (List UInt8)) : joinL (a ++ b) = joinL a ++ joinL b := by
  induction a with
  | nil => rfl
  | cons p a ih => simp [joinL, ih]
theorem splitB_47 (b : List UInt8) : splitB (47 :: b) = [] :: splitB b := by simp [splitB]
theorem splitB_other {c : UInt8} (h : ¬ c = 47) (r : List UInt8) : splitB (c :: r) = match splitB r with
    | p :: ps => (c :: p) :: ps
    | [] => [[c]] := by simp only [splitB, if_neg h]; cases splitB r <;> rfl
theorem splitB_app (a b : List UInt8) : splitB (a ++ 47 :: b) = splitB a ++ splitB b := by
  induction a with
  | nil => exact splitB_47 b
  | cons c a ih =>
    by_cases h : c = 47
    · subst h
      rw [List.cons_append, splitB_47, splitB_47, ih]; rfl
    · rw [List.cons_append, splitB_other h, splitB_other h, ih]
      cases hs : splitB a with
      | nil => exact absurd hs (splitB_ne a)
      | cons p ps => rfl
theorem splitB_no {p : List UInt8} (h : (47 : UInt8) ∉ p) : splitB p = [p] := by
  induction p with
  | nil => rfl
  | cons c p ih =>
    rw [List.mem_cons, not_or] at h
    rw [splitB_other (fun e => h.1 e.symm), ih h.2]
theorem splitB_join {p : List UInt8} {ps : List (List UInt8)} (hp : (47 : UInt8) ∉ p) (h : ∀ q, q ∈ ps → (47 : UInt8) ∉ q) : splitB (p ++ joinL ps) = p :: ps := by
  induction ps generalizing p with
  | nil => rw [joinL, List.append_nil, splitB_no hp]
  | cons q ps ih =>
    rw [joinL, splitB_app, splitB_no hp, ih (h q (by simp)) (fun x hx => h x (List.mem_cons_of_mem _ hx))]; rfl
theorem splitB_joinL {ps : List (List UInt8)} (h : ∀ q, q ∈ ps → (47 : UInt8) ∉ q) : splitB (joinL ps) = [] :: ps :=
  splitB_join (p := []) (by simp) h
theorem join_splitB : ∀ (r : List UInt8), ∃ q qs, splitB r = q :: qs ∧ r = q ++ joinL qs
  | [] => ⟨[], [], rfl, rfl⟩
  | c :: r => by
    obtain ⟨q, qs, e1, e2⟩ := join_splitB r
    by_cases h : c = 47
    · subst h
      exact ⟨[], q :: qs, by rw [splitB_47, e1], by rw [e2]; rfl⟩
    · refine ⟨c :: q, qs, ?_, by rw [e2]; rfl⟩
      rw [splitB_other h, e1]
theorem named_no {p : List UInt8} (h : namedP p = true) : (47 : UInt8) ∉ p := by
  intro hm
  unfold namedP at h
  rw [Bool.and_eq_true, List.all_eq_true] at h
  have := h.1 _ hm
  revert this; decide
/-- A good path's steps. -/
def stepsOf (s : List UInt8) : List (List UInt8) := if s = [47] then [] else splitB (s.drop 1)
theorem good_path {s : List UInt8} (h : goodP s = true) : s = pathOf (stepsOf s) ∧ (∀ q, q ∈ stepsOf s → namedP q = true) ∧ s.length ≤ 200 ∧ ∀ q, q ∈ stepsOf s → (47 : UInt8) ∉ q := by
  have hl := goodP_len h
  have key : s = pathOf (stepsOf s) ∧ (∀ q, q ∈ stepsOf s → namedP q = true) := by
    unfold stepsOf
    by_cases h47 : s = [47]
    · rw [if_pos h47]
      exact ⟨by rw [h47]; rfl, by simp⟩
    · rw [if_neg h47]
      unfold goodP at h
      rw [decide_eq_false h47, Bool.false_or, Bool.and_eq_true, Bool.and_eq_true, decide_eq_true_eq, decide_eq_true_eq] at h
      obtain ⟨_, ⟨h1, h2⟩, h3⟩ := h
      cases s with
      | nil => simp at h1
      | cons c r =>
        have hc : c = 47 := by simpa using h2
        subst hc
        obtain ⟨q, qs, e1, e2⟩ := join_splitB r
        refine ⟨?_, fun x hx => ?_⟩
        · show 47 :: r = pathOf (splitB r)
          rw [e1]
          unfold pathOf
          rw [if_neg (by simp), joinL, ← e2]
        · unfold allNamed at h3
          exact List.all_eq_true.1 h3 x hx
  exact ⟨key.1, key.2, hl, fun q hq => named_no (key.2 q hq)⟩
theorem joinL_ne {ps : List (List UInt8)} (h : ps ≠ []) : joinL ps ≠ [] := by
  cases ps with
  | nil => exact absurd rfl h
  | cons p ps => simp [joinL]
theorem joinL_47 {ps : List (List UInt8)} (hn : ∀ q, q ∈ ps → namedP q = true) : joinL ps ≠ [47] := by
  cases ps with
  | nil => simp [joinL]
  | cons p ps =>
    intro h
    have hp := hn p (by simp)
    rw [joinL, List.cons.injEq] at h
    have h2 := List.append_eq_nil_iff.1 h.2
    rw [h2.1] at hp
    revert hp; decide
theorem pathOf_47 {ps : List (List UInt8)} (hn : ∀ q, q ∈ ps → namedP q = true) : pathOf ps = [47] ↔ ps = [] := by
  unfold pathOf
  split
  · rename_i h; exact iff_of_true rfl h
  · rename_i h; exact iff_of_false (joinL_47 hn) h
theorem steps_pathOf {ps : List (List UInt8)} (hn : ∀ q, q ∈ ps → namedP q = true) : stepsOf (pathOf ps) = ps := by
  unfold stepsOf
  split
  · rename_i h; exact ((pathOf_47 hn).1 h).symm
  · rename_i h
    have h0 : ps ≠ [] := fun e => h ((pathOf_47 hn).2 e)
    unfold pathOf
    rw [if_neg h0]
    cases ps with
    | nil => exact absurd rfl h0
    | cons p ps =>
      show splitB (p ++ joinL ps) = _
      exact splitB_join (named_no (hn p (by simp))) fun q hq => named_no (hn q (List.mem_cons_of_mem _ hq))
theorem splitB_pathOf {ps : List (List UInt8)} (h : ∀ q, q ∈ ps → namedP q = true) (h0 : ps ≠ []) : splitB (pathOf ps) = [] :: ps := by
  unfold pathOf
  rw [if_neg h0]
  exact splitB_joinL fun q hq => named_no (h q hq)
theorem good_pathOf {ps : List (List UInt8)} (hn : ∀ q, q ∈ ps → namedP q = true) (hl : (pathOf ps).length ≤ 200) : goodP (pathOf ps) = true := by
  unfold goodP
  by_cases h0 : ps = []
  · subst h0; rfl
  · have e := steps_pathOf hn
    unfold stepsOf at e
    rw [if_neg (fun h => h0 ((pathOf_47 hn).1 h))] at e
    rw [decide_eq_true hl, Bool.true_and]
    unfold allNamed
    rw [e, List.all_eq_true.2 hn, Bool.and_true, Bool.or_eq_true, decide_eq_true_eq]
    refine .inr ?_
    rw [decide_eq_true_eq]
    unfold pathOf
    rw [if_neg h0]
    cases ps with
    | nil => exact absurd rfl h0
    | cons p ps => simp [joinL]
theorem joinL_take (ps : List (List UInt8)) (k : Nat) : (joinL (ps.take k)).length ≤ (joinL ps).length := by
  have := joinL_app (ps.take k) (ps.drop k)
  rw [List.take_append_drop] at this
  rw [this, List.length_append]; omega
theorem pathOf_take {ps : List (List UInt8)} (k : Nat) (h : (pathOf ps).length ≤ 200) : (pathOf (ps.take k)).length ≤ 200 := by
  have := joinL_take ps k
  unfold pathOf at *
  split at h
  · rename_i e; subst e; simp
  · split
    · simp
    · omega
/-- P1.3. -/
def splitP (s : List UInt8) : (List UInt8 × List UInt8) × Int := if goodP s = true then (if stepsOf s = [] then (([], []), 7) else ((pathOf ((stepsOf s).take ((stepsOf s).length - 1)), (stepsOf s).getD ((stepsOf s).length - 1) []), 0)) else (([], []), 2)
theorem split_bad {s : List UInt8} (h : ¬ goodP s = true) : splitP s = (([], []), 2) := by unfold splitP; rw [if_neg h]
theorem split_root : splitP [47] = (([], []), 7) := by rfl
theorem split_snoc {ps : List (List UInt8)} {p : List UInt8} (hn : ∀ q, q ∈ ps ++ [p] → namedP q = true) (hl : (pathOf (ps ++ [p])).length ≤ 200) : splitP (pathOf (ps ++ [p])) = ((pathOf ps, p), 0) := by
  unfold splitP
  rw [if_pos (good_pathOf hn hl), steps_pathOf hn, if_neg (by simp), List.length_append, List.length_singleton, Nat.add_sub_cancel, List.take_left']
  · simp
  · rfl
theorem good_cases {s : List UInt8} (h : goodP s = true) : s = [47] ∨ ∃ ps p, (∀ q, q ∈ ps ++ [p] → namedP q = true) ∧ s = pathOf (ps ++ [p]) ∧ (pathOf (ps ++ [p])).length ≤ 200 ∧ pathOf (ps ++ [p]) = joinL ps ++ 47 :: p := by
  obtain ⟨h1, h2, h3, h4⟩ := good_path h
  rcases List.eq_nil_or_concat (stepsOf s) with e | ⟨ps, p, e⟩
  · left; rw [h1, e]; rfl
  · right
    rw [List.concat_eq_append] at e
    rw [e] at h1 h2
    refine ⟨ps, p, h2, h1, by rw [← h1]; exact h3, ?_⟩
    unfold pathOf
    rw [if_neg (by simp), joinL_app]
    simp [joinL]
theorem len_cat (a b : List UInt8) (c : UInt8) : (a ++ c :: b).length = a.length + b.length + 1 := by simp; omega
theorem cat_get_lt (a b : List UInt8) (c d : UInt8) (j : Nat) (h : j < b.length) : (a ++ c :: b).getD (a.length + b.length - j) d = b.getD (b.length - 1 - j) d := by
  rw [List.getD_eq_getElem?_getD, List.getElem?_append_right (by omega), show a.length + b.length - j - a.length = (b.length - 1 - j) + 1 from by omega, List.getElem?_cons_succ, ← List.getD_eq_getElem?_getD]
theorem cat_get_eq (a b : List UInt8) (c d : UInt8) : (a ++ c :: b).getD a.length d = c := by
  rw [List.getD_eq_getElem?_getD, List.getElem?_append_right (by omega), Nat.sub_self]; rfl
theorem lastB_c (a b : List UInt8) (c : UInt8) (hc : c ∉ b) (hs : okS (a ++ c :: b)) : acall Tryd.prog [] 170 [S (a ++ c :: b), .d (.int .u8 c.toNat)] (ret (I a.length)) := by
  unfold okS at hs
  have hlen := len_cat a b c
  rw [hlen] at hs
  have hst : ((a.length + b.length + 1 : Nat) : Int) - 1 = ((a.length + b.length : Nat) : Int) := by omega
  refine acall_of tabOk Tryd.func170 rfl (by kernel_rfl) (by simp [Tryd.ntmps170]) ?_; simp only [Tryd.ntmps170, Tryd.results170, List.toList_toArray, apar, List.length_nil, List.length_cons, Nat.reduceAdd]
  repeat' first
    | (with_reducible first | refine AWP.seq ?_ | refine thenA_n ?_ | refine thenA_r ?_ | refine thenA_e ?_ | refine blkA_n ?_ | refine blkA_r ?_ | refine blkA_e ?_ | refine blkA_x (by decide) ?_ | refine AWP.skip ?_ | refine AWP.ret ?_ | refine AWP.exit ?_ | refine AWP.block ?_)
    | (with_reducible refine AWP.cond rfl ?_ ?_ <;> intro hc <;> (try simp only [hcs, beq_iff_eq, ge_iff_le, gt_iff_lt] at hc))
    | ((first
      | (with_reducible first | refine AWP.region tabOk ?_ | refine AWP.quietC mixed tabOk (by decide +kernel) ?_ | refine AWP.draw mixed tabOk (by decide +kernel) ?_ | refine AWP.drawE mixed tabOk (by decide +kernel) ?_ | refine AWP.drawG mixed tabOk (by decide +kernel) ?_); intro K hK); ((try simp (disch := omega) only [go_sem, wrap_n, hlen]) <;> (repeat' with_reducible refine And.intro ?_ ?_) <;> (try (with_reducible refine hK _ ?_; clear hK K))))
    | ((first | (with_reducible refine aunder_i ?_ ?_ <;> intro hg) | with_reducible intro hg) <;> (first | (exfalso; simp at hg; done) | (have hg' := hg; (try simp only [hcs, beq_iff_eq, ge_iff_le, gt_iff_lt] at hg'); ((try simp (disch := omega) only [hg, go_sem, wrap_n, hlen]) <;> (repeat' with_reducible refine And.intro ?_ ?_) <;> (try (with_reducible refine hK _ ?_; clear hK K))))))
                                                            | omega
  refine AWP.loopS (ι := Nat) (fun j => j ≤ b.length) (fun j => b.length - j) [0, 1] (fun j => [(5, I ((a.length + b.length - j : Nat) : Int))]) 0 ?_ (by simp (disch := omega) only [go_sem, wrap_n, hst, Nat.sub_zero]) ?_
  · omega
  intro j hj
  simp only [go_sem]
  repeat' first
    | (with_reducible first | refine AWP.seq ?_ | refine thenA_n ?_ | refine thenA_r ?_ | refine thenA_e ?_ | refine blkA_n ?_ | refine blkA_r ?_ | refine blkA_e ?_ | refine blkA_x (by decide) ?_ | refine AWP.skip ?_ | refine AWP.ret ?_ | refine AWP.exit ?_ | refine AWP.block ?_)
    | (with_reducible refine AWP.cond rfl ?_ ?_ <;> intro hc <;> (try simp only [hcs, beq_iff_eq, ge_iff_le, gt_iff_lt] at hc))
    | ((first
      | (with_reducible first | refine AWP.region tabOk ?_ | refine AWP.quietC mixed tabOk (by decide +kernel) ?_ | refine AWP.draw mixed tabOk (by decide +kernel) ?_ | refine AWP.drawE mixed tabOk (by decide +kernel) ?_ | refine AWP.drawG mixed tabOk (by decide +kernel) ?_); intro K hK); ((try simp (disch := omega) only [go_sem, wrap_n, hlen]) <;> (repeat' with_reducible refine And.intro ?_ ?_) <;> (try (with_reducible refine hK _ ?_; clear hK K))))
    | ((first | (with_reducible refine aunder_i ?_ ?_ <;> intro hg) | with_reducible intro hg) <;> (first | (exfalso; simp at hg; done) | (have hg' := hg; (try simp only [hcs, beq_iff_eq, ge_iff_le, gt_iff_lt] at hg'); ((try simp (disch := omega) only [hg, go_sem, wrap_n, hlen]) <;> (repeat' with_reducible refine And.intro ?_ ?_) <;> (try (with_reducible refine hK _ ?_; clear hK K))))))
                                                            | omega
  · by_cases e : j = b.length
    · subst e
      (refine aend_retc ?_ rfl ?_ ?_ ?_ ?_; (focus (first | exact .inl rfl | exact .inr rfl)); (iterate 3 (focus ((try simp (disch := omega) only [go_sem, wrap_n, Nat.add_sub_cancel]) <;> (try omega) <;> fail))); (try simp (disch := omega) only [go_sem, wrap_n, Nat.add_sub_cancel, I, B, S, inj, List.cons.injEq, and_true, true_and, and_self]))
    · have hlt : j < b.length := by omega
      rw [cat_get_lt a b c 0 j hlt] at hc
      exfalso
      have hb : b.getD (b.length - 1 - j) 0 = c := UInt8.toNat.inj (Int.ofNat_inj.1 hc)
      rw [List.getD_eq_getElem?_getD, List.getElem?_eq_getElem (by omega)] at hb
      have hin := List.getElem_mem (l := b) (n := b.length - 1 - j) (by omega)
      rw [show b[b.length - 1 - j] = c from hb] at hin
      exact absurd hin (by assumption)
  · by_cases e : j = b.length
    · subst e
      exfalso
      rw [Nat.add_sub_cancel, cat_get_eq] at hc
      exact hc rfl
    · refine ⟨j + 1, by omega, by omega, ?_⟩
      have e1 : ((a.length + b.length - (j + 1) : Nat) : Int) = ((a.length + b.length - j : Nat) : Int) - 1 := by omega
      rw [e1]
      (refine SImp.same ?_; simp (disch := omega) only [go_sem, wrap_n, Int.natCast_add])
  all_goals (exfalso; omega)
theorem lastIndex_c (a b : List UInt8) (c : UInt8) (hc : c ∉ b) (hs : okS (a ++ c :: b)) : acall Tryd.prog [] 141 [S (a ++ c :: b), .d (.int .u8 c.toNat)] (ret (I a.length)) := by
  refine acall_of tabOk Tryd.func141 rfl (by kernel_rfl) (by simp [Tryd.ntmps141]) ?_; simp only [Tryd.ntmps141, Tryd.results141, List.toList_toArray, apar, List.length_nil, List.length_cons, Nat.reduceAdd]
  repeat' first
    | (with_reducible first | refine AWP.seq ?_ | refine thenA_n ?_ | refine thenA_r ?_ | refine thenA_e ?_ | refine blkA_n ?_ | refine blkA_r ?_ | refine blkA_e ?_ | refine blkA_x (by decide) ?_ | refine AWP.skip ?_ | refine AWP.ret ?_ | refine AWP.exit ?_ | refine AWP.block ?_)
    | (with_reducible refine AWP.cond rfl ?_ ?_ <;> intro hc <;> (try simp only [hcs, beq_iff_eq, ge_iff_le, gt_iff_lt] at hc))
    | ((first
      | (with_reducible first | refine AWP.region tabOk ?_ | refine AWP.quietC mixed tabOk (by decide +kernel) ?_ | refine AWP.draw mixed tabOk (by decide +kernel) ?_ | refine AWP.drawE mixed tabOk (by decide +kernel) ?_ | refine AWP.drawG mixed tabOk (by decide +kernel) ?_); intro K hK
      | ((first | refine acallH_sc (lastB_c a b c hc hs) rfl rfl ?_ ?_ ?_ | refine acallQ_sc (lastB_c a b c hc hs) rfl rfl ?_ ?_ ?_); iterate 2 (focus ((try simp (disch := omega) only [go_sem, wrap_n]) <;> (try omega) <;> fail)))
      | ((first | refine acallH_anyr (lastB_c a b c hc hs) rfl ?_ ?_); (focus ((try simp (disch := omega) only [go_sem, wrap_n]) <;> (try omega) <;> fail)))
      | ((first | refine acallH_scx (lastB_c a b c hc hs) rfl ?_ ?_ | refine acallQ_scx (lastB_c a b c hc hs) rfl ?_ ?_ | refine acallH_anyx (lastB_c a b c hc hs) ?_ ?_); (focus ((try simp (disch := omega) only [go_sem, wrap_n]) <;> (try omega) <;> fail)))); ((try simp (disch := omega) only [go_sem, wrap_n]) <;> (repeat' with_reducible refine And.intro ?_ ?_) <;> (try (with_reducible refine hK _ ?_; clear hK K))))
    | ((first | (with_reducible refine aunder_i ?_ ?_ <;> intro hg) | with_reducible intro hg) <;> (first | (exfalso; simp at hg; done) | (have hg' := hg; (try simp only [hcs, beq_iff_eq, ge_iff_le, gt_iff_lt] at hg'); ((try simp (disch := omega) only [hg, go_sem, wrap_n]) <;> (repeat' with_reducible refine And.intro ?_ ?_) <;> (try (with_reducible refine hK _ ?_; clear hK K))))))
                                                            | omega
  (refine aend_retc ?_ rfl ?_ ?_ ?_ ?_; (focus (first | exact .inl rfl | exact .inr rfl)); (iterate 3 (focus ((try simp (disch := omega) only [go_sem, wrap_n]) <;> (try omega) <;> fail))); (try simp (disch := omega) only [go_sem, wrap_n, I, B, S, inj, List.cons.injEq, and_true, true_and, and_self]))
theorem ext_count {P : Program} {hp : List ABlk} {g : FuncId} {fn : Func} (hf : P.funcs[g]? = some fn) (hn : (fn.name == "runtime.NumGoroutine") = false) (hb : fn.body.isNone = true) (hx : Extern.findNext fn = none)
    (he : Extern.find fn = some Extern.BytealgCount.count) (s : List UInt8) (c : UInt8) : aextQ P hp g [S s, .d (.int .u8 c.toNat)] (I (s.count c : Nat)) := by
  intro E ρ w us hH hus
  refine ⟨.int .i64 (s.count c : Nat), .d _ _ (.int _ _), fun w' hbl => ?_⟩
  match us, hus with
  | [u, u'], hus =>
    have hu := hus.2 0 _ u rfl rfl
    have hu' := hus.2 1 _ u' rfl rfl
    cases hu with | d _ _ hu => cases hu with | str _ =>
    cases hu' with | d _ _ hu' => cases hu' with | int _ _ =>
    rw [run_callFunc_extern hf hn hb hx he]
    have := Lib.run_countString (P := P) ⟨s.toArray⟩ (c.toNat : Int) w'
    have e : ((c.toNat : Int)).toNat.toUInt8 = c := by simp
    rw [e] at this
    show (Extern.BytealgCount.count #[.string ⟨s.toArray⟩, .int .u8 (c.toNat : Int)] |>.run P w').andThen _ = _
    rw [this]
    rfl
theorem split_c (s : List UInt8) (hs : okS s) : acall Tryd.prog [] 91 [S s] (ret (.tup [S (splitP s).1.1, S (splitP s).1.2, I (splitP s).2])) := by
  by_cases h : goodP s = true
  case neg =>
    rw [split_bad h]
    refine acall_of tabOk Tryd.func91 rfl (by kernel_rfl) (by simp [Tryd.ntmps91]) ?_; simp only [Tryd.ntmps91, Tryd.results91, List.toList_toArray, apar, List.length_nil, List.length_cons, Nat.reduceAdd]
    repeat' first
      | (with_reducible first | refine AWP.seq ?_ | refine thenA_n ?_ | refine thenA_r ?_ | refine thenA_e ?_ | refine blkA_n ?_ | refine blkA_r ?_ | refine blkA_e ?_ | refine blkA_x (by decide) ?_ | refine AWP.skip ?_ | refine AWP.ret ?_ | refine AWP.exit ?_ | refine AWP.block ?_)
      | (with_reducible refine AWP.cond rfl ?_ ?_ <;> intro hc <;> (try simp only [hcs, beq_iff_eq, ge_iff_le, gt_iff_lt] at hc))
      | ((first
        | (with_reducible first | refine AWP.region tabOk ?_ | refine AWP.quietC mixed tabOk (by decide +kernel) ?_ | refine AWP.draw mixed tabOk (by decide +kernel) ?_ | refine AWP.drawE mixed tabOk (by decide +kernel) ?_ | refine AWP.drawG mixed tabOk (by decide +kernel) ?_); intro K hK
        | ((first | refine acallH_sc ((good_c s hs).re (congrArg B (eq_false_of_ne_true h))) rfl rfl ?_ ?_ ?_ | refine acallQ_sc ((good_c s hs).re (congrArg B (eq_false_of_ne_true h))) rfl rfl ?_ ?_ ?_); iterate 2 (focus ((try simp (disch := omega) only [go_sem, wrap_n]) <;> (try omega) <;> fail)))
        | ((first | refine acallH_anyr ((good_c s hs).re (congrArg B (eq_false_of_ne_true h))) rfl ?_ ?_); (focus ((try simp (disch := omega) only [go_sem, wrap_n]) <;> (try omega) <;> fail)))
        | ((first | refine acallH_scx ((good_c s hs).re (congrArg B (eq_false_of_ne_true h))) rfl ?_ ?_ | refine acallQ_scx ((good_c s hs).re (congrArg B (eq_false_of_ne_true h))) rfl ?_ ?_ | refine acallH_anyx ((good_c s hs).re (congrArg B (eq_false_of_ne_true h))) ?_ ?_); (focus ((try simp (disch := omega) only [go_sem, wrap_n]) <;> (try omega) <;> fail)))); ((try simp (disch := omega) only [go_sem, wrap_n]) <;> (repeat' with_reducible refine And.intro ?_ ?_) <;> (try (with_reducible refine hK _ ?_; clear hK K))))
      | ((first | (with_reducible refine aunder_i ?_ ?_ <;> intro hg) | with_reducible intro hg) <;> (first | (exfalso; simp at hg; done) | (have hg' := hg; (try simp only [hcs, beq_iff_eq, ge_iff_le, gt_iff_lt] at hg'); ((try simp (disch := omega) only [hg, go_sem, wrap_n]) <;> (repeat' with_reducible refine And.intro ?_ ?_) <;> (try (with_reducible refine hK _ ?_; clear hK K))))))
                                                              | omega
    (refine aend_retc ?_ rfl ?_ ?_ ?_ ?_; (focus (first | exact .inl rfl | exact .inr rfl)); (iterate 3 (focus ((try simp (disch := omega) only [go_sem, wrap_n]) <;> (try omega) <;> fail))); (try simp (disch := omega) only [go_sem, wrap_n, I, B, S, inj, List.cons.injEq, and_true, true_and, and_self]))
  rcases good_cases h with rfl | ⟨ps, p, hn, e, hl, hj⟩
  · rw [split_root]
    refine acall_of tabOk Tryd.func91 rfl (by kernel_rfl) (by simp [Tryd.ntmps91]) ?_; simp only [Tryd.ntmps91, Tryd.results91, List.toList_toArray, apar, List.length_nil, List.length_cons, Nat.reduceAdd]
    repeat' first
      | (with_reducible first | refine AWP.seq ?_ | refine thenA_n ?_ | refine thenA_r ?_ | refine thenA_e ?_ | refine blkA_n ?_ | refine blkA_r ?_ | refine blkA_e ?_ | refine blkA_x (by decide) ?_ | refine AWP.skip ?_ | refine AWP.ret ?_ | refine AWP.exit ?_ | refine AWP.block ?_)
      | (with_reducible refine AWP.cond rfl ?_ ?_ <;> intro hc <;> (try simp only [hcs, beq_iff_eq, ge_iff_le, gt_iff_lt] at hc))
      | ((first
        | (with_reducible first | refine AWP.region tabOk ?_ | refine AWP.quietC mixed tabOk (by decide +kernel) ?_ | refine AWP.draw mixed tabOk (by decide +kernel) ?_ | refine AWP.drawE mixed tabOk (by decide +kernel) ?_ | refine AWP.drawG mixed tabOk (by decide +kernel) ?_); intro K hK
        | ((first | refine acallH_sc ((good_c [47] hs).re (congrArg B h)) rfl rfl ?_ ?_ ?_ | refine acallQ_sc ((good_c [47] hs).re (congrArg B h)) rfl rfl ?_ ?_ ?_); iterate 2 (focus ((try simp (disch := omega) only [go_sem, wrap_n]) <;> (try omega) <;> fail)))
        | ((first | refine acallH_anyr ((good_c [47] hs).re (congrArg B h)) rfl ?_ ?_); (focus ((try simp (disch := omega) only [go_sem, wrap_n]) <;> (try omega) <;> fail)))
        | ((first | refine acallH_scx ((good_c [47] hs).re (congrArg B h)) rfl ?_ ?_ | refine acallQ_scx ((good_c [47] hs).re (congrArg B h)) rfl ?_ ?_ | refine acallH_anyx ((good_c [47] hs).re (congrArg B h)) ?_ ?_); (focus ((try simp (disch := omega) only [go_sem, wrap_n]) <;> (try omega) <;> fail)))); ((try simp (disch := omega) only [go_sem, wrap_n]) <;> (repeat' with_reducible refine And.intro ?_ ?_) <;> (try (with_reducible refine hK _ ?_; clear hK K))))
      | ((first | (with_reducible refine aunder_i ?_ ?_ <;> intro hg) | with_reducible intro hg) <;> (first | (exfalso; simp at hg; done) | (have hg' := hg; (try simp only [hcs, beq_iff_eq, ge_iff_le, gt_iff_lt] at hg'); ((try simp (disch := omega) only [hg, go_sem, wrap_n]) <;> (repeat' with_reducible refine And.intro ?_ ?_) <;> (try (with_reducible refine hK _ ?_; clear hK K))))))
                                                              | omega
    (refine aend_retc ?_ rfl ?_ ?_ ?_ ?_; (focus (first | exact .inl rfl | exact .inr rfl)); (iterate 3 (focus ((try simp (disch := omega) only [go_sem, wrap_n]) <;> (try omega) <;> fail))); (try simp (disch := omega) only [go_sem, wrap_n, I, B, S, inj, List.cons.injEq, and_true, true_and, and_self]))
  have hsp := split_snoc hn hl
  rw [← e] at hsp hl
  rw [hsp]
  rw [hj] at e
  have hp := named_no (hn p (by simp))
  have hlen := len_cat (joinL ps) p 47
  rw [← e] at hlen
  have hp0 : p ≠ [] := fun h1 => by
    have := hn p (by simp)
    rw [h1] at this; revert this; decide
  have hpl := List.length_pos_iff.2 hp0
  have h47 : ¬ s = [47] := fun h0 => by
    rw [h0, List.length_singleton] at hlen; omega
  have hlast : acall Tryd.prog [] 141 [S (joinL ps ++ 47 :: p), .d (.int .u8 47)] (ret (I (joinL ps).length)) := lastIndex_c (joinL ps) p 47 hp (by rw [← e]; exact hs)
  rw [← e] at hlast
  refine acall_of tabOk Tryd.func91 rfl (by kernel_rfl) (by simp [Tryd.ntmps91]) ?_; simp only [Tryd.ntmps91, Tryd.results91, List.toList_toArray, apar, List.length_nil, List.length_cons, Nat.reduceAdd]
  repeat' first
    | (with_reducible first | refine AWP.seq ?_ | refine thenA_n ?_ | refine thenA_r ?_ | refine thenA_e ?_ | refine blkA_n ?_ | refine blkA_r ?_ | refine blkA_e ?_ | refine blkA_x (by decide) ?_ | refine AWP.skip ?_ | refine AWP.ret ?_ | refine AWP.exit ?_ | refine AWP.block ?_)
    | (with_reducible refine AWP.cond rfl ?_ ?_ <;> intro hc <;> (try simp only [hcs, beq_iff_eq, ge_iff_le, gt_iff_lt] at hc))
    | ((first
      | (with_reducible first | refine AWP.region tabOk ?_ | refine AWP.quietC mixed tabOk (by decide +kernel) ?_ | refine AWP.draw mixed tabOk (by decide +kernel) ?_ | refine AWP.drawE mixed tabOk (by decide +kernel) ?_ | refine AWP.drawG mixed tabOk (by decide +kernel) ?_); intro K hK
      | ((first | refine acallH_sc ((good_c s hs).re (congrArg B h)) rfl rfl ?_ ?_ ?_ | refine acallQ_sc ((good_c s hs).re (congrArg B h)) rfl rfl ?_ ?_ ?_ | refine acallH_sc (hlast) rfl rfl ?_ ?_ ?_ | refine acallQ_sc (hlast) rfl rfl ?_ ?_ ?_); iterate 2 (focus ((try simp (disch := omega) only [go_sem, wrap_n, h47]) <;> (try omega) <;> fail)))
      | ((first | refine acallH_anyr ((good_c s hs).re (congrArg B h)) rfl ?_ ?_ | refine acallH_anyr (hlast) rfl ?_ ?_); (focus ((try simp (disch := omega) only [go_sem, wrap_n, h47]) <;> (try omega) <;> fail)))
      | ((first | refine acallH_scx ((good_c s hs).re (congrArg B h)) rfl ?_ ?_ | refine acallQ_scx ((good_c s hs).re (congrArg B h)) rfl ?_ ?_ | refine acallH_anyx ((good_c s hs).re (congrArg B h)) ?_ ?_); (focus ((try simp (disch := omega) only [go_sem, wrap_n, h47]) <;> (try omega) <;> fail)))
      | ((first | refine acallH_scx (hlast) rfl ?_ ?_ | refine acallQ_scx (hlast) rfl ?_ ?_ | refine acallH_anyx (hlast) ?_ ?_); (focus ((try simp (disch := omega) only [go_sem, wrap_n, h47]) <;> (try omega) <;> fail)))); ((try simp (disch := omega) only [go_sem, wrap_n, h47]) <;> (repeat' with_reducible refine And.intro ?_ ?_) <;> (try (with_reducible refine hK _ ?_; clear hK K))))
    | ((first | (with_reducible refine aunder_i ?_ ?_ <;> intro hg) | with_reducible intro hg) <;> (first | (exfalso; simp at hg; done) | (have hg' := hg; (try simp only [hcs, beq_iff_eq, ge_iff_le, gt_iff_lt] at hg'); ((try simp (disch := omega) only [hg, go_sem, wrap_n, h47]) <;> (repeat' with_reducible refine And.intro ?_ ?_) <;> (try (with_reducible refine hK _ ?_; clear hK K))))))
                                                            | omega
  · have e0 : joinL ps = [] := List.eq_nil_of_length_eq_zero hc
    have eps : ps = [] := Decidable.byContradiction fun h => joinL_ne h e0
    have e1 : List.take (s.length - 1) (List.drop 1 s) = p := by
      rw [List.take_of_length_le (by simp), e, e0]; rfl
    have e2 : pathOf ps = [47] := by rw [eps]; rfl
    rw [e2]
    (refine aend_retc ?_ rfl ?_ ?_ ?_ ?_; (focus (first | exact .inl rfl | exact .inr rfl)); (iterate 3 (focus ((try simp (disch := omega) only [go_sem, wrap_n, e1]) <;> (try omega) <;> fail))); (try simp (disch := omega) only [go_sem, wrap_n, e1, I, B, S, inj, List.cons.injEq, and_true, true_and, and_self]))
  · have eps : ps ≠ [] := fun h => hc (by rw [h]; rfl)
    have e1 : List.take (s.length - ((joinL ps).length + 1)) (List.drop ((joinL ps).length + 1) s) = p := by
      rw [List.take_of_length_le (by simp), e, ← List.drop_drop, List.drop_left]; rfl
    have e2 : pathOf ps = joinL ps := by unfold pathOf; rw [if_neg eps]
    have e3 : List.take (joinL ps).length s = joinL ps := by rw [e, List.take_left]
    have e4 : (((joinL ps).length : Int) + 1).toNat = (joinL ps).length + 1 := by omega
    rw [e2]
    (refine aend_retc ?_ rfl ?_ ?_ ?_ ?_; (focus (first | exact .inl rfl | exact .inr rfl)); (iterate 3 (focus ((try simp (disch := omega) only [go_sem, wrap_n, e4, e1, e3, Nat.sub_zero]) <;> (try omega) <;> fail))); (try simp (disch := omega) only [go_sem, wrap_n, e4, e1, e3, Nat.sub_zero, I, B, S, inj, List.cons.injEq, and_true, true_and, and_self]))
theorem take_drop_map2 (l : List (List UInt8)) (x y : List UInt8) : List.take l.length (List.drop 1 ((x :: (l ++ [y])).map srow)) = l.map srow := by
  simp
theorem getD_last (l : List (List UInt8)) (x y : List UInt8) : (x :: (l ++ [y])).getD (l.length + 1) [] = y := by
  rw [List.getD_eq_getElem?_getD, List.getElem?_cons_succ, List.getElem?_append_right (Nat.le_refl _), Nat.sub_self]; rfl
theorem joinL_snoc (ps : List (List UInt8)) (p : List UInt8) : joinL (ps ++ [p]) = joinL ps ++ 47 :: p := by
  rw [joinL_app]; simp [joinL]
theorem ref_split_c (s : List UInt8) (hs : s.length ≤ 1048576) : acall Tryd.prog [] 88 [S s] (ret (.tup [S (splitP s).1.1, S (splitP s).1.2, I (splitP s).2])) := by
  by_cases h : goodP s = true
  case neg =>
    rw [split_bad h]
    refine acall_of tabOk Tryd.func88 rfl (by kernel_rfl) (by simp [Tryd.ntmps88]) ?_; simp only [Tryd.ntmps88, Tryd.results88, List.toList_toArray, apar, List.length_nil, List.length_cons, Nat.reduceAdd]
    repeat' first
      | (with_reducible first | refine AWP.seq ?_ | refine thenA_n ?_ | refine thenA_r ?_ | refine thenA_e ?_ | refine blkA_n ?_ | refine blkA_r ?_ | refine blkA_e ?_ | refine blkA_x (by decide) ?_ | refine AWP.skip ?_ | refine AWP.ret ?_ | refine AWP.exit ?_ | refine AWP.block ?_)
      | (with_reducible refine AWP.cond rfl ?_ ?_ <;> intro hc <;> (try simp only [hcs, beq_iff_eq, ge_iff_le, gt_iff_lt] at hc))
      | ((first
        | (with_reducible first | refine AWP.region tabOk ?_ | refine AWP.quietC mixed tabOk (by decide +kernel) ?_ | refine AWP.draw mixed tabOk (by decide +kernel) ?_ | refine AWP.drawE mixed tabOk (by decide +kernel) ?_ | refine AWP.drawG mixed tabOk (by decide +kernel) ?_); intro K hK
        | ((first | refine acallH_sc ((ref_good_c s hs).re (congrArg B (eq_false_of_ne_true h))) rfl rfl ?_ ?_ ?_ | refine acallQ_sc ((ref_good_c s hs).re (congrArg B (eq_false_of_ne_true h))) rfl rfl ?_ ?_ ?_); iterate 2 (focus ((try simp (disch := omega) only [go_sem, wrap_n]) <;> (try omega) <;> fail)))
        | ((first | refine acallH_anyr ((ref_good_c s hs).re (congrArg B (eq_false_of_ne_true h))) rfl ?_ ?_); (focus ((try simp (disch := omega) only [go_sem, wrap_n]) <;> (try omega) <;> fail)))
        | ((first | refine acallH_scx ((ref_good_c s hs).re (congrArg B (eq_false_of_ne_true h))) rfl ?_ ?_ | refine acallQ_scx ((ref_good_c s hs).re (congrArg B (eq_false_of_ne_true h))) rfl ?_ ?_ | refine acallH_anyx ((ref_good_c s hs).re (congrArg B (eq_false_of_ne_true h))) ?_ ?_); (focus ((try simp (disch := omega) only [go_sem, wrap_n]) <;> (try omega) <;> fail)))); ((try simp (disch := omega) only [go_sem, wrap_n]) <;> (repeat' with_reducible refine And.intro ?_ ?_) <;> (try (with_reducible refine hK _ ?_; clear hK K))))
      | ((first | (with_reducible refine aunder_i ?_ ?_ <;> intro hg) | with_reducible intro hg) <;> (first | (exfalso; simp at hg; done) | (have hg' := hg; (try simp only [hcs, beq_iff_eq, ge_iff_le, gt_iff_lt] at hg'); ((try simp (disch := omega) only [hg, go_sem, wrap_n]) <;> (repeat' with_reducible refine And.intro ?_ ?_) <;> (try (with_reducible refine hK _ ?_; clear hK K))))))
                                                              | omega
    (refine aend_retc ?_ rfl ?_ ?_ ?_ ?_; (focus (first | exact .inl rfl | exact .inr rfl)); (iterate 3 (focus ((try simp (disch := omega) only [go_sem, wrap_n]) <;> (try omega) <;> fail))); (try simp (disch := omega) only [go_sem, wrap_n, I, B, S, inj, List.cons.injEq, and_true, true_and, and_self]))
  rcases good_cases h with rfl | ⟨ps, p, hn, e, hl, hj⟩
  · rw [split_root]
    refine acall_of tabOk Tryd.func88 rfl (by kernel_rfl) (by simp [Tryd.ntmps88]) ?_; simp only [Tryd.ntmps88, Tryd.results88, List.toList_toArray, apar, List.length_nil, List.length_cons, Nat.reduceAdd]
    repeat' first
      | (with_reducible first | refine AWP.seq ?_ | refine thenA_n ?_ | refine thenA_r ?_ | refine thenA_e ?_ | refine blkA_n ?_ | refine blkA_r ?_ | refine blkA_e ?_ | refine blkA_x (by decide) ?_ | refine AWP.skip ?_ | refine AWP.ret ?_ | refine AWP.exit ?_ | refine AWP.block ?_)
      | (with_reducible refine AWP.cond rfl ?_ ?_ <;> intro hc <;> (try simp only [hcs, beq_iff_eq, ge_iff_le, gt_iff_lt] at hc))
      | ((first
        | (with_reducible first | refine AWP.region tabOk ?_ | refine AWP.quietC mixed tabOk (by decide +kernel) ?_ | refine AWP.draw mixed tabOk (by decide +kernel) ?_ | refine AWP.drawE mixed tabOk (by decide +kernel) ?_ | refine AWP.drawG mixed tabOk (by decide +kernel) ?_); intro K hK
        | ((first | refine acallH_sc ((ref_good_c [47] hs).re (congrArg B h)) rfl rfl ?_ ?_ ?_ | refine acallQ_sc ((ref_good_c [47] hs).re (congrArg B h)) rfl rfl ?_ ?_ ?_); iterate 2 (focus ((try simp (disch := omega) only [go_sem, wrap_n]) <;> (try omega) <;> fail)))
        | ((first | refine acallH_anyr ((ref_good_c [47] hs).re (congrArg B h)) rfl ?_ ?_); (focus ((try simp (disch := omega) only [go_sem, wrap_n]) <;> (try omega) <;> fail)))
        | ((first | refine acallH_scx ((ref_good_c [47] hs).re (congrArg B h)) rfl ?_ ?_ | refine acallQ_scx ((ref_good_c [47] hs).re (congrArg B h)) rfl ?_ ?_ | refine acallH_anyx ((ref_good_c [47] hs).re (congrArg B h)) ?_ ?_); (focus ((try simp (disch := omega) only [go_sem, wrap_n]) <;> (try omega) <;> fail)))); ((try simp (disch := omega) only [go_sem, wrap_n]) <;> (repeat' with_reducible refine And.intro ?_ ?_) <;> (try (with_reducible refine hK _ ?_; clear hK K))))
      | ((first | (with_reducible refine aunder_i ?_ ?_ <;> intro hg) | with_reducible intro hg) <;> (first | (exfalso; simp at hg; done) | (have hg' := hg; (try simp only [hcs, beq_iff_eq, ge_iff_le, gt_iff_lt] at hg'); ((try simp (disch := omega) only [hg, go_sem, wrap_n]) <;> (repeat' with_reducible refine And.intro ?_ ?_) <;> (try (with_reducible refine hK _ ?_; clear hK K))))))
                                                              | omega
    (refine aend_retc ?_ rfl ?_ ?_ ?_ ?_; (focus (first | exact .inl rfl | exact .inr rfl)); (iterate 3 (focus ((try simp (disch := omega) only [go_sem, wrap_n]) <;> (try omega) <;> fail))); (try simp (disch := omega) only [go_sem, wrap_n, I, B, S, inj, List.cons.injEq, and_true, true_and, and_self]))
  have hsp := split_snoc hn hl
  have hpieces := splitB_pathOf hn (by simp)
  rw [← e] at hsp hl hpieces
  rw [hsp]
  rw [hj] at e
  have hn47 : ¬ s = [47] := fun h0 => by
    rw [h0] at hpieces
    have h2 := hn p (by simp)
    have h3 : ps ++ [p] = [[]] := by
      have : splitB [47] = [[], []] := rfl
      rw [this, List.cons.injEq] at hpieces
      exact hpieces.2.symm
    have h4 : p ∈ ps ++ [p] := by simp
    rw [h3, List.mem_singleton] at h4
    rw [h4] at h2; revert h2; decide
  have hst := (steps_c s hs).re (by rw [hpieces])
  have hjl : (joinL ps).length ≤ 200 := by
    have := len_cat (joinL ps) p 47
    rw [← e] at this; omega
  have hpl : ps.length + 1 ≤ 201 := by
    have := splitB_le s
    rw [hpieces] at this
    simp at this; omega
  have en : ((ps.length + 1 + 1 : Nat) : Int) - 1 = ((ps.length + 1 : Nat) : Int) := by omega
  have em : min ps.length (ps.length + 1) = ps.length := by omega
  have etk : List.take ps.length (List.map srow (ps ++ [p])) = List.map srow ps := by simp
  have eg : ([DV.str []] :: List.map srow (ps ++ [p])).getD (ps.length + 1) [] = srow p := by
    rw [List.getD_eq_getElem?_getD, List.getElem?_cons_succ, List.map_append, List.getElem?_append_right (by simp)]; simp
  refine acall_of tabOk Tryd.func88 rfl (by kernel_rfl) (by simp [Tryd.ntmps88]) ?_; simp only [Tryd.ntmps88, Tryd.results88, List.toList_toArray, apar, List.length_nil, List.length_cons, Nat.reduceAdd]
  repeat' first
    | (with_reducible first | refine AWP.seq ?_ | refine thenA_n ?_ | refine thenA_r ?_ | refine thenA_e ?_ | refine blkA_n ?_ | refine blkA_r ?_ | refine blkA_e ?_ | refine blkA_x (by decide) ?_ | refine AWP.skip ?_ | refine AWP.ret ?_ | refine AWP.exit ?_ | refine AWP.block ?_)
    | (with_reducible refine AWP.cond rfl ?_ ?_ <;> intro hc <;> (try simp only [hcs, beq_iff_eq, ge_iff_le, gt_iff_lt] at hc))
    | ((first
      | (with_reducible first | refine AWP.region tabOk ?_ | refine AWP.quietC mixed tabOk (by decide +kernel) ?_ | refine AWP.draw mixed tabOk (by decide +kernel) ?_ | refine AWP.drawE mixed tabOk (by decide +kernel) ?_ | refine AWP.drawG mixed tabOk (by decide +kernel) ?_); intro K hK
      | ((first | refine acallH_sc ((ref_good_c s hs).re (congrArg B h)) rfl rfl ?_ ?_ ?_ | refine acallQ_sc ((ref_good_c s hs).re (congrArg B h)) rfl rfl ?_ ?_ ?_ | refine acallH_sc (hst) rfl rfl ?_ ?_ ?_ | refine acallQ_sc (hst) rfl rfl ?_ ?_ ?_); iterate 2 (focus ((try simp (disch := omega) only [go_sem, wrap_n, hn47, en, em, etk, eg, Nat.add_sub_cancel]) <;> (try omega) <;> fail)))
      | ((first | refine acallH_anyr ((ref_good_c s hs).re (congrArg B h)) rfl ?_ ?_ | refine acallH_anyr (hst) rfl ?_ ?_); (focus ((try simp (disch := omega) only [go_sem, wrap_n, hn47, en, em, etk, eg, Nat.add_sub_cancel]) <;> (try omega) <;> fail)))
      | ((first | refine acallH_scx ((ref_good_c s hs).re (congrArg B h)) rfl ?_ ?_ | refine acallQ_scx ((ref_good_c s hs).re (congrArg B h)) rfl ?_ ?_ | refine acallH_anyx ((ref_good_c s hs).re (congrArg B h)) ?_ ?_); (focus ((try simp (disch := omega) only [go_sem, wrap_n, hn47, en, em, etk, eg, Nat.add_sub_cancel]) <;> (try omega) <;> fail)))
      | ((first | refine acallH_scx (hst) rfl ?_ ?_ | refine acallQ_scx (hst) rfl ?_ ?_ | refine acallH_anyx (hst) ?_ ?_); (focus ((try simp (disch := omega) only [go_sem, wrap_n, hn47, en, em, etk, eg, Nat.add_sub_cancel]) <;> (try omega) <;> fail)))); ((try simp (disch := omega) only [go_sem, wrap_n, hn47, en, em, etk, eg, Nat.add_sub_cancel]) <;> (repeat' with_reducible refine And.intro ?_ ?_) <;> (try (with_reducible refine hK _ ?_; clear hK K))))
    | ((first | (with_reducible refine aunder_i ?_ ?_ <;> intro hg) | with_reducible intro hg) <;> (first | (exfalso; simp at hg; done) | (have hg' := hg; (try simp only [hcs, beq_iff_eq, ge_iff_le, gt_iff_lt] at hg'); ((try simp (disch := omega) only [hg, go_sem, wrap_n, hn47, en, em, etk, eg, Nat.add_sub_cancel]) <;> (repeat' with_reducible refine And.intro ?_ ?_) <;> (try (with_reducible refine hK _ ?_; clear hK K))))))
                                                            | omega
  refine AWP.loopS (ι := Nat) (fun k => k ≤ ps.length) (fun k => ps.length - k) [5, 6, 22, 23] (fun k => [(7, S (joinL (ps.take k))), (24, I k)]) 0 ?_ (by simp (disch := omega) only [go_sem, wrap_n, joinL]) ?_
  · omega
  intro k hk
  have hkl := joinL_take ps k
  have hgk : (ps.getD k []).length ≤ 40 := by
    by_cases hk2 : k < ps.length
    · exact namedP_len (hn _ (List.mem_append_left _ (mem_getD ps [] hk2)))
    · rw [List.getD_eq_getElem?_getD, List.getElem?_eq_none (by omega)]; exact Nat.zero_le _
  have egd : (ps ++ [p]).getD ps.length default = p := by
    rw [List.getD_eq_getElem?_getD, List.getElem?_append_right (Nat.le_refl _), Nat.sub_self]; rfl
  simp only [go_sem]
  repeat' first
    | (with_reducible first | refine AWP.seq ?_ | refine thenA_n ?_ | refine thenA_r ?_ | refine thenA_e ?_ | refine blkA_n ?_ | refine blkA_r ?_ | refine blkA_e ?_ | refine blkA_x (by decide) ?_ | refine AWP.skip ?_ | refine AWP.ret ?_ | refine AWP.exit ?_ | refine AWP.block ?_)
    | (with_reducible refine AWP.cond rfl ?_ ?_ <;> intro hc <;> (try simp only [hcs, beq_iff_eq, ge_iff_le, gt_iff_lt] at hc))
    | ((first
      | (with_reducible first | refine AWP.region tabOk ?_ | refine AWP.quietC mixed tabOk (by decide +kernel) ?_ | refine AWP.draw mixed tabOk (by decide +kernel) ?_ | refine AWP.drawE mixed tabOk (by decide +kernel) ?_ | refine AWP.drawG mixed tabOk (by decide +kernel) ?_); intro K hK); ((try simp (disch := omega) only [go_sem, wrap_n, srow_rgetD, srow, en, eg]) <;> (repeat' with_reducible refine And.intro ?_ ?_) <;> (try (with_reducible refine hK _ ?_; clear hK K))))
    | ((first | (with_reducible refine aunder_i ?_ ?_ <;> intro hg) | with_reducible intro hg) <;> (first | (exfalso; simp at hg; done) | (have hg' := hg; (try simp only [hcs, beq_iff_eq, ge_iff_le, gt_iff_lt] at hg'); ((try simp (disch := omega) only [hg, go_sem, wrap_n, srow_rgetD, srow, en, eg]) <;> (repeat' with_reducible refine And.intro ?_ ?_) <;> (try (with_reducible refine hK _ ?_; clear hK K))))))
                                                            | omega
  · refine ⟨k + 1, by omega, by omega, ?_⟩
    have ets : ps.take (k + 1) = ps.take k ++ [ps.getD k []] := take_snoc ps k (by assumption)
    rw [ets, joinL_snoc]
    (refine SImp.same ?_; simp (disch := omega) only [go_sem, wrap_n, Int.natCast_add])
  · have ek : k = ps.length := by omega
    rw [ek, List.take_length] at hc
    have eps : ps = [] := Decidable.byContradiction fun h => joinL_ne h hc
    have e2 : pathOf ps = [47] := by rw [eps]; rfl
    rw [e2]
    (refine aend_retc ?_ rfl ?_ ?_ ?_ ?_; (focus (first | exact .inl rfl | exact .inr rfl)); (iterate 3 (focus ((try simp (disch := omega) only [go_sem, wrap_n, egd]) <;> (try omega) <;> fail))); (try simp (disch := omega) only [go_sem, wrap_n, egd, I, B, S, inj, List.cons.injEq, and_true, true_and, and_self]))
  · have ek : k = ps.length := by omega
    subst ek
    rw [List.take_length] at *
    have eps : ps ≠ [] := fun h => hc (by rw [h]; rfl)
    have e2 : pathOf ps = joinL ps := by unfold pathOf; rw [if_neg eps]
    rw [e2]
    (refine aend_retc ?_ rfl ?_ ?_ ?_ ?_; (focus (first | exact .inl rfl | exact .inr rfl)); (iterate 3 (focus ((try simp (disch := omega) only [go_sem, wrap_n, egd]) <;> (try omega) <;> fail))); (try simp (disch := omega) only [go_sem, wrap_n, egd, I, B, S, inj, List.cons.injEq, and_true, true_and, and_self]))
/-! Depth. -/
def depthP (s : List UInt8) : Int × Int := if goodP s = true then ((stepsOf s).length, 0) else (0, 2)
theorem depth_bad {s : List UInt8} (h : ¬ goodP s = true) : depthP s = (0, 2) := by unfold depthP; rw [if_neg h]
theorem depth_ok {s : List UInt8} (h : goodP s = true) : depthP s = ((((stepsOf s).length : Nat) : Int), 0) := by unfold depthP; rw [if_pos h]
theorem count_joinL {ps : List (List UInt8)} (h : ∀ q, q ∈ ps → (47 : UInt8) ∉ q) : (joinL ps).count 47 = ps.length := by
  induction ps with
  | nil => rfl
  | cons p ps ih =>
    rw [joinL, List.count_cons_self, List.count_append, ih fun q hq => h q (List.mem_cons_of_mem _ hq), List.count_eq_zero.2 (h p (by simp)), List.length_cons, Nat.zero_add]
theorem take_pre {ps : List (List UInt8)} {k : Nat} (hk : k < ps.length) : ∃ p, ps.take (k + 1) = ps.take k ++ [p] := ⟨_, take_snoc ps k hk⟩
theorem split_take {ps : List (List UInt8)} (hn : ∀ q, q ∈ ps → namedP q = true) (hl : (pathOf ps).length ≤ 200) {k : Nat} (hk : k < ps.length) : splitP (pathOf (ps.take (k + 1))) = ((pathOf (ps.take k), (splitP (pathOf (ps.take (k + 1)))).1.2), 0) := by
  obtain ⟨p, e⟩ := take_pre hk
  have hl2 := pathOf_take (k + 1) hl
  have hn2 : ∀ q, q ∈ ps.take (k + 1) → namedP q = true := fun q hq => hn q (List.mem_of_mem_take hq)
  rw [e] at *
  rw [split_snoc hn2 hl2]
theorem path_len {ps : List (List UInt8)} (hn : ∀ q, q ∈ ps → namedP q = true) (hl : (pathOf ps).length ≤ 200) : ps.length ≤ 200 := by
  by_cases h0 : ps = []
  · subst h0; simp
  · have e := splitB_pathOf hn h0
    have := splitB_le (pathOf ps)
    rw [e] at this; simp at this; omega
theorem splits_known : splitP [47, 97, 47, 98] = (([47, 97], [98]), 0) := by decide +kernel
def underP (s t : List UInt8) : Bool := goodP s && (goodP t && (decide ((stepsOf t).length < (stepsOf s).length) && decide ((stepsOf s).take (stepsOf t).length = stepsOf t)))
theorem under_bad {s t : List UInt8} (h : ¬ (goodP s = true ∧ goodP t = true)) : underP s t = false := by
  unfold underP
  rcases hs : goodP s with _ | _ <;> rcases ht : goodP t with _ | _ <;> simp_all
theorem under_ok {s t : List UInt8} (h1 : goodP s = true) (h2 : goodP t = true) : underP s t = (decide ((stepsOf t).length < (stepsOf s).length) && decide ((stepsOf s).take (stepsOf t).length = stepsOf t)) := by
  unfold underP; rw [h1, h2]; rfl
theorem joinL_pre {ps ts : List (List UInt8)} (h1 : ∀ q, q ∈ ps → (47 : UInt8) ∉ q) (h2 : ∀ q, q ∈ ts → (47 : UInt8) ∉ q) :
    ((joinL ts ++ [47]).length ≤ (joinL ps).length ∧ (joinL ps).take (joinL ts ++ [47]).length = joinL ts ++ [47]) ↔ (ts.length < ps.length ∧ ps.take ts.length = ts) := by
  constructor
  · rintro ⟨_, h⟩
    have e : joinL ps = joinL ts ++ 47 :: (joinL ps).drop (joinL ts ++ [47]).length := by
      have := List.take_append_drop (joinL ts ++ [47]).length (joinL ps)
      rw [h, List.append_assoc] at this
      exact this.symm
    have e2 := congrArg splitB e
    rw [splitB_app, splitB_joinL h1, splitB_joinL h2, List.cons_append, List.cons.injEq] at e2
    have e3 := e2.2
    generalize hm : splitB ((joinL ps).drop (joinL ts ++ [47]).length) = m at e3
    have hm0 := splitB_ne ((joinL ps).drop (joinL ts ++ [47]).length)
    rw [hm] at hm0
    subst e3
    have := List.length_pos_iff.2 hm0
    exact ⟨by rw [List.length_append]; omega, List.take_left' rfl⟩
  · rintro ⟨h3, h4⟩
    have e := joinL_app (ps.take ts.length) (ps.drop ts.length)
    rw [List.take_append_drop, h4] at e
    obtain ⟨p, r, hp⟩ : ∃ p r, ps.drop ts.length = p :: r := by
      cases hd : ps.drop ts.length with
      | nil => have := congrArg List.length hd; rw [List.length_drop] at this; simp at this; omega
      | cons p r => exact ⟨p, r, rfl⟩
    rw [hp, joinL] at e
    rw [e]
    refine ⟨by simp, ?_⟩
    rw [show joinL ts ++ 47 :: (p ++ joinL r) = (joinL ts ++ [47]) ++ (p ++ joinL r) by simp]
    exact List.take_left' rfl
theorem under_known : underP [47, 97] [47] = true := by decide +kernel
end Go.Proofs.YtmpfhalheaeibaaDoor
