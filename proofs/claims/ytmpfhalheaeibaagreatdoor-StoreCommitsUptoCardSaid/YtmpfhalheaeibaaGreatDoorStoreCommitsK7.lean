/- A part of what StoreCommits leans on: texts of this claim, one behind the other. No condition. -/
import Derived.Laws.BitsAllLaws
import Derived.Laws.BitsLemmas
import Derived.IntWalk
import Derived.Test.YtmpfhalheaeibaaGreatDoorStoreCommitsK6
namespace Go.Proofs.YtmpfhalheaeibaaGreatDoor
set_option linter.unusedVariables false
set_option linter.unusedSimpArgs false
open Go Go.RowKit
set_option maxRecDepth 100000
set_option linter.unusedSimpArgs false
theorem splitB_len (r : List UInt8) : 0 < (splitB r).length := by
  have := splitB_ne r
  exact List.length_pos_iff.2 this
theorem splitB_snoc (a : List UInt8) (c : UInt8) : splitB (a ++ [c]) = if c = 47 then splitB a ++ [[]] else (splitB a).set ((splitB a).length - 1) ((splitB a).getD ((splitB a).length - 1) [] ++ [c]) := by
  induction a with
  | nil => by_cases h : c = 47 <;> simp [splitB, h]
  | cons x a ih =>
    have hl := splitB_len a
    by_cases hx : x = 47
    · have e : splitB (x :: a ++ [c]) = [] :: splitB (a ++ [c]) := by simp [splitB, hx]
      have e2 : splitB (x :: a) = [] :: splitB a := by simp [splitB, hx]
      rw [e, e2, ih]
      by_cases h : c = 47
      · simp [h]
      · rw [if_neg h, if_neg h]
        obtain ⟨n, hn⟩ : ∃ n, (splitB a).length = n + 1 := ⟨_, (Nat.succ_pred_eq_of_pos hl).symm⟩
        simp [hn]
    · cases hp : splitB a with
      | nil => exact absurd hp (splitB_ne a)
      | cons p ps =>
        have e2 : splitB (x :: a) = (x :: p) :: ps := by simp [splitB, hx, hp]
        rw [hp] at ih
        have e : ∀ q qs, splitB (a ++ [c]) = q :: qs → splitB (x :: a ++ [c]) = (x :: q) :: qs := fun q qs hq => by
          show splitB (x :: (a ++ [c])) = _
          rw [splitB, if_neg hx, hq]
        by_cases h : c = 47
        · rw [if_pos h] at ih ⊢
          rw [e _ _ ih, e2]; rfl
        · rw [if_neg h] at ih ⊢
          cases ps with
          | nil => rw [e _ _ ih, e2]; rfl
          | cons q qs =>
            have ih2 : splitB (a ++ [c]) = p :: (q :: qs).set qs.length ((q :: qs).getD qs.length [] ++ [c]) := by rw [ih]; rfl
            rw [e _ _ ih2, e2]; rfl
theorem splitB_take (s : List UInt8) (k : Nat) (h : k < s.length) : splitB (s.take (k + 1)) = if s.getD k 0 = 47 then splitB (s.take k) ++ [[]] else (splitB (s.take k)).set ((splitB (s.take k)).length - 1) ((splitB (s.take k)).getD ((splitB (s.take k)).length - 1) [] ++ [s.getD k 0]) := by
  have : s.take (k + 1) = s.take k ++ [s.getD k 0] := take_snoc s k h
  rw [this, splitB_snoc]
theorem splitB_le (s : List UInt8) : (splitB s).length ≤ s.length + 1 := by
  induction s with
  | nil => simp [splitB]
  | cons c s ih =>
    unfold splitB
    split
    · simp; omega
    · split
      · rename_i e; rw [e] at ih; simp at ih ⊢; omega
      · simp
theorem splitB_nil : splitB [] = [[]] := rfl
theorem piece_le (s : List UInt8) : ∀ p, p ∈ splitB s → p.length ≤ s.length := by
  induction s with
  | nil => intro p hp; simp [splitB] at hp; simp [hp]
  | cons c s ih =>
    intro p hp
    unfold splitB at hp
    split at hp
    · rcases List.mem_cons.1 hp with rfl | hp
      · simp
      · have := ih p hp; simp; omega
    · split at hp
      · rename_i q qs e
        rcases List.mem_cons.1 hp with rfl | hp
        · have := ih q (by rw [e]; simp); simp; omega
        · have := ih p (by rw [e]; simp [hp]); simp; omega
      · simp at hp; subst hp; simp
theorem toNat_pr2 (n : Nat) : ((n : Int) - 1).toNat = n - 1 := by omega
theorem srow_rgetD (l : List (List UInt8)) (i : Nat) (z : List DV) (h : i < l.length) : (l.map srow).getD i z = srow (l.getD i []) := getD_row srow l i z h
theorem srow_rset (l : List (List UInt8)) (i : Nat) (x : List UInt8) : (l.map srow).set i [.str x] = (l.set i x).map srow := by rw [List.map_set]; rfl
theorem srow_rsnoc (l : List (List UInt8)) (x : List UInt8) : l.map srow ++ [[.str x]] = (l ++ [x]).map srow := by rw [List.map_append]; rfl
theorem okU8_one (b : UInt8) : okU8s [[.int .u8 (b.toNat : Int)]] = True := eq_true (okU8s_rows [b])
theorem u8_47 {b : UInt8} (h : (b.toNat : Int) = 47) : b = 47 := by
  have h2 : b.toNat = (47 : UInt8).toNat := by have : (47 : UInt8).toNat = 47 := rfl; omega
  exact UInt8.toNat_inj.1 h2
theorem take_drop_map (l : List (List UInt8)) : List.take (l.length - 1) (List.drop 1 (l.map srow)) = (l.drop 1).map srow := by
  rw [← List.map_drop]; exact List.take_of_length_le (by simp)
theorem steps_c (s : List UInt8) (h : s.length ≤ 1048576) : acall Tryz.prog [] 73 [S s] (ret (.d (.sl 1 ((splitB s).map srow)))) := by
  refine zi tabOk Tryz.func73 rfl (by kernel_rfl) (by simp [Tryz.ntmps73]) ?_; simp only [Tryz.ntmps73, Tryz.results73, List.toList_toArray, apar, List.length_nil, List.length_cons, Nat.reduceAdd]
  (repeat' first
| (with_reducible refine AR.f ?_)
| refine zb (by decide) ?_
| (with_reducible refine AWP.cond rfl ?_ ?_ <;> intro hc <;> (try simp only [hcs, beq_iff_eq, ge_iff_le, gt_iff_lt] at hc))
| ((first | ((first | (with_reducible first | refine zR ?_ | refine zQ (by decide +kernel) ?_ | refine zD (by decide +kernel) ?_ | refine zE (by decide +kernel) ?_ | refine zG (by decide +kernel) ?_)); intro K hK) | ((first | (with_reducible refine zu ?_ ?_ <;> intro hg) | with_reducible intro hg) <;> (first | (exfalso; simp at hg; done) | (have hg' := hg; (try simp only [hcs, beq_iff_eq, ge_iff_le, gt_iff_lt] at hg'); (try simp only [hg]))))) <;> (try simp (disch := omega) only [go_sem, wn]) <;> (repeat' with_reducible refine And.intro ?_ ?_) <;> (try (with_reducible refine hK _ ?_; clear hK K)))
| omega)
  refine AWP.loopB (ι := Nat) (fun k => k ≤ s.length) (fun k => s.length - k) [8, 9] (fun k => [(10, I k), (3, .osl 0 1 0 (splitB (s.take k)).length)]) (fun k => [.rows 1 ((splitB (s.take k)).map srow), .bytes s]) 0 ?_ ?_ ?_
  · omega
  · simp only [go_sem, splitB_nil, srow]; (refine SImp.same ?_; simp (disch := omega) only [go_sem, wn, Int.natCast_add, splitB_nil])
  intro k hk
  have hl := splitB_len (s.take k)
  have hle := splitB_le (s.take k)
  have htl : (s.take k).length = k := by simp; omega
  have hpl : ((splitB (s.take k)).getD ((splitB (s.take k)).length - 1) []).length ≤ k := by
    have := piece_le (s.take k) _ (mem_getD (splitB (s.take k)) [] (k := (splitB (s.take k)).length - 1) (by omega))
    omega
  simp only [go_sem]
  (repeat' first
| (with_reducible refine AR.f ?_)
| refine zb (by decide) ?_
| (with_reducible refine AWP.cond rfl ?_ ?_ <;> intro hc <;> (try simp only [hcs, beq_iff_eq, ge_iff_le, gt_iff_lt] at hc))
| ((first | ((first | refine zP (Plan.takes [0, 1, 2, 3, 4, 6] (.fork 5 (Plan.takes [7, 8, 9, 10, 11] .done) 7 (.fork 5 (Plan.takes [8, 9, 10, 11] .done) 8 (Plan.takes [5, 9, 10, 11] .done)))) (by decide +kernel) ?_ | (with_reducible first | refine zR ?_ | refine zQ (by decide +kernel) ?_ | refine zD (by decide +kernel) ?_ | refine zE (by decide +kernel) ?_ | refine zG (by decide +kernel) ?_)); intro K hK) | ((first | (with_reducible refine zu ?_ ?_ <;> intro hg) | with_reducible intro hg) <;> (first | (exfalso; simp at hg; done) | (have hg' := hg; (try simp only [hcs, beq_iff_eq, ge_iff_le, gt_iff_lt] at hg'); (try simp only [hg]))))) <;> (try simp (disch := omega) only [go_sem, wn, u8g, srow_rgetD, srow, srow_rset, srow_rsnoc, toNat_pr2, okU8_one, UInt8.ofNat_toNat]) <;> (repeat' with_reducible refine And.intro ?_ ?_) <;> (try (with_reducible refine hK _ ?_; clear hK K)))
| omega)
  · refine ⟨k + 1, by omega, by omega, ?_⟩
    rw [splitB_take _ _ (by assumption), if_pos (u8_47 hc)]
    (refine SImp.frame [3, 1] rfl (by intro k hk; first | (simp at hk <;> (simp; omega)) | (simp only [List.mem_cons, List.not_mem_nil, or_false] at hk; simp only [List.length_cons, List.length_nil]; omega)) (by decide) (fun k hk => by first | omega | (rcases k with _ | _ | _ | _ | _ | _ | _ | _ | k <;> first | rfl | omega)) ?_ ?_ <;> simp (disch := omega) only [go_sem, wn, Int.natCast_add, List.length_append] <;> (try rfl))
  iterate 3
    · refine ⟨k + 1, by omega, by omega, ?_⟩
      rw [splitB_take _ _ (by assumption), if_neg (fun e => hc (by rw [e]; rfl))]
      (refine SImp.frame [0, 1] rfl (by intro k hk; first | (simp at hk <;> (simp; omega)) | (simp only [List.mem_cons, List.not_mem_nil, or_false] at hk; simp only [List.length_cons, List.length_nil]; omega)) (by decide) (fun k hk => by first | omega | (rcases k with _ | _ | _ | _ | _ | _ | _ | _ | k <;> first | rfl | omega)) ?_ ?_ <;> simp (disch := omega) only [go_sem, wn, Int.natCast_add, List.length_set] <;> (try rfl))
  · have e : k = s.length := by omega
    subst e
    simp only [List.take_length]
    (refine zF rfl ?_ ?_ ?_ ?_; (iterate 3 (focus ((try simp (disch := omega) only [go_sem, wn]) <;> (try omega) <;> fail))); (try simp (disch := omega) only [go_sem, wn, I, B, S, inj, List.cons.injEq, and_true, true_and, and_self]))
def goodL (s : List UInt8) : Bool := decide (s = [47]) || (decide (s.length ≤ 200) && (decide ((splitB s).getD 0 [] = []) && (decide (2 ≤ (splitB s).length) && ((splitB s).drop 1).all namedP)))
theorem goodL_eq (s : List UInt8) : goodL s = goodP s := by
  unfold goodL goodP
  congr 2
  cases s with
  | nil => simp [splitB]
  | cons c r =>
    by_cases h : c = 47
    · subst h
      have := splitB_len r
      simp [splitB, allNamed]
      intro _; omega
    · have hn : ∃ p ps, splitB (c :: r) = (c :: p) :: ps := by
        cases hp : splitB r with
        | nil => exact absurd hp (splitB_ne r)
        | cons p ps => exact ⟨p, ps, by simp [splitB, h, hp]⟩
      obtain ⟨p, ps, e⟩ := hn
      rw [e]
      simp [h]
theorem ref_good_c (s : List UInt8) (h : s.length ≤ 1048576) : acall Tryz.prog [] 70 [S s] (ret (B (goodP s))) := by
  rw [← goodL_eq]
  have hl := splitB_len s
  refine zi tabOk Tryz.func70 rfl (by kernel_rfl) (by simp [Tryz.ntmps70]) ?_; simp only [Tryz.ntmps70, Tryz.results70, List.toList_toArray, apar, List.length_nil, List.length_cons, Nat.reduceAdd]
  (repeat' first
| (with_reducible refine AR.f ?_)
| refine zb (by decide) ?_
| (with_reducible refine AWP.cond rfl ?_ ?_ <;> intro hc <;> (try simp only [hcs, beq_iff_eq, ge_iff_le, gt_iff_lt] at hc))
| ((first | ((first | (with_reducible first | refine zR ?_ | refine zQ (by decide +kernel) ?_ | refine zD (by decide +kernel) ?_ | refine zE (by decide +kernel) ?_ | refine zG (by decide +kernel) ?_)); intro K hK) | ((first | refine zA (steps_c s h) ?_ ?_ ?_ ?_ ?_); (focus exact rfl); (focus exact rfl); iterate 2 (focus ((try simp (disch := omega) only [go_sem, wn, srow_rgetD, srow, take_drop_map, Nat.min_self]) <;> (try omega) <;> fail))) | ((first | refine zN (steps_c s h) rfl ?_ ?_); (focus ((try simp (disch := omega) only [go_sem, wn, srow_rgetD, srow, take_drop_map, Nat.min_self]) <;> (try omega) <;> fail))) | (first | ((first | refine zX (steps_c s h) rfl ?_ ?_ | refine zy (steps_c s h) ?_ ?_); (focus ((try simp (disch := omega) only [go_sem, wn, srow_rgetD, srow, take_drop_map, Nat.min_self]) <;> (try omega) <;> fail)))) | ((first | (with_reducible refine zu ?_ ?_ <;> intro hg) | with_reducible intro hg) <;> (first | (exfalso; simp at hg; done) | (have hg' := hg; (try simp only [hcs, beq_iff_eq, ge_iff_le, gt_iff_lt] at hg'); (try simp only [hg]))))) <;> (try simp (disch := omega) only [go_sem, wn, srow_rgetD, srow, take_drop_map, Nat.min_self]) <;> (repeat' with_reducible refine And.intro ?_ ?_) <;> (try (with_reducible refine hK _ ?_; clear hK K)))
| omega)
  · (refine zF rfl ?_ ?_ ?_ ?_; (iterate 3 (focus ((try simp (disch := omega) only [go_sem, wn]) <;> (try omega) <;> fail))); (try simp (disch := omega) only [go_sem, wn, I, B, S, inj, List.cons.injEq, and_true, true_and, and_self]))
    unfold goodL; rw [decide_eq_true hc, Bool.true_or]
  · (refine zF rfl ?_ ?_ ?_ ?_; (iterate 3 (focus ((try simp (disch := omega) only [go_sem, wn]) <;> (try omega) <;> fail))); (try simp (disch := omega) only [go_sem, wn, I, B, S, inj, List.cons.injEq, and_true, true_and, and_self]))
    unfold goodL
    rw [decide_eq_false (by assumption), Bool.false_or]
    rcases hc with (c | c) | c
    · rw [decide_eq_false (p := s.length ≤ 200) (by omega), Bool.false_and]
    · rw [decide_eq_false c, Bool.false_and, Bool.and_false]
    · rw [decide_eq_false (p := 2 ≤ (splitB s).length) (by omega), Bool.false_and, Bool.and_false, Bool.and_false]
  have g : goodL s = ((splitB s).drop 1).all namedP := by
    unfold goodL
    rw [decide_eq_false (by assumption), Bool.false_or, decide_eq_true (p := s.length ≤ 200) (by omega), decide_eq_true hc.1.2, decide_eq_true (p := 2 ≤ (splitB s).length) (by omega)]; rfl
  rw [g]
  have hml : ((splitB s).drop 1).length = (splitB s).length - 1 := by simp
  have hle := splitB_le s
  have hpl : ∀ p, p ∈ (splitB s).drop 1 → okS p := fun p hp => by
    have := piece_le s p (List.mem_of_mem_drop hp)
    unfold okS; omega
  generalize (splitB s).drop 1 = m at *
  refine AWP.loopS (ι := Nat) (fun k => k ≤ m.length ∧ ∀ j, j < k → namedP (m.getD j []) = true) (fun k => m.length - k) [25, 26] (fun k => [(27, I k)]) 0 ?_ (by simp (disch := omega) only [go_sem, wn, hml]) ?_
  · exact ⟨by omega, by omega⟩
  intro k ⟨hk, hk2⟩
  simp only [go_sem]
  have hpk : okS (m.getD k []) := by
    by_cases e : k < m.length
    · exact hpl _ (mem_getD m [] e)
    · rw [List.getD_eq_getElem?_getD, List.getElem?_eq_none (by omega)]; show okS []; unfold okS; decide
  (repeat' first
| (with_reducible refine AR.f ?_)
| refine zb (by decide) ?_
| (with_reducible refine AWP.cond rfl ?_ ?_ <;> intro hc <;> (try simp only [hcs, beq_iff_eq, ge_iff_le, gt_iff_lt] at hc))
| ((first | ((first | (with_reducible first | refine zR ?_ | refine zQ (by decide +kernel) ?_ | refine zD (by decide +kernel) ?_ | refine zE (by decide +kernel) ?_ | refine zG (by decide +kernel) ?_)); intro K hK) | ((first | refine acallH_sc (ref_named_c _ hpk) rfl rfl ?_ ?_ ?_ | refine acallQ_sc (ref_named_c _ hpk) rfl rfl ?_ ?_ ?_); iterate 2 (focus ((try simp (disch := omega) only [go_sem, wn, srow_rgetD, srow]) <;> (try omega) <;> fail))) | ((first | refine zN (ref_named_c _ hpk) rfl ?_ ?_); (focus ((try simp (disch := omega) only [go_sem, wn, srow_rgetD, srow]) <;> (try omega) <;> fail))) | (first | ((first | refine zX (ref_named_c _ hpk) rfl ?_ ?_ | refine zy (ref_named_c _ hpk) ?_ ?_); (focus ((try simp (disch := omega) only [go_sem, wn, srow_rgetD, srow]) <;> (try omega) <;> fail)))) | ((first | (with_reducible refine zu ?_ ?_ <;> intro hg) | with_reducible intro hg) <;> (first | (exfalso; simp at hg; done) | (have hg' := hg; (try simp only [hcs, beq_iff_eq, ge_iff_le, gt_iff_lt] at hg'); (try simp only [hg]))))) <;> (try simp (disch := omega) only [go_sem, wn, srow_rgetD, srow]) <;> (repeat' with_reducible refine And.intro ?_ ?_) <;> (try (with_reducible refine hK _ ?_; clear hK K)))
| omega)
  · (refine zF rfl ?_ ?_ ?_ ?_; (iterate 3 (focus ((try simp (disch := omega) only [go_sem, wn]) <;> (try omega) <;> fail))); (try simp (disch := omega) only [go_sem, wn, I, B, S, inj, List.cons.injEq, and_true, true_and, and_self]))
    symm; exact all_not (d := []) (by omega : k < m.length) hc
  · refine ⟨k + 1, ⟨by omega, fun j hj => ?_⟩, by omega, ?_⟩
    · by_cases e : j = k
      · subst e; exact hc
      · exact hk2 j (by omega)
    (refine SImp.same ?_; simp (disch := omega) only [go_sem, wn, Int.natCast_add])
  · (refine zF rfl ?_ ?_ ?_ ?_; (iterate 3 (focus ((try simp (disch := omega) only [go_sem, wn]) <;> (try omega) <;> fail))); (try simp (disch := omega) only [go_sem, wn, I, B, S, inj, List.cons.injEq, and_true, true_and, and_self]))
    symm; exact all_full namedP m [] fun j hj => hk2 j (by omega)
end Go.Proofs.YtmpfhalheaeibaaGreatDoor
namespace Go.Proofs.YtmpfhalheaeibaaGreatDoor
set_option linter.unusedVariables false
set_option linter.unusedSimpArgs false
open Go Go.RowKit
set_option maxRecDepth 100000
set_option linter.unusedSimpArgs false
def badZ (e c : Int) : Prop := e < 0 ∨ 2147483647 < e ∨ c < 0 ∨ 2147483647 < c
instance (e c : Int) : Decidable (badZ e c) := by unfold badZ; infer_instance
def two (p : Int × Int) : AV := .tup [I p.1, I p.2]
def goodZ (z : Int) : Prop := 0 ≤ z ∧ z < 4611686018427387904
instance (z : Int) : Decidable (goodZ z) := by unfold goodZ; infer_instance
theorem zgood_c (z : Int) : acall Tryz.prog [] 80 [I z] (ret (B (decide (goodZ z)))) := by
  refine zi tabOk Tryz.func80 rfl (by kernel_rfl) (by simp [Tryz.ntmps80]) ?_; simp only [Tryz.ntmps80, Tryz.results80, List.toList_toArray, apar, List.length_nil, List.length_cons, Nat.reduceAdd]
  repeat' first
    | with_reducible refine AWP.seq ?_
    | with_reducible refine thenA_n ?_
    | with_reducible refine thenA_r ?_
    | with_reducible refine thenA_e ?_
    | with_reducible refine blkA_n ?_
    | with_reducible refine blkA_r ?_
    | with_reducible refine blkA_e ?_
    | with_reducible refine zb (by decide) ?_
    | with_reducible refine AWP.skip ?_
    | with_reducible refine AWP.ret ?_
    | with_reducible refine AWP.exit ?_
    | with_reducible refine AWP.block ?_
    | (with_reducible refine AWP.cond rfl ?_ ?_ <;> intro _)
    | (with_reducible refine AWP.region tabOk ?_; intro K hK; simp only [go_sem, ↓reduceIte, reduceCtorEq, Nat.reduceAdd, Nat.reduceSub, Nat.reduceMul, Nat.reducePow, Nat.reduceDiv, Nat.reduceMod, Nat.reduceLT, Nat.reduceLeDiff, Nat.reduceEqDiff, Nat.reduceBEq, Int.reduceToNat, Int.reduceLT, Int.reduceLE, Int.reduceAdd, Int.reduceSub, Int.reduceMul, Int.reducePow, Int.reduceNeg, Int.reduceEq, Int.toNat_natCast, Int.cast_ofNat_Int, Bool.not_eq_true', Bool.not_eq_false', ge_iff_le, gt_iff_lt, ne_eq, not_false_eq_true, not_true_eq_false, Nat.one_ne_zero, beq_self_eq_true, Bool.bne_false, Nat.zero_add, true_and]; (repeat' with_reducible apply And.intro) <;> (try (with_reducible refine hK _ ?_; clear hK K)))
    | (with_reducible refine AWP.quiet mixed tabOk (by kernel_rfl) ?_; intro K hK; simp only [go_sem, ↓reduceIte, reduceCtorEq, Nat.reduceAdd, Nat.reduceSub, Nat.reduceMul, Nat.reducePow, Nat.reduceDiv, Nat.reduceMod, Nat.reduceLT, Nat.reduceLeDiff, Nat.reduceEqDiff, Nat.reduceBEq, Int.reduceToNat, Int.reduceLT, Int.reduceLE, Int.reduceAdd, Int.reduceSub, Int.reduceMul, Int.reducePow, Int.reduceNeg, Int.reduceEq, Int.toNat_natCast, Int.cast_ofNat_Int, Bool.not_eq_true', Bool.not_eq_false', ge_iff_le, gt_iff_lt, ne_eq, not_false_eq_true, not_true_eq_false, Nat.one_ne_zero, beq_self_eq_true, Bool.bne_false, Nat.zero_add, true_and]; (repeat' with_reducible apply And.intro) <;> (try (with_reducible refine hK _ ?_; clear hK K)))
    | (intro hg; first | (exfalso; simp at hg; done) | ((try simp only [hg, go_sem, ↓reduceIte, reduceCtorEq, Nat.reduceAdd, Nat.reduceSub, Nat.reduceMul, Nat.reducePow, Nat.reduceDiv, Nat.reduceMod, Nat.reduceLT, Nat.reduceLeDiff, Nat.reduceEqDiff, Nat.reduceBEq, Int.reduceToNat, Int.reduceLT, Int.reduceLE, Int.reduceAdd, Int.reduceSub, Int.reduceMul, Int.reducePow, Int.reduceNeg, Int.reduceEq, Int.toNat_natCast, Int.cast_ofNat_Int, Bool.not_eq_true', Bool.not_eq_false', ge_iff_le, gt_iff_lt, ne_eq, not_false_eq_true, not_true_eq_false, Nat.one_ne_zero, beq_self_eq_true, Bool.bne_false, Nat.zero_add, true_and]) <;> (repeat' with_reducible refine And.intro ?_ ?_) <;> (try (with_reducible refine hK _ ?_; clear hK K))))
    | omega
  all_goals try (refine aend_ret ?_ rfl ?_ ?_ ?_ ?_; (focus (first | exact .inl rfl | exact .inr rfl)); (focus (simp only [go_sem, ↓reduceIte, reduceCtorEq, Nat.reduceAdd, Nat.reduceSub, Nat.reduceMul, Nat.reducePow, Nat.reduceDiv, Nat.reduceMod, Nat.reduceLT, Nat.reduceLeDiff, Nat.reduceEqDiff, Nat.reduceBEq, Int.reduceToNat, Int.reduceLT, Int.reduceLE, Int.reduceAdd, Int.reduceSub, Int.reduceMul, Int.reducePow, Int.reduceNeg, Int.reduceEq, Int.toNat_natCast, Int.cast_ofNat_Int, Bool.not_eq_true', Bool.not_eq_false', ge_iff_le, gt_iff_lt, ne_eq, not_false_eq_true, not_true_eq_false, Nat.one_ne_zero, beq_self_eq_true, Bool.bne_false, Nat.zero_add, two]; first | done | omega)); (focus (simp only [go_sem, ↓reduceIte, reduceCtorEq, Nat.reduceAdd, Nat.reduceSub, Nat.reduceMul, Nat.reducePow, Nat.reduceDiv, Nat.reduceMod, Nat.reduceLT, Nat.reduceLeDiff, Nat.reduceEqDiff, Nat.reduceBEq, Int.reduceToNat, Int.reduceLT, Int.reduceLE, Int.reduceAdd, Int.reduceSub, Int.reduceMul, Int.reducePow, Int.reduceNeg, Int.reduceEq, Int.toNat_natCast, Int.cast_ofNat_Int, Bool.not_eq_true', Bool.not_eq_false', ge_iff_le, gt_iff_lt, ne_eq, not_false_eq_true, not_true_eq_false, Nat.one_ne_zero, beq_self_eq_true, Bool.bne_false, Nat.zero_add, two]; done)); (focus (simp only [go_sem, ↓reduceIte, reduceCtorEq, Nat.reduceAdd, Nat.reduceSub, Nat.reduceMul, Nat.reducePow, Nat.reduceDiv, Nat.reduceMod, Nat.reduceLT, Nat.reduceLeDiff, Nat.reduceEqDiff, Nat.reduceBEq, Int.reduceToNat, Int.reduceLT, Int.reduceLE, Int.reduceAdd, Int.reduceSub, Int.reduceMul, Int.reducePow, Int.reduceNeg, Int.reduceEq, Int.toNat_natCast, Int.cast_ofNat_Int, Bool.not_eq_true', Bool.not_eq_false', ge_iff_le, gt_iff_lt, ne_eq, not_false_eq_true, not_true_eq_false, Nat.one_ne_zero, beq_self_eq_true, Bool.bne_false, Nat.zero_add, two]; done)); simp only [go_sem, ↓reduceIte, reduceCtorEq, Nat.reduceAdd, Nat.reduceSub, Nat.reduceMul, Nat.reducePow, Nat.reduceDiv, Nat.reduceMod, Nat.reduceLT, Nat.reduceLeDiff, Nat.reduceEqDiff, Nat.reduceBEq, Int.reduceToNat, Int.reduceLT, Int.reduceLE, Int.reduceAdd, Int.reduceSub, Int.reduceMul, Int.reducePow, Int.reduceNeg, Int.reduceEq, Int.toNat_natCast, Int.cast_ofNat_Int, Bool.not_eq_true', Bool.not_eq_false', ge_iff_le, gt_iff_lt, ne_eq, not_false_eq_true, not_true_eq_false, Nat.one_ne_zero, beq_self_eq_true, Bool.bne_false, Nat.zero_add, two, I, B, S, AV.d.injEq, DV.int.injEq, DV.bool.injEq, DV.str.injEq, DV.sl.injEq, AV.tup.injEq, AV.agg.injEq, List.cons.injEq, and_true, true_and, and_self])
  unfold goodZ; exact (Bool.decide_and _ _).symm
theorem ref_zgood_c (z : Int) (hz : okI z) : acall Tryz.prog [] 69 [I z] (ret (B (decide (goodZ z)))) := by
  refine zi tabOk Tryz.func69 rfl (by kernel_rfl) (by simp [Tryz.ntmps69]) ?_; simp only [Tryz.ntmps69, Tryz.results69, List.toList_toArray, apar, List.length_nil, List.length_cons, Nat.reduceAdd]
  repeat' first
    | with_reducible refine AWP.seq ?_
    | with_reducible refine thenA_n ?_
    | with_reducible refine thenA_r ?_
    | with_reducible refine thenA_e ?_
    | with_reducible refine blkA_n ?_
    | with_reducible refine blkA_r ?_
    | with_reducible refine blkA_e ?_
    | with_reducible refine zb (by decide) ?_
    | with_reducible refine AWP.skip ?_
    | with_reducible refine AWP.ret ?_
    | with_reducible refine AWP.exit ?_
    | with_reducible refine AWP.block ?_
    | (with_reducible refine AWP.cond rfl ?_ ?_ <;> intro _)
    | (with_reducible refine AWP.region tabOk ?_; intro K hK; simp only [go_sem, ↓reduceIte, reduceCtorEq, Nat.reduceAdd, Nat.reduceSub, Nat.reduceMul, Nat.reducePow, Nat.reduceDiv, Nat.reduceMod, Nat.reduceLT, Nat.reduceLeDiff, Nat.reduceEqDiff, Nat.reduceBEq, Int.reduceToNat, Int.reduceLT, Int.reduceLE, Int.reduceAdd, Int.reduceSub, Int.reduceMul, Int.reducePow, Int.reduceNeg, Int.reduceEq, Int.toNat_natCast, Int.cast_ofNat_Int, Bool.not_eq_true', Bool.not_eq_false', ge_iff_le, gt_iff_lt, ne_eq, not_false_eq_true, not_true_eq_false, Nat.one_ne_zero, beq_self_eq_true, Bool.bne_false, Nat.zero_add, true_and]; (repeat' with_reducible apply And.intro) <;> (try (with_reducible refine hK _ ?_; clear hK K)))
    | (with_reducible refine AWP.quiet mixed tabOk (by kernel_rfl) ?_; intro K hK; simp only [go_sem, ↓reduceIte, reduceCtorEq, Nat.reduceAdd, Nat.reduceSub, Nat.reduceMul, Nat.reducePow, Nat.reduceDiv, Nat.reduceMod, Nat.reduceLT, Nat.reduceLeDiff, Nat.reduceEqDiff, Nat.reduceBEq, Int.reduceToNat, Int.reduceLT, Int.reduceLE, Int.reduceAdd, Int.reduceSub, Int.reduceMul, Int.reducePow, Int.reduceNeg, Int.reduceEq, Int.toNat_natCast, Int.cast_ofNat_Int, Bool.not_eq_true', Bool.not_eq_false', ge_iff_le, gt_iff_lt, ne_eq, not_false_eq_true, not_true_eq_false, Nat.one_ne_zero, beq_self_eq_true, Bool.bne_false, Nat.zero_add, true_and]; (repeat' with_reducible apply And.intro) <;> (try (with_reducible refine hK _ ?_; clear hK K)))
    | (intro hg; first | (exfalso; simp at hg; done) | ((try simp only [hg, go_sem, ↓reduceIte, reduceCtorEq, Nat.reduceAdd, Nat.reduceSub, Nat.reduceMul, Nat.reducePow, Nat.reduceDiv, Nat.reduceMod, Nat.reduceLT, Nat.reduceLeDiff, Nat.reduceEqDiff, Nat.reduceBEq, Int.reduceToNat, Int.reduceLT, Int.reduceLE, Int.reduceAdd, Int.reduceSub, Int.reduceMul, Int.reducePow, Int.reduceNeg, Int.reduceEq, Int.toNat_natCast, Int.cast_ofNat_Int, Bool.not_eq_true', Bool.not_eq_false', ge_iff_le, gt_iff_lt, ne_eq, not_false_eq_true, not_true_eq_false, Nat.one_ne_zero, beq_self_eq_true, Bool.bne_false, Nat.zero_add, true_and]) <;> (repeat' with_reducible refine And.intro ?_ ?_) <;> (try (with_reducible refine hK _ ?_; clear hK K))))
    | omega
  all_goals try (refine aend_ret ?_ rfl ?_ ?_ ?_ ?_; (focus (first | exact .inl rfl | exact .inr rfl)); (focus (simp only [go_sem, ↓reduceIte, reduceCtorEq, Nat.reduceAdd, Nat.reduceSub, Nat.reduceMul, Nat.reducePow, Nat.reduceDiv, Nat.reduceMod, Nat.reduceLT, Nat.reduceLeDiff, Nat.reduceEqDiff, Nat.reduceBEq, Int.reduceToNat, Int.reduceLT, Int.reduceLE, Int.reduceAdd, Int.reduceSub, Int.reduceMul, Int.reducePow, Int.reduceNeg, Int.reduceEq, Int.toNat_natCast, Int.cast_ofNat_Int, Bool.not_eq_true', Bool.not_eq_false', ge_iff_le, gt_iff_lt, ne_eq, not_false_eq_true, not_true_eq_false, Nat.one_ne_zero, beq_self_eq_true, Bool.bne_false, Nat.zero_add, true_and]; first | done | omega)); (focus (simp only [go_sem, ↓reduceIte, reduceCtorEq, Nat.reduceAdd, Nat.reduceSub, Nat.reduceMul, Nat.reducePow, Nat.reduceDiv, Nat.reduceMod, Nat.reduceLT, Nat.reduceLeDiff, Nat.reduceEqDiff, Nat.reduceBEq, Int.reduceToNat, Int.reduceLT, Int.reduceLE, Int.reduceAdd, Int.reduceSub, Int.reduceMul, Int.reducePow, Int.reduceNeg, Int.reduceEq, Int.toNat_natCast, Int.cast_ofNat_Int, Bool.not_eq_true', Bool.not_eq_false', ge_iff_le, gt_iff_lt, ne_eq, not_false_eq_true, not_true_eq_false, Nat.one_ne_zero, beq_self_eq_true, Bool.bne_false, Nat.zero_add, true_and]; done)); (focus (simp only [go_sem, ↓reduceIte, reduceCtorEq, Nat.reduceAdd, Nat.reduceSub, Nat.reduceMul, Nat.reducePow, Nat.reduceDiv, Nat.reduceMod, Nat.reduceLT, Nat.reduceLeDiff, Nat.reduceEqDiff, Nat.reduceBEq, Int.reduceToNat, Int.reduceLT, Int.reduceLE, Int.reduceAdd, Int.reduceSub, Int.reduceMul, Int.reducePow, Int.reduceNeg, Int.reduceEq, Int.toNat_natCast, Int.cast_ofNat_Int, Bool.not_eq_true', Bool.not_eq_false', ge_iff_le, gt_iff_lt, ne_eq, not_false_eq_true, not_true_eq_false, Nat.one_ne_zero, beq_self_eq_true, Bool.bne_false, Nat.zero_add, true_and]; done)); simp only [go_sem, ↓reduceIte, reduceCtorEq, Nat.reduceAdd, Nat.reduceSub, Nat.reduceMul, Nat.reducePow, Nat.reduceDiv, Nat.reduceMod, Nat.reduceLT, Nat.reduceLeDiff, Nat.reduceEqDiff, Nat.reduceBEq, Int.reduceToNat, Int.reduceLT, Int.reduceLE, Int.reduceAdd, Int.reduceSub, Int.reduceMul, Int.reducePow, Int.reduceNeg, Int.reduceEq, Int.toNat_natCast, Int.cast_ofNat_Int, Bool.not_eq_true', Bool.not_eq_false', ge_iff_le, gt_iff_lt, ne_eq, not_false_eq_true, not_true_eq_false, Nat.one_ne_zero, beq_self_eq_true, Bool.bne_false, Nat.zero_add, true_and, I, B, S, AV.d.injEq, DV.int.injEq, DV.bool.injEq, DV.str.injEq, DV.sl.injEq, AV.tup.injEq, AV.agg.injEq, List.cons.injEq, and_true, true_and, and_self])
  have e : ∀ h : 0 ≤ z, z.tdiv 2147483648 = z / 2147483648 := fun h => Int.tdiv_eq_ediv_of_nonneg h
  rw [Bool.eq_iff_iff]
  simp only [Bool.and_eq_true, decide_eq_true_eq]
  unfold goodZ
  constructor
  · intro ⟨h, h2⟩
    have e := e h
    rw [wrap_in _ ⟨by omega, by omega⟩] at h2
    omega
  · intro ⟨h, h2⟩
    have e := e h
    refine ⟨h, ?_⟩
    rw [wrap_in _ ⟨by omega, by omega⟩]
    omega
end Go.Proofs.YtmpfhalheaeibaaGreatDoor
namespace Go.Proofs.YtmpfhalheaeibaaGreatDoor
set_option linter.unusedVariables false
set_option linter.unusedSimpArgs false
open Go Go.RowKit
set_option maxRecDepth 100000
def numsB (t : ATxn) : Bool := decide (goodZ t.zxid) && (decide (1 ≤ t.session ∧ t.session ≤ 2147483647) && (decide (0 ≤ t.version ∧ t.version ≤ 2147483647) && decide (0 ≤ t.owner ∧ t.owner ≤ 2147483647)))
def badT (t : ATxn) : Bool :=
  if t.op ≤ 2 then !decide (t.path = []) || (!decide (t.data = []) || (!decide (t.version = 0) || !decide (t.owner = 0)))
  else if t.op = 3 then !goodP t.path || (decide (t.path = [47]) || !decide (t.version = 0))
  else if t.op = 4 then !goodP t.path || (decide (t.path = [47]) || (!decide (t.data = []) || (!decide (t.version = 0) || !decide (t.owner = 0))))
  else !goodP t.path || !decide (t.owner = 0)
def goodT (t : ATxn) : Int := if t.op < 1 ∨ 5 < t.op then 4 else if numsB t = false then 3 else if 256 < t.data.length then 1 else if badT t = true then 2 else 0
theorem goodT_op {t : ATxn} (h : t.op < 1 ∨ 5 < t.op) : goodT t = 4 := by unfold goodT; rw [if_pos h]
theorem goodT_num {t : ATxn} (h : 1 ≤ t.op ∧ t.op ≤ 5) (h2 : ¬ numsB t = true) : goodT t = 3 := by unfold goodT; rw [if_neg (by omega), if_pos (eq_false_of_ne_true h2)]
theorem goodT_long {t : ATxn} (h : 1 ≤ t.op ∧ t.op ≤ 5) (h2 : numsB t = true) (h3 : 256 < t.data.length) : goodT t = 1 := by unfold goodT; rw [if_neg (by omega), if_neg (by rw [h2]; decide), if_pos h3]
theorem goodT_ok {t : ATxn} (h : 1 ≤ t.op ∧ t.op ≤ 5) (h2 : numsB t = true) (h3 : t.data.length ≤ 256) : goodT t = if badT t = true then 2 else 0 := by unfold goodT; rw [if_neg (by omega), if_neg (by rw [h2]; decide), if_neg (by omega)]
theorem numsB_iff (t : ATxn) : numsB t = true ↔ goodZ t.zxid ∧ (1 ≤ t.session ∧ t.session ≤ 2147483647) ∧ (0 ≤ t.version ∧ t.version ≤ 2147483647) ∧ (0 ≤ t.owner ∧ t.owner ≤ 2147483647) := by
  unfold numsB; simp only [Bool.and_eq_true, decide_eq_true_eq]
theorem wbad {t : ATxn} (h : 1 ≤ t.op ∧ t.op ≤ 5) : badT t = true ↔ ((t.op ≤ 2 ∧ (((¬t.path = [] ∨ ¬t.data = []) ∨ ¬t.version = 0) ∨ ¬t.owner = 0)) ∨ (3 ≤ t.op ∧ (goodP t.path = false ∨ t.path = [47] ∧ ¬t.op = 5)) ∨ ((t.op = 4 ∧ ((¬t.data = [] ∨ ¬t.version = 0) ∨ ¬t.owner = 0) ∨ t.op = 3 ∧ ¬t.version = 0) ∨ t.op = 5 ∧ ¬t.owner = 0)) := by
  have hop : t.op = 1 ∨ t.op = 2 ∨ t.op = 3 ∨ t.op = 4 ∨ t.op = 5 := by omega
  rcases hop with e | e | e | e | e <;> simp [badT, e, or_assoc]
theorem wgood_c (t : ATxn) (hp : okS t.path) (hd : okS t.data) : acall Tryz.prog [] 51 [t.av] (ret (I (goodT t))) := by
  unfold okS at hd
  refine zi tabOk Tryz.func51 rfl (by kernel_rfl) (by simp [Tryz.ntmps51]) ?_; simp only [Tryz.ntmps51, Tryz.results51, List.toList_toArray, apar, List.length_nil, List.length_cons, Nat.reduceAdd]
  (repeat' first
| (with_reducible refine AR.f ?_)
| refine zb (by decide) ?_
| (with_reducible refine AWP.cond rfl ?_ ?_ <;> intro hc <;> (try simp only [hcs, beq_iff_eq, ge_iff_le, gt_iff_lt] at hc))
| ((first | ((first | (with_reducible first | refine zR ?_ | refine zQ (by decide +kernel) ?_ | refine zD (by decide +kernel) ?_ | refine zE (by decide +kernel) ?_ | refine zG (by decide +kernel) ?_)); intro K hK) | ((first | refine zA (good_c t.path hp) ?_ ?_ ?_ ?_ ?_); (focus exact rfl); (focus exact rfl); iterate 2 (focus ((try simp (disch := omega) only [go_sem, wn]) <;> (try omega) <;> fail))) | ((first | refine acallH_sc (zgood_c _) rfl rfl ?_ ?_ ?_ | refine acallQ_sc (zgood_c _) rfl rfl ?_ ?_ ?_); iterate 2 (focus ((try simp (disch := omega) only [go_sem, wn]) <;> (try omega) <;> fail))) | ((first | refine zN (zgood_c _) rfl ?_ ?_ | refine zN (good_c t.path hp) rfl ?_ ?_); (focus ((try simp (disch := omega) only [go_sem, wn]) <;> (try omega) <;> fail))) | (first | ((first | refine zX (zgood_c _) rfl ?_ ?_ | refine zy (zgood_c _) ?_ ?_); (focus ((try simp (disch := omega) only [go_sem, wn]) <;> (try omega) <;> fail))) | ((first | refine zX (good_c t.path hp) rfl ?_ ?_ | refine zy (good_c t.path hp) ?_ ?_); (focus ((try simp (disch := omega) only [go_sem, wn]) <;> (try omega) <;> fail)))) | ((first | (with_reducible refine zu ?_ ?_ <;> intro hg) | with_reducible intro hg) <;> (first | (exfalso; simp at hg; done) | (have hg' := hg; (try simp only [hcs, beq_iff_eq, ge_iff_le, gt_iff_lt] at hg'); (try simp only [hg]))))) <;> (try simp (disch := omega) only [go_sem, wn]) <;> (repeat' with_reducible refine And.intro ?_ ?_) <;> (try (with_reducible refine hK _ ?_; clear hK K)))
| omega)
  · rw [goodT_op hc]; (refine zF rfl ?_ ?_ ?_ ?_; (iterate 3 (focus ((try simp (disch := omega) only [go_sem, wn]) <;> (try omega) <;> fail))); (try simp (disch := omega) only [go_sem, wn, I, B, S, inj, List.cons.injEq, and_true, true_and, and_self]))
  all_goals (have hop : 1 ≤ t.op ∧ t.op ≤ 5 := by assumption)
  · rw [goodT_num hop]
    · (refine zF rfl ?_ ?_ ?_ ?_; (iterate 3 (focus ((try simp (disch := omega) only [go_sem, wn]) <;> (try omega) <;> fail))); (try simp (disch := omega) only [go_sem, wn, I, B, S, inj, List.cons.injEq, and_true, true_and, and_self]))
    rw [numsB_iff]; rintro ⟨h1, h2⟩
    rcases hc with (((((c | c) | c) | c) | c) | c) | c
    · exact c h1
    all_goals omega
  all_goals (have hn : (((((goodZ t.zxid ∧ 1 ≤ t.session) ∧ t.session ≤ 2147483647) ∧ 0 ≤ t.version) ∧ t.version ≤ 2147483647) ∧ 0 ≤ t.owner) ∧ t.owner ≤ 2147483647 := by assumption)
  all_goals (have hnb : numsB t = true := (numsB_iff t).2 ⟨hn.1.1.1.1.1.1, by omega, by omega, by omega⟩)
  · rw [goodT_long hop hnb (by omega)]; (refine zF rfl ?_ ?_ ?_ ?_; (iterate 3 (focus ((try simp (disch := omega) only [go_sem, wn]) <;> (try omega) <;> fail))); (try simp (disch := omega) only [go_sem, wn, I, B, S, inj, List.cons.injEq, and_true, true_and, and_self]))
  all_goals rw [goodT_ok hop hnb (by omega)]
  · rw [if_pos ((wbad hop).2 (.inl hc))]; (refine zF rfl ?_ ?_ ?_ ?_; (iterate 3 (focus ((try simp (disch := omega) only [go_sem, wn]) <;> (try omega) <;> fail))); (try simp (disch := omega) only [go_sem, wn, I, B, S, inj, List.cons.injEq, and_true, true_and, and_self]))
  · rw [if_pos ((wbad hop).2 (.inr (.inl ⟨by simpa using hg, hc⟩)))]; (refine zF rfl ?_ ?_ ?_ ?_; (iterate 3 (focus ((try simp (disch := omega) only [go_sem, wn]) <;> (try omega) <;> fail))); (try simp (disch := omega) only [go_sem, wn, I, B, S, inj, List.cons.injEq, and_true, true_and, and_self]))
  · rw [if_pos ((wbad hop).2 (.inr (.inr hc)))]; (refine zF rfl ?_ ?_ ?_ ?_; (iterate 3 (focus ((try simp (disch := omega) only [go_sem, wn]) <;> (try omega) <;> fail))); (try simp (disch := omega) only [go_sem, wn, I, B, S, inj, List.cons.injEq, and_true, true_and, and_self]))
  all_goals (rw [if_neg (fun hb => by
    have hb := (wbad hop).1 hb
    have hop : t.op = 1 ∨ t.op = 2 ∨ t.op = 3 ∨ t.op = 4 ∨ t.op = 5 := by omega
    rcases hop with e | e | e | e | e <;> simp_all)]; (refine zF rfl ?_ ?_ ?_ ?_; (iterate 3 (focus ((try simp (disch := omega) only [go_sem, wn]) <;> (try omega) <;> fail))); (try simp (disch := omega) only [go_sem, wn, I, B, S, inj, List.cons.injEq, and_true, true_and, and_self])))
theorem in_c (n lo : Int) : acall Tryz.prog [] 71 [I n, I lo] (ret (B (decide (lo ≤ n ∧ n < 2147483648)))) := by
  refine zi tabOk Tryz.func71 rfl (by kernel_rfl) (by simp [Tryz.ntmps71]) ?_; simp only [Tryz.ntmps71, Tryz.results71, List.toList_toArray, apar, List.length_nil, List.length_cons, Nat.reduceAdd]
  (repeat' first
| (with_reducible refine AR.f ?_)
| refine zb (by decide) ?_
| (with_reducible refine AWP.cond rfl ?_ ?_ <;> intro hc <;> (try simp only [hcs, beq_iff_eq, ge_iff_le, gt_iff_lt] at hc))
| ((first | ((first | (with_reducible first | refine zR ?_ | refine zQ (by decide +kernel) ?_ | refine zD (by decide +kernel) ?_ | refine zE (by decide +kernel) ?_ | refine zG (by decide +kernel) ?_)); intro K hK) | ((first | (with_reducible refine zu ?_ ?_ <;> intro hg) | with_reducible intro hg) <;> (first | (exfalso; simp at hg; done) | (have hg' := hg; (try simp only [hcs, beq_iff_eq, ge_iff_le, gt_iff_lt] at hg'); (try simp only [hg]))))) <;> (try simp (disch := omega) only [go_sem, wn]) <;> (repeat' with_reducible refine And.intro ?_ ?_) <;> (try (with_reducible refine hK _ ?_; clear hK K)))
| omega)
  all_goals (refine zF rfl ?_ ?_ ?_ ?_; (iterate 3 (focus ((try simp (disch := omega) only [go_sem, wn]) <;> (try omega) <;> fail))); (try simp (disch := omega) only [go_sem, wn, I, B, S, inj, List.cons.injEq, and_true, true_and, and_self]))
  all_goals simp
set_option maxHeartbeats 2000000 in
theorem ref_wgood_c (t : ATxn) (hz : okI t.zxid) (hp : t.path.length ≤ 1048576) (hd : okS t.data) : acall Tryz.prog [] 40 [t.av] (ret (I (goodT t))) := by
  unfold okS at hd
  by_cases hop : t.op < 1 ∨ 5 < t.op
  · rw [goodT_op hop]
    refine zi tabOk Tryz.func40 rfl (by kernel_rfl) (by simp [Tryz.ntmps40]) ?_; simp only [Tryz.ntmps40, Tryz.results40, List.toList_toArray, apar, List.length_nil, List.length_cons, Nat.reduceAdd]
    (repeat' first
  | (with_reducible refine AR.f ?_)
  | refine zb (by decide) ?_
  | (with_reducible refine AWP.cond rfl ?_ ?_ <;> intro hc <;> (try simp only [hcs, beq_iff_eq, ge_iff_le, gt_iff_lt] at hc))
  | ((first | ((first | (with_reducible first | refine zR ?_ | refine zQ (by decide +kernel) ?_ | refine zD (by decide +kernel) ?_ | refine zE (by decide +kernel) ?_ | refine zG (by decide +kernel) ?_)); intro K hK) | ((first | (with_reducible refine zu ?_ ?_ <;> intro hg) | with_reducible intro hg) <;> (first | (exfalso; simp at hg; done) | (have hg' := hg; (try simp only [hcs, beq_iff_eq, ge_iff_le, gt_iff_lt] at hg'); (try simp only [hg]))))) <;> (try simp (disch := omega) only [go_sem, wn]) <;> (repeat' with_reducible refine And.intro ?_ ?_) <;> (try (with_reducible refine hK _ ?_; clear hK K)))
  | omega)
    all_goals first | omega | skip
    all_goals (refine zF rfl ?_ ?_ ?_ ?_; (iterate 3 (focus ((try simp (disch := omega) only [go_sem, wn]) <;> (try omega) <;> fail))); (try simp (disch := omega) only [go_sem, wn, I, B, S, inj, List.cons.injEq, and_true, true_and, and_self]))
  have hop' : 1 ≤ t.op ∧ t.op ≤ 5 := by omega
  by_cases h1 : goodZ t.zxid
  case neg =>
    rw [goodT_num hop' (fun h => h1 ((numsB_iff t).1 h).1)]
    refine zi tabOk Tryz.func40 rfl (by kernel_rfl) (by simp [Tryz.ntmps40]) ?_; simp only [Tryz.ntmps40, Tryz.results40, List.toList_toArray, apar, List.length_nil, List.length_cons, Nat.reduceAdd]
    (repeat' first
  | (with_reducible refine AR.f ?_)
  | refine zb (by decide) ?_
  | (with_reducible refine AWP.cond rfl ?_ ?_ <;> intro hc <;> (try simp only [hcs, beq_iff_eq, ge_iff_le, gt_iff_lt] at hc))
  | ((first | ((first | (with_reducible first | refine zR ?_ | refine zQ (by decide +kernel) ?_ | refine zD (by decide +kernel) ?_ | refine zE (by decide +kernel) ?_ | refine zG (by decide +kernel) ?_)); intro K hK) | ((first | refine acallH_sc ((ref_zgood_c _ hz).re (congrArg B (decide_eq_false h1))) rfl rfl ?_ ?_ ?_ | refine acallQ_sc ((ref_zgood_c _ hz).re (congrArg B (decide_eq_false h1))) rfl rfl ?_ ?_ ?_); iterate 2 (focus ((try simp (disch := omega) only [go_sem, wn]) <;> (try omega) <;> fail))) | ((first | refine zN ((ref_zgood_c _ hz).re (congrArg B (decide_eq_false h1))) rfl ?_ ?_); (focus ((try simp (disch := omega) only [go_sem, wn]) <;> (try omega) <;> fail))) | (first | ((first | refine zX ((ref_zgood_c _ hz).re (congrArg B (decide_eq_false h1))) rfl ?_ ?_ | refine zy ((ref_zgood_c _ hz).re (congrArg B (decide_eq_false h1))) ?_ ?_); (focus ((try simp (disch := omega) only [go_sem, wn]) <;> (try omega) <;> fail)))) | ((first | (with_reducible refine zu ?_ ?_ <;> intro hg) | with_reducible intro hg) <;> (first | (exfalso; simp at hg; done) | (have hg' := hg; (try simp only [hcs, beq_iff_eq, ge_iff_le, gt_iff_lt] at hg'); (try simp only [hg]))))) <;> (try simp (disch := omega) only [go_sem, wn]) <;> (repeat' with_reducible refine And.intro ?_ ?_) <;> (try (with_reducible refine hK _ ?_; clear hK K)))
  | omega)
    all_goals first | omega | skip
    all_goals (refine zF rfl ?_ ?_ ?_ ?_; (iterate 3 (focus ((try simp (disch := omega) only [go_sem, wn]) <;> (try omega) <;> fail))); (try simp (disch := omega) only [go_sem, wn, I, B, S, inj, List.cons.injEq, and_true, true_and, and_self]))
  by_cases h2 : 1 ≤ t.session ∧ t.session < 2147483648
  case neg =>
    rw [goodT_num hop' (fun h => by have := (numsB_iff t).1 h; omega)]
    refine zi tabOk Tryz.func40 rfl (by kernel_rfl) (by simp [Tryz.ntmps40]) ?_; simp only [Tryz.ntmps40, Tryz.results40, List.toList_toArray, apar, List.length_nil, List.length_cons, Nat.reduceAdd]
    (repeat' first
  | (with_reducible refine AR.f ?_)
  | refine zb (by decide) ?_
  | (with_reducible refine AWP.cond rfl ?_ ?_ <;> intro hc <;> (try simp only [hcs, beq_iff_eq, ge_iff_le, gt_iff_lt] at hc))
  | ((first | ((first | (with_reducible first | refine zR ?_ | refine zQ (by decide +kernel) ?_ | refine zD (by decide +kernel) ?_ | refine zE (by decide +kernel) ?_ | refine zG (by decide +kernel) ?_)); intro K hK) | ((first | refine zA ((in_c t.session 1).re (congrArg B (decide_eq_false h2))) ?_ ?_ ?_ ?_ ?_); (focus exact rfl); (focus exact rfl); iterate 2 (focus ((try simp (disch := omega) only [go_sem, wn]) <;> (try omega) <;> fail))) | ((first | refine acallH_sc ((ref_zgood_c _ hz).re (congrArg B (decide_eq_true h1))) rfl rfl ?_ ?_ ?_ | refine acallQ_sc ((ref_zgood_c _ hz).re (congrArg B (decide_eq_true h1))) rfl rfl ?_ ?_ ?_); iterate 2 (focus ((try simp (disch := omega) only [go_sem, wn]) <;> (try omega) <;> fail))) | ((first | refine zN ((ref_zgood_c _ hz).re (congrArg B (decide_eq_true h1))) rfl ?_ ?_ | refine zN ((in_c t.session 1).re (congrArg B (decide_eq_false h2))) rfl ?_ ?_); (focus ((try simp (disch := omega) only [go_sem, wn]) <;> (try omega) <;> fail))) | (first | ((first | refine zX ((ref_zgood_c _ hz).re (congrArg B (decide_eq_true h1))) rfl ?_ ?_ | refine zy ((ref_zgood_c _ hz).re (congrArg B (decide_eq_true h1))) ?_ ?_); (focus ((try simp (disch := omega) only [go_sem, wn]) <;> (try omega) <;> fail))) | ((first | refine zX ((in_c t.session 1).re (congrArg B (decide_eq_false h2))) rfl ?_ ?_ | refine zy ((in_c t.session 1).re (congrArg B (decide_eq_false h2))) ?_ ?_); (focus ((try simp (disch := omega) only [go_sem, wn]) <;> (try omega) <;> fail)))) | ((first | (with_reducible refine zu ?_ ?_ <;> intro hg) | with_reducible intro hg) <;> (first | (exfalso; simp at hg; done) | (have hg' := hg; (try simp only [hcs, beq_iff_eq, ge_iff_le, gt_iff_lt] at hg'); (try simp only [hg]))))) <;> (try simp (disch := omega) only [go_sem, wn]) <;> (repeat' with_reducible refine And.intro ?_ ?_) <;> (try (with_reducible refine hK _ ?_; clear hK K)))
  | omega)
    all_goals first | omega | skip
    all_goals (refine zF rfl ?_ ?_ ?_ ?_; (iterate 3 (focus ((try simp (disch := omega) only [go_sem, wn]) <;> (try omega) <;> fail))); (try simp (disch := omega) only [go_sem, wn, I, B, S, inj, List.cons.injEq, and_true, true_and, and_self]))
  by_cases h3 : 0 ≤ t.version ∧ t.version < 2147483648
  case neg =>
    rw [goodT_num hop' (fun h => by have := (numsB_iff t).1 h; omega)]
    refine zi tabOk Tryz.func40 rfl (by kernel_rfl) (by simp [Tryz.ntmps40]) ?_; simp only [Tryz.ntmps40, Tryz.results40, List.toList_toArray, apar, List.length_nil, List.length_cons, Nat.reduceAdd]
    (repeat' first
  | (with_reducible refine AR.f ?_)
  | refine zb (by decide) ?_
  | (with_reducible refine AWP.cond rfl ?_ ?_ <;> intro hc <;> (try simp only [hcs, beq_iff_eq, ge_iff_le, gt_iff_lt] at hc))
  | ((first | ((first | (with_reducible first | refine zR ?_ | refine zQ (by decide +kernel) ?_ | refine zD (by decide +kernel) ?_ | refine zE (by decide +kernel) ?_ | refine zG (by decide +kernel) ?_)); intro K hK) | ((first | refine zA ((in_c t.session 1).re (congrArg B (decide_eq_true h2))) ?_ ?_ ?_ ?_ ?_ | refine zA ((in_c t.version 0).re (congrArg B (decide_eq_false h3))) ?_ ?_ ?_ ?_ ?_); (focus exact rfl); (focus exact rfl); iterate 2 (focus ((try simp (disch := omega) only [go_sem, wn]) <;> (try omega) <;> fail))) | ((first | refine acallH_sc ((ref_zgood_c _ hz).re (congrArg B (decide_eq_true h1))) rfl rfl ?_ ?_ ?_ | refine acallQ_sc ((ref_zgood_c _ hz).re (congrArg B (decide_eq_true h1))) rfl rfl ?_ ?_ ?_); iterate 2 (focus ((try simp (disch := omega) only [go_sem, wn]) <;> (try omega) <;> fail))) | ((first | refine zN ((ref_zgood_c _ hz).re (congrArg B (decide_eq_true h1))) rfl ?_ ?_ | refine zN ((in_c t.session 1).re (congrArg B (decide_eq_true h2))) rfl ?_ ?_ | refine zN ((in_c t.version 0).re (congrArg B (decide_eq_false h3))) rfl ?_ ?_); (focus ((try simp (disch := omega) only [go_sem, wn]) <;> (try omega) <;> fail))) | (first | ((first | refine zX ((ref_zgood_c _ hz).re (congrArg B (decide_eq_true h1))) rfl ?_ ?_ | refine zy ((ref_zgood_c _ hz).re (congrArg B (decide_eq_true h1))) ?_ ?_); (focus ((try simp (disch := omega) only [go_sem, wn]) <;> (try omega) <;> fail))) | ((first | refine zX ((in_c t.session 1).re (congrArg B (decide_eq_true h2))) rfl ?_ ?_ | refine zy ((in_c t.session 1).re (congrArg B (decide_eq_true h2))) ?_ ?_); (focus ((try simp (disch := omega) only [go_sem, wn]) <;> (try omega) <;> fail))) | ((first | refine zX ((in_c t.version 0).re (congrArg B (decide_eq_false h3))) rfl ?_ ?_ | refine zy ((in_c t.version 0).re (congrArg B (decide_eq_false h3))) ?_ ?_); (focus ((try simp (disch := omega) only [go_sem, wn]) <;> (try omega) <;> fail)))) | ((first | (with_reducible refine zu ?_ ?_ <;> intro hg) | with_reducible intro hg) <;> (first | (exfalso; simp at hg; done) | (have hg' := hg; (try simp only [hcs, beq_iff_eq, ge_iff_le, gt_iff_lt] at hg'); (try simp only [hg]))))) <;> (try simp (disch := omega) only [go_sem, wn]) <;> (repeat' with_reducible refine And.intro ?_ ?_) <;> (try (with_reducible refine hK _ ?_; clear hK K)))
  | omega)
    all_goals first | omega | skip
    all_goals (refine zF rfl ?_ ?_ ?_ ?_; (iterate 3 (focus ((try simp (disch := omega) only [go_sem, wn]) <;> (try omega) <;> fail))); (try simp (disch := omega) only [go_sem, wn, I, B, S, inj, List.cons.injEq, and_true, true_and, and_self]))
  by_cases h4 : 0 ≤ t.owner ∧ t.owner < 2147483648
  case neg =>
    rw [goodT_num hop' (fun h => by have := (numsB_iff t).1 h; omega)]
    refine zi tabOk Tryz.func40 rfl (by kernel_rfl) (by simp [Tryz.ntmps40]) ?_; simp only [Tryz.ntmps40, Tryz.results40, List.toList_toArray, apar, List.length_nil, List.length_cons, Nat.reduceAdd]
    (repeat' first
  | (with_reducible refine AR.f ?_)
  | refine zb (by decide) ?_
  | (with_reducible refine AWP.cond rfl ?_ ?_ <;> intro hc <;> (try simp only [hcs, beq_iff_eq, ge_iff_le, gt_iff_lt] at hc))
  | ((first | ((first | (with_reducible first | refine zR ?_ | refine zQ (by decide +kernel) ?_ | refine zD (by decide +kernel) ?_ | refine zE (by decide +kernel) ?_ | refine zG (by decide +kernel) ?_)); intro K hK) | ((first | refine zA ((in_c t.session 1).re (congrArg B (decide_eq_true h2))) ?_ ?_ ?_ ?_ ?_ | refine zA ((in_c t.version 0).re (congrArg B (decide_eq_true h3))) ?_ ?_ ?_ ?_ ?_ | refine zA ((in_c t.owner 0).re (congrArg B (decide_eq_false h4))) ?_ ?_ ?_ ?_ ?_); (focus exact rfl); (focus exact rfl); iterate 2 (focus ((try simp (disch := omega) only [go_sem, wn]) <;> (try omega) <;> fail))) | ((first | refine acallH_sc ((ref_zgood_c _ hz).re (congrArg B (decide_eq_true h1))) rfl rfl ?_ ?_ ?_ | refine acallQ_sc ((ref_zgood_c _ hz).re (congrArg B (decide_eq_true h1))) rfl rfl ?_ ?_ ?_); iterate 2 (focus ((try simp (disch := omega) only [go_sem, wn]) <;> (try omega) <;> fail))) | ((first | refine zN ((ref_zgood_c _ hz).re (congrArg B (decide_eq_true h1))) rfl ?_ ?_ | refine zN ((in_c t.session 1).re (congrArg B (decide_eq_true h2))) rfl ?_ ?_ | refine zN ((in_c t.version 0).re (congrArg B (decide_eq_true h3))) rfl ?_ ?_ | refine zN ((in_c t.owner 0).re (congrArg B (decide_eq_false h4))) rfl ?_ ?_); (focus ((try simp (disch := omega) only [go_sem, wn]) <;> (try omega) <;> fail))) | (first | ((first | refine zX ((ref_zgood_c _ hz).re (congrArg B (decide_eq_true h1))) rfl ?_ ?_ | refine zy ((ref_zgood_c _ hz).re (congrArg B (decide_eq_true h1))) ?_ ?_); (focus ((try simp (disch := omega) only [go_sem, wn]) <;> (try omega) <;> fail))) | ((first | refine zX ((in_c t.session 1).re (congrArg B (decide_eq_true h2))) rfl ?_ ?_ | refine zy ((in_c t.session 1).re (congrArg B (decide_eq_true h2))) ?_ ?_); (focus ((try simp (disch := omega) only [go_sem, wn]) <;> (try omega) <;> fail))) | ((first | refine zX ((in_c t.version 0).re (congrArg B (decide_eq_true h3))) rfl ?_ ?_ | refine zy ((in_c t.version 0).re (congrArg B (decide_eq_true h3))) ?_ ?_); (focus ((try simp (disch := omega) only [go_sem, wn]) <;> (try omega) <;> fail))) | ((first | refine zX ((in_c t.owner 0).re (congrArg B (decide_eq_false h4))) rfl ?_ ?_ | refine zy ((in_c t.owner 0).re (congrArg B (decide_eq_false h4))) ?_ ?_); (focus ((try simp (disch := omega) only [go_sem, wn]) <;> (try omega) <;> fail)))) | ((first | (with_reducible refine zu ?_ ?_ <;> intro hg) | with_reducible intro hg) <;> (first | (exfalso; simp at hg; done) | (have hg' := hg; (try simp only [hcs, beq_iff_eq, ge_iff_le, gt_iff_lt] at hg'); (try simp only [hg]))))) <;> (try simp (disch := omega) only [go_sem, wn]) <;> (repeat' with_reducible refine And.intro ?_ ?_) <;> (try (with_reducible refine hK _ ?_; clear hK K)))
  | omega)
    all_goals first | omega | skip
    all_goals (refine zF rfl ?_ ?_ ?_ ?_; (iterate 3 (focus ((try simp (disch := omega) only [go_sem, wn]) <;> (try omega) <;> fail))); (try simp (disch := omega) only [go_sem, wn, I, B, S, inj, List.cons.injEq, and_true, true_and, and_self]))
  have hnb : numsB t = true := (numsB_iff t).2 ⟨h1, by omega, by omega, by omega⟩
  by_cases hlen : 256 < t.data.length
  · rw [goodT_long hop' hnb hlen]
    refine zi tabOk Tryz.func40 rfl (by kernel_rfl) (by simp [Tryz.ntmps40]) ?_; simp only [Tryz.ntmps40, Tryz.results40, List.toList_toArray, apar, List.length_nil, List.length_cons, Nat.reduceAdd]
    (repeat' first
  | (with_reducible refine AR.f ?_)
  | refine zb (by decide) ?_
  | (with_reducible refine AWP.cond rfl ?_ ?_ <;> intro hc <;> (try simp only [hcs, beq_iff_eq, ge_iff_le, gt_iff_lt] at hc))
  | ((first | ((first | (with_reducible first | refine zR ?_ | refine zQ (by decide +kernel) ?_ | refine zD (by decide +kernel) ?_ | refine zE (by decide +kernel) ?_ | refine zG (by decide +kernel) ?_)); intro K hK) | ((first | refine zA ((in_c t.session 1).re (congrArg B (decide_eq_true h2))) ?_ ?_ ?_ ?_ ?_ | refine zA ((in_c t.version 0).re (congrArg B (decide_eq_true h3))) ?_ ?_ ?_ ?_ ?_ | refine zA ((in_c t.owner 0).re (congrArg B (decide_eq_true h4))) ?_ ?_ ?_ ?_ ?_); (focus exact rfl); (focus exact rfl); iterate 2 (focus ((try simp (disch := omega) only [go_sem, wn]) <;> (try omega) <;> fail))) | ((first | refine acallH_sc ((ref_zgood_c _ hz).re (congrArg B (decide_eq_true h1))) rfl rfl ?_ ?_ ?_ | refine acallQ_sc ((ref_zgood_c _ hz).re (congrArg B (decide_eq_true h1))) rfl rfl ?_ ?_ ?_); iterate 2 (focus ((try simp (disch := omega) only [go_sem, wn]) <;> (try omega) <;> fail))) | ((first | refine zN ((ref_zgood_c _ hz).re (congrArg B (decide_eq_true h1))) rfl ?_ ?_ | refine zN ((in_c t.session 1).re (congrArg B (decide_eq_true h2))) rfl ?_ ?_ | refine zN ((in_c t.version 0).re (congrArg B (decide_eq_true h3))) rfl ?_ ?_ | refine zN ((in_c t.owner 0).re (congrArg B (decide_eq_true h4))) rfl ?_ ?_); (focus ((try simp (disch := omega) only [go_sem, wn]) <;> (try omega) <;> fail))) | (first | ((first | refine zX ((ref_zgood_c _ hz).re (congrArg B (decide_eq_true h1))) rfl ?_ ?_ | refine zy ((ref_zgood_c _ hz).re (congrArg B (decide_eq_true h1))) ?_ ?_); (focus ((try simp (disch := omega) only [go_sem, wn]) <;> (try omega) <;> fail))) | ((first | refine zX ((in_c t.session 1).re (congrArg B (decide_eq_true h2))) rfl ?_ ?_ | refine zy ((in_c t.session 1).re (congrArg B (decide_eq_true h2))) ?_ ?_); (focus ((try simp (disch := omega) only [go_sem, wn]) <;> (try omega) <;> fail))) | ((first | refine zX ((in_c t.version 0).re (congrArg B (decide_eq_true h3))) rfl ?_ ?_ | refine zy ((in_c t.version 0).re (congrArg B (decide_eq_true h3))) ?_ ?_); (focus ((try simp (disch := omega) only [go_sem, wn]) <;> (try omega) <;> fail))) | ((first | refine zX ((in_c t.owner 0).re (congrArg B (decide_eq_true h4))) rfl ?_ ?_ | refine zy ((in_c t.owner 0).re (congrArg B (decide_eq_true h4))) ?_ ?_); (focus ((try simp (disch := omega) only [go_sem, wn]) <;> (try omega) <;> fail)))) | ((first | (with_reducible refine zu ?_ ?_ <;> intro hg) | with_reducible intro hg) <;> (first | (exfalso; simp at hg; done) | (have hg' := hg; (try simp only [hcs, beq_iff_eq, ge_iff_le, gt_iff_lt] at hg'); (try simp only [hg]))))) <;> (try simp (disch := omega) only [go_sem, wn]) <;> (repeat' with_reducible refine And.intro ?_ ?_) <;> (try (with_reducible refine hK _ ?_; clear hK K)))
  | omega)
    all_goals first | omega | skip
    all_goals (refine zF rfl ?_ ?_ ?_ ?_; (iterate 3 (focus ((try simp (disch := omega) only [go_sem, wn]) <;> (try omega) <;> fail))); (try simp (disch := omega) only [go_sem, wn, I, B, S, inj, List.cons.injEq, and_true, true_and, and_self]))
  rw [goodT_ok hop' hnb (by omega)]
  refine zi tabOk Tryz.func40 rfl (by kernel_rfl) (by simp [Tryz.ntmps40]) ?_; simp only [Tryz.ntmps40, Tryz.results40, List.toList_toArray, apar, List.length_nil, List.length_cons, Nat.reduceAdd]
  (repeat' first
| (with_reducible refine AR.f ?_)
| refine zb (by decide) ?_
| (with_reducible refine AWP.cond rfl ?_ ?_ <;> intro hc <;> (try simp only [hcs, beq_iff_eq, ge_iff_le, gt_iff_lt] at hc))
| ((first | ((first | (with_reducible first | refine zR ?_ | refine zQ (by decide +kernel) ?_ | refine zD (by decide +kernel) ?_ | refine zE (by decide +kernel) ?_ | refine zG (by decide +kernel) ?_)); intro K hK) | ((first | refine zA ((in_c t.session 1).re (congrArg B (decide_eq_true h2))) ?_ ?_ ?_ ?_ ?_ | refine zA ((in_c t.version 0).re (congrArg B (decide_eq_true h3))) ?_ ?_ ?_ ?_ ?_ | refine zA ((in_c t.owner 0).re (congrArg B (decide_eq_true h4))) ?_ ?_ ?_ ?_ ?_ | refine zA (ref_good_c t.path hp) ?_ ?_ ?_ ?_ ?_); (focus exact rfl); (focus exact rfl); iterate 2 (focus ((try simp (disch := omega) only [go_sem, wn]) <;> (try omega) <;> fail))) | ((first | refine acallH_sc ((ref_zgood_c _ hz).re (congrArg B (decide_eq_true h1))) rfl rfl ?_ ?_ ?_ | refine acallQ_sc ((ref_zgood_c _ hz).re (congrArg B (decide_eq_true h1))) rfl rfl ?_ ?_ ?_); iterate 2 (focus ((try simp (disch := omega) only [go_sem, wn]) <;> (try omega) <;> fail))) | ((first | refine zN ((ref_zgood_c _ hz).re (congrArg B (decide_eq_true h1))) rfl ?_ ?_ | refine zN ((in_c t.session 1).re (congrArg B (decide_eq_true h2))) rfl ?_ ?_ | refine zN ((in_c t.version 0).re (congrArg B (decide_eq_true h3))) rfl ?_ ?_ | refine zN ((in_c t.owner 0).re (congrArg B (decide_eq_true h4))) rfl ?_ ?_ | refine zN (ref_good_c t.path hp) rfl ?_ ?_); (focus ((try simp (disch := omega) only [go_sem, wn]) <;> (try omega) <;> fail))) | (first | ((first | refine zX ((ref_zgood_c _ hz).re (congrArg B (decide_eq_true h1))) rfl ?_ ?_ | refine zy ((ref_zgood_c _ hz).re (congrArg B (decide_eq_true h1))) ?_ ?_); (focus ((try simp (disch := omega) only [go_sem, wn]) <;> (try omega) <;> fail))) | ((first | refine zX ((in_c t.session 1).re (congrArg B (decide_eq_true h2))) rfl ?_ ?_ | refine zy ((in_c t.session 1).re (congrArg B (decide_eq_true h2))) ?_ ?_); (focus ((try simp (disch := omega) only [go_sem, wn]) <;> (try omega) <;> fail))) | ((first | refine zX ((in_c t.version 0).re (congrArg B (decide_eq_true h3))) rfl ?_ ?_ | refine zy ((in_c t.version 0).re (congrArg B (decide_eq_true h3))) ?_ ?_); (focus ((try simp (disch := omega) only [go_sem, wn]) <;> (try omega) <;> fail))) | ((first | refine zX ((in_c t.owner 0).re (congrArg B (decide_eq_true h4))) rfl ?_ ?_ | refine zy ((in_c t.owner 0).re (congrArg B (decide_eq_true h4))) ?_ ?_); (focus ((try simp (disch := omega) only [go_sem, wn]) <;> (try omega) <;> fail))) | ((first | refine zX (ref_good_c t.path hp) rfl ?_ ?_ | refine zy (ref_good_c t.path hp) ?_ ?_); (focus ((try simp (disch := omega) only [go_sem, wn]) <;> (try omega) <;> fail)))) | ((first | (with_reducible refine zu ?_ ?_ <;> intro hg) | with_reducible intro hg) <;> (first | (exfalso; simp at hg; done) | (have hg' := hg; (try simp only [hcs, beq_iff_eq, ge_iff_le, gt_iff_lt] at hg'); (try simp only [hg]))))) <;> (try simp (disch := omega) only [go_sem, wn]) <;> (repeat' with_reducible refine And.intro ?_ ?_) <;> (try (with_reducible refine hK _ ?_; clear hK K)))
| omega)
  all_goals first | omega | skip
  all_goals first
    | (rw [if_pos (by simp_all [badT, or_assoc])]; (refine zF rfl ?_ ?_ ?_ ?_; (iterate 3 (focus ((try simp (disch := omega) only [go_sem, wn]) <;> (try omega) <;> fail))); (try simp (disch := omega) only [go_sem, wn, I, B, S, inj, List.cons.injEq, and_true, true_and, and_self])); done)
    | (rw [if_neg (by simp_all [badT, or_assoc])]; (refine zF rfl ?_ ?_ ?_ ?_; (iterate 3 (focus ((try simp (disch := omega) only [go_sem, wn]) <;> (try omega) <;> fail))); (try simp (disch := omega) only [go_sem, wn, I, B, S, inj, List.cons.injEq, and_true, true_and, and_self])); done)
    | trace_state
end Go.Proofs.YtmpfhalheaeibaaGreatDoor
namespace Go.Proofs.YtmpfhalheaeibaaGreatDoor
set_option linter.unusedVariables false
set_option linter.unusedSimpArgs false
open Go Go.RowKit
set_option maxRecDepth 100000
set_option linter.unusedSimpArgs false
def stepN (c : Nat) : Nat := (c / 2) ^^^ (if c % 2 = 1 then 3988292384 else 0)
def stepsN : Nat → Nat → Nat
  | 0, c => c
  | k + 1, c => stepN (stepsN k c)
def byteN (c : Nat) (b : UInt8) : Nat := stepsN 8 (c ^^^ b.toNat)
def crcN (s : List UInt8) : Nat := s.foldl byteN 4294967295
def sumN (s : List UInt8) : Nat := 4294967295 - crcN s
theorem stepN_lt {c : Nat} (h : c < 4294967296) : stepN c < 4294967296 := by
  unfold stepN
  exact Nat.xor_lt_two_pow (n := 32) (by omega) (by split <;> decide)
theorem stepsN_lt {c : Nat} (h : c < 4294967296) : ∀ k, stepsN k c < 4294967296
  | 0 => h
  | k + 1 => stepN_lt (stepsN_lt h k)
theorem byteN_lt {c : Nat} (b : UInt8) (h : c < 4294967296) : byteN c b < 4294967296 :=
  stepsN_lt (Nat.xor_lt_two_pow (n := 32) h (Nat.lt_trans b.toNat_lt (by decide))) 8
theorem crcN_snoc (s : List UInt8) (k : Nat) (h : k < s.length) : crcN (s.take (k + 1)) = byteN (crcN (s.take k)) (s.getD k 0) := by
  unfold crcN
  have : s.take (k + 1) = s.take k ++ [s.getD k 0] := take_snoc s k h
  rw [this, List.foldl_append]; rfl
theorem crcN_lt (s : List UInt8) : crcN s < 4294967296 := by
  unfold crcN
  have : ∀ (l : List UInt8) (c : Nat), c < 4294967296 → l.foldl byteN c < 4294967296 := by
    intro l
    induction l with
    | nil => intro c h; exact h
    | cons b l ih => intro c h; exact ih _ (byteN_lt b h)
  exact this s _ (by decide)
theorem and1 (c : Nat) (h : c < 4294967296) : bits .and .u32 (c : Int) 1 = ((c % 2 : Nat) : Int) := by
  have := u32_and_nat c 1 h (by decide)
  rw [Nat.and_one_is_mod] at this; exact this
theorem half1 (c : Nat) : (c : Int) / 2 = ((c / 2 : Nat) : Int) := by omega
theorem xorp (c : Nat) (h : c < 4294967296) : bits .xor .u32 (c : Int) 3988292384 = ((c ^^^ 3988292384 : Nat) : Int) := u32_xor_nat c _ h (by decide)
theorem u8_lt32 (b : UInt8) : b.toNat < 4294967296 := Nat.lt_trans b.toNat_lt (by decide)
theorem step_odd {c : Nat} (h : c % 2 = 1) : stepN c = c / 2 ^^^ 3988292384 := by unfold stepN; rw [if_pos h]
theorem step_even {c : Nat} (h : ¬ c % 2 = 1) : stepN c = c / 2 := by unfold stepN; rw [if_neg h, Nat.xor_zero]
theorem crc_nil : crcN [] = 4294967295 := rfl
theorem wrap_u8_32 (b : UInt8) : IntKind.u32.wrap (b.toNat : Int) = (b.toNat : Int) := by
  have := b.toNat_lt
  rw [IntKind.wrap_u32']; omega
theorem not32 (c : Nat) (h : c < 4294967296) : bits .xor .u32 (if IntKind.u32.signed = true then -1 else IntKind.u32.max) (c : Int) = ((4294967295 - c : Nat) : Int) := by
  have e : (if IntKind.u32.signed = true then (-1 : Int) else IntKind.u32.max) = ((4294967295 : Nat) : Int) := by decide
  rw [e, u32_xor_nat _ _ (by decide) h]
  congr 1
  have : 4294967295 - c = 2 ^ 32 - (c + 1) := by omega
  apply Nat.eq_of_testBit_eq
  intro i
  rw [Nat.testBit_xor, this, Nat.testBit_two_pow_sub_succ h, show 4294967295 = 2 ^ 32 - 1 from rfl, Nat.testBit_two_pow_sub_one]
  by_cases hi : i < 32
  · simp [hi]
  · have : c.testBit i = false := Nat.testBit_lt_two_pow (Nat.lt_of_lt_of_le h (Nat.pow_le_pow_right (by decide) (by omega) : 2 ^ 32 ≤ 2 ^ i))
    simp [hi, this]
theorem eq_one (n : Nat) : (((n : Nat) : Int) = 1) = (n = 1) := by rw [eq_iff_iff]; omega
theorem sum_c (s : List UInt8) (h : okS s) : acall Tryz.prog [] 115 [S s] (ret (I (sumN s))) := by
  unfold okS at h
  refine zi tabOk Tryz.func115 rfl (by kernel_rfl) (by simp [Tryz.ntmps115]) ?_; simp only [Tryz.ntmps115, Tryz.results115, List.toList_toArray, apar, List.length_nil, List.length_cons, Nat.reduceAdd]
  (repeat' first
| (with_reducible refine AR.f ?_)
| refine zb (by decide) ?_
| (with_reducible refine AWP.cond rfl ?_ ?_ <;> intro hc <;> (try simp only [hcs, beq_iff_eq, ge_iff_le, gt_iff_lt] at hc))
| ((first | ((first | (with_reducible first | refine zR ?_ | refine zQ (by decide +kernel) ?_ | refine zD (by decide +kernel) ?_ | refine zE (by decide +kernel) ?_ | refine zG (by decide +kernel) ?_)); intro K hK) | ((first | (with_reducible refine zu ?_ ?_ <;> intro hg) | with_reducible intro hg) <;> (first | (exfalso; simp at hg; done) | (have hg' := hg; (try simp only [hcs, beq_iff_eq, ge_iff_le, gt_iff_lt] at hg'); (try simp only [hg]))))) <;> (try simp (disch := omega) only [go_sem, wn]) <;> (repeat' with_reducible refine And.intro ?_ ?_) <;> (try (with_reducible refine hK _ ?_; clear hK K)))
| omega)
  refine AWP.loopS (ι := Nat) (fun k => k ≤ s.length) (fun k => s.length - k) [0] (fun k => [(3, .d (.int .u32 (crcN (s.take k)))), (4, I k)]) 0 ?_ (by simp (disch := omega) only [go_sem, wn, crc_nil, Int.cast_ofNat_Int]) ?_
  · omega
  intro k hk
  have hc0 := crcN_lt (s.take k)
  have hb := u8_lt32 (s.getD k 0)
  have hx : crcN (s.take k) ^^^ (s.getD k 0).toNat < 4294967296 := Nat.xor_lt_two_pow (n := 32) hc0 hb
  simp only [go_sem]
  (repeat' first
| (with_reducible refine AR.f ?_)
| refine zb (by decide) ?_
| (with_reducible refine AWP.cond rfl ?_ ?_ <;> intro hc <;> (try simp only [hcs, beq_iff_eq, ge_iff_le, gt_iff_lt] at hc))
| ((first | ((first | (with_reducible first | refine zR ?_ | refine zQ (by decide +kernel) ?_ | refine zD (by decide +kernel) ?_ | refine zE (by decide +kernel) ?_ | refine zG (by decide +kernel) ?_)); intro K hK) | ((first | (with_reducible refine zu ?_ ?_ <;> intro hg) | with_reducible intro hg) <;> (first | (exfalso; simp at hg; done) | (have hg' := hg; (try simp only [hcs, beq_iff_eq, ge_iff_le, gt_iff_lt] at hg'); (try simp only [hg]))))) <;> (try simp (disch := omega) only [go_sem, wn, u32_xor_nat, wrap_u8_32]) <;> (repeat' with_reducible refine And.intro ?_ ?_) <;> (try (with_reducible refine hK _ ?_; clear hK K)))
| omega)
  · refine AWP.loopS (ι := Nat) (fun j => j ≤ 8) (fun j => 8 - j) [0, 4] (fun j => [(3, .d (.int .u32 (stepsN j (crcN (s.take k) ^^^ (s.getD k 0).toNat)))), (18, I j)]) 0 ?_ (by simp (disch := omega) only [go_sem, wn, stepsN]) ?_
    · omega
    intro j hj
    have hs := stepsN_lt hx j
    have hs2 : stepsN j (crcN (s.take k) ^^^ (s.getD k 0).toNat) / 2 < 4294967296 := by omega
    simp only [go_sem]
    (repeat' first
  | (with_reducible refine AR.f ?_)
  | refine zb (by decide) ?_
  | (with_reducible refine AWP.cond rfl ?_ ?_ <;> intro hc <;> (try simp only [hcs, beq_iff_eq, ge_iff_le, gt_iff_lt] at hc))
  | ((first | ((first | (with_reducible first | refine zR ?_ | refine zQ (by decide +kernel) ?_ | refine zD (by decide +kernel) ?_ | refine zE (by decide +kernel) ?_ | refine zG (by decide +kernel) ?_)); intro K hK) | ((first | (with_reducible refine zu ?_ ?_ <;> intro hg) | with_reducible intro hg) <;> (first | (exfalso; simp at hg; done) | (have hg' := hg; (try simp only [hcs, beq_iff_eq, ge_iff_le, gt_iff_lt] at hg'); (try simp only [hg]))))) <;> (try simp (disch := omega) only [go_sem, wn, and1, half1, xorp, eq_one]) <;> (repeat' with_reducible refine And.intro ?_ ?_) <;> (try (with_reducible refine hK _ ?_; clear hK K)))
  | omega)
    · refine ⟨j + 1, by omega, by omega, ?_⟩
      (refine SImp.same ?_; simp (disch := omega) only [go_sem, wn, Int.natCast_add, stepsN, step_odd hc])
    · refine ⟨j + 1, by omega, by omega, ?_⟩
      (refine SImp.same ?_; simp (disch := omega) only [go_sem, wn, Int.natCast_add, stepsN, step_even hc])
    · have e0 : j = 8 := by omega
      subst e0
      refine ⟨k + 1, by omega, by omega, ?_⟩
      (refine SImp.same ?_; simp (disch := omega) only [go_sem, wn, Int.natCast_add, crcN_snoc, byteN])
  · have e0 : k = s.length := by omega
    subst e0
    rw [List.take_length] at *
    (refine zF rfl ?_ ?_ ?_ ?_; (iterate 3 (focus ((try simp (disch := omega) only [go_sem, wn, not32, sumN]) <;> (try omega) <;> fail))); (try simp (disch := omega) only [go_sem, wn, not32, sumN, I, B, S, inj, List.cons.injEq, and_true, true_and, and_self]))
def cl (l : List Nat) : List AV := l.map fun n : Nat => AV.d (.int .i64 (n : Int))
end Go.Proofs.YtmpfhalheaeibaaGreatDoor
namespace Go.Proofs.YtmpfhalheaeibaaGreatDoor
set_option linter.unusedVariables false
set_option linter.unusedSimpArgs false
open Go Go.RowKit
set_option maxRecDepth 100000
set_option linter.unusedSimpArgs false
end Go.Proofs.YtmpfhalheaeibaaGreatDoor
namespace Go.Proofs.YtmpfhalheaeibaaGreatDoor
set_option linter.unusedVariables false
set_option linter.unusedSimpArgs false
open Go Go.RowKit
set_option maxRecDepth 100000
set_option linter.unusedSimpArgs false
theorem goodP_len {s : List UInt8} (h : goodP s = true) : s.length ≤ 200 := by
  unfold goodP at h
  rw [Bool.or_eq_true, decide_eq_true_eq, Bool.and_eq_true, decide_eq_true_eq] at h
  rcases h with h | h
  · subst h; decide
  · exact h.1
theorem namedP_len {s : List UInt8} (h : namedP s = true) : s.length ≤ 40 := by
  unfold namedP at h
  rw [Bool.and_eq_true, Bool.and_eq_true, decide_eq_true_eq] at h
  have := h.2.2; omega
end Go.Proofs.YtmpfhalheaeibaaGreatDoor
namespace Go.Proofs.YtmpfhalheaeibaaGreatDoor
set_option linter.unusedVariables false
set_option linter.unusedSimpArgs false
open Go Go.RowKit
set_option maxRecDepth 100000
set_option linter.unusedSimpArgs false
def byteAt (k : Nat) (v : Int) : UInt8 := UInt8.ofNat ((v / 2 ^ (8 * k)) % 256).toNat
def beB : Nat → Int → List UInt8
  | 0, _ => []
  | n + 1, v => byteAt n v :: beB n v
def b5 (t : ATxn) : List UInt8 := (beB 8 t.zxid ++ [byteAt 0 t.op]) ++ beB 4 t.session
def b6 (t : ATxn) : List UInt8 := (b5 t ++ beB 4 t.version) ++ beB 4 t.owner
def b7 (t : ATxn) : List UInt8 := (b6 t ++ [byteAt 0 t.path.length]) ++ t.path
def bodyB (t : ATxn) : List UInt8 := (b7 t ++ beB 2 t.data.length) ++ t.data
def headB (t : ATxn) : List UInt8 := ([84] ++ beB 2 (bodyB t).length) ++ bodyB t
def encB (t : ATxn) : List UInt8 := headB t ++ beB 4 (sumN (headB t))
def encT (t : ATxn) : List UInt8 × Int := if goodT t = 0 then (encB t, 0) else ([], goodT t)
end Go.Proofs.YtmpfhalheaeibaaGreatDoor
namespace Go.Proofs.YtmpfhalheaeibaaGreatDoor
set_option linter.unusedVariables false
set_option linter.unusedSimpArgs false
open Go Go.RowKit
set_option maxRecDepth 100000
structure Cur where
  t : List UInt8
  s : List UInt8
  bad : Bool
def curT (s : List UInt8) (b : Bool) (n : Nat) : Cur := if b = true ∨ s.length < n then ⟨[], s, true⟩ else ⟨s.take n, s.drop n, false⟩
theorem curT_bad {s : List UInt8} {b : Bool} {n : Nat} (h : b = true ∨ s.length < n) : curT s b n = ⟨[], s, true⟩ := if_pos h
theorem curT_ok {s : List UInt8} {n : Nat} (h : n ≤ s.length) : curT s false n = ⟨s.take n, s.drop n, false⟩ := if_neg (by simp; omega)
theorem text_c (s : List UInt8) (b : Bool) (n : Nat) (hs : okS s) (ni : Int) (hi : ni = n) : acall Tryz.prog [.cells [S s, B b]] 113 [.ptr 0 0, I ni] (outs (S (curT s b n).t) [.cells [S (curT s b n).s, B (curT s b n).bad]]) := by
  subst hi
  unfold okS at hs
  by_cases h : b = true ∨ s.length < n
  · rw [curT_bad h]
    refine zi tabOk Tryz.func113 rfl (by kernel_rfl) (by simp [Tryz.ntmps113]) ?_; simp only [Tryz.ntmps113, Tryz.results113, List.toList_toArray, apar, List.length_nil, List.length_cons, Nat.reduceAdd]
    (repeat' first
  | (with_reducible refine AR.f ?_)
  | refine zb (by decide) ?_
  | (with_reducible refine AWP.cond rfl ?_ ?_ <;> intro hc <;> (try simp only [hcs, beq_iff_eq, ge_iff_le, gt_iff_lt] at hc))
  | ((first | ((first | (with_reducible first | refine zR ?_ | refine zQ (by decide +kernel) ?_ | refine zD (by decide +kernel) ?_ | refine zE (by decide +kernel) ?_ | refine zG (by decide +kernel) ?_)); intro K hK) | ((first | (with_reducible refine zu ?_ ?_ <;> intro hg) | with_reducible intro hg) <;> (first | (exfalso; simp at hg; done) | (have hg' := hg; (try simp only [hcs, beq_iff_eq, ge_iff_le, gt_iff_lt] at hg'); (try simp only [hg]))))) <;> (try simp (disch := omega) only [go_sem, wn]) <;> (repeat' with_reducible refine And.intro ?_ ?_) <;> (try (with_reducible refine hK _ ?_; clear hK K)))
  | omega)
    · (refine aend_out (by first | exact .inl rfl | exact .inr rfl) ?_ ?_; (focus ((try simp (disch := omega) only [go_sem, wn]) <;> fail)); simp (disch := omega) only [go_sem, wn, true_and]; refine AOut.of_simp ?_ (AOut.same ⟨rfl, rfl⟩); refine SImp.frame [0] rfl (by intro k hk; first | (simp at hk <;> (simp; omega)) | (simp only [List.mem_cons, List.not_mem_nil, or_false] at hk; simp only [List.length_cons, List.length_nil]; omega)) (by decide) (fun k hk => by first | omega | (rcases k with _ | _ | _ | _ | _ | _ | _ | _ | k <;> first | rfl | omega)) ?_ ?_ <;> simp (disch := omega) only [go_sem, wn, true_or, or_true, true_and])
    exfalso; rcases h with h | h
    · rw [h] at hc; exact absurd hc.1 (by decide)
    · omega
  · rw [show b = false from by cases b <;> simp_all] at *
    rw [curT_ok (by omega)]
    refine zi tabOk Tryz.func113 rfl (by kernel_rfl) (by simp [Tryz.ntmps113]) ?_; simp only [Tryz.ntmps113, Tryz.results113, List.toList_toArray, apar, List.length_nil, List.length_cons, Nat.reduceAdd]
    have e : List.take (s.length - n) (List.drop n s) = List.drop n s := List.take_of_length_le (by rw [List.length_drop]; omega)
    (repeat' first
  | (with_reducible refine AR.f ?_)
  | refine zb (by decide) ?_
  | (with_reducible refine AWP.cond rfl ?_ ?_ <;> intro hc <;> (try simp only [hcs, beq_iff_eq, ge_iff_le, gt_iff_lt] at hc))
  | ((first | ((first | (with_reducible first | refine zR ?_ | refine zQ (by decide +kernel) ?_ | refine zD (by decide +kernel) ?_ | refine zE (by decide +kernel) ?_ | refine zG (by decide +kernel) ?_)); intro K hK) | ((first | (with_reducible refine zu ?_ ?_ <;> intro hg) | with_reducible intro hg) <;> (first | (exfalso; simp at hg; done) | (have hg' := hg; (try simp only [hcs, beq_iff_eq, ge_iff_le, gt_iff_lt] at hg'); (try simp only [hg]))))) <;> (try simp (disch := omega) only [go_sem, wn]) <;> (repeat' with_reducible refine And.intro ?_ ?_) <;> (try (with_reducible refine hK _ ?_; clear hK K)))
  | omega)
    (refine aend_out (by first | exact .inl rfl | exact .inr rfl) ?_ ?_; (focus ((try simp (disch := omega) only [go_sem, wn]) <;> fail)); simp (disch := omega) only [go_sem, wn, Nat.sub_zero, e]; refine AOut.of_simp ?_ (AOut.same ⟨rfl, rfl⟩); refine SImp.frame [0] rfl (by intro k hk; first | (simp at hk <;> (simp; omega)) | (simp only [List.mem_cons, List.not_mem_nil, or_false] at hk; simp only [List.length_cons, List.length_nil]; omega)) (by decide) (fun k hk => by first | omega | (rcases k with _ | _ | _ | _ | _ | _ | _ | _ | k <;> first | rfl | omega)) ?_ ?_ <;> simp (disch := omega) only [go_sem, wn, true_or, or_true, Nat.sub_zero, e])
def numW (l : List UInt8) : Int := l.foldl (fun v x => IntKind.i64.wrap (v * 256 + x.toNat)) 0
theorem wrap_i64e (n : Int) : IntKind.i64.wrap n = (n + 9223372036854775808) % 18446744073709551616 - 9223372036854775808 := by simp [IntKind.wrap, IntKind.bits, IntKind.signed]; omega
theorem or_byte (n : Int) (c : UInt8) : bits .or .i64 (IntKind.i64.wrap (n * 256)) (c.toNat : Int) = IntKind.i64.wrap (n * 256 + c.toNat) := by
  have hc := c.toNat_lt
  show IntKind.i64.wrap ((BitVec.ofInt 64 (IntKind.i64.wrap (n * 256)) ||| BitVec.ofInt 64 (c.toNat : Int)).toNat : Int) = _
  have e1 : (BitVec.ofInt 64 (IntKind.i64.wrap (n * 256))).toNat = ((n * 256) % 18446744073709551616).toNat := by
    rw [BitVec.toNat_ofInt, wrap_i64e]; congr 1; omega
  rw [BitVec.toNat_or, ofInt_u64 c.toNat (by omega), e1, nat_join 8 _ _ (by omega) (by omega), wrap_i64e, wrap_i64e]
  omega
theorem numW_snoc (t : List UInt8) (k : Nat) (h : k < t.length) : numW (t.take (k + 1)) = IntKind.i64.wrap (numW (t.take k) * 256 + (t.getD k 0).toNat) := by
  unfold numW
  have : t.take (k + 1) = t.take k ++ [t.getD k 0] := take_snoc t k h
  rw [this, List.foldl_append]; rfl
theorem wrap_byte (b : UInt8) : IntKind.i64.wrap (b.toNat : Int) = (b.toNat : Int) := by
  have := b.toNat_lt
  rw [wrap_i64e]; omega
theorem number_c (s : List UInt8) (b : Bool) (n : Nat) (hs : okS s) (ni : Int) (hi : ni = n) (hn : n ≤ 8) : acall Tryz.prog [.cells [S s, B b]] 114 [.ptr 0 0, I ni] (outs (I (numW (curT s b n).t)) [.cells [S (curT s b n).s, B (curT s b n).bad]]) := by
  have hl : (curT s b n).t.length ≤ 8 := by unfold curT; split <;> simp; omega
  generalize hk : curT s b n = k at hl
  refine zi tabOk Tryz.func114 rfl (by kernel_rfl) (by simp [Tryz.ntmps114]) ?_; simp only [Tryz.ntmps114, Tryz.results114, List.toList_toArray, apar, List.length_nil, List.length_cons, Nat.reduceAdd]
  have ct : acall Tryz.prog [.cells [S s, B b]] 113 [.ptr 0 0, I ni] (outs (S k.t) [.cells [S k.s, B k.bad]]) := hk ▸ text_c s b n hs ni hi
  (repeat' first
| (with_reducible refine AR.f ?_)
| refine zb (by decide) ?_
| (with_reducible refine AWP.cond rfl ?_ ?_ <;> intro hc <;> (try simp only [hcs, beq_iff_eq, ge_iff_le, gt_iff_lt] at hc))
| ((first | ((first | (with_reducible first | refine zR ?_ | refine zQ (by decide +kernel) ?_ | refine zD (by decide +kernel) ?_ | refine zE (by decide +kernel) ?_ | refine zG (by decide +kernel) ?_)); intro K hK) | (refine acallH_at [0] (ct) ?_ ?_ ?_; (focus ((try simp (disch := omega) only [inj, List.cons.injEq, and_self, List.nodup_cons, List.not_mem_nil, List.mem_cons, not_false_eq_true, List.nodup_nil, go_sem, wn]) <;> (try omega) <;> fail)); (focus ((try simp (disch := omega) only [inj, List.cons.injEq, and_self, List.nodup_cons, List.not_mem_nil, List.mem_cons, not_false_eq_true, List.nodup_nil, go_sem, wn]) <;> (try omega) <;> (try decide) <;> fail))) | ((first | (with_reducible refine zu ?_ ?_ <;> intro hg) | with_reducible intro hg) <;> (first | (exfalso; simp at hg; done) | (have hg' := hg; (try simp only [hcs, beq_iff_eq, ge_iff_le, gt_iff_lt] at hg'); (try simp only [hg]))))) <;> (try simp (disch := omega) only [go_sem, wn]) <;> (repeat' with_reducible refine And.intro ?_ ?_) <;> (try (with_reducible refine hK _ ?_; clear hK K)))
| omega)
  refine AWP.loopB (ι := Nat) (fun j => j ≤ k.t.length) (fun j => k.t.length - j) [11, 12] (fun j => [(5, I (numW (k.t.take j))), (13, I j)]) (fun j => [.cells [S k.s, B k.bad], .bytes k.t]) 0 ?_ ?_ ?_
  · omega
  · simp only [go_sem, numW, List.foldl_nil]; (refine SImp.same ?_; simp (disch := omega) only [go_sem, wn, Int.natCast_add])
  intro j hj
  simp only [go_sem]
  (repeat' first
| (with_reducible refine AR.f ?_)
| refine zb (by decide) ?_
| (with_reducible refine AWP.cond rfl ?_ ?_ <;> intro hc <;> (try simp only [hcs, beq_iff_eq, ge_iff_le, gt_iff_lt] at hc))
| ((first | ((first | (with_reducible first | refine zR ?_ | refine zQ (by decide +kernel) ?_ | refine zD (by decide +kernel) ?_ | refine zE (by decide +kernel) ?_ | refine zG (by decide +kernel) ?_)); intro K hK) | ((first | (with_reducible refine zu ?_ ?_ <;> intro hg) | with_reducible intro hg) <;> (first | (exfalso; simp at hg; done) | (have hg' := hg; (try simp only [hcs, beq_iff_eq, ge_iff_le, gt_iff_lt] at hg'); (try simp only [hg]))))) <;> (try simp (disch := omega) only [go_sem, wn, u8g, or_byte, wrap_byte]) <;> (repeat' with_reducible refine And.intro ?_ ?_) <;> (try (with_reducible refine hK _ ?_; clear hK K)))
| omega)
  · refine ⟨j + 1, by omega, by omega, ?_⟩
    rw [numW_snoc _ _ (by assumption)]
    (refine SImp.same ?_; simp (disch := omega) only [go_sem, wn, Int.natCast_add, or_byte, wrap_byte, u8g])
  rw [show j = k.t.length from by omega, List.take_length]
  (refine aend_out (by first | exact .inl rfl | exact .inr rfl) ?_ ?_; (focus ((try simp (disch := omega) only [go_sem, wn]) <;> fail)); simp (disch := omega) only [go_sem, wn, true_and]; refine AOut.of_simp ?_ (AOut.same ⟨rfl, rfl⟩); refine SImp.frame [0] rfl (by intro k hk; first | (simp at hk <;> (simp; omega)) | (simp only [List.mem_cons, List.not_mem_nil, or_false] at hk; simp only [List.length_cons, List.length_nil]; omega)) (by decide) (fun k hk => by first | omega | (rcases k with _ | _ | _ | _ | _ | _ | _ | _ | k <;> first | rfl | omega)) ?_ ?_ <;> simp (disch := omega) only [go_sem, wn, true_or, or_true, true_and])
def numN (l : List UInt8) : Nat := l.foldl (fun v x => v * 256 + x.toNat) 0
theorem numN_snoc (t : List UInt8) (k : Nat) (h : k < t.length) : numN (t.take (k + 1)) = numN (t.take k) * 256 + (t.getD k 0).toNat := by
  unfold numN
  have : t.take (k + 1) = t.take k ++ [t.getD k 0] := take_snoc t k h
  rw [this, List.foldl_append]; rfl
theorem numN_take (t : List UInt8) : ∀ k, k ≤ t.length → k ≤ 7 → numN (t.take k) < 256 ^ k ∧ numW (t.take k) = ((numN (t.take k) : Nat) : Int)
  | 0, _, _ => ⟨by simp [numN], rfl⟩
  | k + 1, h, h7 => by
    obtain ⟨h1, h2⟩ := numN_take t k (by omega) (by omega)
    have hb := (t.getD k 0).toNat_lt
    have hp : 256 ^ k ≤ 256 ^ 6 := Nat.pow_le_pow_right (by decide) (by omega)
    have hq : 256 ^ (k + 1) = 256 ^ k * 256 := Nat.pow_succ ..
    rw [numN_snoc t k (by omega), numW_snoc t k (by omega), h2, wrap_i64e]
    omega
theorem numN_lt {t : List UInt8} {k : Nat} (h : t.length ≤ k) (h7 : k ≤ 7) : numN t < 256 ^ k := by
  have := (numN_take t t.length (Nat.le_refl _) (by omega)).1
  rw [List.take_length] at this
  exact Nat.lt_of_lt_of_le this (Nat.pow_le_pow_right (by decide) h)
theorem numW_small {t : List UInt8} (h : t.length ≤ 7) : numW t = ((numN t : Nat) : Int) := by
  have := (numN_take t t.length (Nat.le_refl _) h).2
  rwa [List.take_length] at this
theorem numN_one (b : UInt8) : numN [b] = b.toNat := by simp [numN]
def tz : ATxn := ⟨0, 0, 0, [], [], 0, 0⟩
def bP (b : List UInt8) : Nat := (b.getD 21 0).toNat
def bD (b : List UInt8) : Nat := numN ((b.drop (22 + bP b)).take 2)
def bodyT (b : List UInt8) : ATxn := ⟨numW (b.take 8), (b.getD 8 0).toNat, (numN ((b.drop 9).take 4) : Nat), (b.drop 22).take (bP b), b.drop (24 + bP b), (numN ((b.drop 13).take 4) : Nat), (numN ((b.drop 17).take 4) : Nat)⟩
def bodyOk (b : List UInt8) : Prop := b.length = 24 + bP b + bD b
def sN (s : List UInt8) : Nat := numN ((s.drop 1).take 2)
def sB (s : List UInt8) : List UInt8 := (s.drop 3).take (sN s)
instance (b : List UInt8) : Decidable (bodyOk b) := inferInstanceAs (Decidable (_ = _))
def noHead (s : List UInt8) : Prop := s.length < 3 ∨ s.getD 0 0 ≠ 84
def noRoom (s : List UInt8) : Prop := 1024 < sN s ∨ s.length < sN s + 7
def noSum (s : List UInt8) : Prop := numN ((s.drop (sN s + 3)).take 4) ≠ sumN (s.take (sN s + 3))
instance (s : List UInt8) : Decidable (noHead s) := inferInstanceAs (Decidable (_ ∨ _))
instance (s : List UInt8) : Decidable (noRoom s) := inferInstanceAs (Decidable (_ ∨ _))
instance (s : List UInt8) : Decidable (noSum s) := inferInstanceAs (Decidable (_ ≠ _))
def decT (s : List UInt8) : ATxn × Int × Int :=
  if noHead s then (tz, 0, 2)
  else if noRoom s then (tz, 0, 2)
  else if noSum s then (tz, 0, 5)
  else if ¬ bodyOk (sB s) then (tz, 0, 2)
  else if goodT (bodyT (sB s)) ≠ 0 then (tz, 0, goodT (bodyT (sB s)))
  else (bodyT (sB s), (sN s + 7 : Nat), 0)
theorem decT_a {s : List UInt8} (h : noHead s) : decT s = (tz, 0, 2) := by unfold decT; rw [if_pos h]
theorem decT_b {s : List UInt8} (h1 : ¬ noHead s) (h : noRoom s) : decT s = (tz, 0, 2) := by unfold decT; rw [if_neg h1, if_pos h]
theorem decT_c {s : List UInt8} (h1 : ¬ noHead s) (h2 : ¬ noRoom s) (h : noSum s) : decT s = (tz, 0, 5) := by unfold decT; rw [if_neg h1, if_neg h2, if_pos h]
theorem decT_d {s : List UInt8} (h1 : ¬ noHead s) (h2 : ¬ noRoom s) (h3 : ¬ noSum s) (h : ¬ bodyOk (sB s)) : decT s = (tz, 0, 2) := by unfold decT; rw [if_neg h1, if_neg h2, if_neg h3, if_pos h]
theorem decT_e {s : List UInt8} (h1 : ¬ noHead s) (h2 : ¬ noRoom s) (h3 : ¬ noSum s) (h4 : bodyOk (sB s)) (h : goodT (bodyT (sB s)) ≠ 0) : decT s = (tz, 0, goodT (bodyT (sB s))) := by
  unfold decT; rw [if_neg h1, if_neg h2, if_neg h3, if_neg (fun h => h h4), if_pos h]
theorem decT_f {s : List UInt8} (h1 : ¬ noHead s) (h2 : ¬ noRoom s) (h3 : ¬ noSum s) (h4 : bodyOk (sB s)) (h : goodT (bodyT (sB s)) = 0) : decT s = (bodyT (sB s), ((sN s + 7 : Nat) : Int), 0) := by
  unfold decT; rw [if_neg h1, if_neg h2, if_neg h3, if_neg (fun h => h h4), if_neg (fun h' => h' h)]
end Go.Proofs.YtmpfhalheaeibaaGreatDoor
namespace Go.Proofs.YtmpfhalheaeibaaGreatDoor
set_option linter.unusedVariables false
set_option linter.unusedSimpArgs false
open Go Go.RowKit
set_option maxRecDepth 100000
theorem number_s (s : List UInt8) (b : Bool) (n : Nat) (hs : okS s) (ni : Int) (hi : ni = n) (hn : n ≤ 7) : acall Tryz.prog [.cells [S s, B b]] 114 [.ptr 0 0, I ni] (outs (I (numN (curT s b n).t : Nat)) [.cells [S (curT s b n).s, B (curT s b n).bad]]) := by
  have hl : (curT s b n).t.length ≤ 7 := by unfold curT; split <;> simp; omega
  rw [← numW_small hl]; exact number_c s b n hs ni hi (by omega)
theorem curT_len (s : List UInt8) (b : Bool) (n : Nat) : (curT s b n).s.length ≤ s.length ∧ (curT s b n).t.length ≤ s.length ∧ (curT s b n).t.length ≤ n := by
  unfold curT; split <;> simp <;> omega
theorem curT_good {s : List UInt8} {b : Bool} {n : Nat} (h : (curT s b n).bad = false) : b = false ∧ n ≤ s.length ∧ (curT s b n).t = s.take n ∧ (curT s b n).s = s.drop n := by
  unfold curT at *
  split at h
  · cases h
  · rename_i hn
    rw [if_neg hn]
    exact ⟨by cases b <;> simp_all, by omega, rfl, rfl⟩
theorem curT_no {s : List UInt8} {n : Nat} (h : (curT s false n).bad = true) : s.length < n := by
  rcases Nat.lt_or_ge s.length n with h' | h'
  · exact h'
  · rw [curT_ok h'] at h; cases h
structure Dec where
  k1 : Cur
  k2 : Cur
  k3 : Cur
  k4 : Cur
  j1 : Cur
  j2 : Cur
  j3 : Cur
  j4 : Cur
  j5 : Cur
  j6 : Cur
  j7 : Cur
  j8 : Cur
  j9 : Cur
structure Reads (s : List UInt8) (d : Dec) : Prop where
  k1 : curT s false 1 = d.k1
  k2 : curT d.k1.s d.k1.bad 2 = d.k2
  k3 : curT d.k2.s d.k2.bad (numN d.k2.t) = d.k3
  k4 : curT d.k3.s d.k3.bad 4 = d.k4
  j1 : curT d.k3.t false 8 = d.j1
  j2 : curT d.j1.s d.j1.bad 1 = d.j2
  j3 : curT d.j2.s d.j2.bad 4 = d.j3
  j4 : curT d.j3.s d.j3.bad 4 = d.j4
  j5 : curT d.j4.s d.j4.bad 4 = d.j5
  j6 : curT d.j5.s d.j5.bad 1 = d.j6
  j7 : curT d.j6.s d.j6.bad (numN d.j6.t) = d.j7
  j8 : curT d.j7.s d.j7.bad 2 = d.j8
  j9 : curT d.j8.s d.j8.bad (numN d.j8.t) = d.j9
theorem reads (s : List UInt8) : ∃ d, Reads s d := by
  let k1 := curT s false 1
  let k2 := curT k1.s k1.bad 2
  let k3 := curT k2.s k2.bad (numN k2.t)
  let k4 := curT k3.s k3.bad 4
  let j1 := curT k3.t false 8
  let j2 := curT j1.s j1.bad 1
  let j3 := curT j2.s j2.bad 4
  let j4 := curT j3.s j3.bad 4
  let j5 := curT j4.s j4.bad 4
  let j6 := curT j5.s j5.bad 1
  let j7 := curT j6.s j6.bad (numN j6.t)
  let j8 := curT j7.s j7.bad 2
  let j9 := curT j8.s j8.bad (numN j8.t)
  exact ⟨⟨k1, k2, k3, k4, j1, j2, j3, j4, j5, j6, j7, j8, j9⟩, ⟨rfl, rfl, rfl, rfl, rfl, rfl, rfl, rfl, rfl, rfl, rfl, rfl, rfl⟩⟩
theorem gd {s : List UInt8} {b : Bool} {n : Nat} {k : Cur} (e : curT s b n = k) (h : k.bad = false) : b = false ∧ n ≤ s.length ∧ k.t = s.take n ∧ k.s = s.drop n := by
  subst e; exact curT_good h
theorem no {s : List UInt8} {n : Nat} {k : Cur} (e : curT s false n = k) (h : k.bad = true) : s.length < n := by subst e; exact curT_no h
theorem ln {s : List UInt8} {b : Bool} {n m : Nat} {k : Cur} (e : curT s b n = k) (h : s.length ≤ m) : k.s.length ≤ m ∧ k.t.length ≤ m ∧ k.t.length ≤ n := by
  subst e; have := curT_len s b n; omega
def decV (d : Dec) : ATxn := ⟨numW d.j1.t, (numN d.j2.t : Nat), (numN d.j3.t : Nat), d.j7.t, d.j9.t, (numN d.j4.t : Nat), (numN d.j5.t : Nat)⟩
theorem dec_head {s : List UInt8} {d : Dec} (r : Reads s d) (h : d.k1.t ≠ [84]) : noHead s := by
  unfold noHead
  rcases Nat.lt_or_ge s.length 1 with h0 | h0
  · left; omega
  right; intro e; apply h
  have := r.k1
  rw [curT_ok h0] at this
  rw [← this]
  match s, h0, e with
  | x :: s, _, e => simp at e; simp [e]
theorem dec_one {s : List UInt8} {d : Dec} (r : Reads s d) (h : d.k1.t = [84]) : d.k1.bad = false ∧ d.k1.s = s.drop 1 ∧ 1 ≤ s.length ∧ s.getD 0 0 = 84 := by
  have h1 := r.k1
  rcases Nat.lt_or_ge s.length 1 with h0 | h0
  · rw [curT_bad (.inr h0)] at h1; rw [← h1] at h; cases h
  rw [curT_ok h0] at h1
  rw [← h1] at h
  refine ⟨by rw [← h1], by rw [← h1], h0, ?_⟩
  match s, h0, h with
  | x :: s, _, h => simp at h; simp [h]
theorem dec_two {s : List UInt8} {d : Dec} (r : Reads s d) (h : d.k1.t = [84]) (h2 : d.k2.bad = true) : noHead s := by
  obtain ⟨a1, a2, a3, _⟩ := dec_one r h
  have h3 := r.k2
  rw [a1, a2] at h3
  have := no h3 h2
  rw [List.length_drop] at this
  left; omega
theorem dec_n {s : List UInt8} {d : Dec} (r : Reads s d) (h : d.k1.t = [84]) (h2 : d.k2.bad = false) : ¬ noHead s ∧ numN d.k2.t = sN s ∧ d.k2.s = s.drop 3 := by
  obtain ⟨a1, a2, a3, a4⟩ := dec_one r h
  obtain ⟨_, b2, b3, b4⟩ := gd r.k2 h2
  rw [a2] at b2 b3 b4
  rw [List.length_drop] at b2
  refine ⟨fun hh => ?_, by rw [b3]; rfl, by rw [b4, List.drop_drop]⟩
  rcases hh with hh | hh
  · omega
  · exact hh a4
theorem dec_room {s : List UInt8} {d : Dec} (r : Reads s d) (h : d.k1.t = [84]) (h2 : d.k2.bad = false) (h4 : d.k4.bad = true) : s.length < sN s + 7 := by
  obtain ⟨a1, a2, a3⟩ := dec_n r h h2
  rcases Nat.lt_or_ge s.length (sN s + 7) with h' | h'
  · exact h'
  have r3 := r.k3
  rw [h2, a2, a3, curT_ok (by rw [List.length_drop]; omega)] at r3
  have r4 := r.k4
  rw [← r3] at r4
  have := no r4 h4
  simp at this; omega
theorem dec_body {s : List UInt8} {d : Dec} (r : Reads s d) (h : d.k1.t = [84]) (h2 : d.k2.bad = false) (h4 : d.k4.bad = false) : sN s + 7 ≤ s.length ∧ d.k3.t = sB s ∧ d.k4.t = (s.drop (sN s + 3)).take 4 := by
  obtain ⟨a1, a2, a3⟩ := dec_n r h h2
  obtain ⟨b1, b2, b3, b4⟩ := gd r.k4 h4
  obtain ⟨c1, c2, c3, c4⟩ := gd r.k3 b1
  rw [a2, a3] at c2 c3 c4
  rw [List.length_drop] at c2
  rw [c4] at b2 b3
  rw [List.drop_drop] at b2 b3
  rw [List.length_drop] at b2
  exact ⟨by omega, c3, by rw [b3, Nat.add_comm 3]⟩
theorem dec_all {s : List UInt8} {d : Dec} (r : Reads s d) {b : List UInt8} (hb : d.k3.t = b) (h9 : d.j9.bad = false) (hs : d.j9.s = []) : bodyOk b ∧ decV d = bodyT b := by
  obtain ⟨i9, l9, t9, s9⟩ := gd r.j9 h9
  obtain ⟨i8, l8, t8, s8⟩ := gd r.j8 i9
  obtain ⟨i7, l7, t7, s7⟩ := gd r.j7 i8
  obtain ⟨i6, l6, t6, s6⟩ := gd r.j6 i7
  obtain ⟨i5, l5, t5, s5⟩ := gd r.j5 i6
  obtain ⟨i4, l4, t4, s4⟩ := gd r.j4 i5
  obtain ⟨i3, l3, t3, s3⟩ := gd r.j3 i4
  obtain ⟨i2, l2, t2, s2⟩ := gd r.j2 i3
  obtain ⟨i1, l1, t1, s1⟩ := gd r.j1 i2
  rw [hb] at t1 s1 l1
  rw [s1] at t2 s2 l2
  rw [s2, List.drop_drop] at t3 s3 l3
  rw [s3, List.drop_drop] at t4 s4 l4
  rw [s4, List.drop_drop] at t5 s5 l5
  rw [s5, List.drop_drop] at t6 s6 l6
  rw [s6, List.drop_drop] at t7 s7 l7
  rw [s7, List.drop_drop] at t8 s8 l8
  rw [s8, List.drop_drop] at t9 s9 l9
  simp only [Nat.reduceAdd, List.length_drop] at *
  have e1 : ∀ k, k < b.length → (b.drop k).take 1 = [b.getD k 0] := fun k hk => by
    rw [List.drop_eq_getElem_cons hk, List.take_succ_cons, List.take_zero]; simp [hk]
  have n6 : numN d.j6.t = bP b := by rw [t6, e1 21 (by omega), numN_one]; rfl
  rw [n6] at t7 s7 l7 t8 s8 l8 t9 s9 l9
  have n8 : numN d.j8.t = bD b := by rw [t8, show 8 + (14 + bP b) = 22 + bP b from by omega]; rfl
  rw [n8] at t9 s9 l9
  have hz : d.j9.s.length = 0 := by rw [hs]; rfl
  rw [s9] at hz
  simp only [List.length_drop] at hz
  have hok : b.length = 24 + bP b + bD b := by omega
  refine ⟨hok, ?_⟩
  unfold decV bodyT
  rw [t1, t2, t3, t4, t5, t7, t9, e1 8 (by omega), numN_one]
  congr 1
  · rw [show 8 + (14 + bP b + 2) = 24 + bP b from by omega]
    exact List.take_of_length_le (by rw [List.length_drop]; omega)
theorem dec_back {s : List UInt8} {d : Dec} (r : Reads s d) {b : List UInt8} (hb : d.k3.t = b) (h : bodyOk b) : d.j9.bad = false ∧ d.j9.s = [] := by
  unfold bodyOk at h
  have e1 : ∀ k, k < b.length → (b.drop k).take 1 = [b.getD k 0] := fun k hk => by
    rw [List.drop_eq_getElem_cons hk, List.take_succ_cons, List.take_zero]; simp [hk]
  have r1 := r.j1
  rw [hb, curT_ok (by omega)] at r1
  have r2 := r.j2
  rw [← r1, curT_ok (by simp only [List.length_drop]; omega), List.drop_drop] at r2
  have r3 := r.j3
  rw [← r2, curT_ok (by simp only [List.length_drop]; omega), List.drop_drop] at r3
  have r4 := r.j4
  rw [← r3, curT_ok (by simp only [List.length_drop]; omega), List.drop_drop] at r4
  have r5 := r.j5
  rw [← r4, curT_ok (by simp only [List.length_drop]; omega), List.drop_drop] at r5
  have r6 := r.j6
  rw [← r5, curT_ok (by simp only [List.length_drop]; omega), List.drop_drop, e1 _ (by omega)] at r6
  have n6 : numN d.j6.t = bP b := by rw [← r6, numN_one]; rfl
  have r7 := r.j7
  rw [n6, ← r6, curT_ok (by simp only [List.length_drop]; omega), List.drop_drop] at r7
  have r8 := r.j8
  rw [← r7, curT_ok (by simp only [List.length_drop]; omega), List.drop_drop] at r8
  have n8 : numN d.j8.t = bD b := by rw [← r8]; rfl
  have r9 := r.j9
  rw [n8, ← r8, curT_ok (by simp only [List.length_drop]; omega), List.drop_drop] at r9
  exact ⟨by rw [← r9], by rw [← r9]; exact List.drop_eq_nil_of_le (by omega)⟩
set_option maxHeartbeats 4000000 in
theorem decode_c (s : List UInt8) (hs : s.length ≤ 1048576) : acall Tryz.prog [] 97 [S s] (ret (.tup [(decT s).1.av, I (decT s).2.1, I (decT s).2.2])) := by
  obtain ⟨d, r⟩ := reads s
  have e1 := ln r.k1 hs
  have e2 := ln r.k2 e1.1
  have e3 := ln r.k3 e2.1
  have e4 := ln r.k4 e3.1
  have f1 := ln r.j1 e3.2.1
  have f2 := ln r.j2 f1.1
  have f3 := ln r.j3 f2.1
  have f4 := ln r.j4 f3.1
  have f5 := ln r.j5 f4.1
  have f6 := ln r.j6 f5.1
  have f7 := ln r.j7 f6.1
  have f8 := ln r.j8 f7.1
  have f9 := ln r.j9 f8.1
  have hn : numN d.k2.t < 65536 := numN_lt (k := 2) e2.2.2 (by decide)
  have ok {t : List UInt8} (h : t.length ≤ 1048576) : okS t := by unfold okS; omega
  have c1 := text_c s false 1 (ok hs) 1 rfl
  have c2 := number_s d.k1.s d.k1.bad 2 (ok e1.1) 2 rfl (by decide)
  have c3 := text_c d.k2.s d.k2.bad (numN d.k2.t) (ok e2.1) (numN d.k2.t : Nat) rfl
  have c4 := number_s d.k3.s d.k3.bad 4 (ok e3.1) 4 rfl (by decide)
  have b1 := number_c d.k3.t false 8 (ok e3.2.1) 8 rfl (by decide)
  have b2 := number_s d.j1.s d.j1.bad 1 (ok f1.1) 1 rfl (by decide)
  have b3 := number_s d.j2.s d.j2.bad 4 (ok f2.1) 4 rfl (by decide)
  have b4 := number_s d.j3.s d.j3.bad 4 (ok f3.1) 4 rfl (by decide)
  have b5 := number_s d.j4.s d.j4.bad 4 (ok f4.1) 4 rfl (by decide)
  have b6 := number_s d.j5.s d.j5.bad 1 (ok f5.1) 1 rfl (by decide)
  have b7 := text_c d.j6.s d.j6.bad (numN d.j6.t) (ok f6.1) (numN d.j6.t : Nat) rfl
  have b8 := number_s d.j7.s d.j7.bad 2 (ok f7.1) 2 rfl (by decide)
  have b9 := text_c d.j8.s d.j8.bad (numN d.j8.t) (ok f8.1) (numN d.j8.t : Nat) rfl
  rw [r.k1] at c1
  rw [r.k2] at c2
  rw [r.k3] at c3
  rw [r.k4] at c4
  rw [r.j1] at b1
  rw [r.j2] at b2
  rw [r.j3] at b3
  rw [r.j4] at b4
  rw [r.j5] at b5
  rw [r.j6] at b6
  rw [r.j7] at b7
  rw [r.j8] at b8
  rw [r.j9] at b9
  have q3 : (3 + (numN d.k2.t : Int)).toNat = 3 + numN d.k2.t := by omega
  have cs := sum_c (s.take (3 + numN d.k2.t)) (ok (by simp; omega))
  have cg : acall Tryz.prog [] 51 [(decV d).av] (ret (I (goodT (decV d)))) := wgood_c (decV d) (ok f7.2.1) (ok f9.2.1)
  unfold ATxn.av decV at cg
  refine zi tabOk Tryz.func97 rfl (by kernel_rfl) (by simp [Tryz.ntmps97]) ?_; simp only [Tryz.ntmps97, Tryz.results97, List.toList_toArray, apar, List.length_nil, List.length_cons, Nat.reduceAdd]
  (repeat' first
| (with_reducible refine AR.f ?_)
| refine zb (by decide) ?_
| (with_reducible refine AWP.cond rfl ?_ ?_ <;> intro hc <;> (try simp only [hcs, beq_iff_eq, ge_iff_le, gt_iff_lt] at hc))
| ((first | ((first | (with_reducible first | refine zR ?_ | refine zQ (by decide +kernel) ?_ | refine zD (by decide +kernel) ?_ | refine zE (by decide +kernel) ?_ | refine zG (by decide +kernel) ?_)); intro K hK) | ((first | refine zA cs ?_ ?_ ?_ ?_ ?_ | refine zA cg ?_ ?_ ?_ ?_ ?_); (focus exact rfl); (focus exact rfl); iterate 2 (focus ((try simp (disch := omega) only [go_sem, wn, q3, Nat.sub_zero]) <;> (try omega) <;> fail))) | ((first | refine zN cs rfl ?_ ?_ | refine zN cg rfl ?_ ?_); (focus ((try simp (disch := omega) only [go_sem, wn, q3, Nat.sub_zero]) <;> (try omega) <;> fail))) | (first | ((first | refine zX cs rfl ?_ ?_ | refine zy cs ?_ ?_); (focus ((try simp (disch := omega) only [go_sem, wn, q3, Nat.sub_zero]) <;> (try omega) <;> fail))) | ((first | refine zX cg rfl ?_ ?_ | refine zy cg ?_ ?_); (focus ((try simp (disch := omega) only [go_sem, wn, q3, Nat.sub_zero]) <;> (try omega) <;> fail)))) | (refine acallH_at [1] (c1) ?_ ?_ ?_; (focus ((try simp (disch := omega) only [inj, List.cons.injEq, and_self, List.nodup_cons, List.not_mem_nil, List.mem_cons, not_false_eq_true, List.nodup_nil, go_sem, wn, q3, Nat.sub_zero]) <;> (try omega) <;> fail)); (focus ((try simp (disch := omega) only [inj, List.cons.injEq, and_self, List.nodup_cons, List.not_mem_nil, List.mem_cons, not_false_eq_true, List.nodup_nil, go_sem, wn, q3, Nat.sub_zero]) <;> (try omega) <;> (try decide) <;> fail))) | (refine acallH_at [1] (c2) ?_ ?_ ?_; (focus ((try simp (disch := omega) only [inj, List.cons.injEq, and_self, List.nodup_cons, List.not_mem_nil, List.mem_cons, not_false_eq_true, List.nodup_nil, go_sem, wn, q3, Nat.sub_zero]) <;> (try omega) <;> fail)); (focus ((try simp (disch := omega) only [inj, List.cons.injEq, and_self, List.nodup_cons, List.not_mem_nil, List.mem_cons, not_false_eq_true, List.nodup_nil, go_sem, wn, q3, Nat.sub_zero]) <;> (try omega) <;> (try decide) <;> fail))) | (refine acallH_at [1] (c3) ?_ ?_ ?_; (focus ((try simp (disch := omega) only [inj, List.cons.injEq, and_self, List.nodup_cons, List.not_mem_nil, List.mem_cons, not_false_eq_true, List.nodup_nil, go_sem, wn, q3, Nat.sub_zero]) <;> (try omega) <;> fail)); (focus ((try simp (disch := omega) only [inj, List.cons.injEq, and_self, List.nodup_cons, List.not_mem_nil, List.mem_cons, not_false_eq_true, List.nodup_nil, go_sem, wn, q3, Nat.sub_zero]) <;> (try omega) <;> (try decide) <;> fail))) | (refine acallH_at [1] (c4) ?_ ?_ ?_; (focus ((try simp (disch := omega) only [inj, List.cons.injEq, and_self, List.nodup_cons, List.not_mem_nil, List.mem_cons, not_false_eq_true, List.nodup_nil, go_sem, wn, q3, Nat.sub_zero]) <;> (try omega) <;> fail)); (focus ((try simp (disch := omega) only [inj, List.cons.injEq, and_self, List.nodup_cons, List.not_mem_nil, List.mem_cons, not_false_eq_true, List.nodup_nil, go_sem, wn, q3, Nat.sub_zero]) <;> (try omega) <;> (try decide) <;> fail))) | (refine acallH_at [2] (b1) ?_ ?_ ?_; (focus ((try simp (disch := omega) only [inj, List.cons.injEq, and_self, List.nodup_cons, List.not_mem_nil, List.mem_cons, not_false_eq_true, List.nodup_nil, go_sem, wn, q3, Nat.sub_zero]) <;> (try omega) <;> fail)); (focus ((try simp (disch := omega) only [inj, List.cons.injEq, and_self, List.nodup_cons, List.not_mem_nil, List.mem_cons, not_false_eq_true, List.nodup_nil, go_sem, wn, q3, Nat.sub_zero]) <;> (try omega) <;> (try decide) <;> fail))) | (refine acallH_at [2] (b2) ?_ ?_ ?_; (focus ((try simp (disch := omega) only [inj, List.cons.injEq, and_self, List.nodup_cons, List.not_mem_nil, List.mem_cons, not_false_eq_true, List.nodup_nil, go_sem, wn, q3, Nat.sub_zero]) <;> (try omega) <;> fail)); (focus ((try simp (disch := omega) only [inj, List.cons.injEq, and_self, List.nodup_cons, List.not_mem_nil, List.mem_cons, not_false_eq_true, List.nodup_nil, go_sem, wn, q3, Nat.sub_zero]) <;> (try omega) <;> (try decide) <;> fail))) | (refine acallH_at [2] (b3) ?_ ?_ ?_; (focus ((try simp (disch := omega) only [inj, List.cons.injEq, and_self, List.nodup_cons, List.not_mem_nil, List.mem_cons, not_false_eq_true, List.nodup_nil, go_sem, wn, q3, Nat.sub_zero]) <;> (try omega) <;> fail)); (focus ((try simp (disch := omega) only [inj, List.cons.injEq, and_self, List.nodup_cons, List.not_mem_nil, List.mem_cons, not_false_eq_true, List.nodup_nil, go_sem, wn, q3, Nat.sub_zero]) <;> (try omega) <;> (try decide) <;> fail))) | (refine acallH_at [2] (b4) ?_ ?_ ?_; (focus ((try simp (disch := omega) only [inj, List.cons.injEq, and_self, List.nodup_cons, List.not_mem_nil, List.mem_cons, not_false_eq_true, List.nodup_nil, go_sem, wn, q3, Nat.sub_zero]) <;> (try omega) <;> fail)); (focus ((try simp (disch := omega) only [inj, List.cons.injEq, and_self, List.nodup_cons, List.not_mem_nil, List.mem_cons, not_false_eq_true, List.nodup_nil, go_sem, wn, q3, Nat.sub_zero]) <;> (try omega) <;> (try decide) <;> fail))) | (refine acallH_at [2] (b5) ?_ ?_ ?_; (focus ((try simp (disch := omega) only [inj, List.cons.injEq, and_self, List.nodup_cons, List.not_mem_nil, List.mem_cons, not_false_eq_true, List.nodup_nil, go_sem, wn, q3, Nat.sub_zero]) <;> (try omega) <;> fail)); (focus ((try simp (disch := omega) only [inj, List.cons.injEq, and_self, List.nodup_cons, List.not_mem_nil, List.mem_cons, not_false_eq_true, List.nodup_nil, go_sem, wn, q3, Nat.sub_zero]) <;> (try omega) <;> (try decide) <;> fail))) | (refine acallH_at [2] (b6) ?_ ?_ ?_; (focus ((try simp (disch := omega) only [inj, List.cons.injEq, and_self, List.nodup_cons, List.not_mem_nil, List.mem_cons, not_false_eq_true, List.nodup_nil, go_sem, wn, q3, Nat.sub_zero]) <;> (try omega) <;> fail)); (focus ((try simp (disch := omega) only [inj, List.cons.injEq, and_self, List.nodup_cons, List.not_mem_nil, List.mem_cons, not_false_eq_true, List.nodup_nil, go_sem, wn, q3, Nat.sub_zero]) <;> (try omega) <;> (try decide) <;> fail))) | (refine acallH_at [2] (b7) ?_ ?_ ?_; (focus ((try simp (disch := omega) only [inj, List.cons.injEq, and_self, List.nodup_cons, List.not_mem_nil, List.mem_cons, not_false_eq_true, List.nodup_nil, go_sem, wn, q3, Nat.sub_zero]) <;> (try omega) <;> fail)); (focus ((try simp (disch := omega) only [inj, List.cons.injEq, and_self, List.nodup_cons, List.not_mem_nil, List.mem_cons, not_false_eq_true, List.nodup_nil, go_sem, wn, q3, Nat.sub_zero]) <;> (try omega) <;> (try decide) <;> fail))) | (refine acallH_at [2] (b8) ?_ ?_ ?_; (focus ((try simp (disch := omega) only [inj, List.cons.injEq, and_self, List.nodup_cons, List.not_mem_nil, List.mem_cons, not_false_eq_true, List.nodup_nil, go_sem, wn, q3, Nat.sub_zero]) <;> (try omega) <;> fail)); (focus ((try simp (disch := omega) only [inj, List.cons.injEq, and_self, List.nodup_cons, List.not_mem_nil, List.mem_cons, not_false_eq_true, List.nodup_nil, go_sem, wn, q3, Nat.sub_zero]) <;> (try omega) <;> (try decide) <;> fail))) | (refine acallH_at [2] (b9) ?_ ?_ ?_; (focus ((try simp (disch := omega) only [inj, List.cons.injEq, and_self, List.nodup_cons, List.not_mem_nil, List.mem_cons, not_false_eq_true, List.nodup_nil, go_sem, wn, q3, Nat.sub_zero]) <;> (try omega) <;> fail)); (focus ((try simp (disch := omega) only [inj, List.cons.injEq, and_self, List.nodup_cons, List.not_mem_nil, List.mem_cons, not_false_eq_true, List.nodup_nil, go_sem, wn, q3, Nat.sub_zero]) <;> (try omega) <;> (try decide) <;> fail))) | ((first | (with_reducible refine zu ?_ ?_ <;> intro hg) | with_reducible intro hg) <;> (first | (exfalso; simp at hg; done) | (have hg' := hg; (try simp only [hcs, beq_iff_eq, ge_iff_le, gt_iff_lt] at hg'); (try simp only [hg]))))) <;> (try simp (disch := omega) only [go_sem, wn, q3, Nat.sub_zero]) <;> (repeat' with_reducible refine And.intro ?_ ?_) <;> (try (with_reducible refine hK _ ?_; clear hK K)))
| omega)
  · rw [decT_a (dec_head r hc)]; (refine zF rfl ?_ ?_ ?_ ?_; (iterate 3 (focus ((try simp (disch := omega) only [go_sem, wn, tz]) <;> (try omega) <;> fail))); (try simp (disch := omega) only [go_sem, wn, tz, I, B, S, inj, List.cons.injEq, and_true, true_and, and_self]))
  all_goals (have hk : d.k1.t = [84] := by assumption)
  · cases hb : d.k2.bad with
    | true => rw [decT_a (dec_two r hk hb)]; (refine zF rfl ?_ ?_ ?_ ?_; (iterate 3 (focus ((try simp (disch := omega) only [go_sem, wn, tz]) <;> (try omega) <;> fail))); (try simp (disch := omega) only [go_sem, wn, tz, I, B, S, inj, List.cons.injEq, and_true, true_and, and_self]))
    | false =>
      obtain ⟨a1, a2, a3⟩ := dec_n r hk hb
      rw [decT_b a1 (.inl (by rw [hb] at hc; rw [← a2]; rcases hc with hc | hc; cases hc; omega))]; (refine zF rfl ?_ ?_ ?_ ?_; (iterate 3 (focus ((try simp (disch := omega) only [go_sem, wn, tz]) <;> (try omega) <;> fail))); (try simp (disch := omega) only [go_sem, wn, tz, I, B, S, inj, List.cons.injEq, and_true, true_and, and_self]))
  all_goals (have hb : d.k2.bad = false ∧ (numN d.k2.t : Int) ≤ 1024 := by assumption)
  all_goals obtain ⟨a1, a2, a3⟩ := dec_n r hk hb.1
  · rw [decT_b a1 (.inr (dec_room r hk hb.1 hc))]; (refine zF rfl ?_ ?_ ?_ ?_; (iterate 3 (focus ((try simp (disch := omega) only [go_sem, wn, tz]) <;> (try omega) <;> fail))); (try simp (disch := omega) only [go_sem, wn, tz, I, B, S, inj, List.cons.injEq, and_true, true_and, and_self]))
  all_goals (have h4 : d.k4.bad = false := by assumption)
  all_goals obtain ⟨x1, x2, x3⟩ := dec_body r hk hb.1 h4
  · omega
  all_goals (have a4 : ¬ noRoom s := fun h => by unfold noRoom at h; omega)
  all_goals (have ee1 : sumN (List.take (3 + numN d.k2.t) s) = sumN (List.take (sN s + 3) s) := by rw [a2, Nat.add_comm])
  all_goals (have ee2 : numN d.k4.t = numN (List.take 4 (List.drop (sN s + 3) s)) := by rw [x3])
  · rw [decT_c a1 a4 (by unfold noSum; omega)]; (refine zF rfl ?_ ?_ ?_ ?_; (iterate 3 (focus ((try simp (disch := omega) only [go_sem, wn, tz]) <;> (try omega) <;> fail))); (try simp (disch := omega) only [go_sem, wn, tz, I, B, S, inj, List.cons.injEq, and_true, true_and, and_self]))
  all_goals (have a5 : ¬ noSum s := fun h => by unfold noSum at h; omega)
  · have hno : ¬ bodyOk (sB s) := fun h => by
      obtain ⟨u1, u2⟩ := dec_back r x2 h
      rcases hc with hc | hc
      · rw [u1] at hc; cases hc
      · exact hc u2
    rw [decT_d a1 a4 a5 hno]; (refine zF rfl ?_ ?_ ?_ ?_; (iterate 3 (focus ((try simp (disch := omega) only [go_sem, wn, tz]) <;> (try omega) <;> fail))); (try simp (disch := omega) only [go_sem, wn, tz, I, B, S, inj, List.cons.injEq, and_true, true_and, and_self]))
  all_goals (have h9 : d.j9.bad = false ∧ d.j9.s = [] := by assumption)
  all_goals obtain ⟨y1, y2⟩ := dec_all r x2 h9.1 h9.2
  · have hg2 : goodT (bodyT (sB s)) ≠ 0 := y2 ▸ hc
    rw [decT_e a1 a4 a5 y1 hg2, ← y2]; (refine zF rfl ?_ ?_ ?_ ?_; (iterate 3 (focus ((try simp (disch := omega) only [go_sem, wn, tz, decV]) <;> (try omega) <;> fail))); (try simp (disch := omega) only [go_sem, wn, tz, decV, I, B, S, inj, List.cons.injEq, and_true, true_and, and_self]))
  · have hg2 : goodT (bodyT (sB s)) = 0 := y2 ▸ hc
    rw [decT_f a1 a4 a5 y1 hg2, ← y2]; (refine zF rfl ?_ ?_ ?_ ?_; (iterate 3 (focus ((try simp (disch := omega) only [go_sem, wn, decV, Int.natCast_add, a2]) <;> (try omega) <;> fail))); (try simp (disch := omega) only [go_sem, wn, decV, Int.natCast_add, a2, I, B, S, inj, List.cons.injEq, and_true, true_and, and_self]))
end Go.Proofs.YtmpfhalheaeibaaGreatDoor
namespace Go.Proofs.YtmpfhalheaeibaaGreatDoor
set_option linter.unusedVariables false
set_option linter.unusedSimpArgs false
open Go Go.RowKit
set_option maxRecDepth 100000
def lastZ (l : List ATxn) : Int := if l = [] then 0 else (l.getD (l.length - 1) default).zxid
theorem lastZ_nil : lastZ [] = 0 := rfl
theorem lastZ_pos {l : List ATxn} (h : 0 < l.length) : lastZ l = (l.getD (l.length - 1) default).zxid := by
  unfold lastZ; rw [if_neg (fun e => by rw [e] at h; exact absurd h (by decide))]
theorem last_c (l : List ATxn) (h : l.length * 72 ≤ 140737488351232) : acall Tryz.prog [] 98 [.d (.sl 7 (l.map ATxn.row))] (ret (I (lastZ l))) := by
  refine zi tabOk Tryz.func98 rfl (by kernel_rfl) (by simp [Tryz.ntmps98]) ?_; simp only [Tryz.ntmps98, Tryz.results98, List.toList_toArray, apar, List.length_nil, List.length_cons, Nat.reduceAdd]
  (repeat' first
| (with_reducible refine AR.f ?_)
| refine zb (by decide) ?_
| (with_reducible refine AWP.cond rfl ?_ ?_ <;> intro hc <;> (try simp only [hcs, beq_iff_eq, ge_iff_le, gt_iff_lt] at hc))
| ((first | ((first | (with_reducible first | refine zR ?_ | refine zQ (by decide +kernel) ?_ | refine zD (by decide +kernel) ?_ | refine zE (by decide +kernel) ?_ | refine zG (by decide +kernel) ?_)); intro K hK) | ((first | (with_reducible refine zu ?_ ?_ <;> intro hg) | with_reducible intro hg) <;> (first | (exfalso; simp at hg; done) | (have hg' := hg; (try simp only [hcs, beq_iff_eq, ge_iff_le, gt_iff_lt] at hg'); (try simp only [hg]))))) <;> (try simp (disch := omega) only [go_sem, wn, ATxn.rgetD]) <;> (repeat' with_reducible refine And.intro ?_ ?_) <;> (try (with_reducible refine hK _ ?_; clear hK K)))
| omega)
  · have e : l = [] := List.eq_nil_of_length_eq_zero (by omega)
    rw [e, lastZ_nil]; (refine zF rfl ?_ ?_ ?_ ?_; (iterate 3 (focus ((try simp (disch := omega) only [go_sem, wn]) <;> (try omega) <;> fail))); (try simp (disch := omega) only [go_sem, wn, I, B, S, inj, List.cons.injEq, and_true, true_and, and_self]))
  all_goals first | omega | skip
  rw [lastZ_pos (by omega)]
  have e : (((l.length : Int) - 1).toNat) = l.length - 1 := by omega
  (refine zF rfl ?_ ?_ ?_ ?_; (iterate 3 (focus ((try simp (disch := omega) only [go_sem, wn, ATxn.rgetD, e]) <;> (try omega) <;> fail))); (try simp (disch := omega) only [go_sem, wn, ATxn.rgetD, e, I, B, S, inj, List.cons.injEq, and_true, true_and, and_self]))
  all_goals trace_state
theorem sameLog_c (a b : List ATxn) (h : a.length * 72 ≤ 140737488351232) (h2 : b.length * 72 ≤ 140737488351232) : acall Tryz.prog [] 46 [.d (.sl 7 (a.map ATxn.row)), .d (.sl 7 (b.map ATxn.row))] (ret (B (decide (a = b)))) := by
  refine zi tabOk Tryz.func46 rfl (by kernel_rfl) (by simp [Tryz.ntmps46]) ?_; simp only [Tryz.ntmps46, Tryz.results46, List.toList_toArray, apar, List.length_nil, List.length_cons, Nat.reduceAdd]
  (repeat' first
| (with_reducible refine AR.f ?_)
| refine zb (by decide) ?_
| (with_reducible refine AWP.cond rfl ?_ ?_ <;> intro hc <;> (try simp only [hcs, beq_iff_eq, ge_iff_le, gt_iff_lt] at hc))
| ((first | ((first | (with_reducible first | refine zR ?_ | refine zQ (by decide +kernel) ?_ | refine zD (by decide +kernel) ?_ | refine zE (by decide +kernel) ?_ | refine zG (by decide +kernel) ?_)); intro K hK) | ((first | (with_reducible refine zu ?_ ?_ <;> intro hg) | with_reducible intro hg) <;> (first | (exfalso; simp at hg; done) | (have hg' := hg; (try simp only [hcs, beq_iff_eq, ge_iff_le, gt_iff_lt] at hg'); (try simp only [hg]))))) <;> (try simp (disch := omega) only [go_sem, wn]) <;> (repeat' with_reducible refine And.intro ?_ ?_) <;> (try (with_reducible refine hK _ ?_; clear hK K)))
| omega)
  · (refine zF rfl ?_ ?_ ?_ ?_; (iterate 3 (focus ((try simp (disch := omega) only [go_sem, wn]) <;> (try omega) <;> fail))); (try simp (disch := omega) only [go_sem, wn, I, B, S, inj, List.cons.injEq, and_true, true_and, and_self]))
    symm; rw [decide_eq_false_iff_not]; intro e; subst e; simp at hc
  have h3 := hc
  refine AWP.loopS (ι := Nat) (fun k => k ≤ a.length ∧ ∀ j, j < k → a.getD j default = b.getD j default) (fun k => a.length - k) [0, 1, 12] (fun k => [(13, I k)]) 0 ?_ (by simp (disch := omega) only [go_sem, wn, true_and]) ?_
  · exact ⟨by omega, by omega⟩
  intro k ⟨hk, hk2⟩
  simp only [go_sem]
  (repeat' first
| (with_reducible refine AR.f ?_)
| refine zb (by decide) ?_
| (with_reducible refine AWP.cond rfl ?_ ?_ <;> intro hc <;> (try simp only [hcs, beq_iff_eq, ge_iff_le, gt_iff_lt] at hc))
| ((first | ((first | (with_reducible first | refine zR ?_ | refine zQ (by decide +kernel) ?_ | refine zD (by decide +kernel) ?_ | refine zE (by decide +kernel) ?_ | refine zG (by decide +kernel) ?_)); intro K hK) | ((first | (with_reducible refine zu ?_ ?_ <;> intro hg) | with_reducible intro hg) <;> (first | (exfalso; simp at hg; done) | (have hg' := hg; (try simp only [hcs, beq_iff_eq, ge_iff_le, gt_iff_lt] at hg'); (try simp only [hg]))))) <;> (try simp (disch := omega) only [go_sem, wn, ATxn.rgetD]) <;> (repeat' with_reducible refine And.intro ?_ ?_) <;> (try (with_reducible refine hK _ ?_; clear hK K)))
| omega)
  · (refine zF rfl ?_ ?_ ?_ ?_; (iterate 3 (focus ((try simp (disch := omega) only [go_sem, wn]) <;> (try omega) <;> fail))); (try simp (disch := omega) only [go_sem, wn, I, B, S, inj, List.cons.injEq, and_true, true_and, and_self]))
    symm; rw [decide_eq_false_iff_not]; intro e; subst e; simp at hc
  · refine ⟨k + 1, ⟨by omega, fun j hj => ?_⟩, by omega, ?_⟩
    · by_cases e : j = k
      · subst e; exact hc
      · exact hk2 j (by omega)
    (refine SImp.same ?_; simp (disch := omega) only [go_sem, wn, Int.natCast_add])
  · (refine zF rfl ?_ ?_ ?_ ?_; (iterate 3 (focus ((try simp (disch := omega) only [go_sem, wn]) <;> (try omega) <;> fail))); (try simp (disch := omega) only [go_sem, wn, I, B, S, inj, List.cons.injEq, and_true, true_and, and_self]))
    symm; rw [decide_eq_true_eq]
    exact eq_of_getD (by omega) fun j hj => hk2 j (by omega)
def scanG (s : List UInt8) : Nat → Nat → List ATxn → List ATxn × Nat
  | 0, at_, l => (l, at_)
  | f + 1, at_, l => if (decT (s.drop at_)).2.2 ≠ 0 ∨ (0 < l.length ∧ (decT (s.drop at_)).1.zxid ≤ lastZ l) then (l, at_) else scanG s f (at_ + (decT (s.drop at_)).2.1.toNat) (l ++ [(decT (s.drop at_)).1])
def scanT (s : List UInt8) : List ATxn × Nat := scanG s (s.length + 1) 0 []
theorem decT_cases (s : List UInt8) : ((decT s).2.2 ≠ 0 ∧ (decT s).2.1 = 0) ∨ ((decT s).2.2 = 0 ∧ (decT s).2.1 = ((sN s + 7 : Nat) : Int) ∧ sN s + 7 ≤ s.length ∧ sN s ≤ 1024 ∧ goodT (decT s).1 = 0) := by
  by_cases h1 : noHead s
  · rw [decT_a h1]; left; simp
  by_cases h2 : noRoom s
  · rw [decT_b h1 h2]; left; simp
  by_cases h3 : noSum s
  · rw [decT_c h1 h2 h3]; left; simp
  by_cases h4 : bodyOk (sB s)
  case neg => rw [decT_d h1 h2 h3 h4]; left; simp
  by_cases h5 : goodT (bodyT (sB s)) = 0
  · rw [decT_f h1 h2 h3 h4 h5]; right
    unfold noRoom at h2
    exact ⟨rfl, rfl, by omega, by omega, h5⟩
  · rw [decT_e h1 h2 h3 h4 h5]; left; exact ⟨h5, rfl⟩
theorem scanG_stop {s : List UInt8} {f at_ : Nat} {l : List ATxn} (h : (decT (s.drop at_)).2.2 ≠ 0 ∨ (0 < l.length ∧ (decT (s.drop at_)).1.zxid ≤ lastZ l)) : scanG s f at_ l = (l, at_) := by
  cases f with
  | zero => rfl
  | succ f => rw [scanG, if_pos h]
theorem scanG_end {s : List UInt8} {f at_ : Nat} {l : List ATxn} (h : s.length ≤ at_) : scanG s f at_ l = (l, at_) :=
  scanG_stop (.inl (by rw [decT_a (.inl (by rw [List.length_drop]; omega))]; decide))
theorem scanG_next {s : List UInt8} {f at_ n : Nat} {l : List ATxn} (h1 : (decT (s.drop at_)).2.2 = 0) (h2 : ¬ (0 < l.length ∧ (decT (s.drop at_)).1.zxid ≤ lastZ l)) (hn : (decT (s.drop at_)).2.1 = (n : Int)) : scanG s (f + 1) at_ l = scanG s f (at_ + n) (l ++ [(decT (s.drop at_)).1]) := by
  rw [scanG, if_neg (by rintro (h | h); exact h h1; exact h2 h), hn]; rfl
theorem scan_c (s : List UInt8) (hs : s.length ≤ 1048576) : acall Tryz.prog [] 78 [S s] (ret (.tup [.d (.sl 7 ((scanT s).1.map ATxn.row)), I (scanT s).2])) := by
  refine zi tabOk Tryz.func78 rfl (by kernel_rfl) (by simp [Tryz.ntmps78]) ?_; simp only [Tryz.ntmps78, Tryz.results78, List.toList_toArray, apar, List.length_nil, List.length_cons, Nat.reduceAdd]
  (repeat' first
| (with_reducible refine AR.f ?_)
| refine zb (by decide) ?_
| (with_reducible refine AWP.cond rfl ?_ ?_ <;> intro hc <;> (try simp only [hcs, beq_iff_eq, ge_iff_le, gt_iff_lt] at hc))
| ((first | ((first | (with_reducible first | refine zR ?_ | refine zQ (by decide +kernel) ?_ | refine zD (by decide +kernel) ?_ | refine zE (by decide +kernel) ?_ | refine zG (by decide +kernel) ?_)); intro K hK) | ((first | (with_reducible refine zu ?_ ?_ <;> intro hg) | with_reducible intro hg) <;> (first | (exfalso; simp at hg; done) | (have hg' := hg; (try simp only [hcs, beq_iff_eq, ge_iff_le, gt_iff_lt] at hg'); (try simp only [hg]))))) <;> (try simp (disch := omega) only [go_sem, wn]) <;> (repeat' with_reducible refine And.intro ?_ ?_) <;> (try (with_reducible refine hK _ ?_; clear hK K)))
| omega)
  refine AWP.weaken (SImp.nilOwn 4 7 rfl) ?_
  simp only [go_sem]
  refine AWP.loopB (ι := Nat × Nat × List ATxn) (fun v => v.2.1 ≤ s.length ∧ s.length < v.2.1 + v.1 ∧ v.2.2.length ≤ v.2.1 ∧ scanG s v.1 v.2.1 v.2.2 = scanT s) (fun v => v.1) [0] (fun v => [(5, I v.2.1), (4, .osl 0 7 0 v.2.2.length)]) (fun v => [.rows 7 (v.2.2.map ATxn.row)]) (s.length + 1, 0, []) ?_ ?_ ?_
  · exact ⟨by simp, by simp, by simp, rfl⟩
  · simp only [go_sem]; (refine SImp.same ?_; simp (disch := omega) only [go_sem, wn, Int.natCast_add])
  intro ⟨f, k, l⟩ ⟨h1, h2, h3, h4⟩
  simp only at h1 h2 h3 h4
  simp only [go_sem]
  have ed : List.take (s.length - k) (List.drop k s) = List.drop k s := List.take_of_length_le (by rw [List.length_drop]; omega)
  (repeat' first
| (with_reducible refine AR.f ?_)
| refine zb (by decide) ?_
| (with_reducible refine AWP.cond rfl ?_ ?_ <;> intro hc <;> (try simp only [hcs, beq_iff_eq, ge_iff_le, gt_iff_lt] at hc))
| ((first | ((first | (with_reducible first | refine zR ?_ | refine zQ (by decide +kernel) ?_ | refine zD (by decide +kernel) ?_ | refine zE (by decide +kernel) ?_ | refine zG (by decide +kernel) ?_)); intro K hK) | ((first | refine zA (decode_c (s.drop k) (by rw [List.length_drop]; omega)) ?_ ?_ ?_ ?_ ?_ | refine zA (last_c l (by omega)) ?_ ?_ ?_ ?_ ?_); (focus exact rfl); (focus exact rfl); iterate 2 (focus ((try simp (disch := omega) only [go_sem, wn, ed, zl, ATxn.rsnoc]) <;> (try omega) <;> fail))) | ((first | refine zN (decode_c (s.drop k) (by rw [List.length_drop]; omega)) rfl ?_ ?_ | refine zN (last_c l (by omega)) rfl ?_ ?_); (focus ((try simp (disch := omega) only [go_sem, wn, ed, zl, ATxn.rsnoc]) <;> (try omega) <;> fail))) | (first | ((first | refine zX (decode_c (s.drop k) (by rw [List.length_drop]; omega)) rfl ?_ ?_ | refine zy (decode_c (s.drop k) (by rw [List.length_drop]; omega)) ?_ ?_); (focus ((try simp (disch := omega) only [go_sem, wn, ed, zl, ATxn.rsnoc]) <;> (try omega) <;> fail))) | ((first | refine zX (last_c l (by omega)) rfl ?_ ?_ | refine zy (last_c l (by omega)) ?_ ?_); (focus ((try simp (disch := omega) only [go_sem, wn, ed, zl, ATxn.rsnoc]) <;> (try omega) <;> fail)))) | ((first | (with_reducible refine zu ?_ ?_ <;> intro hg) | with_reducible intro hg) <;> (first | (exfalso; simp at hg; done) | (have hg' := hg; (try simp only [hcs, beq_iff_eq, ge_iff_le, gt_iff_lt] at hg'); (try simp only [hg]))))) <;> (try simp (disch := omega) only [go_sem, wn, ed, zl, ATxn.rsnoc]) <;> (repeat' with_reducible refine And.intro ?_ ?_) <;> (try (with_reducible refine hK _ ?_; clear hK K)))
| omega)
  · rw [← h4, scanG_stop (hc.imp id fun h => ⟨by omega, h.2⟩)]; (refine zF rfl ?_ ?_ ?_ ?_; (iterate 3 (focus ((try simp (disch := omega) only [go_sem, wn]) <;> (try omega) <;> fail))); (try simp (disch := omega) only [go_sem, wn, I, B, S, inj, List.cons.injEq, and_true, true_and, and_self]))
  · rcases decT_cases (s.drop k) with ⟨q, _⟩ | ⟨q1, q2, q3, q4, _⟩
    · exact absurd hc.1 q
    rw [List.length_drop] at q3
    have q5 := scanG_next (s := s) (f := f - 1) (at_ := k) (n := sN (s.drop k) + 7) (l := l) q1 (fun h => by omega) q2
    rw [show f - 1 + 1 = f from by omega] at q5
    refine ⟨(f - 1, k + (sN (s.drop k) + 7), l ++ [(decT (s.drop k)).1]), ⟨by simp only; omega, by simp only; omega, by simp; omega, q5.symm.trans h4⟩, by simp only; omega, ?_⟩
    (refine SImp.frame [3] rfl (by intro k hk; first | (simp at hk <;> (simp; omega)) | (simp only [List.mem_cons, List.not_mem_nil, or_false] at hk; simp only [List.length_cons, List.length_nil]; omega)) (by decide) (fun k hk => by first | omega | (rcases k with _ | _ | _ | _ | _ | _ | _ | _ | k <;> first | rfl | omega)) ?_ ?_ <;> simp (disch := omega) only [go_sem, wn, Int.natCast_add, q2, List.length_append, ATxn.rsnoc] <;> (try rfl))
  · have hx : (decT (s.drop k)).2.2 ≠ 0 ∨ (0 < l.length ∧ (decT (s.drop k)).1.zxid ≤ lastZ l) := by
      by_cases e : (decT (s.drop k)).2.2 = 0
      · rcases hc with h | h
        · exact .inl h
        · rw [e] at hg; simp at hg; omega
      · exact .inl e
    rw [← h4, scanG_stop hx]; (refine zF rfl ?_ ?_ ?_ ?_; (iterate 3 (focus ((try simp (disch := omega) only [go_sem, wn]) <;> (try omega) <;> fail))); (try simp (disch := omega) only [go_sem, wn, I, B, S, inj, List.cons.injEq, and_true, true_and, and_self]))
  · rcases decT_cases (s.drop k) with ⟨q, _⟩ | ⟨q1, q2, q3, q4, _⟩
    · exact absurd hc.1 q
    have hl0 : l.length = 0 := by rw [q1] at hg; simp at hg; rw [hg]; rfl
    rw [List.length_drop] at q3
    have q5 := scanG_next (s := s) (f := f - 1) (at_ := k) (n := sN (s.drop k) + 7) (l := l) q1 (fun h => by omega) q2
    rw [show f - 1 + 1 = f from by omega] at q5
    refine ⟨(f - 1, k + (sN (s.drop k) + 7), l ++ [(decT (s.drop k)).1]), ⟨by simp only; omega, by simp only; omega, by simp; omega, q5.symm.trans h4⟩, by simp only; omega, ?_⟩
    (refine SImp.frame [3] rfl (by intro k hk; first | (simp at hk <;> (simp; omega)) | (simp only [List.mem_cons, List.not_mem_nil, or_false] at hk; simp only [List.length_cons, List.length_nil]; omega)) (by decide) (fun k hk => by first | omega | (rcases k with _ | _ | _ | _ | _ | _ | _ | _ | k <;> first | rfl | omega)) ?_ ?_ <;> simp (disch := omega) only [go_sem, wn, Int.natCast_add, q2, List.length_append, ATxn.rsnoc] <;> (try rfl))
  · rw [← h4, scanG_end (by omega)]; (refine zF rfl ?_ ?_ ?_ ?_; (iterate 3 (focus ((try simp (disch := omega) only [go_sem, wn]) <;> (try omega) <;> fail))); (try simp (disch := omega) only [go_sem, wn, I, B, S, inj, List.cons.injEq, and_true, true_and, and_self]))
  all_goals trace_state
def t1 : ATxn := ⟨1, 1, 1, [], [], 0, 0⟩
end Go.Proofs.YtmpfhalheaeibaaGreatDoor
namespace Go.Proofs.YtmpfhalheaeibaaGreatDoor
set_option linter.unusedVariables false
set_option linter.unusedSimpArgs false
open Go Go.RowKit
set_option maxRecDepth 100000
set_option linter.unusedSimpArgs false
theorem halfw (i j : Nat) (h : i + j < 9223372036854775808) : IntKind.i64.wrap (IntKind.u64.wrap ((i : Int) + j) / 2) = (((i + j) / 2 : Nat) : Int) := by
  have e : IntKind.u64.wrap ((i : Int) + j) = ((i + j : Nat) : Int) := by simp [IntKind.wrap, IntKind.bits, IntKind.signed]; omega
  rw [e]
  have e2 : (((i + j : Nat) : Int) / 2) = (((i + j) / 2 : Nat) : Int) := by omega
  rw [e2]; simp [IntKind.wrap, IntKind.bits, IntKind.signed]; omega
theorem diskCmp_c (f : AFile) (n : List UInt8) : acall Tryz.prog [] 108 [f.av, S n] (ret (I (cmpB f.name n))) := by
  refine zi tabOk Tryz.func108 rfl (by kernel_rfl) (by simp [Tryz.ntmps108]) ?_; simp only [Tryz.ntmps108, Tryz.results108, List.toList_toArray, apar, List.length_nil, List.length_cons, Nat.reduceAdd]
  (repeat' first
| (with_reducible refine AR.f ?_)
| refine zb (by decide) ?_
| (with_reducible refine AWP.cond rfl ?_ ?_ <;> intro hc <;> (try simp only [hcs, beq_iff_eq, ge_iff_le, gt_iff_lt] at hc))
| ((first | ((first | (with_reducible first | refine zR ?_ | refine zQ (by decide +kernel) ?_ | refine zD (by decide +kernel) ?_ | refine zE (by decide +kernel) ?_ | refine zG (by decide +kernel) ?_)); intro K hK) | ((first | refine acallH_sc (compare_c _ _) rfl rfl ?_ ?_ ?_ | refine acallQ_sc (compare_c _ _) rfl rfl ?_ ?_ ?_); iterate 2 (focus ((try simp (disch := omega) only [go_sem, wn]) <;> (try omega) <;> fail))) | ((first | refine zN (compare_c _ _) rfl ?_ ?_); (focus ((try simp (disch := omega) only [go_sem, wn]) <;> (try omega) <;> fail))) | (first | ((first | refine zX (compare_c _ _) rfl ?_ ?_ | refine zy (compare_c _ _) ?_ ?_); (focus ((try simp (disch := omega) only [go_sem, wn]) <;> (try omega) <;> fail)))) | ((first | (with_reducible refine zu ?_ ?_ <;> intro hg) | with_reducible intro hg) <;> (first | (exfalso; simp at hg; done) | (have hg' := hg; (try simp only [hcs, beq_iff_eq, ge_iff_le, gt_iff_lt] at hg'); (try simp only [hg]))))) <;> (try simp (disch := omega) only [go_sem, wn]) <;> (repeat' with_reducible refine And.intro ?_ ?_) <;> (try (with_reducible refine hK _ ?_; clear hK K)))
| omega)
  (refine zF rfl ?_ ?_ ?_ ?_; (iterate 3 (focus ((try simp (disch := omega) only [go_sem, wn, cmpB]) <;> (try omega) <;> fail))); (try simp (disch := omega) only [go_sem, wn, cmpB, I, B, S, inj, List.cons.injEq, and_true, true_and, and_self]))
theorem bsFile_c (l : List AFile) (key : List UInt8) (h : l.length * 48 ≤ 140737488351232) (hr : Rises (l.map AFile.name)) :
    acall Tryz.prog [] 107 [.d (.sl 3 (l.map AFile.row)), S key, .d (.sc (.func (.func 108) #[] #[]))]
      (ret (.tup [I (place (l.map AFile.name) key), B (decide (key ∈ l.map AFile.name))])) := by
  have hn : ∀ k, (l.map AFile.name).getD k [] = (l.getD k default).name := fun k => getD_map AFile.name l k default
  refine zi tabOk Tryz.func107 rfl (by kernel_rfl) (by simp [Tryz.ntmps107]) ?_; simp only [Tryz.ntmps107, Tryz.results107, List.toList_toArray, apar, List.length_nil, List.length_cons, Nat.reduceAdd]
  (repeat' first
| (with_reducible refine AR.f ?_)
| refine zb (by decide) ?_
| (with_reducible refine AWP.cond rfl ?_ ?_ <;> intro hc <;> (try simp only [hcs, beq_iff_eq, ge_iff_le, gt_iff_lt] at hc))
| ((first | ((first | (with_reducible first | refine zR ?_ | refine zQ (by decide +kernel) ?_ | refine zD (by decide +kernel) ?_ | refine zE (by decide +kernel) ?_ | refine zG (by decide +kernel) ?_)); intro K hK) | ((first | (with_reducible refine zu ?_ ?_ <;> intro hg) | with_reducible intro hg) <;> (first | (exfalso; simp at hg; done) | (have hg' := hg; (try simp only [hcs, beq_iff_eq, ge_iff_le, gt_iff_lt] at hg'); (try simp only [hg]))))) <;> (try simp (disch := omega) only [go_sem, wn]) <;> (repeat' with_reducible refine And.intro ?_ ?_) <;> (try (with_reducible refine hK _ ?_; clear hK K)))
| omega)
  refine AWP.loopS (ι := Nat × Nat) (fun v => v.1 ≤ v.2 ∧ v.2 ≤ l.length ∧ (∀ k, k < v.1 → (l.map AFile.name).getD k [] < key) ∧ (v.2 < l.length → ¬ (l.map AFile.name).getD v.2 [] < key)) (fun v => v.2 - v.1) [0, 1, 2, 8] (fun v => [(9, I v.1), (10, I v.2)]) (0, l.length) ?_ (by simp (disch := omega) only [go_sem, wn, true_and]) ?_
  · exact ⟨by simp, by simp, fun k hk => by simp at hk, fun k => by simp at k⟩
  intro ⟨i, j⟩ ⟨h1, h2, h3, h4⟩
  simp only at h1 h2 h3 h4
  simp only [go_sem]
  (repeat' first
| (with_reducible refine AR.f ?_)
| refine zb (by decide) ?_
| (with_reducible refine AWP.cond rfl ?_ ?_ <;> intro hc <;> (try simp only [hcs, beq_iff_eq, ge_iff_le, gt_iff_lt] at hc))
| ((first | ((first | (with_reducible first | refine zR ?_ | refine zQ (by decide +kernel) ?_ | refine zD (by decide +kernel) ?_ | refine zE (by decide +kernel) ?_ | refine zG (by decide +kernel) ?_)); intro K hK) | ((first | refine acallH_sc (diskCmp_c _ _) rfl rfl ?_ ?_ ?_ | refine acallQ_sc (diskCmp_c _ _) rfl rfl ?_ ?_ ?_); iterate 2 (focus ((try simp (disch := omega) only [go_sem, wn, halfw]) <;> (try omega) <;> fail))) | ((first | refine zN (diskCmp_c _ _) rfl ?_ ?_); (focus ((try simp (disch := omega) only [go_sem, wn, halfw]) <;> (try omega) <;> fail))) | (first | ((first | refine zX (diskCmp_c _ _) rfl ?_ ?_ | refine zy (diskCmp_c _ _) ?_ ?_); (focus ((try simp (disch := omega) only [go_sem, wn, halfw]) <;> (try omega) <;> fail)))) | ((first | (with_reducible refine zu ?_ ?_ <;> intro hg) | with_reducible intro hg) <;> (first | (exfalso; simp at hg; done) | (have hg' := hg; (try simp only [hcs, beq_iff_eq, ge_iff_le, gt_iff_lt] at hg'); (try simp only [hg]))))) <;> (try simp (disch := omega) only [go_sem, wn, halfw]) <;> (repeat' with_reducible refine And.intro ?_ ?_) <;> (try (with_reducible refine hK _ ?_; clear hK K)))
| omega)
  · rw [cmpB_neg] at hc
    refine ⟨((i + j) / 2 + 1, j), ⟨by simp only; omega, h2, fun k hk => ?_, h4⟩, by simp only; omega, ?_⟩
    · by_cases e : k = (i + j) / 2
      · rw [e, hn]; exact hc
      · refine List.lt_trans (rises_lt (j := (i + j) / 2) hr (by simp only at hk; omega) (by simp; omega)) ?_
        rw [hn]; exact hc
    (refine SImp.same ?_; simp (disch := omega) only [go_sem, wn, Int.natCast_add])
  · have hc2 : ¬ cmpB (l.getD ((i + j) / 2) default).name key < 0 := by omega
    rw [cmpB_neg, ← hn] at hc2
    refine ⟨(i, (i + j) / 2), ⟨by simp only; omega, by simp only; omega, h3, fun _ => hc2⟩, by simp only; omega, ?_⟩
    (refine SImp.same ?_; simp (disch := omega) only [go_sem, wn, Int.natCast_add])
  · have e0 : i = j := by omega
    subst e0
    have e1 : place (l.map AFile.name) key = i := place_eq (by simp; omega) h3 (fun h => h4 (by simpa using h))
    have e2 : key ∈ l.map AFile.name ↔ i < (l.map AFile.name).length ∧ (l.map AFile.name).getD i [] = key := found_iff hr h3 (fun h => h4 (by simpa using h))
    (refine zF rfl ?_ ?_ ?_ ?_; (iterate 3 (focus ((try simp (disch := omega) only [go_sem, wn, e1]) <;> (try omega) <;> fail))); (try simp (disch := omega) only [go_sem, wn, e1, I, B, S, inj, List.cons.injEq, and_true, true_and, and_self]))
    simp only [cmpB_eq, e2, hn, List.length_map]
    simp at hg; simp [hg]
  · have e0 : i = j := by omega
    subst e0
    have e1 : place (l.map AFile.name) key = i := place_eq (by simp; omega) h3 (fun h => h4 (by simpa using h))
    have e2 : key ∈ l.map AFile.name ↔ i < (l.map AFile.name).length ∧ (l.map AFile.name).getD i [] = key := found_iff hr h3 (fun h => h4 (by simpa using h))
    (refine zF rfl ?_ ?_ ?_ ?_; (iterate 3 (focus ((try simp (disch := omega) only [go_sem, wn, e1]) <;> (try omega) <;> fail))); (try simp (disch := omega) only [go_sem, wn, e1, I, B, S, inj, List.cons.injEq, and_true, true_and, and_self]))
    simp only [e2, List.length_map]
    simp at hg; simp; omega
theorem treeCmp_c (f : ANode) (n : List UInt8) : acall Tryz.prog [] 65 [f.av, S n] (ret (I (cmpB f.path n))) := by
  refine zi tabOk Tryz.func65 rfl (by kernel_rfl) (by simp [Tryz.ntmps65]) ?_; simp only [Tryz.ntmps65, Tryz.results65, List.toList_toArray, apar, List.length_nil, List.length_cons, Nat.reduceAdd]
  (repeat' first
| (with_reducible refine AR.f ?_)
| refine zb (by decide) ?_
| (with_reducible refine AWP.cond rfl ?_ ?_ <;> intro hc <;> (try simp only [hcs, beq_iff_eq, ge_iff_le, gt_iff_lt] at hc))
| ((first | ((first | (with_reducible first | refine zR ?_ | refine zQ (by decide +kernel) ?_ | refine zD (by decide +kernel) ?_ | refine zE (by decide +kernel) ?_ | refine zG (by decide +kernel) ?_)); intro K hK) | ((first | refine acallH_sc (compare_c _ _) rfl rfl ?_ ?_ ?_ | refine acallQ_sc (compare_c _ _) rfl rfl ?_ ?_ ?_); iterate 2 (focus ((try simp (disch := omega) only [go_sem, wn]) <;> (try omega) <;> fail))) | ((first | refine zN (compare_c _ _) rfl ?_ ?_); (focus ((try simp (disch := omega) only [go_sem, wn]) <;> (try omega) <;> fail))) | (first | ((first | refine zX (compare_c _ _) rfl ?_ ?_ | refine zy (compare_c _ _) ?_ ?_); (focus ((try simp (disch := omega) only [go_sem, wn]) <;> (try omega) <;> fail)))) | ((first | (with_reducible refine zu ?_ ?_ <;> intro hg) | with_reducible intro hg) <;> (first | (exfalso; simp at hg; done) | (have hg' := hg; (try simp only [hcs, beq_iff_eq, ge_iff_le, gt_iff_lt] at hg'); (try simp only [hg]))))) <;> (try simp (disch := omega) only [go_sem, wn]) <;> (repeat' with_reducible refine And.intro ?_ ?_) <;> (try (with_reducible refine hK _ ?_; clear hK K)))
| omega)
  (refine zF rfl ?_ ?_ ?_ ?_; (iterate 3 (focus ((try simp (disch := omega) only [go_sem, wn, cmpB]) <;> (try omega) <;> fail))); (try simp (disch := omega) only [go_sem, wn, cmpB, I, B, S, inj, List.cons.injEq, and_true, true_and, and_self]))
end Go.Proofs.YtmpfhalheaeibaaGreatDoor
