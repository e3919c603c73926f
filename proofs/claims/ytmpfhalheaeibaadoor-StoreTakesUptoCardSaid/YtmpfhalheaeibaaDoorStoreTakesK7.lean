/- A part of what StoreTakes leans on: texts of this claim, one behind the other. No condition. -/
import Derived.Laws.BitsAllLaws
import Derived.Laws.BitsLemmas
import Derived.IntWalk
import Derived.Test.YtmpfhalheaeibaaDoorStoreTakesK6
namespace Go.Proofs.YtmpfhalheaeibaaDoor
set_option linter.unusedVariables false
set_option linter.unusedSimpArgs false
open Go Go.RowKit
set_option maxRecDepth 100000
set_option linter.unusedSimpArgs false
theorem splitB_len (r : List UInt8) : 0 < (splitB r).length := by
  have := splitB_ne r
  exact List.length_pos_iff.2 this
theorem splitB_snoc (a : List UInt8) (c : UInt8) : splitB (a ++ [c]) = if c = 47 then splitB a ++ [[]] else (splitB a).set ((splitB a).length - 1) ((splitB a).getD ((splitB a).length - 1) [] ++ [c]) := by
  induction a with
  | nil => by_cases h : c = 47 <;> simp [splitB, h]
  | cons x a ih =>
    have hl := splitB_len a
    by_cases hx : x = 47
    · have e : splitB (x :: a ++ [c]) = [] :: splitB (a ++ [c]) := by simp [splitB, hx]
      have e2 : splitB (x :: a) = [] :: splitB a := by simp [splitB, hx]
      rw [e, e2, ih]
      by_cases h : c = 47
      · simp [h]
      · rw [if_neg h, if_neg h]
        obtain ⟨n, hn⟩ : ∃ n, (splitB a).length = n + 1 := ⟨_, (Nat.succ_pred_eq_of_pos hl).symm⟩
        simp [hn]
    · cases hp : splitB a with
      | nil => exact absurd hp (splitB_ne a)
      | cons p ps =>
        have e2 : splitB (x :: a) = (x :: p) :: ps := by simp [splitB, hx, hp]
        rw [hp] at ih
        have e : ∀ q qs, splitB (a ++ [c]) = q :: qs → splitB (x :: a ++ [c]) = (x :: q) :: qs := fun q qs hq => by
          show splitB (x :: (a ++ [c])) = _
          rw [splitB, if_neg hx, hq]
        by_cases h : c = 47
        · rw [if_pos h] at ih ⊢
          rw [e _ _ ih, e2]; rfl
        · rw [if_neg h] at ih ⊢
          cases ps with
          | nil => rw [e _ _ ih, e2]; rfl
          | cons q qs =>
            have ih2 : splitB (a ++ [c]) = p :: (q :: qs).set qs.length ((q :: qs).getD qs.length [] ++ [c]) := by rw [ih]; rfl
            rw [e _ _ ih2, e2]; rfl
theorem splitB_take (s : List UInt8) (k : Nat) (h : k < s.length) : splitB (s.take (k + 1)) = if s.getD k 0 = 47 then splitB (s.take k) ++ [[]] else (splitB (s.take k)).set ((splitB (s.take k)).length - 1) ((splitB (s.take k)).getD ((splitB (s.take k)).length - 1) [] ++ [s.getD k 0]) := by
  have : s.take (k + 1) = s.take k ++ [s.getD k 0] := take_snoc s k h
  rw [this, splitB_snoc]
theorem splitB_le (s : List UInt8) : (splitB s).length ≤ s.length + 1 := by
  induction s with
  | nil => simp [splitB]
  | cons c s ih =>
    unfold splitB
    split
    · simp; omega
    · split
      · rename_i e; rw [e] at ih; simp at ih ⊢; omega
      · simp
theorem splitB_nil : splitB [] = [[]] := rfl
theorem piece_le (s : List UInt8) : ∀ p, p ∈ splitB s → p.length ≤ s.length := by
  induction s with
  | nil => intro p hp; simp [splitB] at hp; simp [hp]
  | cons c s ih =>
    intro p hp
    unfold splitB at hp
    split at hp
    · rcases List.mem_cons.1 hp with rfl | hp
      · simp
      · have := ih p hp; simp; omega
    · split at hp
      · rename_i q qs e
        rcases List.mem_cons.1 hp with rfl | hp
        · have := ih q (by rw [e]; simp); simp; omega
        · have := ih p (by rw [e]; simp [hp]); simp; omega
      · simp at hp; subst hp; simp
theorem toNat_pr2 (n : Nat) : ((n : Int) - 1).toNat = n - 1 := by omega
theorem srow_rgetD (l : List (List UInt8)) (i : Nat) (z : List DV) (h : i < l.length) : (l.map srow).getD i z = srow (l.getD i []) := getD_row srow l i z h
theorem srow_rset (l : List (List UInt8)) (i : Nat) (x : List UInt8) : (l.map srow).set i [.str x] = (l.set i x).map srow := by rw [List.map_set]; rfl
theorem srow_rsnoc (l : List (List UInt8)) (x : List UInt8) : l.map srow ++ [[.str x]] = (l ++ [x]).map srow := by rw [List.map_append]; rfl
theorem okU8_one (b : UInt8) : okU8s [[.int .u8 (b.toNat : Int)]] = True := eq_true (okU8s_rows [b])
theorem u8_47 {b : UInt8} (h : (b.toNat : Int) = 47) : b = 47 := by
  have h2 : b.toNat = (47 : UInt8).toNat := by have : (47 : UInt8).toNat = 47 := rfl; omega
  exact UInt8.toNat_inj.1 h2
theorem take_drop_map (l : List (List UInt8)) : List.take (l.length - 1) (List.drop 1 (l.map srow)) = (l.drop 1).map srow := by
  rw [← List.map_drop]; exact List.take_of_length_le (by simp)
theorem steps_c (s : List UInt8) (h : s.length ≤ 1048576) : acall Tryd.prog [] 138 [S s] (ret (.d (.sl 1 ((splitB s).map srow)))) := by
  refine acall_of tabOk Tryd.func138 rfl (by kernel_rfl) (by simp [Tryd.ntmps138]) ?_; simp only [Tryd.ntmps138, Tryd.results138, List.toList_toArray, apar, List.length_nil, List.length_cons, Nat.reduceAdd]
  (repeat' first
| (with_reducible refine AR.f ?_)
| refine blkA_x (by decide) ?_
| (with_reducible refine AWP.cond rfl ?_ ?_ <;> intro hc <;> (try simp only [hcs, beq_iff_eq, ge_iff_le, gt_iff_lt] at hc))
| ((first | ((first | (with_reducible first | refine zR ?_ | refine zQ (by decide +kernel) ?_ | refine zD (by decide +kernel) ?_ | refine zE (by decide +kernel) ?_ | refine zG (by decide +kernel) ?_)); intro K hK) | ((first | (with_reducible refine aunder_i ?_ ?_ <;> intro hg) | with_reducible intro hg) <;> (first | (exfalso; simp at hg; done) | (have hg' := hg; (try simp only [hcs, beq_iff_eq, ge_iff_le, gt_iff_lt] at hg'); (try simp only [hg]))))) <;> (try simp (disch := omega) only [go_sem, wrap_n]) <;> (repeat' with_reducible refine And.intro ?_ ?_) <;> (try (with_reducible refine hK _ ?_; clear hK K)))
| omega)
  refine AWP.loopB (ι := Nat) (fun k => k ≤ s.length) (fun k => s.length - k) [8, 9] (fun k => [(10, I k), (3, .osl 0 1 0 (splitB (s.take k)).length)]) (fun k => [.rows 1 ((splitB (s.take k)).map srow), .bytes s]) 0 ?_ ?_ ?_
  · omega
  · simp only [go_sem, splitB_nil, srow]; (refine SImp.same ?_; simp (disch := omega) only [go_sem, wrap_n, Int.natCast_add, splitB_nil])
  intro k hk
  have hl := splitB_len (s.take k)
  have hle := splitB_le (s.take k)
  have htl : (s.take k).length = k := by simp; omega
  have hpl : ((splitB (s.take k)).getD ((splitB (s.take k)).length - 1) []).length ≤ k := by
    have := piece_le (s.take k) _ (mem_getD (splitB (s.take k)) [] (k := (splitB (s.take k)).length - 1) (by omega))
    omega
  simp only [go_sem]
  (repeat' first
| (with_reducible refine AR.f ?_)
| refine blkA_x (by decide) ?_
| (with_reducible refine AWP.cond rfl ?_ ?_ <;> intro hc <;> (try simp only [hcs, beq_iff_eq, ge_iff_le, gt_iff_lt] at hc))
| ((first | ((first | refine zP (Plan.takes [0, 1, 2, 3, 4, 6] (.fork 5 (Plan.takes [7, 8, 9, 10, 11] .done) 7 (.fork 5 (Plan.takes [8, 9, 10, 11] .done) 8 (Plan.takes [5, 9, 10, 11] .done)))) (by decide +kernel) ?_ | (with_reducible first | refine zR ?_ | refine zQ (by decide +kernel) ?_ | refine zD (by decide +kernel) ?_ | refine zE (by decide +kernel) ?_ | refine zG (by decide +kernel) ?_)); intro K hK) | ((first | (with_reducible refine aunder_i ?_ ?_ <;> intro hg) | with_reducible intro hg) <;> (first | (exfalso; simp at hg; done) | (have hg' := hg; (try simp only [hcs, beq_iff_eq, ge_iff_le, gt_iff_lt] at hg'); (try simp only [hg]))))) <;> (try simp (disch := omega) only [go_sem, wrap_n, u8g, srow_rgetD, srow, srow_rset, srow_rsnoc, toNat_pr2, okU8_one, UInt8.ofNat_toNat]) <;> (repeat' with_reducible refine And.intro ?_ ?_) <;> (try (with_reducible refine hK _ ?_; clear hK K)))
| omega)
  · refine ⟨k + 1, by omega, by omega, ?_⟩
    rw [splitB_take _ _ (by assumption), if_pos (u8_47 hc)]
    (refine SImp.frame [3, 1] rfl (by intro k hk; first | (simp at hk <;> (simp; omega)) | (simp only [List.mem_cons, List.not_mem_nil, or_false] at hk; simp only [List.length_cons, List.length_nil]; omega)) (by decide) (fun k hk => by first | omega | (rcases k with _ | _ | _ | _ | _ | _ | _ | _ | k <;> first | rfl | omega)) ?_ ?_ <;> simp (disch := omega) only [go_sem, wrap_n, Int.natCast_add, List.length_append] <;> (try rfl))
  iterate 3
    · refine ⟨k + 1, by omega, by omega, ?_⟩
      rw [splitB_take _ _ (by assumption), if_neg (fun e => hc (by rw [e]; rfl))]
      (refine SImp.frame [0, 1] rfl (by intro k hk; first | (simp at hk <;> (simp; omega)) | (simp only [List.mem_cons, List.not_mem_nil, or_false] at hk; simp only [List.length_cons, List.length_nil]; omega)) (by decide) (fun k hk => by first | omega | (rcases k with _ | _ | _ | _ | _ | _ | _ | _ | k <;> first | rfl | omega)) ?_ ?_ <;> simp (disch := omega) only [go_sem, wrap_n, Int.natCast_add, List.length_set] <;> (try rfl))
  · have e : k = s.length := by omega
    subst e
    simp only [List.take_length]
    (refine zF rfl ?_ ?_ ?_ ?_; (iterate 3 (focus ((try simp (disch := omega) only [go_sem, wrap_n]) <;> (try omega) <;> fail))); (try simp (disch := omega) only [go_sem, wrap_n, I, B, S, inj, List.cons.injEq, and_true, true_and, and_self]))
def goodL (s : List UInt8) : Bool := decide (s = [47]) || (decide (s.length ≤ 200) && (decide ((splitB s).getD 0 [] = []) && (decide (2 ≤ (splitB s).length) && ((splitB s).drop 1).all namedP)))
theorem goodL_eq (s : List UInt8) : goodL s = goodP s := by
  unfold goodL goodP
  congr 2
  cases s with
  | nil => simp [splitB]
  | cons c r =>
    by_cases h : c = 47
    · subst h
      have := splitB_len r
      simp [splitB, allNamed]
      intro _; omega
    · have hn : ∃ p ps, splitB (c :: r) = (c :: p) :: ps := by
        cases hp : splitB r with
        | nil => exact absurd hp (splitB_ne r)
        | cons p ps => exact ⟨p, ps, by simp [splitB, h, hp]⟩
      obtain ⟨p, ps, e⟩ := hn
      rw [e]
      simp [h]
theorem ref_good_c (s : List UInt8) (h : s.length ≤ 1048576) : acall Tryd.prog [] 87 [S s] (ret (B (goodP s))) := by
  rw [← goodL_eq]
  have hl := splitB_len s
  refine acall_of tabOk Tryd.func87 rfl (by kernel_rfl) (by simp [Tryd.ntmps87]) ?_; simp only [Tryd.ntmps87, Tryd.results87, List.toList_toArray, apar, List.length_nil, List.length_cons, Nat.reduceAdd]
  (repeat' first
| (with_reducible refine AR.f ?_)
| refine blkA_x (by decide) ?_
| (with_reducible refine AWP.cond rfl ?_ ?_ <;> intro hc <;> (try simp only [hcs, beq_iff_eq, ge_iff_le, gt_iff_lt] at hc))
| ((first | ((first | (with_reducible first | refine zR ?_ | refine zQ (by decide +kernel) ?_ | refine zD (by decide +kernel) ?_ | refine zE (by decide +kernel) ?_ | refine zG (by decide +kernel) ?_)); intro K hK) | ((first | refine zA (steps_c s h) ?_ ?_ ?_ ?_ ?_); (focus exact rfl); (focus exact rfl); iterate 2 (focus ((try simp (disch := omega) only [go_sem, wrap_n, srow_rgetD, srow, take_drop_map, Nat.min_self]) <;> (try omega) <;> fail))) | ((first | refine zN (steps_c s h) rfl ?_ ?_); (focus ((try simp (disch := omega) only [go_sem, wrap_n, srow_rgetD, srow, take_drop_map, Nat.min_self]) <;> (try omega) <;> fail))) | (first | ((first | refine zX (steps_c s h) rfl ?_ ?_ | refine acallH_anyx (steps_c s h) ?_ ?_); (focus ((try simp (disch := omega) only [go_sem, wrap_n, srow_rgetD, srow, take_drop_map, Nat.min_self]) <;> (try omega) <;> fail)))) | ((first | (with_reducible refine aunder_i ?_ ?_ <;> intro hg) | with_reducible intro hg) <;> (first | (exfalso; simp at hg; done) | (have hg' := hg; (try simp only [hcs, beq_iff_eq, ge_iff_le, gt_iff_lt] at hg'); (try simp only [hg]))))) <;> (try simp (disch := omega) only [go_sem, wrap_n, srow_rgetD, srow, take_drop_map, Nat.min_self]) <;> (repeat' with_reducible refine And.intro ?_ ?_) <;> (try (with_reducible refine hK _ ?_; clear hK K)))
| omega)
  · (refine zF rfl ?_ ?_ ?_ ?_; (iterate 3 (focus ((try simp (disch := omega) only [go_sem, wrap_n]) <;> (try omega) <;> fail))); (try simp (disch := omega) only [go_sem, wrap_n, I, B, S, inj, List.cons.injEq, and_true, true_and, and_self]))
    unfold goodL; rw [decide_eq_true hc, Bool.true_or]
  · (refine zF rfl ?_ ?_ ?_ ?_; (iterate 3 (focus ((try simp (disch := omega) only [go_sem, wrap_n]) <;> (try omega) <;> fail))); (try simp (disch := omega) only [go_sem, wrap_n, I, B, S, inj, List.cons.injEq, and_true, true_and, and_self]))
    unfold goodL
    rw [decide_eq_false (by assumption), Bool.false_or]
    rcases hc with (c | c) | c
    · rw [decide_eq_false (p := s.length ≤ 200) (by omega), Bool.false_and]
    · rw [decide_eq_false c, Bool.false_and, Bool.and_false]
    · rw [decide_eq_false (p := 2 ≤ (splitB s).length) (by omega), Bool.false_and, Bool.and_false, Bool.and_false]
  have g : goodL s = ((splitB s).drop 1).all namedP := by
    unfold goodL
    rw [decide_eq_false (by assumption), Bool.false_or, decide_eq_true (p := s.length ≤ 200) (by omega), decide_eq_true hc.1.2, decide_eq_true (p := 2 ≤ (splitB s).length) (by omega)]; rfl
  rw [g]
  have hml : ((splitB s).drop 1).length = (splitB s).length - 1 := by simp
  have hle := splitB_le s
  have hpl : ∀ p, p ∈ (splitB s).drop 1 → okS p := fun p hp => by
    have := piece_le s p (List.mem_of_mem_drop hp)
    unfold okS; omega
  generalize (splitB s).drop 1 = m at *
  refine AWP.loopS (ι := Nat) (fun k => k ≤ m.length ∧ ∀ j, j < k → namedP (m.getD j []) = true) (fun k => m.length - k) [25, 26] (fun k => [(27, I k)]) 0 ?_ (by simp (disch := omega) only [go_sem, wrap_n, hml]) ?_
  · exact ⟨by omega, by omega⟩
  intro k ⟨hk, hk2⟩
  simp only [go_sem]
  have hpk : okS (m.getD k []) := by
    by_cases e : k < m.length
    · exact hpl _ (mem_getD m [] e)
    · rw [List.getD_eq_getElem?_getD, List.getElem?_eq_none (by omega)]; show okS []; unfold okS; decide
  (repeat' first
| (with_reducible refine AR.f ?_)
| refine blkA_x (by decide) ?_
| (with_reducible refine AWP.cond rfl ?_ ?_ <;> intro hc <;> (try simp only [hcs, beq_iff_eq, ge_iff_le, gt_iff_lt] at hc))
| ((first | ((first | (with_reducible first | refine zR ?_ | refine zQ (by decide +kernel) ?_ | refine zD (by decide +kernel) ?_ | refine zE (by decide +kernel) ?_ | refine zG (by decide +kernel) ?_)); intro K hK) | ((first | refine acallH_sc (ref_named_c _ hpk) rfl rfl ?_ ?_ ?_ | refine acallQ_sc (ref_named_c _ hpk) rfl rfl ?_ ?_ ?_); iterate 2 (focus ((try simp (disch := omega) only [go_sem, wrap_n, srow_rgetD, srow]) <;> (try omega) <;> fail))) | ((first | refine zN (ref_named_c _ hpk) rfl ?_ ?_); (focus ((try simp (disch := omega) only [go_sem, wrap_n, srow_rgetD, srow]) <;> (try omega) <;> fail))) | (first | ((first | refine zX (ref_named_c _ hpk) rfl ?_ ?_ | refine acallH_anyx (ref_named_c _ hpk) ?_ ?_); (focus ((try simp (disch := omega) only [go_sem, wrap_n, srow_rgetD, srow]) <;> (try omega) <;> fail)))) | ((first | (with_reducible refine aunder_i ?_ ?_ <;> intro hg) | with_reducible intro hg) <;> (first | (exfalso; simp at hg; done) | (have hg' := hg; (try simp only [hcs, beq_iff_eq, ge_iff_le, gt_iff_lt] at hg'); (try simp only [hg]))))) <;> (try simp (disch := omega) only [go_sem, wrap_n, srow_rgetD, srow]) <;> (repeat' with_reducible refine And.intro ?_ ?_) <;> (try (with_reducible refine hK _ ?_; clear hK K)))
| omega)
  · (refine zF rfl ?_ ?_ ?_ ?_; (iterate 3 (focus ((try simp (disch := omega) only [go_sem, wrap_n]) <;> (try omega) <;> fail))); (try simp (disch := omega) only [go_sem, wrap_n, I, B, S, inj, List.cons.injEq, and_true, true_and, and_self]))
    symm; exact all_not (d := []) (by omega : k < m.length) hc
  · refine ⟨k + 1, ⟨by omega, fun j hj => ?_⟩, by omega, ?_⟩
    · by_cases e : j = k
      · subst e; exact hc
      · exact hk2 j (by omega)
    (refine SImp.same ?_; simp (disch := omega) only [go_sem, wrap_n, Int.natCast_add])
  · (refine zF rfl ?_ ?_ ?_ ?_; (iterate 3 (focus ((try simp (disch := omega) only [go_sem, wrap_n]) <;> (try omega) <;> fail))); (try simp (disch := omega) only [go_sem, wrap_n, I, B, S, inj, List.cons.injEq, and_true, true_and, and_self]))
    symm; exact all_full namedP m [] fun j hj => hk2 j (by omega)
end Go.Proofs.YtmpfhalheaeibaaDoor
namespace Go.Proofs.YtmpfhalheaeibaaDoor
set_option linter.unusedVariables false
set_option linter.unusedSimpArgs false
open Go Go.RowKit
set_option maxRecDepth 100000
set_option linter.unusedSimpArgs false
def badZ (e c : Int) : Prop := e < 0 ∨ 2147483647 < e ∨ c < 0 ∨ 2147483647 < c
instance (e c : Int) : Decidable (badZ e c) := by unfold badZ; infer_instance
def two (p : Int × Int) : AV := .tup [I p.1, I p.2]
def goodZ (z : Int) : Prop := 0 ≤ z ∧ z < 4611686018427387904
instance (z : Int) : Decidable (goodZ z) := by unfold goodZ; infer_instance
theorem zgood_c (z : Int) : acall Tryd.prog [] 89 [I z] (ret (B (decide (goodZ z)))) := by
  refine acall_of tabOk Tryd.func89 rfl (by kernel_rfl) (by simp [Tryd.ntmps89]) ?_; simp only [Tryd.ntmps89, Tryd.results89, List.toList_toArray, apar, List.length_nil, List.length_cons, Nat.reduceAdd]
  repeat' first
    | with_reducible refine AWP.seq ?_
    | with_reducible refine thenA_n ?_
    | with_reducible refine thenA_r ?_
    | with_reducible refine thenA_e ?_
    | with_reducible refine blkA_n ?_
    | with_reducible refine blkA_r ?_
    | with_reducible refine blkA_e ?_
    | with_reducible refine blkA_x (by decide) ?_
    | with_reducible refine AWP.skip ?_
    | with_reducible refine AWP.ret ?_
    | with_reducible refine AWP.exit ?_
    | with_reducible refine AWP.block ?_
    | (with_reducible refine AWP.cond rfl ?_ ?_ <;> intro _)
    | (with_reducible refine AWP.region tabOk ?_; intro K hK; simp only [go_sem, ↓reduceIte, reduceCtorEq, Nat.reduceAdd, Nat.reduceSub, Nat.reduceMul, Nat.reducePow, Nat.reduceDiv, Nat.reduceMod, Nat.reduceLT, Nat.reduceLeDiff, Nat.reduceEqDiff, Nat.reduceBEq, Int.reduceToNat, Int.reduceLT, Int.reduceLE, Int.reduceAdd, Int.reduceSub, Int.reduceMul, Int.reducePow, Int.reduceNeg, Int.reduceEq, Int.toNat_natCast, Int.cast_ofNat_Int, Bool.not_eq_true', Bool.not_eq_false', ge_iff_le, gt_iff_lt, ne_eq, not_false_eq_true, not_true_eq_false, Nat.one_ne_zero, beq_self_eq_true, Bool.bne_false, Nat.zero_add, true_and]; (repeat' with_reducible apply And.intro) <;> (try (with_reducible refine hK _ ?_; clear hK K)))
    | (with_reducible refine AWP.quiet mixed tabOk (by kernel_rfl) ?_; intro K hK; simp only [go_sem, ↓reduceIte, reduceCtorEq, Nat.reduceAdd, Nat.reduceSub, Nat.reduceMul, Nat.reducePow, Nat.reduceDiv, Nat.reduceMod, Nat.reduceLT, Nat.reduceLeDiff, Nat.reduceEqDiff, Nat.reduceBEq, Int.reduceToNat, Int.reduceLT, Int.reduceLE, Int.reduceAdd, Int.reduceSub, Int.reduceMul, Int.reducePow, Int.reduceNeg, Int.reduceEq, Int.toNat_natCast, Int.cast_ofNat_Int, Bool.not_eq_true', Bool.not_eq_false', ge_iff_le, gt_iff_lt, ne_eq, not_false_eq_true, not_true_eq_false, Nat.one_ne_zero, beq_self_eq_true, Bool.bne_false, Nat.zero_add, true_and]; (repeat' with_reducible apply And.intro) <;> (try (with_reducible refine hK _ ?_; clear hK K)))
    | (intro hg; first | (exfalso; simp at hg; done) | ((try simp only [hg, go_sem, ↓reduceIte, reduceCtorEq, Nat.reduceAdd, Nat.reduceSub, Nat.reduceMul, Nat.reducePow, Nat.reduceDiv, Nat.reduceMod, Nat.reduceLT, Nat.reduceLeDiff, Nat.reduceEqDiff, Nat.reduceBEq, Int.reduceToNat, Int.reduceLT, Int.reduceLE, Int.reduceAdd, Int.reduceSub, Int.reduceMul, Int.reducePow, Int.reduceNeg, Int.reduceEq, Int.toNat_natCast, Int.cast_ofNat_Int, Bool.not_eq_true', Bool.not_eq_false', ge_iff_le, gt_iff_lt, ne_eq, not_false_eq_true, not_true_eq_false, Nat.one_ne_zero, beq_self_eq_true, Bool.bne_false, Nat.zero_add, true_and]) <;> (repeat' with_reducible refine And.intro ?_ ?_) <;> (try (with_reducible refine hK _ ?_; clear hK K))))
    | omega
  all_goals try (refine aend_ret ?_ rfl ?_ ?_ ?_ ?_; (focus (first | exact .inl rfl | exact .inr rfl)); (focus (simp only [go_sem, ↓reduceIte, reduceCtorEq, Nat.reduceAdd, Nat.reduceSub, Nat.reduceMul, Nat.reducePow, Nat.reduceDiv, Nat.reduceMod, Nat.reduceLT, Nat.reduceLeDiff, Nat.reduceEqDiff, Nat.reduceBEq, Int.reduceToNat, Int.reduceLT, Int.reduceLE, Int.reduceAdd, Int.reduceSub, Int.reduceMul, Int.reducePow, Int.reduceNeg, Int.reduceEq, Int.toNat_natCast, Int.cast_ofNat_Int, Bool.not_eq_true', Bool.not_eq_false', ge_iff_le, gt_iff_lt, ne_eq, not_false_eq_true, not_true_eq_false, Nat.one_ne_zero, beq_self_eq_true, Bool.bne_false, Nat.zero_add, two]; first | done | omega)); (focus (simp only [go_sem, ↓reduceIte, reduceCtorEq, Nat.reduceAdd, Nat.reduceSub, Nat.reduceMul, Nat.reducePow, Nat.reduceDiv, Nat.reduceMod, Nat.reduceLT, Nat.reduceLeDiff, Nat.reduceEqDiff, Nat.reduceBEq, Int.reduceToNat, Int.reduceLT, Int.reduceLE, Int.reduceAdd, Int.reduceSub, Int.reduceMul, Int.reducePow, Int.reduceNeg, Int.reduceEq, Int.toNat_natCast, Int.cast_ofNat_Int, Bool.not_eq_true', Bool.not_eq_false', ge_iff_le, gt_iff_lt, ne_eq, not_false_eq_true, not_true_eq_false, Nat.one_ne_zero, beq_self_eq_true, Bool.bne_false, Nat.zero_add, two]; done)); (focus (simp only [go_sem, ↓reduceIte, reduceCtorEq, Nat.reduceAdd, Nat.reduceSub, Nat.reduceMul, Nat.reducePow, Nat.reduceDiv, Nat.reduceMod, Nat.reduceLT, Nat.reduceLeDiff, Nat.reduceEqDiff, Nat.reduceBEq, Int.reduceToNat, Int.reduceLT, Int.reduceLE, Int.reduceAdd, Int.reduceSub, Int.reduceMul, Int.reducePow, Int.reduceNeg, Int.reduceEq, Int.toNat_natCast, Int.cast_ofNat_Int, Bool.not_eq_true', Bool.not_eq_false', ge_iff_le, gt_iff_lt, ne_eq, not_false_eq_true, not_true_eq_false, Nat.one_ne_zero, beq_self_eq_true, Bool.bne_false, Nat.zero_add, two]; done)); simp only [go_sem, ↓reduceIte, reduceCtorEq, Nat.reduceAdd, Nat.reduceSub, Nat.reduceMul, Nat.reducePow, Nat.reduceDiv, Nat.reduceMod, Nat.reduceLT, Nat.reduceLeDiff, Nat.reduceEqDiff, Nat.reduceBEq, Int.reduceToNat, Int.reduceLT, Int.reduceLE, Int.reduceAdd, Int.reduceSub, Int.reduceMul, Int.reducePow, Int.reduceNeg, Int.reduceEq, Int.toNat_natCast, Int.cast_ofNat_Int, Bool.not_eq_true', Bool.not_eq_false', ge_iff_le, gt_iff_lt, ne_eq, not_false_eq_true, not_true_eq_false, Nat.one_ne_zero, beq_self_eq_true, Bool.bne_false, Nat.zero_add, two, I, B, S, AV.d.injEq, DV.int.injEq, DV.bool.injEq, DV.str.injEq, DV.sl.injEq, AV.tup.injEq, AV.agg.injEq, List.cons.injEq, and_true, true_and, and_self])
  unfold goodZ; exact (Bool.decide_and _ _).symm
theorem ref_zgood_c (z : Int) (hz : okI z) : acall Tryd.prog [] 86 [I z] (ret (B (decide (goodZ z)))) := by
  refine acall_of tabOk Tryd.func86 rfl (by kernel_rfl) (by simp [Tryd.ntmps86]) ?_; simp only [Tryd.ntmps86, Tryd.results86, List.toList_toArray, apar, List.length_nil, List.length_cons, Nat.reduceAdd]
  repeat' first
    | with_reducible refine AWP.seq ?_
    | with_reducible refine thenA_n ?_
    | with_reducible refine thenA_r ?_
    | with_reducible refine thenA_e ?_
    | with_reducible refine blkA_n ?_
    | with_reducible refine blkA_r ?_
    | with_reducible refine blkA_e ?_
    | with_reducible refine blkA_x (by decide) ?_
    | with_reducible refine AWP.skip ?_
    | with_reducible refine AWP.ret ?_
    | with_reducible refine AWP.exit ?_
    | with_reducible refine AWP.block ?_
    | (with_reducible refine AWP.cond rfl ?_ ?_ <;> intro _)
    | (with_reducible refine AWP.region tabOk ?_; intro K hK; simp only [go_sem, ↓reduceIte, reduceCtorEq, Nat.reduceAdd, Nat.reduceSub, Nat.reduceMul, Nat.reducePow, Nat.reduceDiv, Nat.reduceMod, Nat.reduceLT, Nat.reduceLeDiff, Nat.reduceEqDiff, Nat.reduceBEq, Int.reduceToNat, Int.reduceLT, Int.reduceLE, Int.reduceAdd, Int.reduceSub, Int.reduceMul, Int.reducePow, Int.reduceNeg, Int.reduceEq, Int.toNat_natCast, Int.cast_ofNat_Int, Bool.not_eq_true', Bool.not_eq_false', ge_iff_le, gt_iff_lt, ne_eq, not_false_eq_true, not_true_eq_false, Nat.one_ne_zero, beq_self_eq_true, Bool.bne_false, Nat.zero_add, true_and]; (repeat' with_reducible apply And.intro) <;> (try (with_reducible refine hK _ ?_; clear hK K)))
    | (with_reducible refine AWP.quiet mixed tabOk (by kernel_rfl) ?_; intro K hK; simp only [go_sem, ↓reduceIte, reduceCtorEq, Nat.reduceAdd, Nat.reduceSub, Nat.reduceMul, Nat.reducePow, Nat.reduceDiv, Nat.reduceMod, Nat.reduceLT, Nat.reduceLeDiff, Nat.reduceEqDiff, Nat.reduceBEq, Int.reduceToNat, Int.reduceLT, Int.reduceLE, Int.reduceAdd, Int.reduceSub, Int.reduceMul, Int.reducePow, Int.reduceNeg, Int.reduceEq, Int.toNat_natCast, Int.cast_ofNat_Int, Bool.not_eq_true', Bool.not_eq_false', ge_iff_le, gt_iff_lt, ne_eq, not_false_eq_true, not_true_eq_false, Nat.one_ne_zero, beq_self_eq_true, Bool.bne_false, Nat.zero_add, true_and]; (repeat' with_reducible apply And.intro) <;> (try (with_reducible refine hK _ ?_; clear hK K)))
    | (intro hg; first | (exfalso; simp at hg; done) | ((try simp only [hg, go_sem, ↓reduceIte, reduceCtorEq, Nat.reduceAdd, Nat.reduceSub, Nat.reduceMul, Nat.reducePow, Nat.reduceDiv, Nat.reduceMod, Nat.reduceLT, Nat.reduceLeDiff, Nat.reduceEqDiff, Nat.reduceBEq, Int.reduceToNat, Int.reduceLT, Int.reduceLE, Int.reduceAdd, Int.reduceSub, Int.reduceMul, Int.reducePow, Int.reduceNeg, Int.reduceEq, Int.toNat_natCast, Int.cast_ofNat_Int, Bool.not_eq_true', Bool.not_eq_false', ge_iff_le, gt_iff_lt, ne_eq, not_false_eq_true, not_true_eq_false, Nat.one_ne_zero, beq_self_eq_true, Bool.bne_false, Nat.zero_add, true_and]) <;> (repeat' with_reducible refine And.intro ?_ ?_) <;> (try (with_reducible refine hK _ ?_; clear hK K))))
    | omega
  all_goals try (refine aend_ret ?_ rfl ?_ ?_ ?_ ?_; (focus (first | exact .inl rfl | exact .inr rfl)); (focus (simp only [go_sem, ↓reduceIte, reduceCtorEq, Nat.reduceAdd, Nat.reduceSub, Nat.reduceMul, Nat.reducePow, Nat.reduceDiv, Nat.reduceMod, Nat.reduceLT, Nat.reduceLeDiff, Nat.reduceEqDiff, Nat.reduceBEq, Int.reduceToNat, Int.reduceLT, Int.reduceLE, Int.reduceAdd, Int.reduceSub, Int.reduceMul, Int.reducePow, Int.reduceNeg, Int.reduceEq, Int.toNat_natCast, Int.cast_ofNat_Int, Bool.not_eq_true', Bool.not_eq_false', ge_iff_le, gt_iff_lt, ne_eq, not_false_eq_true, not_true_eq_false, Nat.one_ne_zero, beq_self_eq_true, Bool.bne_false, Nat.zero_add, true_and]; first | done | omega)); (focus (simp only [go_sem, ↓reduceIte, reduceCtorEq, Nat.reduceAdd, Nat.reduceSub, Nat.reduceMul, Nat.reducePow, Nat.reduceDiv, Nat.reduceMod, Nat.reduceLT, Nat.reduceLeDiff, Nat.reduceEqDiff, Nat.reduceBEq, Int.reduceToNat, Int.reduceLT, Int.reduceLE, Int.reduceAdd, Int.reduceSub, Int.reduceMul, Int.reducePow, Int.reduceNeg, Int.reduceEq, Int.toNat_natCast, Int.cast_ofNat_Int, Bool.not_eq_true', Bool.not_eq_false', ge_iff_le, gt_iff_lt, ne_eq, not_false_eq_true, not_true_eq_false, Nat.one_ne_zero, beq_self_eq_true, Bool.bne_false, Nat.zero_add, true_and]; done)); (focus (simp only [go_sem, ↓reduceIte, reduceCtorEq, Nat.reduceAdd, Nat.reduceSub, Nat.reduceMul, Nat.reducePow, Nat.reduceDiv, Nat.reduceMod, Nat.reduceLT, Nat.reduceLeDiff, Nat.reduceEqDiff, Nat.reduceBEq, Int.reduceToNat, Int.reduceLT, Int.reduceLE, Int.reduceAdd, Int.reduceSub, Int.reduceMul, Int.reducePow, Int.reduceNeg, Int.reduceEq, Int.toNat_natCast, Int.cast_ofNat_Int, Bool.not_eq_true', Bool.not_eq_false', ge_iff_le, gt_iff_lt, ne_eq, not_false_eq_true, not_true_eq_false, Nat.one_ne_zero, beq_self_eq_true, Bool.bne_false, Nat.zero_add, true_and]; done)); simp only [go_sem, ↓reduceIte, reduceCtorEq, Nat.reduceAdd, Nat.reduceSub, Nat.reduceMul, Nat.reducePow, Nat.reduceDiv, Nat.reduceMod, Nat.reduceLT, Nat.reduceLeDiff, Nat.reduceEqDiff, Nat.reduceBEq, Int.reduceToNat, Int.reduceLT, Int.reduceLE, Int.reduceAdd, Int.reduceSub, Int.reduceMul, Int.reducePow, Int.reduceNeg, Int.reduceEq, Int.toNat_natCast, Int.cast_ofNat_Int, Bool.not_eq_true', Bool.not_eq_false', ge_iff_le, gt_iff_lt, ne_eq, not_false_eq_true, not_true_eq_false, Nat.one_ne_zero, beq_self_eq_true, Bool.bne_false, Nat.zero_add, true_and, I, B, S, AV.d.injEq, DV.int.injEq, DV.bool.injEq, DV.str.injEq, DV.sl.injEq, AV.tup.injEq, AV.agg.injEq, List.cons.injEq, and_true, true_and, and_self])
  have e : ∀ h : 0 ≤ z, z.tdiv 2147483648 = z / 2147483648 := fun h => Int.tdiv_eq_ediv_of_nonneg h
  rw [Bool.eq_iff_iff]
  simp only [Bool.and_eq_true, decide_eq_true_eq]
  unfold goodZ
  constructor
  · intro ⟨h, h2⟩
    have e := e h
    rw [wrap_in _ ⟨by omega, by omega⟩] at h2
    omega
  · intro ⟨h, h2⟩
    have e := e h
    refine ⟨h, ?_⟩
    rw [wrap_in _ ⟨by omega, by omega⟩]
    omega
end Go.Proofs.YtmpfhalheaeibaaDoor
namespace Go.Proofs.YtmpfhalheaeibaaDoor
set_option linter.unusedVariables false
set_option linter.unusedSimpArgs false
open Go Go.RowKit
set_option maxRecDepth 100000
def numsB (t : ATxn) : Bool := decide (goodZ t.zxid) && (decide (1 ≤ t.session ∧ t.session ≤ 2147483647) && (decide (0 ≤ t.version ∧ t.version ≤ 2147483647) && decide (0 ≤ t.owner ∧ t.owner ≤ 2147483647)))
def badT (t : ATxn) : Bool :=
  if t.op ≤ 2 then !decide (t.path = []) || (!decide (t.data = []) || (!decide (t.version = 0) || !decide (t.owner = 0)))
  else if t.op = 3 then !goodP t.path || (decide (t.path = [47]) || !decide (t.version = 0))
  else if t.op = 4 then !goodP t.path || (decide (t.path = [47]) || (!decide (t.data = []) || (!decide (t.version = 0) || !decide (t.owner = 0))))
  else !goodP t.path || !decide (t.owner = 0)
def goodT (t : ATxn) : Int := if t.op < 1 ∨ 5 < t.op then 4 else if numsB t = false then 3 else if 256 < t.data.length then 1 else if badT t = true then 2 else 0
theorem goodT_op {t : ATxn} (h : t.op < 1 ∨ 5 < t.op) : goodT t = 4 := by unfold goodT; rw [if_pos h]
theorem goodT_num {t : ATxn} (h : 1 ≤ t.op ∧ t.op ≤ 5) (h2 : ¬ numsB t = true) : goodT t = 3 := by unfold goodT; rw [if_neg (by omega), if_pos (eq_false_of_ne_true h2)]
theorem goodT_long {t : ATxn} (h : 1 ≤ t.op ∧ t.op ≤ 5) (h2 : numsB t = true) (h3 : 256 < t.data.length) : goodT t = 1 := by unfold goodT; rw [if_neg (by omega), if_neg (by rw [h2]; decide), if_pos h3]
theorem goodT_ok {t : ATxn} (h : 1 ≤ t.op ∧ t.op ≤ 5) (h2 : numsB t = true) (h3 : t.data.length ≤ 256) : goodT t = if badT t = true then 2 else 0 := by unfold goodT; rw [if_neg (by omega), if_neg (by rw [h2]; decide), if_neg (by omega)]
theorem numsB_iff (t : ATxn) : numsB t = true ↔ goodZ t.zxid ∧ (1 ≤ t.session ∧ t.session ≤ 2147483647) ∧ (0 ≤ t.version ∧ t.version ≤ 2147483647) ∧ (0 ≤ t.owner ∧ t.owner ≤ 2147483647) := by
  unfold numsB; simp only [Bool.and_eq_true, decide_eq_true_eq]
theorem wbad {t : ATxn} (h : 1 ≤ t.op ∧ t.op ≤ 5) : badT t = true ↔ ((t.op ≤ 2 ∧ (((¬t.path = [] ∨ ¬t.data = []) ∨ ¬t.version = 0) ∨ ¬t.owner = 0)) ∨ (3 ≤ t.op ∧ (goodP t.path = false ∨ t.path = [47] ∧ ¬t.op = 5)) ∨ ((t.op = 4 ∧ ((¬t.data = [] ∨ ¬t.version = 0) ∨ ¬t.owner = 0) ∨ t.op = 3 ∧ ¬t.version = 0) ∨ t.op = 5 ∧ ¬t.owner = 0)) := by
  have hop : t.op = 1 ∨ t.op = 2 ∨ t.op = 3 ∨ t.op = 4 ∨ t.op = 5 := by omega
  rcases hop with e | e | e | e | e <;> simp [badT, e, or_assoc]
theorem wgood_c (t : ATxn) (hp : okS t.path) (hd : okS t.data) : acall Tryd.prog [] 123 [t.av] (ret (I (goodT t))) := by
  unfold okS at hd
  refine acall_of tabOk Tryd.func123 rfl (by kernel_rfl) (by simp [Tryd.ntmps123]) ?_; simp only [Tryd.ntmps123, Tryd.results123, List.toList_toArray, apar, List.length_nil, List.length_cons, Nat.reduceAdd]
  (repeat' first
| (with_reducible refine AR.f ?_)
| refine blkA_x (by decide) ?_
| (with_reducible refine AWP.cond rfl ?_ ?_ <;> intro hc <;> (try simp only [hcs, beq_iff_eq, ge_iff_le, gt_iff_lt] at hc))
| ((first | ((first | (with_reducible first | refine zR ?_ | refine zQ (by decide +kernel) ?_ | refine zD (by decide +kernel) ?_ | refine zE (by decide +kernel) ?_ | refine zG (by decide +kernel) ?_)); intro K hK) | ((first | refine zA (good_c t.path hp) ?_ ?_ ?_ ?_ ?_); (focus exact rfl); (focus exact rfl); iterate 2 (focus ((try simp (disch := omega) only [go_sem, wrap_n]) <;> (try omega) <;> fail))) | ((first | refine acallH_sc (zgood_c _) rfl rfl ?_ ?_ ?_ | refine acallQ_sc (zgood_c _) rfl rfl ?_ ?_ ?_); iterate 2 (focus ((try simp (disch := omega) only [go_sem, wrap_n]) <;> (try omega) <;> fail))) | ((first | refine zN (zgood_c _) rfl ?_ ?_ | refine zN (good_c t.path hp) rfl ?_ ?_); (focus ((try simp (disch := omega) only [go_sem, wrap_n]) <;> (try omega) <;> fail))) | (first | ((first | refine zX (zgood_c _) rfl ?_ ?_ | refine acallH_anyx (zgood_c _) ?_ ?_); (focus ((try simp (disch := omega) only [go_sem, wrap_n]) <;> (try omega) <;> fail))) | ((first | refine zX (good_c t.path hp) rfl ?_ ?_ | refine acallH_anyx (good_c t.path hp) ?_ ?_); (focus ((try simp (disch := omega) only [go_sem, wrap_n]) <;> (try omega) <;> fail)))) | ((first | (with_reducible refine aunder_i ?_ ?_ <;> intro hg) | with_reducible intro hg) <;> (first | (exfalso; simp at hg; done) | (have hg' := hg; (try simp only [hcs, beq_iff_eq, ge_iff_le, gt_iff_lt] at hg'); (try simp only [hg]))))) <;> (try simp (disch := omega) only [go_sem, wrap_n]) <;> (repeat' with_reducible refine And.intro ?_ ?_) <;> (try (with_reducible refine hK _ ?_; clear hK K)))
| omega)
  · rw [goodT_op hc]; (refine zF rfl ?_ ?_ ?_ ?_; (iterate 3 (focus ((try simp (disch := omega) only [go_sem, wrap_n]) <;> (try omega) <;> fail))); (try simp (disch := omega) only [go_sem, wrap_n, I, B, S, inj, List.cons.injEq, and_true, true_and, and_self]))
  all_goals (have hop : 1 ≤ t.op ∧ t.op ≤ 5 := by assumption)
  · rw [goodT_num hop]
    · (refine zF rfl ?_ ?_ ?_ ?_; (iterate 3 (focus ((try simp (disch := omega) only [go_sem, wrap_n]) <;> (try omega) <;> fail))); (try simp (disch := omega) only [go_sem, wrap_n, I, B, S, inj, List.cons.injEq, and_true, true_and, and_self]))
    rw [numsB_iff]; rintro ⟨h1, h2⟩
    rcases hc with (((((c | c) | c) | c) | c) | c) | c
    · exact c h1
    all_goals omega
  all_goals (have hn : (((((goodZ t.zxid ∧ 1 ≤ t.session) ∧ t.session ≤ 2147483647) ∧ 0 ≤ t.version) ∧ t.version ≤ 2147483647) ∧ 0 ≤ t.owner) ∧ t.owner ≤ 2147483647 := by assumption)
  all_goals (have hnb : numsB t = true := (numsB_iff t).2 ⟨hn.1.1.1.1.1.1, by omega, by omega, by omega⟩)
  · rw [goodT_long hop hnb (by omega)]; (refine zF rfl ?_ ?_ ?_ ?_; (iterate 3 (focus ((try simp (disch := omega) only [go_sem, wrap_n]) <;> (try omega) <;> fail))); (try simp (disch := omega) only [go_sem, wrap_n, I, B, S, inj, List.cons.injEq, and_true, true_and, and_self]))
  all_goals rw [goodT_ok hop hnb (by omega)]
  · rw [if_pos ((wbad hop).2 (.inl hc))]; (refine zF rfl ?_ ?_ ?_ ?_; (iterate 3 (focus ((try simp (disch := omega) only [go_sem, wrap_n]) <;> (try omega) <;> fail))); (try simp (disch := omega) only [go_sem, wrap_n, I, B, S, inj, List.cons.injEq, and_true, true_and, and_self]))
  · rw [if_pos ((wbad hop).2 (.inr (.inl ⟨by simpa using hg, hc⟩)))]; (refine zF rfl ?_ ?_ ?_ ?_; (iterate 3 (focus ((try simp (disch := omega) only [go_sem, wrap_n]) <;> (try omega) <;> fail))); (try simp (disch := omega) only [go_sem, wrap_n, I, B, S, inj, List.cons.injEq, and_true, true_and, and_self]))
  · rw [if_pos ((wbad hop).2 (.inr (.inr hc)))]; (refine zF rfl ?_ ?_ ?_ ?_; (iterate 3 (focus ((try simp (disch := omega) only [go_sem, wrap_n]) <;> (try omega) <;> fail))); (try simp (disch := omega) only [go_sem, wrap_n, I, B, S, inj, List.cons.injEq, and_true, true_and, and_self]))
  all_goals (rw [if_neg (fun hb => by
    have hb := (wbad hop).1 hb
    have hop : t.op = 1 ∨ t.op = 2 ∨ t.op = 3 ∨ t.op = 4 ∨ t.op = 5 := by omega
    rcases hop with e | e | e | e | e <;> simp_all)]; (refine zF rfl ?_ ?_ ?_ ?_; (iterate 3 (focus ((try simp (disch := omega) only [go_sem, wrap_n]) <;> (try omega) <;> fail))); (try simp (disch := omega) only [go_sem, wrap_n, I, B, S, inj, List.cons.injEq, and_true, true_and, and_self])))
theorem in_c (n lo : Int) : acall Tryd.prog [] 157 [I n, I lo] (ret (B (decide (lo ≤ n ∧ n < 2147483648)))) := by
  refine acall_of tabOk Tryd.func157 rfl (by kernel_rfl) (by simp [Tryd.ntmps157]) ?_; simp only [Tryd.ntmps157, Tryd.results157, List.toList_toArray, apar, List.length_nil, List.length_cons, Nat.reduceAdd]
  (repeat' first
| (with_reducible refine AR.f ?_)
| refine blkA_x (by decide) ?_
| (with_reducible refine AWP.cond rfl ?_ ?_ <;> intro hc <;> (try simp only [hcs, beq_iff_eq, ge_iff_le, gt_iff_lt] at hc))
| ((first | ((first | (with_reducible first | refine zR ?_ | refine zQ (by decide +kernel) ?_ | refine zD (by decide +kernel) ?_ | refine zE (by decide +kernel) ?_ | refine zG (by decide +kernel) ?_)); intro K hK) | ((first | (with_reducible refine aunder_i ?_ ?_ <;> intro hg) | with_reducible intro hg) <;> (first | (exfalso; simp at hg; done) | (have hg' := hg; (try simp only [hcs, beq_iff_eq, ge_iff_le, gt_iff_lt] at hg'); (try simp only [hg]))))) <;> (try simp (disch := omega) only [go_sem, wrap_n]) <;> (repeat' with_reducible refine And.intro ?_ ?_) <;> (try (with_reducible refine hK _ ?_; clear hK K)))
| omega)
  all_goals (refine zF rfl ?_ ?_ ?_ ?_; (iterate 3 (focus ((try simp (disch := omega) only [go_sem, wrap_n]) <;> (try omega) <;> fail))); (try simp (disch := omega) only [go_sem, wrap_n, I, B, S, inj, List.cons.injEq, and_true, true_and, and_self]))
  all_goals simp
set_option maxHeartbeats 2000000 in
theorem ref_wgood_c (t : ATxn) (hz : okI t.zxid) (hp : t.path.length ≤ 1048576) (hd : okS t.data) : acall Tryd.prog [] 112 [t.av] (ret (I (goodT t))) := by
  unfold okS at hd
  by_cases hop : t.op < 1 ∨ 5 < t.op
  · rw [goodT_op hop]
    refine acall_of tabOk Tryd.func112 rfl (by kernel_rfl) (by simp [Tryd.ntmps112]) ?_; simp only [Tryd.ntmps112, Tryd.results112, List.toList_toArray, apar, List.length_nil, List.length_cons, Nat.reduceAdd]
    (repeat' first
  | (with_reducible refine AR.f ?_)
  | refine blkA_x (by decide) ?_
  | (with_reducible refine AWP.cond rfl ?_ ?_ <;> intro hc <;> (try simp only [hcs, beq_iff_eq, ge_iff_le, gt_iff_lt] at hc))
  | ((first | ((first | (with_reducible first | refine zR ?_ | refine zQ (by decide +kernel) ?_ | refine zD (by decide +kernel) ?_ | refine zE (by decide +kernel) ?_ | refine zG (by decide +kernel) ?_)); intro K hK) | ((first | (with_reducible refine aunder_i ?_ ?_ <;> intro hg) | with_reducible intro hg) <;> (first | (exfalso; simp at hg; done) | (have hg' := hg; (try simp only [hcs, beq_iff_eq, ge_iff_le, gt_iff_lt] at hg'); (try simp only [hg]))))) <;> (try simp (disch := omega) only [go_sem, wrap_n]) <;> (repeat' with_reducible refine And.intro ?_ ?_) <;> (try (with_reducible refine hK _ ?_; clear hK K)))
  | omega)
    all_goals first | omega | skip
    all_goals (refine zF rfl ?_ ?_ ?_ ?_; (iterate 3 (focus ((try simp (disch := omega) only [go_sem, wrap_n]) <;> (try omega) <;> fail))); (try simp (disch := omega) only [go_sem, wrap_n, I, B, S, inj, List.cons.injEq, and_true, true_and, and_self]))
  have hop' : 1 ≤ t.op ∧ t.op ≤ 5 := by omega
  by_cases h1 : goodZ t.zxid
  case neg =>
    rw [goodT_num hop' (fun h => h1 ((numsB_iff t).1 h).1)]
    refine acall_of tabOk Tryd.func112 rfl (by kernel_rfl) (by simp [Tryd.ntmps112]) ?_; simp only [Tryd.ntmps112, Tryd.results112, List.toList_toArray, apar, List.length_nil, List.length_cons, Nat.reduceAdd]
    (repeat' first
  | (with_reducible refine AR.f ?_)
  | refine blkA_x (by decide) ?_
  | (with_reducible refine AWP.cond rfl ?_ ?_ <;> intro hc <;> (try simp only [hcs, beq_iff_eq, ge_iff_le, gt_iff_lt] at hc))
  | ((first | ((first | (with_reducible first | refine zR ?_ | refine zQ (by decide +kernel) ?_ | refine zD (by decide +kernel) ?_ | refine zE (by decide +kernel) ?_ | refine zG (by decide +kernel) ?_)); intro K hK) | ((first | refine acallH_sc ((ref_zgood_c _ hz).re (congrArg B (decide_eq_false h1))) rfl rfl ?_ ?_ ?_ | refine acallQ_sc ((ref_zgood_c _ hz).re (congrArg B (decide_eq_false h1))) rfl rfl ?_ ?_ ?_); iterate 2 (focus ((try simp (disch := omega) only [go_sem, wrap_n]) <;> (try omega) <;> fail))) | ((first | refine zN ((ref_zgood_c _ hz).re (congrArg B (decide_eq_false h1))) rfl ?_ ?_); (focus ((try simp (disch := omega) only [go_sem, wrap_n]) <;> (try omega) <;> fail))) | (first | ((first | refine zX ((ref_zgood_c _ hz).re (congrArg B (decide_eq_false h1))) rfl ?_ ?_ | refine acallH_anyx ((ref_zgood_c _ hz).re (congrArg B (decide_eq_false h1))) ?_ ?_); (focus ((try simp (disch := omega) only [go_sem, wrap_n]) <;> (try omega) <;> fail)))) | ((first | (with_reducible refine aunder_i ?_ ?_ <;> intro hg) | with_reducible intro hg) <;> (first | (exfalso; simp at hg; done) | (have hg' := hg; (try simp only [hcs, beq_iff_eq, ge_iff_le, gt_iff_lt] at hg'); (try simp only [hg]))))) <;> (try simp (disch := omega) only [go_sem, wrap_n]) <;> (repeat' with_reducible refine And.intro ?_ ?_) <;> (try (with_reducible refine hK _ ?_; clear hK K)))
  | omega)
    all_goals first | omega | skip
    all_goals (refine zF rfl ?_ ?_ ?_ ?_; (iterate 3 (focus ((try simp (disch := omega) only [go_sem, wrap_n]) <;> (try omega) <;> fail))); (try simp (disch := omega) only [go_sem, wrap_n, I, B, S, inj, List.cons.injEq, and_true, true_and, and_self]))
  by_cases h2 : 1 ≤ t.session ∧ t.session < 2147483648
  case neg =>
    rw [goodT_num hop' (fun h => by have := (numsB_iff t).1 h; omega)]
    refine acall_of tabOk Tryd.func112 rfl (by kernel_rfl) (by simp [Tryd.ntmps112]) ?_; simp only [Tryd.ntmps112, Tryd.results112, List.toList_toArray, apar, List.length_nil, List.length_cons, Nat.reduceAdd]
    (repeat' first
  | (with_reducible refine AR.f ?_)
  | refine blkA_x (by decide) ?_
  | (with_reducible refine AWP.cond rfl ?_ ?_ <;> intro hc <;> (try simp only [hcs, beq_iff_eq, ge_iff_le, gt_iff_lt] at hc))
  | ((first | ((first | (with_reducible first | refine zR ?_ | refine zQ (by decide +kernel) ?_ | refine zD (by decide +kernel) ?_ | refine zE (by decide +kernel) ?_ | refine zG (by decide +kernel) ?_)); intro K hK) | ((first | refine zA ((in_c t.session 1).re (congrArg B (decide_eq_false h2))) ?_ ?_ ?_ ?_ ?_); (focus exact rfl); (focus exact rfl); iterate 2 (focus ((try simp (disch := omega) only [go_sem, wrap_n]) <;> (try omega) <;> fail))) | ((first | refine acallH_sc ((ref_zgood_c _ hz).re (congrArg B (decide_eq_true h1))) rfl rfl ?_ ?_ ?_ | refine acallQ_sc ((ref_zgood_c _ hz).re (congrArg B (decide_eq_true h1))) rfl rfl ?_ ?_ ?_); iterate 2 (focus ((try simp (disch := omega) only [go_sem, wrap_n]) <;> (try omega) <;> fail))) | ((first | refine zN ((ref_zgood_c _ hz).re (congrArg B (decide_eq_true h1))) rfl ?_ ?_ | refine zN ((in_c t.session 1).re (congrArg B (decide_eq_false h2))) rfl ?_ ?_); (focus ((try simp (disch := omega) only [go_sem, wrap_n]) <;> (try omega) <;> fail))) | (first | ((first | refine zX ((ref_zgood_c _ hz).re (congrArg B (decide_eq_true h1))) rfl ?_ ?_ | refine acallH_anyx ((ref_zgood_c _ hz).re (congrArg B (decide_eq_true h1))) ?_ ?_); (focus ((try simp (disch := omega) only [go_sem, wrap_n]) <;> (try omega) <;> fail))) | ((first | refine zX ((in_c t.session 1).re (congrArg B (decide_eq_false h2))) rfl ?_ ?_ | refine acallH_anyx ((in_c t.session 1).re (congrArg B (decide_eq_false h2))) ?_ ?_); (focus ((try simp (disch := omega) only [go_sem, wrap_n]) <;> (try omega) <;> fail)))) | ((first | (with_reducible refine aunder_i ?_ ?_ <;> intro hg) | with_reducible intro hg) <;> (first | (exfalso; simp at hg; done) | (have hg' := hg; (try simp only [hcs, beq_iff_eq, ge_iff_le, gt_iff_lt] at hg'); (try simp only [hg]))))) <;> (try simp (disch := omega) only [go_sem, wrap_n]) <;> (repeat' with_reducible refine And.intro ?_ ?_) <;> (try (with_reducible refine hK _ ?_; clear hK K)))
  | omega)
    all_goals first | omega | skip
    all_goals (refine zF rfl ?_ ?_ ?_ ?_; (iterate 3 (focus ((try simp (disch := omega) only [go_sem, wrap_n]) <;> (try omega) <;> fail))); (try simp (disch := omega) only [go_sem, wrap_n, I, B, S, inj, List.cons.injEq, and_true, true_and, and_self]))
  by_cases h3 : 0 ≤ t.version ∧ t.version < 2147483648
  case neg =>
    rw [goodT_num hop' (fun h => by have := (numsB_iff t).1 h; omega)]
    refine acall_of tabOk Tryd.func112 rfl (by kernel_rfl) (by simp [Tryd.ntmps112]) ?_; simp only [Tryd.ntmps112, Tryd.results112, List.toList_toArray, apar, List.length_nil, List.length_cons, Nat.reduceAdd]
    (repeat' first
  | (with_reducible refine AR.f ?_)
  | refine blkA_x (by decide) ?_
  | (with_reducible refine AWP.cond rfl ?_ ?_ <;> intro hc <;> (try simp only [hcs, beq_iff_eq, ge_iff_le, gt_iff_lt] at hc))
  | ((first | ((first | (with_reducible first | refine zR ?_ | refine zQ (by decide +kernel) ?_ | refine zD (by decide +kernel) ?_ | refine zE (by decide +kernel) ?_ | refine zG (by decide +kernel) ?_)); intro K hK) | ((first | refine zA ((in_c t.session 1).re (congrArg B (decide_eq_true h2))) ?_ ?_ ?_ ?_ ?_ | refine zA ((in_c t.version 0).re (congrArg B (decide_eq_false h3))) ?_ ?_ ?_ ?_ ?_); (focus exact rfl); (focus exact rfl); iterate 2 (focus ((try simp (disch := omega) only [go_sem, wrap_n]) <;> (try omega) <;> fail))) | ((first | refine acallH_sc ((ref_zgood_c _ hz).re (congrArg B (decide_eq_true h1))) rfl rfl ?_ ?_ ?_ | refine acallQ_sc ((ref_zgood_c _ hz).re (congrArg B (decide_eq_true h1))) rfl rfl ?_ ?_ ?_); iterate 2 (focus ((try simp (disch := omega) only [go_sem, wrap_n]) <;> (try omega) <;> fail))) | ((first | refine zN ((ref_zgood_c _ hz).re (congrArg B (decide_eq_true h1))) rfl ?_ ?_ | refine zN ((in_c t.session 1).re (congrArg B (decide_eq_true h2))) rfl ?_ ?_ | refine zN ((in_c t.version 0).re (congrArg B (decide_eq_false h3))) rfl ?_ ?_); (focus ((try simp (disch := omega) only [go_sem, wrap_n]) <;> (try omega) <;> fail))) | (first | ((first | refine zX ((ref_zgood_c _ hz).re (congrArg B (decide_eq_true h1))) rfl ?_ ?_ | refine acallH_anyx ((ref_zgood_c _ hz).re (congrArg B (decide_eq_true h1))) ?_ ?_); (focus ((try simp (disch := omega) only [go_sem, wrap_n]) <;> (try omega) <;> fail))) | ((first | refine zX ((in_c t.session 1).re (congrArg B (decide_eq_true h2))) rfl ?_ ?_ | refine acallH_anyx ((in_c t.session 1).re (congrArg B (decide_eq_true h2))) ?_ ?_); (focus ((try simp (disch := omega) only [go_sem, wrap_n]) <;> (try omega) <;> fail))) | ((first | refine zX ((in_c t.version 0).re (congrArg B (decide_eq_false h3))) rfl ?_ ?_ | refine acallH_anyx ((in_c t.version 0).re (congrArg B (decide_eq_false h3))) ?_ ?_); (focus ((try simp (disch := omega) only [go_sem, wrap_n]) <;> (try omega) <;> fail)))) | ((first | (with_reducible refine aunder_i ?_ ?_ <;> intro hg) | with_reducible intro hg) <;> (first | (exfalso; simp at hg; done) | (have hg' := hg; (try simp only [hcs, beq_iff_eq, ge_iff_le, gt_iff_lt] at hg'); (try simp only [hg]))))) <;> (try simp (disch := omega) only [go_sem, wrap_n]) <;> (repeat' with_reducible refine And.intro ?_ ?_) <;> (try (with_reducible refine hK _ ?_; clear hK K)))
  | omega)
    all_goals first | omega | skip
    all_goals (refine zF rfl ?_ ?_ ?_ ?_; (iterate 3 (focus ((try simp (disch := omega) only [go_sem, wrap_n]) <;> (try omega) <;> fail))); (try simp (disch := omega) only [go_sem, wrap_n, I, B, S, inj, List.cons.injEq, and_true, true_and, and_self]))
  by_cases h4 : 0 ≤ t.owner ∧ t.owner < 2147483648
  case neg =>
    rw [goodT_num hop' (fun h => by have := (numsB_iff t).1 h; omega)]
    refine acall_of tabOk Tryd.func112 rfl (by kernel_rfl) (by simp [Tryd.ntmps112]) ?_; simp only [Tryd.ntmps112, Tryd.results112, List.toList_toArray, apar, List.length_nil, List.length_cons, Nat.reduceAdd]
    (repeat' first
  | (with_reducible refine AR.f ?_)
  | refine blkA_x (by decide) ?_
  | (with_reducible refine AWP.cond rfl ?_ ?_ <;> intro hc <;> (try simp only [hcs, beq_iff_eq, ge_iff_le, gt_iff_lt] at hc))
  | ((first | ((first | (with_reducible first | refine zR ?_ | refine zQ (by decide +kernel) ?_ | refine zD (by decide +kernel) ?_ | refine zE (by decide +kernel) ?_ | refine zG (by decide +kernel) ?_)); intro K hK) | ((first | refine zA ((in_c t.session 1).re (congrArg B (decide_eq_true h2))) ?_ ?_ ?_ ?_ ?_ | refine zA ((in_c t.version 0).re (congrArg B (decide_eq_true h3))) ?_ ?_ ?_ ?_ ?_ | refine zA ((in_c t.owner 0).re (congrArg B (decide_eq_false h4))) ?_ ?_ ?_ ?_ ?_); (focus exact rfl); (focus exact rfl); iterate 2 (focus ((try simp (disch := omega) only [go_sem, wrap_n]) <;> (try omega) <;> fail))) | ((first | refine acallH_sc ((ref_zgood_c _ hz).re (congrArg B (decide_eq_true h1))) rfl rfl ?_ ?_ ?_ | refine acallQ_sc ((ref_zgood_c _ hz).re (congrArg B (decide_eq_true h1))) rfl rfl ?_ ?_ ?_); iterate 2 (focus ((try simp (disch := omega) only [go_sem, wrap_n]) <;> (try omega) <;> fail))) | ((first | refine zN ((ref_zgood_c _ hz).re (congrArg B (decide_eq_true h1))) rfl ?_ ?_ | refine zN ((in_c t.session 1).re (congrArg B (decide_eq_true h2))) rfl ?_ ?_ | refine zN ((in_c t.version 0).re (congrArg B (decide_eq_true h3))) rfl ?_ ?_ | refine zN ((in_c t.owner 0).re (congrArg B (decide_eq_false h4))) rfl ?_ ?_); (focus ((try simp (disch := omega) only [go_sem, wrap_n]) <;> (try omega) <;> fail))) | (first | ((first | refine zX ((ref_zgood_c _ hz).re (congrArg B (decide_eq_true h1))) rfl ?_ ?_ | refine acallH_anyx ((ref_zgood_c _ hz).re (congrArg B (decide_eq_true h1))) ?_ ?_); (focus ((try simp (disch := omega) only [go_sem, wrap_n]) <;> (try omega) <;> fail))) | ((first | refine zX ((in_c t.session 1).re (congrArg B (decide_eq_true h2))) rfl ?_ ?_ | refine acallH_anyx ((in_c t.session 1).re (congrArg B (decide_eq_true h2))) ?_ ?_); (focus ((try simp (disch := omega) only [go_sem, wrap_n]) <;> (try omega) <;> fail))) | ((first | refine zX ((in_c t.version 0).re (congrArg B (decide_eq_true h3))) rfl ?_ ?_ | refine acallH_anyx ((in_c t.version 0).re (congrArg B (decide_eq_true h3))) ?_ ?_); (focus ((try simp (disch := omega) only [go_sem, wrap_n]) <;> (try omega) <;> fail))) | ((first | refine zX ((in_c t.owner 0).re (congrArg B (decide_eq_false h4))) rfl ?_ ?_ | refine acallH_anyx ((in_c t.owner 0).re (congrArg B (decide_eq_false h4))) ?_ ?_); (focus ((try simp (disch := omega) only [go_sem, wrap_n]) <;> (try omega) <;> fail)))) | ((first | (with_reducible refine aunder_i ?_ ?_ <;> intro hg) | with_reducible intro hg) <;> (first | (exfalso; simp at hg; done) | (have hg' := hg; (try simp only [hcs, beq_iff_eq, ge_iff_le, gt_iff_lt] at hg'); (try simp only [hg]))))) <;> (try simp (disch := omega) only [go_sem, wrap_n]) <;> (repeat' with_reducible refine And.intro ?_ ?_) <;> (try (with_reducible refine hK _ ?_; clear hK K)))
  | omega)
    all_goals first | omega | skip
    all_goals (refine zF rfl ?_ ?_ ?_ ?_; (iterate 3 (focus ((try simp (disch := omega) only [go_sem, wrap_n]) <;> (try omega) <;> fail))); (try simp (disch := omega) only [go_sem, wrap_n, I, B, S, inj, List.cons.injEq, and_true, true_and, and_self]))
  have hnb : numsB t = true := (numsB_iff t).2 ⟨h1, by omega, by omega, by omega⟩
  by_cases hlen : 256 < t.data.length
  · rw [goodT_long hop' hnb hlen]
    refine acall_of tabOk Tryd.func112 rfl (by kernel_rfl) (by simp [Tryd.ntmps112]) ?_; simp only [Tryd.ntmps112, Tryd.results112, List.toList_toArray, apar, List.length_nil, List.length_cons, Nat.reduceAdd]
    (repeat' first
  | (with_reducible refine AR.f ?_)
  | refine blkA_x (by decide) ?_
  | (with_reducible refine AWP.cond rfl ?_ ?_ <;> intro hc <;> (try simp only [hcs, beq_iff_eq, ge_iff_le, gt_iff_lt] at hc))
  | ((first | ((first | (with_reducible first | refine zR ?_ | refine zQ (by decide +kernel) ?_ | refine zD (by decide +kernel) ?_ | refine zE (by decide +kernel) ?_ | refine zG (by decide +kernel) ?_)); intro K hK) | ((first | refine zA ((in_c t.session 1).re (congrArg B (decide_eq_true h2))) ?_ ?_ ?_ ?_ ?_ | refine zA ((in_c t.version 0).re (congrArg B (decide_eq_true h3))) ?_ ?_ ?_ ?_ ?_ | refine zA ((in_c t.owner 0).re (congrArg B (decide_eq_true h4))) ?_ ?_ ?_ ?_ ?_); (focus exact rfl); (focus exact rfl); iterate 2 (focus ((try simp (disch := omega) only [go_sem, wrap_n]) <;> (try omega) <;> fail))) | ((first | refine acallH_sc ((ref_zgood_c _ hz).re (congrArg B (decide_eq_true h1))) rfl rfl ?_ ?_ ?_ | refine acallQ_sc ((ref_zgood_c _ hz).re (congrArg B (decide_eq_true h1))) rfl rfl ?_ ?_ ?_); iterate 2 (focus ((try simp (disch := omega) only [go_sem, wrap_n]) <;> (try omega) <;> fail))) | ((first | refine zN ((ref_zgood_c _ hz).re (congrArg B (decide_eq_true h1))) rfl ?_ ?_ | refine zN ((in_c t.session 1).re (congrArg B (decide_eq_true h2))) rfl ?_ ?_ | refine zN ((in_c t.version 0).re (congrArg B (decide_eq_true h3))) rfl ?_ ?_ | refine zN ((in_c t.owner 0).re (congrArg B (decide_eq_true h4))) rfl ?_ ?_); (focus ((try simp (disch := omega) only [go_sem, wrap_n]) <;> (try omega) <;> fail))) | (first | ((first | refine zX ((ref_zgood_c _ hz).re (congrArg B (decide_eq_true h1))) rfl ?_ ?_ | refine acallH_anyx ((ref_zgood_c _ hz).re (congrArg B (decide_eq_true h1))) ?_ ?_); (focus ((try simp (disch := omega) only [go_sem, wrap_n]) <;> (try omega) <;> fail))) | ((first | refine zX ((in_c t.session 1).re (congrArg B (decide_eq_true h2))) rfl ?_ ?_ | refine acallH_anyx ((in_c t.session 1).re (congrArg B (decide_eq_true h2))) ?_ ?_); (focus ((try simp (disch := omega) only [go_sem, wrap_n]) <;> (try omega) <;> fail))) | ((first | refine zX ((in_c t.version 0).re (congrArg B (decide_eq_true h3))) rfl ?_ ?_ | refine acallH_anyx ((in_c t.version 0).re (congrArg B (decide_eq_true h3))) ?_ ?_); (focus ((try simp (disch := omega) only [go_sem, wrap_n]) <;> (try omega) <;> fail))) | ((first | refine zX ((in_c t.owner 0).re (congrArg B (decide_eq_true h4))) rfl ?_ ?_ | refine acallH_anyx ((in_c t.owner 0).re (congrArg B (decide_eq_true h4))) ?_ ?_); (focus ((try simp (disch := omega) only [go_sem, wrap_n]) <;> (try omega) <;> fail)))) | ((first | (with_reducible refine aunder_i ?_ ?_ <;> intro hg) | with_reducible intro hg) <;> (first | (exfalso; simp at hg; done) | (have hg' := hg; (try simp only [hcs, beq_iff_eq, ge_iff_le, gt_iff_lt] at hg'); (try simp only [hg]))))) <;> (try simp (disch := omega) only [go_sem, wrap_n]) <;> (repeat' with_reducible refine And.intro ?_ ?_) <;> (try (with_reducible refine hK _ ?_; clear hK K)))
  | omega)
    all_goals first | omega | skip
    all_goals (refine zF rfl ?_ ?_ ?_ ?_; (iterate 3 (focus ((try simp (disch := omega) only [go_sem, wrap_n]) <;> (try omega) <;> fail))); (try simp (disch := omega) only [go_sem, wrap_n, I, B, S, inj, List.cons.injEq, and_true, true_and, and_self]))
  rw [goodT_ok hop' hnb (by omega)]
  refine acall_of tabOk Tryd.func112 rfl (by kernel_rfl) (by simp [Tryd.ntmps112]) ?_; simp only [Tryd.ntmps112, Tryd.results112, List.toList_toArray, apar, List.length_nil, List.length_cons, Nat.reduceAdd]
  (repeat' first
| (with_reducible refine AR.f ?_)
| refine blkA_x (by decide) ?_
| (with_reducible refine AWP.cond rfl ?_ ?_ <;> intro hc <;> (try simp only [hcs, beq_iff_eq, ge_iff_le, gt_iff_lt] at hc))
| ((first | ((first | (with_reducible first | refine zR ?_ | refine zQ (by decide +kernel) ?_ | refine zD (by decide +kernel) ?_ | refine zE (by decide +kernel) ?_ | refine zG (by decide +kernel) ?_)); intro K hK) | ((first | refine zA ((in_c t.session 1).re (congrArg B (decide_eq_true h2))) ?_ ?_ ?_ ?_ ?_ | refine zA ((in_c t.version 0).re (congrArg B (decide_eq_true h3))) ?_ ?_ ?_ ?_ ?_ | refine zA ((in_c t.owner 0).re (congrArg B (decide_eq_true h4))) ?_ ?_ ?_ ?_ ?_ | refine zA (ref_good_c t.path hp) ?_ ?_ ?_ ?_ ?_); (focus exact rfl); (focus exact rfl); iterate 2 (focus ((try simp (disch := omega) only [go_sem, wrap_n]) <;> (try omega) <;> fail))) | ((first | refine acallH_sc ((ref_zgood_c _ hz).re (congrArg B (decide_eq_true h1))) rfl rfl ?_ ?_ ?_ | refine acallQ_sc ((ref_zgood_c _ hz).re (congrArg B (decide_eq_true h1))) rfl rfl ?_ ?_ ?_); iterate 2 (focus ((try simp (disch := omega) only [go_sem, wrap_n]) <;> (try omega) <;> fail))) | ((first | refine zN ((ref_zgood_c _ hz).re (congrArg B (decide_eq_true h1))) rfl ?_ ?_ | refine zN ((in_c t.session 1).re (congrArg B (decide_eq_true h2))) rfl ?_ ?_ | refine zN ((in_c t.version 0).re (congrArg B (decide_eq_true h3))) rfl ?_ ?_ | refine zN ((in_c t.owner 0).re (congrArg B (decide_eq_true h4))) rfl ?_ ?_ | refine zN (ref_good_c t.path hp) rfl ?_ ?_); (focus ((try simp (disch := omega) only [go_sem, wrap_n]) <;> (try omega) <;> fail))) | (first | ((first | refine zX ((ref_zgood_c _ hz).re (congrArg B (decide_eq_true h1))) rfl ?_ ?_ | refine acallH_anyx ((ref_zgood_c _ hz).re (congrArg B (decide_eq_true h1))) ?_ ?_); (focus ((try simp (disch := omega) only [go_sem, wrap_n]) <;> (try omega) <;> fail))) | ((first | refine zX ((in_c t.session 1).re (congrArg B (decide_eq_true h2))) rfl ?_ ?_ | refine acallH_anyx ((in_c t.session 1).re (congrArg B (decide_eq_true h2))) ?_ ?_); (focus ((try simp (disch := omega) only [go_sem, wrap_n]) <;> (try omega) <;> fail))) | ((first | refine zX ((in_c t.version 0).re (congrArg B (decide_eq_true h3))) rfl ?_ ?_ | refine acallH_anyx ((in_c t.version 0).re (congrArg B (decide_eq_true h3))) ?_ ?_); (focus ((try simp (disch := omega) only [go_sem, wrap_n]) <;> (try omega) <;> fail))) | ((first | refine zX ((in_c t.owner 0).re (congrArg B (decide_eq_true h4))) rfl ?_ ?_ | refine acallH_anyx ((in_c t.owner 0).re (congrArg B (decide_eq_true h4))) ?_ ?_); (focus ((try simp (disch := omega) only [go_sem, wrap_n]) <;> (try omega) <;> fail))) | ((first | refine zX (ref_good_c t.path hp) rfl ?_ ?_ | refine acallH_anyx (ref_good_c t.path hp) ?_ ?_); (focus ((try simp (disch := omega) only [go_sem, wrap_n]) <;> (try omega) <;> fail)))) | ((first | (with_reducible refine aunder_i ?_ ?_ <;> intro hg) | with_reducible intro hg) <;> (first | (exfalso; simp at hg; done) | (have hg' := hg; (try simp only [hcs, beq_iff_eq, ge_iff_le, gt_iff_lt] at hg'); (try simp only [hg]))))) <;> (try simp (disch := omega) only [go_sem, wrap_n]) <;> (repeat' with_reducible refine And.intro ?_ ?_) <;> (try (with_reducible refine hK _ ?_; clear hK K)))
| omega)
  all_goals first | omega | skip
  all_goals first
    | (rw [if_pos (by simp_all [badT, or_assoc])]; (refine zF rfl ?_ ?_ ?_ ?_; (iterate 3 (focus ((try simp (disch := omega) only [go_sem, wrap_n]) <;> (try omega) <;> fail))); (try simp (disch := omega) only [go_sem, wrap_n, I, B, S, inj, List.cons.injEq, and_true, true_and, and_self])); done)
    | (rw [if_neg (by simp_all [badT, or_assoc])]; (refine zF rfl ?_ ?_ ?_ ?_; (iterate 3 (focus ((try simp (disch := omega) only [go_sem, wrap_n]) <;> (try omega) <;> fail))); (try simp (disch := omega) only [go_sem, wrap_n, I, B, S, inj, List.cons.injEq, and_true, true_and, and_self])); done)
    | trace_state
end Go.Proofs.YtmpfhalheaeibaaDoor
namespace Go.Proofs.YtmpfhalheaeibaaDoor
set_option linter.unusedVariables false
set_option linter.unusedSimpArgs false
open Go Go.RowKit
set_option maxRecDepth 100000
set_option linter.unusedSimpArgs false
def stepN (c : Nat) : Nat := (c / 2) ^^^ (if c % 2 = 1 then 3988292384 else 0)
def stepsN : Nat → Nat → Nat
  | 0, c => c
  | k + 1, c => stepN (stepsN k c)
def byteN (c : Nat) (b : UInt8) : Nat := stepsN 8 (c ^^^ b.toNat)
def crcN (s : List UInt8) : Nat := s.foldl byteN 4294967295
def sumN (s : List UInt8) : Nat := 4294967295 - crcN s
theorem stepN_lt {c : Nat} (h : c < 4294967296) : stepN c < 4294967296 := by
  unfold stepN
  exact Nat.xor_lt_two_pow (n := 32) (by omega) (by split <;> decide)
theorem stepsN_lt {c : Nat} (h : c < 4294967296) : ∀ k, stepsN k c < 4294967296
  | 0 => h
  | k + 1 => stepN_lt (stepsN_lt h k)
theorem byteN_lt {c : Nat} (b : UInt8) (h : c < 4294967296) : byteN c b < 4294967296 :=
  stepsN_lt (Nat.xor_lt_two_pow (n := 32) h (Nat.lt_trans b.toNat_lt (by decide))) 8
theorem crcN_snoc (s : List UInt8) (k : Nat) (h : k < s.length) : crcN (s.take (k + 1)) = byteN (crcN (s.take k)) (s.getD k 0) := by
  unfold crcN
  have : s.take (k + 1) = s.take k ++ [s.getD k 0] := take_snoc s k h
  rw [this, List.foldl_append]; rfl
theorem crcN_lt (s : List UInt8) : crcN s < 4294967296 := by
  unfold crcN
  have : ∀ (l : List UInt8) (c : Nat), c < 4294967296 → l.foldl byteN c < 4294967296 := by
    intro l
    induction l with
    | nil => intro c h; exact h
    | cons b l ih => intro c h; exact ih _ (byteN_lt b h)
  exact this s _ (by decide)
theorem and1 (c : Nat) (h : c < 4294967296) : bits .and .u32 (c : Int) 1 = ((c % 2 : Nat) : Int) := by
  have := u32_and_nat c 1 h (by decide)
  rw [Nat.and_one_is_mod] at this; exact this
theorem half1 (c : Nat) : (c : Int) / 2 = ((c / 2 : Nat) : Int) := by omega
theorem xorp (c : Nat) (h : c < 4294967296) : bits .xor .u32 (c : Int) 3988292384 = ((c ^^^ 3988292384 : Nat) : Int) := u32_xor_nat c _ h (by decide)
theorem u8_lt32 (b : UInt8) : b.toNat < 4294967296 := Nat.lt_trans b.toNat_lt (by decide)
theorem step_odd {c : Nat} (h : c % 2 = 1) : stepN c = c / 2 ^^^ 3988292384 := by unfold stepN; rw [if_pos h]
theorem step_even {c : Nat} (h : ¬ c % 2 = 1) : stepN c = c / 2 := by unfold stepN; rw [if_neg h, Nat.xor_zero]
theorem crc_nil : crcN [] = 4294967295 := rfl
theorem wrap_u8_32 (b : UInt8) : IntKind.u32.wrap (b.toNat : Int) = (b.toNat : Int) := by
  have := b.toNat_lt
  rw [IntKind.wrap_u32']; omega
theorem not32 (c : Nat) (h : c < 4294967296) : bits .xor .u32 (if IntKind.u32.signed = true then -1 else IntKind.u32.max) (c : Int) = ((4294967295 - c : Nat) : Int) := by
  have e : (if IntKind.u32.signed = true then (-1 : Int) else IntKind.u32.max) = ((4294967295 : Nat) : Int) := by decide
  rw [e, u32_xor_nat _ _ (by decide) h]
  congr 1
  have : 4294967295 - c = 2 ^ 32 - (c + 1) := by omega
  apply Nat.eq_of_testBit_eq
  intro i
  rw [Nat.testBit_xor, this, Nat.testBit_two_pow_sub_succ h, show 4294967295 = 2 ^ 32 - 1 from rfl, Nat.testBit_two_pow_sub_one]
  by_cases hi : i < 32
  · simp [hi]
  · have : c.testBit i = false := Nat.testBit_lt_two_pow (Nat.lt_of_lt_of_le h (Nat.pow_le_pow_right (by decide) (by omega) : 2 ^ 32 ≤ 2 ^ i))
    simp [hi, this]
theorem eq_one (n : Nat) : (((n : Nat) : Int) = 1) = (n = 1) := by rw [eq_iff_iff]; omega
theorem sum_c (s : List UInt8) (h : okS s) : acall Tryd.prog [] 78 [S s] (ret (I (sumN s))) := by
  unfold okS at h
  refine acall_of tabOk Tryd.func78 rfl (by kernel_rfl) (by simp [Tryd.ntmps78]) ?_; simp only [Tryd.ntmps78, Tryd.results78, List.toList_toArray, apar, List.length_nil, List.length_cons, Nat.reduceAdd]
  (repeat' first
| (with_reducible refine AR.f ?_)
| refine blkA_x (by decide) ?_
| (with_reducible refine AWP.cond rfl ?_ ?_ <;> intro hc <;> (try simp only [hcs, beq_iff_eq, ge_iff_le, gt_iff_lt] at hc))
| ((first | ((first | (with_reducible first | refine zR ?_ | refine zQ (by decide +kernel) ?_ | refine zD (by decide +kernel) ?_ | refine zE (by decide +kernel) ?_ | refine zG (by decide +kernel) ?_)); intro K hK) | ((first | (with_reducible refine aunder_i ?_ ?_ <;> intro hg) | with_reducible intro hg) <;> (first | (exfalso; simp at hg; done) | (have hg' := hg; (try simp only [hcs, beq_iff_eq, ge_iff_le, gt_iff_lt] at hg'); (try simp only [hg]))))) <;> (try simp (disch := omega) only [go_sem, wrap_n]) <;> (repeat' with_reducible refine And.intro ?_ ?_) <;> (try (with_reducible refine hK _ ?_; clear hK K)))
| omega)
  refine AWP.loopS (ι := Nat) (fun k => k ≤ s.length) (fun k => s.length - k) [0] (fun k => [(3, .d (.int .u32 (crcN (s.take k)))), (4, I k)]) 0 ?_ (by simp (disch := omega) only [go_sem, wrap_n, crc_nil, Int.cast_ofNat_Int]) ?_
  · omega
  intro k hk
  have hc0 := crcN_lt (s.take k)
  have hb := u8_lt32 (s.getD k 0)
  have hx : crcN (s.take k) ^^^ (s.getD k 0).toNat < 4294967296 := Nat.xor_lt_two_pow (n := 32) hc0 hb
  simp only [go_sem]
  (repeat' first
| (with_reducible refine AR.f ?_)
| refine blkA_x (by decide) ?_
| (with_reducible refine AWP.cond rfl ?_ ?_ <;> intro hc <;> (try simp only [hcs, beq_iff_eq, ge_iff_le, gt_iff_lt] at hc))
| ((first | ((first | (with_reducible first | refine zR ?_ | refine zQ (by decide +kernel) ?_ | refine zD (by decide +kernel) ?_ | refine zE (by decide +kernel) ?_ | refine zG (by decide +kernel) ?_)); intro K hK) | ((first | (with_reducible refine aunder_i ?_ ?_ <;> intro hg) | with_reducible intro hg) <;> (first | (exfalso; simp at hg; done) | (have hg' := hg; (try simp only [hcs, beq_iff_eq, ge_iff_le, gt_iff_lt] at hg'); (try simp only [hg]))))) <;> (try simp (disch := omega) only [go_sem, wrap_n, u32_xor_nat, wrap_u8_32]) <;> (repeat' with_reducible refine And.intro ?_ ?_) <;> (try (with_reducible refine hK _ ?_; clear hK K)))
| omega)
  · refine AWP.loopS (ι := Nat) (fun j => j ≤ 8) (fun j => 8 - j) [0, 4] (fun j => [(3, .d (.int .u32 (stepsN j (crcN (s.take k) ^^^ (s.getD k 0).toNat)))), (18, I j)]) 0 ?_ (by simp (disch := omega) only [go_sem, wrap_n, stepsN]) ?_
    · omega
    intro j hj
    have hs := stepsN_lt hx j
    have hs2 : stepsN j (crcN (s.take k) ^^^ (s.getD k 0).toNat) / 2 < 4294967296 := by omega
    simp only [go_sem]
    (repeat' first
  | (with_reducible refine AR.f ?_)
  | refine blkA_x (by decide) ?_
  | (with_reducible refine AWP.cond rfl ?_ ?_ <;> intro hc <;> (try simp only [hcs, beq_iff_eq, ge_iff_le, gt_iff_lt] at hc))
  | ((first | ((first | (with_reducible first | refine zR ?_ | refine zQ (by decide +kernel) ?_ | refine zD (by decide +kernel) ?_ | refine zE (by decide +kernel) ?_ | refine zG (by decide +kernel) ?_)); intro K hK) | ((first | (with_reducible refine aunder_i ?_ ?_ <;> intro hg) | with_reducible intro hg) <;> (first | (exfalso; simp at hg; done) | (have hg' := hg; (try simp only [hcs, beq_iff_eq, ge_iff_le, gt_iff_lt] at hg'); (try simp only [hg]))))) <;> (try simp (disch := omega) only [go_sem, wrap_n, and1, half1, xorp, eq_one]) <;> (repeat' with_reducible refine And.intro ?_ ?_) <;> (try (with_reducible refine hK _ ?_; clear hK K)))
  | omega)
    · refine ⟨j + 1, by omega, by omega, ?_⟩
      (refine SImp.same ?_; simp (disch := omega) only [go_sem, wrap_n, Int.natCast_add, stepsN, step_odd hc])
    · refine ⟨j + 1, by omega, by omega, ?_⟩
      (refine SImp.same ?_; simp (disch := omega) only [go_sem, wrap_n, Int.natCast_add, stepsN, step_even hc])
    · have e0 : j = 8 := by omega
      subst e0
      refine ⟨k + 1, by omega, by omega, ?_⟩
      (refine SImp.same ?_; simp (disch := omega) only [go_sem, wrap_n, Int.natCast_add, crcN_snoc, byteN])
  · have e0 : k = s.length := by omega
    subst e0
    rw [List.take_length] at *
    (refine zF rfl ?_ ?_ ?_ ?_; (iterate 3 (focus ((try simp (disch := omega) only [go_sem, wrap_n, not32, sumN]) <;> (try omega) <;> fail))); (try simp (disch := omega) only [go_sem, wrap_n, not32, sumN, I, B, S, inj, List.cons.injEq, and_true, true_and, and_self]))
def cl (l : List Nat) : List AV := l.map fun n : Nat => AV.d (.int .i64 (n : Int))
theorem cl_len (l : List Nat) : (cl l).length = l.length := by simp [cl]
theorem cl_get (l : List Nat) (k : Nat) (h : k < l.length) : (cl l).getD k .any = .d (.int .i64 (l.getD k 0 : Nat)) := by
  unfold cl; rw [List.getD_eq_getElem?_getD, List.getElem?_map, List.getD_eq_getElem?_getD, List.getElem?_eq_getElem h]; rfl
theorem cl_set (l : List Nat) (k v : Nat) : (cl l).set k (.d (.int .i64 (v : Int))) = cl (l.set k v) := by unfold cl; rw [List.map_set]
theorem cl_set1 (l : List Nat) (k : Nat) : (cl l).set k (.d (.int .i64 1)) = cl (l.set k 1) := cl_set l k 1
theorem cl_set0 (l : List Nat) (k : Nat) : (cl l).set k (.d (.int .i64 0)) = cl (l.set k 0) := cl_set l k 0
def reg0 (k : Nat) : List Nat := List.replicate k 1 ++ List.replicate (32 - k) 0
theorem reg0_len (k : Nat) (h : k ≤ 32) : (reg0 k).length = 32 := by simp [reg0]; omega
theorem reg0_set (k : Nat) (h : k < 32) : (reg0 k).set k 1 = reg0 (k + 1) := by
  unfold reg0
  rw [List.set_append_right _ _ (by simp), List.length_replicate, Nat.sub_self, show 32 - k = (32 - (k + 1)) + 1 from by omega, List.replicate_succ, List.set_cons_zero, List.replicate_succ' (n := k), List.append_assoc]; rfl
theorem cl_start : cl (reg0 0) = List.replicate 32 (.d (.int .i64 0)) := rfl
def bitsOf (c : Nat) : List Nat := (List.range 32).map fun k => c / 2 ^ k % 2
theorem bitsOf_len (c : Nat) : (bitsOf c).length = 32 := by simp [bitsOf]
theorem bitsOf_get (c k : Nat) (h : k < 32) : (bitsOf c).getD k 0 = c / 2 ^ k % 2 := by
  unfold bitsOf; rw [List.getD_eq_getElem?_getD, List.getElem?_map, List.getElem?_range h]; rfl
theorem reg0_full : reg0 32 = bitsOf 4294967295 := by decide
def refR (c b k : Nat) : Nat := stepsN k (c ^^^ b) ^^^ (b / 2 ^ k)
theorem refR_zero (c b : Nat) : refR c b 0 = c := by unfold refR; rw [stepsN, Nat.pow_zero, Nat.div_one, Nat.xor_assoc, Nat.xor_self, Nat.xor_zero]
theorem refR_end (c : Nat) (b : UInt8) : refR c b.toNat 8 = byteN c b := by
  have : b.toNat / 2 ^ 8 = 0 := Nat.div_eq_of_lt b.toNat_lt
  unfold refR; rw [this, Nat.xor_zero]; rfl
theorem refR_lt {c b : Nat} (hc : c < 4294967296) (hb : b < 4294967296) (k : Nat) : refR c b k < 4294967296 :=
  Nat.xor_lt_two_pow (n := 32) (stepsN_lt (Nat.xor_lt_two_pow (n := 32) hc hb) k) (Nat.lt_of_le_of_lt (Nat.div_le_self _ _) hb)
theorem bit_cases (n : Nat) : n % 2 = 0 ∨ n % 2 = 1 := by omega
theorem xor_bits {a b : Nat} (ha : a = 0 ∨ a = 1) (hb : b = 0 ∨ b = 1) : bits .xor .i64 (a : Int) (b : Int) = ((a ^^^ b : Nat) : Int) := by
  rcases ha with rfl | rfl <;> rcases hb with rfl | rfl <;> decide
theorem xor_mod2 (a b : Nat) : (a ^^^ b) % 2 = (a % 2) ^^^ (b % 2) := by
  have := @Nat.xor_mod_two_pow a b 1
  simpa using this
theorem out_eq (c k : Nat) (b : UInt8) : bits .xor .i64 ((refR c b.toNat k / 1 % 2 : Nat) : Int) (IntKind.i64.wrap (bits .and .u8 ((b.toNat : Int) / 2 ^ k) 1)) = ((stepsN k (c ^^^ b.toNat) % 2 : Nat) : Int) := by
  have e0 : (b.toNat : Int) / 2 ^ k = ((b.toNat / 2 ^ k : Nat) : Int) := by rw [Int.natCast_ediv, Int.natCast_pow]; rfl
  have e1 := u8_and_nat (b.toNat / 2 ^ k) 1 (Nat.lt_of_le_of_lt (Nat.div_le_self _ _) b.toNat_lt) (by decide)
  rw [Nat.and_one_is_mod] at e1
  rw [e0, show (1 : Int) = ((1 : Nat) : Int) from rfl, e1, wrap_n _ (by omega) (by omega), Nat.div_one, xor_bits (bit_cases _) (bit_cases _)]
  congr 1
  unfold refR
  rw [xor_mod2, Nat.xor_assoc, Nat.xor_self, Nat.xor_zero]
theorem shift_cl (c : Nat) (h : c < 4294967296) : ((List.take (min 32 31) (List.drop 1 (cl (bitsOf c))) ++ List.drop (min 32 31) (cl (bitsOf c))).set 31 (.d (.int .i64 0))) = cl (bitsOf (c / 2)) := by
  have e : (List.take 31 (List.drop 1 (bitsOf c)) ++ List.drop 31 (bitsOf c)).set 31 0 = bitsOf (c / 2) := by
    refine List.ext_getElem (by simp [bitsOf]) fun j h1 h2 => ?_
    rw [List.getElem_set]
    rw [bitsOf_len] at h2
    split
    · rename_i e; subst e; simp [bitsOf]; omega
    · rw [List.getElem_append_left (by simp [bitsOf]; omega), List.getElem_take, List.getElem_drop]
      simp only [bitsOf, List.getElem_map, List.getElem_range]
      rw [Nat.div_div_eq_div_mul, Nat.pow_add, Nat.pow_one]
  rw [← e, ← cl_set0]
  unfold cl
  rw [List.map_append, List.map_take, List.map_drop, List.map_drop]; rfl
def xorR (c low j : Nat) : List Nat := (List.range 32).map fun t => if t < j then (c / 2 ^ t % 2) ^^^ (low * (3988292384 / 2 ^ t % 2)) else c / 2 ^ t % 2
theorem xorR_len (c low j : Nat) : (xorR c low j).length = 32 := by simp [xorR]
theorem xorR_zero (c low : Nat) : xorR c low 0 = bitsOf c := by simp [xorR, bitsOf]
theorem xorR_get (c low j : Nat) (h : j < 32) : (xorR c low j).getD j 0 = c / 2 ^ j % 2 := by
  unfold xorR; rw [List.getD_eq_getElem?_getD, List.getElem?_map, List.getElem?_range h]; simp
theorem xorR_set (c low j : Nat) (h : j < 32) : (xorR c low j).set j ((c / 2 ^ j % 2) ^^^ (low * (3988292384 / 2 ^ j % 2))) = xorR c low (j + 1) := by
  refine List.ext_getElem (by simp [xorR]) fun t h1 h2 => ?_
  rw [List.getElem_set]
  split
  · rename_i e; subst e; simp [xorR]
  · simp only [xorR, List.getElem_map, List.getElem_range]
    by_cases ht : t < j
    · rw [if_pos ht, if_pos (by omega)]
    · rw [if_neg ht, if_neg (by omega)]
theorem bit_xor (a b t : Nat) : (a ^^^ b) / 2 ^ t % 2 = (a / 2 ^ t % 2) ^^^ (b / 2 ^ t % 2) := by
  rw [← xor_mod2, ← Nat.shiftRight_eq_div_pow, ← Nat.shiftRight_eq_div_pow, ← Nat.shiftRight_eq_div_pow, Nat.shiftRight_xor_distrib]
theorem xorR_full (c p : Nat) : xorR c (p % 2) 32 = bitsOf (c ^^^ (if p % 2 = 1 then 3988292384 else 0)) := by
  refine List.ext_getElem (by simp [xorR, bitsOf]) fun t h1 h2 => ?_
  rw [xorR_len] at h1
  simp only [xorR, bitsOf, List.getElem_map, List.getElem_range]
  rw [if_pos h1, bit_xor]
  rcases bit_cases p with e | e <;> rw [e] <;> simp
theorem refR_next (c b k : Nat) : refR c b k / 2 ^^^ (if stepsN k (c ^^^ b) % 2 = 1 then 3988292384 else 0) = refR c b (k + 1) := by
  unfold refR
  rw [stepsN, stepN]
  have e : ∀ a b : Nat, (a ^^^ b) / 2 = (a / 2) ^^^ (b / 2) := fun a b => by
    have := @Nat.shiftRight_xor_distrib 1 a b
    simpa [Nat.shiftRight_eq_div_pow] using this
  rw [e, Nat.div_div_eq_div_mul, ← Nat.pow_succ]
  generalize stepsN k (c ^^^ b) / 2 = x
  generalize b / 2 ^ (k + 1) = y
  generalize (if stepsN k (c ^^^ b) % 2 = 1 then 3988292384 else 0) = z
  rw [Nat.xor_assoc, Nat.xor_assoc, Nat.xor_comm y z]
theorem wrap_u64n (n : Int) (h1 : 0 ≤ n) (h2 : n ≤ 18446744073709551615) : IntKind.u64.wrap n = n := by
  simp [IntKind.wrap, IntKind.bits, IntKind.signed]; omega
theorem wrap_i64n (n : Int) (h0 : 0 ≤ n) (h : n < 2 ^ 62) : IntKind.i64.wrap n = n := wrap_n n (by omega) (by omega)
theorem poly_bit (j : Nat) : bits .and .i64 (3988292384 / 2 ^ j) 1 = ((3988292384 / 2 ^ j % 2 : Nat) : Int) := by
  have e0 : (3988292384 : Int) / 2 ^ j = ((3988292384 / 2 ^ j : Nat) : Int) := by rw [Int.natCast_ediv, Int.natCast_pow]; rfl
  have := (bits_nat .i64 62 (by decide) wrap_i64n (3988292384 / 2 ^ j) 1 (Nat.lt_of_le_of_lt (Nat.div_le_self _ _) (by decide)) (by decide)).1
  rw [Nat.and_one_is_mod] at this
  rw [e0]; exact this
theorem low_mul (p q : Nat) : IntKind.i64.wrap (((p % 2 : Nat) : Int) * ((q % 2 : Nat) : Int)) = ((p % 2 * (q % 2) : Nat) : Int) := by
  rcases bit_cases p with e | e <;> rcases bit_cases q with e2 | e2 <;> rw [e, e2] <;> decide
theorem xor_low (a p q : Nat) : bits .xor .i64 ((a % 2 : Nat) : Int) ((p % 2 * (q % 2) : Nat) : Int) = ((a % 2 ^^^ (p % 2 * (q % 2)) : Nat) : Int) :=
  xor_bits (bit_cases _) (by rcases bit_cases p with e | e <;> rcases bit_cases q with e2 | e2 <;> rw [e, e2] <;> simp)
theorem comp_bit (c j : Nat) (h : c < 4294967296) (hj : j < 32) : (4294967295 - c) / 2 ^ j = 2 * ((4294967295 - c) / 2 ^ (j + 1)) + 1 - c / 2 ^ j % 2 := by
  have e1 : (4294967295 - c) / 2 ^ j % 2 = 1 - c / 2 ^ j % 2 := by
    have := Nat.testBit_two_pow_sub_succ (n := 32) h j
    rw [show 2 ^ 32 - (c + 1) = 4294967295 - c from by omega] at this
    rw [Nat.testBit_eq_decide_div_mod_eq, Nat.testBit_eq_decide_div_mod_eq, decide_eq_true hj, Bool.true_and] at this
    rcases bit_cases (c / 2 ^ j) with e | e <;> rcases bit_cases ((4294967295 - c) / 2 ^ j) with e2 | e2 <;> rw [e, e2] at this <;> simp at this <;> omega
  have e2 : (4294967295 - c) / 2 ^ (j + 1) = (4294967295 - c) / 2 ^ j / 2 := by rw [Nat.div_div_eq_div_mul, Nat.pow_succ]
  rw [e2]
  have := bit_cases (c / 2 ^ j)
  omega
theorem ref_sum_c (s : List UInt8) (h : okS s) : acall Tryd.prog [] 80 [S s] (ret (I (sumN s))) := by
  unfold okS at h
  refine acall_of tabOk Tryd.func80 rfl (by kernel_rfl) (by simp [Tryd.ntmps80]) ?_; simp only [Tryd.ntmps80, Tryd.results80, List.toList_toArray, apar, List.length_nil, List.length_cons, Nat.reduceAdd]
  (repeat' first
| (with_reducible refine AR.f ?_)
| refine blkA_x (by decide) ?_
| (with_reducible refine AWP.cond rfl ?_ ?_ <;> intro hc <;> (try simp only [hcs, beq_iff_eq, ge_iff_le, gt_iff_lt] at hc))
| ((first | ((first | (with_reducible first | refine zR ?_ | refine zQ (by decide +kernel) ?_ | refine zD (by decide +kernel) ?_ | refine zE (by decide +kernel) ?_ | refine zG (by decide +kernel) ?_)); intro K hK) | ((first | (with_reducible refine aunder_i ?_ ?_ <;> intro hg) | with_reducible intro hg) <;> (first | (exfalso; simp at hg; done) | (have hg' := hg; (try simp only [hcs, beq_iff_eq, ge_iff_le, gt_iff_lt] at hg'); (try simp only [hg]))))) <;> (try simp (disch := omega) only [go_sem, wrap_n]) <;> (repeat' with_reducible refine And.intro ?_ ?_) <;> (try (with_reducible refine hK _ ?_; clear hK K)))
| omega)
  refine AWP.loopB (ι := Nat) (fun k => k ≤ 32) (fun k => 32 - k) [0, 3] (fun k => [(12, I k)]) (fun k => [.cells (cl (reg0 k))]) 0 ?_ ?_ ?_
  · omega
  · rw [cl_start]; simp only [go_sem]; (refine SImp.same ?_; simp (disch := omega) only [go_sem, wrap_n, Int.natCast_add])
  intro k hk
  have hl := reg0_len k hk
  simp only [go_sem]
  (repeat' first
| (with_reducible refine AR.f ?_)
| refine blkA_x (by decide) ?_
| (with_reducible refine AWP.cond rfl ?_ ?_ <;> intro hc <;> (try simp only [hcs, beq_iff_eq, ge_iff_le, gt_iff_lt] at hc))
| ((first | ((first | (with_reducible first | refine zR ?_ | refine zQ (by decide +kernel) ?_ | refine zD (by decide +kernel) ?_ | refine zE (by decide +kernel) ?_ | refine zG (by decide +kernel) ?_)); intro K hK) | ((first | (with_reducible refine aunder_i ?_ ?_ <;> intro hg) | with_reducible intro hg) <;> (first | (exfalso; simp at hg; done) | (have hg' := hg; (try simp only [hcs, beq_iff_eq, ge_iff_le, gt_iff_lt] at hg'); (try simp only [hg]))))) <;> (try simp (disch := omega) only [go_sem, wrap_n, cl_len, reg0_len, Nat.mul_one, cl_set1, reg0_set]) <;> (repeat' with_reducible refine And.intro ?_ ?_) <;> (try (with_reducible refine hK _ ?_; clear hK K)))
| omega)
  · refine ⟨k + 1, by omega, by omega, ?_⟩
    (refine SImp.same ?_; simp (disch := omega) only [go_sem, wrap_n, Int.natCast_add])
  · have e0 : k = 32 := by omega
    subst e0
    rw [reg0_full]
    refine AWP.loopB (ι := Nat) (fun i => i ≤ s.length) (fun i => s.length - i) [3, 19, 20] (fun i => [(21, I i)]) (fun i => [.cells (cl (bitsOf (crcN (s.take i)))), .bytes s]) 0 ?_ ?_ ?_
    · omega
    · simp only [go_sem, crc_nil]; (refine SImp.same ?_; simp (disch := omega) only [go_sem, wrap_n, Int.natCast_add])
    intro i hi
    have hc0 := crcN_lt (s.take i)
    simp only [go_sem]
    (repeat' first
  | (with_reducible refine AR.f ?_)
  | refine blkA_x (by decide) ?_
  | (with_reducible refine AWP.cond rfl ?_ ?_ <;> intro hc <;> (try simp only [hcs, beq_iff_eq, ge_iff_le, gt_iff_lt] at hc))
  | ((first | ((first | (with_reducible first | refine zR ?_ | refine zQ (by decide +kernel) ?_ | refine zD (by decide +kernel) ?_ | refine zE (by decide +kernel) ?_ | refine zG (by decide +kernel) ?_)); intro K hK) | ((first | (with_reducible refine aunder_i ?_ ?_ <;> intro hg) | with_reducible intro hg) <;> (first | (exfalso; simp at hg; done) | (have hg' := hg; (try simp only [hcs, beq_iff_eq, ge_iff_le, gt_iff_lt] at hg'); (try simp only [hg]))))) <;> (try simp (disch := omega) only [go_sem, wrap_n, u8g]) <;> (repeat' with_reducible refine And.intro ?_ ?_) <;> (try (with_reducible refine hK _ ?_; clear hK K)))
  | omega)
    · refine AWP.loopB (ι := Nat) (fun k => k ≤ 8) (fun k => 8 - k) [3, 6, 19, 20, 21] (fun k => [(7, .d (.int .u64 k))]) (fun k => [.cells (cl (bitsOf (refR (crcN (s.take i)) (s.getD i 0).toNat k))), .bytes s]) 0 ?_ ?_ ?_
      · omega
      · simp only [go_sem, refR_zero]; (refine SImp.same ?_; simp (disch := omega) only [go_sem, wrap_n, Int.natCast_add])
      intro k hk
      have hr := refR_lt hc0 (u8_lt32 (s.getD i 0)) k
      have hbl := bitsOf_len (refR (crcN (s.take i)) (s.getD i 0).toNat k)
      simp only [go_sem]
      (repeat' first
    | (with_reducible refine AR.f ?_)
    | refine blkA_x (by decide) ?_
    | (with_reducible refine AWP.cond rfl ?_ ?_ <;> intro hc <;> (try simp only [hcs, beq_iff_eq, ge_iff_le, gt_iff_lt] at hc))
    | ((first | ((first | (with_reducible first | refine zR ?_ | refine zQ (by decide +kernel) ?_ | refine zD (by decide +kernel) ?_ | refine zE (by decide +kernel) ?_ | refine zG (by decide +kernel) ?_)); intro K hK) | ((first | (with_reducible refine aunder_i ?_ ?_ <;> intro hg) | with_reducible intro hg) <;> (first | (exfalso; simp at hg; done) | (have hg' := hg; (try simp only [hcs, beq_iff_eq, ge_iff_le, gt_iff_lt] at hg'); (try simp only [hg]))))) <;> (try simp (disch := omega) only [go_sem, wrap_n, cl_len, bitsOf_len, cl_get, bitsOf_get, cl_set0]) <;> (repeat' with_reducible refine And.intro ?_ ?_) <;> (try (with_reducible refine hK _ ?_; clear hK K)))
    | omega)
      · rw [shift_cl _ hr, out_eq]
        refine AWP.loopB (ι := Nat) (fun j => j ≤ 32) (fun j => 32 - j) [3, 6, 7, 8, 19, 20, 21] (fun j => [(41, I j)]) (fun j => [.cells (cl (xorR (refR (crcN (s.take i)) (s.getD i 0).toNat k / 2) (stepsN k (crcN (s.take i) ^^^ (s.getD i 0).toNat) % 2) j)), .bytes s]) 0 ?_ ?_ ?_
        · omega
        · simp only [go_sem, xorR_zero]; (refine SImp.same ?_; simp (disch := omega) only [go_sem, wrap_n, Int.natCast_add])
        intro j hj
        have hxl := xorR_len (refR (crcN (s.take i)) (s.getD i 0).toNat k / 2) (stepsN k (crcN (s.take i) ^^^ (s.getD i 0).toNat) % 2) j
        simp only [go_sem]
        (repeat' first
      | (with_reducible refine AR.f ?_)
      | refine blkA_x (by decide) ?_
      | (with_reducible refine AWP.cond rfl ?_ ?_ <;> intro hc <;> (try simp only [hcs, beq_iff_eq, ge_iff_le, gt_iff_lt] at hc))
      | ((first | ((first | (with_reducible first | refine zR ?_ | refine zQ (by decide +kernel) ?_ | refine zD (by decide +kernel) ?_ | refine zE (by decide +kernel) ?_ | refine zG (by decide +kernel) ?_)); intro K hK) | ((first | (with_reducible refine aunder_i ?_ ?_ <;> intro hg) | with_reducible intro hg) <;> (first | (exfalso; simp at hg; done) | (have hg' := hg; (try simp only [hcs, beq_iff_eq, ge_iff_le, gt_iff_lt] at hg'); (try simp only [hg]))))) <;> (try simp (disch := omega) only [go_sem, wrap_n, Nat.mul_one, cl_len, xorR_len, cl_get, xorR_get, wrap_u64n, poly_bit, low_mul, xor_low, cl_set, xorR_set]) <;> (repeat' with_reducible refine And.intro ?_ ?_) <;> (try (with_reducible refine hK _ ?_; clear hK K)))
      | omega)
        · refine ⟨j + 1, by omega, by omega, ?_⟩
          (refine SImp.same ?_; simp (disch := omega) only [go_sem, wrap_n, Int.natCast_add])
        · have e0 : j = 32 := by omega
          subst e0
          refine ⟨k + 1, by omega, by omega, ?_⟩
          rw [xorR_full, refR_next]
          (refine SImp.same ?_; simp (disch := omega) only [go_sem, wrap_n, Int.natCast_add, wrap_u64n])
      · have e0 : k = 8 := by omega
        subst e0
        refine ⟨i + 1, by omega, by omega, ?_⟩
        rw [refR_end, ← crcN_snoc _ _ (by omega)]
        (refine SImp.same ?_; simp (disch := omega) only [go_sem, wrap_n, Int.natCast_add])
    · have e0 : i = s.length := by omega
      subst e0
      rw [List.take_length] at *
      have hbl := bitsOf_len (crcN s)
      have hM : ∀ j, (4294967295 - crcN s) / 2 ^ j ≤ 4294967295 := fun j => Nat.le_trans (Nat.div_le_self _ _) (Nat.sub_le _ _)
      have hz : (4294967295 - crcN s) / 4294967296 = 0 := Nat.div_eq_of_lt (by omega)
      refine AWP.loopB (ι := Nat) (fun j => j ≤ 32) (fun j => j) [3] (fun j => [(10, I ((4294967295 - crcN s) / 2 ^ j : Nat)), (11, I ((j : Int) - 1))]) (fun j => [.cells (cl (bitsOf (crcN s))), .bytes s]) 32 ?_ ?_ ?_
      · omega
      · simp only [go_sem]; (refine SImp.same ?_; simp (disch := omega) only [go_sem, wrap_n, Int.natCast_add, hz])
      intro j hj
      have hMj := hM j
      have hb2 := bit_cases (crcN s / 2 ^ (j - 1))
      simp only [go_sem]
      (repeat' first
    | (with_reducible refine AR.f ?_)
    | refine blkA_x (by decide) ?_
    | (with_reducible refine AWP.cond rfl ?_ ?_ <;> intro hc <;> (try simp only [hcs, beq_iff_eq, ge_iff_le, gt_iff_lt] at hc))
    | ((first | ((first | (with_reducible first | refine zR ?_ | refine zQ (by decide +kernel) ?_ | refine zD (by decide +kernel) ?_ | refine zE (by decide +kernel) ?_ | refine zG (by decide +kernel) ?_)); intro K hK) | ((first | (with_reducible refine aunder_i ?_ ?_ <;> intro hg) | with_reducible intro hg) <;> (first | (exfalso; simp at hg; done) | (have hg' := hg; (try simp only [hcs, beq_iff_eq, ge_iff_le, gt_iff_lt] at hg'); (try simp only [hg]))))) <;> (try simp (disch := omega) only [go_sem, wrap_n, Nat.mul_one, cl_len, bitsOf_len, toNat_pr2, cl_get, bitsOf_get]) <;> (repeat' with_reducible refine And.intro ?_ ?_) <;> (try (with_reducible refine hK _ ?_; clear hK K)))
    | omega)
      · refine ⟨j - 1, by omega, by omega, ?_⟩
        have e1 := comp_bit (crcN s) (j - 1) (by omega) (by omega)
        rw [show j - 1 + 1 = j from by omega] at e1
        have e2 : 2 * (((4294967295 - crcN s) / 2 ^ j : Nat) : Int) + 1 - ((crcN s / 2 ^ (j - 1) % 2 : Nat) : Int) = (((4294967295 - crcN s) / 2 ^ (j - 1) : Nat) : Int) := by omega
        have e3 : (j : Int) - 1 = ((j - 1 : Nat) : Int) := by omega
        simp only [e3]
        (refine SImp.same ?_; simp (disch := omega) only [go_sem, wrap_n, Int.natCast_add, e2])
      · have e0 : j = 0 := by omega
        subst e0
        (refine zF rfl ?_ ?_ ?_ ?_; (iterate 3 (focus ((try simp (disch := omega) only [go_sem, wrap_n, sumN, Nat.pow_zero, Nat.div_one]) <;> (try omega) <;> fail))); (try simp (disch := omega) only [go_sem, wrap_n, sumN, Nat.pow_zero, Nat.div_one, I, B, S, inj, List.cons.injEq, and_true, true_and, and_self]))
end Go.Proofs.YtmpfhalheaeibaaDoor
namespace Go.Proofs.YtmpfhalheaeibaaDoor
set_option linter.unusedVariables false
set_option linter.unusedSimpArgs false
open Go Go.RowKit
set_option maxRecDepth 100000
set_option linter.unusedSimpArgs false
end Go.Proofs.YtmpfhalheaeibaaDoor
namespace Go.Proofs.YtmpfhalheaeibaaDoor
set_option linter.unusedVariables false
set_option linter.unusedSimpArgs false
open Go Go.RowKit
set_option maxRecDepth 100000
set_option linter.unusedSimpArgs false
theorem goodP_len {s : List UInt8} (h : goodP s = true) : s.length ≤ 200 := by
  unfold goodP at h
  rw [Bool.or_eq_true, decide_eq_true_eq, Bool.and_eq_true, decide_eq_true_eq] at h
  rcases h with h | h
  · subst h; decide
  · exact h.1
end Go.Proofs.YtmpfhalheaeibaaDoor
