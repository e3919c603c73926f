/- A part of what TreePlays leans on: texts of this claim, one behind the other. No condition. -/
import Derived.Test.YtmpfhalheaeibaaDoorTreePlaysK8
namespace Go.Proofs.YtmpfhalheaeibaaDoor
set_option linter.unusedVariables false
set_option linter.unusedSimpArgs false
open Go Go.RowKit
set_option maxRecDepth 100000
set_option linter.unusedSimpArgs false
theorem arith1 (i : Nat) : ((i : Int) + 1).toNat = i + 1 := by omega
theorem arith2 (i n : Nat) (h : i ≤ n) : ((n : Int) - i).toNat = n - i := by omega
theorem arith3 (i n : Nat) (h : i ≤ n + 1) : ((n : Int) + 1 - i).toNat = n + 1 - i := by omega
theorem arith4 (i n : Nat) (h : i ≤ n + 1) : ((n : Int) + 1 - i) = ((n + 1 - i : Nat) : Int) := by omega
theorem erase_eq {α : Type} (R : List α) (i : Nat) : R.eraseIdx i = R.take i ++ R.drop (i + 1) := List.eraseIdx_eq_take_drop_succ R i
theorem del_rows {α : Type} {R junk X z t : List α} {i q m : Nat} (h : i < R.length) (hq : q = R.length - 1) (hm : m = R.length - (i + 1)) :
    List.take q (List.take q (List.take i (R ++ junk) ++ List.take m (List.drop (i + 1) (R ++ junk)) ++ X) ++ z ++ t) = R.eraseIdx i := by
  have e1 : List.take i (R ++ junk) = R.take i := List.take_append_of_le_length (by omega)
  have e2 : List.take m (List.drop (i + 1) (R ++ junk)) = R.drop (i + 1) := by
    rw [List.drop_append_of_le_length (by omega), hm]
    have : R.length - (i + 1) = (R.drop (i + 1)).length := by simp
    rw [this, List.take_append_of_le_length (Nat.le_refl _), List.take_length]
  have e3 : (R.take i ++ R.drop (i + 1)).length = q := by simp; omega
  rw [e1, e2, erase_eq]
  have e4 : List.take q (R.take i ++ R.drop (i + 1) ++ X) = R.take i ++ R.drop (i + 1) := by
    rw [← e3, List.take_append_of_le_length (Nat.le_refl _), List.take_length]
  rw [e4, List.append_assoc, ← e3, List.take_append_of_le_length (Nat.le_refl _), List.take_length]
theorem del_last {α : Type} {R junk X z t : List α} {i q : Nat} (h : i + 1 = R.length) (hq : q = i) :
    List.take q (List.take q (List.take i (R ++ junk) ++ X) ++ z ++ t) = R.eraseIdx i := by
  subst hq
  have e1 : List.take q (R ++ junk) = R.take q := List.take_append_of_le_length (by omega)
  have e3 : (R.take q).length = q := by simp; omega
  have e2 : R.drop (q + 1) = [] := List.drop_eq_nil_of_le (by omega)
  have e4 : List.take q (R.take q ++ X) = R.take q := by
    have := List.take_append_of_le_length (l₁ := R.take q) (l₂ := X) (i := q) (by omega)
    rw [this, List.take_of_length_le (by omega)]
  rw [e1, e4, erase_eq, e2, List.append_nil, List.append_assoc]
  have := List.take_append_of_le_length (l₁ := R.take q) (l₂ := z ++ t) (i := q) (by omega)
  rw [this, List.take_of_length_le (by omega)]
theorem ins_eq {α : Type} (R : List α) (i : Nat) (x : α) (h : i ≤ R.length) : R.insertIdx i x = R.take i ++ x :: R.drop i := by
  induction R generalizing i with
  | nil => have : i = 0 := by simpa using h
           subst this; rfl
  | cons a R ih =>
    cases i with
    | zero => rfl
    | succ i => simp only [List.insertIdx_succ_cons, List.take_succ_cons, List.drop_succ_cons, List.cons_append]; rw [ih i (by simpa using h)]
theorem erase_map {α β : Type} (f : α → β) (l : List α) (i : Nat) : (l.map f).eraseIdx i = (l.eraseIdx i).map f := by rw [erase_eq, erase_eq, List.map_append, List.map_take, List.map_drop]
theorem erase_len {α : Type} (l : List α) (i : Nat) (h : i < l.length) : (l.eraseIdx i).length = l.length - 1 := List.length_eraseIdx_of_lt h
theorem getD_ins {α : Type} (l : List α) (i : Nat) (x z : α) (h : i ≤ l.length) : (l.insertIdx i x).getD i z = x := by
  rw [ins_eq _ _ _ h, List.getD_eq_getElem?_getD, List.getElem?_append_right (by rw [List.length_take]; omega)]
  have : i - (l.take i).length = 0 := by rw [List.length_take]; omega
  rw [this]; rfl
theorem ins_len {α : Type} (l : List α) (i : Nat) (x : α) (h : i ≤ l.length) : (l.insertIdx i x).length = l.length + 1 := by rw [ins_eq _ _ _ h]; simp; omega
theorem ins_get_lt {α : Type} (l : List α) (i k : Nat) (x z : α) (h : i ≤ l.length) (hk : k < i) : (l.insertIdx i x).getD k z = l.getD k z := by
  rw [ins_eq _ _ _ h, List.getD_eq_getElem?_getD, List.getElem?_append_left (by rw [List.length_take]; omega), List.getElem?_take_of_lt hk, List.getD_eq_getElem?_getD]
theorem take_map_snoc {α β : Type} (f : α → β) (l : List α) (x : α) : (List.map f (l ++ [x])).take (l.length + 1) = List.map f (l ++ [x]) := List.take_of_length_le (by simp)
theorem take_exact {α : Type} {A B : List α} {n : Nat} (h : n = A.length) : (A ++ B).take n = A := by subst h; simp
theorem drop_exact {α : Type} {A B : List α} {n : Nat} (h : n = A.length) : (A ++ B).drop n = B := by subst h; simp
theorem mid_rows {α : Type} {R J : List α} {i a b : Nat} (h : i ≤ R.length) (ha : a = R.length - i) (hb : R.length - i ≤ b) : List.take a (List.take b (List.drop i (R ++ J))) = R.drop i := by
  rw [List.take_take, Nat.min_eq_left (by omega), List.drop_append_of_le_length h]
  exact take_exact (by simp; omega)
theorem ins_in {α : Type} {R J X : List α} {r : α} {i a b c d : Nat} (h : i < R.length) (ha : a = R.length - i) (hb : R.length - i ≤ b) (hc : 1 ≤ c) (hd : d = 1) :
    List.take (R.length + 1) (List.take i (List.take (i + 1) (R ++ J) ++ List.take a (List.take b (List.drop i (R ++ J))) ++ X) ++ List.take c [r] ++ List.drop (i + d) (List.take (i + 1) (R ++ J) ++ List.take a (List.take b (List.drop i (R ++ J))) ++ X)) = R.insertIdx i r := by
  subst hd
  have e1 : List.take (i + 1) (R ++ J) = R.take (i + 1) := List.take_append_of_le_length (by omega)
  have e2 : (R.take (i + 1)).length = i + 1 := by simp; omega
  have e3 : List.take c [r] = [r] := List.take_of_length_le (by simpa using hc)
  rw [mid_rows (by omega) ha hb, e1, e3, List.append_assoc (List.take (i + 1) R), drop_exact (n := i + 1) e2.symm, ins_eq _ _ _ (by omega)]
  have e4 : List.take i (List.take (i + 1) R ++ (List.drop i R ++ X)) = R.take i := by
    rw [List.take_append_of_le_length (by rw [e2]; omega), List.take_take, Nat.min_eq_left (by omega)]
  rw [e4]
  have : List.take i R ++ [r] ++ (List.drop i R ++ X) = (List.take i R ++ r :: List.drop i R) ++ X := by simp
  rw [this]
  exact take_exact (by simp; omega)
theorem ins_grow {α : Type} {R J : List α} {r z : α} {i m c d e f g : Nat} (h : i < R.length) (hm : m = R.length + 1 - i) (hc : 1 ≤ c) (hd : d = 1) (he : e = R.length - i) (hf : R.length - i ≤ f) (hg : g = R.length + 1) :
    List.take (i + 1) (List.take i (List.take i (R ++ J) ++ List.replicate m z) ++ List.take c [r] ++ List.drop (i + d) (List.take i (R ++ J) ++ List.replicate m z)) ++ List.take e (List.take f (List.drop i (R ++ J))) ++
      List.drop g (List.take i (List.take i (R ++ J) ++ List.replicate m z) ++ List.take c [r] ++ List.drop (i + d) (List.take i (R ++ J) ++ List.replicate m z)) = R.insertIdx i r := by
  subst hd; subst hm; subst hg
  have e1 : List.take i (R ++ J) = R.take i := List.take_append_of_le_length (by omega)
  have e2 : (R.take i).length = i := by simp; omega
  have e3 : List.take c [r] = [r] := List.take_of_length_le (by simpa using hc)
  rw [mid_rows (by omega) he hf, e1, e3, take_exact (n := i) e2.symm, ins_eq _ _ _ (by omega)]
  have e4 : (List.take i R ++ [r]).length = i + 1 := by simp; omega
  have e5 : List.drop (R.length + 1) (List.take i R ++ [r] ++ List.drop (i + 1) (List.take i R ++ List.replicate (R.length + 1 - i) z)) = [] := List.drop_eq_nil_of_le (by simp; omega)
  rw [e5, take_exact e4.symm, List.append_nil, List.append_assoc]; rfl
theorem delNode_c (rs : List (List DV)) (i : Nat) (hi : i < rs.length) (hb : rs.length * 88 ≤ 140737488351232) : acall Tryd.prog [.rows 9 rs] 153 [.osl 0 9 0 rs.length, I i, I ((i : Int) + 1)] (outs (.osl 1 9 0 (rs.length - 1)) [.dead, .rows 9 (rs.eraseIdx i)]) := by
  refine acall_of tabOk Tryd.func153 rfl (by kernel_rfl) (by simp [Tryd.ntmps153]) ?_; simp only [Tryd.ntmps153, Tryd.results153, List.toList_toArray, apar, List.length_nil, List.length_cons, Nat.reduceAdd]
  refine AWP.reveal 0 (k := 0) (sz := 9) (off := 0) (n := rs.length) rfl (by omega) rfl (by decide) fun junk hj hjl => ?_
  simp only [go_sem, Nat.zero_add] at hjl ⊢
  by_cases hN : i + 1 < rs.length + junk.length
  · repeat' first
      | (with_reducible first | refine AWP.seq ?_ | refine thenA_n ?_ | refine thenA_r ?_ | refine thenA_e ?_ | refine blkA_n ?_ | refine blkA_r ?_ | refine blkA_e ?_ | refine blkA_x (by decide) ?_ | refine AWP.skip ?_ | refine AWP.ret ?_ | refine AWP.exit ?_ | refine AWP.block ?_)
      | (with_reducible refine AWP.cond rfl ?_ ?_ <;> intro hc <;> (try simp only [hcs, beq_iff_eq, ge_iff_le, gt_iff_lt] at hc))
      | ((first
        | (with_reducible first | refine AWP.region tabOk ?_ | refine AWP.quietC mixed tabOk (by decide +kernel) ?_ | refine AWP.draw mixed tabOk (by decide +kernel) ?_ | refine AWP.drawE mixed tabOk (by decide +kernel) ?_ | refine AWP.drawG mixed tabOk (by decide +kernel) ?_); intro K hK); ((try simp (disch := omega) only [go_sem, wrap_n, if_pos, if_neg, arith1, arith2, List.length_take, List.length_drop, Nat.min_eq_left]) <;> (repeat' with_reducible refine And.intro ?_ ?_) <;> (try (with_reducible refine hK _ ?_; clear hK K))))
      | ((first | (with_reducible refine aunder_i ?_ ?_ <;> intro hg) | with_reducible intro hg) <;> (first | (exfalso; simp at hg; done) | (have hg' := hg; (try simp only [hcs, beq_iff_eq, ge_iff_le, gt_iff_lt] at hg'); ((try simp (disch := omega) only [hg, go_sem, wrap_n, if_pos, if_neg, arith1, arith2, List.length_take, List.length_drop, Nat.min_eq_left]) <;> (repeat' with_reducible refine And.intro ?_ ?_) <;> (try (with_reducible refine hK _ ?_; clear hK K))))))
                                                              | omega
    refine aend_out (by first | exact .inl rfl | exact .inr rfl) (by simp (disch := omega) only [go_sem]) ?_
    simp (disch := omega) only [go_sem]
    rw [show i + (rs.length - (i + 1)) = rs.length - 1 from by omega]
    refine AOut.moved rfl (AOut.done rfl ?_)
    rw [del_rows hi rfl rfl]; rfl
  · repeat' first
      | (with_reducible first | refine AWP.seq ?_ | refine thenA_n ?_ | refine thenA_r ?_ | refine thenA_e ?_ | refine blkA_n ?_ | refine blkA_r ?_ | refine blkA_e ?_ | refine blkA_x (by decide) ?_ | refine AWP.skip ?_ | refine AWP.ret ?_ | refine AWP.exit ?_ | refine AWP.block ?_)
      | (with_reducible refine AWP.cond rfl ?_ ?_ <;> intro hc <;> (try simp only [hcs, beq_iff_eq, ge_iff_le, gt_iff_lt] at hc))
      | ((first
        | (with_reducible first | refine AWP.region tabOk ?_ | refine AWP.quietC mixed tabOk (by decide +kernel) ?_ | refine AWP.draw mixed tabOk (by decide +kernel) ?_ | refine AWP.drawE mixed tabOk (by decide +kernel) ?_ | refine AWP.drawG mixed tabOk (by decide +kernel) ?_); intro K hK); ((try simp (disch := omega) only [go_sem, wrap_n, if_pos, if_neg, arith1, arith2, List.length_take, List.length_drop, Nat.min_eq_left]) <;> (repeat' with_reducible refine And.intro ?_ ?_) <;> (try (with_reducible refine hK _ ?_; clear hK K))))
      | ((first | (with_reducible refine aunder_i ?_ ?_ <;> intro hg) | with_reducible intro hg) <;> (first | (exfalso; simp at hg; done) | (have hg' := hg; (try simp only [hcs, beq_iff_eq, ge_iff_le, gt_iff_lt] at hg'); ((try simp (disch := omega) only [hg, go_sem, wrap_n, if_pos, if_neg, arith1, arith2, List.length_take, List.length_drop, Nat.min_eq_left]) <;> (repeat' with_reducible refine And.intro ?_ ?_) <;> (try (with_reducible refine hK _ ?_; clear hK K))))))
                                                              | omega
    refine aend_out (by first | exact .inl rfl | exact .inr rfl) (by simp (disch := omega) only [go_sem]) ?_
    simp (disch := omega) only [go_sem]
    rw [show i + 0 = rs.length - 1 from by omega]
    refine AOut.moved rfl (AOut.done rfl ?_)
    rw [del_last (by omega) (by omega)]; rfl
set_option maxHeartbeats 1000000 in
theorem insNode_c (rs : List (List DV)) (r : List DV) (i : Nat) (hi : i ≤ rs.length) (hb : (rs.length + 1) * 88 ≤ 140737488351232) :
    acall Tryd.prog [.rows 9 rs, .rows 9 [r]] 155 [.osl 0 9 0 rs.length, I i, .osl 1 9 0 1] (outs (.osl 2 9 0 (rs.length + 1)) [.dead, .dead, .rows 9 (rs.insertIdx i r)]) := by
  refine acall_of tabOk Tryd.func155 rfl (by kernel_rfl) (by simp [Tryd.ntmps155]) ?_; simp only [Tryd.ntmps155, Tryd.results155, List.toList_toArray, apar, List.length_nil, List.length_cons, Nat.reduceAdd]
  by_cases hin : i = rs.length
  · subst hin
    repeat' first
      | (with_reducible first | refine AWP.seq ?_ | refine thenA_n ?_ | refine thenA_r ?_ | refine thenA_e ?_ | refine blkA_n ?_ | refine blkA_r ?_ | refine blkA_e ?_ | refine blkA_x (by decide) ?_ | refine AWP.skip ?_ | refine AWP.ret ?_ | refine AWP.exit ?_ | refine AWP.block ?_)
      | (with_reducible refine AWP.cond rfl ?_ ?_ <;> intro hc <;> (try simp only [hcs, beq_iff_eq, ge_iff_le, gt_iff_lt] at hc))
      | ((first
        | (with_reducible first | refine AWP.region tabOk ?_ | refine AWP.quietC mixed tabOk (by decide +kernel) ?_ | refine AWP.draw mixed tabOk (by decide +kernel) ?_ | refine AWP.drawE mixed tabOk (by decide +kernel) ?_ | refine AWP.drawG mixed tabOk (by decide +kernel) ?_); intro K hK); ((try simp (disch := omega) only [go_sem, wrap_n, if_pos, if_neg, arith1, arith2]) <;> (repeat' with_reducible refine And.intro ?_ ?_) <;> (try (with_reducible refine hK _ ?_; clear hK K))))
      | ((first | (with_reducible refine aunder_i ?_ ?_ <;> intro hg) | with_reducible intro hg) <;> (first | (exfalso; simp at hg; done) | (have hg' := hg; (try simp only [hcs, beq_iff_eq, ge_iff_le, gt_iff_lt] at hg'); ((try simp (disch := omega) only [hg, go_sem, wrap_n, if_pos, if_neg, arith1, arith2]) <;> (repeat' with_reducible refine And.intro ?_ ?_) <;> (try (with_reducible refine hK _ ?_; clear hK K))))))
                                                              | omega
    refine aend_out (by first | exact .inl rfl | exact .inr rfl) (by simp (disch := omega) only [go_sem]) ?_
    simp (disch := omega) only [go_sem]
    refine AOut.framed [0, 1, 2] rfl (by simp) (by decide) (by intro k hk; match k, hk with | 0, _ => rfl | 1, _ => rfl) ⟨rfl, by simp [inV]⟩ ?_ (AOut.done (hp := [.dead, .dead, .rows 9 (List.take rs.length rs ++ [r])]) rfl ?_)
    · simp only [go_sem]
    · rw [ins_eq _ _ _ (Nat.le_refl _), List.drop_length]
  refine AWP.reveal 0 (k := 0) (sz := 9) (off := 0) (n := rs.length) rfl (by omega) rfl (by decide) fun junk hj hjl => ?_
  simp only [go_sem, Nat.zero_add] at hjl ⊢
  by_cases hN : rs.length + 1 ≤ rs.length + junk.length
  · repeat' first
      | (with_reducible first | refine AWP.seq ?_ | refine thenA_n ?_ | refine thenA_r ?_ | refine thenA_e ?_ | refine blkA_n ?_ | refine blkA_r ?_ | refine blkA_e ?_ | refine blkA_x (by decide) ?_ | refine AWP.skip ?_ | refine AWP.ret ?_ | refine AWP.exit ?_ | refine AWP.block ?_)
      | (with_reducible refine AWP.cond rfl ?_ ?_ <;> intro hc <;> (try simp only [hcs, beq_iff_eq, ge_iff_le, gt_iff_lt] at hc))
      | ((first
        | (with_reducible first | refine AWP.region tabOk ?_ | refine AWP.quietC mixed tabOk (by decide +kernel) ?_ | refine AWP.draw mixed tabOk (by decide +kernel) ?_ | refine AWP.drawE mixed tabOk (by decide +kernel) ?_ | refine AWP.drawG mixed tabOk (by decide +kernel) ?_); intro K hK); ((try simp (disch := omega) only [go_sem, wrap_n, if_pos, if_neg, arith1, arith2, List.length_take, List.length_drop, Nat.min_eq_left]) <;> (repeat' with_reducible refine And.intro ?_ ?_) <;> (try (with_reducible refine hK _ ?_; clear hK K))))
      | (refine acallHK_ext (ext_overlaps Tryd.func175 (by kernel_rfl) (by kernel_rfl) (by kernel_rfl) (tS := 41) (tR := 4) (e := 57) (by kernel_rfl) tabOk (by simp only [T_41, ty41]) (by simp [T_57, ty57]) (k := 1) (k' := 0) rfl (.inl ⟨rfl, rfl⟩) rfl (.inr ⟨rfl, rfl⟩) (by decide) (by omega) (by omega) (by decide)) ?_; ((try simp (disch := omega) only [go_sem, wrap_n, if_pos, if_neg, arith1, arith2, List.length_take, List.length_drop, Nat.min_eq_left]) <;> (repeat' with_reducible refine And.intro ?_ ?_) <;> (try (with_reducible refine hK _ ?_; clear hK K))))
      | ((first | (with_reducible refine aunder_i ?_ ?_ <;> intro hg) | with_reducible intro hg) <;> (first | (exfalso; simp at hg; done) | (have hg' := hg; (try simp only [hcs, beq_iff_eq, ge_iff_le, gt_iff_lt] at hg'); ((try simp (disch := omega) only [hg, go_sem, wrap_n, if_pos, if_neg, arith1, arith2, List.length_take, List.length_drop, Nat.min_eq_left]) <;> (repeat' with_reducible refine And.intro ?_ ?_) <;> (try (with_reducible refine hK _ ?_; clear hK K))))))
                                                              | omega
    refine aend_out (by first | exact .inl rfl | exact .inr rfl) (by simp (disch := omega) only [go_sem]) ?_
    simp (disch := omega) only [go_sem]
    refine AOut.moved rfl ?_
    refine AOut.framed [0, 1, 2] rfl (by simp) (by decide) (by intro k hk; match k, hk with | 0, _ => rfl | 1, _ => rfl) ⟨rfl, by simp [inV]⟩ ?_ (AOut.done (hp := [.dead, .dead, .rows 9 (rs.insertIdx i r)]) rfl rfl)
    rw [ins_in (by omega) (by omega) (by omega) (by omega) (by omega)]
    simp only [go_sem]
  · repeat' first
      | (with_reducible first | refine AWP.seq ?_ | refine thenA_n ?_ | refine thenA_r ?_ | refine thenA_e ?_ | refine blkA_n ?_ | refine blkA_r ?_ | refine blkA_e ?_ | refine blkA_x (by decide) ?_ | refine AWP.skip ?_ | refine AWP.ret ?_ | refine AWP.exit ?_ | refine AWP.block ?_)
      | (with_reducible refine AWP.cond rfl ?_ ?_ <;> intro hc <;> (try simp only [hcs, beq_iff_eq, ge_iff_le, gt_iff_lt] at hc))
      | ((first
        | (with_reducible first | refine AWP.region tabOk ?_ | refine AWP.quietC mixed tabOk (by decide +kernel) ?_ | refine AWP.draw mixed tabOk (by decide +kernel) ?_ | refine AWP.drawE mixed tabOk (by decide +kernel) ?_ | refine AWP.drawG mixed tabOk (by decide +kernel) ?_); intro K hK); ((try simp (disch := omega) only [go_sem, wrap_n, if_pos, if_neg, arith1, arith2, arith3, arith4, List.length_take, List.length_drop, Nat.min_eq_left]) <;> (repeat' with_reducible refine And.intro ?_ ?_) <;> (try (with_reducible refine hK _ ?_; clear hK K))))
      | ((first | (with_reducible refine aunder_i ?_ ?_ <;> intro hg) | with_reducible intro hg) <;> (first | (exfalso; simp at hg; done) | (have hg' := hg; (try simp only [hcs, beq_iff_eq, ge_iff_le, gt_iff_lt] at hg'); ((try simp (disch := omega) only [hg, go_sem, wrap_n, if_pos, if_neg, arith1, arith2, arith3, arith4, List.length_take, List.length_drop, Nat.min_eq_left]) <;> (repeat' with_reducible refine And.intro ?_ ?_) <;> (try (with_reducible refine hK _ ?_; clear hK K))))))
                                                              | omega
    refine aend_out (by first | exact .inl rfl | exact .inr rfl) (by simp (disch := omega) only [go_sem]) ?_
    simp (disch := omega) only [go_sem]
    rw [ins_grow (by omega) rfl (by omega) (by omega) (by omega) (by omega) (by omega), show i + (rs.length + 1 - i) = rs.length + 1 from by omega]
    refine AOut.framed [0, 1, 2] rfl (by simp) (by decide) (by intro k hk; match k, hk with | 0, _ => rfl | 1, _ => rfl) ⟨rfl, by simp [inV]⟩ ?_ (AOut.done (hp := [.dead, .dead, .rows 9 (rs.insertIdx i r)]) rfl rfl)
    simp only [go_sem]
theorem delInt_c (rs : List (List DV)) (i : Nat) (hi : i < rs.length) (hb : rs.length * 8 ≤ 140737488351232) : acall Tryd.prog [.rows 1 rs] 106 [.osl 0 1 0 rs.length, I i, I ((i : Int) + 1)] (outs (.osl 1 1 0 (rs.length - 1)) [.dead, .rows 1 (rs.eraseIdx i)]) := by
  refine acall_of tabOk Tryd.func106 rfl (by kernel_rfl) (by simp [Tryd.ntmps106]) ?_; simp only [Tryd.ntmps106, Tryd.results106, List.toList_toArray, apar, List.length_nil, List.length_cons, Nat.reduceAdd]
  refine AWP.reveal 0 (k := 0) (sz := 1) (off := 0) (n := rs.length) rfl (by omega) rfl (by decide) fun junk hj hjl => ?_
  simp only [go_sem, Nat.zero_add] at hjl ⊢
  by_cases hN : i + 1 < rs.length + junk.length
  · repeat' first
      | (with_reducible first | refine AWP.seq ?_ | refine thenA_n ?_ | refine thenA_r ?_ | refine thenA_e ?_ | refine blkA_n ?_ | refine blkA_r ?_ | refine blkA_e ?_ | refine blkA_x (by decide) ?_ | refine AWP.skip ?_ | refine AWP.ret ?_ | refine AWP.exit ?_ | refine AWP.block ?_)
      | (with_reducible refine AWP.cond rfl ?_ ?_ <;> intro hc <;> (try simp only [hcs, beq_iff_eq, ge_iff_le, gt_iff_lt] at hc))
      | ((first
        | (with_reducible first | refine AWP.region tabOk ?_ | refine AWP.quietC mixed tabOk (by decide +kernel) ?_ | refine AWP.draw mixed tabOk (by decide +kernel) ?_ | refine AWP.drawE mixed tabOk (by decide +kernel) ?_ | refine AWP.drawG mixed tabOk (by decide +kernel) ?_); intro K hK); ((try simp (disch := omega) only [go_sem, wrap_n, if_pos, if_neg, arith1, arith2, List.length_take, List.length_drop, Nat.min_eq_left]) <;> (repeat' with_reducible refine And.intro ?_ ?_) <;> (try (with_reducible refine hK _ ?_; clear hK K))))
      | ((first | (with_reducible refine aunder_i ?_ ?_ <;> intro hg) | with_reducible intro hg) <;> (first | (exfalso; simp at hg; done) | (have hg' := hg; (try simp only [hcs, beq_iff_eq, ge_iff_le, gt_iff_lt] at hg'); ((try simp (disch := omega) only [hg, go_sem, wrap_n, if_pos, if_neg, arith1, arith2, List.length_take, List.length_drop, Nat.min_eq_left]) <;> (repeat' with_reducible refine And.intro ?_ ?_) <;> (try (with_reducible refine hK _ ?_; clear hK K))))))
                                                              | omega
    refine aend_out (by first | exact .inl rfl | exact .inr rfl) (by simp (disch := omega) only [go_sem]) ?_
    simp (disch := omega) only [go_sem]
    rw [show i + (rs.length - (i + 1)) = rs.length - 1 from by omega]
    refine AOut.moved rfl (AOut.done rfl ?_)
    rw [del_rows hi rfl rfl]; rfl
  · repeat' first
      | (with_reducible first | refine AWP.seq ?_ | refine thenA_n ?_ | refine thenA_r ?_ | refine thenA_e ?_ | refine blkA_n ?_ | refine blkA_r ?_ | refine blkA_e ?_ | refine blkA_x (by decide) ?_ | refine AWP.skip ?_ | refine AWP.ret ?_ | refine AWP.exit ?_ | refine AWP.block ?_)
      | (with_reducible refine AWP.cond rfl ?_ ?_ <;> intro hc <;> (try simp only [hcs, beq_iff_eq, ge_iff_le, gt_iff_lt] at hc))
      | ((first
        | (with_reducible first | refine AWP.region tabOk ?_ | refine AWP.quietC mixed tabOk (by decide +kernel) ?_ | refine AWP.draw mixed tabOk (by decide +kernel) ?_ | refine AWP.drawE mixed tabOk (by decide +kernel) ?_ | refine AWP.drawG mixed tabOk (by decide +kernel) ?_); intro K hK); ((try simp (disch := omega) only [go_sem, wrap_n, if_pos, if_neg, arith1, arith2, List.length_take, List.length_drop, Nat.min_eq_left]) <;> (repeat' with_reducible refine And.intro ?_ ?_) <;> (try (with_reducible refine hK _ ?_; clear hK K))))
      | ((first | (with_reducible refine aunder_i ?_ ?_ <;> intro hg) | with_reducible intro hg) <;> (first | (exfalso; simp at hg; done) | (have hg' := hg; (try simp only [hcs, beq_iff_eq, ge_iff_le, gt_iff_lt] at hg'); ((try simp (disch := omega) only [hg, go_sem, wrap_n, if_pos, if_neg, arith1, arith2, List.length_take, List.length_drop, Nat.min_eq_left]) <;> (repeat' with_reducible refine And.intro ?_ ?_) <;> (try (with_reducible refine hK _ ?_; clear hK K))))))
                                                              | omega
    refine aend_out (by first | exact .inl rfl | exact .inr rfl) (by simp (disch := omega) only [go_sem]) ?_
    simp (disch := omega) only [go_sem]
    rw [show i + 0 = rs.length - 1 from by omega]
    refine AOut.moved rfl (AOut.done rfl ?_)
    rw [del_last (by omega) (by omega)]; rfl
set_option maxHeartbeats 1000000 in
theorem insInt_c (rs : List (List DV)) (r : List DV) (i : Nat) (hi : i ≤ rs.length) (hb : (rs.length + 1) * 8 ≤ 140737488351232) :
    acall Tryd.prog [.rows 1 rs, .rows 1 [r]] 105 [.osl 0 1 0 rs.length, I i, .osl 1 1 0 1] (outs (.osl 2 1 0 (rs.length + 1)) [.dead, .dead, .rows 1 (rs.insertIdx i r)]) := by
  refine acall_of tabOk Tryd.func105 rfl (by kernel_rfl) (by simp [Tryd.ntmps105]) ?_; simp only [Tryd.ntmps105, Tryd.results105, List.toList_toArray, apar, List.length_nil, List.length_cons, Nat.reduceAdd]
  by_cases hin : i = rs.length
  · subst hin
    repeat' first
      | (with_reducible first | refine AWP.seq ?_ | refine thenA_n ?_ | refine thenA_r ?_ | refine thenA_e ?_ | refine blkA_n ?_ | refine blkA_r ?_ | refine blkA_e ?_ | refine blkA_x (by decide) ?_ | refine AWP.skip ?_ | refine AWP.ret ?_ | refine AWP.exit ?_ | refine AWP.block ?_)
      | (with_reducible refine AWP.cond rfl ?_ ?_ <;> intro hc <;> (try simp only [hcs, beq_iff_eq, ge_iff_le, gt_iff_lt] at hc))
      | ((first
        | (with_reducible first | refine AWP.region tabOk ?_ | refine AWP.quietC mixed tabOk (by decide +kernel) ?_ | refine AWP.draw mixed tabOk (by decide +kernel) ?_ | refine AWP.drawE mixed tabOk (by decide +kernel) ?_ | refine AWP.drawG mixed tabOk (by decide +kernel) ?_); intro K hK); ((try simp (disch := omega) only [go_sem, wrap_n, if_pos, if_neg, arith1, arith2]) <;> (repeat' with_reducible refine And.intro ?_ ?_) <;> (try (with_reducible refine hK _ ?_; clear hK K))))
      | ((first | (with_reducible refine aunder_i ?_ ?_ <;> intro hg) | with_reducible intro hg) <;> (first | (exfalso; simp at hg; done) | (have hg' := hg; (try simp only [hcs, beq_iff_eq, ge_iff_le, gt_iff_lt] at hg'); ((try simp (disch := omega) only [hg, go_sem, wrap_n, if_pos, if_neg, arith1, arith2]) <;> (repeat' with_reducible refine And.intro ?_ ?_) <;> (try (with_reducible refine hK _ ?_; clear hK K))))))
                                                              | omega
    refine aend_out (by first | exact .inl rfl | exact .inr rfl) (by simp (disch := omega) only [go_sem]) ?_
    simp (disch := omega) only [go_sem]
    refine AOut.framed [0, 1, 2] rfl (by simp) (by decide) (by intro k hk; match k, hk with | 0, _ => rfl | 1, _ => rfl) ⟨rfl, by simp [inV]⟩ ?_ (AOut.done (hp := [.dead, .dead, .rows 1 (List.take rs.length rs ++ [r])]) rfl ?_)
    · simp only [go_sem]
    · rw [ins_eq _ _ _ (Nat.le_refl _), List.drop_length]
  refine AWP.reveal 0 (k := 0) (sz := 1) (off := 0) (n := rs.length) rfl (by omega) rfl (by decide) fun junk hj hjl => ?_
  simp only [go_sem, Nat.zero_add] at hjl ⊢
  by_cases hN : rs.length + 1 ≤ rs.length + junk.length
  · repeat' first
      | (with_reducible first | refine AWP.seq ?_ | refine thenA_n ?_ | refine thenA_r ?_ | refine thenA_e ?_ | refine blkA_n ?_ | refine blkA_r ?_ | refine blkA_e ?_ | refine blkA_x (by decide) ?_ | refine AWP.skip ?_ | refine AWP.ret ?_ | refine AWP.exit ?_ | refine AWP.block ?_)
      | (with_reducible refine AWP.cond rfl ?_ ?_ <;> intro hc <;> (try simp only [hcs, beq_iff_eq, ge_iff_le, gt_iff_lt] at hc))
      | ((first
        | (with_reducible first | refine AWP.region tabOk ?_ | refine AWP.quietC mixed tabOk (by decide +kernel) ?_ | refine AWP.draw mixed tabOk (by decide +kernel) ?_ | refine AWP.drawE mixed tabOk (by decide +kernel) ?_ | refine AWP.drawG mixed tabOk (by decide +kernel) ?_); intro K hK); ((try simp (disch := omega) only [go_sem, wrap_n, if_pos, if_neg, arith1, arith2, List.length_take, List.length_drop, Nat.min_eq_left]) <;> (repeat' with_reducible refine And.intro ?_ ?_) <;> (try (with_reducible refine hK _ ?_; clear hK K))))
      | (refine acallHK_ext (ext_overlaps Tryd.func151 (by kernel_rfl) (by kernel_rfl) (by kernel_rfl) (tS := 42) (tR := 4) (e := 3) (by kernel_rfl) tabOk (by simp only [T_42, ty42]) (by simp [T_3, ty3]) (k := 1) (k' := 0) rfl (.inl ⟨rfl, rfl⟩) rfl (.inr ⟨rfl, rfl⟩) (by decide) (by omega) (by omega) (by decide)) ?_; ((try simp (disch := omega) only [go_sem, wrap_n, if_pos, if_neg, arith1, arith2, List.length_take, List.length_drop, Nat.min_eq_left]) <;> (repeat' with_reducible refine And.intro ?_ ?_) <;> (try (with_reducible refine hK _ ?_; clear hK K))))
      | ((first | (with_reducible refine aunder_i ?_ ?_ <;> intro hg) | with_reducible intro hg) <;> (first | (exfalso; simp at hg; done) | (have hg' := hg; (try simp only [hcs, beq_iff_eq, ge_iff_le, gt_iff_lt] at hg'); ((try simp (disch := omega) only [hg, go_sem, wrap_n, if_pos, if_neg, arith1, arith2, List.length_take, List.length_drop, Nat.min_eq_left]) <;> (repeat' with_reducible refine And.intro ?_ ?_) <;> (try (with_reducible refine hK _ ?_; clear hK K))))))
                                                              | omega
    refine aend_out (by first | exact .inl rfl | exact .inr rfl) (by simp (disch := omega) only [go_sem]) ?_
    simp (disch := omega) only [go_sem]
    refine AOut.moved rfl ?_
    refine AOut.framed [0, 1, 2] rfl (by simp) (by decide) (by intro k hk; match k, hk with | 0, _ => rfl | 1, _ => rfl) ⟨rfl, by simp [inV]⟩ ?_ (AOut.done (hp := [.dead, .dead, .rows 1 (rs.insertIdx i r)]) rfl rfl)
    rw [ins_in (by omega) (by omega) (by omega) (by omega) (by omega)]
    simp only [go_sem]
  · repeat' first
      | (with_reducible first | refine AWP.seq ?_ | refine thenA_n ?_ | refine thenA_r ?_ | refine thenA_e ?_ | refine blkA_n ?_ | refine blkA_r ?_ | refine blkA_e ?_ | refine blkA_x (by decide) ?_ | refine AWP.skip ?_ | refine AWP.ret ?_ | refine AWP.exit ?_ | refine AWP.block ?_)
      | (with_reducible refine AWP.cond rfl ?_ ?_ <;> intro hc <;> (try simp only [hcs, beq_iff_eq, ge_iff_le, gt_iff_lt] at hc))
      | ((first
        | (with_reducible first | refine AWP.region tabOk ?_ | refine AWP.quietC mixed tabOk (by decide +kernel) ?_ | refine AWP.draw mixed tabOk (by decide +kernel) ?_ | refine AWP.drawE mixed tabOk (by decide +kernel) ?_ | refine AWP.drawG mixed tabOk (by decide +kernel) ?_); intro K hK); ((try simp (disch := omega) only [go_sem, wrap_n, if_pos, if_neg, arith1, arith2, arith3, arith4, List.length_take, List.length_drop, Nat.min_eq_left]) <;> (repeat' with_reducible refine And.intro ?_ ?_) <;> (try (with_reducible refine hK _ ?_; clear hK K))))
      | ((first | (with_reducible refine aunder_i ?_ ?_ <;> intro hg) | with_reducible intro hg) <;> (first | (exfalso; simp at hg; done) | (have hg' := hg; (try simp only [hcs, beq_iff_eq, ge_iff_le, gt_iff_lt] at hg'); ((try simp (disch := omega) only [hg, go_sem, wrap_n, if_pos, if_neg, arith1, arith2, arith3, arith4, List.length_take, List.length_drop, Nat.min_eq_left]) <;> (repeat' with_reducible refine And.intro ?_ ?_) <;> (try (with_reducible refine hK _ ?_; clear hK K))))))
                                                              | omega
    refine aend_out (by first | exact .inl rfl | exact .inr rfl) (by simp (disch := omega) only [go_sem]) ?_
    simp (disch := omega) only [go_sem]
    rw [ins_grow (by omega) rfl (by omega) (by omega) (by omega) (by omega) (by omega), show i + (rs.length + 1 - i) = rs.length + 1 from by omega]
    refine AOut.framed [0, 1, 2] rfl (by simp) (by decide) (by intro k hk; match k, hk with | 0, _ => rfl | 1, _ => rfl) ⟨rfl, by simp [inV]⟩ ?_ (AOut.done (hp := [.dead, .dead, .rows 1 (rs.insertIdx i r)]) rfl rfl)
    simp only [go_sem]
end Go.Proofs.YtmpfhalheaeibaaDoor
namespace Go.Proofs.YtmpfhalheaeibaaDoor
set_option linter.unusedVariables false
set_option linter.unusedSimpArgs false
open Go Go.RowKit
set_option maxRecDepth 100000
set_option linter.unusedSimpArgs false
def lacksT (t : ATree) (x : ATxn) (there : Int) : Int :=
  if there = 0 then 8 else if ¬ (getT t (splitP x.path).1.1).2 = 0 then (getT t (splitP x.path).1.1).2 else if ¬ (getT t (splitP x.path).1.1).1.stat.owner = 0 then 11
  else if ¬ x.owner = 0 ∧ ¬ x.owner = x.session then 12 else if 400 ≤ t.nodes.length then 6 else 0
theorem lacks_c (t : ATree) (x : ATxn) (there : Int) (h : t.nodes.length * 88 ≤ 140737488351232) (hp : okS x.path) (hr : Rises (pathsT t)) : acall Tryd.prog [] 148 [t.av, x.av, .d (.int .i64 there)] (ret (I (lacksT t x there))) := by
  unfold lacksT
  refine acall_of tabOk Tryd.func148 rfl (by kernel_rfl) (by simp [Tryd.ntmps148]) ?_; simp only [Tryd.ntmps148, Tryd.results148, List.toList_toArray, apar, List.length_nil, List.length_cons, Nat.reduceAdd]
  repeat' first
    | (with_reducible first | refine AWP.seq ?_ | refine thenA_n ?_ | refine thenA_r ?_ | refine thenA_e ?_ | refine blkA_n ?_ | refine blkA_r ?_ | refine blkA_e ?_ | refine blkA_x (by decide) ?_ | refine AWP.skip ?_ | refine AWP.ret ?_ | refine AWP.exit ?_ | refine AWP.block ?_)
    | (with_reducible refine AWP.cond rfl ?_ ?_ <;> intro hc <;> (try simp only [hcs, beq_iff_eq, ge_iff_le, gt_iff_lt] at hc))
    | ((first
      | (with_reducible first | refine AWP.region tabOk ?_ | refine AWP.quietC mixed tabOk (by decide +kernel) ?_ | refine AWP.draw mixed tabOk (by decide +kernel) ?_ | refine AWP.drawE mixed tabOk (by decide +kernel) ?_ | refine AWP.drawG mixed tabOk (by decide +kernel) ?_); intro K hK
      | ((first | refine acallH_sc (split_c x.path hp) rfl rfl ?_ ?_ ?_ | refine acallQ_sc (split_c x.path hp) rfl rfl ?_ ?_ ?_ | refine acallH_sc (getT_c t (splitP x.path).1.1 h hr) rfl rfl ?_ ?_ ?_ | refine acallQ_sc (getT_c t (splitP x.path).1.1 h hr) rfl rfl ?_ ?_ ?_); iterate 2 (focus ((try simp (disch := omega) only [go_sem, wrap_n]) <;> (try omega) <;> fail)))
      | ((first | refine acallH_anyr (split_c x.path hp) rfl ?_ ?_ | refine acallH_anyr (getT_c t (splitP x.path).1.1 h hr) rfl ?_ ?_); (focus ((try simp (disch := omega) only [go_sem, wrap_n]) <;> (try omega) <;> fail)))
      | ((first | refine acallH_scx (split_c x.path hp) rfl ?_ ?_ | refine acallQ_scx (split_c x.path hp) rfl ?_ ?_ | refine acallH_anyx (split_c x.path hp) ?_ ?_); (focus ((try simp (disch := omega) only [go_sem, wrap_n]) <;> (try omega) <;> fail)))
      | ((first | refine acallH_scx (getT_c t (splitP x.path).1.1 h hr) rfl ?_ ?_ | refine acallQ_scx (getT_c t (splitP x.path).1.1 h hr) rfl ?_ ?_ | refine acallH_anyx (getT_c t (splitP x.path).1.1 h hr) ?_ ?_); (focus ((try simp (disch := omega) only [go_sem, wrap_n]) <;> (try omega) <;> fail)))); ((try simp (disch := omega) only [go_sem, wrap_n]) <;> (repeat' with_reducible refine And.intro ?_ ?_) <;> (try (with_reducible refine hK _ ?_; clear hK K))))
    | ((first | (with_reducible refine aunder_i ?_ ?_ <;> intro hg) | with_reducible intro hg) <;> (first | (exfalso; simp at hg; done) | (have hg' := hg; (try simp only [hcs, beq_iff_eq, ge_iff_le, gt_iff_lt] at hg'); ((try simp (disch := omega) only [hg, go_sem, wrap_n]) <;> (repeat' with_reducible refine And.intro ?_ ?_) <;> (try (with_reducible refine hK _ ?_; clear hK K))))))
                                                            | omega
  all_goals (refine aend_retc ?_ rfl ?_ ?_ ?_ ?_; (focus (first | exact .inl rfl | exact .inr rfl)); (iterate 3 (focus ((try simp (disch := omega) only [go_sem, wrap_n]) <;> (try omega) <;> fail))); (try simp (disch := omega) only [go_sem, wrap_n, I, B, S, inj, List.cons.injEq, and_true, true_and, and_self]))
  all_goals first | (simp [*]; done) | (simp only [*, not_true_eq_false, not_false_eq_true, if_true, if_false]; split <;> first | rfl | omega | (exfalso; rename_i h; revert h; simp_all; done) | (exfalso; omega)) | skip
def wrongT (t : ATree) (x : ATxn) : Int :=
  if goodTr t = false then 3 else if ¬ goodT x = 0 then goodT x else if x.zxid ≤ t.zxid then 13
  else if x.op = 1 then (if x.session ∈ t.sessions then 8 else 0)
  else if ¬ x.session ∈ t.sessions then 12
  else if x.op = 3 then lacksT t x (getT t x.path).2
  else if x.op = 4 then (if (getT t x.path).2 = 0 ∧ 0 < (getT t x.path).1.stat.kids then 10 else (getT t x.path).2)
  else if x.op = 5 then (if (getT t x.path).2 = 0 ∧ ¬ x.version = (getT t x.path).1.stat.version + 1 then 9 else (getT t x.path).2)
  else 0
set_option maxHeartbeats 4000000 in
theorem wrong_c (t : ATree) (x : ATxn) (hw : t.wf) (hp : okS x.path) (hd : okS x.data) : acall Tryd.prog [] 103 [t.av, x.av] (ret (I (wrongT t x))) := by
  obtain ⟨h1, h2⟩ : t.nodes.length * 88 ≤ 140737488351232 ∧ t.sessions.length * 8 ≤ 140737488351232 := ⟨hw.2.1.1, hw.2.2.1⟩
  unfold wrongT
  by_cases hg : goodTr t = true
  · have hr := good_rises hg
    have hri := good_sess hg
    have hv : -1000 ≤ (getT t x.path).1.stat.version ∧ (getT t x.path).1.stat.version ≤ 2147483647 := by
      unfold getT; split
      · rename_i hm
        have hpl := (place_found hr hm).1
        rw [pathsT_len] at hpl
        obtain ⟨b1, b2, _⟩ := ((goodTr_iff.1 hg).2.2.2 _ hpl).1
        exact ⟨by simp only; omega, b2⟩
      · exact ⟨by decide, by decide⟩
    refine acall_of tabOk Tryd.func103 rfl (by kernel_rfl) (by simp [Tryd.ntmps103]) ?_; simp only [Tryd.ntmps103, Tryd.results103, List.toList_toArray, apar, List.length_nil, List.length_cons, Nat.reduceAdd]
    repeat' first
      | (with_reducible first | refine AWP.seq ?_ | refine thenA_n ?_ | refine thenA_r ?_ | refine thenA_e ?_ | refine blkA_n ?_ | refine blkA_r ?_ | refine blkA_e ?_ | refine blkA_x (by decide) ?_ | refine AWP.skip ?_ | refine AWP.ret ?_ | refine AWP.exit ?_ | refine AWP.block ?_)
      | (with_reducible refine AWP.cond rfl ?_ ?_ <;> intro hc <;> (try simp only [hcs, beq_iff_eq, ge_iff_le, gt_iff_lt] at hc))
      | ((first
        | (with_reducible first | refine AWP.region tabOk ?_ | refine AWP.quietC mixed tabOk (by decide +kernel) ?_ | refine AWP.draw mixed tabOk (by decide +kernel) ?_ | refine AWP.drawE mixed tabOk (by decide +kernel) ?_ | refine AWP.drawG mixed tabOk (by decide +kernel) ?_); intro K hK
        | ((first | refine acallH_sc ((tgood_c t hw).re (congrArg B hg)) rfl rfl ?_ ?_ ?_ | refine acallQ_sc ((tgood_c t hw).re (congrArg B hg)) rfl rfl ?_ ?_ ?_ | refine acallH_sc (wgood_c x hp hd) rfl rfl ?_ ?_ ?_ | refine acallQ_sc (wgood_c x hp hd) rfl rfl ?_ ?_ ?_ | refine acallH_sc (open_c t x.session h2 hri) rfl rfl ?_ ?_ ?_ | refine acallQ_sc (open_c t x.session h2 hri) rfl rfl ?_ ?_ ?_ | refine acallH_sc (getT_c t x.path h1 hr) rfl rfl ?_ ?_ ?_ | refine acallQ_sc (getT_c t x.path h1 hr) rfl rfl ?_ ?_ ?_ | refine acallH_sc (lacks_c t x _ h1 hp hr) rfl rfl ?_ ?_ ?_ | refine acallQ_sc (lacks_c t x _ h1 hp hr) rfl rfl ?_ ?_ ?_); iterate 2 (focus ((try simp (disch := omega) only [go_sem, wrap_n]) <;> (try omega) <;> fail)))
        | ((first | refine acallH_anyr ((tgood_c t hw).re (congrArg B hg)) rfl ?_ ?_ | refine acallH_anyr (wgood_c x hp hd) rfl ?_ ?_ | refine acallH_anyr (open_c t x.session h2 hri) rfl ?_ ?_ | refine acallH_anyr (getT_c t x.path h1 hr) rfl ?_ ?_ | refine acallH_anyr (lacks_c t x _ h1 hp hr) rfl ?_ ?_); (focus ((try simp (disch := omega) only [go_sem, wrap_n]) <;> (try omega) <;> fail)))
        | ((first | refine acallH_scx ((tgood_c t hw).re (congrArg B hg)) rfl ?_ ?_ | refine acallQ_scx ((tgood_c t hw).re (congrArg B hg)) rfl ?_ ?_ | refine acallH_anyx ((tgood_c t hw).re (congrArg B hg)) ?_ ?_); (focus ((try simp (disch := omega) only [go_sem, wrap_n]) <;> (try omega) <;> fail)))
        | ((first | refine acallH_scx (wgood_c x hp hd) rfl ?_ ?_ | refine acallQ_scx (wgood_c x hp hd) rfl ?_ ?_ | refine acallH_anyx (wgood_c x hp hd) ?_ ?_); (focus ((try simp (disch := omega) only [go_sem, wrap_n]) <;> (try omega) <;> fail)))
        | ((first | refine acallH_scx (open_c t x.session h2 hri) rfl ?_ ?_ | refine acallQ_scx (open_c t x.session h2 hri) rfl ?_ ?_ | refine acallH_anyx (open_c t x.session h2 hri) ?_ ?_); (focus ((try simp (disch := omega) only [go_sem, wrap_n]) <;> (try omega) <;> fail)))
        | ((first | refine acallH_scx (getT_c t x.path h1 hr) rfl ?_ ?_ | refine acallQ_scx (getT_c t x.path h1 hr) rfl ?_ ?_ | refine acallH_anyx (getT_c t x.path h1 hr) ?_ ?_); (focus ((try simp (disch := omega) only [go_sem, wrap_n]) <;> (try omega) <;> fail)))
        | ((first | refine acallH_scx (lacks_c t x _ h1 hp hr) rfl ?_ ?_ | refine acallQ_scx (lacks_c t x _ h1 hp hr) rfl ?_ ?_ | refine acallH_anyx (lacks_c t x _ h1 hp hr) ?_ ?_); (focus ((try simp (disch := omega) only [go_sem, wrap_n]) <;> (try omega) <;> fail)))); ((try simp (disch := omega) only [go_sem, wrap_n]) <;> (repeat' with_reducible refine And.intro ?_ ?_) <;> (try (with_reducible refine hK _ ?_; clear hK K))))
      | ((first | (with_reducible refine aunder_i ?_ ?_ <;> intro hg) | with_reducible intro hg) <;> (first | (exfalso; simp at hg; done) | (have hg' := hg; (try simp only [hcs, beq_iff_eq, ge_iff_le, gt_iff_lt] at hg'); ((try simp (disch := omega) only [hg, go_sem, wrap_n]) <;> (repeat' with_reducible refine And.intro ?_ ?_) <;> (try (with_reducible refine hK _ ?_; clear hK K))))))
                                                              | omega
    all_goals (refine aend_retc ?_ rfl ?_ ?_ ?_ ?_; (focus (first | exact .inl rfl | exact .inr rfl)); (iterate 3 (focus ((try simp (disch := omega) only [go_sem, wrap_n]) <;> (try omega) <;> fail))); (try simp (disch := omega) only [go_sem, wrap_n, I, B, S, inj, List.cons.injEq, and_true, true_and, and_self]))
    all_goals (repeat' split)
    all_goals first | rfl | (exfalso; omega) | (exfalso; simp_all; done)
  · have hg2 : goodTr t = false := by simpa using hg
    refine acall_of tabOk Tryd.func103 rfl (by kernel_rfl) (by simp [Tryd.ntmps103]) ?_; simp only [Tryd.ntmps103, Tryd.results103, List.toList_toArray, apar, List.length_nil, List.length_cons, Nat.reduceAdd]
    repeat' first
      | (with_reducible first | refine AWP.seq ?_ | refine thenA_n ?_ | refine thenA_r ?_ | refine thenA_e ?_ | refine blkA_n ?_ | refine blkA_r ?_ | refine blkA_e ?_ | refine blkA_x (by decide) ?_ | refine AWP.skip ?_ | refine AWP.ret ?_ | refine AWP.exit ?_ | refine AWP.block ?_)
      | (with_reducible refine AWP.cond rfl ?_ ?_ <;> intro hc <;> (try simp only [hcs, beq_iff_eq, ge_iff_le, gt_iff_lt] at hc))
      | ((first
        | (with_reducible first | refine AWP.region tabOk ?_ | refine AWP.quietC mixed tabOk (by decide +kernel) ?_ | refine AWP.draw mixed tabOk (by decide +kernel) ?_ | refine AWP.drawE mixed tabOk (by decide +kernel) ?_ | refine AWP.drawG mixed tabOk (by decide +kernel) ?_); intro K hK
        | ((first | refine acallH_sc ((tgood_c t hw).re (congrArg B hg2)) rfl rfl ?_ ?_ ?_ | refine acallQ_sc ((tgood_c t hw).re (congrArg B hg2)) rfl rfl ?_ ?_ ?_); iterate 2 (focus ((try simp (disch := omega) only [go_sem, wrap_n]) <;> (try omega) <;> fail)))
        | ((first | refine acallH_anyr ((tgood_c t hw).re (congrArg B hg2)) rfl ?_ ?_); (focus ((try simp (disch := omega) only [go_sem, wrap_n]) <;> (try omega) <;> fail)))
        | ((first | refine acallH_scx ((tgood_c t hw).re (congrArg B hg2)) rfl ?_ ?_ | refine acallQ_scx ((tgood_c t hw).re (congrArg B hg2)) rfl ?_ ?_ | refine acallH_anyx ((tgood_c t hw).re (congrArg B hg2)) ?_ ?_); (focus ((try simp (disch := omega) only [go_sem, wrap_n]) <;> (try omega) <;> fail)))); ((try simp (disch := omega) only [go_sem, wrap_n]) <;> (repeat' with_reducible refine And.intro ?_ ?_) <;> (try (with_reducible refine hK _ ?_; clear hK K))))
      | ((first | (with_reducible refine aunder_i ?_ ?_ <;> intro hg) | with_reducible intro hg) <;> (first | (exfalso; simp at hg; done) | (have hg' := hg; (try simp only [hcs, beq_iff_eq, ge_iff_le, gt_iff_lt] at hg'); ((try simp (disch := omega) only [hg, go_sem, wrap_n]) <;> (repeat' with_reducible refine And.intro ?_ ?_) <;> (try (with_reducible refine hK _ ?_; clear hK K))))))
                                                              | omega
    all_goals (refine aend_retc ?_ rfl ?_ ?_ ?_ ?_; (focus (first | exact .inl rfl | exact .inr rfl)); (iterate 3 (focus ((try simp (disch := omega) only [go_sem, wrap_n]) <;> (try omega) <;> fail))); (try simp (disch := omega) only [go_sem, wrap_n, I, B, S, inj, List.cons.injEq, and_true, true_and, and_self]))
    rw [if_pos hg2]
theorem cloneNode_c (l : List ANode) (h : l.length * 88 ≤ 140737488351232) : acall Tryd.prog [] 149 [.d (.sl 9 (l.map ANode.row))] (own 9 (l.map ANode.row)) := by
  refine acall_of tabOk Tryd.func149 rfl (by kernel_rfl) (by simp [Tryd.ntmps149]) ?_; simp only [Tryd.ntmps149, Tryd.results149, List.toList_toArray, apar, List.length_nil, List.length_cons, Nat.reduceAdd]
  repeat' first
    | (with_reducible first | refine AWP.seq ?_ | refine thenA_n ?_ | refine thenA_r ?_ | refine thenA_e ?_ | refine blkA_n ?_ | refine blkA_r ?_ | refine blkA_e ?_ | refine blkA_x (by decide) ?_ | refine AWP.skip ?_ | refine AWP.ret ?_ | refine AWP.exit ?_ | refine AWP.block ?_)
    | (with_reducible refine AWP.cond rfl ?_ ?_ <;> intro hc <;> (try simp only [hcs, beq_iff_eq, ge_iff_le, gt_iff_lt] at hc))
    | ((first
      | (with_reducible first | refine AWP.region tabOk ?_ | refine AWP.quietC mixed tabOk (by decide +kernel) ?_ | refine AWP.draw mixed tabOk (by decide +kernel) ?_ | refine AWP.drawE mixed tabOk (by decide +kernel) ?_ | refine AWP.drawG mixed tabOk (by decide +kernel) ?_); intro K hK); ((try simp (disch := omega) only [go_sem, wrap_n]) <;> (repeat' with_reducible refine And.intro ?_ ?_) <;> (try (with_reducible refine hK _ ?_; clear hK K))))
    | ((first | (with_reducible refine aunder_i ?_ ?_ <;> intro hg) | with_reducible intro hg) <;> (first | (exfalso; simp at hg; done) | (have hg' := hg; (try simp only [hcs, beq_iff_eq, ge_iff_le, gt_iff_lt] at hg'); ((try simp (disch := omega) only [hg, go_sem, wrap_n]) <;> (repeat' with_reducible refine And.intro ?_ ?_) <;> (try (with_reducible refine hK _ ?_; clear hK K))))))
                                                            | omega
  · have e : l.length = 0 := by
      rcases Nat.eq_zero_or_pos l.length with h0 | h0
      · exact h0
      · rw [hg h0] at hc; simp at hc
    rw [nil_of_len e]
    (refine aend_nil (by first | exact .inl rfl | exact .inr rfl) rfl ?_ ?_ <;> simp (disch := omega) only [go_sem, wrap_n])
  · (refine aend_own 1 (by first | exact .inl rfl | exact .inr rfl) rfl ?_ rfl rfl ?_ <;> (try simp (disch := omega) only [go_sem, wrap_n, List.length_map]))
theorem cloneInt_c (l : List Int) (h : l.length * 8 ≤ 140737488351232) : acall Tryd.prog [] 150 [.d (.sl 1 (l.map irow))] (own 1 (l.map irow)) := by
  refine acall_of tabOk Tryd.func150 rfl (by kernel_rfl) (by simp [Tryd.ntmps150]) ?_; simp only [Tryd.ntmps150, Tryd.results150, List.toList_toArray, apar, List.length_nil, List.length_cons, Nat.reduceAdd]
  repeat' first
    | (with_reducible first | refine AWP.seq ?_ | refine thenA_n ?_ | refine thenA_r ?_ | refine thenA_e ?_ | refine blkA_n ?_ | refine blkA_r ?_ | refine blkA_e ?_ | refine blkA_x (by decide) ?_ | refine AWP.skip ?_ | refine AWP.ret ?_ | refine AWP.exit ?_ | refine AWP.block ?_)
    | (with_reducible refine AWP.cond rfl ?_ ?_ <;> intro hc <;> (try simp only [hcs, beq_iff_eq, ge_iff_le, gt_iff_lt] at hc))
    | ((first
      | (with_reducible first | refine AWP.region tabOk ?_ | refine AWP.quietC mixed tabOk (by decide +kernel) ?_ | refine AWP.draw mixed tabOk (by decide +kernel) ?_ | refine AWP.drawE mixed tabOk (by decide +kernel) ?_ | refine AWP.drawG mixed tabOk (by decide +kernel) ?_); intro K hK); ((try simp (disch := omega) only [go_sem, wrap_n]) <;> (repeat' with_reducible refine And.intro ?_ ?_) <;> (try (with_reducible refine hK _ ?_; clear hK K))))
    | ((first | (with_reducible refine aunder_i ?_ ?_ <;> intro hg) | with_reducible intro hg) <;> (first | (exfalso; simp at hg; done) | (have hg' := hg; (try simp only [hcs, beq_iff_eq, ge_iff_le, gt_iff_lt] at hg'); ((try simp (disch := omega) only [hg, go_sem, wrap_n]) <;> (repeat' with_reducible refine And.intro ?_ ?_) <;> (try (with_reducible refine hK _ ?_; clear hK K))))))
                                                            | omega
  · have e : l.length = 0 := by
      rcases Nat.eq_zero_or_pos l.length with h0 | h0
      · exact h0
      · rw [hg h0] at hc; simp at hc
    rw [nil_of_len e]
    (refine aend_nil (by first | exact .inl rfl | exact .inr rfl) rfl ?_ ?_ <;> simp (disch := omega) only [go_sem, wrap_n])
  · (refine aend_own 1 (by first | exact .inl rfl | exact .inr rfl) rfl ?_ rfl rfl ?_ <;> (try simp (disch := omega) only [go_sem, wrap_n, List.length_map]))
theorem copiedT_c (t : ATree) (h : t.nodes.length * 88 ≤ 140737488351232) (h2 : t.sessions.length * 8 ≤ 140737488351232) : acall Tryd.prog [] 104 [t.av] (outs (.agg [I t.zxid, .osl 0 9 0 t.nodes.length, .osl 1 1 0 t.sessions.length]) [.rows 9 (t.nodes.map ANode.row), .rows 1 (t.sessions.map irow)]) := by
  refine acall_of tabOk Tryd.func104 rfl (by kernel_rfl) (by simp [Tryd.ntmps104]) ?_; simp only [Tryd.ntmps104, Tryd.results104, List.toList_toArray, apar, List.length_nil, List.length_cons, Nat.reduceAdd]
  repeat' first
    | (with_reducible first | refine AWP.seq ?_ | refine thenA_n ?_ | refine thenA_r ?_ | refine thenA_e ?_ | refine blkA_n ?_ | refine blkA_r ?_ | refine blkA_e ?_ | refine blkA_x (by decide) ?_ | refine AWP.skip ?_ | refine AWP.ret ?_ | refine AWP.exit ?_ | refine AWP.block ?_)
    | (with_reducible refine AWP.cond rfl ?_ ?_ <;> intro hc <;> (try simp only [hcs, beq_iff_eq, ge_iff_le, gt_iff_lt] at hc))
    | ((first
      | (refine AWP.plan ((Plan.takes [0, 1, 3] (.fork 2 (Plan.takes [4, 6, 5, 7, 8, 9] .done) 4 (Plan.takes [2, 6, 5, 7, 8, 9] .done)))) mixed tabOk (by decide +kernel) ?_; intro K hK)
      | (with_reducible first | refine AWP.region tabOk ?_ | refine AWP.quietC mixed tabOk (by decide +kernel) ?_ | refine AWP.draw mixed tabOk (by decide +kernel) ?_ | refine AWP.drawE mixed tabOk (by decide +kernel) ?_ | refine AWP.drawG mixed tabOk (by decide +kernel) ?_); intro K hK
      | ((first | refine acallH_sc (cloneNode_c _ h) rfl rfl ?_ ?_ ?_ | refine acallQ_sc (cloneNode_c _ h) rfl rfl ?_ ?_ ?_ | refine acallH_sc (cloneInt_c _ h2) rfl rfl ?_ ?_ ?_ | refine acallQ_sc (cloneInt_c _ h2) rfl rfl ?_ ?_ ?_); iterate 2 (focus ((try simp (disch := omega) only [go_sem, wrap_n]) <;> (try omega) <;> fail)))
      | ((first | refine acallH_anyr (cloneNode_c _ h) rfl ?_ ?_ | refine acallH_anyr (cloneInt_c _ h2) rfl ?_ ?_); (focus ((try simp (disch := omega) only [go_sem, wrap_n]) <;> (try omega) <;> fail)))
      | ((first | refine acallH_scx (cloneNode_c _ h) rfl ?_ ?_ | refine acallQ_scx (cloneNode_c _ h) rfl ?_ ?_ | refine acallH_anyx (cloneNode_c _ h) ?_ ?_); (focus ((try simp (disch := omega) only [go_sem, wrap_n]) <;> (try omega) <;> fail)))
      | ((first | refine acallH_scx (cloneInt_c _ h2) rfl ?_ ?_ | refine acallQ_scx (cloneInt_c _ h2) rfl ?_ ?_ | refine acallH_anyx (cloneInt_c _ h2) ?_ ?_); (focus ((try simp (disch := omega) only [go_sem, wrap_n]) <;> (try omega) <;> fail)))); ((try simp (disch := omega) only [go_sem, wrap_n]) <;> (repeat' with_reducible refine And.intro ?_ ?_) <;> (try (with_reducible refine hK _ ?_; clear hK K))))
    | ((first | (with_reducible refine aunder_i ?_ ?_ <;> intro hg) | with_reducible intro hg) <;> (first | (exfalso; simp at hg; done) | (have hg' := hg; (try simp only [hcs, beq_iff_eq, ge_iff_le, gt_iff_lt] at hg'); ((try simp (disch := omega) only [hg, go_sem, wrap_n]) <;> (repeat' with_reducible refine And.intro ?_ ?_) <;> (try (with_reducible refine hK _ ?_; clear hK K))))))
                                                            | omega
  all_goals (refine aend_out (by first | exact .inl rfl | exact .inr rfl) ?_ ?_; (focus ((try simp (disch := omega) only [go_sem, wrap_n]) <;> fail)); simp (disch := omega) only [go_sem, wrap_n, true_and]; refine AOut.of_simp ?_ (AOut.same ⟨rfl, rfl⟩); refine SImp.frame [2, 3] rfl (by intro k hk; first | (simp at hk <;> (simp; omega)) | (simp only [List.mem_cons, List.not_mem_nil, or_false] at hk; simp only [List.length_cons, List.length_nil]; omega)) (by decide) (fun k hk => by first | omega | (rcases k with _ | _ | _ | _ | k <;> first | rfl | omega)) ?_ ?_ <;> simp (disch := omega) only [go_sem, wrap_n, true_or, or_true, true_and])
def bigN (n : ANode) : Bool := decide (2147483647 < n.stat.cversion)
def bigI (l : List ANode) : Int := if l.any bigN = true then (l.findIdx bigN : Nat) else -1
theorem bigI_yes {l : List ANode} {k : Nat} (h : k < l.length) (h1 : bigN (l.getD k default) = true) (h2 : ∀ j, j < k → bigN (l.getD j default) = false) : bigI l = (k : Nat) := by
  rw [List.getD_eq_getElem?_getD, List.getElem?_eq_getElem h] at h1
  have e : l.findIdx bigN = k := (List.findIdx_eq h).2 ⟨h1, fun j hj => by
    have := h2 j hj
    rwa [List.getD_eq_getElem?_getD, List.getElem?_eq_getElem (by omega)] at this⟩
  unfold bigI
  rw [if_pos (List.any_eq_true.2 ⟨l[k], List.getElem_mem h, h1⟩), e]
theorem bigI_no {l : List ANode} (h2 : ∀ j, j < l.length → bigN (l.getD j default) = false) : l.any bigN = false ∧ bigI l = -1 := by
  have e : l.any bigN = false := by
    rw [List.any_eq_false]
    intro x hx
    obtain ⟨j, hj, rfl⟩ := List.getElem_of_mem hx
    have := h2 j hj
    rw [List.getD_eq_getElem?_getD, List.getElem?_eq_getElem hj] at this
    simpa using this
  exact ⟨e, by unfold bigI; rw [e]; rfl⟩
theorem indexF_c (l : List ANode) (h : l.length * 88 ≤ 140737488351232) : acall Tryd.prog [] 156 [.d (.sl 9 (l.map ANode.row)), .d (.sc (.func (.func 110) #[] #[]))] (ret (I (bigI l))) := by
  refine acall_of tabOk Tryd.func156 rfl (by kernel_rfl) (by simp [Tryd.ntmps156]) ?_; simp only [Tryd.ntmps156, Tryd.results156, List.toList_toArray, apar, List.length_nil, List.length_cons, Nat.reduceAdd]
  repeat' first
    | (with_reducible first | refine AWP.seq ?_ | refine thenA_n ?_ | refine thenA_r ?_ | refine thenA_e ?_ | refine blkA_n ?_ | refine blkA_r ?_ | refine blkA_e ?_ | refine blkA_x (by decide) ?_ | refine AWP.skip ?_ | refine AWP.ret ?_ | refine AWP.exit ?_ | refine AWP.block ?_)
    | (with_reducible refine AWP.cond rfl ?_ ?_ <;> intro hc <;> (try simp only [hcs, beq_iff_eq, ge_iff_le, gt_iff_lt] at hc))
    | ((first
      | (with_reducible first | refine AWP.region tabOk ?_ | refine AWP.quietC mixed tabOk (by decide +kernel) ?_ | refine AWP.draw mixed tabOk (by decide +kernel) ?_ | refine AWP.drawE mixed tabOk (by decide +kernel) ?_ | refine AWP.drawG mixed tabOk (by decide +kernel) ?_); intro K hK); ((try simp (disch := omega) only [go_sem, wrap_n]) <;> (repeat' with_reducible refine And.intro ?_ ?_) <;> (try (with_reducible refine hK _ ?_; clear hK K))))
    | ((first | (with_reducible refine aunder_i ?_ ?_ <;> intro hg) | with_reducible intro hg) <;> (first | (exfalso; simp at hg; done) | (have hg' := hg; (try simp only [hcs, beq_iff_eq, ge_iff_le, gt_iff_lt] at hg'); ((try simp (disch := omega) only [hg, go_sem, wrap_n]) <;> (repeat' with_reducible refine And.intro ?_ ?_) <;> (try (with_reducible refine hK _ ?_; clear hK K))))))
                                                            | omega
  refine AWP.loopS (ι := Nat) (fun k => k ≤ l.length ∧ ∀ j, j < k → bigN (l.getD j default) = false) (fun k => l.length - k) [0, 1, 7] (fun k => [(8, I k)]) 0 ?_ (by simp (disch := omega) only [go_sem, wrap_n, true_and]) ?_
  · exact ⟨by omega, fun j hj => by omega⟩
  intro k ⟨hk, hk2⟩
  simp only [go_sem]
  repeat' first
    | (with_reducible first | refine AWP.seq ?_ | refine thenA_n ?_ | refine thenA_r ?_ | refine thenA_e ?_ | refine blkA_n ?_ | refine blkA_r ?_ | refine blkA_e ?_ | refine blkA_x (by decide) ?_ | refine AWP.skip ?_ | refine AWP.ret ?_ | refine AWP.exit ?_ | refine AWP.block ?_)
    | (with_reducible refine AWP.cond rfl ?_ ?_ <;> intro hc <;> (try simp only [hcs, beq_iff_eq, ge_iff_le, gt_iff_lt] at hc))
    | ((first
      | (with_reducible first | refine AWP.region tabOk ?_ | refine AWP.quietC mixed tabOk (by decide +kernel) ?_ | refine AWP.draw mixed tabOk (by decide +kernel) ?_ | refine AWP.drawE mixed tabOk (by decide +kernel) ?_ | refine AWP.drawG mixed tabOk (by decide +kernel) ?_); intro K hK); ((try simp (disch := omega) only [go_sem, wrap_n]) <;> (repeat' with_reducible refine And.intro ?_ ?_) <;> (try (with_reducible refine hK _ ?_; clear hK K))))
    | (refine acallHK_in fun Kk hKk => (acall_of tabOk Tryd.func110 rfl (by kernel_rfl) (by simp [Tryd.ntmps110]) ?_); simp only [Tryd.ntmps110, Tryd.results110, List.toList_toArray, apar, List.length_nil, List.length_cons, Nat.reduceAdd, List.length_append, List.length_set, go_sem])
    | (refine aend_in (v := ?_) hKk (by first | exact .inl rfl | exact .inr rfl) ?_ ?_ ?_; rotate_left; (focus ((try simp (disch := omega) only [go_sem, wrap_n]) <;> (try omega) <;> fail)); (focus ((try simp (disch := omega) only [go_sem, wrap_n]) <;> (first | done | exact rfl))); clear hKk Kk; ((try simp (disch := omega) only [go_sem, wrap_n]) <;> (repeat' with_reducible refine And.intro ?_ ?_) <;> (try (with_reducible refine hK _ ?_; clear hK K))))
    | ((first | (with_reducible refine aunder_i ?_ ?_ <;> intro hg) | with_reducible intro hg) <;> (first | (exfalso; simp at hg; done) | (have hg' := hg; (try simp only [hcs, beq_iff_eq, ge_iff_le, gt_iff_lt] at hg'); ((try simp (disch := omega) only [hg, go_sem, wrap_n]) <;> (repeat' with_reducible refine And.intro ?_ ?_) <;> (try (with_reducible refine hK _ ?_; clear hK K))))))
                                                            | omega
  · rw [bigI_yes (by assumption) (by unfold bigN; rw [decide_eq_true_eq]; exact hc) hk2]
    (refine aend_retc ?_ rfl ?_ ?_ ?_ ?_; (focus (first | exact .inl rfl | exact .inr rfl)); (iterate 3 (focus ((try simp (disch := omega) only [go_sem, wrap_n]) <;> (try omega) <;> fail))); (try simp (disch := omega) only [go_sem, wrap_n, I, B, S, inj, List.cons.injEq, and_true, true_and, and_self]))
  · refine ⟨k + 1, ⟨by omega, fun j hj => ?_⟩, by omega, ?_⟩
    · by_cases e : j = k
      · subst e; unfold bigN; rw [decide_eq_false_iff_not]; omega
      · exact hk2 j (by omega)
    (refine SImp.frame [] rfl (by intro k hk; first | (simp at hk <;> (simp; omega)) | (simp only [List.mem_cons, List.not_mem_nil, or_false] at hk; simp only [List.length_cons, List.length_nil]; omega)) (by decide) (fun k hk => by first | omega | (rcases k with _ | _ | _ | _ | k <;> first | rfl | omega)) ?_ ?_ <;> simp (disch := omega) only [go_sem, wrap_n, Int.natCast_add, true_and] <;> (try rfl))
  · rw [(bigI_no (fun j hj => hk2 j (by omega))).2]
    (refine aend_retc ?_ rfl ?_ ?_ ?_ ?_; (focus (first | exact .inl rfl | exact .inr rfl)); (iterate 3 (focus ((try simp (disch := omega) only [go_sem, wrap_n]) <;> (try omega) <;> fail))); (try simp (disch := omega) only [go_sem, wrap_n, I, B, S, inj, List.cons.injEq, and_true, true_and, and_self]))
theorem bigI_iff (l : List ANode) : decide (0 ≤ bigI l) = l.any bigN := by
  unfold bigI; split
  · rename_i h; rw [h, decide_eq_true_eq]; omega
  · rename_i h; rw [show l.any bigN = false from by simpa using h]; rfl
theorem contains_c (l : List ANode) (h : l.length * 88 ≤ 140737488351232) : acall Tryd.prog [] 109 [.d (.sl 9 (l.map ANode.row)), .d (.sc (.func (.func 110) #[] #[]))] (ret (B (l.any bigN))) := by
  rw [← bigI_iff]
  refine acall_of tabOk Tryd.func109 rfl (by kernel_rfl) (by simp [Tryd.ntmps109]) ?_; simp only [Tryd.ntmps109, Tryd.results109, List.toList_toArray, apar, List.length_nil, List.length_cons, Nat.reduceAdd]
  repeat' first
    | (with_reducible first | refine AWP.seq ?_ | refine thenA_n ?_ | refine thenA_r ?_ | refine thenA_e ?_ | refine blkA_n ?_ | refine blkA_r ?_ | refine blkA_e ?_ | refine blkA_x (by decide) ?_ | refine AWP.skip ?_ | refine AWP.ret ?_ | refine AWP.exit ?_ | refine AWP.block ?_)
    | (with_reducible refine AWP.cond rfl ?_ ?_ <;> intro hc <;> (try simp only [hcs, beq_iff_eq, ge_iff_le, gt_iff_lt] at hc))
    | ((first
      | (with_reducible first | refine AWP.region tabOk ?_ | refine AWP.quietC mixed tabOk (by decide +kernel) ?_ | refine AWP.draw mixed tabOk (by decide +kernel) ?_ | refine AWP.drawE mixed tabOk (by decide +kernel) ?_ | refine AWP.drawG mixed tabOk (by decide +kernel) ?_); intro K hK
      | ((first | refine acallH_sc (indexF_c l h) rfl rfl ?_ ?_ ?_ | refine acallQ_sc (indexF_c l h) rfl rfl ?_ ?_ ?_); iterate 2 (focus ((try simp (disch := omega) only [go_sem, wrap_n]) <;> (try omega) <;> fail)))
      | ((first | refine acallH_anyr (indexF_c l h) rfl ?_ ?_); (focus ((try simp (disch := omega) only [go_sem, wrap_n]) <;> (try omega) <;> fail)))
      | ((first | refine acallH_scx (indexF_c l h) rfl ?_ ?_ | refine acallQ_scx (indexF_c l h) rfl ?_ ?_ | refine acallH_anyx (indexF_c l h) ?_ ?_); (focus ((try simp (disch := omega) only [go_sem, wrap_n]) <;> (try omega) <;> fail)))); ((try simp (disch := omega) only [go_sem, wrap_n]) <;> (repeat' with_reducible refine And.intro ?_ ?_) <;> (try (with_reducible refine hK _ ?_; clear hK K))))
    | ((first | (with_reducible refine aunder_i ?_ ?_ <;> intro hg) | with_reducible intro hg) <;> (first | (exfalso; simp at hg; done) | (have hg' := hg; (try simp only [hcs, beq_iff_eq, ge_iff_le, gt_iff_lt] at hg'); ((try simp (disch := omega) only [hg, go_sem, wrap_n]) <;> (repeat' with_reducible refine And.intro ?_ ?_) <;> (try (with_reducible refine hK _ ?_; clear hK K))))))
                                                            | omega
  (refine aend_retc ?_ rfl ?_ ?_ ?_ ?_; (focus (first | exact .inl rfl | exact .inr rfl)); (iterate 3 (focus ((try simp (disch := omega) only [go_sem, wrap_n]) <;> (try omega) <;> fail))); (try simp (disch := omega) only [go_sem, wrap_n, I, B, S, inj, List.cons.injEq, and_true, true_and, and_self]))
end Go.Proofs.YtmpfhalheaeibaaDoor
namespace Go.Proofs.YtmpfhalheaeibaaDoor
set_option linter.unusedVariables false
set_option linter.unusedSimpArgs false
open Go Go.RowKit
set_option maxRecDepth 100000
set_option linter.unusedSimpArgs false
def pathsN (ns : List ANode) : List (List UInt8) := ns.map ANode.path
def dirP (p : List UInt8) : List UInt8 := (splitP p).1.1
def kidF (more z : Int) (n : ANode) : ANode := ⟨n.path, n.data, ⟨n.stat.czxid, n.stat.mzxid, z, n.stat.version, IntKind.i64.wrap (n.stat.cversion + 1), n.stat.owner, IntKind.i64.wrap (n.stat.kids + more)⟩⟩
def kidN (ns : List ANode) (p : List UInt8) (more z : Int) : List ANode := if dirP p ∈ pathsN ns then ns.set (place (pathsN ns) (dirP p)) (kidF more z (ns.getD (place (pathsN ns) (dirP p)) default)) else ns
def delN (ns : List ANode) (p : List UInt8) (z : Int) : List ANode := kidN (ns.eraseIdx (place (pathsN ns) p)) p (-1) z
def mkN (x : ATxn) : ANode := ⟨x.path, x.data, ⟨x.zxid, x.zxid, x.zxid, 0, 0, x.owner, 0⟩⟩
def addN (ns : List ANode) (x : ATxn) : List ANode := kidN (ns.insertIdx (place (pathsN ns) x.path) (mkN x)) x.path 1 x.zxid
def setF (x : ATxn) (n : ANode) : ANode := ⟨n.path, x.data, ⟨n.stat.czxid, x.zxid, n.stat.pzxid, x.version, n.stat.cversion, n.stat.owner, n.stat.kids⟩⟩
def setN (ns : List ANode) (x : ATxn) : List ANode := ns.set (place (pathsN ns) x.path) (setF x (ns.getD (place (pathsN ns) x.path) default))
def goneE (p : List UInt8) : List AEvent := [⟨2, p⟩, ⟨4, dirP p⟩]
def closeN (t : ATree) (s z : Int) : Nat → List ANode × List AEvent
  | 0 => (t.nodes, [])
  | k + 1 => if (t.nodes.getD k default).stat.owner = s then (delN (closeN t s z k).1 (t.nodes.getD k default).path z, (closeN t s z k).2 ++ goneE (t.nodes.getD k default).path) else closeN t s z k
def doneT (t : ATree) (x : ATxn) : ATree × List AEvent :=
  if x.op = 1 then (⟨x.zxid, t.nodes, t.sessions.insertIdx (placeI t.sessions x.session) x.session⟩, [])
  else if x.op = 2 then (⟨x.zxid, (closeN t x.session x.zxid t.nodes.length).1, t.sessions.eraseIdx (placeI t.sessions x.session)⟩, (closeN t x.session x.zxid t.nodes.length).2)
  else if x.op = 3 then (⟨x.zxid, addN t.nodes x, t.sessions⟩, [⟨1, x.path⟩, ⟨4, dirP x.path⟩])
  else if x.op = 4 then (⟨x.zxid, delN t.nodes x.path x.zxid, t.sessions⟩, goneE x.path)
  else (⟨x.zxid, setN t.nodes x, t.sessions⟩, [⟨3, x.path⟩])
def applyT (t : ATree) (x : ATxn) : ATree × List AEvent × Int :=
  if ¬ wrongT t x = 0 then (default, [], wrongT t x) else if (doneT t x).1.nodes.any bigN = true then (default, [], 6) else ((doneT t x).1, (doneT t x).2, 0)
theorem apply_no {t : ATree} {x : ATxn} (h : ¬ wrongT t x = 0) : applyT t x = (default, [], wrongT t x) := by unfold applyT; rw [if_pos h]
theorem apply_full {t : ATree} {x : ATxn} (h : wrongT t x = 0) (h2 : (doneT t x).1.nodes.any bigN = true) : applyT t x = (default, [], 6) := by unfold applyT; rw [if_neg (fun h' => h' h), if_pos h2]
theorem apply_ok {t : ATree} {x : ATxn} (h : wrongT t x = 0) (h2 : (doneT t x).1.nodes.any bigN = false) : applyT t x = ((doneT t x).1, (doneT t x).2, 0) := by unfold applyT; rw [if_neg (fun h' => h' h), if_neg (by rw [h2]; decide)]
theorem getT_zero {t : ATree} {p : List UInt8} : (getT t p).2 = 0 ↔ p ∈ pathsT t := by
  by_cases h : p ∈ pathsT t
  · unfold getT; rw [if_pos h]; exact ⟨fun _ => h, fun _ => rfl⟩
  · unfold getT; rw [if_neg h]; exact ⟨fun h' => (by cases h'), fun h' => absurd h' h⟩
theorem getT_seven {t : ATree} {p : List UInt8} (h : ¬ p ∈ pathsT t) : (getT t p).2 = 7 := by unfold getT; rw [if_neg h]
theorem wrong_ok {t : ATree} {x : ATxn} (h : wrongT t x = 0) : goodTr t = true ∧ goodT x = 0 ∧ t.zxid < x.zxid ∧ (x.op = 1 → ¬ x.session ∈ t.sessions) ∧ (¬ x.op = 1 → x.session ∈ t.sessions) ∧
    (x.op = 3 → ¬ x.path ∈ pathsT t ∧ dirP x.path ∈ pathsT t ∧ t.nodes.length < 400) ∧ (x.op = 4 → x.path ∈ pathsT t ∧ (getT t x.path).1.stat.kids ≤ 0) ∧ (x.op = 5 → x.path ∈ pathsT t) := by
  unfold wrongT at h
  by_cases a1 : goodTr t = true
  case neg => rw [if_pos (by simpa using a1)] at h; cases h
  rw [if_neg (by simp [a1])] at h
  by_cases a2 : goodT x = 0
  case neg => rw [if_pos a2] at h; exact absurd h a2
  rw [if_neg (fun h => h a2)] at h
  by_cases a3 : x.zxid ≤ t.zxid
  · rw [if_pos a3] at h; cases h
  rw [if_neg a3] at h
  have a5 : ¬ x.op = 1 → x.session ∈ t.sessions := fun o => by
    rw [if_neg o] at h
    by_cases m : x.session ∈ t.sessions
    · exact m
    · rw [if_pos m] at h; cases h
  refine ⟨a1, a2, by omega, fun o => ?_, a5, fun o => ?_, fun o => ?_, fun o => ?_⟩
  · rw [if_pos o] at h
    intro m; rw [if_pos m] at h; cases h
  · rw [if_neg (by omega), if_neg (fun h => h (a5 (by omega))), if_pos o] at h
    unfold lacksT at h
    by_cases q1 : (getT t x.path).2 = 0
    · rw [if_pos q1] at h; cases h
    rw [if_neg q1] at h
    by_cases q2 : (getT t (splitP x.path).1.1).2 = 0
    case neg => rw [if_pos q2] at h; exact absurd h q2
    rw [if_neg (fun h => h q2)] at h
    split at h
    · cases h
    · split at h
      · cases h
      · split at h
        · cases h
        · exact ⟨fun m => q1 (getT_zero.2 m), getT_zero.1 q2, by omega⟩
  · rw [if_neg (by omega), if_neg (fun h => h (a5 (by omega))), if_neg (by omega), if_pos o] at h
    split at h
    · cases h
    · rename_i q; exact ⟨getT_zero.1 h, by omega⟩
  · rw [if_neg (by omega), if_neg (fun h => h (a5 (by omega))), if_neg (by omega), if_neg (by omega), if_pos o] at h
    split at h
    · cases h
    · exact getT_zero.1 h
theorem goodT_nums {x : ATxn} (h : goodT x = 0) : 1 ≤ x.op ∧ x.op ≤ 5 ∧ 1 ≤ x.session ∧ badT x = false := by
  by_cases h1 : x.op < 1 ∨ 5 < x.op
  · rw [goodT_op h1] at h; cases h
  by_cases h2 : numsB x = true
  case neg => rw [goodT_num (by omega) h2] at h; cases h
  by_cases h3 : 256 < x.data.length
  · rw [goodT_long (by omega) h2 h3] at h; cases h
  rw [goodT_ok (by omega) h2 (by omega)] at h
  refine ⟨by omega, by omega, ((numsB_iff x).1 h2).2.1.1, ?_⟩
  cases e : badT x
  · rfl
  · rw [e, if_pos rfl] at h; cases h
theorem goodT_path {x : ATxn} (h : goodT x = 0) (ho : 3 ≤ x.op ∧ x.op ≤ 4) : goodP x.path = true ∧ x.path ≠ [47] := by
  obtain ⟨_, _, _, hb⟩ := goodT_nums h
  unfold badT at hb
  rw [if_neg (by omega)] at hb
  split at hb
  · simp at hb; exact ⟨hb.1, hb.2.1⟩
  · rw [if_pos (by omega)] at hb; simp at hb; exact ⟨hb.1, hb.2.1⟩
theorem kidN_len (ns : List ANode) (p : List UInt8) (m z : Int) : (kidN ns p m z).length = ns.length := by unfold kidN; split <;> simp
theorem mem_ins {l : List (List UInt8)} {i : Nat} {x y : List UInt8} (h : i ≤ l.length) : y ∈ l.insertIdx i x ↔ y = x ∨ y ∈ l := List.mem_insertIdx h
theorem rises_ins {l : List (List UInt8)} {key : List UInt8} (hr : Rises l) (hm : ¬ key ∈ l) : Rises (l.insertIdx (place l key) key) := by
  have hp := place_le l key
  have lo : ∀ j, j < place l key → l.getD j [] < key := fun j hj => by
    have := List.not_of_lt_findIdx (p := fun x => !decide (x < key)) (xs := l) hj
    rw [List.getD_eq_getElem?_getD, List.getElem?_eq_getElem (by omega)]
    simpa using this
  have hi : ∀ j, place l key ≤ j → j < l.length → key < l.getD j [] := fun j h1 h2 => by
    have a : ¬ l.getD (place l key) [] < key := by
      have := List.findIdx_getElem (p := fun x => !decide (x < key)) (xs := l) (w := (by unfold place at h1; omega))
      rw [Bool.not_eq_true', decide_eq_false_iff_not] at this
      rw [List.getD_eq_getElem?_getD, List.getElem?_eq_getElem (by omega)]
      exact this
    have b : key < l.getD (place l key) [] := lt_of_not a fun e => hm (by rw [← e]; exact mem_getD _ _ (by omega))
    by_cases e : place l key = j
    · rw [← e]; exact b
    · exact List.lt_trans b (rises_lt hr (by omega) h2)
  generalize place l key = p at *
  intro k hk
  rw [ins_len _ _ _ hp] at hk
  have gt (q : Nat) (hq : p < q) : (l.insertIdx p key).getD q [] = l.getD (q - 1) [] := by
    rw [ins_eq _ _ _ hp, List.getD_eq_getElem?_getD, List.getElem?_append_right (by rw [List.length_take]; omega), List.length_take, Nat.min_eq_left hp, show q - p = (q - p - 1) + 1 from by omega, List.getElem?_cons_succ, List.getElem?_drop, List.getD_eq_getElem?_getD]
    congr 2; omega
  rcases Nat.lt_trichotomy (k + 1) p with h | h | h
  · rw [ins_get_lt _ _ _ _ _ hp (by omega), ins_get_lt _ _ _ _ _ hp (by omega)]; exact hr k (by omega)
  · subst h
    rw [ins_get_lt _ _ _ _ _ hp (by omega), getD_ins _ _ _ _ hp]; exact lo k (by omega)
  · rw [gt _ h, Nat.add_sub_cancel]
    by_cases e : k = p
    · subst e; rw [getD_ins _ _ _ _ hp]; exact hi _ (Nat.le_refl _) (by omega)
    · rw [gt _ (by omega)]
      have := hr (k - 1) (by omega)
      rwa [show k - 1 + 1 = k from by omega] at this
theorem rises_erase {l : List (List UInt8)} (hr : Rises l) (i : Nat) : Rises (l.eraseIdx i) := by
  by_cases h : i < l.length
  · intro k hk
    rw [erase_len _ _ h] at hk
    have g (q : Nat) : (l.eraseIdx i).getD q [] = if q < i then l.getD q [] else l.getD (q + 1) [] := by
      rw [List.getD_eq_getElem?_getD, List.getElem?_eraseIdx]; split <;> rw [List.getD_eq_getElem?_getD]
    rw [g, g]
    split <;> split
    · exact hr k (by omega)
    · exact rises_lt hr (by omega) (by omega)
    · omega
    · exact hr (k + 1) (by omega)
  · rw [List.eraseIdx_of_length_le (by omega)]; exact hr
theorem pathsN_ins (ns : List ANode) (i : Nat) (n : ANode) : pathsN (ns.insertIdx i n) = (pathsN ns).insertIdx i n.path := by unfold pathsN; exact (ins_map ANode.path ns i n).symm
theorem pathsN_erase (ns : List ANode) (i : Nat) : pathsN (ns.eraseIdx i) = (pathsN ns).eraseIdx i := by unfold pathsN; exact (erase_map ANode.path ns i).symm
theorem pathsN_set (ns : List ANode) (i : Nat) (n : ANode) (h : n.path = (ns.getD i default).path) : pathsN (ns.set i n) = pathsN ns := by
  unfold pathsN
  apply List.ext_getElem?
  intro j
  rw [List.getElem?_map, List.getElem?_map, List.getElem?_set]
  split
  · rename_i e; subst e
    split
    · rename_i h2; rw [List.getD_eq_getElem?_getD, List.getElem?_eq_getElem h2] at h; rw [List.getElem?_eq_getElem h2]; simp [h]
    · rename_i h2; rw [List.getElem?_eq_none (by omega)]
  · rfl
theorem pathsN_kid (ns : List ANode) (p : List UInt8) (m z : Int) : pathsN (kidN ns p m z) = pathsN ns := by
  unfold kidN; split
  · exact pathsN_set _ _ _ rfl
  · rfl
theorem pathsN_len (ns : List ANode) : (pathsN ns).length = ns.length := by unfold pathsN; simp
theorem dir_ne {s : List UInt8} (hg : goodP s = true) (h : s ≠ [47]) : dirP s ≠ s := by
  rcases good_cases hg with e | ⟨ps, p, h1, h2, h3, _⟩
  · exact absurd e h
  · unfold dirP
    rw [h2, split_snoc h1 h3]
    intro e
    have := congrArg stepsOf e
    rw [steps_pathOf h1, steps_pathOf (fun q hq => h1 q (List.mem_append.2 (.inl hq)))] at this
    have := congrArg List.length this
    simp at this
theorem mem_erase {l : List (List UInt8)} {i : Nat} {y : List UInt8} (h : y ∈ l) (hy : l.getD i [] ≠ y) : y ∈ l.eraseIdx i := by
  by_cases hi : i < l.length
  · rw [erase_eq, List.mem_append]
    have : l = l.take i ++ l.getD i [] :: l.drop (i + 1) := by
      rw [List.getD_eq_getElem?_getD, List.getElem?_eq_getElem hi]; simp
    rw [this, List.mem_append, List.mem_cons] at h
    rcases h with h | h | h
    · exact .inl h
    · exact absurd h.symm hy
    · exact .inr h
  · rw [List.eraseIdx_of_length_le (by omega)]; exact h
theorem dir_mem {t : ATree} (hg : goodTr t = true) {p : List UInt8} (hm : p ∈ pathsT t) (h : p ≠ [47]) : dirP p ∈ pathsT t ∧ dirP p ≠ p := by
  have hr := good_rises hg
  have hpl := (place_found hr hm).1
  have hpe := (place_found hr hm).2
  rw [pathsT_len] at hpl
  rw [pathsT_get] at hpe
  obtain ⟨_, _, a, b⟩ := goodTr_iff.1 hg
  have hgp := (a _ hpl).1
  rw [hpe] at hgp
  refine ⟨?_, dir_ne hgp h⟩
  rcases (b _ hpl).2.2.1 with e | e
  · rw [e, (good_root hg).2.2.1] at hpe; exact absurd hpe.symm h
  · unfold dirT at e; rw [hpe] at e; exact e
theorem findN_c (z : Int) (ns : List ANode) (ss : List Int) (key : List UInt8) (h : ns.length * 88 ≤ 140737488351232) (hr : Rises (pathsN ns)) : acall Tryd.prog [] 92 [.agg [I z, .d (.sl 9 (ns.map ANode.row)), .d (.sl 1 (ss.map irow))], S key] (ret (.tup [I (place (pathsN ns) key), B (decide (key ∈ pathsN ns))])) :=
  findT_c ⟨z, ns, ss⟩ key h hr
theorem placeI_lt {l : List Int} {key : Int} (hr : RisesI l) (h : key ∈ l) : placeI l key < l.length := by
  obtain ⟨k, hk, e⟩ := (mem_iff_getD l default key).1 h
  have : placeI l key = k := placeI_eq (by omega) (fun j hj => by rw [← e]; exact risesI_lt hr hj hk) (fun _ => by rw [e]; omega)
  omega
theorem sess_lo {l : List Int} (h : ∀ k, k < l.length → sessOk l k) : ∀ k, k < l.length → ((k : Nat) : Int) + 1 ≤ l.getD k default
  | 0, hk => by have := (h 0 hk).1; omega
  | k + 1, hk => by
    have a := sess_lo h k (by omega)
    have b := (h (k + 1) hk).2.2 (by omega)
    rw [Nat.add_sub_cancel] at b; omega
theorem sess_len {t : ATree} (hg : goodTr t = true) : t.sessions.length ≤ 2147483647 := by
  have h := (goodTr_iff.1 hg).2.1
  rcases Nat.eq_zero_or_pos t.sessions.length with e | e
  · omega
  · have a := sess_lo h (t.sessions.length - 1) (by omega)
    have b := (h (t.sessions.length - 1) (by omega)).2.1
    omega
set_option maxHeartbeats 8000000 in
theorem apply3_c (t : ATree) (x : ATxn) (hw : t.wf) (hp : okS x.path) (hd : okS x.data) (h0 : wrongT t x = 0) (o3 : x.op = 3) : acall Tryd.prog [] 51 [t.av, x.av] (ret (.tup [(applyT t x).1.av, .d (.sl 2 ((applyT t x).2.1.map AEvent.row)), I (applyT t x).2.2])) := by
  have hwc := wrong_c t x hw hp hd
  obtain ⟨g1, g2, g3, g4, g5, g6, g7, g8⟩ := wrong_ok h0
  obtain ⟨h1, h2⟩ : t.nodes.length * 88 ≤ 140737488351232 ∧ t.sessions.length * 8 ≤ 140737488351232 := ⟨hw.2.1.1, hw.2.2.1⟩
  have hcp := copiedT_c t h1 h2
  have h400 : t.nodes.length ≤ 400 := (good_root g1).2.1
  rw [h0] at hwc
  have hr : Rises (pathsN t.nodes) := good_rises g1
  obtain ⟨m1, m2, hlt⟩ := g6 o3
  have hf1 := findN_c x.zxid t.nodes t.sessions x.path h1 hr
  have hpl : place (pathsN t.nodes) x.path ≤ (t.nodes.map ANode.row).length := by have := place_le (pathsN t.nodes) x.path; rw [pathsN_len] at this; rw [List.length_map]; exact this
  have hpl2 : place (pathsN t.nodes) x.path ≤ t.nodes.length := by rw [List.length_map] at hpl; exact hpl
  have hdone : (doneT t x) = (⟨x.zxid, addN t.nodes x, t.sessions⟩, [⟨1, x.path⟩, ⟨4, dirP x.path⟩]) := by unfold doneT; rw [if_neg (by omega), if_neg (by omega), if_pos o3]
  generalize hN : t.nodes.insertIdx (place (pathsN t.nodes) x.path) (⟨x.path, x.data, ⟨x.zxid, x.zxid, x.zxid, 0, 0, x.owner, 0⟩⟩ : ANode) = ns1
  have hN' : t.nodes.insertIdx (place (pathsN t.nodes) x.path) (mkN x) = ns1 := hN
  have hl1 : ns1.length = t.nodes.length + 1 := by rw [← hN, ins_len _ _ _ hpl2]
  have hp1 : pathsN ns1 = (pathsN t.nodes).insertIdx (place (pathsN t.nodes) x.path) x.path := by rw [← hN, pathsN_ins]
  have hr1 : Rises (pathsN ns1) := by rw [hp1]; exact rises_ins hr m1
  have hm1 : dirP x.path ∈ pathsN ns1 := by rw [hp1, mem_ins (by rw [pathsN_len]; exact hpl2)]; exact .inr m2
  have hq := (place_found hr1 hm1).1
  rw [pathsN_len] at hq
  have hadd : addN t.nodes x = ns1.set (place (pathsN ns1) (dirP x.path)) (kidF 1 x.zxid (ns1.getD (place (pathsN ns1) (dirP x.path)) default)) := by unfold addN kidN; rw [hN', if_pos hm1]
  have hf2 := (findN_c x.zxid ns1 t.sessions (dirP x.path) (by omega) hr1).re (by rw [decide_eq_true hm1])
  rw [hadd] at hdone
  generalize hn2 : ns1.set (place (pathsN ns1) (dirP x.path)) (kidF 1 x.zxid (ns1.getD (place (pathsN ns1) (dirP x.path)) default)) = ns2 at hdone
  have hl2 : ns2.length = t.nodes.length + 1 := by rw [← hn2, List.length_set, hl1]
  have hcc := contains_c ns2 (by omega)
  unfold kidF at hn2
  have e1 : (splitP x.path).1.1 = dirP x.path := rfl
  have tk1 : List.take (t.nodes.length + 1) (ns1.map ANode.row) = ns1.map ANode.row := List.take_of_length_le (by rw [List.length_map]; omega)
  have tk2 : List.take (t.nodes.length + 1) (ns2.map ANode.row) = ns2.map ANode.row := List.take_of_length_le (by rw [List.length_map]; omega)
  refine acall_of tabOk Tryd.func51 rfl (by kernel_rfl) (by simp [Tryd.ntmps51]) ?_; simp only [Tryd.ntmps51, Tryd.results51, List.toList_toArray, apar, List.length_nil, List.length_cons, Nat.reduceAdd]
  repeat' first
    | (with_reducible first | refine AWP.seq ?_ | refine thenA_n ?_ | refine thenA_r ?_ | refine thenA_e ?_ | refine blkA_n ?_ | refine blkA_r ?_ | refine blkA_e ?_ | refine blkA_x (by decide) ?_ | refine AWP.skip ?_ | refine AWP.ret ?_ | refine AWP.exit ?_ | refine AWP.block ?_)
    | (with_reducible refine AWP.cond rfl ?_ ?_ <;> intro hc <;> (try simp only [hcs, beq_iff_eq, ge_iff_le, gt_iff_lt] at hc))
    | ((first
      | (refine AWP.plan ((Plan.takes [0, 1, 2, 3, 4, 6, 7, 8, 9, 10, 11, 12, 13, 14, 15, 16, 17, 18, 19, 20] (.fork 5 (Plan.takes [21, 22, 23, 24, 25, 26] .done) 21 (Plan.takes [5, 22, 23, 24, 25, 26] .done)))) mixed tabOk (by decide +kernel) ?_; intro K hK)
      | (refine AWP.plan ((Plan.takes [0, 1, 2, 3, 5, 6, 7] (.fork 4 (Plan.takes [8, 9, 10, 11, 12] .done) 8 (Plan.takes [4, 9, 10, 11, 12] .done)))) mixed tabOk (by decide +kernel) ?_; intro K hK)
      | (refine AWP.plan ((Plan.takes [0, 1, 2, 3, 4, 5, 6] (.fork 7 (Plan.takes [8, 9, 10] .done) 8 (Plan.takes [7, 9, 10] .done)))) mixed tabOk (by decide +kernel) ?_; intro K hK)
      | (with_reducible first | refine AWP.region tabOk ?_ | refine AWP.quietC mixed tabOk (by decide +kernel) ?_ | refine AWP.draw mixed tabOk (by decide +kernel) ?_ | refine AWP.drawE mixed tabOk (by decide +kernel) ?_ | refine AWP.drawG mixed tabOk (by decide +kernel) ?_); intro K hK
      | ((first | refine acallH_sc (hwc) rfl rfl ?_ ?_ ?_ | refine acallQ_sc (hwc) rfl rfl ?_ ?_ ?_ | refine acallH_sc (hcp) rfl rfl ?_ ?_ ?_ | refine acallQ_sc (hcp) rfl rfl ?_ ?_ ?_ | refine acallH_sc (hf1) rfl rfl ?_ ?_ ?_ | refine acallQ_sc (hf1) rfl rfl ?_ ?_ ?_ | refine acallH_sc (hf2) rfl rfl ?_ ?_ ?_ | refine acallQ_sc (hf2) rfl rfl ?_ ?_ ?_ | refine acallH_sc (hcc) rfl rfl ?_ ?_ ?_ | refine acallQ_sc (hcc) rfl rfl ?_ ?_ ?_ | refine acallH_sc (split_c x.path hp) rfl rfl ?_ ?_ ?_ | refine acallQ_sc (split_c x.path hp) rfl rfl ?_ ?_ ?_); iterate 2 (focus ((try simp (disch := omega) only [go_sem, wrap_n, o3, ANode.rins, hN, hl1, e1, hn2, hl2, tk1, tk2, ANode.rgetD, getD_set, ANode.rset, getD_mapset, List.set_set]) <;> (try omega) <;> fail)))
      | ((first | refine acallH_anyr (hwc) rfl ?_ ?_ | refine acallH_anyr (hcp) rfl ?_ ?_ | refine acallH_anyr (hf1) rfl ?_ ?_ | refine acallH_anyr (hf2) rfl ?_ ?_ | refine acallH_anyr (hcc) rfl ?_ ?_ | refine acallH_anyr (split_c x.path hp) rfl ?_ ?_); (focus ((try simp (disch := omega) only [go_sem, wrap_n, o3, ANode.rins, hN, hl1, e1, hn2, hl2, tk1, tk2, ANode.rgetD, getD_set, ANode.rset, getD_mapset, List.set_set]) <;> (try omega) <;> fail)))
      | ((first | refine acallH_scx (hwc) rfl ?_ ?_ | refine acallQ_scx (hwc) rfl ?_ ?_ | refine acallH_anyx (hwc) ?_ ?_); (focus ((try simp (disch := omega) only [go_sem, wrap_n, o3, ANode.rins, hN, hl1, e1, hn2, hl2, tk1, tk2, ANode.rgetD, getD_set, ANode.rset, getD_mapset, List.set_set]) <;> (try omega) <;> fail)))
      | ((first | refine acallH_scx (hcp) rfl ?_ ?_ | refine acallQ_scx (hcp) rfl ?_ ?_ | refine acallH_anyx (hcp) ?_ ?_); (focus ((try simp (disch := omega) only [go_sem, wrap_n, o3, ANode.rins, hN, hl1, e1, hn2, hl2, tk1, tk2, ANode.rgetD, getD_set, ANode.rset, getD_mapset, List.set_set]) <;> (try omega) <;> fail)))
      | ((first | refine acallH_scx (hf1) rfl ?_ ?_ | refine acallQ_scx (hf1) rfl ?_ ?_ | refine acallH_anyx (hf1) ?_ ?_); (focus ((try simp (disch := omega) only [go_sem, wrap_n, o3, ANode.rins, hN, hl1, e1, hn2, hl2, tk1, tk2, ANode.rgetD, getD_set, ANode.rset, getD_mapset, List.set_set]) <;> (try omega) <;> fail)))
      | ((first | refine acallH_scx (hf2) rfl ?_ ?_ | refine acallQ_scx (hf2) rfl ?_ ?_ | refine acallH_anyx (hf2) ?_ ?_); (focus ((try simp (disch := omega) only [go_sem, wrap_n, o3, ANode.rins, hN, hl1, e1, hn2, hl2, tk1, tk2, ANode.rgetD, getD_set, ANode.rset, getD_mapset, List.set_set]) <;> (try omega) <;> fail)))
      | ((first | refine acallH_scx (hcc) rfl ?_ ?_ | refine acallQ_scx (hcc) rfl ?_ ?_ | refine acallH_anyx (hcc) ?_ ?_); (focus ((try simp (disch := omega) only [go_sem, wrap_n, o3, ANode.rins, hN, hl1, e1, hn2, hl2, tk1, tk2, ANode.rgetD, getD_set, ANode.rset, getD_mapset, List.set_set]) <;> (try omega) <;> fail)))
      | ((first | refine acallH_scx (split_c x.path hp) rfl ?_ ?_ | refine acallQ_scx (split_c x.path hp) rfl ?_ ?_ | refine acallH_anyx (split_c x.path hp) ?_ ?_); (focus ((try simp (disch := omega) only [go_sem, wrap_n, o3, ANode.rins, hN, hl1, e1, hn2, hl2, tk1, tk2, ANode.rgetD, getD_set, ANode.rset, getD_mapset, List.set_set]) <;> (try omega) <;> fail)))
      | (refine acallH_own (insNode_c (t.nodes.map ANode.row) [.str x.path, .str x.data, .int .i64 x.zxid, .int .i64 x.zxid, .int .i64 x.zxid, .int .i64 0, .int .i64 0, .int .i64 x.owner, .int .i64 0] (place (pathsN t.nodes) x.path) hpl (by rw [List.length_map]; omega)) ?_ ?_ ?_; (focus ((try simp (disch := omega) only [inj, List.cons.injEq, and_self, List.nodup_cons, List.not_mem_nil, List.mem_cons, not_false_eq_true, List.nodup_nil, go_sem, wrap_n, o3, ANode.rins, hN, hl1, e1, hn2, hl2, tk1, tk2, ANode.rgetD, getD_set, ANode.rset, getD_mapset, List.set_set]) <;> (try omega) <;> fail)); (focus ((try simp (disch := omega) only [inj, List.cons.injEq, and_self, List.nodup_cons, List.not_mem_nil, List.mem_cons, not_false_eq_true, List.nodup_nil, go_sem, wrap_n, o3, ANode.rins, hN, hl1, e1, hn2, hl2, tk1, tk2, ANode.rgetD, getD_set, ANode.rset, getD_mapset, List.set_set]) <;> (try omega) <;> (try decide) <;> fail)))); ((try simp (disch := omega) only [go_sem, wrap_n, o3, ANode.rins, hN, hl1, e1, hn2, hl2, tk1, tk2, ANode.rgetD, getD_set, ANode.rset, getD_mapset, List.set_set]) <;> (repeat' with_reducible refine And.intro ?_ ?_) <;> (try (with_reducible refine hK _ ?_; clear hK K))))
    | (refine acallHK_in fun Kk hKk => (acall_of tabOk Tryd.func108 rfl (by kernel_rfl) (by simp [Tryd.ntmps108]) ?_); simp only [Tryd.ntmps108, Tryd.results108, List.toList_toArray, apar, List.length_nil, List.length_cons, Nat.reduceAdd, List.length_append, List.length_set, go_sem])
    | (refine acallHK_in fun Kk hKk => (acall_of tabOk Tryd.func154 rfl (by kernel_rfl) (by simp [Tryd.ntmps154]) ?_); simp only [Tryd.ntmps154, Tryd.results154, List.toList_toArray, apar, List.length_nil, List.length_cons, Nat.reduceAdd, List.length_append, List.length_set, go_sem])
    | (refine aend_in (v := ?_) hKk (by first | exact .inl rfl | exact .inr rfl) ?_ ?_ ?_; rotate_left; (focus ((try simp (disch := omega) only [go_sem, wrap_n, o3, ANode.rins, hN, hl1, e1, hn2, hl2, tk1, tk2, ANode.rgetD, getD_set, ANode.rset, getD_mapset, List.set_set]) <;> (try omega) <;> fail)); (focus ((try simp (disch := omega) only [go_sem, wrap_n, o3, ANode.rins, hN, hl1, e1, hn2, hl2, tk1, tk2, ANode.rgetD, getD_set, ANode.rset, getD_mapset, List.set_set]) <;> (first | done | exact rfl))); clear hKk Kk; ((try simp (disch := omega) only [go_sem, wrap_n, o3, ANode.rins, hN, hl1, e1, hn2, hl2, tk1, tk2, ANode.rgetD, getD_set, ANode.rset, getD_mapset, List.set_set]) <;> (repeat' with_reducible refine And.intro ?_ ?_) <;> (try (with_reducible refine hK _ ?_; clear hK K))))
    | ((first | (with_reducible refine aunder_i ?_ ?_ <;> intro hg) | with_reducible intro hg) <;> (first | (exfalso; simp at hg; done) | (have hg' := hg; (try simp only [hcs, beq_iff_eq, ge_iff_le, gt_iff_lt] at hg'); ((try simp (disch := omega) only [hg, go_sem, wrap_n, o3, ANode.rins, hN, hl1, e1, hn2, hl2, tk1, tk2, ANode.rgetD, getD_set, ANode.rset, getD_mapset, List.set_set]) <;> (repeat' with_reducible refine And.intro ?_ ?_) <;> (try (with_reducible refine hK _ ?_; clear hK K))))))
                                                            | omega
  all_goals first
    | (rw [apply_full h0 (by rw [hdone]; exact hc)]; (refine aend_retc ?_ rfl ?_ ?_ ?_ ?_; (focus (first | exact .inl rfl | exact .inr rfl)); (iterate 3 (focus ((try simp (disch := omega) only [go_sem, wrap_n, default]) <;> (try omega) <;> fail))); (try simp (disch := omega) only [go_sem, wrap_n, default, I, B, S, inj, List.cons.injEq, and_true, true_and, and_self])); done)
    | (rw [apply_ok h0 (by rw [hdone]; exact hc), hdone]; (refine aend_retc ?_ rfl ?_ ?_ ?_ ?_; (focus (first | exact .inl rfl | exact .inr rfl)); (iterate 3 (focus ((try simp (disch := omega) only [go_sem, wrap_n, tk2]) <;> (try omega) <;> fail))); (try simp (disch := omega) only [go_sem, wrap_n, tk2, I, B, S, inj, List.cons.injEq, and_true, true_and, and_self])); done)
set_option maxHeartbeats 8000000 in
theorem apply4_c (t : ATree) (x : ATxn) (hw : t.wf) (hp : okS x.path) (hd : okS x.data) (h0 : wrongT t x = 0) (o4 : x.op = 4) : acall Tryd.prog [] 51 [t.av, x.av] (ret (.tup [(applyT t x).1.av, .d (.sl 2 ((applyT t x).2.1.map AEvent.row)), I (applyT t x).2.2])) := by
  have hwc := wrong_c t x hw hp hd
  obtain ⟨g1, g2, g3, g4, g5, g6, g7, g8⟩ := wrong_ok h0
  obtain ⟨h1, h2⟩ : t.nodes.length * 88 ≤ 140737488351232 ∧ t.sessions.length * 8 ≤ 140737488351232 := ⟨hw.2.1.1, hw.2.2.1⟩
  have hcp := copiedT_c t h1 h2
  have h400 : t.nodes.length ≤ 400 := (good_root g1).2.1
  rw [h0] at hwc
  have hr : Rises (pathsN t.nodes) := good_rises g1
  obtain ⟨m1, _⟩ := g7 o4
  have hnr : x.path ≠ [47] := (goodT_path g2 (by omega)).2
  obtain ⟨m2, m3⟩ := dir_mem g1 m1 hnr
  have hf1 := (findN_c x.zxid t.nodes t.sessions x.path h1 hr).re (by rw [decide_eq_true (show x.path ∈ pathsN t.nodes from m1)])
  have hpf := place_found hr m1
  have hpl : place (pathsN t.nodes) x.path < (t.nodes.map ANode.row).length := by have := hpf.1; rw [List.length_map]; rwa [pathsN_len] at this
  have hpl2 : place (pathsN t.nodes) x.path < t.nodes.length := by rw [List.length_map] at hpl; exact hpl
  have hdone : (doneT t x) = (⟨x.zxid, delN t.nodes x.path x.zxid, t.sessions⟩, goneE x.path) := by unfold doneT; rw [if_neg (by omega), if_neg (by omega), if_neg (by omega), if_pos o4]
  generalize hN : t.nodes.eraseIdx (place (pathsN t.nodes) x.path) = ns1
  have hl1 : ns1.length = t.nodes.length - 1 := by rw [← hN, erase_len _ _ hpl2]
  have hp1 : pathsN ns1 = (pathsN t.nodes).eraseIdx (place (pathsN t.nodes) x.path) := by rw [← hN, pathsN_erase]
  have hr1 : Rises (pathsN ns1) := by rw [hp1]; exact rises_erase hr _
  have hm1 : dirP x.path ∈ pathsN ns1 := by rw [hp1]; exact mem_erase m2 (by rw [hpf.2]; exact m3.symm)
  have hq := (place_found hr1 hm1).1
  rw [pathsN_len] at hq
  have hadd : delN t.nodes x.path x.zxid = ns1.set (place (pathsN ns1) (dirP x.path)) (kidF (-1) x.zxid (ns1.getD (place (pathsN ns1) (dirP x.path)) default)) := by unfold delN kidN; rw [hN, if_pos hm1]
  have hf2 := (findN_c x.zxid ns1 t.sessions (dirP x.path) (by omega) hr1).re (by rw [decide_eq_true hm1])
  rw [hadd] at hdone
  generalize hn2 : ns1.set (place (pathsN ns1) (dirP x.path)) (kidF (-1) x.zxid (ns1.getD (place (pathsN ns1) (dirP x.path)) default)) = ns2 at hdone
  have hl2 : ns2.length = t.nodes.length - 1 := by rw [← hn2, List.length_set, hl1]
  have hcc := contains_c ns2 (by omega)
  unfold kidF at hn2
  have e1 : (splitP x.path).1.1 = dirP x.path := rfl
  have tk1 : List.take (t.nodes.length - 1) (ns1.map ANode.row) = ns1.map ANode.row := List.take_of_length_le (by rw [List.length_map]; omega)
  have tk2 : List.take (t.nodes.length - 1) (ns2.map ANode.row) = ns2.map ANode.row := List.take_of_length_le (by rw [List.length_map]; omega)
  refine acall_of tabOk Tryd.func51 rfl (by kernel_rfl) (by simp [Tryd.ntmps51]) ?_; simp only [Tryd.ntmps51, Tryd.results51, List.toList_toArray, apar, List.length_nil, List.length_cons, Nat.reduceAdd]
  repeat' first
    | (with_reducible first | refine AWP.seq ?_ | refine thenA_n ?_ | refine thenA_r ?_ | refine thenA_e ?_ | refine blkA_n ?_ | refine blkA_r ?_ | refine blkA_e ?_ | refine blkA_x (by decide) ?_ | refine AWP.skip ?_ | refine AWP.ret ?_ | refine AWP.exit ?_ | refine AWP.block ?_)
    | (with_reducible refine AWP.cond rfl ?_ ?_ <;> intro hc <;> (try simp only [hcs, beq_iff_eq, ge_iff_le, gt_iff_lt] at hc))
    | ((first
      | (refine AWP.plan ((Plan.takes [0, 1, 2, 3, 4, 5, 6] (.fork 7 (Plan.takes [8, 9, 10] .done) 8 (Plan.takes [7, 9, 10] .done)))) mixed tabOk (by decide +kernel) ?_; intro K hK)
      | (with_reducible first | refine AWP.region tabOk ?_ | refine AWP.quietC mixed tabOk (by decide +kernel) ?_ | refine AWP.draw mixed tabOk (by decide +kernel) ?_ | refine AWP.drawE mixed tabOk (by decide +kernel) ?_ | refine AWP.drawG mixed tabOk (by decide +kernel) ?_); intro K hK
      | ((first | refine acallH_sc (hwc) rfl rfl ?_ ?_ ?_ | refine acallQ_sc (hwc) rfl rfl ?_ ?_ ?_ | refine acallH_sc (hcp) rfl rfl ?_ ?_ ?_ | refine acallQ_sc (hcp) rfl rfl ?_ ?_ ?_ | refine acallH_sc (hf1) rfl rfl ?_ ?_ ?_ | refine acallQ_sc (hf1) rfl rfl ?_ ?_ ?_ | refine acallH_sc (hf2) rfl rfl ?_ ?_ ?_ | refine acallQ_sc (hf2) rfl rfl ?_ ?_ ?_ | refine acallH_sc (hcc) rfl rfl ?_ ?_ ?_ | refine acallQ_sc (hcc) rfl rfl ?_ ?_ ?_ | refine acallH_sc (split_c x.path hp) rfl rfl ?_ ?_ ?_ | refine acallQ_sc (split_c x.path hp) rfl rfl ?_ ?_ ?_); iterate 2 (focus ((try simp (disch := omega) only [go_sem, wrap_n, o4, erase_map, hN, hl1, e1, hn2, hl2, tk1, tk2, ANode.rgetD, getD_set, ANode.rset, getD_mapset, List.set_set]) <;> (try omega) <;> fail)))
      | ((first | refine acallH_anyr (hwc) rfl ?_ ?_ | refine acallH_anyr (hcp) rfl ?_ ?_ | refine acallH_anyr (hf1) rfl ?_ ?_ | refine acallH_anyr (hf2) rfl ?_ ?_ | refine acallH_anyr (hcc) rfl ?_ ?_ | refine acallH_anyr (split_c x.path hp) rfl ?_ ?_); (focus ((try simp (disch := omega) only [go_sem, wrap_n, o4, erase_map, hN, hl1, e1, hn2, hl2, tk1, tk2, ANode.rgetD, getD_set, ANode.rset, getD_mapset, List.set_set]) <;> (try omega) <;> fail)))
      | ((first | refine acallH_scx (hwc) rfl ?_ ?_ | refine acallQ_scx (hwc) rfl ?_ ?_ | refine acallH_anyx (hwc) ?_ ?_); (focus ((try simp (disch := omega) only [go_sem, wrap_n, o4, erase_map, hN, hl1, e1, hn2, hl2, tk1, tk2, ANode.rgetD, getD_set, ANode.rset, getD_mapset, List.set_set]) <;> (try omega) <;> fail)))
      | ((first | refine acallH_scx (hcp) rfl ?_ ?_ | refine acallQ_scx (hcp) rfl ?_ ?_ | refine acallH_anyx (hcp) ?_ ?_); (focus ((try simp (disch := omega) only [go_sem, wrap_n, o4, erase_map, hN, hl1, e1, hn2, hl2, tk1, tk2, ANode.rgetD, getD_set, ANode.rset, getD_mapset, List.set_set]) <;> (try omega) <;> fail)))
      | ((first | refine acallH_scx (hf1) rfl ?_ ?_ | refine acallQ_scx (hf1) rfl ?_ ?_ | refine acallH_anyx (hf1) ?_ ?_); (focus ((try simp (disch := omega) only [go_sem, wrap_n, o4, erase_map, hN, hl1, e1, hn2, hl2, tk1, tk2, ANode.rgetD, getD_set, ANode.rset, getD_mapset, List.set_set]) <;> (try omega) <;> fail)))
      | ((first | refine acallH_scx (hf2) rfl ?_ ?_ | refine acallQ_scx (hf2) rfl ?_ ?_ | refine acallH_anyx (hf2) ?_ ?_); (focus ((try simp (disch := omega) only [go_sem, wrap_n, o4, erase_map, hN, hl1, e1, hn2, hl2, tk1, tk2, ANode.rgetD, getD_set, ANode.rset, getD_mapset, List.set_set]) <;> (try omega) <;> fail)))
      | ((first | refine acallH_scx (hcc) rfl ?_ ?_ | refine acallQ_scx (hcc) rfl ?_ ?_ | refine acallH_anyx (hcc) ?_ ?_); (focus ((try simp (disch := omega) only [go_sem, wrap_n, o4, erase_map, hN, hl1, e1, hn2, hl2, tk1, tk2, ANode.rgetD, getD_set, ANode.rset, getD_mapset, List.set_set]) <;> (try omega) <;> fail)))
      | ((first | refine acallH_scx (split_c x.path hp) rfl ?_ ?_ | refine acallQ_scx (split_c x.path hp) rfl ?_ ?_ | refine acallH_anyx (split_c x.path hp) ?_ ?_); (focus ((try simp (disch := omega) only [go_sem, wrap_n, o4, erase_map, hN, hl1, e1, hn2, hl2, tk1, tk2, ANode.rgetD, getD_set, ANode.rset, getD_mapset, List.set_set]) <;> (try omega) <;> fail)))
      | (refine acallH_own (delNode_c (t.nodes.map ANode.row) (place (pathsN t.nodes) x.path) hpl (by rw [List.length_map]; omega)) ?_ ?_ ?_; (focus ((try simp (disch := omega) only [inj, List.cons.injEq, and_self, List.nodup_cons, List.not_mem_nil, List.mem_cons, not_false_eq_true, List.nodup_nil, go_sem, wrap_n, o4, erase_map, hN, hl1, e1, hn2, hl2, tk1, tk2, ANode.rgetD, getD_set, ANode.rset, getD_mapset, List.set_set]) <;> (try omega) <;> fail)); (focus ((try simp (disch := omega) only [inj, List.cons.injEq, and_self, List.nodup_cons, List.not_mem_nil, List.mem_cons, not_false_eq_true, List.nodup_nil, go_sem, wrap_n, o4, erase_map, hN, hl1, e1, hn2, hl2, tk1, tk2, ANode.rgetD, getD_set, ANode.rset, getD_mapset, List.set_set]) <;> (try omega) <;> (try decide) <;> fail)))); ((try simp (disch := omega) only [go_sem, wrap_n, o4, erase_map, hN, hl1, e1, hn2, hl2, tk1, tk2, ANode.rgetD, getD_set, ANode.rset, getD_mapset, List.set_set]) <;> (repeat' with_reducible refine And.intro ?_ ?_) <;> (try (with_reducible refine hK _ ?_; clear hK K))))
    | (refine acallHK_in fun Kk hKk => (acall_of tabOk Tryd.func107 rfl (by kernel_rfl) (by simp [Tryd.ntmps107]) ?_); simp only [Tryd.ntmps107, Tryd.results107, List.toList_toArray, apar, List.length_nil, List.length_cons, Nat.reduceAdd, List.length_append, List.length_set, go_sem])
    | (refine acallHK_in fun Kk hKk => (acall_of tabOk Tryd.func154 rfl (by kernel_rfl) (by simp [Tryd.ntmps154]) ?_); simp only [Tryd.ntmps154, Tryd.results154, List.toList_toArray, apar, List.length_nil, List.length_cons, Nat.reduceAdd, List.length_append, List.length_set, go_sem])
    | (refine aend_in (v := ?_) hKk (by first | exact .inl rfl | exact .inr rfl) ?_ ?_ ?_; rotate_left; (focus ((try simp (disch := omega) only [go_sem, wrap_n, o4, erase_map, hN, hl1, e1, hn2, hl2, tk1, tk2, ANode.rgetD, getD_set, ANode.rset, getD_mapset, List.set_set]) <;> (try omega) <;> fail)); (focus ((try simp (disch := omega) only [go_sem, wrap_n, o4, erase_map, hN, hl1, e1, hn2, hl2, tk1, tk2, ANode.rgetD, getD_set, ANode.rset, getD_mapset, List.set_set]) <;> (first | done | exact rfl))); clear hKk Kk; ((try simp (disch := omega) only [go_sem, wrap_n, o4, erase_map, hN, hl1, e1, hn2, hl2, tk1, tk2, ANode.rgetD, getD_set, ANode.rset, getD_mapset, List.set_set]) <;> (repeat' with_reducible refine And.intro ?_ ?_) <;> (try (with_reducible refine hK _ ?_; clear hK K))))
    | ((first | (with_reducible refine aunder_i ?_ ?_ <;> intro hg) | with_reducible intro hg) <;> (first | (exfalso; simp at hg; done) | (have hg' := hg; (try simp only [hcs, beq_iff_eq, ge_iff_le, gt_iff_lt] at hg'); ((try simp (disch := omega) only [hg, go_sem, wrap_n, o4, erase_map, hN, hl1, e1, hn2, hl2, tk1, tk2, ANode.rgetD, getD_set, ANode.rset, getD_mapset, List.set_set]) <;> (repeat' with_reducible refine And.intro ?_ ?_) <;> (try (with_reducible refine hK _ ?_; clear hK K))))))
                                                            | omega
  all_goals first
    | (rw [apply_full h0 (by rw [hdone]; exact hc)]; (refine aend_retc ?_ rfl ?_ ?_ ?_ ?_; (focus (first | exact .inl rfl | exact .inr rfl)); (iterate 3 (focus ((try simp (disch := omega) only [go_sem, wrap_n, default]) <;> (try omega) <;> fail))); (try simp (disch := omega) only [go_sem, wrap_n, default, I, B, S, inj, List.cons.injEq, and_true, true_and, and_self])); done)
    | (rw [apply_ok h0 (by rw [hdone]; exact hc), hdone]; (refine aend_retc ?_ rfl ?_ ?_ ?_ ?_; (focus (first | exact .inl rfl | exact .inr rfl)); (iterate 3 (focus ((try simp (disch := omega) only [go_sem, wrap_n, tk2, goneE]) <;> (try omega) <;> fail))); (try simp (disch := omega) only [go_sem, wrap_n, tk2, goneE, I, B, S, inj, List.cons.injEq, and_true, true_and, and_self])); done)
set_option maxHeartbeats 8000000 in
theorem apply5_c (t : ATree) (x : ATxn) (hw : t.wf) (hp : okS x.path) (hd : okS x.data) (h0 : wrongT t x = 0) (o5 : x.op = 5) : acall Tryd.prog [] 51 [t.av, x.av] (ret (.tup [(applyT t x).1.av, .d (.sl 2 ((applyT t x).2.1.map AEvent.row)), I (applyT t x).2.2])) := by
  have hwc := wrong_c t x hw hp hd
  obtain ⟨g1, g2, g3, g4, g5, g6, g7, g8⟩ := wrong_ok h0
  obtain ⟨h1, h2⟩ : t.nodes.length * 88 ≤ 140737488351232 ∧ t.sessions.length * 8 ≤ 140737488351232 := ⟨hw.2.1.1, hw.2.2.1⟩
  have hcp := copiedT_c t h1 h2
  have h400 : t.nodes.length ≤ 400 := (good_root g1).2.1
  rw [h0] at hwc
  have hr : Rises (pathsN t.nodes) := good_rises g1
  have m1 := g8 o5
  have hf1 := (findN_c x.zxid t.nodes t.sessions x.path h1 hr).re (by rw [decide_eq_true (show x.path ∈ pathsN t.nodes from m1)])
  have hq := (place_found hr m1).1
  rw [pathsN_len] at hq
  have hdone : (doneT t x) = (⟨x.zxid, setN t.nodes x, t.sessions⟩, [⟨3, x.path⟩]) := by unfold doneT; rw [if_neg (by omega), if_neg (by omega), if_neg (by omega), if_neg (by omega)]
  have hadd : setN t.nodes x = t.nodes.set (place (pathsN t.nodes) x.path) (setF x (t.nodes.getD (place (pathsN t.nodes) x.path) default)) := rfl
  rw [hadd] at hdone
  generalize hn2 : t.nodes.set (place (pathsN t.nodes) x.path) (setF x (t.nodes.getD (place (pathsN t.nodes) x.path) default)) = ns2 at hdone
  have hl2 : ns2.length = t.nodes.length := by rw [← hn2, List.length_set]
  have hcc := contains_c ns2 (by omega)
  unfold setF at hn2
  have tk2 : List.take t.nodes.length (ns2.map ANode.row) = ns2.map ANode.row := List.take_of_length_le (by rw [List.length_map]; omega)
  refine acall_of tabOk Tryd.func51 rfl (by kernel_rfl) (by simp [Tryd.ntmps51]) ?_; simp only [Tryd.ntmps51, Tryd.results51, List.toList_toArray, apar, List.length_nil, List.length_cons, Nat.reduceAdd]
  repeat' first
    | (with_reducible first | refine AWP.seq ?_ | refine thenA_n ?_ | refine thenA_r ?_ | refine thenA_e ?_ | refine blkA_n ?_ | refine blkA_r ?_ | refine blkA_e ?_ | refine blkA_x (by decide) ?_ | refine AWP.skip ?_ | refine AWP.ret ?_ | refine AWP.exit ?_ | refine AWP.block ?_)
    | (with_reducible refine AWP.cond rfl ?_ ?_ <;> intro hc <;> (try simp only [hcs, beq_iff_eq, ge_iff_le, gt_iff_lt] at hc))
    | ((first
      | (refine AWP.plan ((Plan.takes [0, 1, 2, 3, 4, 5, 6, 7, 8, 9, 10] .done)) mixed tabOk (by decide +kernel) ?_; intro K hK)
      | (refine AWP.plan ((Plan.takes [0, 1, 2, 3, 4, 5, 6, 7, 8, 9, 10, 11, 12, 13, 14, 16, 17, 18] (.fork 15 (Plan.takes [19, 20, 21, 22, 23] .done) 19 (Plan.takes [15, 20, 21, 22, 23] .done)))) mixed tabOk (by decide +kernel) ?_; intro K hK)
      | (refine AWP.plan ((Plan.takes [0, 1, 2, 3, 5, 6, 7] (.fork 4 (Plan.takes [8, 9, 10, 11, 12] .done) 8 (Plan.takes [4, 9, 10, 11, 12] .done)))) mixed tabOk (by decide +kernel) ?_; intro K hK)
      | (refine AWP.plan ((Plan.takes [0, 1, 2, 3, 4, 5, 6] (.fork 7 (Plan.takes [8, 9, 10] .done) 8 (Plan.takes [7, 9, 10] .done)))) mixed tabOk (by decide +kernel) ?_; intro K hK)
      | (with_reducible first | refine AWP.region tabOk ?_ | refine AWP.quietC mixed tabOk (by decide +kernel) ?_ | refine AWP.draw mixed tabOk (by decide +kernel) ?_ | refine AWP.drawE mixed tabOk (by decide +kernel) ?_ | refine AWP.drawG mixed tabOk (by decide +kernel) ?_); intro K hK
      | ((first | refine acallH_sc (hwc) rfl rfl ?_ ?_ ?_ | refine acallQ_sc (hwc) rfl rfl ?_ ?_ ?_ | refine acallH_sc (hcp) rfl rfl ?_ ?_ ?_ | refine acallQ_sc (hcp) rfl rfl ?_ ?_ ?_ | refine acallH_sc (hf1) rfl rfl ?_ ?_ ?_ | refine acallQ_sc (hf1) rfl rfl ?_ ?_ ?_ | refine acallH_sc (hcc) rfl rfl ?_ ?_ ?_ | refine acallQ_sc (hcc) rfl rfl ?_ ?_ ?_); iterate 2 (focus ((try simp (disch := omega) only [go_sem, wrap_n, o5, hn2, hl2, tk2, ANode.rgetD, getD_set, ANode.rset, getD_mapset, List.set_set]) <;> (try omega) <;> fail)))
      | ((first | refine acallH_anyr (hwc) rfl ?_ ?_ | refine acallH_anyr (hcp) rfl ?_ ?_ | refine acallH_anyr (hf1) rfl ?_ ?_ | refine acallH_anyr (hcc) rfl ?_ ?_); (focus ((try simp (disch := omega) only [go_sem, wrap_n, o5, hn2, hl2, tk2, ANode.rgetD, getD_set, ANode.rset, getD_mapset, List.set_set]) <;> (try omega) <;> fail)))
      | ((first | refine acallH_scx (hwc) rfl ?_ ?_ | refine acallQ_scx (hwc) rfl ?_ ?_ | refine acallH_anyx (hwc) ?_ ?_); (focus ((try simp (disch := omega) only [go_sem, wrap_n, o5, hn2, hl2, tk2, ANode.rgetD, getD_set, ANode.rset, getD_mapset, List.set_set]) <;> (try omega) <;> fail)))
      | ((first | refine acallH_scx (hcp) rfl ?_ ?_ | refine acallQ_scx (hcp) rfl ?_ ?_ | refine acallH_anyx (hcp) ?_ ?_); (focus ((try simp (disch := omega) only [go_sem, wrap_n, o5, hn2, hl2, tk2, ANode.rgetD, getD_set, ANode.rset, getD_mapset, List.set_set]) <;> (try omega) <;> fail)))
      | ((first | refine acallH_scx (hf1) rfl ?_ ?_ | refine acallQ_scx (hf1) rfl ?_ ?_ | refine acallH_anyx (hf1) ?_ ?_); (focus ((try simp (disch := omega) only [go_sem, wrap_n, o5, hn2, hl2, tk2, ANode.rgetD, getD_set, ANode.rset, getD_mapset, List.set_set]) <;> (try omega) <;> fail)))
      | ((first | refine acallH_scx (hcc) rfl ?_ ?_ | refine acallQ_scx (hcc) rfl ?_ ?_ | refine acallH_anyx (hcc) ?_ ?_); (focus ((try simp (disch := omega) only [go_sem, wrap_n, o5, hn2, hl2, tk2, ANode.rgetD, getD_set, ANode.rset, getD_mapset, List.set_set]) <;> (try omega) <;> fail)))); ((try simp (disch := omega) only [go_sem, wrap_n, o5, hn2, hl2, tk2, ANode.rgetD, getD_set, ANode.rset, getD_mapset, List.set_set]) <;> (repeat' with_reducible refine And.intro ?_ ?_) <;> (try (with_reducible refine hK _ ?_; clear hK K))))
    | ((first | (with_reducible refine aunder_i ?_ ?_ <;> intro hg) | with_reducible intro hg) <;> (first | (exfalso; simp at hg; done) | (have hg' := hg; (try simp only [hcs, beq_iff_eq, ge_iff_le, gt_iff_lt] at hg'); ((try simp (disch := omega) only [hg, go_sem, wrap_n, o5, hn2, hl2, tk2, ANode.rgetD, getD_set, ANode.rset, getD_mapset, List.set_set]) <;> (repeat' with_reducible refine And.intro ?_ ?_) <;> (try (with_reducible refine hK _ ?_; clear hK K))))))
                                                            | omega
  all_goals first
    | (rw [apply_full h0 (by rw [hdone]; exact hc)]; (refine aend_retc ?_ rfl ?_ ?_ ?_ ?_; (focus (first | exact .inl rfl | exact .inr rfl)); (iterate 3 (focus ((try simp (disch := omega) only [go_sem, wrap_n, default]) <;> (try omega) <;> fail))); (try simp (disch := omega) only [go_sem, wrap_n, default, I, B, S, inj, List.cons.injEq, and_true, true_and, and_self])); done)
    | (rw [apply_ok h0 (by rw [hdone]; exact hc), hdone]; (refine aend_retc ?_ rfl ?_ ?_ ?_ ?_; (focus (first | exact .inl rfl | exact .inr rfl)); (iterate 3 (focus ((try simp (disch := omega) only [go_sem, wrap_n, tk2]) <;> (try omega) <;> fail))); (try simp (disch := omega) only [go_sem, wrap_n, tk2, I, B, S, inj, List.cons.injEq, and_true, true_and, and_self])); done)
set_option maxHeartbeats 8000000 in
theorem apply1_c (t : ATree) (x : ATxn) (hw : t.wf) (hp : okS x.path) (hd : okS x.data) (h0 : wrongT t x = 0) (o1 : x.op = 1) : acall Tryd.prog [] 51 [t.av, x.av] (ret (.tup [(applyT t x).1.av, .d (.sl 2 ((applyT t x).2.1.map AEvent.row)), I (applyT t x).2.2])) := by
  have hwc := wrong_c t x hw hp hd
  obtain ⟨g1, g2, g3, g4, g5, g6, g7, g8⟩ := wrong_ok h0
  obtain ⟨h1, h2⟩ : t.nodes.length * 88 ≤ 140737488351232 ∧ t.sessions.length * 8 ≤ 140737488351232 := ⟨hw.2.1.1, hw.2.2.1⟩
  have hcp := copiedT_c t h1 h2
  have h400 : t.nodes.length ≤ 400 := (good_root g1).2.1
  rw [h0] at hwc
  have hri : RisesI t.sessions := good_sess g1
  have hss : t.sessions.length ≤ 2147483647 := sess_len g1
  have hb1 := bsInt_c t.sessions x.session h2 hri
  have hpl : placeI t.sessions x.session ≤ (t.sessions.map irow).length := by rw [List.length_map]; exact List.findIdx_le_length
  have hpl2 : placeI t.sessions x.session ≤ t.sessions.length := List.findIdx_le_length
  have hdone : (doneT t x) = (⟨x.zxid, t.nodes, t.sessions.insertIdx (placeI t.sessions x.session) x.session⟩, []) := by unfold doneT; rw [if_pos o1]
  generalize hN : t.sessions.insertIdx (placeI t.sessions x.session) x.session = ss1 at hdone
  have hl1 : ss1.length = t.sessions.length + 1 := by rw [← hN, ins_len _ _ _ hpl2]
  have hri1 : (t.sessions.map irow).insertIdx (placeI t.sessions x.session) [DV.int .i64 x.session] = ss1.map irow := by rw [← hN]; exact ins_map irow t.sessions _ x.session
  have tk2 : List.take (t.sessions.length + 1) (ss1.map irow) = ss1.map irow := List.take_of_length_le (by rw [List.length_map]; omega)
  have hcc := contains_c t.nodes h1
  refine acall_of tabOk Tryd.func51 rfl (by kernel_rfl) (by simp [Tryd.ntmps51]) ?_; simp only [Tryd.ntmps51, Tryd.results51, List.toList_toArray, apar, List.length_nil, List.length_cons, Nat.reduceAdd]
  repeat' first
    | (with_reducible first | refine AWP.seq ?_ | refine thenA_n ?_ | refine thenA_r ?_ | refine thenA_e ?_ | refine blkA_n ?_ | refine blkA_r ?_ | refine blkA_e ?_ | refine blkA_x (by decide) ?_ | refine AWP.skip ?_ | refine AWP.ret ?_ | refine AWP.exit ?_ | refine AWP.block ?_)
    | (with_reducible refine AWP.cond rfl ?_ ?_ <;> intro hc <;> (try simp only [hcs, beq_iff_eq, ge_iff_le, gt_iff_lt] at hc))
    | ((first
      | (refine AWP.plan ((Plan.takes [0, 1, 2, 3, 4, 6, 7, 8] (.fork 5 (Plan.takes [9, 10, 11, 12, 13, 14] .done) 9 (Plan.takes [5, 10, 11, 12, 13, 14] .done)))) mixed tabOk (by decide +kernel) ?_; intro K hK)
      | (refine AWP.plan ((Plan.takes [0, 1, 2, 3, 4, 5, 6] (.fork 7 (Plan.takes [8, 9, 10] .done) 8 (Plan.takes [7, 9, 10] .done)))) mixed tabOk (by decide +kernel) ?_; intro K hK)
      | (with_reducible first | refine AWP.region tabOk ?_ | refine AWP.quietC mixed tabOk (by decide +kernel) ?_ | refine AWP.draw mixed tabOk (by decide +kernel) ?_ | refine AWP.drawE mixed tabOk (by decide +kernel) ?_ | refine AWP.drawG mixed tabOk (by decide +kernel) ?_); intro K hK
      | ((first | refine acallH_sc (hwc) rfl rfl ?_ ?_ ?_ | refine acallQ_sc (hwc) rfl rfl ?_ ?_ ?_ | refine acallH_sc (hcp) rfl rfl ?_ ?_ ?_ | refine acallQ_sc (hcp) rfl rfl ?_ ?_ ?_ | refine acallH_sc (hb1) rfl rfl ?_ ?_ ?_ | refine acallQ_sc (hb1) rfl rfl ?_ ?_ ?_ | refine acallH_sc (hcc) rfl rfl ?_ ?_ ?_ | refine acallQ_sc (hcc) rfl rfl ?_ ?_ ?_); iterate 2 (focus ((try simp (disch := omega) only [go_sem, wrap_n, o1, hri1, hl1, tk2]) <;> (try omega) <;> fail)))
      | ((first | refine acallH_anyr (hwc) rfl ?_ ?_ | refine acallH_anyr (hcp) rfl ?_ ?_ | refine acallH_anyr (hb1) rfl ?_ ?_ | refine acallH_anyr (hcc) rfl ?_ ?_); (focus ((try simp (disch := omega) only [go_sem, wrap_n, o1, hri1, hl1, tk2]) <;> (try omega) <;> fail)))
      | ((first | refine acallH_scx (hwc) rfl ?_ ?_ | refine acallQ_scx (hwc) rfl ?_ ?_ | refine acallH_anyx (hwc) ?_ ?_); (focus ((try simp (disch := omega) only [go_sem, wrap_n, o1, hri1, hl1, tk2]) <;> (try omega) <;> fail)))
      | ((first | refine acallH_scx (hcp) rfl ?_ ?_ | refine acallQ_scx (hcp) rfl ?_ ?_ | refine acallH_anyx (hcp) ?_ ?_); (focus ((try simp (disch := omega) only [go_sem, wrap_n, o1, hri1, hl1, tk2]) <;> (try omega) <;> fail)))
      | ((first | refine acallH_scx (hb1) rfl ?_ ?_ | refine acallQ_scx (hb1) rfl ?_ ?_ | refine acallH_anyx (hb1) ?_ ?_); (focus ((try simp (disch := omega) only [go_sem, wrap_n, o1, hri1, hl1, tk2]) <;> (try omega) <;> fail)))
      | ((first | refine acallH_scx (hcc) rfl ?_ ?_ | refine acallQ_scx (hcc) rfl ?_ ?_ | refine acallH_anyx (hcc) ?_ ?_); (focus ((try simp (disch := omega) only [go_sem, wrap_n, o1, hri1, hl1, tk2]) <;> (try omega) <;> fail)))
      | (refine acallH_own (insInt_c (t.sessions.map irow) [.int .i64 x.session] (placeI t.sessions x.session) hpl (by rw [List.length_map]; omega)) ?_ ?_ ?_; (focus ((try simp (disch := omega) only [inj, List.cons.injEq, and_self, List.nodup_cons, List.not_mem_nil, List.mem_cons, not_false_eq_true, List.nodup_nil, go_sem, wrap_n, o1, hri1, hl1, tk2]) <;> (try omega) <;> fail)); (focus ((try simp (disch := omega) only [inj, List.cons.injEq, and_self, List.nodup_cons, List.not_mem_nil, List.mem_cons, not_false_eq_true, List.nodup_nil, go_sem, wrap_n, o1, hri1, hl1, tk2]) <;> (try omega) <;> (try decide) <;> fail)))); ((try simp (disch := omega) only [go_sem, wrap_n, o1, hri1, hl1, tk2]) <;> (repeat' with_reducible refine And.intro ?_ ?_) <;> (try (with_reducible refine hK _ ?_; clear hK K))))
    | ((first | (with_reducible refine aunder_i ?_ ?_ <;> intro hg) | with_reducible intro hg) <;> (first | (exfalso; simp at hg; done) | (have hg' := hg; (try simp only [hcs, beq_iff_eq, ge_iff_le, gt_iff_lt] at hg'); ((try simp (disch := omega) only [hg, go_sem, wrap_n, o1, hri1, hl1, tk2]) <;> (repeat' with_reducible refine And.intro ?_ ?_) <;> (try (with_reducible refine hK _ ?_; clear hK K))))))
                                                            | omega
  all_goals first
    | (rw [apply_full h0 (by rw [hdone]; exact hc)]; (refine aend_retc ?_ rfl ?_ ?_ ?_ ?_; (focus (first | exact .inl rfl | exact .inr rfl)); (iterate 3 (focus ((try simp (disch := omega) only [go_sem, wrap_n, default]) <;> (try omega) <;> fail))); (try simp (disch := omega) only [go_sem, wrap_n, default, I, B, S, inj, List.cons.injEq, and_true, true_and, and_self])); done)
    | (rw [apply_ok h0 (by rw [hdone]; exact hc), hdone]; (refine aend_retc ?_ rfl ?_ ?_ ?_ ?_; (focus (first | exact .inl rfl | exact .inr rfl)); (iterate 3 (focus ((try simp (disch := omega) only [go_sem, wrap_n, tk2]) <;> (try omega) <;> fail))); (try simp (disch := omega) only [go_sem, wrap_n, tk2, I, B, S, inj, List.cons.injEq, and_true, true_and, and_self])); done)
end Go.Proofs.YtmpfhalheaeibaaDoor
