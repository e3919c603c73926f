/- Contracts of slices.Insert and slices.Delete at one element, for each kind of list that the program changes. No condition. -/
import Derived.Test.YtmpfhalheaeibaaDoorMt
namespace Go.Proofs.YtmpfhalheaeibaaDoor
set_option linter.unusedVariables false
set_option linter.unusedSimpArgs false
open Go Go.RowKit
set_option maxRecDepth 100000
set_option linter.unusedSimpArgs false

theorem arith1 (i : Nat) : ((i : Int) + 1).toNat = i + 1 := by omega
theorem arith2 (i n : Nat) (h : i ≤ n) : ((n : Int) - i).toNat = n - i := by omega
theorem arith3 (i n : Nat) (h : i ≤ n + 1) : ((n : Int) + 1 - i).toNat = n + 1 - i := by omega
theorem arith4 (i n : Nat) (h : i ≤ n + 1) : ((n : Int) + 1 - i) = ((n + 1 - i : Nat) : Int) := by omega
theorem erase_eq {α : Type} (R : List α) (i : Nat) : R.eraseIdx i = R.take i ++ R.drop (i + 1) := List.eraseIdx_eq_take_drop_succ R i
theorem del_rows {α : Type} {R junk X z t : List α} {i q m : Nat} (h : i < R.length) (hq : q = R.length - 1) (hm : m = R.length - (i + 1)) :
    List.take q (List.take q (List.take i (R ++ junk) ++ List.take m (List.drop (i + 1) (R ++ junk)) ++ X) ++ z ++ t) = R.eraseIdx i := by
  have e1 : List.take i (R ++ junk) = R.take i := List.take_append_of_le_length (by omega)
  have e2 : List.take m (List.drop (i + 1) (R ++ junk)) = R.drop (i + 1) := by
    rw [List.drop_append_of_le_length (by omega), hm]
    have : R.length - (i + 1) = (R.drop (i + 1)).length := by simp
    rw [this, List.take_append_of_le_length (Nat.le_refl _), List.take_length]
  have e3 : (R.take i ++ R.drop (i + 1)).length = q := by simp; omega
  rw [e1, e2, erase_eq]
  have e4 : List.take q (R.take i ++ R.drop (i + 1) ++ X) = R.take i ++ R.drop (i + 1) := by
    rw [← e3, List.take_append_of_le_length (Nat.le_refl _), List.take_length]
  rw [e4, List.append_assoc, ← e3, List.take_append_of_le_length (Nat.le_refl _), List.take_length]
theorem del_last {α : Type} {R junk X z t : List α} {i q : Nat} (h : i + 1 = R.length) (hq : q = i) :
    List.take q (List.take q (List.take i (R ++ junk) ++ X) ++ z ++ t) = R.eraseIdx i := by
  subst hq
  have e1 : List.take q (R ++ junk) = R.take q := List.take_append_of_le_length (by omega)
  have e3 : (R.take q).length = q := by simp; omega
  have e2 : R.drop (q + 1) = [] := List.drop_eq_nil_of_le (by omega)
  have e4 : List.take q (R.take q ++ X) = R.take q := by
    have := List.take_append_of_le_length (l₁ := R.take q) (l₂ := X) (i := q) (by omega)
    rw [this, List.take_of_length_le (by omega)]
  rw [e1, e4, erase_eq, e2, List.append_nil, List.append_assoc]
  have := List.take_append_of_le_length (l₁ := R.take q) (l₂ := z ++ t) (i := q) (by omega)
  rw [this, List.take_of_length_le (by omega)]
theorem ins_eq {α : Type} (R : List α) (i : Nat) (x : α) (h : i ≤ R.length) : R.insertIdx i x = R.take i ++ x :: R.drop i := by
  induction R generalizing i with
  | nil => have : i = 0 := by simpa using h
           subst this; rfl
  | cons a R ih =>
    cases i with
    | zero => rfl
    | succ i => simp only [List.insertIdx_succ_cons, List.take_succ_cons, List.drop_succ_cons, List.cons_append]; rw [ih i (by simpa using h)]
theorem erase_map {α β : Type} (f : α → β) (l : List α) (i : Nat) : (l.map f).eraseIdx i = (l.eraseIdx i).map f := by rw [erase_eq, erase_eq, List.map_append, List.map_take, List.map_drop]
theorem erase_len {α : Type} (l : List α) (i : Nat) (h : i < l.length) : (l.eraseIdx i).length = l.length - 1 := List.length_eraseIdx_of_lt h
theorem take_map_erase {α β : Type} (f : α → β) (l : List α) (i : Nat) (h : i < l.length) : ((l.eraseIdx i).map f).take (l.length - 1) = (l.eraseIdx i).map f := List.take_of_length_le (by rw [List.length_map, erase_len _ _ h]; omega)
theorem getD_ins {α : Type} (l : List α) (i : Nat) (x z : α) (h : i ≤ l.length) : (l.insertIdx i x).getD i z = x := by
  rw [ins_eq _ _ _ h, List.getD_eq_getElem?_getD, List.getElem?_append_right (by rw [List.length_take]; omega)]
  have : i - (l.take i).length = 0 := by rw [List.length_take]; omega
  rw [this]; rfl
theorem getD_insmap {α β : Type} (f : α → β) (l : List α) (i : Nat) (x : α) (z : β) (h : i ≤ l.length) : ((l.insertIdx i x).map f).getD i z = f x := by
  rw [← ins_map]; exact getD_ins _ _ _ _ (by simpa using h)
theorem set_ins {α : Type} (l : List α) (i : Nat) (x y : α) (h : i ≤ l.length) : (l.insertIdx i x).set i y = l.insertIdx i y := by
  rw [ins_eq _ _ _ h, ins_eq _ _ _ h]
  have e : (l.take i).length = i := by simp; omega
  rw [List.set_append_right _ _ (by omega), e, Nat.sub_self]; rfl
theorem ins_len {α : Type} (l : List α) (i : Nat) (x : α) (h : i ≤ l.length) : (l.insertIdx i x).length = l.length + 1 := by rw [ins_eq _ _ _ h]; simp; omega
theorem take_map_ins {α β : Type} (f : α → β) (l : List α) (i : Nat) (x : α) (h : i ≤ l.length) : ((l.insertIdx i x).map f).take (l.length + 1) = (l.insertIdx i x).map f := List.take_of_length_le (by rw [List.length_map, ins_len _ _ _ h]; omega)

theorem ins_get_lt {α : Type} (l : List α) (i k : Nat) (x z : α) (h : i ≤ l.length) (hk : k < i) : (l.insertIdx i x).getD k z = l.getD k z := by
  rw [ins_eq _ _ _ h, List.getD_eq_getElem?_getD, List.getElem?_append_left (by rw [List.length_take]; omega), List.getElem?_take_of_lt hk, List.getD_eq_getElem?_getD]
theorem ins_swap {α : Type} (l : List α) (k : Nat) (x z : α) (h : k ≤ l.length) (h0 : 0 < k) : ((l.insertIdx k x).set (k - 1) x).set k (l.getD (k - 1) z) = l.insertIdx (k - 1) x := by
  rw [ins_eq _ _ _ h, ins_eq _ _ _ (Nat.le_trans (Nat.sub_le _ _) h)]
  have e1 : l.take k = l.take (k - 1) ++ [l.getD (k - 1) z] := by
    have : k = (k - 1) + 1 := by omega
    conv => lhs; rw [this]
    rw [List.take_add_one, List.getElem?_eq_getElem (by omega), List.getD_eq_getElem?_getD, List.getElem?_eq_getElem (by omega)]; rfl
  have e2 : l.drop (k - 1) = l.getD (k - 1) z :: l.drop k := by
    rw [List.drop_eq_getElem_cons (by omega), List.getD_eq_getElem?_getD, List.getElem?_eq_getElem (by omega), show k - 1 + 1 = k from by omega]; rfl
  have e3 : (l.take (k - 1)).length = k - 1 := by rw [List.length_take]; omega
  rw [e1, e2]
  generalize l.getD (k - 1) z = y
  generalize hA : l.take (k - 1) = A at *
  generalize l.drop k = B
  have hk : k = A.length + 1 := by omega
  subst hk
  rw [Nat.add_sub_cancel]
  simp [List.set_append_right]
theorem ins_end {α : Type} (l : List α) (x : α) : l.insertIdx l.length x = l ++ [x] := by rw [ins_eq _ _ _ (Nat.le_refl _), List.take_length, List.drop_length]
theorem take_map_snoc {α β : Type} (f : α → β) (l : List α) (x : α) : (List.map f (l ++ [x])).take (l.length + 1) = List.map f (l ++ [x]) := List.take_of_length_le (by simp)
theorem take_exact {α : Type} {A B : List α} {n : Nat} (h : n = A.length) : (A ++ B).take n = A := by subst h; simp
theorem drop_exact {α : Type} {A B : List α} {n : Nat} (h : n = A.length) : (A ++ B).drop n = B := by subst h; simp
theorem mid_rows {α : Type} {R J : List α} {i a b : Nat} (h : i ≤ R.length) (ha : a = R.length - i) (hb : R.length - i ≤ b) : List.take a (List.take b (List.drop i (R ++ J))) = R.drop i := by
  rw [List.take_take, Nat.min_eq_left (by omega), List.drop_append_of_le_length h]
  exact take_exact (by simp; omega)
theorem ins_in {α : Type} {R J X : List α} {r : α} {i a b c d : Nat} (h : i < R.length) (ha : a = R.length - i) (hb : R.length - i ≤ b) (hc : 1 ≤ c) (hd : d = 1) :
    List.take (R.length + 1) (List.take i (List.take (i + 1) (R ++ J) ++ List.take a (List.take b (List.drop i (R ++ J))) ++ X) ++ List.take c [r] ++ List.drop (i + d) (List.take (i + 1) (R ++ J) ++ List.take a (List.take b (List.drop i (R ++ J))) ++ X)) = R.insertIdx i r := by
  subst hd
  have e1 : List.take (i + 1) (R ++ J) = R.take (i + 1) := List.take_append_of_le_length (by omega)
  have e2 : (R.take (i + 1)).length = i + 1 := by simp; omega
  have e3 : List.take c [r] = [r] := List.take_of_length_le (by simpa using hc)
  rw [mid_rows (by omega) ha hb, e1, e3, List.append_assoc (List.take (i + 1) R), drop_exact (n := i + 1) e2.symm, ins_eq _ _ _ (by omega)]
  have e4 : List.take i (List.take (i + 1) R ++ (List.drop i R ++ X)) = R.take i := by
    rw [List.take_append_of_le_length (by rw [e2]; omega), List.take_take, Nat.min_eq_left (by omega)]
  rw [e4]
  have : List.take i R ++ [r] ++ (List.drop i R ++ X) = (List.take i R ++ r :: List.drop i R) ++ X := by simp
  rw [this]
  exact take_exact (by simp; omega)
theorem ins_grow {α : Type} {R J : List α} {r z : α} {i m c d e f g : Nat} (h : i < R.length) (hm : m = R.length + 1 - i) (hc : 1 ≤ c) (hd : d = 1) (he : e = R.length - i) (hf : R.length - i ≤ f) (hg : g = R.length + 1) :
    List.take (i + 1) (List.take i (List.take i (R ++ J) ++ List.replicate m z) ++ List.take c [r] ++ List.drop (i + d) (List.take i (R ++ J) ++ List.replicate m z)) ++ List.take e (List.take f (List.drop i (R ++ J))) ++
      List.drop g (List.take i (List.take i (R ++ J) ++ List.replicate m z) ++ List.take c [r] ++ List.drop (i + d) (List.take i (R ++ J) ++ List.replicate m z)) = R.insertIdx i r := by
  subst hd; subst hm; subst hg
  have e1 : List.take i (R ++ J) = R.take i := List.take_append_of_le_length (by omega)
  have e2 : (R.take i).length = i := by simp; omega
  have e3 : List.take c [r] = [r] := List.take_of_length_le (by simpa using hc)
  rw [mid_rows (by omega) he hf, e1, e3, take_exact (n := i) e2.symm, ins_eq _ _ _ (by omega)]
  have e4 : (List.take i R ++ [r]).length = i + 1 := by simp; omega
  have e5 : List.drop (R.length + 1) (List.take i R ++ [r] ++ List.drop (i + 1) (List.take i R ++ List.replicate (R.length + 1 - i) z)) = [] := List.drop_eq_nil_of_le (by simp; omega)
  rw [e5, take_exact e4.symm, List.append_nil, List.append_assoc]; rfl

set_option maxHeartbeats 1000000 in
theorem insFile_c (rs : List (List DV)) (r : List DV) (i : Nat) (hi : i ≤ rs.length) (hb : (rs.length + 1) * 48 ≤ 140737488351232) :
    acall Tryd.prog [.rows 3 rs, .rows 3 [r]] 128 [.osl 0 3 0 rs.length, I i, .osl 1 3 0 1] (outs (.osl 2 3 0 (rs.length + 1)) [.dead, .dead, .rows 3 (rs.insertIdx i r)]) := by
  refine acall_of tabOk Tryd.func128 rfl (by kernel_rfl) (by simp [Tryd.ntmps128]) ?_; simp only [Tryd.ntmps128, Tryd.results128, List.toList_toArray, apar, List.length_nil, List.length_cons, Nat.reduceAdd]
  by_cases hin : i = rs.length
  · subst hin
    repeat' first
      | (with_reducible first | refine AWP.seq ?_ | refine thenA_n ?_ | refine thenA_r ?_ | refine thenA_e ?_ | refine blkA_n ?_ | refine blkA_r ?_ | refine blkA_e ?_ | refine blkA_x (by decide) ?_ | refine AWP.skip ?_ | refine AWP.ret ?_ | refine AWP.exit ?_ | refine AWP.block ?_)
      | (with_reducible refine AWP.cond rfl ?_ ?_ <;> intro hc <;> (try simp only [hcs, beq_iff_eq, ge_iff_le, gt_iff_lt] at hc))
      | ((first
        | (with_reducible first | refine AWP.region tabOk ?_ | refine AWP.quietC mixed tabOk (by decide +kernel) ?_ | refine AWP.draw mixed tabOk (by decide +kernel) ?_ | refine AWP.drawE mixed tabOk (by decide +kernel) ?_ | refine AWP.drawG mixed tabOk (by decide +kernel) ?_); intro K hK); ((try simp (disch := omega) only [go_sem, wrap_n, if_pos, if_neg, arith1, arith2]) <;> (repeat' with_reducible refine And.intro ?_ ?_) <;> (try (with_reducible refine hK _ ?_; clear hK K))))
      | ((first | (with_reducible refine aunder_i ?_ ?_ <;> intro hg) | with_reducible intro hg) <;> (first | (exfalso; simp at hg; done) | (have hg' := hg; (try simp only [hcs, beq_iff_eq, ge_iff_le, gt_iff_lt] at hg'); ((try simp (disch := omega) only [hg, go_sem, wrap_n, if_pos, if_neg, arith1, arith2]) <;> (repeat' with_reducible refine And.intro ?_ ?_) <;> (try (with_reducible refine hK _ ?_; clear hK K))))))
                                                              | omega
    refine aend_out (by first | exact .inl rfl | exact .inr rfl) (by simp (disch := omega) only [go_sem]) ?_
    simp (disch := omega) only [go_sem]
    refine AOut.framed [0, 1, 2] rfl (by simp) (by decide) (by intro k hk; match k, hk with | 0, _ => rfl | 1, _ => rfl) ⟨rfl, by simp [inV]⟩ ?_ (AOut.done (hp := [.dead, .dead, .rows 3 (List.take rs.length rs ++ [r])]) rfl ?_)
    · simp only [go_sem]
    · rw [ins_eq _ _ _ (Nat.le_refl _), List.drop_length]
  refine AWP.reveal 0 (k := 0) (sz := 3) (off := 0) (n := rs.length) rfl (by omega) rfl (by decide) fun junk hj hjl => ?_
  simp only [go_sem, Nat.zero_add] at hjl ⊢
  by_cases hN : rs.length + 1 ≤ rs.length + junk.length
  · repeat' first
      | (with_reducible first | refine AWP.seq ?_ | refine thenA_n ?_ | refine thenA_r ?_ | refine thenA_e ?_ | refine blkA_n ?_ | refine blkA_r ?_ | refine blkA_e ?_ | refine blkA_x (by decide) ?_ | refine AWP.skip ?_ | refine AWP.ret ?_ | refine AWP.exit ?_ | refine AWP.block ?_)
      | (with_reducible refine AWP.cond rfl ?_ ?_ <;> intro hc <;> (try simp only [hcs, beq_iff_eq, ge_iff_le, gt_iff_lt] at hc))
      | ((first
        | (with_reducible first | refine AWP.region tabOk ?_ | refine AWP.quietC mixed tabOk (by decide +kernel) ?_ | refine AWP.draw mixed tabOk (by decide +kernel) ?_ | refine AWP.drawE mixed tabOk (by decide +kernel) ?_ | refine AWP.drawG mixed tabOk (by decide +kernel) ?_); intro K hK); ((try simp (disch := omega) only [go_sem, wrap_n, if_pos, if_neg, arith1, arith2, List.length_take, List.length_drop, Nat.min_eq_left]) <;> (repeat' with_reducible refine And.intro ?_ ?_) <;> (try (with_reducible refine hK _ ?_; clear hK K))))
      | (refine acallHK_ext (ext_overlaps Tryd.func164 (by kernel_rfl) (by kernel_rfl) (by kernel_rfl) (tS := 22) (tR := 4) (e := 100) (by kernel_rfl) tabOk (by simp only [T_22, ty22]) (by simp [T_100, ty100]) (k := 1) (k' := 0) rfl (.inl ⟨rfl, rfl⟩) rfl (.inr ⟨rfl, rfl⟩) (by decide) (by omega) (by omega) (by decide)) ?_; ((try simp (disch := omega) only [go_sem, wrap_n, if_pos, if_neg, arith1, arith2, List.length_take, List.length_drop, Nat.min_eq_left]) <;> (repeat' with_reducible refine And.intro ?_ ?_) <;> (try (with_reducible refine hK _ ?_; clear hK K))))
      | ((first | (with_reducible refine aunder_i ?_ ?_ <;> intro hg) | with_reducible intro hg) <;> (first | (exfalso; simp at hg; done) | (have hg' := hg; (try simp only [hcs, beq_iff_eq, ge_iff_le, gt_iff_lt] at hg'); ((try simp (disch := omega) only [hg, go_sem, wrap_n, if_pos, if_neg, arith1, arith2, List.length_take, List.length_drop, Nat.min_eq_left]) <;> (repeat' with_reducible refine And.intro ?_ ?_) <;> (try (with_reducible refine hK _ ?_; clear hK K))))))
                                                              | omega
    refine aend_out (by first | exact .inl rfl | exact .inr rfl) (by simp (disch := omega) only [go_sem]) ?_
    simp (disch := omega) only [go_sem]
    refine AOut.moved rfl ?_
    refine AOut.framed [0, 1, 2] rfl (by simp) (by decide) (by intro k hk; match k, hk with | 0, _ => rfl | 1, _ => rfl) ⟨rfl, by simp [inV]⟩ ?_ (AOut.done (hp := [.dead, .dead, .rows 3 (rs.insertIdx i r)]) rfl rfl)
    rw [ins_in (by omega) (by omega) (by omega) (by omega) (by omega)]
    simp only [go_sem]
  · repeat' first
      | (with_reducible first | refine AWP.seq ?_ | refine thenA_n ?_ | refine thenA_r ?_ | refine thenA_e ?_ | refine blkA_n ?_ | refine blkA_r ?_ | refine blkA_e ?_ | refine blkA_x (by decide) ?_ | refine AWP.skip ?_ | refine AWP.ret ?_ | refine AWP.exit ?_ | refine AWP.block ?_)
      | (with_reducible refine AWP.cond rfl ?_ ?_ <;> intro hc <;> (try simp only [hcs, beq_iff_eq, ge_iff_le, gt_iff_lt] at hc))
      | ((first
        | (with_reducible first | refine AWP.region tabOk ?_ | refine AWP.quietC mixed tabOk (by decide +kernel) ?_ | refine AWP.draw mixed tabOk (by decide +kernel) ?_ | refine AWP.drawE mixed tabOk (by decide +kernel) ?_ | refine AWP.drawG mixed tabOk (by decide +kernel) ?_); intro K hK); ((try simp (disch := omega) only [go_sem, wrap_n, if_pos, if_neg, arith1, arith2, arith3, arith4, List.length_take, List.length_drop, Nat.min_eq_left]) <;> (repeat' with_reducible refine And.intro ?_ ?_) <;> (try (with_reducible refine hK _ ?_; clear hK K))))
      | ((first | (with_reducible refine aunder_i ?_ ?_ <;> intro hg) | with_reducible intro hg) <;> (first | (exfalso; simp at hg; done) | (have hg' := hg; (try simp only [hcs, beq_iff_eq, ge_iff_le, gt_iff_lt] at hg'); ((try simp (disch := omega) only [hg, go_sem, wrap_n, if_pos, if_neg, arith1, arith2, arith3, arith4, List.length_take, List.length_drop, Nat.min_eq_left]) <;> (repeat' with_reducible refine And.intro ?_ ?_) <;> (try (with_reducible refine hK _ ?_; clear hK K))))))
                                                              | omega
    refine aend_out (by first | exact .inl rfl | exact .inr rfl) (by simp (disch := omega) only [go_sem]) ?_
    simp (disch := omega) only [go_sem]
    rw [ins_grow (by omega) rfl (by omega) (by omega) (by omega) (by omega) (by omega), show i + (rs.length + 1 - i) = rs.length + 1 from by omega]
    refine AOut.framed [0, 1, 2] rfl (by simp) (by decide) (by intro k hk; match k, hk with | 0, _ => rfl | 1, _ => rfl) ⟨rfl, by simp [inV]⟩ ?_ (AOut.done (hp := [.dead, .dead, .rows 3 (rs.insertIdx i r)]) rfl rfl)
    simp only [go_sem]

theorem delNode_c (rs : List (List DV)) (i : Nat) (hi : i < rs.length) (hb : rs.length * 88 ≤ 140737488351232) : acall Tryd.prog [.rows 9 rs] 153 [.osl 0 9 0 rs.length, I i, I ((i : Int) + 1)] (outs (.osl 1 9 0 (rs.length - 1)) [.dead, .rows 9 (rs.eraseIdx i)]) := by
  refine acall_of tabOk Tryd.func153 rfl (by kernel_rfl) (by simp [Tryd.ntmps153]) ?_; simp only [Tryd.ntmps153, Tryd.results153, List.toList_toArray, apar, List.length_nil, List.length_cons, Nat.reduceAdd]
  refine AWP.reveal 0 (k := 0) (sz := 9) (off := 0) (n := rs.length) rfl (by omega) rfl (by decide) fun junk hj hjl => ?_
  simp only [go_sem, Nat.zero_add] at hjl ⊢
  by_cases hN : i + 1 < rs.length + junk.length
  · repeat' first
      | (with_reducible first | refine AWP.seq ?_ | refine thenA_n ?_ | refine thenA_r ?_ | refine thenA_e ?_ | refine blkA_n ?_ | refine blkA_r ?_ | refine blkA_e ?_ | refine blkA_x (by decide) ?_ | refine AWP.skip ?_ | refine AWP.ret ?_ | refine AWP.exit ?_ | refine AWP.block ?_)
      | (with_reducible refine AWP.cond rfl ?_ ?_ <;> intro hc <;> (try simp only [hcs, beq_iff_eq, ge_iff_le, gt_iff_lt] at hc))
      | ((first
        | (with_reducible first | refine AWP.region tabOk ?_ | refine AWP.quietC mixed tabOk (by decide +kernel) ?_ | refine AWP.draw mixed tabOk (by decide +kernel) ?_ | refine AWP.drawE mixed tabOk (by decide +kernel) ?_ | refine AWP.drawG mixed tabOk (by decide +kernel) ?_); intro K hK); ((try simp (disch := omega) only [go_sem, wrap_n, if_pos, if_neg, arith1, arith2, List.length_take, List.length_drop, Nat.min_eq_left]) <;> (repeat' with_reducible refine And.intro ?_ ?_) <;> (try (with_reducible refine hK _ ?_; clear hK K))))
      | ((first | (with_reducible refine aunder_i ?_ ?_ <;> intro hg) | with_reducible intro hg) <;> (first | (exfalso; simp at hg; done) | (have hg' := hg; (try simp only [hcs, beq_iff_eq, ge_iff_le, gt_iff_lt] at hg'); ((try simp (disch := omega) only [hg, go_sem, wrap_n, if_pos, if_neg, arith1, arith2, List.length_take, List.length_drop, Nat.min_eq_left]) <;> (repeat' with_reducible refine And.intro ?_ ?_) <;> (try (with_reducible refine hK _ ?_; clear hK K))))))
                                                              | omega
    refine aend_out (by first | exact .inl rfl | exact .inr rfl) (by simp (disch := omega) only [go_sem]) ?_
    simp (disch := omega) only [go_sem]
    rw [show i + (rs.length - (i + 1)) = rs.length - 1 from by omega]
    refine AOut.moved rfl (AOut.done rfl ?_)
    rw [del_rows hi rfl rfl]; rfl
  · repeat' first
      | (with_reducible first | refine AWP.seq ?_ | refine thenA_n ?_ | refine thenA_r ?_ | refine thenA_e ?_ | refine blkA_n ?_ | refine blkA_r ?_ | refine blkA_e ?_ | refine blkA_x (by decide) ?_ | refine AWP.skip ?_ | refine AWP.ret ?_ | refine AWP.exit ?_ | refine AWP.block ?_)
      | (with_reducible refine AWP.cond rfl ?_ ?_ <;> intro hc <;> (try simp only [hcs, beq_iff_eq, ge_iff_le, gt_iff_lt] at hc))
      | ((first
        | (with_reducible first | refine AWP.region tabOk ?_ | refine AWP.quietC mixed tabOk (by decide +kernel) ?_ | refine AWP.draw mixed tabOk (by decide +kernel) ?_ | refine AWP.drawE mixed tabOk (by decide +kernel) ?_ | refine AWP.drawG mixed tabOk (by decide +kernel) ?_); intro K hK); ((try simp (disch := omega) only [go_sem, wrap_n, if_pos, if_neg, arith1, arith2, List.length_take, List.length_drop, Nat.min_eq_left]) <;> (repeat' with_reducible refine And.intro ?_ ?_) <;> (try (with_reducible refine hK _ ?_; clear hK K))))
      | ((first | (with_reducible refine aunder_i ?_ ?_ <;> intro hg) | with_reducible intro hg) <;> (first | (exfalso; simp at hg; done) | (have hg' := hg; (try simp only [hcs, beq_iff_eq, ge_iff_le, gt_iff_lt] at hg'); ((try simp (disch := omega) only [hg, go_sem, wrap_n, if_pos, if_neg, arith1, arith2, List.length_take, List.length_drop, Nat.min_eq_left]) <;> (repeat' with_reducible refine And.intro ?_ ?_) <;> (try (with_reducible refine hK _ ?_; clear hK K))))))
                                                              | omega
    refine aend_out (by first | exact .inl rfl | exact .inr rfl) (by simp (disch := omega) only [go_sem]) ?_
    simp (disch := omega) only [go_sem]
    rw [show i + 0 = rs.length - 1 from by omega]
    refine AOut.moved rfl (AOut.done rfl ?_)
    rw [del_last (by omega) (by omega)]; rfl
set_option maxHeartbeats 1000000 in
theorem insNode_c (rs : List (List DV)) (r : List DV) (i : Nat) (hi : i ≤ rs.length) (hb : (rs.length + 1) * 88 ≤ 140737488351232) :
    acall Tryd.prog [.rows 9 rs, .rows 9 [r]] 155 [.osl 0 9 0 rs.length, I i, .osl 1 9 0 1] (outs (.osl 2 9 0 (rs.length + 1)) [.dead, .dead, .rows 9 (rs.insertIdx i r)]) := by
  refine acall_of tabOk Tryd.func155 rfl (by kernel_rfl) (by simp [Tryd.ntmps155]) ?_; simp only [Tryd.ntmps155, Tryd.results155, List.toList_toArray, apar, List.length_nil, List.length_cons, Nat.reduceAdd]
  by_cases hin : i = rs.length
  · subst hin
    repeat' first
      | (with_reducible first | refine AWP.seq ?_ | refine thenA_n ?_ | refine thenA_r ?_ | refine thenA_e ?_ | refine blkA_n ?_ | refine blkA_r ?_ | refine blkA_e ?_ | refine blkA_x (by decide) ?_ | refine AWP.skip ?_ | refine AWP.ret ?_ | refine AWP.exit ?_ | refine AWP.block ?_)
      | (with_reducible refine AWP.cond rfl ?_ ?_ <;> intro hc <;> (try simp only [hcs, beq_iff_eq, ge_iff_le, gt_iff_lt] at hc))
      | ((first
        | (with_reducible first | refine AWP.region tabOk ?_ | refine AWP.quietC mixed tabOk (by decide +kernel) ?_ | refine AWP.draw mixed tabOk (by decide +kernel) ?_ | refine AWP.drawE mixed tabOk (by decide +kernel) ?_ | refine AWP.drawG mixed tabOk (by decide +kernel) ?_); intro K hK); ((try simp (disch := omega) only [go_sem, wrap_n, if_pos, if_neg, arith1, arith2]) <;> (repeat' with_reducible refine And.intro ?_ ?_) <;> (try (with_reducible refine hK _ ?_; clear hK K))))
      | ((first | (with_reducible refine aunder_i ?_ ?_ <;> intro hg) | with_reducible intro hg) <;> (first | (exfalso; simp at hg; done) | (have hg' := hg; (try simp only [hcs, beq_iff_eq, ge_iff_le, gt_iff_lt] at hg'); ((try simp (disch := omega) only [hg, go_sem, wrap_n, if_pos, if_neg, arith1, arith2]) <;> (repeat' with_reducible refine And.intro ?_ ?_) <;> (try (with_reducible refine hK _ ?_; clear hK K))))))
                                                              | omega
    refine aend_out (by first | exact .inl rfl | exact .inr rfl) (by simp (disch := omega) only [go_sem]) ?_
    simp (disch := omega) only [go_sem]
    refine AOut.framed [0, 1, 2] rfl (by simp) (by decide) (by intro k hk; match k, hk with | 0, _ => rfl | 1, _ => rfl) ⟨rfl, by simp [inV]⟩ ?_ (AOut.done (hp := [.dead, .dead, .rows 9 (List.take rs.length rs ++ [r])]) rfl ?_)
    · simp only [go_sem]
    · rw [ins_eq _ _ _ (Nat.le_refl _), List.drop_length]
  refine AWP.reveal 0 (k := 0) (sz := 9) (off := 0) (n := rs.length) rfl (by omega) rfl (by decide) fun junk hj hjl => ?_
  simp only [go_sem, Nat.zero_add] at hjl ⊢
  by_cases hN : rs.length + 1 ≤ rs.length + junk.length
  · repeat' first
      | (with_reducible first | refine AWP.seq ?_ | refine thenA_n ?_ | refine thenA_r ?_ | refine thenA_e ?_ | refine blkA_n ?_ | refine blkA_r ?_ | refine blkA_e ?_ | refine blkA_x (by decide) ?_ | refine AWP.skip ?_ | refine AWP.ret ?_ | refine AWP.exit ?_ | refine AWP.block ?_)
      | (with_reducible refine AWP.cond rfl ?_ ?_ <;> intro hc <;> (try simp only [hcs, beq_iff_eq, ge_iff_le, gt_iff_lt] at hc))
      | ((first
        | (with_reducible first | refine AWP.region tabOk ?_ | refine AWP.quietC mixed tabOk (by decide +kernel) ?_ | refine AWP.draw mixed tabOk (by decide +kernel) ?_ | refine AWP.drawE mixed tabOk (by decide +kernel) ?_ | refine AWP.drawG mixed tabOk (by decide +kernel) ?_); intro K hK); ((try simp (disch := omega) only [go_sem, wrap_n, if_pos, if_neg, arith1, arith2, List.length_take, List.length_drop, Nat.min_eq_left]) <;> (repeat' with_reducible refine And.intro ?_ ?_) <;> (try (with_reducible refine hK _ ?_; clear hK K))))
      | (refine acallHK_ext (ext_overlaps Tryd.func175 (by kernel_rfl) (by kernel_rfl) (by kernel_rfl) (tS := 41) (tR := 4) (e := 57) (by kernel_rfl) tabOk (by simp only [T_41, ty41]) (by simp [T_57, ty57]) (k := 1) (k' := 0) rfl (.inl ⟨rfl, rfl⟩) rfl (.inr ⟨rfl, rfl⟩) (by decide) (by omega) (by omega) (by decide)) ?_; ((try simp (disch := omega) only [go_sem, wrap_n, if_pos, if_neg, arith1, arith2, List.length_take, List.length_drop, Nat.min_eq_left]) <;> (repeat' with_reducible refine And.intro ?_ ?_) <;> (try (with_reducible refine hK _ ?_; clear hK K))))
      | ((first | (with_reducible refine aunder_i ?_ ?_ <;> intro hg) | with_reducible intro hg) <;> (first | (exfalso; simp at hg; done) | (have hg' := hg; (try simp only [hcs, beq_iff_eq, ge_iff_le, gt_iff_lt] at hg'); ((try simp (disch := omega) only [hg, go_sem, wrap_n, if_pos, if_neg, arith1, arith2, List.length_take, List.length_drop, Nat.min_eq_left]) <;> (repeat' with_reducible refine And.intro ?_ ?_) <;> (try (with_reducible refine hK _ ?_; clear hK K))))))
                                                              | omega
    refine aend_out (by first | exact .inl rfl | exact .inr rfl) (by simp (disch := omega) only [go_sem]) ?_
    simp (disch := omega) only [go_sem]
    refine AOut.moved rfl ?_
    refine AOut.framed [0, 1, 2] rfl (by simp) (by decide) (by intro k hk; match k, hk with | 0, _ => rfl | 1, _ => rfl) ⟨rfl, by simp [inV]⟩ ?_ (AOut.done (hp := [.dead, .dead, .rows 9 (rs.insertIdx i r)]) rfl rfl)
    rw [ins_in (by omega) (by omega) (by omega) (by omega) (by omega)]
    simp only [go_sem]
  · repeat' first
      | (with_reducible first | refine AWP.seq ?_ | refine thenA_n ?_ | refine thenA_r ?_ | refine thenA_e ?_ | refine blkA_n ?_ | refine blkA_r ?_ | refine blkA_e ?_ | refine blkA_x (by decide) ?_ | refine AWP.skip ?_ | refine AWP.ret ?_ | refine AWP.exit ?_ | refine AWP.block ?_)
      | (with_reducible refine AWP.cond rfl ?_ ?_ <;> intro hc <;> (try simp only [hcs, beq_iff_eq, ge_iff_le, gt_iff_lt] at hc))
      | ((first
        | (with_reducible first | refine AWP.region tabOk ?_ | refine AWP.quietC mixed tabOk (by decide +kernel) ?_ | refine AWP.draw mixed tabOk (by decide +kernel) ?_ | refine AWP.drawE mixed tabOk (by decide +kernel) ?_ | refine AWP.drawG mixed tabOk (by decide +kernel) ?_); intro K hK); ((try simp (disch := omega) only [go_sem, wrap_n, if_pos, if_neg, arith1, arith2, arith3, arith4, List.length_take, List.length_drop, Nat.min_eq_left]) <;> (repeat' with_reducible refine And.intro ?_ ?_) <;> (try (with_reducible refine hK _ ?_; clear hK K))))
      | ((first | (with_reducible refine aunder_i ?_ ?_ <;> intro hg) | with_reducible intro hg) <;> (first | (exfalso; simp at hg; done) | (have hg' := hg; (try simp only [hcs, beq_iff_eq, ge_iff_le, gt_iff_lt] at hg'); ((try simp (disch := omega) only [hg, go_sem, wrap_n, if_pos, if_neg, arith1, arith2, arith3, arith4, List.length_take, List.length_drop, Nat.min_eq_left]) <;> (repeat' with_reducible refine And.intro ?_ ?_) <;> (try (with_reducible refine hK _ ?_; clear hK K))))))
                                                              | omega
    refine aend_out (by first | exact .inl rfl | exact .inr rfl) (by simp (disch := omega) only [go_sem]) ?_
    simp (disch := omega) only [go_sem]
    rw [ins_grow (by omega) rfl (by omega) (by omega) (by omega) (by omega) (by omega), show i + (rs.length + 1 - i) = rs.length + 1 from by omega]
    refine AOut.framed [0, 1, 2] rfl (by simp) (by decide) (by intro k hk; match k, hk with | 0, _ => rfl | 1, _ => rfl) ⟨rfl, by simp [inV]⟩ ?_ (AOut.done (hp := [.dead, .dead, .rows 9 (rs.insertIdx i r)]) rfl rfl)
    simp only [go_sem]

theorem delInt_c (rs : List (List DV)) (i : Nat) (hi : i < rs.length) (hb : rs.length * 8 ≤ 140737488351232) : acall Tryd.prog [.rows 1 rs] 106 [.osl 0 1 0 rs.length, I i, I ((i : Int) + 1)] (outs (.osl 1 1 0 (rs.length - 1)) [.dead, .rows 1 (rs.eraseIdx i)]) := by
  refine acall_of tabOk Tryd.func106 rfl (by kernel_rfl) (by simp [Tryd.ntmps106]) ?_; simp only [Tryd.ntmps106, Tryd.results106, List.toList_toArray, apar, List.length_nil, List.length_cons, Nat.reduceAdd]
  refine AWP.reveal 0 (k := 0) (sz := 1) (off := 0) (n := rs.length) rfl (by omega) rfl (by decide) fun junk hj hjl => ?_
  simp only [go_sem, Nat.zero_add] at hjl ⊢
  by_cases hN : i + 1 < rs.length + junk.length
  · repeat' first
      | (with_reducible first | refine AWP.seq ?_ | refine thenA_n ?_ | refine thenA_r ?_ | refine thenA_e ?_ | refine blkA_n ?_ | refine blkA_r ?_ | refine blkA_e ?_ | refine blkA_x (by decide) ?_ | refine AWP.skip ?_ | refine AWP.ret ?_ | refine AWP.exit ?_ | refine AWP.block ?_)
      | (with_reducible refine AWP.cond rfl ?_ ?_ <;> intro hc <;> (try simp only [hcs, beq_iff_eq, ge_iff_le, gt_iff_lt] at hc))
      | ((first
        | (with_reducible first | refine AWP.region tabOk ?_ | refine AWP.quietC mixed tabOk (by decide +kernel) ?_ | refine AWP.draw mixed tabOk (by decide +kernel) ?_ | refine AWP.drawE mixed tabOk (by decide +kernel) ?_ | refine AWP.drawG mixed tabOk (by decide +kernel) ?_); intro K hK); ((try simp (disch := omega) only [go_sem, wrap_n, if_pos, if_neg, arith1, arith2, List.length_take, List.length_drop, Nat.min_eq_left]) <;> (repeat' with_reducible refine And.intro ?_ ?_) <;> (try (with_reducible refine hK _ ?_; clear hK K))))
      | ((first | (with_reducible refine aunder_i ?_ ?_ <;> intro hg) | with_reducible intro hg) <;> (first | (exfalso; simp at hg; done) | (have hg' := hg; (try simp only [hcs, beq_iff_eq, ge_iff_le, gt_iff_lt] at hg'); ((try simp (disch := omega) only [hg, go_sem, wrap_n, if_pos, if_neg, arith1, arith2, List.length_take, List.length_drop, Nat.min_eq_left]) <;> (repeat' with_reducible refine And.intro ?_ ?_) <;> (try (with_reducible refine hK _ ?_; clear hK K))))))
                                                              | omega
    refine aend_out (by first | exact .inl rfl | exact .inr rfl) (by simp (disch := omega) only [go_sem]) ?_
    simp (disch := omega) only [go_sem]
    rw [show i + (rs.length - (i + 1)) = rs.length - 1 from by omega]
    refine AOut.moved rfl (AOut.done rfl ?_)
    rw [del_rows hi rfl rfl]; rfl
  · repeat' first
      | (with_reducible first | refine AWP.seq ?_ | refine thenA_n ?_ | refine thenA_r ?_ | refine thenA_e ?_ | refine blkA_n ?_ | refine blkA_r ?_ | refine blkA_e ?_ | refine blkA_x (by decide) ?_ | refine AWP.skip ?_ | refine AWP.ret ?_ | refine AWP.exit ?_ | refine AWP.block ?_)
      | (with_reducible refine AWP.cond rfl ?_ ?_ <;> intro hc <;> (try simp only [hcs, beq_iff_eq, ge_iff_le, gt_iff_lt] at hc))
      | ((first
        | (with_reducible first | refine AWP.region tabOk ?_ | refine AWP.quietC mixed tabOk (by decide +kernel) ?_ | refine AWP.draw mixed tabOk (by decide +kernel) ?_ | refine AWP.drawE mixed tabOk (by decide +kernel) ?_ | refine AWP.drawG mixed tabOk (by decide +kernel) ?_); intro K hK); ((try simp (disch := omega) only [go_sem, wrap_n, if_pos, if_neg, arith1, arith2, List.length_take, List.length_drop, Nat.min_eq_left]) <;> (repeat' with_reducible refine And.intro ?_ ?_) <;> (try (with_reducible refine hK _ ?_; clear hK K))))
      | ((first | (with_reducible refine aunder_i ?_ ?_ <;> intro hg) | with_reducible intro hg) <;> (first | (exfalso; simp at hg; done) | (have hg' := hg; (try simp only [hcs, beq_iff_eq, ge_iff_le, gt_iff_lt] at hg'); ((try simp (disch := omega) only [hg, go_sem, wrap_n, if_pos, if_neg, arith1, arith2, List.length_take, List.length_drop, Nat.min_eq_left]) <;> (repeat' with_reducible refine And.intro ?_ ?_) <;> (try (with_reducible refine hK _ ?_; clear hK K))))))
                                                              | omega
    refine aend_out (by first | exact .inl rfl | exact .inr rfl) (by simp (disch := omega) only [go_sem]) ?_
    simp (disch := omega) only [go_sem]
    rw [show i + 0 = rs.length - 1 from by omega]
    refine AOut.moved rfl (AOut.done rfl ?_)
    rw [del_last (by omega) (by omega)]; rfl
set_option maxHeartbeats 1000000 in
theorem insInt_c (rs : List (List DV)) (r : List DV) (i : Nat) (hi : i ≤ rs.length) (hb : (rs.length + 1) * 8 ≤ 140737488351232) :
    acall Tryd.prog [.rows 1 rs, .rows 1 [r]] 105 [.osl 0 1 0 rs.length, I i, .osl 1 1 0 1] (outs (.osl 2 1 0 (rs.length + 1)) [.dead, .dead, .rows 1 (rs.insertIdx i r)]) := by
  refine acall_of tabOk Tryd.func105 rfl (by kernel_rfl) (by simp [Tryd.ntmps105]) ?_; simp only [Tryd.ntmps105, Tryd.results105, List.toList_toArray, apar, List.length_nil, List.length_cons, Nat.reduceAdd]
  by_cases hin : i = rs.length
  · subst hin
    repeat' first
      | (with_reducible first | refine AWP.seq ?_ | refine thenA_n ?_ | refine thenA_r ?_ | refine thenA_e ?_ | refine blkA_n ?_ | refine blkA_r ?_ | refine blkA_e ?_ | refine blkA_x (by decide) ?_ | refine AWP.skip ?_ | refine AWP.ret ?_ | refine AWP.exit ?_ | refine AWP.block ?_)
      | (with_reducible refine AWP.cond rfl ?_ ?_ <;> intro hc <;> (try simp only [hcs, beq_iff_eq, ge_iff_le, gt_iff_lt] at hc))
      | ((first
        | (with_reducible first | refine AWP.region tabOk ?_ | refine AWP.quietC mixed tabOk (by decide +kernel) ?_ | refine AWP.draw mixed tabOk (by decide +kernel) ?_ | refine AWP.drawE mixed tabOk (by decide +kernel) ?_ | refine AWP.drawG mixed tabOk (by decide +kernel) ?_); intro K hK); ((try simp (disch := omega) only [go_sem, wrap_n, if_pos, if_neg, arith1, arith2]) <;> (repeat' with_reducible refine And.intro ?_ ?_) <;> (try (with_reducible refine hK _ ?_; clear hK K))))
      | ((first | (with_reducible refine aunder_i ?_ ?_ <;> intro hg) | with_reducible intro hg) <;> (first | (exfalso; simp at hg; done) | (have hg' := hg; (try simp only [hcs, beq_iff_eq, ge_iff_le, gt_iff_lt] at hg'); ((try simp (disch := omega) only [hg, go_sem, wrap_n, if_pos, if_neg, arith1, arith2]) <;> (repeat' with_reducible refine And.intro ?_ ?_) <;> (try (with_reducible refine hK _ ?_; clear hK K))))))
                                                              | omega
    refine aend_out (by first | exact .inl rfl | exact .inr rfl) (by simp (disch := omega) only [go_sem]) ?_
    simp (disch := omega) only [go_sem]
    refine AOut.framed [0, 1, 2] rfl (by simp) (by decide) (by intro k hk; match k, hk with | 0, _ => rfl | 1, _ => rfl) ⟨rfl, by simp [inV]⟩ ?_ (AOut.done (hp := [.dead, .dead, .rows 1 (List.take rs.length rs ++ [r])]) rfl ?_)
    · simp only [go_sem]
    · rw [ins_eq _ _ _ (Nat.le_refl _), List.drop_length]
  refine AWP.reveal 0 (k := 0) (sz := 1) (off := 0) (n := rs.length) rfl (by omega) rfl (by decide) fun junk hj hjl => ?_
  simp only [go_sem, Nat.zero_add] at hjl ⊢
  by_cases hN : rs.length + 1 ≤ rs.length + junk.length
  · repeat' first
      | (with_reducible first | refine AWP.seq ?_ | refine thenA_n ?_ | refine thenA_r ?_ | refine thenA_e ?_ | refine blkA_n ?_ | refine blkA_r ?_ | refine blkA_e ?_ | refine blkA_x (by decide) ?_ | refine AWP.skip ?_ | refine AWP.ret ?_ | refine AWP.exit ?_ | refine AWP.block ?_)
      | (with_reducible refine AWP.cond rfl ?_ ?_ <;> intro hc <;> (try simp only [hcs, beq_iff_eq, ge_iff_le, gt_iff_lt] at hc))
      | ((first
        | (with_reducible first | refine AWP.region tabOk ?_ | refine AWP.quietC mixed tabOk (by decide +kernel) ?_ | refine AWP.draw mixed tabOk (by decide +kernel) ?_ | refine AWP.drawE mixed tabOk (by decide +kernel) ?_ | refine AWP.drawG mixed tabOk (by decide +kernel) ?_); intro K hK); ((try simp (disch := omega) only [go_sem, wrap_n, if_pos, if_neg, arith1, arith2, List.length_take, List.length_drop, Nat.min_eq_left]) <;> (repeat' with_reducible refine And.intro ?_ ?_) <;> (try (with_reducible refine hK _ ?_; clear hK K))))
      | (refine acallHK_ext (ext_overlaps Tryd.func151 (by kernel_rfl) (by kernel_rfl) (by kernel_rfl) (tS := 42) (tR := 4) (e := 3) (by kernel_rfl) tabOk (by simp only [T_42, ty42]) (by simp [T_3, ty3]) (k := 1) (k' := 0) rfl (.inl ⟨rfl, rfl⟩) rfl (.inr ⟨rfl, rfl⟩) (by decide) (by omega) (by omega) (by decide)) ?_; ((try simp (disch := omega) only [go_sem, wrap_n, if_pos, if_neg, arith1, arith2, List.length_take, List.length_drop, Nat.min_eq_left]) <;> (repeat' with_reducible refine And.intro ?_ ?_) <;> (try (with_reducible refine hK _ ?_; clear hK K))))
      | ((first | (with_reducible refine aunder_i ?_ ?_ <;> intro hg) | with_reducible intro hg) <;> (first | (exfalso; simp at hg; done) | (have hg' := hg; (try simp only [hcs, beq_iff_eq, ge_iff_le, gt_iff_lt] at hg'); ((try simp (disch := omega) only [hg, go_sem, wrap_n, if_pos, if_neg, arith1, arith2, List.length_take, List.length_drop, Nat.min_eq_left]) <;> (repeat' with_reducible refine And.intro ?_ ?_) <;> (try (with_reducible refine hK _ ?_; clear hK K))))))
                                                              | omega
    refine aend_out (by first | exact .inl rfl | exact .inr rfl) (by simp (disch := omega) only [go_sem]) ?_
    simp (disch := omega) only [go_sem]
    refine AOut.moved rfl ?_
    refine AOut.framed [0, 1, 2] rfl (by simp) (by decide) (by intro k hk; match k, hk with | 0, _ => rfl | 1, _ => rfl) ⟨rfl, by simp [inV]⟩ ?_ (AOut.done (hp := [.dead, .dead, .rows 1 (rs.insertIdx i r)]) rfl rfl)
    rw [ins_in (by omega) (by omega) (by omega) (by omega) (by omega)]
    simp only [go_sem]
  · repeat' first
      | (with_reducible first | refine AWP.seq ?_ | refine thenA_n ?_ | refine thenA_r ?_ | refine thenA_e ?_ | refine blkA_n ?_ | refine blkA_r ?_ | refine blkA_e ?_ | refine blkA_x (by decide) ?_ | refine AWP.skip ?_ | refine AWP.ret ?_ | refine AWP.exit ?_ | refine AWP.block ?_)
      | (with_reducible refine AWP.cond rfl ?_ ?_ <;> intro hc <;> (try simp only [hcs, beq_iff_eq, ge_iff_le, gt_iff_lt] at hc))
      | ((first
        | (with_reducible first | refine AWP.region tabOk ?_ | refine AWP.quietC mixed tabOk (by decide +kernel) ?_ | refine AWP.draw mixed tabOk (by decide +kernel) ?_ | refine AWP.drawE mixed tabOk (by decide +kernel) ?_ | refine AWP.drawG mixed tabOk (by decide +kernel) ?_); intro K hK); ((try simp (disch := omega) only [go_sem, wrap_n, if_pos, if_neg, arith1, arith2, arith3, arith4, List.length_take, List.length_drop, Nat.min_eq_left]) <;> (repeat' with_reducible refine And.intro ?_ ?_) <;> (try (with_reducible refine hK _ ?_; clear hK K))))
      | ((first | (with_reducible refine aunder_i ?_ ?_ <;> intro hg) | with_reducible intro hg) <;> (first | (exfalso; simp at hg; done) | (have hg' := hg; (try simp only [hcs, beq_iff_eq, ge_iff_le, gt_iff_lt] at hg'); ((try simp (disch := omega) only [hg, go_sem, wrap_n, if_pos, if_neg, arith1, arith2, arith3, arith4, List.length_take, List.length_drop, Nat.min_eq_left]) <;> (repeat' with_reducible refine And.intro ?_ ?_) <;> (try (with_reducible refine hK _ ?_; clear hK K))))))
                                                              | omega
    refine aend_out (by first | exact .inl rfl | exact .inr rfl) (by simp (disch := omega) only [go_sem]) ?_
    simp (disch := omega) only [go_sem]
    rw [ins_grow (by omega) rfl (by omega) (by omega) (by omega) (by omega) (by omega), show i + (rs.length + 1 - i) = rs.length + 1 from by omega]
    refine AOut.framed [0, 1, 2] rfl (by simp) (by decide) (by intro k hk; match k, hk with | 0, _ => rfl | 1, _ => rfl) ⟨rfl, by simp [inV]⟩ ?_ (AOut.done (hp := [.dead, .dead, .rows 1 (rs.insertIdx i r)]) rfl rfl)
    simp only [go_sem]
end Go.Proofs.YtmpfhalheaeibaaDoor
