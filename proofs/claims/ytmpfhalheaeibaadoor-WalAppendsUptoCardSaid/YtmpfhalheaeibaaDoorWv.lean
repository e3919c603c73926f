/- Contract of wire.Decode. No condition. -/
import Derived.Test.YtmpfhalheaeibaaDoorWd
namespace Go.Proofs.YtmpfhalheaeibaaDoor
set_option linter.unusedVariables false
set_option linter.unusedSimpArgs false
open Go Go.RowKit
set_option maxRecDepth 100000

theorem number_s (s : List UInt8) (b : Bool) (n : Nat) (hs : okS s) (ni : Int) (hi : ni = n) (hn : n ≤ 7) : acall Tryd.prog [.cells [S s, B b]] 167 [.ptr 0 0, I ni] (outs (I (numN (curT s b n).t : Nat)) [.cells [S (curT s b n).s, B (curT s b n).bad]]) := by
  have hl : (curT s b n).t.length ≤ 7 := by unfold curT; split <;> simp; omega
  rw [← numW_small hl]; exact number_c s b n hs ni hi (by omega)
theorem curT_len (s : List UInt8) (b : Bool) (n : Nat) : (curT s b n).s.length ≤ s.length ∧ (curT s b n).t.length ≤ s.length ∧ (curT s b n).t.length ≤ n := by
  unfold curT; split <;> simp <;> omega
theorem curT_good {s : List UInt8} {b : Bool} {n : Nat} (h : (curT s b n).bad = false) : b = false ∧ n ≤ s.length ∧ (curT s b n).t = s.take n ∧ (curT s b n).s = s.drop n := by
  unfold curT at *
  split at h
  · cases h
  · rename_i hn
    rw [if_neg hn]
    exact ⟨by cases b <;> simp_all, by omega, rfl, rfl⟩
theorem curT_no {s : List UInt8} {n : Nat} (h : (curT s false n).bad = true) : s.length < n := by
  rcases Nat.lt_or_ge s.length n with h' | h'
  · exact h'
  · rw [curT_ok h'] at h; cases h
/-- What Decode reads, one after the other. -/
structure Dec where
  k1 : Cur
  k2 : Cur
  k3 : Cur
  k4 : Cur
  j1 : Cur
  j2 : Cur
  j3 : Cur
  j4 : Cur
  j5 : Cur
  j6 : Cur
  j7 : Cur
  j8 : Cur
  j9 : Cur
structure Reads (s : List UInt8) (d : Dec) : Prop where
  k1 : curT s false 1 = d.k1
  k2 : curT d.k1.s d.k1.bad 2 = d.k2
  k3 : curT d.k2.s d.k2.bad (numN d.k2.t) = d.k3
  k4 : curT d.k3.s d.k3.bad 4 = d.k4
  j1 : curT d.k3.t false 8 = d.j1
  j2 : curT d.j1.s d.j1.bad 1 = d.j2
  j3 : curT d.j2.s d.j2.bad 4 = d.j3
  j4 : curT d.j3.s d.j3.bad 4 = d.j4
  j5 : curT d.j4.s d.j4.bad 4 = d.j5
  j6 : curT d.j5.s d.j5.bad 1 = d.j6
  j7 : curT d.j6.s d.j6.bad (numN d.j6.t) = d.j7
  j8 : curT d.j7.s d.j7.bad 2 = d.j8
  j9 : curT d.j8.s d.j8.bad (numN d.j8.t) = d.j9
theorem reads (s : List UInt8) : ∃ d, Reads s d := by
  let k1 := curT s false 1
  let k2 := curT k1.s k1.bad 2
  let k3 := curT k2.s k2.bad (numN k2.t)
  let k4 := curT k3.s k3.bad 4
  let j1 := curT k3.t false 8
  let j2 := curT j1.s j1.bad 1
  let j3 := curT j2.s j2.bad 4
  let j4 := curT j3.s j3.bad 4
  let j5 := curT j4.s j4.bad 4
  let j6 := curT j5.s j5.bad 1
  let j7 := curT j6.s j6.bad (numN j6.t)
  let j8 := curT j7.s j7.bad 2
  let j9 := curT j8.s j8.bad (numN j8.t)
  exact ⟨⟨k1, k2, k3, k4, j1, j2, j3, j4, j5, j6, j7, j8, j9⟩, ⟨rfl, rfl, rfl, rfl, rfl, rfl, rfl, rfl, rfl, rfl, rfl, rfl, rfl⟩⟩
theorem gd {s : List UInt8} {b : Bool} {n : Nat} {k : Cur} (e : curT s b n = k) (h : k.bad = false) : b = false ∧ n ≤ s.length ∧ k.t = s.take n ∧ k.s = s.drop n := by
  subst e; exact curT_good h
theorem no {s : List UInt8} {n : Nat} {k : Cur} (e : curT s false n = k) (h : k.bad = true) : s.length < n := by subst e; exact curT_no h
theorem ln {s : List UInt8} {b : Bool} {n m : Nat} {k : Cur} (e : curT s b n = k) (h : s.length ≤ m) : k.s.length ≤ m ∧ k.t.length ≤ m ∧ k.t.length ≤ n := by
  subst e; have := curT_len s b n; omega
def decV (d : Dec) : ATxn := ⟨numW d.j1.t, (numN d.j2.t : Nat), (numN d.j3.t : Nat), d.j7.t, d.j9.t, (numN d.j4.t : Nat), (numN d.j5.t : Nat)⟩
theorem dec_head {s : List UInt8} {d : Dec} (r : Reads s d) (h : d.k1.t ≠ [84]) : noHead s := by
  unfold noHead
  rcases Nat.lt_or_ge s.length 1 with h0 | h0
  · left; omega
  right; intro e; apply h
  have := r.k1
  rw [curT_ok h0] at this
  rw [← this]
  match s, h0, e with
  | x :: s, _, e => simp at e; simp [e]
theorem dec_one {s : List UInt8} {d : Dec} (r : Reads s d) (h : d.k1.t = [84]) : d.k1.bad = false ∧ d.k1.s = s.drop 1 ∧ 1 ≤ s.length ∧ s.getD 0 0 = 84 := by
  have h1 := r.k1
  rcases Nat.lt_or_ge s.length 1 with h0 | h0
  · rw [curT_bad (.inr h0)] at h1; rw [← h1] at h; cases h
  rw [curT_ok h0] at h1
  rw [← h1] at h
  refine ⟨by rw [← h1], by rw [← h1], h0, ?_⟩
  match s, h0, h with
  | x :: s, _, h => simp at h; simp [h]
theorem dec_two {s : List UInt8} {d : Dec} (r : Reads s d) (h : d.k1.t = [84]) (h2 : d.k2.bad = true) : noHead s := by
  obtain ⟨a1, a2, a3, _⟩ := dec_one r h
  have h3 := r.k2
  rw [a1, a2] at h3
  have := no h3 h2
  rw [List.length_drop] at this
  left; omega
theorem dec_n {s : List UInt8} {d : Dec} (r : Reads s d) (h : d.k1.t = [84]) (h2 : d.k2.bad = false) : ¬ noHead s ∧ numN d.k2.t = sN s ∧ d.k2.s = s.drop 3 := by
  obtain ⟨a1, a2, a3, a4⟩ := dec_one r h
  obtain ⟨_, b2, b3, b4⟩ := gd r.k2 h2
  rw [a2] at b2 b3 b4
  rw [List.length_drop] at b2
  refine ⟨fun hh => ?_, by rw [b3]; rfl, by rw [b4, List.drop_drop]⟩
  rcases hh with hh | hh
  · omega
  · exact hh a4
theorem dec_room {s : List UInt8} {d : Dec} (r : Reads s d) (h : d.k1.t = [84]) (h2 : d.k2.bad = false) (h4 : d.k4.bad = true) : s.length < sN s + 7 := by
  obtain ⟨a1, a2, a3⟩ := dec_n r h h2
  rcases Nat.lt_or_ge s.length (sN s + 7) with h' | h'
  · exact h'
  have r3 := r.k3
  rw [h2, a2, a3, curT_ok (by rw [List.length_drop]; omega)] at r3
  have r4 := r.k4
  rw [← r3] at r4
  have := no r4 h4
  simp at this; omega
theorem dec_body {s : List UInt8} {d : Dec} (r : Reads s d) (h : d.k1.t = [84]) (h2 : d.k2.bad = false) (h4 : d.k4.bad = false) : sN s + 7 ≤ s.length ∧ d.k3.t = sB s ∧ d.k4.t = (s.drop (sN s + 3)).take 4 := by
  obtain ⟨a1, a2, a3⟩ := dec_n r h h2
  obtain ⟨b1, b2, b3, b4⟩ := gd r.k4 h4
  obtain ⟨c1, c2, c3, c4⟩ := gd r.k3 b1
  rw [a2, a3] at c2 c3 c4
  rw [List.length_drop] at c2
  rw [c4] at b2 b3
  rw [List.drop_drop] at b2 b3
  rw [List.length_drop] at b2
  exact ⟨by omega, c3, by rw [b3, Nat.add_comm 3]⟩
theorem dec_all {s : List UInt8} {d : Dec} (r : Reads s d) {b : List UInt8} (hb : d.k3.t = b) (h9 : d.j9.bad = false) (hs : d.j9.s = []) : bodyOk b ∧ decV d = bodyT b := by
  obtain ⟨i9, l9, t9, s9⟩ := gd r.j9 h9
  obtain ⟨i8, l8, t8, s8⟩ := gd r.j8 i9
  obtain ⟨i7, l7, t7, s7⟩ := gd r.j7 i8
  obtain ⟨i6, l6, t6, s6⟩ := gd r.j6 i7
  obtain ⟨i5, l5, t5, s5⟩ := gd r.j5 i6
  obtain ⟨i4, l4, t4, s4⟩ := gd r.j4 i5
  obtain ⟨i3, l3, t3, s3⟩ := gd r.j3 i4
  obtain ⟨i2, l2, t2, s2⟩ := gd r.j2 i3
  obtain ⟨i1, l1, t1, s1⟩ := gd r.j1 i2
  rw [hb] at t1 s1 l1
  rw [s1] at t2 s2 l2
  rw [s2, List.drop_drop] at t3 s3 l3
  rw [s3, List.drop_drop] at t4 s4 l4
  rw [s4, List.drop_drop] at t5 s5 l5
  rw [s5, List.drop_drop] at t6 s6 l6
  rw [s6, List.drop_drop] at t7 s7 l7
  rw [s7, List.drop_drop] at t8 s8 l8
  rw [s8, List.drop_drop] at t9 s9 l9
  simp only [Nat.reduceAdd, List.length_drop] at *
  have e1 : ∀ k, k < b.length → (b.drop k).take 1 = [b.getD k 0] := fun k hk => by
    rw [List.drop_eq_getElem_cons hk, List.take_succ_cons, List.take_zero]; simp [hk]
  have n6 : numN d.j6.t = bP b := by rw [t6, e1 21 (by omega), numN_one]; rfl
  rw [n6] at t7 s7 l7 t8 s8 l8 t9 s9 l9
  have n8 : numN d.j8.t = bD b := by rw [t8, show 8 + (14 + bP b) = 22 + bP b from by omega]; rfl
  rw [n8] at t9 s9 l9
  have hz : d.j9.s.length = 0 := by rw [hs]; rfl
  rw [s9] at hz
  simp only [List.length_drop] at hz
  have hok : b.length = 24 + bP b + bD b := by omega
  refine ⟨hok, ?_⟩
  unfold decV bodyT
  rw [t1, t2, t3, t4, t5, t7, t9, e1 8 (by omega), numN_one]
  congr 1
  · rw [show 8 + (14 + bP b + 2) = 24 + bP b from by omega]
    exact List.take_of_length_le (by rw [List.length_drop]; omega)
theorem dec_back {s : List UInt8} {d : Dec} (r : Reads s d) {b : List UInt8} (hb : d.k3.t = b) (h : bodyOk b) : d.j9.bad = false ∧ d.j9.s = [] := by
  unfold bodyOk at h
  have e1 : ∀ k, k < b.length → (b.drop k).take 1 = [b.getD k 0] := fun k hk => by
    rw [List.drop_eq_getElem_cons hk, List.take_succ_cons, List.take_zero]; simp [hk]
  have r1 := r.j1
  rw [hb, curT_ok (by omega)] at r1
  have r2 := r.j2
  rw [← r1, curT_ok (by simp only [List.length_drop]; omega), List.drop_drop] at r2
  have r3 := r.j3
  rw [← r2, curT_ok (by simp only [List.length_drop]; omega), List.drop_drop] at r3
  have r4 := r.j4
  rw [← r3, curT_ok (by simp only [List.length_drop]; omega), List.drop_drop] at r4
  have r5 := r.j5
  rw [← r4, curT_ok (by simp only [List.length_drop]; omega), List.drop_drop] at r5
  have r6 := r.j6
  rw [← r5, curT_ok (by simp only [List.length_drop]; omega), List.drop_drop, e1 _ (by omega)] at r6
  have n6 : numN d.j6.t = bP b := by rw [← r6, numN_one]; rfl
  have r7 := r.j7
  rw [n6, ← r6, curT_ok (by simp only [List.length_drop]; omega), List.drop_drop] at r7
  have r8 := r.j8
  rw [← r7, curT_ok (by simp only [List.length_drop]; omega), List.drop_drop] at r8
  have n8 : numN d.j8.t = bD b := by rw [← r8]; rfl
  have r9 := r.j9
  rw [n8, ← r8, curT_ok (by simp only [List.length_drop]; omega), List.drop_drop] at r9
  exact ⟨by rw [← r9], by rw [← r9]; exact List.drop_eq_nil_of_le (by omega)⟩
set_option maxHeartbeats 4000000 in
theorem decode_c (s : List UInt8) (hs : s.length ≤ 1048576) : acall Tryd.prog [] 134 [S s] (ret (.tup [(decT s).1.av, I (decT s).2.1, I (decT s).2.2])) := by
  obtain ⟨d, r⟩ := reads s
  have e1 := ln r.k1 hs
  have e2 := ln r.k2 e1.1
  have e3 := ln r.k3 e2.1
  have e4 := ln r.k4 e3.1
  have f1 := ln r.j1 e3.2.1
  have f2 := ln r.j2 f1.1
  have f3 := ln r.j3 f2.1
  have f4 := ln r.j4 f3.1
  have f5 := ln r.j5 f4.1
  have f6 := ln r.j6 f5.1
  have f7 := ln r.j7 f6.1
  have f8 := ln r.j8 f7.1
  have f9 := ln r.j9 f8.1
  have hn : numN d.k2.t < 65536 := numN_lt (k := 2) e2.2.2 (by decide)
  have ok {t : List UInt8} (h : t.length ≤ 1048576) : okS t := by unfold okS; omega
  have c1 := text_c s false 1 (ok hs) 1 rfl
  have c2 := number_s d.k1.s d.k1.bad 2 (ok e1.1) 2 rfl (by decide)
  have c3 := text_c d.k2.s d.k2.bad (numN d.k2.t) (ok e2.1) (numN d.k2.t : Nat) rfl
  have c4 := number_s d.k3.s d.k3.bad 4 (ok e3.1) 4 rfl (by decide)
  have b1 := number_c d.k3.t false 8 (ok e3.2.1) 8 rfl (by decide)
  have b2 := number_s d.j1.s d.j1.bad 1 (ok f1.1) 1 rfl (by decide)
  have b3 := number_s d.j2.s d.j2.bad 4 (ok f2.1) 4 rfl (by decide)
  have b4 := number_s d.j3.s d.j3.bad 4 (ok f3.1) 4 rfl (by decide)
  have b5 := number_s d.j4.s d.j4.bad 4 (ok f4.1) 4 rfl (by decide)
  have b6 := number_s d.j5.s d.j5.bad 1 (ok f5.1) 1 rfl (by decide)
  have b7 := text_c d.j6.s d.j6.bad (numN d.j6.t) (ok f6.1) (numN d.j6.t : Nat) rfl
  have b8 := number_s d.j7.s d.j7.bad 2 (ok f7.1) 2 rfl (by decide)
  have b9 := text_c d.j8.s d.j8.bad (numN d.j8.t) (ok f8.1) (numN d.j8.t : Nat) rfl
  rw [r.k1] at c1
  rw [r.k2] at c2
  rw [r.k3] at c3
  rw [r.k4] at c4
  rw [r.j1] at b1
  rw [r.j2] at b2
  rw [r.j3] at b3
  rw [r.j4] at b4
  rw [r.j5] at b5
  rw [r.j6] at b6
  rw [r.j7] at b7
  rw [r.j8] at b8
  rw [r.j9] at b9
  have q3 : (3 + (numN d.k2.t : Int)).toNat = 3 + numN d.k2.t := by omega
  have cs := sum_c (s.take (3 + numN d.k2.t)) (ok (by simp; omega))
  have cg : acall Tryd.prog [] 123 [(decV d).av] (ret (I (goodT (decV d)))) := wgood_c (decV d) (ok f7.2.1) (ok f9.2.1)
  unfold ATxn.av decV at cg
  refine acall_of tabOk Tryd.func134 rfl (by kernel_rfl) (by simp [Tryd.ntmps134]) ?_; simp only [Tryd.ntmps134, Tryd.results134, List.toList_toArray, apar, List.length_nil, List.length_cons, Nat.reduceAdd]
  repeat' first
    | (with_reducible first | refine AWP.seq ?_ | refine thenA_n ?_ | refine thenA_r ?_ | refine thenA_e ?_ | refine blkA_n ?_ | refine blkA_r ?_ | refine blkA_e ?_ | refine blkA_x (by decide) ?_ | refine AWP.skip ?_ | refine AWP.ret ?_ | refine AWP.exit ?_ | refine AWP.block ?_)
    | (with_reducible refine AWP.cond rfl ?_ ?_ <;> intro hc <;> (try simp only [hcs, beq_iff_eq, ge_iff_le, gt_iff_lt] at hc))
    | ((first
      | (with_reducible first | refine AWP.region tabOk ?_ | refine AWP.quietC mixed tabOk (by decide +kernel) ?_ | refine AWP.draw mixed tabOk (by decide +kernel) ?_ | refine AWP.drawE mixed tabOk (by decide +kernel) ?_ | refine AWP.drawG mixed tabOk (by decide +kernel) ?_); intro K hK
      | ((first | refine acallH_sc (cs) rfl rfl ?_ ?_ ?_ | refine acallQ_sc (cs) rfl rfl ?_ ?_ ?_ | refine acallH_sc (cg) rfl rfl ?_ ?_ ?_ | refine acallQ_sc (cg) rfl rfl ?_ ?_ ?_); iterate 2 (focus ((try simp (disch := omega) only [go_sem, wrap_n, q3, Nat.sub_zero]) <;> (try omega) <;> fail)))
      | ((first | refine acallH_anyr (cs) rfl ?_ ?_ | refine acallH_anyr (cg) rfl ?_ ?_); (focus ((try simp (disch := omega) only [go_sem, wrap_n, q3, Nat.sub_zero]) <;> (try omega) <;> fail)))
      | ((first | refine acallH_scx (cs) rfl ?_ ?_ | refine acallQ_scx (cs) rfl ?_ ?_ | refine acallH_anyx (cs) ?_ ?_); (focus ((try simp (disch := omega) only [go_sem, wrap_n, q3, Nat.sub_zero]) <;> (try omega) <;> fail)))
      | ((first | refine acallH_scx (cg) rfl ?_ ?_ | refine acallQ_scx (cg) rfl ?_ ?_ | refine acallH_anyx (cg) ?_ ?_); (focus ((try simp (disch := omega) only [go_sem, wrap_n, q3, Nat.sub_zero]) <;> (try omega) <;> fail)))
      | (refine acallH_at [1] (c1) ?_ ?_ ?_; (focus ((try simp (disch := omega) only [inj, List.cons.injEq, and_self, List.nodup_cons, List.not_mem_nil, List.mem_cons, not_false_eq_true, List.nodup_nil, go_sem, wrap_n, q3, Nat.sub_zero]) <;> (try omega) <;> fail)); (focus ((try simp (disch := omega) only [inj, List.cons.injEq, and_self, List.nodup_cons, List.not_mem_nil, List.mem_cons, not_false_eq_true, List.nodup_nil, go_sem, wrap_n, q3, Nat.sub_zero]) <;> (try omega) <;> (try decide) <;> fail)))
      | (refine acallH_at [1] (c2) ?_ ?_ ?_; (focus ((try simp (disch := omega) only [inj, List.cons.injEq, and_self, List.nodup_cons, List.not_mem_nil, List.mem_cons, not_false_eq_true, List.nodup_nil, go_sem, wrap_n, q3, Nat.sub_zero]) <;> (try omega) <;> fail)); (focus ((try simp (disch := omega) only [inj, List.cons.injEq, and_self, List.nodup_cons, List.not_mem_nil, List.mem_cons, not_false_eq_true, List.nodup_nil, go_sem, wrap_n, q3, Nat.sub_zero]) <;> (try omega) <;> (try decide) <;> fail)))
      | (refine acallH_at [1] (c3) ?_ ?_ ?_; (focus ((try simp (disch := omega) only [inj, List.cons.injEq, and_self, List.nodup_cons, List.not_mem_nil, List.mem_cons, not_false_eq_true, List.nodup_nil, go_sem, wrap_n, q3, Nat.sub_zero]) <;> (try omega) <;> fail)); (focus ((try simp (disch := omega) only [inj, List.cons.injEq, and_self, List.nodup_cons, List.not_mem_nil, List.mem_cons, not_false_eq_true, List.nodup_nil, go_sem, wrap_n, q3, Nat.sub_zero]) <;> (try omega) <;> (try decide) <;> fail)))
      | (refine acallH_at [1] (c4) ?_ ?_ ?_; (focus ((try simp (disch := omega) only [inj, List.cons.injEq, and_self, List.nodup_cons, List.not_mem_nil, List.mem_cons, not_false_eq_true, List.nodup_nil, go_sem, wrap_n, q3, Nat.sub_zero]) <;> (try omega) <;> fail)); (focus ((try simp (disch := omega) only [inj, List.cons.injEq, and_self, List.nodup_cons, List.not_mem_nil, List.mem_cons, not_false_eq_true, List.nodup_nil, go_sem, wrap_n, q3, Nat.sub_zero]) <;> (try omega) <;> (try decide) <;> fail)))
      | (refine acallH_at [2] (b1) ?_ ?_ ?_; (focus ((try simp (disch := omega) only [inj, List.cons.injEq, and_self, List.nodup_cons, List.not_mem_nil, List.mem_cons, not_false_eq_true, List.nodup_nil, go_sem, wrap_n, q3, Nat.sub_zero]) <;> (try omega) <;> fail)); (focus ((try simp (disch := omega) only [inj, List.cons.injEq, and_self, List.nodup_cons, List.not_mem_nil, List.mem_cons, not_false_eq_true, List.nodup_nil, go_sem, wrap_n, q3, Nat.sub_zero]) <;> (try omega) <;> (try decide) <;> fail)))
      | (refine acallH_at [2] (b2) ?_ ?_ ?_; (focus ((try simp (disch := omega) only [inj, List.cons.injEq, and_self, List.nodup_cons, List.not_mem_nil, List.mem_cons, not_false_eq_true, List.nodup_nil, go_sem, wrap_n, q3, Nat.sub_zero]) <;> (try omega) <;> fail)); (focus ((try simp (disch := omega) only [inj, List.cons.injEq, and_self, List.nodup_cons, List.not_mem_nil, List.mem_cons, not_false_eq_true, List.nodup_nil, go_sem, wrap_n, q3, Nat.sub_zero]) <;> (try omega) <;> (try decide) <;> fail)))
      | (refine acallH_at [2] (b3) ?_ ?_ ?_; (focus ((try simp (disch := omega) only [inj, List.cons.injEq, and_self, List.nodup_cons, List.not_mem_nil, List.mem_cons, not_false_eq_true, List.nodup_nil, go_sem, wrap_n, q3, Nat.sub_zero]) <;> (try omega) <;> fail)); (focus ((try simp (disch := omega) only [inj, List.cons.injEq, and_self, List.nodup_cons, List.not_mem_nil, List.mem_cons, not_false_eq_true, List.nodup_nil, go_sem, wrap_n, q3, Nat.sub_zero]) <;> (try omega) <;> (try decide) <;> fail)))
      | (refine acallH_at [2] (b4) ?_ ?_ ?_; (focus ((try simp (disch := omega) only [inj, List.cons.injEq, and_self, List.nodup_cons, List.not_mem_nil, List.mem_cons, not_false_eq_true, List.nodup_nil, go_sem, wrap_n, q3, Nat.sub_zero]) <;> (try omega) <;> fail)); (focus ((try simp (disch := omega) only [inj, List.cons.injEq, and_self, List.nodup_cons, List.not_mem_nil, List.mem_cons, not_false_eq_true, List.nodup_nil, go_sem, wrap_n, q3, Nat.sub_zero]) <;> (try omega) <;> (try decide) <;> fail)))
      | (refine acallH_at [2] (b5) ?_ ?_ ?_; (focus ((try simp (disch := omega) only [inj, List.cons.injEq, and_self, List.nodup_cons, List.not_mem_nil, List.mem_cons, not_false_eq_true, List.nodup_nil, go_sem, wrap_n, q3, Nat.sub_zero]) <;> (try omega) <;> fail)); (focus ((try simp (disch := omega) only [inj, List.cons.injEq, and_self, List.nodup_cons, List.not_mem_nil, List.mem_cons, not_false_eq_true, List.nodup_nil, go_sem, wrap_n, q3, Nat.sub_zero]) <;> (try omega) <;> (try decide) <;> fail)))
      | (refine acallH_at [2] (b6) ?_ ?_ ?_; (focus ((try simp (disch := omega) only [inj, List.cons.injEq, and_self, List.nodup_cons, List.not_mem_nil, List.mem_cons, not_false_eq_true, List.nodup_nil, go_sem, wrap_n, q3, Nat.sub_zero]) <;> (try omega) <;> fail)); (focus ((try simp (disch := omega) only [inj, List.cons.injEq, and_self, List.nodup_cons, List.not_mem_nil, List.mem_cons, not_false_eq_true, List.nodup_nil, go_sem, wrap_n, q3, Nat.sub_zero]) <;> (try omega) <;> (try decide) <;> fail)))
      | (refine acallH_at [2] (b7) ?_ ?_ ?_; (focus ((try simp (disch := omega) only [inj, List.cons.injEq, and_self, List.nodup_cons, List.not_mem_nil, List.mem_cons, not_false_eq_true, List.nodup_nil, go_sem, wrap_n, q3, Nat.sub_zero]) <;> (try omega) <;> fail)); (focus ((try simp (disch := omega) only [inj, List.cons.injEq, and_self, List.nodup_cons, List.not_mem_nil, List.mem_cons, not_false_eq_true, List.nodup_nil, go_sem, wrap_n, q3, Nat.sub_zero]) <;> (try omega) <;> (try decide) <;> fail)))
      | (refine acallH_at [2] (b8) ?_ ?_ ?_; (focus ((try simp (disch := omega) only [inj, List.cons.injEq, and_self, List.nodup_cons, List.not_mem_nil, List.mem_cons, not_false_eq_true, List.nodup_nil, go_sem, wrap_n, q3, Nat.sub_zero]) <;> (try omega) <;> fail)); (focus ((try simp (disch := omega) only [inj, List.cons.injEq, and_self, List.nodup_cons, List.not_mem_nil, List.mem_cons, not_false_eq_true, List.nodup_nil, go_sem, wrap_n, q3, Nat.sub_zero]) <;> (try omega) <;> (try decide) <;> fail)))
      | (refine acallH_at [2] (b9) ?_ ?_ ?_; (focus ((try simp (disch := omega) only [inj, List.cons.injEq, and_self, List.nodup_cons, List.not_mem_nil, List.mem_cons, not_false_eq_true, List.nodup_nil, go_sem, wrap_n, q3, Nat.sub_zero]) <;> (try omega) <;> fail)); (focus ((try simp (disch := omega) only [inj, List.cons.injEq, and_self, List.nodup_cons, List.not_mem_nil, List.mem_cons, not_false_eq_true, List.nodup_nil, go_sem, wrap_n, q3, Nat.sub_zero]) <;> (try omega) <;> (try decide) <;> fail)))); ((try simp (disch := omega) only [go_sem, wrap_n, q3, Nat.sub_zero]) <;> (repeat' with_reducible refine And.intro ?_ ?_) <;> (try (with_reducible refine hK _ ?_; clear hK K))))
    | ((first | (with_reducible refine aunder_i ?_ ?_ <;> intro hg) | with_reducible intro hg) <;> (first | (exfalso; simp at hg; done) | (have hg' := hg; (try simp only [hcs, beq_iff_eq, ge_iff_le, gt_iff_lt] at hg'); ((try simp (disch := omega) only [hg, go_sem, wrap_n, q3, Nat.sub_zero]) <;> (repeat' with_reducible refine And.intro ?_ ?_) <;> (try (with_reducible refine hK _ ?_; clear hK K))))))
                                                            | omega
  · rw [decT_a (dec_head r hc)]; (refine aend_retc ?_ rfl ?_ ?_ ?_ ?_; (focus (first | exact .inl rfl | exact .inr rfl)); (iterate 3 (focus ((try simp (disch := omega) only [go_sem, wrap_n, tz]) <;> (try omega) <;> fail))); (try simp (disch := omega) only [go_sem, wrap_n, tz, I, B, S, inj, List.cons.injEq, and_true, true_and, and_self]))
  all_goals (have hk : d.k1.t = [84] := by assumption)
  · cases hb : d.k2.bad with
    | true => rw [decT_a (dec_two r hk hb)]; (refine aend_retc ?_ rfl ?_ ?_ ?_ ?_; (focus (first | exact .inl rfl | exact .inr rfl)); (iterate 3 (focus ((try simp (disch := omega) only [go_sem, wrap_n, tz]) <;> (try omega) <;> fail))); (try simp (disch := omega) only [go_sem, wrap_n, tz, I, B, S, inj, List.cons.injEq, and_true, true_and, and_self]))
    | false =>
      obtain ⟨a1, a2, a3⟩ := dec_n r hk hb
      rw [decT_b a1 (.inl (by rw [hb] at hc; rw [← a2]; rcases hc with hc | hc; cases hc; omega))]; (refine aend_retc ?_ rfl ?_ ?_ ?_ ?_; (focus (first | exact .inl rfl | exact .inr rfl)); (iterate 3 (focus ((try simp (disch := omega) only [go_sem, wrap_n, tz]) <;> (try omega) <;> fail))); (try simp (disch := omega) only [go_sem, wrap_n, tz, I, B, S, inj, List.cons.injEq, and_true, true_and, and_self]))
  all_goals (have hb : d.k2.bad = false ∧ (numN d.k2.t : Int) ≤ 1024 := by assumption)
  all_goals obtain ⟨a1, a2, a3⟩ := dec_n r hk hb.1
  · rw [decT_b a1 (.inr (dec_room r hk hb.1 hc))]; (refine aend_retc ?_ rfl ?_ ?_ ?_ ?_; (focus (first | exact .inl rfl | exact .inr rfl)); (iterate 3 (focus ((try simp (disch := omega) only [go_sem, wrap_n, tz]) <;> (try omega) <;> fail))); (try simp (disch := omega) only [go_sem, wrap_n, tz, I, B, S, inj, List.cons.injEq, and_true, true_and, and_self]))
  all_goals (have h4 : d.k4.bad = false := by assumption)
  all_goals obtain ⟨x1, x2, x3⟩ := dec_body r hk hb.1 h4
  · omega
  all_goals (have a4 : ¬ noRoom s := fun h => by unfold noRoom at h; omega)
  all_goals (have ee1 : sumN (List.take (3 + numN d.k2.t) s) = sumN (List.take (sN s + 3) s) := by rw [a2, Nat.add_comm])
  all_goals (have ee2 : numN d.k4.t = numN (List.take 4 (List.drop (sN s + 3) s)) := by rw [x3])
  · rw [decT_c a1 a4 (by unfold noSum; omega)]; (refine aend_retc ?_ rfl ?_ ?_ ?_ ?_; (focus (first | exact .inl rfl | exact .inr rfl)); (iterate 3 (focus ((try simp (disch := omega) only [go_sem, wrap_n, tz]) <;> (try omega) <;> fail))); (try simp (disch := omega) only [go_sem, wrap_n, tz, I, B, S, inj, List.cons.injEq, and_true, true_and, and_self]))
  all_goals (have a5 : ¬ noSum s := fun h => by unfold noSum at h; omega)
  · have hno : ¬ bodyOk (sB s) := fun h => by
      obtain ⟨u1, u2⟩ := dec_back r x2 h
      rcases hc with hc | hc
      · rw [u1] at hc; cases hc
      · exact hc u2
    rw [decT_d a1 a4 a5 hno]; (refine aend_retc ?_ rfl ?_ ?_ ?_ ?_; (focus (first | exact .inl rfl | exact .inr rfl)); (iterate 3 (focus ((try simp (disch := omega) only [go_sem, wrap_n, tz]) <;> (try omega) <;> fail))); (try simp (disch := omega) only [go_sem, wrap_n, tz, I, B, S, inj, List.cons.injEq, and_true, true_and, and_self]))
  all_goals (have h9 : d.j9.bad = false ∧ d.j9.s = [] := by assumption)
  all_goals obtain ⟨y1, y2⟩ := dec_all r x2 h9.1 h9.2
  · have hg2 : goodT (bodyT (sB s)) ≠ 0 := y2 ▸ hc
    rw [decT_e a1 a4 a5 y1 hg2, ← y2]; (refine aend_retc ?_ rfl ?_ ?_ ?_ ?_; (focus (first | exact .inl rfl | exact .inr rfl)); (iterate 3 (focus ((try simp (disch := omega) only [go_sem, wrap_n, tz, decV]) <;> (try omega) <;> fail))); (try simp (disch := omega) only [go_sem, wrap_n, tz, decV, I, B, S, inj, List.cons.injEq, and_true, true_and, and_self]))
  · have hg2 : goodT (bodyT (sB s)) = 0 := y2 ▸ hc
    rw [decT_f a1 a4 a5 y1 hg2, ← y2]; (refine aend_retc ?_ rfl ?_ ?_ ?_ ?_; (focus (first | exact .inl rfl | exact .inr rfl)); (iterate 3 (focus ((try simp (disch := omega) only [go_sem, wrap_n, decV, Int.natCast_add, a2]) <;> (try omega) <;> fail))); (try simp (disch := omega) only [go_sem, wrap_n, decV, Int.natCast_add, a2, I, B, S, inj, List.cons.injEq, and_true, true_and, and_self]))
end Go.Proofs.YtmpfhalheaeibaaDoor
