/- Contracts of wire.Decode and its reference: a transaction read from bytes. No condition. -/
import Derived.Test.YtmpfhalheaeibaaDoorTx
import Derived.Test.YtmpfhalheaeibaaDoorWs
import Derived.Test.YtmpfhalheaeibaaDoorAvAt
namespace Go.Proofs.YtmpfhalheaeibaaDoor
set_option linter.unusedVariables false
set_option linter.unusedSimpArgs false
open Go Go.RowKit
set_option maxRecDepth 100000

/-- What a cursor gives, and what it is then. -/
structure Cur where
  t : List UInt8
  s : List UInt8
  bad : Bool
def curT (s : List UInt8) (b : Bool) (n : Nat) : Cur := if b = true ∨ s.length < n then ⟨[], s, true⟩ else ⟨s.take n, s.drop n, false⟩
theorem curT_bad {s : List UInt8} {b : Bool} {n : Nat} (h : b = true ∨ s.length < n) : curT s b n = ⟨[], s, true⟩ := if_pos h
theorem curT_ok {s : List UInt8} {n : Nat} (h : n ≤ s.length) : curT s false n = ⟨s.take n, s.drop n, false⟩ := if_neg (by simp; omega)
theorem text_c (s : List UInt8) (b : Bool) (n : Nat) (hs : okS s) (ni : Int) (hi : ni = n) : acall Tryd.prog [.cells [S s, B b]] 166 [.ptr 0 0, I ni] (outs (S (curT s b n).t) [.cells [S (curT s b n).s, B (curT s b n).bad]]) := by
  subst hi
  unfold okS at hs
  by_cases h : b = true ∨ s.length < n
  · rw [curT_bad h]
    refine acall_of tabOk Tryd.func166 rfl (by kernel_rfl) (by simp [Tryd.ntmps166]) ?_; simp only [Tryd.ntmps166, Tryd.results166, List.toList_toArray, apar, List.length_nil, List.length_cons, Nat.reduceAdd]
    repeat' first
      | (with_reducible first | refine AWP.seq ?_ | refine thenA_n ?_ | refine thenA_r ?_ | refine thenA_e ?_ | refine blkA_n ?_ | refine blkA_r ?_ | refine blkA_e ?_ | refine blkA_x (by decide) ?_ | refine AWP.skip ?_ | refine AWP.ret ?_ | refine AWP.exit ?_ | refine AWP.block ?_)
      | (with_reducible refine AWP.cond rfl ?_ ?_ <;> intro hc <;> (try simp only [hcs, beq_iff_eq, ge_iff_le, gt_iff_lt] at hc))
      | ((first
        | (with_reducible first | refine AWP.region tabOk ?_ | refine AWP.quietC mixed tabOk (by decide +kernel) ?_ | refine AWP.draw mixed tabOk (by decide +kernel) ?_ | refine AWP.drawE mixed tabOk (by decide +kernel) ?_ | refine AWP.drawG mixed tabOk (by decide +kernel) ?_); intro K hK); ((try simp (disch := omega) only [go_sem, wrap_n]) <;> (repeat' with_reducible refine And.intro ?_ ?_) <;> (try (with_reducible refine hK _ ?_; clear hK K))))
      | ((first | (with_reducible refine aunder_i ?_ ?_ <;> intro hg) | with_reducible intro hg) <;> (first | (exfalso; simp at hg; done) | (have hg' := hg; (try simp only [hcs, beq_iff_eq, ge_iff_le, gt_iff_lt] at hg'); ((try simp (disch := omega) only [hg, go_sem, wrap_n]) <;> (repeat' with_reducible refine And.intro ?_ ?_) <;> (try (with_reducible refine hK _ ?_; clear hK K))))))
                                                              | omega
    · (refine aend_out (by first | exact .inl rfl | exact .inr rfl) ?_ ?_; (focus ((try simp (disch := omega) only [go_sem, wrap_n]) <;> fail)); simp (disch := omega) only [go_sem, wrap_n, true_and]; refine AOut.of_simp ?_ (AOut.same ⟨rfl, rfl⟩); refine SImp.frame [0] rfl (by intro k hk; first | (simp at hk <;> (simp; omega)) | (simp only [List.mem_cons, List.not_mem_nil, or_false] at hk; simp only [List.length_cons, List.length_nil]; omega)) (by decide) (fun k hk => by first | omega | (rcases k with _ | _ | _ | _ | k <;> first | rfl | omega)) ?_ ?_ <;> simp (disch := omega) only [go_sem, wrap_n, true_or, or_true, true_and])
    exfalso; rcases h with h | h
    · rw [h] at hc; exact absurd hc.1 (by decide)
    · omega
  · rw [show b = false from by cases b <;> simp_all] at *
    rw [curT_ok (by omega)]
    refine acall_of tabOk Tryd.func166 rfl (by kernel_rfl) (by simp [Tryd.ntmps166]) ?_; simp only [Tryd.ntmps166, Tryd.results166, List.toList_toArray, apar, List.length_nil, List.length_cons, Nat.reduceAdd]
    have e : List.take (s.length - n) (List.drop n s) = List.drop n s := List.take_of_length_le (by rw [List.length_drop]; omega)
    repeat' first
      | (with_reducible first | refine AWP.seq ?_ | refine thenA_n ?_ | refine thenA_r ?_ | refine thenA_e ?_ | refine blkA_n ?_ | refine blkA_r ?_ | refine blkA_e ?_ | refine blkA_x (by decide) ?_ | refine AWP.skip ?_ | refine AWP.ret ?_ | refine AWP.exit ?_ | refine AWP.block ?_)
      | (with_reducible refine AWP.cond rfl ?_ ?_ <;> intro hc <;> (try simp only [hcs, beq_iff_eq, ge_iff_le, gt_iff_lt] at hc))
      | ((first
        | (with_reducible first | refine AWP.region tabOk ?_ | refine AWP.quietC mixed tabOk (by decide +kernel) ?_ | refine AWP.draw mixed tabOk (by decide +kernel) ?_ | refine AWP.drawE mixed tabOk (by decide +kernel) ?_ | refine AWP.drawG mixed tabOk (by decide +kernel) ?_); intro K hK); ((try simp (disch := omega) only [go_sem, wrap_n]) <;> (repeat' with_reducible refine And.intro ?_ ?_) <;> (try (with_reducible refine hK _ ?_; clear hK K))))
      | ((first | (with_reducible refine aunder_i ?_ ?_ <;> intro hg) | with_reducible intro hg) <;> (first | (exfalso; simp at hg; done) | (have hg' := hg; (try simp only [hcs, beq_iff_eq, ge_iff_le, gt_iff_lt] at hg'); ((try simp (disch := omega) only [hg, go_sem, wrap_n]) <;> (repeat' with_reducible refine And.intro ?_ ?_) <;> (try (with_reducible refine hK _ ?_; clear hK K))))))
                                                              | omega
    (refine aend_out (by first | exact .inl rfl | exact .inr rfl) ?_ ?_; (focus ((try simp (disch := omega) only [go_sem, wrap_n]) <;> fail)); simp (disch := omega) only [go_sem, wrap_n, Nat.sub_zero, e]; refine AOut.of_simp ?_ (AOut.same ⟨rfl, rfl⟩); refine SImp.frame [0] rfl (by intro k hk; first | (simp at hk <;> (simp; omega)) | (simp only [List.mem_cons, List.not_mem_nil, or_false] at hk; simp only [List.length_cons, List.length_nil]; omega)) (by decide) (fun k hk => by first | omega | (rcases k with _ | _ | _ | _ | k <;> first | rfl | omega)) ?_ ?_ <;> simp (disch := omega) only [go_sem, wrap_n, true_or, or_true, Nat.sub_zero, e])
def numW (l : List UInt8) : Int := l.foldl (fun v x => IntKind.i64.wrap (v * 256 + x.toNat)) 0
theorem wrap_i64e (n : Int) : IntKind.i64.wrap n = (n + 9223372036854775808) % 18446744073709551616 - 9223372036854775808 := by simp [IntKind.wrap, IntKind.bits, IntKind.signed]; omega
theorem or_byte (n : Int) (c : UInt8) : bits .or .i64 (IntKind.i64.wrap (n * 256)) (c.toNat : Int) = IntKind.i64.wrap (n * 256 + c.toNat) := by
  have hc := c.toNat_lt
  show IntKind.i64.wrap ((BitVec.ofInt 64 (IntKind.i64.wrap (n * 256)) ||| BitVec.ofInt 64 (c.toNat : Int)).toNat : Int) = _
  have e1 : (BitVec.ofInt 64 (IntKind.i64.wrap (n * 256))).toNat = ((n * 256) % 18446744073709551616).toNat := by
    rw [BitVec.toNat_ofInt, wrap_i64e]; congr 1; omega
  rw [BitVec.toNat_or, ofInt_u64 c.toNat (by omega), e1, nat_join 8 _ _ (by omega) (by omega), wrap_i64e, wrap_i64e]
  omega
theorem numW_snoc (t : List UInt8) (k : Nat) (h : k < t.length) : numW (t.take (k + 1)) = IntKind.i64.wrap (numW (t.take k) * 256 + (t.getD k 0).toNat) := by
  unfold numW
  have : t.take (k + 1) = t.take k ++ [t.getD k 0] := take_snoc t k h
  rw [this, List.foldl_append]; rfl
theorem wrap_byte (b : UInt8) : IntKind.i64.wrap (b.toNat : Int) = (b.toNat : Int) := by
  have := b.toNat_lt
  rw [wrap_i64e]; omega
theorem number_c (s : List UInt8) (b : Bool) (n : Nat) (hs : okS s) (ni : Int) (hi : ni = n) (hn : n ≤ 8) : acall Tryd.prog [.cells [S s, B b]] 167 [.ptr 0 0, I ni] (outs (I (numW (curT s b n).t)) [.cells [S (curT s b n).s, B (curT s b n).bad]]) := by
  have hl : (curT s b n).t.length ≤ 8 := by unfold curT; split <;> simp; omega
  generalize hk : curT s b n = k at hl
  refine acall_of tabOk Tryd.func167 rfl (by kernel_rfl) (by simp [Tryd.ntmps167]) ?_; simp only [Tryd.ntmps167, Tryd.results167, List.toList_toArray, apar, List.length_nil, List.length_cons, Nat.reduceAdd]
  have ct : acall Tryd.prog [.cells [S s, B b]] 166 [.ptr 0 0, I ni] (outs (S k.t) [.cells [S k.s, B k.bad]]) := hk ▸ text_c s b n hs ni hi
  repeat' first
    | (with_reducible first | refine AWP.seq ?_ | refine thenA_n ?_ | refine thenA_r ?_ | refine thenA_e ?_ | refine blkA_n ?_ | refine blkA_r ?_ | refine blkA_e ?_ | refine blkA_x (by decide) ?_ | refine AWP.skip ?_ | refine AWP.ret ?_ | refine AWP.exit ?_ | refine AWP.block ?_)
    | (with_reducible refine AWP.cond rfl ?_ ?_ <;> intro hc <;> (try simp only [hcs, beq_iff_eq, ge_iff_le, gt_iff_lt] at hc))
    | ((first
      | (with_reducible first | refine AWP.region tabOk ?_ | refine AWP.quietC mixed tabOk (by decide +kernel) ?_ | refine AWP.draw mixed tabOk (by decide +kernel) ?_ | refine AWP.drawE mixed tabOk (by decide +kernel) ?_ | refine AWP.drawG mixed tabOk (by decide +kernel) ?_); intro K hK
      | (refine acallH_at [0] (ct) ?_ ?_ ?_; (focus ((try simp (disch := omega) only [inj, List.cons.injEq, and_self, List.nodup_cons, List.not_mem_nil, List.mem_cons, not_false_eq_true, List.nodup_nil, go_sem, wrap_n]) <;> (try omega) <;> fail)); (focus ((try simp (disch := omega) only [inj, List.cons.injEq, and_self, List.nodup_cons, List.not_mem_nil, List.mem_cons, not_false_eq_true, List.nodup_nil, go_sem, wrap_n]) <;> (try omega) <;> (try decide) <;> fail)))); ((try simp (disch := omega) only [go_sem, wrap_n]) <;> (repeat' with_reducible refine And.intro ?_ ?_) <;> (try (with_reducible refine hK _ ?_; clear hK K))))
    | ((first | (with_reducible refine aunder_i ?_ ?_ <;> intro hg) | with_reducible intro hg) <;> (first | (exfalso; simp at hg; done) | (have hg' := hg; (try simp only [hcs, beq_iff_eq, ge_iff_le, gt_iff_lt] at hg'); ((try simp (disch := omega) only [hg, go_sem, wrap_n]) <;> (repeat' with_reducible refine And.intro ?_ ?_) <;> (try (with_reducible refine hK _ ?_; clear hK K))))))
                                                            | omega
  refine AWP.loopB (ι := Nat) (fun j => j ≤ k.t.length) (fun j => k.t.length - j) [11, 12] (fun j => [(5, I (numW (k.t.take j))), (13, I j)]) (fun j => [.cells [S k.s, B k.bad], .bytes k.t]) 0 ?_ ?_ ?_
  · omega
  · simp only [go_sem, numW, List.foldl_nil]; (refine SImp.same ?_; simp (disch := omega) only [go_sem, wrap_n, Int.natCast_add])
  intro j hj
  simp only [go_sem]
  repeat' first
    | (with_reducible first | refine AWP.seq ?_ | refine thenA_n ?_ | refine thenA_r ?_ | refine thenA_e ?_ | refine blkA_n ?_ | refine blkA_r ?_ | refine blkA_e ?_ | refine blkA_x (by decide) ?_ | refine AWP.skip ?_ | refine AWP.ret ?_ | refine AWP.exit ?_ | refine AWP.block ?_)
    | (with_reducible refine AWP.cond rfl ?_ ?_ <;> intro hc <;> (try simp only [hcs, beq_iff_eq, ge_iff_le, gt_iff_lt] at hc))
    | ((first
      | (with_reducible first | refine AWP.region tabOk ?_ | refine AWP.quietC mixed tabOk (by decide +kernel) ?_ | refine AWP.draw mixed tabOk (by decide +kernel) ?_ | refine AWP.drawE mixed tabOk (by decide +kernel) ?_ | refine AWP.drawG mixed tabOk (by decide +kernel) ?_); intro K hK); ((try simp (disch := omega) only [go_sem, wrap_n, u8g, or_byte, wrap_byte]) <;> (repeat' with_reducible refine And.intro ?_ ?_) <;> (try (with_reducible refine hK _ ?_; clear hK K))))
    | ((first | (with_reducible refine aunder_i ?_ ?_ <;> intro hg) | with_reducible intro hg) <;> (first | (exfalso; simp at hg; done) | (have hg' := hg; (try simp only [hcs, beq_iff_eq, ge_iff_le, gt_iff_lt] at hg'); ((try simp (disch := omega) only [hg, go_sem, wrap_n, u8g, or_byte, wrap_byte]) <;> (repeat' with_reducible refine And.intro ?_ ?_) <;> (try (with_reducible refine hK _ ?_; clear hK K))))))
                                                            | omega
  · refine ⟨j + 1, by omega, by omega, ?_⟩
    rw [numW_snoc _ _ (by assumption)]
    (refine SImp.same ?_; simp (disch := omega) only [go_sem, wrap_n, Int.natCast_add, or_byte, wrap_byte, u8g])
  rw [show j = k.t.length from by omega, List.take_length]
  (refine aend_out (by first | exact .inl rfl | exact .inr rfl) ?_ ?_; (focus ((try simp (disch := omega) only [go_sem, wrap_n]) <;> fail)); simp (disch := omega) only [go_sem, wrap_n, true_and]; refine AOut.of_simp ?_ (AOut.same ⟨rfl, rfl⟩); refine SImp.frame [0] rfl (by intro k hk; first | (simp at hk <;> (simp; omega)) | (simp only [List.mem_cons, List.not_mem_nil, or_false] at hk; simp only [List.length_cons, List.length_nil]; omega)) (by decide) (fun k hk => by first | omega | (rcases k with _ | _ | _ | _ | k <;> first | rfl | omega)) ?_ ?_ <;> simp (disch := omega) only [go_sem, wrap_n, true_or, or_true, true_and])
theorem wrap_add_byte (n : Int) (b : UInt8) : IntKind.i64.wrap (IntKind.i64.wrap (n * 256) + (b.toNat : Int)) = IntKind.i64.wrap (n * 256 + b.toNat) := by
  rw [wrap_i64e, wrap_i64e, wrap_i64e]; omega
theorem numberOf_c (s : List UInt8) (hs : okS s) : acall Tryd.prog [] 83 [S s] (ret (I (numW s))) := by
  unfold okS at hs
  refine acall_of tabOk Tryd.func83 rfl (by kernel_rfl) (by simp [Tryd.ntmps83]) ?_; simp only [Tryd.ntmps83, Tryd.results83, List.toList_toArray, apar, List.length_nil, List.length_cons, Nat.reduceAdd]
  repeat' first
    | (with_reducible first | refine AWP.seq ?_ | refine thenA_n ?_ | refine thenA_r ?_ | refine thenA_e ?_ | refine blkA_n ?_ | refine blkA_r ?_ | refine blkA_e ?_ | refine blkA_x (by decide) ?_ | refine AWP.skip ?_ | refine AWP.ret ?_ | refine AWP.exit ?_ | refine AWP.block ?_)
    | (with_reducible refine AWP.cond rfl ?_ ?_ <;> intro hc <;> (try simp only [hcs, beq_iff_eq, ge_iff_le, gt_iff_lt] at hc))
    | ((first
      | (with_reducible first | refine AWP.region tabOk ?_ | refine AWP.quietC mixed tabOk (by decide +kernel) ?_ | refine AWP.draw mixed tabOk (by decide +kernel) ?_ | refine AWP.drawE mixed tabOk (by decide +kernel) ?_ | refine AWP.drawG mixed tabOk (by decide +kernel) ?_); intro K hK); ((try simp (disch := omega) only [go_sem, wrap_n]) <;> (repeat' with_reducible refine And.intro ?_ ?_) <;> (try (with_reducible refine hK _ ?_; clear hK K))))
    | ((first | (with_reducible refine aunder_i ?_ ?_ <;> intro hg) | with_reducible intro hg) <;> (first | (exfalso; simp at hg; done) | (have hg' := hg; (try simp only [hcs, beq_iff_eq, ge_iff_le, gt_iff_lt] at hg'); ((try simp (disch := omega) only [hg, go_sem, wrap_n]) <;> (repeat' with_reducible refine And.intro ?_ ?_) <;> (try (with_reducible refine hK _ ?_; clear hK K))))))
                                                            | omega
  refine AWP.loopB (ι := Nat) (fun j => j ≤ s.length) (fun j => s.length - j) [7, 8] (fun j => [(3, I (numW (s.take j))), (9, I j)]) (fun j => [.bytes s]) 0 ?_ ?_ ?_
  · omega
  · simp only [go_sem, numW, List.foldl_nil]; (refine SImp.same ?_; simp (disch := omega) only [go_sem, wrap_n, Int.natCast_add])
  intro j hj
  simp only [go_sem]
  repeat' first
    | (with_reducible first | refine AWP.seq ?_ | refine thenA_n ?_ | refine thenA_r ?_ | refine thenA_e ?_ | refine blkA_n ?_ | refine blkA_r ?_ | refine blkA_e ?_ | refine blkA_x (by decide) ?_ | refine AWP.skip ?_ | refine AWP.ret ?_ | refine AWP.exit ?_ | refine AWP.block ?_)
    | (with_reducible refine AWP.cond rfl ?_ ?_ <;> intro hc <;> (try simp only [hcs, beq_iff_eq, ge_iff_le, gt_iff_lt] at hc))
    | ((first
      | (with_reducible first | refine AWP.region tabOk ?_ | refine AWP.quietC mixed tabOk (by decide +kernel) ?_ | refine AWP.draw mixed tabOk (by decide +kernel) ?_ | refine AWP.drawE mixed tabOk (by decide +kernel) ?_ | refine AWP.drawG mixed tabOk (by decide +kernel) ?_); intro K hK); ((try simp (disch := omega) only [go_sem, wrap_n, u8g, wrap_byte, wrap_add_byte]) <;> (repeat' with_reducible refine And.intro ?_ ?_) <;> (try (with_reducible refine hK _ ?_; clear hK K))))
    | ((first | (with_reducible refine aunder_i ?_ ?_ <;> intro hg) | with_reducible intro hg) <;> (first | (exfalso; simp at hg; done) | (have hg' := hg; (try simp only [hcs, beq_iff_eq, ge_iff_le, gt_iff_lt] at hg'); ((try simp (disch := omega) only [hg, go_sem, wrap_n, u8g, wrap_byte, wrap_add_byte]) <;> (repeat' with_reducible refine And.intro ?_ ?_) <;> (try (with_reducible refine hK _ ?_; clear hK K))))))
                                                            | omega
  · refine ⟨j + 1, by omega, by omega, ?_⟩
    rw [numW_snoc _ _ (by assumption)]
    (refine SImp.same ?_; simp (disch := omega) only [go_sem, wrap_n, Int.natCast_add, wrap_byte, u8g, wrap_add_byte])
  rw [show j = s.length from by omega, List.take_length]
  (refine aend_retc ?_ rfl ?_ ?_ ?_ ?_; (focus (first | exact .inl rfl | exact .inr rfl)); (iterate 3 (focus ((try simp (disch := omega) only [go_sem, wrap_n]) <;> (try omega) <;> fail))); (try simp (disch := omega) only [go_sem, wrap_n, I, B, S, inj, List.cons.injEq, and_true, true_and, and_self]))
def numN (l : List UInt8) : Nat := l.foldl (fun v x => v * 256 + x.toNat) 0
theorem numN_snoc (t : List UInt8) (k : Nat) (h : k < t.length) : numN (t.take (k + 1)) = numN (t.take k) * 256 + (t.getD k 0).toNat := by
  unfold numN
  have : t.take (k + 1) = t.take k ++ [t.getD k 0] := take_snoc t k h
  rw [this, List.foldl_append]; rfl
theorem numN_take (t : List UInt8) : ∀ k, k ≤ t.length → k ≤ 7 → numN (t.take k) < 256 ^ k ∧ numW (t.take k) = ((numN (t.take k) : Nat) : Int)
  | 0, _, _ => ⟨by simp [numN], rfl⟩
  | k + 1, h, h7 => by
    obtain ⟨h1, h2⟩ := numN_take t k (by omega) (by omega)
    have hb := (t.getD k 0).toNat_lt
    have hp : 256 ^ k ≤ 256 ^ 6 := Nat.pow_le_pow_right (by decide) (by omega)
    have hq : 256 ^ (k + 1) = 256 ^ k * 256 := Nat.pow_succ ..
    rw [numN_snoc t k (by omega), numW_snoc t k (by omega), h2, wrap_i64e]
    omega
theorem numN_lt {t : List UInt8} {k : Nat} (h : t.length ≤ k) (h7 : k ≤ 7) : numN t < 256 ^ k := by
  have := (numN_take t t.length (Nat.le_refl _) (by omega)).1
  rw [List.take_length] at this
  exact Nat.lt_of_lt_of_le this (Nat.pow_le_pow_right (by decide) h)
theorem numW_small {t : List UInt8} (h : t.length ≤ 7) : numW t = ((numN t : Nat) : Int) := by
  have := (numN_take t t.length (Nat.le_refl _) h).2
  rwa [List.take_length] at this
theorem numN_one (b : UInt8) : numN [b] = b.toNat := by simp [numN]
theorem numW_okI (l : List UInt8) : okI (numW l) := by
  rcases List.eq_nil_or_concat l with rfl | ⟨l, x, rfl⟩
  · unfold numW okI; decide
  · unfold numW okI
    rw [List.concat_eq_append, List.foldl_append]
    simp only [List.foldl_cons, List.foldl_nil]
    rw [wrap_i64e]; omega
theorem numberOf_s (s : List UInt8) (hs : s.length ≤ 7) : acall Tryd.prog [] 83 [S s] (ret (I (numN s : Nat))) := by
  rw [← numW_small hs]; exact numberOf_c s (by unfold okS; omega)
def tz : ATxn := ⟨0, 0, 0, [], [], 0, 0⟩
def bP (b : List UInt8) : Nat := (b.getD 21 0).toNat
def bD (b : List UInt8) : Nat := numN ((b.drop (22 + bP b)).take 2)
def bodyT (b : List UInt8) : ATxn := ⟨numW (b.take 8), (b.getD 8 0).toNat, (numN ((b.drop 9).take 4) : Nat), (b.drop 22).take (bP b), b.drop (24 + bP b), (numN ((b.drop 13).take 4) : Nat), (numN ((b.drop 17).take 4) : Nat)⟩
def bodyOk (b : List UInt8) : Prop := b.length = 24 + bP b + bD b
def sN (s : List UInt8) : Nat := numN ((s.drop 1).take 2)
def sB (s : List UInt8) : List UInt8 := (s.drop 3).take (sN s)
instance (b : List UInt8) : Decidable (bodyOk b) := inferInstanceAs (Decidable (_ = _))
def noHead (s : List UInt8) : Prop := s.length < 3 ∨ s.getD 0 0 ≠ 84
def noRoom (s : List UInt8) : Prop := 1024 < sN s ∨ s.length < sN s + 7
def noSum (s : List UInt8) : Prop := numN ((s.drop (sN s + 3)).take 4) ≠ sumN (s.take (sN s + 3))
instance (s : List UInt8) : Decidable (noHead s) := inferInstanceAs (Decidable (_ ∨ _))
instance (s : List UInt8) : Decidable (noRoom s) := inferInstanceAs (Decidable (_ ∨ _))
instance (s : List UInt8) : Decidable (noSum s) := inferInstanceAs (Decidable (_ ≠ _))
def decT (s : List UInt8) : ATxn × Int × Int :=
  if noHead s then (tz, 0, 2)
  else if noRoom s then (tz, 0, 2)
  else if noSum s then (tz, 0, 5)
  else if ¬ bodyOk (sB s) then (tz, 0, 2)
  else if goodT (bodyT (sB s)) ≠ 0 then (tz, 0, goodT (bodyT (sB s)))
  else (bodyT (sB s), (sN s + 7 : Nat), 0)
theorem sN_lt (s : List UInt8) : sN s < 65536 := numN_lt (k := 2) (by simp; omega) (by decide)
theorem decT_a {s : List UInt8} (h : noHead s) : decT s = (tz, 0, 2) := by unfold decT; rw [if_pos h]
theorem decT_b {s : List UInt8} (h1 : ¬ noHead s) (h : noRoom s) : decT s = (tz, 0, 2) := by unfold decT; rw [if_neg h1, if_pos h]
theorem decT_c {s : List UInt8} (h1 : ¬ noHead s) (h2 : ¬ noRoom s) (h : noSum s) : decT s = (tz, 0, 5) := by unfold decT; rw [if_neg h1, if_neg h2, if_pos h]
theorem decT_d {s : List UInt8} (h1 : ¬ noHead s) (h2 : ¬ noRoom s) (h3 : ¬ noSum s) (h : ¬ bodyOk (sB s)) : decT s = (tz, 0, 2) := by unfold decT; rw [if_neg h1, if_neg h2, if_neg h3, if_pos h]
theorem decT_e {s : List UInt8} (h1 : ¬ noHead s) (h2 : ¬ noRoom s) (h3 : ¬ noSum s) (h4 : bodyOk (sB s)) (h : goodT (bodyT (sB s)) ≠ 0) : decT s = (tz, 0, goodT (bodyT (sB s))) := by
  unfold decT; rw [if_neg h1, if_neg h2, if_neg h3, if_neg (fun h => h h4), if_pos h]
theorem decT_f {s : List UInt8} (h1 : ¬ noHead s) (h2 : ¬ noRoom s) (h3 : ¬ noSum s) (h4 : bodyOk (sB s)) (h : goodT (bodyT (sB s)) = 0) : decT s = (bodyT (sB s), ((sN s + 7 : Nat) : Int), 0) := by
  unfold decT; rw [if_neg h1, if_neg h2, if_neg h3, if_neg (fun h => h h4), if_neg (fun h' => h' h)]
theorem head_iff {s : List UInt8} : noHead s ↔ (s.length : Int) < 3 ∨ ¬ ((s.getD 0 0).toNat : Int) = 84 := by
  unfold noHead
  have e : (s.getD 0 0 ≠ 84) ↔ ¬ ((s.getD 0 0).toNat : Int) = 84 := by
    constructor
    · intro h e; apply h; exact UInt8.toNat_inj.1 (by show (s.getD 0 0).toNat = 84; omega)
    · intro h e; apply h; rw [e]; rfl
  rw [e]; omega
theorem room_iff {s : List UInt8} : noRoom s ↔ 1024 < (sN s : Int) ∨ (s.length : Int) < (sN s : Int) + 7 := by unfold noRoom; omega
theorem ref_decode_c (s : List UInt8) (hs : s.length ≤ 1048576) : acall Tryd.prog [] 136 [S s] (ret (.tup [(decT s).1.av, I (decT s).2.1, I (decT s).2.2])) := by
  have hn1 : acall Tryd.prog [] 83 [S ((s.drop 1).take 2)] (ret (I (sN s))) := numberOf_s _ (by simp; omega)
  have hN := sN_lt s
  have q3 : ((sN s : Int) + 3).toNat = sN s + 3 := by omega
  have q7 : ((sN s : Int) + 7).toNat = sN s + 7 := by omega
  have hsum : acall Tryd.prog [] 80 [S (s.take (sN s + 3))] (ret (I (sumN (s.take (sN s + 3))))) := ref_sum_c _ (by unfold okS; simp; omega)
  have q4 : sN s + 7 - (sN s + 3) = 4 := by omega
  have q5 : List.take (sN s + 3 - 3) (List.drop 3 s) = sB s := by unfold sB; rw [Nat.add_sub_cancel]
  have hW : acall Tryd.prog [] 83 [S ((sB s).take 8)] (ret (I (numW ((sB s).take 8)))) := numberOf_c _ (by unfold okS; simp; omega)
  have hbl : (sB s).length ≤ 1048576 := by unfold sB; simp; omega
  have hP : bP (sB s) < 256 := UInt8.toNat_lt _
  have hD : bD (sB s) < 65536 := numN_lt (k := 2) (by simp; omega) (by decide)
  have ebp : ((sB s).getD 21 0).toNat = bP (sB s) := rfl
  have ebd : numN (List.take 2 (List.drop (22 + bP (sB s)) (sB s))) = bD (sB s) := rfl
  have q22 : (22 + (bP (sB s) : Int)).toNat = 22 + bP (sB s) := by omega
  have q24 : (24 + (bP (sB s) : Int)).toNat = 24 + bP (sB s) := by omega
  have q2 : 24 + bP (sB s) - (22 + bP (sB s)) = 2 := by omega
  have q0 : 22 + bP (sB s) - 22 = bP (sB s) := by omega
  have qd : List.take ((sB s).length - (24 + bP (sB s))) (List.drop (24 + bP (sB s)) (sB s)) = List.drop (24 + bP (sB s)) (sB s) := List.take_of_length_le (by rw [List.length_drop]; omega)
  have hG : acall Tryd.prog [] 112 [(bodyT (sB s)).av] (ret (I (goodT (bodyT (sB s))))) := ref_wgood_c _ (numW_okI _) (by simp [bodyT]; omega) (by unfold okS; simp [bodyT]; omega)
  unfold ATxn.av bodyT at hG
  refine acall_of tabOk Tryd.func136 rfl (by kernel_rfl) (by simp [Tryd.ntmps136]) ?_; simp only [Tryd.ntmps136, Tryd.results136, List.toList_toArray, apar, List.length_nil, List.length_cons, Nat.reduceAdd]
  repeat' first
    | (with_reducible first | refine AWP.seq ?_ | refine thenA_n ?_ | refine thenA_r ?_ | refine thenA_e ?_ | refine blkA_n ?_ | refine blkA_r ?_ | refine blkA_e ?_ | refine blkA_x (by decide) ?_ | refine AWP.skip ?_ | refine AWP.ret ?_ | refine AWP.exit ?_ | refine AWP.block ?_)
    | (with_reducible refine AWP.cond rfl ?_ ?_ <;> intro hc <;> (try simp only [hcs, beq_iff_eq, ge_iff_le, gt_iff_lt] at hc))
    | ((first
      | (with_reducible first | refine AWP.region tabOk ?_ | refine AWP.quietC mixed tabOk (by decide +kernel) ?_ | refine AWP.draw mixed tabOk (by decide +kernel) ?_ | refine AWP.drawE mixed tabOk (by decide +kernel) ?_ | refine AWP.drawG mixed tabOk (by decide +kernel) ?_); intro K hK
      | ((first | refine acallH_sc (hn1) rfl rfl ?_ ?_ ?_ | refine acallQ_sc (hn1) rfl rfl ?_ ?_ ?_ | refine acallH_sc (hsum) rfl rfl ?_ ?_ ?_ | refine acallQ_sc (hsum) rfl rfl ?_ ?_ ?_ | refine acallH_sc (numberOf_s _ (by simp; omega)) rfl rfl ?_ ?_ ?_ | refine acallQ_sc (numberOf_s _ (by simp; omega)) rfl rfl ?_ ?_ ?_ | refine acallH_sc (hW) rfl rfl ?_ ?_ ?_ | refine acallQ_sc (hW) rfl rfl ?_ ?_ ?_ | refine acallH_sc (hG) rfl rfl ?_ ?_ ?_ | refine acallQ_sc (hG) rfl rfl ?_ ?_ ?_); iterate 2 (focus ((try simp (disch := omega) only [go_sem, wrap_n, q3, q7, q4, q5, Nat.sub_zero, wrap_byte, ebp, q22, q24, q2, q0, ebd, qd]) <;> (try omega) <;> fail)))
      | ((first | refine acallH_anyr (hn1) rfl ?_ ?_ | refine acallH_anyr (hsum) rfl ?_ ?_ | refine acallH_anyr (numberOf_s _ (by simp; omega)) rfl ?_ ?_ | refine acallH_anyr (hW) rfl ?_ ?_ | refine acallH_anyr (hG) rfl ?_ ?_); (focus ((try simp (disch := omega) only [go_sem, wrap_n, q3, q7, q4, q5, Nat.sub_zero, wrap_byte, ebp, q22, q24, q2, q0, ebd, qd]) <;> (try omega) <;> fail)))
      | ((first | refine acallH_scx (hn1) rfl ?_ ?_ | refine acallQ_scx (hn1) rfl ?_ ?_ | refine acallH_anyx (hn1) ?_ ?_); (focus ((try simp (disch := omega) only [go_sem, wrap_n, q3, q7, q4, q5, Nat.sub_zero, wrap_byte, ebp, q22, q24, q2, q0, ebd, qd]) <;> (try omega) <;> fail)))
      | ((first | refine acallH_scx (hsum) rfl ?_ ?_ | refine acallQ_scx (hsum) rfl ?_ ?_ | refine acallH_anyx (hsum) ?_ ?_); (focus ((try simp (disch := omega) only [go_sem, wrap_n, q3, q7, q4, q5, Nat.sub_zero, wrap_byte, ebp, q22, q24, q2, q0, ebd, qd]) <;> (try omega) <;> fail)))
      | ((first | refine acallH_scx (numberOf_s _ (by simp; omega)) rfl ?_ ?_ | refine acallQ_scx (numberOf_s _ (by simp; omega)) rfl ?_ ?_ | refine acallH_anyx (numberOf_s _ (by simp; omega)) ?_ ?_); (focus ((try simp (disch := omega) only [go_sem, wrap_n, q3, q7, q4, q5, Nat.sub_zero, wrap_byte, ebp, q22, q24, q2, q0, ebd, qd]) <;> (try omega) <;> fail)))
      | ((first | refine acallH_scx (hW) rfl ?_ ?_ | refine acallQ_scx (hW) rfl ?_ ?_ | refine acallH_anyx (hW) ?_ ?_); (focus ((try simp (disch := omega) only [go_sem, wrap_n, q3, q7, q4, q5, Nat.sub_zero, wrap_byte, ebp, q22, q24, q2, q0, ebd, qd]) <;> (try omega) <;> fail)))
      | ((first | refine acallH_scx (hG) rfl ?_ ?_ | refine acallQ_scx (hG) rfl ?_ ?_ | refine acallH_anyx (hG) ?_ ?_); (focus ((try simp (disch := omega) only [go_sem, wrap_n, q3, q7, q4, q5, Nat.sub_zero, wrap_byte, ebp, q22, q24, q2, q0, ebd, qd]) <;> (try omega) <;> fail)))); ((try simp (disch := omega) only [go_sem, wrap_n, q3, q7, q4, q5, Nat.sub_zero, wrap_byte, ebp, q22, q24, q2, q0, ebd, qd]) <;> (repeat' with_reducible refine And.intro ?_ ?_) <;> (try (with_reducible refine hK _ ?_; clear hK K))))
    | ((first | (with_reducible refine aunder_i ?_ ?_ <;> intro hg) | with_reducible intro hg) <;> (first | (exfalso; simp at hg; done) | (have hg' := hg; (try simp only [hcs, beq_iff_eq, ge_iff_le, gt_iff_lt] at hg'); ((try simp (disch := omega) only [hg, go_sem, wrap_n, q3, q7, q4, q5, Nat.sub_zero, wrap_byte, ebp, q22, q24, q2, q0, ebd, qd]) <;> (repeat' with_reducible refine And.intro ?_ ?_) <;> (try (with_reducible refine hK _ ?_; clear hK K))))))
                                                            | omega
  · rw [decT_a (head_iff.2 hc)]; (refine aend_retc ?_ rfl ?_ ?_ ?_ ?_; (focus (first | exact .inl rfl | exact .inr rfl)); (iterate 3 (focus ((try simp (disch := omega) only [go_sem, wrap_n, tz]) <;> (try omega) <;> fail))); (try simp (disch := omega) only [go_sem, wrap_n, tz, I, B, S, inj, List.cons.injEq, and_true, true_and, and_self]))
  all_goals (have h1 : ¬ noHead s := fun h => by have := head_iff.1 h; omega)
  · rw [decT_b h1 (room_iff.2 hc)]; (refine aend_retc ?_ rfl ?_ ?_ ?_ ?_; (focus (first | exact .inl rfl | exact .inr rfl)); (iterate 3 (focus ((try simp (disch := omega) only [go_sem, wrap_n, tz]) <;> (try omega) <;> fail))); (try simp (disch := omega) only [go_sem, wrap_n, tz, I, B, S, inj, List.cons.injEq, and_true, true_and, and_self]))
  all_goals (have h2 : ¬ noRoom s := fun h => by have := room_iff.1 h; omega)
  · rw [decT_c h1 h2 (by unfold noSum; omega)]; (refine aend_retc ?_ rfl ?_ ?_ ?_ ?_; (focus (first | exact .inl rfl | exact .inr rfl)); (iterate 3 (focus ((try simp (disch := omega) only [go_sem, wrap_n, tz]) <;> (try omega) <;> fail))); (try simp (disch := omega) only [go_sem, wrap_n, tz, I, B, S, inj, List.cons.injEq, and_true, true_and, and_self]))
  all_goals (have h3 : ¬ noSum s := fun h => by unfold noSum at h; omega)
  · rw [decT_d h1 h2 h3 (by unfold bodyOk; omega)]; (refine aend_retc ?_ rfl ?_ ?_ ?_ ?_; (focus (first | exact .inl rfl | exact .inr rfl)); (iterate 3 (focus ((try simp (disch := omega) only [go_sem, wrap_n, tz]) <;> (try omega) <;> fail))); (try simp (disch := omega) only [go_sem, wrap_n, tz, I, B, S, inj, List.cons.injEq, and_true, true_and, and_self]))
  · rw [decT_d h1 h2 h3 (by unfold bodyOk; omega)]; (refine aend_retc ?_ rfl ?_ ?_ ?_ ?_; (focus (first | exact .inl rfl | exact .inr rfl)); (iterate 3 (focus ((try simp (disch := omega) only [go_sem, wrap_n, tz]) <;> (try omega) <;> fail))); (try simp (disch := omega) only [go_sem, wrap_n, tz, I, B, S, inj, List.cons.injEq, and_true, true_and, and_self]))
  · rw [decT_d h1 h2 h3 (by unfold bodyOk; omega)]; (refine aend_retc ?_ rfl ?_ ?_ ?_ ?_; (focus (first | exact .inl rfl | exact .inr rfl)); (iterate 3 (focus ((try simp (disch := omega) only [go_sem, wrap_n, tz]) <;> (try omega) <;> fail))); (try simp (disch := omega) only [go_sem, wrap_n, tz, I, B, S, inj, List.cons.injEq, and_true, true_and, and_self]))
  · rw [decT_e h1 h2 h3 (by unfold bodyOk; omega) hc]; (refine aend_retc ?_ rfl ?_ ?_ ?_ ?_; (focus (first | exact .inl rfl | exact .inr rfl)); (iterate 3 (focus ((try simp (disch := omega) only [go_sem, wrap_n, tz, bodyT]) <;> (try omega) <;> fail))); (try simp (disch := omega) only [go_sem, wrap_n, tz, bodyT, I, B, S, inj, List.cons.injEq, and_true, true_and, and_self]))
  · rw [decT_f h1 h2 h3 (by unfold bodyOk; omega) hc]; (refine aend_retc ?_ rfl ?_ ?_ ?_ ?_; (focus (first | exact .inl rfl | exact .inr rfl)); (iterate 3 (focus ((try simp (disch := omega) only [go_sem, wrap_n, bodyT, Int.natCast_add]) <;> (try omega) <;> fail))); (try simp (disch := omega) only [go_sem, wrap_n, bodyT, Int.natCast_add, I, B, S, inj, List.cons.injEq, and_true, true_and, and_self]))
end Go.Proofs.YtmpfhalheaeibaaDoor
