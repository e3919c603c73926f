/- A part of what SnapWrites leans on: texts of this claim, one behind the other. No condition. -/
import Derived.Laws.BitsAllLaws
import Derived.Test.YtmpfhalheaeibaaDoorSnapWritesK7
namespace Go.Proofs.YtmpfhalheaeibaaDoor
set_option linter.unusedVariables false
set_option linter.unusedSimpArgs false
open Go Go.RowKit
set_option maxRecDepth 100000
set_option linter.unusedSimpArgs false
def stepN (c : Nat) : Nat := (c / 2) ^^^ (if c % 2 = 1 then 3988292384 else 0)
def stepsN : Nat → Nat → Nat
  | 0, c => c
  | k + 1, c => stepN (stepsN k c)
def byteN (c : Nat) (b : UInt8) : Nat := stepsN 8 (c ^^^ b.toNat)
def crcN (s : List UInt8) : Nat := s.foldl byteN 4294967295
def sumN (s : List UInt8) : Nat := 4294967295 - crcN s
theorem stepN_lt {c : Nat} (h : c < 4294967296) : stepN c < 4294967296 := by
  unfold stepN
  exact Nat.xor_lt_two_pow (n := 32) (by omega) (by split <;> decide)
theorem stepsN_lt {c : Nat} (h : c < 4294967296) : ∀ k, stepsN k c < 4294967296
  | 0 => h
  | k + 1 => stepN_lt (stepsN_lt h k)
theorem byteN_lt {c : Nat} (b : UInt8) (h : c < 4294967296) : byteN c b < 4294967296 :=
  stepsN_lt (Nat.xor_lt_two_pow (n := 32) h (Nat.lt_trans b.toNat_lt (by decide))) 8
theorem crcN_snoc (s : List UInt8) (k : Nat) (h : k < s.length) : crcN (s.take (k + 1)) = byteN (crcN (s.take k)) (s.getD k 0) := by
  unfold crcN
  have : s.take (k + 1) = s.take k ++ [s.getD k 0] := take_snoc s k h
  rw [this, List.foldl_append]; rfl
theorem crcN_lt (s : List UInt8) : crcN s < 4294967296 := by
  unfold crcN
  have : ∀ (l : List UInt8) (c : Nat), c < 4294967296 → l.foldl byteN c < 4294967296 := by
    intro l
    induction l with
    | nil => intro c h; exact h
    | cons b l ih => intro c h; exact ih _ (byteN_lt b h)
  exact this s _ (by decide)
theorem and1 (c : Nat) (h : c < 4294967296) : bits .and .u32 (c : Int) 1 = ((c % 2 : Nat) : Int) := by
  have := u32_and_nat c 1 h (by decide)
  rw [Nat.and_one_is_mod] at this; exact this
theorem half1 (c : Nat) : (c : Int) / 2 = ((c / 2 : Nat) : Int) := by omega
theorem xorp (c : Nat) (h : c < 4294967296) : bits .xor .u32 (c : Int) 3988292384 = ((c ^^^ 3988292384 : Nat) : Int) := u32_xor_nat c _ h (by decide)
theorem u8_lt32 (b : UInt8) : b.toNat < 4294967296 := Nat.lt_trans b.toNat_lt (by decide)
theorem step_odd {c : Nat} (h : c % 2 = 1) : stepN c = c / 2 ^^^ 3988292384 := by unfold stepN; rw [if_pos h]
theorem step_even {c : Nat} (h : ¬ c % 2 = 1) : stepN c = c / 2 := by unfold stepN; rw [if_neg h, Nat.xor_zero]
theorem crc_nil : crcN [] = 4294967295 := rfl
theorem wrap_u8_32 (b : UInt8) : IntKind.u32.wrap (b.toNat : Int) = (b.toNat : Int) := by
  have := b.toNat_lt
  rw [IntKind.wrap_u32']; omega
theorem not32 (c : Nat) (h : c < 4294967296) : bits .xor .u32 (if IntKind.u32.signed = true then -1 else IntKind.u32.max) (c : Int) = ((4294967295 - c : Nat) : Int) := by
  have e : (if IntKind.u32.signed = true then (-1 : Int) else IntKind.u32.max) = ((4294967295 : Nat) : Int) := by decide
  rw [e, u32_xor_nat _ _ (by decide) h]
  congr 1
  have : 4294967295 - c = 2 ^ 32 - (c + 1) := by omega
  apply Nat.eq_of_testBit_eq
  intro i
  rw [Nat.testBit_xor, this, Nat.testBit_two_pow_sub_succ h, show 4294967295 = 2 ^ 32 - 1 from rfl, Nat.testBit_two_pow_sub_one]
  by_cases hi : i < 32
  · simp [hi]
  · have : c.testBit i = false := Nat.testBit_lt_two_pow (Nat.lt_of_lt_of_le h (Nat.pow_le_pow_right (by decide) (by omega) : 2 ^ 32 ≤ 2 ^ i))
    simp [hi, this]
theorem eq_one (n : Nat) : (((n : Nat) : Int) = 1) = (n = 1) := by rw [eq_iff_iff]; omega
theorem sum_c (s : List UInt8) (h : okS s) : acall Tryd.prog [] 78 [S s] (ret (I (sumN s))) := by
  unfold okS at h
  refine acall_of tabOk Tryd.func78 rfl (by kernel_rfl) (by simp [Tryd.ntmps78]) ?_; simp only [Tryd.ntmps78, Tryd.results78, List.toList_toArray, apar, List.length_nil, List.length_cons, Nat.reduceAdd]
  (repeat' first
| (with_reducible refine AR.f ?_)
| refine blkA_x (by decide) ?_
| (with_reducible refine AWP.cond rfl ?_ ?_ <;> intro hc <;> (try simp only [hcs, beq_iff_eq, ge_iff_le, gt_iff_lt] at hc))
| ((first | ((first | (with_reducible first | refine zR ?_ | refine zQ (by decide +kernel) ?_ | refine zD (by decide +kernel) ?_ | refine zE (by decide +kernel) ?_ | refine zG (by decide +kernel) ?_)); intro K hK) | ((first | (with_reducible refine aunder_i ?_ ?_ <;> intro hg) | with_reducible intro hg) <;> (first | (exfalso; simp at hg; done) | (have hg' := hg; (try simp only [hcs, beq_iff_eq, ge_iff_le, gt_iff_lt] at hg'); (try simp only [hg]))))) <;> (try simp (disch := omega) only [go_sem, wrap_n]) <;> (repeat' with_reducible refine And.intro ?_ ?_) <;> (try (with_reducible refine hK _ ?_; clear hK K)))
| omega)
  refine AWP.loopS (ι := Nat) (fun k => k ≤ s.length) (fun k => s.length - k) [0] (fun k => [(3, .d (.int .u32 (crcN (s.take k)))), (4, I k)]) 0 ?_ (by simp (disch := omega) only [go_sem, wrap_n, crc_nil, Int.cast_ofNat_Int]) ?_
  · omega
  intro k hk
  have hc0 := crcN_lt (s.take k)
  have hb := u8_lt32 (s.getD k 0)
  have hx : crcN (s.take k) ^^^ (s.getD k 0).toNat < 4294967296 := Nat.xor_lt_two_pow (n := 32) hc0 hb
  simp only [go_sem]
  (repeat' first
| (with_reducible refine AR.f ?_)
| refine blkA_x (by decide) ?_
| (with_reducible refine AWP.cond rfl ?_ ?_ <;> intro hc <;> (try simp only [hcs, beq_iff_eq, ge_iff_le, gt_iff_lt] at hc))
| ((first | ((first | (with_reducible first | refine zR ?_ | refine zQ (by decide +kernel) ?_ | refine zD (by decide +kernel) ?_ | refine zE (by decide +kernel) ?_ | refine zG (by decide +kernel) ?_)); intro K hK) | ((first | (with_reducible refine aunder_i ?_ ?_ <;> intro hg) | with_reducible intro hg) <;> (first | (exfalso; simp at hg; done) | (have hg' := hg; (try simp only [hcs, beq_iff_eq, ge_iff_le, gt_iff_lt] at hg'); (try simp only [hg]))))) <;> (try simp (disch := omega) only [go_sem, wrap_n, u32_xor_nat, wrap_u8_32]) <;> (repeat' with_reducible refine And.intro ?_ ?_) <;> (try (with_reducible refine hK _ ?_; clear hK K)))
| omega)
  · refine AWP.loopS (ι := Nat) (fun j => j ≤ 8) (fun j => 8 - j) [0, 4] (fun j => [(3, .d (.int .u32 (stepsN j (crcN (s.take k) ^^^ (s.getD k 0).toNat)))), (18, I j)]) 0 ?_ (by simp (disch := omega) only [go_sem, wrap_n, stepsN]) ?_
    · omega
    intro j hj
    have hs := stepsN_lt hx j
    have hs2 : stepsN j (crcN (s.take k) ^^^ (s.getD k 0).toNat) / 2 < 4294967296 := by omega
    simp only [go_sem]
    (repeat' first
  | (with_reducible refine AR.f ?_)
  | refine blkA_x (by decide) ?_
  | (with_reducible refine AWP.cond rfl ?_ ?_ <;> intro hc <;> (try simp only [hcs, beq_iff_eq, ge_iff_le, gt_iff_lt] at hc))
  | ((first | ((first | (with_reducible first | refine zR ?_ | refine zQ (by decide +kernel) ?_ | refine zD (by decide +kernel) ?_ | refine zE (by decide +kernel) ?_ | refine zG (by decide +kernel) ?_)); intro K hK) | ((first | (with_reducible refine aunder_i ?_ ?_ <;> intro hg) | with_reducible intro hg) <;> (first | (exfalso; simp at hg; done) | (have hg' := hg; (try simp only [hcs, beq_iff_eq, ge_iff_le, gt_iff_lt] at hg'); (try simp only [hg]))))) <;> (try simp (disch := omega) only [go_sem, wrap_n, and1, half1, xorp, eq_one]) <;> (repeat' with_reducible refine And.intro ?_ ?_) <;> (try (with_reducible refine hK _ ?_; clear hK K)))
  | omega)
    · refine ⟨j + 1, by omega, by omega, ?_⟩
      (refine SImp.same ?_; simp (disch := omega) only [go_sem, wrap_n, Int.natCast_add, stepsN, step_odd hc])
    · refine ⟨j + 1, by omega, by omega, ?_⟩
      (refine SImp.same ?_; simp (disch := omega) only [go_sem, wrap_n, Int.natCast_add, stepsN, step_even hc])
    · have e0 : j = 8 := by omega
      subst e0
      refine ⟨k + 1, by omega, by omega, ?_⟩
      (refine SImp.same ?_; simp (disch := omega) only [go_sem, wrap_n, Int.natCast_add, crcN_snoc, byteN])
  · have e0 : k = s.length := by omega
    subst e0
    rw [List.take_length] at *
    (refine zF rfl ?_ ?_ ?_ ?_; (iterate 3 (focus ((try simp (disch := omega) only [go_sem, wrap_n, not32, sumN]) <;> (try omega) <;> fail))); (try simp (disch := omega) only [go_sem, wrap_n, not32, sumN, I, B, S, inj, List.cons.injEq, and_true, true_and, and_self]))
def cl (l : List Nat) : List AV := l.map fun n : Nat => AV.d (.int .i64 (n : Int))
theorem cl_len (l : List Nat) : (cl l).length = l.length := by simp [cl]
theorem cl_get (l : List Nat) (k : Nat) (h : k < l.length) : (cl l).getD k .any = .d (.int .i64 (l.getD k 0 : Nat)) := by
  unfold cl; rw [List.getD_eq_getElem?_getD, List.getElem?_map, List.getD_eq_getElem?_getD, List.getElem?_eq_getElem h]; rfl
theorem cl_set (l : List Nat) (k v : Nat) : (cl l).set k (.d (.int .i64 (v : Int))) = cl (l.set k v) := by unfold cl; rw [List.map_set]
theorem cl_set1 (l : List Nat) (k : Nat) : (cl l).set k (.d (.int .i64 1)) = cl (l.set k 1) := cl_set l k 1
theorem cl_set0 (l : List Nat) (k : Nat) : (cl l).set k (.d (.int .i64 0)) = cl (l.set k 0) := cl_set l k 0
def reg0 (k : Nat) : List Nat := List.replicate k 1 ++ List.replicate (32 - k) 0
theorem reg0_len (k : Nat) (h : k ≤ 32) : (reg0 k).length = 32 := by simp [reg0]; omega
theorem reg0_set (k : Nat) (h : k < 32) : (reg0 k).set k 1 = reg0 (k + 1) := by
  unfold reg0
  rw [List.set_append_right _ _ (by simp), List.length_replicate, Nat.sub_self, show 32 - k = (32 - (k + 1)) + 1 from by omega, List.replicate_succ, List.set_cons_zero, List.replicate_succ' (n := k), List.append_assoc]; rfl
theorem cl_start : cl (reg0 0) = List.replicate 32 (.d (.int .i64 0)) := rfl
def bitsOf (c : Nat) : List Nat := (List.range 32).map fun k => c / 2 ^ k % 2
theorem bitsOf_len (c : Nat) : (bitsOf c).length = 32 := by simp [bitsOf]
theorem bitsOf_get (c k : Nat) (h : k < 32) : (bitsOf c).getD k 0 = c / 2 ^ k % 2 := by
  unfold bitsOf; rw [List.getD_eq_getElem?_getD, List.getElem?_map, List.getElem?_range h]; rfl
theorem reg0_full : reg0 32 = bitsOf 4294967295 := by decide
def refR (c b k : Nat) : Nat := stepsN k (c ^^^ b) ^^^ (b / 2 ^ k)
theorem refR_zero (c b : Nat) : refR c b 0 = c := by unfold refR; rw [stepsN, Nat.pow_zero, Nat.div_one, Nat.xor_assoc, Nat.xor_self, Nat.xor_zero]
theorem refR_end (c : Nat) (b : UInt8) : refR c b.toNat 8 = byteN c b := by
  have : b.toNat / 2 ^ 8 = 0 := Nat.div_eq_of_lt b.toNat_lt
  unfold refR; rw [this, Nat.xor_zero]; rfl
theorem refR_lt {c b : Nat} (hc : c < 4294967296) (hb : b < 4294967296) (k : Nat) : refR c b k < 4294967296 :=
  Nat.xor_lt_two_pow (n := 32) (stepsN_lt (Nat.xor_lt_two_pow (n := 32) hc hb) k) (Nat.lt_of_le_of_lt (Nat.div_le_self _ _) hb)
theorem bit_cases (n : Nat) : n % 2 = 0 ∨ n % 2 = 1 := by omega
theorem xor_bits {a b : Nat} (ha : a = 0 ∨ a = 1) (hb : b = 0 ∨ b = 1) : bits .xor .i64 (a : Int) (b : Int) = ((a ^^^ b : Nat) : Int) := by
  rcases ha with rfl | rfl <;> rcases hb with rfl | rfl <;> decide
theorem xor_mod2 (a b : Nat) : (a ^^^ b) % 2 = (a % 2) ^^^ (b % 2) := by
  have := @Nat.xor_mod_two_pow a b 1
  simpa using this
theorem out_eq (c k : Nat) (b : UInt8) : bits .xor .i64 ((refR c b.toNat k / 1 % 2 : Nat) : Int) (IntKind.i64.wrap (bits .and .u8 ((b.toNat : Int) / 2 ^ k) 1)) = ((stepsN k (c ^^^ b.toNat) % 2 : Nat) : Int) := by
  have e0 : (b.toNat : Int) / 2 ^ k = ((b.toNat / 2 ^ k : Nat) : Int) := by rw [Int.natCast_ediv, Int.natCast_pow]; rfl
  have e1 := u8_and_nat (b.toNat / 2 ^ k) 1 (Nat.lt_of_le_of_lt (Nat.div_le_self _ _) b.toNat_lt) (by decide)
  rw [Nat.and_one_is_mod] at e1
  rw [e0, show (1 : Int) = ((1 : Nat) : Int) from rfl, e1, wrap_n _ (by omega) (by omega), Nat.div_one, xor_bits (bit_cases _) (bit_cases _)]
  congr 1
  unfold refR
  rw [xor_mod2, Nat.xor_assoc, Nat.xor_self, Nat.xor_zero]
theorem shift_cl (c : Nat) (h : c < 4294967296) : ((List.take (min 32 31) (List.drop 1 (cl (bitsOf c))) ++ List.drop (min 32 31) (cl (bitsOf c))).set 31 (.d (.int .i64 0))) = cl (bitsOf (c / 2)) := by
  have e : (List.take 31 (List.drop 1 (bitsOf c)) ++ List.drop 31 (bitsOf c)).set 31 0 = bitsOf (c / 2) := by
    refine List.ext_getElem (by simp [bitsOf]) fun j h1 h2 => ?_
    rw [List.getElem_set]
    rw [bitsOf_len] at h2
    split
    · rename_i e; subst e; simp [bitsOf]; omega
    · rw [List.getElem_append_left (by simp [bitsOf]; omega), List.getElem_take, List.getElem_drop]
      simp only [bitsOf, List.getElem_map, List.getElem_range]
      rw [Nat.div_div_eq_div_mul, Nat.pow_add, Nat.pow_one]
  rw [← e, ← cl_set0]
  unfold cl
  rw [List.map_append, List.map_take, List.map_drop, List.map_drop]; rfl
def xorR (c low j : Nat) : List Nat := (List.range 32).map fun t => if t < j then (c / 2 ^ t % 2) ^^^ (low * (3988292384 / 2 ^ t % 2)) else c / 2 ^ t % 2
theorem xorR_len (c low j : Nat) : (xorR c low j).length = 32 := by simp [xorR]
theorem xorR_zero (c low : Nat) : xorR c low 0 = bitsOf c := by simp [xorR, bitsOf]
theorem xorR_get (c low j : Nat) (h : j < 32) : (xorR c low j).getD j 0 = c / 2 ^ j % 2 := by
  unfold xorR; rw [List.getD_eq_getElem?_getD, List.getElem?_map, List.getElem?_range h]; simp
theorem xorR_set (c low j : Nat) (h : j < 32) : (xorR c low j).set j ((c / 2 ^ j % 2) ^^^ (low * (3988292384 / 2 ^ j % 2))) = xorR c low (j + 1) := by
  refine List.ext_getElem (by simp [xorR]) fun t h1 h2 => ?_
  rw [List.getElem_set]
  split
  · rename_i e; subst e; simp [xorR]
  · simp only [xorR, List.getElem_map, List.getElem_range]
    by_cases ht : t < j
    · rw [if_pos ht, if_pos (by omega)]
    · rw [if_neg ht, if_neg (by omega)]
theorem bit_xor (a b t : Nat) : (a ^^^ b) / 2 ^ t % 2 = (a / 2 ^ t % 2) ^^^ (b / 2 ^ t % 2) := by
  rw [← xor_mod2, ← Nat.shiftRight_eq_div_pow, ← Nat.shiftRight_eq_div_pow, ← Nat.shiftRight_eq_div_pow, Nat.shiftRight_xor_distrib]
theorem xorR_full (c p : Nat) : xorR c (p % 2) 32 = bitsOf (c ^^^ (if p % 2 = 1 then 3988292384 else 0)) := by
  refine List.ext_getElem (by simp [xorR, bitsOf]) fun t h1 h2 => ?_
  rw [xorR_len] at h1
  simp only [xorR, bitsOf, List.getElem_map, List.getElem_range]
  rw [if_pos h1, bit_xor]
  rcases bit_cases p with e | e <;> rw [e] <;> simp
theorem refR_next (c b k : Nat) : refR c b k / 2 ^^^ (if stepsN k (c ^^^ b) % 2 = 1 then 3988292384 else 0) = refR c b (k + 1) := by
  unfold refR
  rw [stepsN, stepN]
  have e : ∀ a b : Nat, (a ^^^ b) / 2 = (a / 2) ^^^ (b / 2) := fun a b => by
    have := @Nat.shiftRight_xor_distrib 1 a b
    simpa [Nat.shiftRight_eq_div_pow] using this
  rw [e, Nat.div_div_eq_div_mul, ← Nat.pow_succ]
  generalize stepsN k (c ^^^ b) / 2 = x
  generalize b / 2 ^ (k + 1) = y
  generalize (if stepsN k (c ^^^ b) % 2 = 1 then 3988292384 else 0) = z
  rw [Nat.xor_assoc, Nat.xor_assoc, Nat.xor_comm y z]
theorem wrap_u64n (n : Int) (h1 : 0 ≤ n) (h2 : n ≤ 18446744073709551615) : IntKind.u64.wrap n = n := by
  simp [IntKind.wrap, IntKind.bits, IntKind.signed]; omega
theorem wrap_i64n (n : Int) (h0 : 0 ≤ n) (h : n < 2 ^ 62) : IntKind.i64.wrap n = n := wrap_n n (by omega) (by omega)
theorem poly_bit (j : Nat) : bits .and .i64 (3988292384 / 2 ^ j) 1 = ((3988292384 / 2 ^ j % 2 : Nat) : Int) := by
  have e0 : (3988292384 : Int) / 2 ^ j = ((3988292384 / 2 ^ j : Nat) : Int) := by rw [Int.natCast_ediv, Int.natCast_pow]; rfl
  have := (bits_nat .i64 62 (by decide) wrap_i64n (3988292384 / 2 ^ j) 1 (Nat.lt_of_le_of_lt (Nat.div_le_self _ _) (by decide)) (by decide)).1
  rw [Nat.and_one_is_mod] at this
  rw [e0]; exact this
theorem low_mul (p q : Nat) : IntKind.i64.wrap (((p % 2 : Nat) : Int) * ((q % 2 : Nat) : Int)) = ((p % 2 * (q % 2) : Nat) : Int) := by
  rcases bit_cases p with e | e <;> rcases bit_cases q with e2 | e2 <;> rw [e, e2] <;> decide
theorem xor_low (a p q : Nat) : bits .xor .i64 ((a % 2 : Nat) : Int) ((p % 2 * (q % 2) : Nat) : Int) = ((a % 2 ^^^ (p % 2 * (q % 2)) : Nat) : Int) :=
  xor_bits (bit_cases _) (by rcases bit_cases p with e | e <;> rcases bit_cases q with e2 | e2 <;> rw [e, e2] <;> simp)
theorem comp_bit (c j : Nat) (h : c < 4294967296) (hj : j < 32) : (4294967295 - c) / 2 ^ j = 2 * ((4294967295 - c) / 2 ^ (j + 1)) + 1 - c / 2 ^ j % 2 := by
  have e1 : (4294967295 - c) / 2 ^ j % 2 = 1 - c / 2 ^ j % 2 := by
    have := Nat.testBit_two_pow_sub_succ (n := 32) h j
    rw [show 2 ^ 32 - (c + 1) = 4294967295 - c from by omega] at this
    rw [Nat.testBit_eq_decide_div_mod_eq, Nat.testBit_eq_decide_div_mod_eq, decide_eq_true hj, Bool.true_and] at this
    rcases bit_cases (c / 2 ^ j) with e | e <;> rcases bit_cases ((4294967295 - c) / 2 ^ j) with e2 | e2 <;> rw [e, e2] at this <;> simp at this <;> omega
  have e2 : (4294967295 - c) / 2 ^ (j + 1) = (4294967295 - c) / 2 ^ j / 2 := by rw [Nat.div_div_eq_div_mul, Nat.pow_succ]
  rw [e2]
  have := bit_cases (c / 2 ^ j)
  omega
theorem ref_sum_c (s : List UInt8) (h : okS s) : acall Tryd.prog [] 80 [S s] (ret (I (sumN s))) := by
  unfold okS at h
  refine acall_of tabOk Tryd.func80 rfl (by kernel_rfl) (by simp [Tryd.ntmps80]) ?_; simp only [Tryd.ntmps80, Tryd.results80, List.toList_toArray, apar, List.length_nil, List.length_cons, Nat.reduceAdd]
  (repeat' first
| (with_reducible refine AR.f ?_)
| refine blkA_x (by decide) ?_
| (with_reducible refine AWP.cond rfl ?_ ?_ <;> intro hc <;> (try simp only [hcs, beq_iff_eq, ge_iff_le, gt_iff_lt] at hc))
| ((first | ((first | (with_reducible first | refine zR ?_ | refine zQ (by decide +kernel) ?_ | refine zD (by decide +kernel) ?_ | refine zE (by decide +kernel) ?_ | refine zG (by decide +kernel) ?_)); intro K hK) | ((first | (with_reducible refine aunder_i ?_ ?_ <;> intro hg) | with_reducible intro hg) <;> (first | (exfalso; simp at hg; done) | (have hg' := hg; (try simp only [hcs, beq_iff_eq, ge_iff_le, gt_iff_lt] at hg'); (try simp only [hg]))))) <;> (try simp (disch := omega) only [go_sem, wrap_n]) <;> (repeat' with_reducible refine And.intro ?_ ?_) <;> (try (with_reducible refine hK _ ?_; clear hK K)))
| omega)
  refine AWP.loopB (ι := Nat) (fun k => k ≤ 32) (fun k => 32 - k) [0, 3] (fun k => [(12, I k)]) (fun k => [.cells (cl (reg0 k))]) 0 ?_ ?_ ?_
  · omega
  · rw [cl_start]; simp only [go_sem]; (refine SImp.same ?_; simp (disch := omega) only [go_sem, wrap_n, Int.natCast_add])
  intro k hk
  have hl := reg0_len k hk
  simp only [go_sem]
  (repeat' first
| (with_reducible refine AR.f ?_)
| refine blkA_x (by decide) ?_
| (with_reducible refine AWP.cond rfl ?_ ?_ <;> intro hc <;> (try simp only [hcs, beq_iff_eq, ge_iff_le, gt_iff_lt] at hc))
| ((first | ((first | (with_reducible first | refine zR ?_ | refine zQ (by decide +kernel) ?_ | refine zD (by decide +kernel) ?_ | refine zE (by decide +kernel) ?_ | refine zG (by decide +kernel) ?_)); intro K hK) | ((first | (with_reducible refine aunder_i ?_ ?_ <;> intro hg) | with_reducible intro hg) <;> (first | (exfalso; simp at hg; done) | (have hg' := hg; (try simp only [hcs, beq_iff_eq, ge_iff_le, gt_iff_lt] at hg'); (try simp only [hg]))))) <;> (try simp (disch := omega) only [go_sem, wrap_n, cl_len, reg0_len, Nat.mul_one, cl_set1, reg0_set]) <;> (repeat' with_reducible refine And.intro ?_ ?_) <;> (try (with_reducible refine hK _ ?_; clear hK K)))
| omega)
  · refine ⟨k + 1, by omega, by omega, ?_⟩
    (refine SImp.same ?_; simp (disch := omega) only [go_sem, wrap_n, Int.natCast_add])
  · have e0 : k = 32 := by omega
    subst e0
    rw [reg0_full]
    refine AWP.loopB (ι := Nat) (fun i => i ≤ s.length) (fun i => s.length - i) [3, 19, 20] (fun i => [(21, I i)]) (fun i => [.cells (cl (bitsOf (crcN (s.take i)))), .bytes s]) 0 ?_ ?_ ?_
    · omega
    · simp only [go_sem, crc_nil]; (refine SImp.same ?_; simp (disch := omega) only [go_sem, wrap_n, Int.natCast_add])
    intro i hi
    have hc0 := crcN_lt (s.take i)
    simp only [go_sem]
    (repeat' first
  | (with_reducible refine AR.f ?_)
  | refine blkA_x (by decide) ?_
  | (with_reducible refine AWP.cond rfl ?_ ?_ <;> intro hc <;> (try simp only [hcs, beq_iff_eq, ge_iff_le, gt_iff_lt] at hc))
  | ((first | ((first | (with_reducible first | refine zR ?_ | refine zQ (by decide +kernel) ?_ | refine zD (by decide +kernel) ?_ | refine zE (by decide +kernel) ?_ | refine zG (by decide +kernel) ?_)); intro K hK) | ((first | (with_reducible refine aunder_i ?_ ?_ <;> intro hg) | with_reducible intro hg) <;> (first | (exfalso; simp at hg; done) | (have hg' := hg; (try simp only [hcs, beq_iff_eq, ge_iff_le, gt_iff_lt] at hg'); (try simp only [hg]))))) <;> (try simp (disch := omega) only [go_sem, wrap_n, u8g]) <;> (repeat' with_reducible refine And.intro ?_ ?_) <;> (try (with_reducible refine hK _ ?_; clear hK K)))
  | omega)
    · refine AWP.loopB (ι := Nat) (fun k => k ≤ 8) (fun k => 8 - k) [3, 6, 19, 20, 21] (fun k => [(7, .d (.int .u64 k))]) (fun k => [.cells (cl (bitsOf (refR (crcN (s.take i)) (s.getD i 0).toNat k))), .bytes s]) 0 ?_ ?_ ?_
      · omega
      · simp only [go_sem, refR_zero]; (refine SImp.same ?_; simp (disch := omega) only [go_sem, wrap_n, Int.natCast_add])
      intro k hk
      have hr := refR_lt hc0 (u8_lt32 (s.getD i 0)) k
      have hbl := bitsOf_len (refR (crcN (s.take i)) (s.getD i 0).toNat k)
      simp only [go_sem]
      (repeat' first
    | (with_reducible refine AR.f ?_)
    | refine blkA_x (by decide) ?_
    | (with_reducible refine AWP.cond rfl ?_ ?_ <;> intro hc <;> (try simp only [hcs, beq_iff_eq, ge_iff_le, gt_iff_lt] at hc))
    | ((first | ((first | (with_reducible first | refine zR ?_ | refine zQ (by decide +kernel) ?_ | refine zD (by decide +kernel) ?_ | refine zE (by decide +kernel) ?_ | refine zG (by decide +kernel) ?_)); intro K hK) | ((first | (with_reducible refine aunder_i ?_ ?_ <;> intro hg) | with_reducible intro hg) <;> (first | (exfalso; simp at hg; done) | (have hg' := hg; (try simp only [hcs, beq_iff_eq, ge_iff_le, gt_iff_lt] at hg'); (try simp only [hg]))))) <;> (try simp (disch := omega) only [go_sem, wrap_n, cl_len, bitsOf_len, cl_get, bitsOf_get, cl_set0]) <;> (repeat' with_reducible refine And.intro ?_ ?_) <;> (try (with_reducible refine hK _ ?_; clear hK K)))
    | omega)
      · rw [shift_cl _ hr, out_eq]
        refine AWP.loopB (ι := Nat) (fun j => j ≤ 32) (fun j => 32 - j) [3, 6, 7, 8, 19, 20, 21] (fun j => [(41, I j)]) (fun j => [.cells (cl (xorR (refR (crcN (s.take i)) (s.getD i 0).toNat k / 2) (stepsN k (crcN (s.take i) ^^^ (s.getD i 0).toNat) % 2) j)), .bytes s]) 0 ?_ ?_ ?_
        · omega
        · simp only [go_sem, xorR_zero]; (refine SImp.same ?_; simp (disch := omega) only [go_sem, wrap_n, Int.natCast_add])
        intro j hj
        have hxl := xorR_len (refR (crcN (s.take i)) (s.getD i 0).toNat k / 2) (stepsN k (crcN (s.take i) ^^^ (s.getD i 0).toNat) % 2) j
        simp only [go_sem]
        (repeat' first
      | (with_reducible refine AR.f ?_)
      | refine blkA_x (by decide) ?_
      | (with_reducible refine AWP.cond rfl ?_ ?_ <;> intro hc <;> (try simp only [hcs, beq_iff_eq, ge_iff_le, gt_iff_lt] at hc))
      | ((first | ((first | (with_reducible first | refine zR ?_ | refine zQ (by decide +kernel) ?_ | refine zD (by decide +kernel) ?_ | refine zE (by decide +kernel) ?_ | refine zG (by decide +kernel) ?_)); intro K hK) | ((first | (with_reducible refine aunder_i ?_ ?_ <;> intro hg) | with_reducible intro hg) <;> (first | (exfalso; simp at hg; done) | (have hg' := hg; (try simp only [hcs, beq_iff_eq, ge_iff_le, gt_iff_lt] at hg'); (try simp only [hg]))))) <;> (try simp (disch := omega) only [go_sem, wrap_n, Nat.mul_one, cl_len, xorR_len, cl_get, xorR_get, wrap_u64n, poly_bit, low_mul, xor_low, cl_set, xorR_set]) <;> (repeat' with_reducible refine And.intro ?_ ?_) <;> (try (with_reducible refine hK _ ?_; clear hK K)))
      | omega)
        · refine ⟨j + 1, by omega, by omega, ?_⟩
          (refine SImp.same ?_; simp (disch := omega) only [go_sem, wrap_n, Int.natCast_add])
        · have e0 : j = 32 := by omega
          subst e0
          refine ⟨k + 1, by omega, by omega, ?_⟩
          rw [xorR_full, refR_next]
          (refine SImp.same ?_; simp (disch := omega) only [go_sem, wrap_n, Int.natCast_add, wrap_u64n])
      · have e0 : k = 8 := by omega
        subst e0
        refine ⟨i + 1, by omega, by omega, ?_⟩
        rw [refR_end, ← crcN_snoc _ _ (by omega)]
        (refine SImp.same ?_; simp (disch := omega) only [go_sem, wrap_n, Int.natCast_add])
    · have e0 : i = s.length := by omega
      subst e0
      rw [List.take_length] at *
      have hbl := bitsOf_len (crcN s)
      have hM : ∀ j, (4294967295 - crcN s) / 2 ^ j ≤ 4294967295 := fun j => Nat.le_trans (Nat.div_le_self _ _) (Nat.sub_le _ _)
      have hz : (4294967295 - crcN s) / 4294967296 = 0 := Nat.div_eq_of_lt (by omega)
      refine AWP.loopB (ι := Nat) (fun j => j ≤ 32) (fun j => j) [3] (fun j => [(10, I ((4294967295 - crcN s) / 2 ^ j : Nat)), (11, I ((j : Int) - 1))]) (fun j => [.cells (cl (bitsOf (crcN s))), .bytes s]) 32 ?_ ?_ ?_
      · omega
      · simp only [go_sem]; (refine SImp.same ?_; simp (disch := omega) only [go_sem, wrap_n, Int.natCast_add, hz])
      intro j hj
      have hMj := hM j
      have hb2 := bit_cases (crcN s / 2 ^ (j - 1))
      simp only [go_sem]
      (repeat' first
    | (with_reducible refine AR.f ?_)
    | refine blkA_x (by decide) ?_
    | (with_reducible refine AWP.cond rfl ?_ ?_ <;> intro hc <;> (try simp only [hcs, beq_iff_eq, ge_iff_le, gt_iff_lt] at hc))
    | ((first | ((first | (with_reducible first | refine zR ?_ | refine zQ (by decide +kernel) ?_ | refine zD (by decide +kernel) ?_ | refine zE (by decide +kernel) ?_ | refine zG (by decide +kernel) ?_)); intro K hK) | ((first | (with_reducible refine aunder_i ?_ ?_ <;> intro hg) | with_reducible intro hg) <;> (first | (exfalso; simp at hg; done) | (have hg' := hg; (try simp only [hcs, beq_iff_eq, ge_iff_le, gt_iff_lt] at hg'); (try simp only [hg]))))) <;> (try simp (disch := omega) only [go_sem, wrap_n, Nat.mul_one, cl_len, bitsOf_len, toNat_pr2, cl_get, bitsOf_get]) <;> (repeat' with_reducible refine And.intro ?_ ?_) <;> (try (with_reducible refine hK _ ?_; clear hK K)))
    | omega)
      · refine ⟨j - 1, by omega, by omega, ?_⟩
        have e1 := comp_bit (crcN s) (j - 1) (by omega) (by omega)
        rw [show j - 1 + 1 = j from by omega] at e1
        have e2 : 2 * (((4294967295 - crcN s) / 2 ^ j : Nat) : Int) + 1 - ((crcN s / 2 ^ (j - 1) % 2 : Nat) : Int) = (((4294967295 - crcN s) / 2 ^ (j - 1) : Nat) : Int) := by omega
        have e3 : (j : Int) - 1 = ((j - 1 : Nat) : Int) := by omega
        simp only [e3]
        (refine SImp.same ?_; simp (disch := omega) only [go_sem, wrap_n, Int.natCast_add, e2])
      · have e0 : j = 0 := by omega
        subst e0
        (refine zF rfl ?_ ?_ ?_ ?_; (iterate 3 (focus ((try simp (disch := omega) only [go_sem, wrap_n, sumN, Nat.pow_zero, Nat.div_one]) <;> (try omega) <;> fail))); (try simp (disch := omega) only [go_sem, wrap_n, sumN, Nat.pow_zero, Nat.div_one, I, B, S, inj, List.cons.injEq, and_true, true_and, and_self]))
end Go.Proofs.YtmpfhalheaeibaaDoor
namespace Go.Proofs.YtmpfhalheaeibaaDoor
set_option linter.unusedVariables false
set_option linter.unusedSimpArgs false
open Go Go.RowKit
set_option maxRecDepth 100000
set_option linter.unusedSimpArgs false
def byteAt (k : Nat) (v : Int) : UInt8 := UInt8.ofNat ((v / 2 ^ (8 * k)) % 256).toNat
def beB : Nat → Int → List UInt8
  | 0, _ => []
  | n + 1, v => byteAt n v :: beB n v
theorem beB_len (v : Int) : ∀ n, (beB n v).length = n
  | 0 => rfl
  | n + 1 => by rw [beB, List.length_cons, beB_len v n]
theorem beB_snoc (v : Int) : ∀ (n j : Nat), j < n → (beB n v).take (n - j) = (beB n v).take (n - (j + 1)) ++ [byteAt j v]
  | 0, j, h => by omega
  | n + 1, j, h => by
    by_cases e : j = n
    · subst e
      rw [show j + 1 - j = 1 from by omega, Nat.sub_self]; rfl
    · rw [beB, show n + 1 - j = (n - j) + 1 from by omega, show n + 1 - (j + 1) = (n - (j + 1)) + 1 from by omega, List.take_succ_cons, List.take_succ_cons, beB_snoc v n j (by omega)]; rfl
theorem u8_wrap (x : Int) : IntKind.u8.wrap x = ((UInt8.ofNat (x % 256).toNat).toNat : Int) := by
  rw [UInt8.toNat_ofNat']
  simp [IntKind.wrap, IntKind.bits, IntKind.signed]; omega
theorem u8_byte (j : Nat) (v : Int) : IntKind.u8.wrap (v / 2 ^ (8 * j)) = ((byteAt j v).toNat : Int) := u8_wrap _
theorem u8_op (v : Int) : IntKind.u8.wrap v = ((byteAt 0 v).toNat : Int) := by rw [← u8_byte 0 v]; simp
def b5 (t : ATxn) : List UInt8 := (beB 8 t.zxid ++ [byteAt 0 t.op]) ++ beB 4 t.session
def b6 (t : ATxn) : List UInt8 := (b5 t ++ beB 4 t.version) ++ beB 4 t.owner
def b7 (t : ATxn) : List UInt8 := (b6 t ++ [byteAt 0 t.path.length]) ++ t.path
theorem bytesOf_c (v : Int) (n : Nat) (hn : n ≤ 8) : acall Tryd.prog [] 79 [I v, I n] (ret (S (beB n v))) := by
  refine acall_of tabOk Tryd.func79 rfl (by kernel_rfl) (by simp [Tryd.ntmps79]) ?_; simp only [Tryd.ntmps79, Tryd.results79, List.toList_toArray, apar, List.length_nil, List.length_cons, Nat.reduceAdd]
  (repeat' first
| (with_reducible refine AR.f ?_)
| refine blkA_x (by decide) ?_
| (with_reducible refine AWP.cond rfl ?_ ?_ <;> intro hc <;> (try simp only [hcs, beq_iff_eq, ge_iff_le, gt_iff_lt] at hc))
| ((first | ((first | (with_reducible first | refine zR ?_ | refine zQ (by decide +kernel) ?_ | refine zD (by decide +kernel) ?_ | refine zE (by decide +kernel) ?_ | refine zG (by decide +kernel) ?_)); intro K hK) | ((first | (with_reducible refine aunder_i ?_ ?_ <;> intro hg) | with_reducible intro hg) <;> (first | (exfalso; simp at hg; done) | (have hg' := hg; (try simp only [hcs, beq_iff_eq, ge_iff_le, gt_iff_lt] at hg'); (try simp only [hg]))))) <;> (try simp (disch := omega) only [go_sem, wrap_n]) <;> (repeat' with_reducible refine And.intro ?_ ?_) <;> (try (with_reducible refine hK _ ?_; clear hK K)))
| omega)
  refine AWP.loopB (ι := Nat) (fun j => j ≤ n) (fun j => n - j) [] (fun j => [(0, I (v / 2 ^ (8 * j))), (1, I ((n - j : Nat) : Int)), (5, S (beB j v))]) (fun j => []) 0 ?_ ?_ ?_
  · omega
  · simp only [go_sem, Nat.mul_zero, Nat.sub_zero, beB, Int.pow_zero, Int.ediv_one]; (refine SImp.same ?_; simp (disch := omega) only [go_sem, wrap_n, Int.natCast_add])
  intro j hj
  have hu : [DV.int IntKind.u8 ((byteAt j v).toNat : Int)] = u8row (byteAt j v) := rfl
  have ok1 : okU8s [[DV.int IntKind.u8 ((byteAt j v).toNat : Int)]] := okU8s_rows [byteAt j v]
  have hdiv : v / 2 ^ (8 * j) / 256 = v / 2 ^ (8 * (j + 1)) := by
    rw [Int.ediv_ediv_of_nonneg (Int.pow_nonneg (by decide)), show (8 * (j + 1)) = 8 * j + 8 from by omega, Int.pow_add]; rfl
  simp only [go_sem]
  (repeat' first
| (with_reducible refine AR.f ?_)
| refine blkA_x (by decide) ?_
| (with_reducible refine AWP.cond rfl ?_ ?_ <;> intro hc <;> (try simp only [hcs, beq_iff_eq, ge_iff_le, gt_iff_lt] at hc))
| ((first | ((first | (with_reducible first | refine zR ?_ | refine zQ (by decide +kernel) ?_ | refine zD (by decide +kernel) ?_ | refine zE (by decide +kernel) ?_ | refine zG (by decide +kernel) ?_)); intro K hK) | ((first | (with_reducible refine aunder_i ?_ ?_ <;> intro hg) | with_reducible intro hg) <;> (first | (exfalso; simp at hg; done) | (have hg' := hg; (try simp only [hcs, beq_iff_eq, ge_iff_le, gt_iff_lt] at hg'); (try simp only [hg]))))) <;> (try simp (disch := omega) only [go_sem, wrap_n, u8_byte, ok1, Int.toNat_natCast, UInt8.ofNat_toNat, hdiv]) <;> (repeat' with_reducible refine And.intro ?_ ?_) <;> (try (with_reducible refine hK _ ?_; clear hK K)))
| omega)
  · rw [beB_len]; omega
  · refine ⟨j + 1, by omega, by omega, ?_⟩
    have hs : ((n - j : Nat) : Int) - 1 = ((n - (j + 1) : Nat) : Int) := by omega
    (refine SImp.frame [] rfl (by intro k hk; first | (simp at hk <;> (simp; omega)) | (simp only [List.mem_cons, List.not_mem_nil, or_false] at hk; simp only [List.length_cons, List.length_nil]; omega)) (by decide) (fun k hk => by first | omega | (rcases k with _ | _ | _ | _ | _ | _ | _ | _ | k <;> first | rfl | omega)) ?_ ?_ <;> simp (disch := omega) only [go_sem, wrap_n, Int.natCast_add, u8_byte, hdiv, beB, hs] <;> (try rfl))
  · rw [show j = n from by omega]
    (refine zF rfl ?_ ?_ ?_ ?_; (iterate 3 (focus ((try simp (disch := omega) only [go_sem, wrap_n]) <;> (try omega) <;> fail))); (try simp (disch := omega) only [go_sem, wrap_n, I, B, S, inj, List.cons.injEq, and_true, true_and, and_self]))
theorem bytesOf_at (v : Int) (n : Nat) (hn : n ≤ 8) (ni : Int) (hi : ni = n) : acall Tryd.prog [] 79 [I v, I ni] (ret (S (beB n v))) := by
  subst hi; exact bytesOf_c v n hn
end Go.Proofs.YtmpfhalheaeibaaDoor
namespace Go.Proofs.YtmpfhalheaeibaaDoor
set_option linter.unusedVariables false
set_option linter.unusedSimpArgs false
open Go Go.RowKit
set_option maxRecDepth 100000
set_option linter.unusedSimpArgs false
def statL (n : ANode) : List Int := [n.stat.czxid, n.stat.mzxid, n.stat.pzxid, n.stat.version, n.stat.cversion, n.stat.owner, n.stat.kids]
def beL (k : Nat) (l : List Int) : List UInt8 := l.flatMap (beB k)
theorem beL_len (k : Nat) (l : List Int) : (beL k l).length = k * l.length := by
  unfold beL; induction l with
  | nil => rfl
  | cons x l ih => rw [List.flatMap_cons, List.length_append, ih, beB_len, List.length_cons, Nat.mul_add]; omega
theorem take_snocD {α : Type} (l : List α) (i : Nat) (d : α) (h : i < l.length) : l.take (i + 1) = l.take i ++ [l.getD i d] := by
  rw [List.take_add_one, List.getElem?_eq_getElem h]; simp [List.getD_eq_getElem?_getD, h]
theorem beL_nil (k : Nat) : beL k [] = [] := rfl
theorem beL_snoc (k : Nat) (l : List Int) (i : Nat) (h : i < l.length) : beL k (l.take (i + 1)) = beL k (l.take i) ++ beB k (l.getD i default) := by
  unfold beL; rw [take_snocD l i default h, List.flatMap_append]; simp
def nodeB (n : ANode) : List UInt8 := (([byteAt 0 n.path.length] ++ n.path) ++ beB 2 n.data.length) ++ n.data
def recB (n : ANode) : List UInt8 := nodeB n ++ beL 8 (statL n)
def recsB (l : List ANode) : List UInt8 := l.flatMap recB
theorem recsB_nil : recsB [] = [] := rfl
theorem recsB_snoc (l : List ANode) (i : Nat) (h : i < l.length) : recsB (l.take (i + 1)) = recsB (l.take i) ++ recB (l.getD i default) := by
  unfold recsB; rw [take_snocD l i default h, List.flatMap_append]; simp
theorem nodeB_len (n : ANode) : (nodeB n).length = 3 + n.path.length + n.data.length := by unfold nodeB; simp only [List.length_append, beB_len, List.length_cons, List.length_nil]; omega
theorem recB_len (n : ANode) : (recB n).length = 59 + n.path.length + n.data.length := by unfold recB; rw [List.length_append, nodeB_len, beL_len]; simp [statL]; omega
def s2B (t : ATree) : List UInt8 := [83] ++ beB 8 t.zxid ++ beB 4 t.sessions.length
def s4B (t : ATree) : List UInt8 := s2B t ++ beL 4 t.sessions ++ beB 4 t.nodes.length
def allB (t : ATree) : List UInt8 := s4B t ++ recsB t.nodes
def snapW (t : ATree) : List UInt8 × Int := if goodTr t = true then (allB t ++ beB 4 (sumN (allB t)), 0) else ([], 3)
theorem s2B_len (t : ATree) : (s2B t).length = 13 := by simp [s2B, beB_len]
theorem s4B_len (t : ATree) : (s4B t).length = 17 + 4 * t.sessions.length := by unfold s4B; simp only [List.length_append, s2B_len, beL_len, beB_len]; omega
def smallT (t : ATree) : Prop := t.nodes.length ≤ 1048576 ∧ t.sessions.length ≤ 1048576 ∧ ∀ x, x ∈ t.nodes → x.path.length ≤ 1048576 ∧ x.data.length ≤ 1048576
theorem recsB_le {l : List ANode} (h : ∀ x, x ∈ l → x.path.length ≤ 1048576 ∧ x.data.length ≤ 1048576) : (recsB l).length ≤ l.length * 2097211 := by
  unfold recsB; induction l with
  | nil => exact Nat.zero_le _
  | cons x l ih =>
    have h1 := h x (List.mem_cons_self ..)
    have h2 := ih fun y hy => h y (List.mem_cons_of_mem _ hy)
    rw [List.flatMap_cons, List.length_append, recB_len, List.length_cons]; omega
theorem recsB_small {t : ATree} (h : smallT t) (k : Nat) (hk : k ≤ t.nodes.length) : (recsB (t.nodes.take k)).length ≤ 2199085580288 := by
  have h1 := h.1
  have := recsB_le (l := t.nodes.take k) fun x hx => h.2.2 x (List.mem_of_mem_take hx)
  rw [List.length_take] at this; omega
theorem allB_small {t : ATree} (h : smallT t) : (allB t).length ≤ 4398046511104 := by
  have h1 := recsB_small h t.nodes.length (Nat.le_refl _)
  have h2 := h.2.1
  rw [List.take_length] at h1
  unfold allB; rw [List.length_append, s4B_len]; omega
def posB (t : ATree) (k : Nat) : Nat := (s4B t ++ recsB (t.nodes.take k)).length
theorem posB_zero (t : ATree) : posB t 0 = 17 + 4 * t.sessions.length := by unfold posB; rw [List.length_append, s4B_len, List.take_zero, recsB_nil]; rfl
theorem posB_succ (t : ATree) (k : Nat) (h : k < t.nodes.length) : posB t (k + 1) = posB t k + (59 + (t.nodes.getD k default).path.length + (t.nodes.getD k default).data.length) := by
  unfold posB; rw [recsB_snoc _ _ h]; simp only [List.length_append, recB_len]; omega
theorem posB_all (t : ATree) : posB t t.nodes.length = (allB t).length := by unfold posB; rw [List.take_length]; rfl
theorem posB_small {t : ATree} (h : smallT t) (k : Nat) (hk : k ≤ t.nodes.length) : posB t k ≤ 2199093968896 := by
  have h1 := recsB_small h k hk
  have h2 := h.2.1
  unfold posB; rw [List.length_append, s4B_len]; omega
theorem snap_put_c (l : List UInt8) (v : Int) (n : Nat) (hn : n ≤ 8) (hl : l.length ≤ 8796093022208) : acall Tryd.prog [.rows 1 (l.map u8row)] 76 [.osl 0 1 0 l.length, I v, I n] (outs (.osl 1 1 0 (l.length + n)) [.dead, .rows 1 ((l ++ beB n v).map u8row)]) := by
  refine acall_of tabOk Tryd.func76 rfl (by kernel_rfl) (by simp [Tryd.ntmps76]) ?_; simp only [Tryd.ntmps76, Tryd.results76, List.toList_toArray, apar, List.length_nil, List.length_cons, Nat.reduceAdd]
  refine AWP.weaken (SImp.moveOwn 0 rfl rfl (by simp)) ?_
  simp only [go_sem]
  (repeat' first
| (with_reducible refine AR.f ?_)
| refine blkA_x (by decide) ?_
| (with_reducible refine AWP.cond rfl ?_ ?_ <;> intro hc <;> (try simp only [hcs, beq_iff_eq, ge_iff_le, gt_iff_lt] at hc))
| ((first | ((first | (with_reducible first | refine zR ?_ | refine zQ (by decide +kernel) ?_ | refine zD (by decide +kernel) ?_ | refine zE (by decide +kernel) ?_ | refine zG (by decide +kernel) ?_)); intro K hK) | ((first | (with_reducible refine aunder_i ?_ ?_ <;> intro hg) | with_reducible intro hg) <;> (first | (exfalso; simp at hg; done) | (have hg' := hg; (try simp only [hcs, beq_iff_eq, ge_iff_le, gt_iff_lt] at hg'); (try simp only [hg]))))) <;> (try simp (disch := omega) only [go_sem, wrap_n]) <;> (repeat' with_reducible refine And.intro ?_ ?_) <;> (try (with_reducible refine hK _ ?_; clear hK K)))
| omega)
  refine AWP.loopB (ι := Nat) (fun j => j ≤ n) (fun j => j) [1] (fun j => [(0, .osl 1 1 0 (l.length + (n - j))), (7, I ((j : Int) - 1))]) (fun j => [.dead, .rows 1 ((l ++ (beB n v).take (n - j)).map u8row)]) n ?_ ?_ ?_
  · omega
  · simp only [go_sem, Nat.sub_self, List.take_zero, List.append_nil, Nat.add_zero]; (refine SImp.same ?_; simp (disch := omega) only [go_sem, wrap_n, Int.natCast_add])
  intro j hj
  rcases j with _ | j
  · simp only [go_sem]
    (repeat' first
  | (with_reducible refine AR.f ?_)
  | refine blkA_x (by decide) ?_
  | (with_reducible refine AWP.cond rfl ?_ ?_ <;> intro hc <;> (try simp only [hcs, beq_iff_eq, ge_iff_le, gt_iff_lt] at hc))
  | ((first | ((first | (with_reducible first | refine zR ?_ | refine zQ (by decide +kernel) ?_ | refine zD (by decide +kernel) ?_ | refine zE (by decide +kernel) ?_ | refine zG (by decide +kernel) ?_)); intro K hK) | ((first | (with_reducible refine aunder_i ?_ ?_ <;> intro hg) | with_reducible intro hg) <;> (first | (exfalso; simp at hg; done) | (have hg' := hg; (try simp only [hcs, beq_iff_eq, ge_iff_le, gt_iff_lt] at hg'); (try simp only [hg]))))) <;> (try simp (disch := omega) only [go_sem, wrap_n]) <;> (repeat' with_reducible refine And.intro ?_ ?_) <;> (try (with_reducible refine hK _ ?_; clear hK K)))
  | omega)
    rw [Nat.sub_zero, List.take_of_length_le (by rw [beB_len]; omega)]
    (refine aend_out (by first | exact .inl rfl | exact .inr rfl) ?_ ?_; (focus ((try simp (disch := omega) only [go_sem, wrap_n]) <;> fail)); simp (disch := omega) only [go_sem, wrap_n, true_and]; refine AOut.of_simp ?_ (AOut.same ⟨rfl, rfl⟩); refine SImp.frame [0, 1] rfl (by intro k hk; first | (simp at hk <;> (simp; omega)) | (simp only [List.mem_cons, List.not_mem_nil, or_false] at hk; simp only [List.length_cons, List.length_nil]; omega)) (by decide) (fun k hk => by first | omega | (rcases k with _ | _ | _ | _ | _ | _ | _ | _ | k <;> first | rfl | omega)) ?_ ?_ <;> simp (disch := omega) only [go_sem, wrap_n, true_or, or_true, true_and])
  rw [show ((j + 1 : Nat) : Int) - 1 = j from by omega]
  simp only [go_sem]
  have hw : IntKind.u64.wrap (8 * (j : Int)) = 8 * j := by simp [IntKind.wrap, IntKind.bits, IntKind.signed]; omega
  have hw2 : (8 * (j : Int)).toNat = 8 * j := by omega
  have hle : (l ++ (beB n v).take (n - (j + 1))).length = l.length + (n - (j + 1)) := by rw [List.length_append, List.length_take, beB_len]; omega
  have hk : List.take (l.length + (n - (j + 1))) ((l ++ (beB n v).take (n - (j + 1))).map u8row) = (l ++ (beB n v).take (n - (j + 1))).map u8row := List.take_of_length_le (by rw [List.length_map]; omega)
  (repeat' first
| (with_reducible refine AR.f ?_)
| refine blkA_x (by decide) ?_
| (with_reducible refine AWP.cond rfl ?_ ?_ <;> intro hc <;> (try simp only [hcs, beq_iff_eq, ge_iff_le, gt_iff_lt] at hc))
| ((first | ((first | (with_reducible first | refine zR ?_ | refine zQ (by decide +kernel) ?_ | refine zD (by decide +kernel) ?_ | refine zE (by decide +kernel) ?_ | refine zG (by decide +kernel) ?_)); intro K hK) | ((first | (with_reducible refine aunder_i ?_ ?_ <;> intro hg) | with_reducible intro hg) <;> (first | (exfalso; simp at hg; done) | (have hg' := hg; (try simp only [hcs, beq_iff_eq, ge_iff_le, gt_iff_lt] at hg'); (try simp only [hg]))))) <;> (try simp (disch := omega) only [go_sem, wrap_n, hw, hw2, hk]) <;> (repeat' with_reducible refine And.intro ?_ ?_) <;> (try (with_reducible refine hK _ ?_; clear hK K)))
| omega)
  · simp [beB_len]
  refine ⟨j, by omega, by omega, ?_⟩
  rw [beB_snoc v n j (by omega), ← List.append_assoc, List.map_append (l₁ := l ++ _), show n - j = n - (j + 1) + 1 from by omega]
  (refine SImp.frame [0, 3] rfl (by intro k hk; first | (simp at hk <;> (simp; omega)) | (simp only [List.mem_cons, List.not_mem_nil, or_false] at hk; simp only [List.length_cons, List.length_nil]; omega)) (by decide) (fun k hk => by first | omega | (rcases k with _ | _ | _ | _ | _ | _ | _ | _ | k <;> first | rfl | omega)) ?_ ?_ <;> simp (disch := omega) only [go_sem, wrap_n, Int.natCast_add, hw, hw2, hk, u8_byte, List.map_cons, List.map_nil, u8row, Nat.add_assoc] <;> (try rfl))
theorem snap_put_at (l : List UInt8) (v : Int) (n m k : Nat) (ni : Int) (hn : n ≤ 8) (hl : l.length ≤ 8796093022208) (hm : l.length = m) (hk : m + n = k) (hi : ni = n) : acall Tryd.prog [.rows 1 (l.map u8row)] 76 [.osl 0 1 0 m, I v, I ni] (outs (.osl 1 1 0 k) [.dead, .rows 1 ((l ++ beB n v).map u8row)]) := by
  subst hm; subst hk; subst hi; exact snap_put_c l v n hn hl
theorem statL_get (x : ANode) (j : Nat) (h : j < 7) : List.getD [S x.path, S x.data, I x.stat.czxid, I x.stat.mzxid, I x.stat.pzxid, I x.stat.version, I x.stat.cversion, I x.stat.owner, I x.stat.kids] (2 + j) .any = I ((statL x).getD j default) := by
  rcases j with _ | _ | _ | _ | _ | _ | _ | j <;> first | rfl | omega
theorem ptrs_get (k o j : Nat) (h : j < 7) : List.getD [AV.ptr k o, .ptr k (o + 1), .ptr k (o + 2), .ptr k (o + 3), .ptr k (o + 4), .ptr k (o + 5), .ptr k (o + 6)] j .any = .ptr k (o + j) := by
  rcases j with _ | _ | _ | _ | _ | _ | _ | j <;> first | rfl | omega
theorem tkU (l : List UInt8) (n : Nat) (h : l.length ≤ n) : List.take n (l.map u8row) = l.map u8row := List.take_of_length_le (by rw [List.length_map]; exact h)
set_option maxHeartbeats 8000000 in
theorem snapWrite_c (t : ATree) (hw : t.wf) (hs : smallT t) : acall Tryd.prog [] 26 [t.av] (ret (.tup [S (snapW t).1, I (snapW t).2])) := by
  by_cases g : goodTr t = true
  case neg =>
    unfold snapW
    rw [if_neg g]
    refine acall_of tabOk Tryd.func26 rfl (by kernel_rfl) (by simp [Tryd.ntmps26]) ?_; simp only [Tryd.ntmps26, Tryd.results26, List.toList_toArray, apar, List.length_nil, List.length_cons, Nat.reduceAdd]
    (repeat' first
  | (with_reducible refine AR.f ?_)
  | refine blkA_x (by decide) ?_
  | (with_reducible refine AWP.cond rfl ?_ ?_ <;> intro hc <;> (try simp only [hcs, beq_iff_eq, ge_iff_le, gt_iff_lt] at hc))
  | ((first | ((first | (with_reducible first | refine zR ?_ | refine zQ (by decide +kernel) ?_ | refine zD (by decide +kernel) ?_ | refine zE (by decide +kernel) ?_ | refine zG (by decide +kernel) ?_)); intro K hK) | ((first | refine zA ((tgood_c t hw).re (congrArg B (eq_false_of_ne_true g))) ?_ ?_ ?_ ?_ ?_); (focus exact rfl); (focus exact rfl); iterate 2 (focus ((try simp (disch := omega) only [go_sem, wrap_n]) <;> (try omega) <;> fail))) | ((first | refine zN ((tgood_c t hw).re (congrArg B (eq_false_of_ne_true g))) rfl ?_ ?_); (focus ((try simp (disch := omega) only [go_sem, wrap_n]) <;> (try omega) <;> fail))) | (first | ((first | refine zX ((tgood_c t hw).re (congrArg B (eq_false_of_ne_true g))) rfl ?_ ?_ | refine acallH_anyx ((tgood_c t hw).re (congrArg B (eq_false_of_ne_true g))) ?_ ?_); (focus ((try simp (disch := omega) only [go_sem, wrap_n]) <;> (try omega) <;> fail)))) | ((first | (with_reducible refine aunder_i ?_ ?_ <;> intro hg) | with_reducible intro hg) <;> (first | (exfalso; simp at hg; done) | (have hg' := hg; (try simp only [hcs, beq_iff_eq, ge_iff_le, gt_iff_lt] at hg'); (try simp only [hg]))))) <;> (try simp (disch := omega) only [go_sem, wrap_n]) <;> (repeat' with_reducible refine And.intro ?_ ?_) <;> (try (with_reducible refine hK _ ?_; clear hK K)))
  | omega)
    all_goals (refine zF rfl ?_ ?_ ?_ ?_; (iterate 3 (focus ((try simp (disch := omega) only [go_sem, wrap_n]) <;> (try omega) <;> fail))); (try simp (disch := omega) only [go_sem, wrap_n, I, B, S, inj, List.cons.injEq, and_true, true_and, and_self]))
  unfold snapW
  rw [if_pos g]
  have h83 : (((83 : UInt8).toNat : Nat) : Int) = 83 := rfl
  have hsm := allB_small hs
  have hsum := sum_c (allB t) (by unfold okS; omega)
  refine acall_of tabOk Tryd.func26 rfl (by kernel_rfl) (by simp [Tryd.ntmps26]) ?_; simp only [Tryd.ntmps26, Tryd.results26, List.toList_toArray, apar, List.length_nil, List.length_cons, Nat.reduceAdd]
  (repeat' first
| (with_reducible refine AR.f ?_)
| refine blkA_x (by decide) ?_
| (with_reducible refine AWP.cond rfl ?_ ?_ <;> intro hc <;> (try simp only [hcs, beq_iff_eq, ge_iff_le, gt_iff_lt] at hc))
| ((first | ((first | (with_reducible first | refine zR ?_ | refine zQ (by decide +kernel) ?_ | refine zD (by decide +kernel) ?_ | refine zE (by decide +kernel) ?_ | refine zG (by decide +kernel) ?_)); intro K hK) | ((first | refine zA ((tgood_c t hw).re (congrArg B g)) ?_ ?_ ?_ ?_ ?_); (focus exact rfl); (focus exact rfl); iterate 2 (focus ((try simp (disch := omega) only [go_sem, wrap_n, List.map_cons, List.map_nil, h83, u8row]) <;> (try omega) <;> fail))) | ((first | refine zN ((tgood_c t hw).re (congrArg B g)) rfl ?_ ?_); (focus ((try simp (disch := omega) only [go_sem, wrap_n, List.map_cons, List.map_nil, h83, u8row]) <;> (try omega) <;> fail))) | (first | ((first | refine zX ((tgood_c t hw).re (congrArg B g)) rfl ?_ ?_ | refine acallH_anyx ((tgood_c t hw).re (congrArg B g)) ?_ ?_); (focus ((try simp (disch := omega) only [go_sem, wrap_n, List.map_cons, List.map_nil, h83, u8row]) <;> (try omega) <;> fail)))) | (refine acallH_own (snap_put_at [83] t.zxid 8 1 9 8 (by decide) (by decide) rfl rfl rfl) ?_ ?_ ?_; (focus ((try simp (disch := omega) only [inj, List.cons.injEq, and_self, List.nodup_cons, List.not_mem_nil, List.mem_cons, not_false_eq_true, List.nodup_nil, go_sem, wrap_n, List.map_cons, List.map_nil, h83, u8row]) <;> (try omega) <;> fail)); (focus ((try simp (disch := omega) only [inj, List.cons.injEq, and_self, List.nodup_cons, List.not_mem_nil, List.mem_cons, not_false_eq_true, List.nodup_nil, go_sem, wrap_n, List.map_cons, List.map_nil, h83, u8row]) <;> (try omega) <;> (try decide) <;> fail))) | (refine acallH_own (snap_put_at ([83] ++ beB 8 t.zxid) t.sessions.length 4 9 13 4 (by decide) (by simp [beB_len]) (by simp [beB_len]) rfl rfl) ?_ ?_ ?_; (focus ((try simp (disch := omega) only [inj, List.cons.injEq, and_self, List.nodup_cons, List.not_mem_nil, List.mem_cons, not_false_eq_true, List.nodup_nil, go_sem, wrap_n, List.map_cons, List.map_nil, h83, u8row]) <;> (try omega) <;> fail)); (focus ((try simp (disch := omega) only [inj, List.cons.injEq, and_self, List.nodup_cons, List.not_mem_nil, List.mem_cons, not_false_eq_true, List.nodup_nil, go_sem, wrap_n, List.map_cons, List.map_nil, h83, u8row]) <;> (try omega) <;> (try decide) <;> fail))) | ((first | (with_reducible refine aunder_i ?_ ?_ <;> intro hg) | with_reducible intro hg) <;> (first | (exfalso; simp at hg; done) | (have hg' := hg; (try simp only [hcs, beq_iff_eq, ge_iff_le, gt_iff_lt] at hg'); (try simp only [hg]))))) <;> (try simp (disch := omega) only [go_sem, wrap_n, List.map_cons, List.map_nil, h83, u8row]) <;> (repeat' with_reducible refine And.intro ?_ ?_) <;> (try (with_reducible refine hK _ ?_; clear hK K)))
| omega)
  refine AWP.loopB (ι := Nat) (fun k => k ≤ t.sessions.length) (fun k => t.sessions.length - k) [1, 24, 25] (fun k => [(4, .osl 1 1 0 (13 + 4 * k)), (26, I k)]) (fun k => [.cells [I t.zxid, .d (.sl 9 (t.nodes.map ANode.row)), .d (.sl 1 (t.sessions.map irow))], .rows 1 ((s2B t ++ beL 4 (t.sessions.take k)).map u8row)]) 0 ?_ ?_ ?_
  · omega
  · simp only [go_sem]; (refine SImp.frame [0, 3] rfl (by intro k hk; first | (simp at hk <;> (simp; omega)) | (simp only [List.mem_cons, List.not_mem_nil, or_false] at hk; simp only [List.length_cons, List.length_nil]; omega)) (by decide) (fun k hk => by first | omega | (rcases k with _ | _ | _ | _ | _ | _ | _ | _ | k <;> first | rfl | omega)) ?_ ?_ <;> simp (disch := omega) only [go_sem, wrap_n, Int.natCast_add, s2B, beL_nil, List.map_cons, List.map_nil, u8row, h83] <;> (try rfl))
  intro k hk
  have hS := hs.2.1
  have hl2 : (s2B t ++ beL 4 (t.sessions.take k)).length = 13 + 4 * k := by rw [List.length_append, s2B_len, beL_len, List.length_take]; omega
  simp only [go_sem]
  by_cases hk2 : k < t.sessions.length
  · (repeat' first
  | (with_reducible refine AR.f ?_)
  | refine blkA_x (by decide) ?_
  | (with_reducible refine AWP.cond rfl ?_ ?_ <;> intro hc <;> (try simp only [hcs, beq_iff_eq, ge_iff_le, gt_iff_lt] at hc))
  | ((first | ((first | (with_reducible first | refine zR ?_ | refine zQ (by decide +kernel) ?_ | refine zD (by decide +kernel) ?_ | refine zE (by decide +kernel) ?_ | refine zG (by decide +kernel) ?_)); intro K hK) | (refine acallH_own (snap_put_at (s2B t ++ beL 4 (t.sessions.take k)) (t.sessions.getD k default) 4 (13 + 4 * k) (13 + 4 * k + 4) 4 (by decide) (by omega) hl2 rfl rfl) ?_ ?_ ?_; (focus ((try simp (disch := omega) only [inj, List.cons.injEq, and_self, List.nodup_cons, List.not_mem_nil, List.mem_cons, not_false_eq_true, List.nodup_nil, go_sem, wrap_n]) <;> (try omega) <;> fail)); (focus ((try simp (disch := omega) only [inj, List.cons.injEq, and_self, List.nodup_cons, List.not_mem_nil, List.mem_cons, not_false_eq_true, List.nodup_nil, go_sem, wrap_n]) <;> (try omega) <;> (try decide) <;> fail))) | ((first | (with_reducible refine aunder_i ?_ ?_ <;> intro hg) | with_reducible intro hg) <;> (first | (exfalso; simp at hg; done) | (have hg' := hg; (try simp only [hcs, beq_iff_eq, ge_iff_le, gt_iff_lt] at hg'); (try simp only [hg]))))) <;> (try simp (disch := omega) only [go_sem, wrap_n]) <;> (repeat' with_reducible refine And.intro ?_ ?_) <;> (try (with_reducible refine hK _ ?_; clear hK K)))
  | omega)
    refine ⟨k + 1, by omega, by omega, ?_⟩
    rw [beL_snoc 4 t.sessions k hk2, show 13 + 4 * (k + 1) = 13 + 4 * k + 4 from by omega, ← List.append_assoc]
    (refine SImp.frame [0, 2] rfl (by intro k hk; first | (simp at hk <;> (simp; omega)) | (simp only [List.mem_cons, List.not_mem_nil, or_false] at hk; simp only [List.length_cons, List.length_nil]; omega)) (by decide) (fun k hk => by first | omega | (rcases k with _ | _ | _ | _ | _ | _ | _ | _ | k <;> first | rfl | omega)) ?_ ?_ <;> simp (disch := omega) only [go_sem, wrap_n, Int.natCast_add, true_and] <;> (try rfl))
  have hke : k = t.sessions.length := by omega
  subst hke
  rw [List.take_length] at hl2 ⊢
  (repeat' first
| (with_reducible refine AR.f ?_)
| refine blkA_x (by decide) ?_
| (with_reducible refine AWP.cond rfl ?_ ?_ <;> intro hc <;> (try simp only [hcs, beq_iff_eq, ge_iff_le, gt_iff_lt] at hc))
| ((first | ((first | (with_reducible first | refine zR ?_ | refine zQ (by decide +kernel) ?_ | refine zD (by decide +kernel) ?_ | refine zE (by decide +kernel) ?_ | refine zG (by decide +kernel) ?_)); intro K hK) | (refine acallH_own (snap_put_at (s2B t ++ beL 4 t.sessions) t.nodes.length 4 (13 + 4 * t.sessions.length) (17 + 4 * t.sessions.length) 4 (by decide) (by omega) hl2 (by omega) rfl) ?_ ?_ ?_; (focus ((try simp (disch := omega) only [inj, List.cons.injEq, and_self, List.nodup_cons, List.not_mem_nil, List.mem_cons, not_false_eq_true, List.nodup_nil, go_sem, wrap_n]) <;> (try omega) <;> fail)); (focus ((try simp (disch := omega) only [inj, List.cons.injEq, and_self, List.nodup_cons, List.not_mem_nil, List.mem_cons, not_false_eq_true, List.nodup_nil, go_sem, wrap_n]) <;> (try omega) <;> (try decide) <;> fail))) | ((first | (with_reducible refine aunder_i ?_ ?_ <;> intro hg) | with_reducible intro hg) <;> (first | (exfalso; simp at hg; done) | (have hg' := hg; (try simp only [hcs, beq_iff_eq, ge_iff_le, gt_iff_lt] at hg'); (try simp only [hg]))))) <;> (try simp (disch := omega) only [go_sem, wrap_n]) <;> (repeat' with_reducible refine And.intro ?_ ?_) <;> (try (with_reducible refine hK _ ?_; clear hK K)))
| omega)
  refine AWP.loopB (ι := Nat) (fun k => k ≤ t.nodes.length) (fun k => t.nodes.length - k) [40, 41] (fun k => [(4, .osl 1 1 0 (posB t k)), (42, I k)]) (fun k => [.cells [I t.zxid, .d (.sl 9 (t.nodes.map ANode.row)), .d (.sl 1 (t.sessions.map irow))], .rows 1 ((s4B t ++ recsB (t.nodes.take k)).map u8row)]) 0 ?_ ?_ ?_
  · omega
  · simp only [go_sem]; (refine SImp.frame [0, 2] rfl (by intro k hk; first | (simp at hk <;> (simp; omega)) | (simp only [List.mem_cons, List.not_mem_nil, or_false] at hk; simp only [List.length_cons, List.length_nil]; omega)) (by decide) (fun k hk => by first | omega | (rcases k with _ | _ | _ | _ | _ | _ | _ | _ | k <;> first | rfl | omega)) ?_ ?_ <;> simp (disch := omega) only [go_sem, wrap_n, Int.natCast_add, s4B, recsB_nil, posB_zero] <;> (try rfl))
  intro k hk
  have hN := hs.1
  have hb0 := posB_small hs k hk
  simp only [go_sem]
  by_cases hk3 : k < t.nodes.length
  case neg =>
    have hke : k = t.nodes.length := by omega
    subst hke
    rw [List.take_length, show s4B t ++ recsB t.nodes = allB t from rfl]
    have hpl := posB_all t
    have htk := tkU (allB t) _ (Nat.le_of_eq hpl.symm)
    have hl4 : (allB t ++ beB 4 (sumN (allB t))).length = posB t t.nodes.length + 4 := by rw [List.length_append, beB_len, hpl]
    have htk2 := tkU (allB t ++ beB 4 (sumN (allB t))) _ (Nat.le_of_eq hl4)
    (repeat' first
  | (with_reducible refine AR.f ?_)
  | refine blkA_x (by decide) ?_
  | (with_reducible refine AWP.cond rfl ?_ ?_ <;> intro hc <;> (try simp only [hcs, beq_iff_eq, ge_iff_le, gt_iff_lt] at hc))
  | ((first | ((first | (with_reducible first | refine zR ?_ | refine zQ (by decide +kernel) ?_ | refine zD (by decide +kernel) ?_ | refine zE (by decide +kernel) ?_ | refine zG (by decide +kernel) ?_)); intro K hK) | ((first | refine zA hsum ?_ ?_ ?_ ?_ ?_); (focus exact rfl); (focus exact rfl); iterate 2 (focus ((try simp (disch := omega) only [go_sem, wrap_n, htk, htk2]) <;> (try omega) <;> fail))) | ((first | refine zN hsum rfl ?_ ?_); (focus ((try simp (disch := omega) only [go_sem, wrap_n, htk, htk2]) <;> (try omega) <;> fail))) | (first | ((first | refine zX hsum rfl ?_ ?_ | refine acallH_anyx hsum ?_ ?_); (focus ((try simp (disch := omega) only [go_sem, wrap_n, htk, htk2]) <;> (try omega) <;> fail)))) | (refine acallH_own (snap_put_at (allB t) (sumN (allB t)) 4 (posB t t.nodes.length) (posB t t.nodes.length + 4) 4 (by decide) (by omega) hpl.symm rfl rfl) ?_ ?_ ?_; (focus ((try simp (disch := omega) only [inj, List.cons.injEq, and_self, List.nodup_cons, List.not_mem_nil, List.mem_cons, not_false_eq_true, List.nodup_nil, go_sem, wrap_n, htk, htk2]) <;> (try omega) <;> fail)); (focus ((try simp (disch := omega) only [inj, List.cons.injEq, and_self, List.nodup_cons, List.not_mem_nil, List.mem_cons, not_false_eq_true, List.nodup_nil, go_sem, wrap_n, htk, htk2]) <;> (try omega) <;> (try decide) <;> fail))) | ((first | (with_reducible refine aunder_i ?_ ?_ <;> intro hg) | with_reducible intro hg) <;> (first | (exfalso; simp at hg; done) | (have hg' := hg; (try simp only [hcs, beq_iff_eq, ge_iff_le, gt_iff_lt] at hg'); (try simp only [hg]))))) <;> (try simp (disch := omega) only [go_sem, wrap_n, htk, htk2]) <;> (repeat' with_reducible refine And.intro ?_ ?_) <;> (try (with_reducible refine hK _ ?_; clear hK K)))
  | omega)
    · rw [beB_len, hpl]; omega
    · (refine zF rfl ?_ ?_ ?_ ?_; (iterate 3 (focus ((try simp (disch := omega) only [go_sem, wrap_n]) <;> (try omega) <;> fail))); (try simp (disch := omega) only [go_sem, wrap_n, I, B, S, inj, List.cons.injEq, and_true, true_and, and_self]))
  have hxm := mem_getD t.nodes default hk3
  have hp1 := posB_succ t k hk3
  have hb1 := recsB_snoc t.nodes k hk3
  have hl : (s4B t ++ recsB (t.nodes.take k)).length = posB t k := rfl
  generalize hbe : s4B t ++ recsB (t.nodes.take k) = b at hl ⊢
  obtain ⟨hx1, hx2⟩ := hs.2.2 _ hxm
  (repeat' first
| (with_reducible refine AR.f ?_)
| refine blkA_x (by decide) ?_
| (with_reducible refine AWP.cond rfl ?_ ?_ <;> intro hc <;> (try simp only [hcs, beq_iff_eq, ge_iff_le, gt_iff_lt] at hc))
| ((first | ((first | (with_reducible first | refine zR ?_ | refine zQ (by decide +kernel) ?_ | refine zD (by decide +kernel) ?_ | refine zE (by decide +kernel) ?_ | refine zG (by decide +kernel) ?_)); intro K hK) | ((first | (with_reducible refine aunder_i ?_ ?_ <;> intro hg) | with_reducible intro hg) <;> (first | (exfalso; simp at hg; done) | (have hg' := hg; (try simp only [hcs, beq_iff_eq, ge_iff_le, gt_iff_lt] at hg'); (try simp only [hg]))))) <;> (try simp (disch := omega) only [go_sem, wrap_n]) <;> (repeat' with_reducible refine And.intro ?_ ?_) <;> (try (with_reducible refine hK _ ?_; clear hK K)))
| omega)
  generalize t.nodes.getD k default = x at hx1 hx2 hxm hp1 hb1 ⊢
  generalize posB t k = m at hl hb0 hp1 ⊢
  have htk1 : List.take (m + 1) (List.map u8row b ++ [[DV.int IntKind.u8 ((byteAt 0 x.path.length).toNat : Int)]]) = List.map u8row b ++ [[DV.int IntKind.u8 ((byteAt 0 x.path.length).toNat : Int)]] := List.take_of_length_le (by simp [hl])
  have hlp : (b ++ byteAt 0 x.path.length :: x.path).length = m + 1 + x.path.length := by rw [List.length_append, List.length_cons, hl]; omega
  have hbn : List.map u8row (b ++ nodeB x) = List.take (m + 3 + x.path.length) (List.map u8row ((b ++ byteAt 0 x.path.length :: x.path) ++ beB 2 x.data.length)) ++ List.map u8row x.data := by
    rw [tkU _ _ (by rw [List.length_append, hlp, beB_len]; omega), ← List.map_append]; unfold nodeB; simp only [List.append_assoc, List.cons_append, List.nil_append]
  refine AWP.meetB [40, 41, 42] [(4, .osl 2 1 0 (m + 1 + x.path.length)), (8, .ptr 1 0)] [.cells [I t.zxid, .d (.sl 9 (t.nodes.map ANode.row)), .d (.sl 1 (t.sessions.map irow))], .cells (x.row.map .d), .rows 1 ((b ++ ([byteAt 0 x.path.length] ++ x.path)).map u8row)] ?_ ?_
  · (repeat' first
  | (with_reducible refine AR.f ?_)
  | refine blkA_x (by decide) ?_
  | (with_reducible refine AWP.cond rfl ?_ ?_ <;> intro hc <;> (try simp only [hcs, beq_iff_eq, ge_iff_le, gt_iff_lt] at hc))
  | ((first | ((first | refine zP ((Plan.takes [0, 1, 2, 3, 7] (.fork 4 (.fork 5 (.fork 6 (Plan.takes [8, 9, 10] .done) 8 (Plan.takes [6, 9, 10] .done)) 8 (Plan.takes [5, 6, 9, 10] .done)) 8 (Plan.takes [4, 5, 6, 9, 10] .done)))) (by decide +kernel) ?_ | (with_reducible first | refine zR ?_ | refine zQ (by decide +kernel) ?_ | refine zD (by decide +kernel) ?_ | refine zE (by decide +kernel) ?_ | refine zG (by decide +kernel) ?_)); intro K hK) | ((first | (with_reducible refine aunder_i ?_ ?_ <;> intro hg) | with_reducible intro hg) <;> (first | (exfalso; simp at hg; done) | (have hg' := hg; (try simp only [hcs, beq_iff_eq, ge_iff_le, gt_iff_lt] at hg'); (try simp only [hg]))))) <;> (try simp (disch := omega) only [go_sem, wrap_n, tkU _ _ (Nat.le_of_eq hl), u8_op]) <;> (repeat' with_reducible refine And.intro ?_ ?_) <;> (try (with_reducible refine hK _ ?_; clear hK K)))
  | omega)
    all_goals (refine SImp.frame [0, 2, 5] rfl (by intro k hk; first | (simp at hk <;> (simp; omega)) | (simp only [List.mem_cons, List.not_mem_nil, or_false] at hk; simp only [List.length_cons, List.length_nil]; omega)) (by decide) (fun k hk => by first | omega | (rcases k with _ | _ | _ | _ | _ | _ | _ | _ | k <;> first | rfl | omega)) ?_ ?_ <;> simp (disch := omega) only [go_sem, wrap_n, Int.natCast_add, htk1, List.map_append, List.map_cons, List.map_nil, List.append_assoc, u8row, ANode.row] <;> (try rfl))
  simp only [go_sem]
  refine AWP.seq (AWP.meetB [40, 41, 42, 8] [(4, .osl 2 1 0 (m + 3 + x.path.length + x.data.length))] [.cells [I t.zxid, .d (.sl 9 (t.nodes.map ANode.row)), .d (.sl 1 (t.sessions.map irow))], .cells (x.row.map .d), .rows 1 ((b ++ nodeB x).map u8row)] ?_ ?_)
  · (repeat' first
  | (with_reducible refine AR.f ?_)
  | refine blkA_x (by decide) ?_
  | (with_reducible refine AWP.cond rfl ?_ ?_ <;> intro hc <;> (try simp only [hcs, beq_iff_eq, ge_iff_le, gt_iff_lt] at hc))
  | ((first | ((first | refine zP ((Plan.takes [0, 1, 2, 3, 5] (.fork 4 (Plan.takes [6, 7, 8] .done) 6 (Plan.takes [4, 7, 8] .done)))) (by decide +kernel) ?_ | (with_reducible first | refine zR ?_ | refine zQ (by decide +kernel) ?_ | refine zD (by decide +kernel) ?_ | refine zE (by decide +kernel) ?_ | refine zG (by decide +kernel) ?_)); intro K hK) | (refine acallH_own (snap_put_at (b ++ byteAt 0 x.path.length :: x.path) x.data.length 2 (m + 1 + x.path.length) (m + 3 + x.path.length) 2 (by decide) (by rw [hlp]; omega) hlp (by omega) rfl) ?_ ?_ ?_; (focus ((try simp (disch := omega) only [inj, List.cons.injEq, and_self, List.nodup_cons, List.not_mem_nil, List.mem_cons, not_false_eq_true, List.nodup_nil, go_sem, wrap_n]) <;> (try omega) <;> fail)); (focus ((try simp (disch := omega) only [inj, List.cons.injEq, and_self, List.nodup_cons, List.not_mem_nil, List.mem_cons, not_false_eq_true, List.nodup_nil, go_sem, wrap_n]) <;> (try omega) <;> (try decide) <;> fail))) | ((first | (with_reducible refine aunder_i ?_ ?_ <;> intro hg) | with_reducible intro hg) <;> (first | (exfalso; simp at hg; done) | (have hg' := hg; (try simp only [hcs, beq_iff_eq, ge_iff_le, gt_iff_lt] at hg'); (try simp only [hg]))))) <;> (try simp (disch := omega) only [go_sem, wrap_n]) <;> (repeat' with_reducible refine And.intro ?_ ?_) <;> (try (with_reducible refine hK _ ?_; clear hK K)))
  | omega)
    all_goals first | (rw [beB_len]; omega) | skip
    all_goals (refine SImp.frame [0, 1, 4] rfl (by intro k hk; first | (simp at hk <;> (simp; omega)) | (simp only [List.mem_cons, List.not_mem_nil, or_false] at hk; simp only [List.length_cons, List.length_nil]; omega)) (by decide) (fun k hk => by first | omega | (rcases k with _ | _ | _ | _ | _ | _ | _ | _ | k <;> first | rfl | omega)) ?_ ?_ <;> simp (disch := omega) only [go_sem, wrap_n, Int.natCast_add, hbn, ANode.row] <;> (try rfl))
  simp only [go_sem]
  have hl0 : (b ++ nodeB x).length = m + 3 + x.path.length + x.data.length := by rw [List.length_append, nodeB_len, hl]; omega
  have hl7 : (statL x).length = 7 := rfl
  generalize hb1e : b ++ nodeB x = b1 at hl0 ⊢
  (repeat' first
| (with_reducible refine AR.f ?_)
| refine blkA_x (by decide) ?_
| (with_reducible refine AWP.cond rfl ?_ ?_ <;> intro hc <;> (try simp only [hcs, beq_iff_eq, ge_iff_le, gt_iff_lt] at hc))
| (refine acallHK_in fun Kk hKk => (acall_of tabOk Tryd.func77 rfl (by kernel_rfl) (by simp [Tryd.ntmps77]) ?_); simp only [Tryd.ntmps77, Tryd.results77, List.toList_toArray, apar, List.length_nil, List.length_cons, Nat.reduceAdd, List.length_append, List.length_set, go_sem])
| ((first | ((first | (with_reducible first | refine zR ?_ | refine zQ (by decide +kernel) ?_ | refine zD (by decide +kernel) ?_ | refine zE (by decide +kernel) ?_ | refine zG (by decide +kernel) ?_)); intro K hK) | (refine aend_in (v := ?_) hKk (by first | exact .inl rfl | exact .inr rfl) ?_ ?_ ?_; rotate_left; (focus ((try simp (disch := omega) only [go_sem, wrap_n]) <;> (try omega) <;> fail)); (focus ((try simp (disch := omega) only [go_sem, wrap_n]) <;> (first | done | exact rfl))); clear hKk Kk) | ((first | (with_reducible refine aunder_i ?_ ?_ <;> intro hg) | with_reducible intro hg) <;> (first | (exfalso; simp at hg; done) | (have hg' := hg; (try simp only [hcs, beq_iff_eq, ge_iff_le, gt_iff_lt] at hg'); (try simp only [hg]))))) <;> (try simp (disch := omega) only [go_sem, wrap_n]) <;> (repeat' with_reducible refine And.intro ?_ ?_) <;> (try (with_reducible refine hK _ ?_; clear hK K)))
| omega)
  refine AWP.loopB (ι := Nat) (fun j => j ≤ 7) (fun j => 7 - j) [40, 41, 42, 65, 66] (fun j => [(4, .osl 2 1 0 (m + 3 + x.path.length + x.data.length + 8 * j)), (67, I j)]) (fun j => [.cells [I t.zxid, .d (.sl 9 (t.nodes.map ANode.row)), .d (.sl 1 (t.sessions.map irow))], .cells (x.row.map .d), .rows 1 ((b1 ++ beL 8 ((statL x).take j)).map u8row), .cells [.ptr 1 2, .ptr 1 3, .ptr 1 4, .ptr 1 5, .ptr 1 6, .ptr 1 7, .ptr 1 8]]) 0 ?_ ?_ ?_
  · omega
  · simp only [go_sem]; (refine SImp.frame [0, 1, 2, 3] rfl (by intro k hk; first | (simp at hk <;> (simp; omega)) | (simp only [List.mem_cons, List.not_mem_nil, or_false] at hk; simp only [List.length_cons, List.length_nil]; omega)) (by decide) (fun k hk => by first | omega | (rcases k with _ | _ | _ | _ | _ | _ | _ | _ | k <;> first | rfl | omega)) ?_ ?_ <;> simp (disch := omega) only [go_sem, wrap_n, Int.natCast_add, beL_nil, ANode.row] <;> (try rfl))
  intro j hj
  simp only [go_sem]
  by_cases hj7 : j < 7
  · have e1 := ptrs_get 1 2 j hj7
    have e2 := statL_get x j hj7
    have hlj : (b1 ++ beL 8 ((statL x).take j)).length = m + 3 + x.path.length + x.data.length + 8 * j := by rw [List.length_append, beL_len, List.length_take, hl0, hl7]; omega
    (repeat' first
  | (with_reducible refine AR.f ?_)
  | refine blkA_x (by decide) ?_
  | (with_reducible refine AWP.cond rfl ?_ ?_ <;> intro hc <;> (try simp only [hcs, beq_iff_eq, ge_iff_le, gt_iff_lt] at hc))
  | ((first | ((first | (with_reducible first | refine zR ?_ | refine zQ (by decide +kernel) ?_ | refine zD (by decide +kernel) ?_ | refine zE (by decide +kernel) ?_ | refine zG (by decide +kernel) ?_)); intro K hK) | (refine acallH_own (snap_put_at (b1 ++ beL 8 ((statL x).take j)) ((statL x).getD j default) 8 (m + 3 + x.path.length + x.data.length + 8 * j) (m + 3 + x.path.length + x.data.length + 8 * j + 8) 8 (by decide) (by omega) hlj rfl rfl) ?_ ?_ ?_; (focus ((try simp (disch := omega) only [inj, List.cons.injEq, and_self, List.nodup_cons, List.not_mem_nil, List.mem_cons, not_false_eq_true, List.nodup_nil, go_sem, wrap_n, e1, e2, Nat.mul_one, Nat.zero_add, Nat.add_zero]) <;> (try omega) <;> fail)); (focus ((try simp (disch := omega) only [inj, List.cons.injEq, and_self, List.nodup_cons, List.not_mem_nil, List.mem_cons, not_false_eq_true, List.nodup_nil, go_sem, wrap_n, e1, e2, Nat.mul_one, Nat.zero_add, Nat.add_zero]) <;> (try omega) <;> (try decide) <;> fail))) | ((first | (with_reducible refine aunder_i ?_ ?_ <;> intro hg) | with_reducible intro hg) <;> (first | (exfalso; simp at hg; done) | (have hg' := hg; (try simp only [hcs, beq_iff_eq, ge_iff_le, gt_iff_lt] at hg'); (try simp only [hg]))))) <;> (try simp (disch := omega) only [go_sem, wrap_n, e1, e2, Nat.mul_one, Nat.zero_add, Nat.add_zero]) <;> (repeat' with_reducible refine And.intro ?_ ?_) <;> (try (with_reducible refine hK _ ?_; clear hK K)))
  | omega)
    refine ⟨j + 1, by omega, by omega, ?_⟩
    rw [beL_snoc 8 (statL x) j (by omega), ← List.append_assoc, show m + 3 + x.path.length + x.data.length + 8 * (j + 1) = m + 3 + x.path.length + x.data.length + 8 * j + 8 from by omega]
    (refine SImp.frame [0, 1, 4, 3] rfl (by intro k hk; first | (simp at hk <;> (simp; omega)) | (simp only [List.mem_cons, List.not_mem_nil, or_false] at hk; simp only [List.length_cons, List.length_nil]; omega)) (by decide) (fun k hk => by first | omega | (rcases k with _ | _ | _ | _ | _ | _ | _ | _ | k <;> first | rfl | omega)) ?_ ?_ <;> simp (disch := omega) only [go_sem, wrap_n, Int.natCast_add, ANode.row] <;> (try rfl))
  have hje : j = 7 := by omega
  subst hje
  (repeat' first
| (with_reducible refine AR.f ?_)
| refine blkA_x (by decide) ?_
| (with_reducible refine AWP.cond rfl ?_ ?_ <;> intro hc <;> (try simp only [hcs, beq_iff_eq, ge_iff_le, gt_iff_lt] at hc))
| ((first | ((first | (with_reducible first | refine zR ?_ | refine zQ (by decide +kernel) ?_ | refine zD (by decide +kernel) ?_ | refine zE (by decide +kernel) ?_ | refine zG (by decide +kernel) ?_)); intro K hK) | ((first | (with_reducible refine aunder_i ?_ ?_ <;> intro hg) | with_reducible intro hg) <;> (first | (exfalso; simp at hg; done) | (have hg' := hg; (try simp only [hcs, beq_iff_eq, ge_iff_le, gt_iff_lt] at hg'); (try simp only [hg]))))) <;> (try simp (disch := omega) only [go_sem, wrap_n]) <;> (repeat' with_reducible refine And.intro ?_ ?_) <;> (try (with_reducible refine hK _ ?_; clear hK K)))
| omega)
  refine ⟨k + 1, by omega, by omega, ?_⟩
  have hp2 : posB t (k + 1) = m + 3 + x.path.length + x.data.length + 56 := by omega
  have hfin : s4B t ++ recsB (t.nodes.take (k + 1)) = b1 ++ beL 8 ((statL x).take 7) := by
    rw [hb1, ← List.append_assoc, hbe, ← hb1e, List.append_assoc]; rfl
  rw [hp2, hfin]
  (refine SImp.frame [0, 2] rfl (by intro k hk; first | (simp at hk <;> (simp; omega)) | (simp only [List.mem_cons, List.not_mem_nil, or_false] at hk; simp only [List.length_cons, List.length_nil]; omega)) (by decide) (fun k hk => by first | omega | (rcases k with _ | _ | _ | _ | _ | _ | _ | _ | k <;> first | rfl | omega)) ?_ ?_ <;> simp (disch := omega) only [go_sem, wrap_n, Int.natCast_add, true_and] <;> (try rfl))
set_option maxHeartbeats 8000000 in
theorem ref_snapWrite_c (t : ATree) (hw : t.wf) (hs : smallT t) : acall Tryd.prog [] 28 [t.av] (ret (.tup [S (snapW t).1, I (snapW t).2])) := by
  have hP : ∀ x, x ∈ t.nodes → x.path.length ≤ 1048576 := fun x hx => (hs.2.2 x hx).1
  by_cases g : goodTr t = true
  case neg =>
    unfold snapW
    rw [if_neg g]
    refine acall_of tabOk Tryd.func28 rfl (by kernel_rfl) (by simp [Tryd.ntmps28]) ?_; simp only [Tryd.ntmps28, Tryd.results28, List.toList_toArray, apar, List.length_nil, List.length_cons, Nat.reduceAdd]
    (repeat' first
  | (with_reducible refine AR.f ?_)
  | refine blkA_x (by decide) ?_
  | (with_reducible refine AWP.cond rfl ?_ ?_ <;> intro hc <;> (try simp only [hcs, beq_iff_eq, ge_iff_le, gt_iff_lt] at hc))
  | ((first | ((first | (with_reducible first | refine zR ?_ | refine zQ (by decide +kernel) ?_ | refine zD (by decide +kernel) ?_ | refine zE (by decide +kernel) ?_ | refine zG (by decide +kernel) ?_)); intro K hK) | ((first | refine zA ((ref_tgood_c t hw hP).re (congrArg B (eq_false_of_ne_true g))) ?_ ?_ ?_ ?_ ?_); (focus exact rfl); (focus exact rfl); iterate 2 (focus ((try simp (disch := omega) only [go_sem, wrap_n]) <;> (try omega) <;> fail))) | ((first | refine zN ((ref_tgood_c t hw hP).re (congrArg B (eq_false_of_ne_true g))) rfl ?_ ?_); (focus ((try simp (disch := omega) only [go_sem, wrap_n]) <;> (try omega) <;> fail))) | (first | ((first | refine zX ((ref_tgood_c t hw hP).re (congrArg B (eq_false_of_ne_true g))) rfl ?_ ?_ | refine acallH_anyx ((ref_tgood_c t hw hP).re (congrArg B (eq_false_of_ne_true g))) ?_ ?_); (focus ((try simp (disch := omega) only [go_sem, wrap_n]) <;> (try omega) <;> fail)))) | ((first | (with_reducible refine aunder_i ?_ ?_ <;> intro hg) | with_reducible intro hg) <;> (first | (exfalso; simp at hg; done) | (have hg' := hg; (try simp only [hcs, beq_iff_eq, ge_iff_le, gt_iff_lt] at hg'); (try simp only [hg]))))) <;> (try simp (disch := omega) only [go_sem, wrap_n]) <;> (repeat' with_reducible refine And.intro ?_ ?_) <;> (try (with_reducible refine hK _ ?_; clear hK K)))
  | omega)
    all_goals (refine zF rfl ?_ ?_ ?_ ?_; (iterate 3 (focus ((try simp (disch := omega) only [go_sem, wrap_n]) <;> (try omega) <;> fail))); (try simp (disch := omega) only [go_sem, wrap_n, I, B, S, inj, List.cons.injEq, and_true, true_and, and_self]))
  unfold snapW
  rw [if_pos g]
  have hsm := allB_small hs
  have hsum := ref_sum_c (allB t) (by unfold okS; omega)
  have h1 := bytesOf_at t.zxid 8 (by decide) 8 rfl
  have h2 := bytesOf_at t.sessions.length 4 (by decide) 4 rfl
  have h3 := bytesOf_at t.nodes.length 4 (by decide) 4 rfl
  have h4 := bytesOf_at (sumN (allB t)) 4 (by decide) 4 rfl
  refine acall_of tabOk Tryd.func28 rfl (by kernel_rfl) (by simp [Tryd.ntmps28]) ?_; simp only [Tryd.ntmps28, Tryd.results28, List.toList_toArray, apar, List.length_nil, List.length_cons, Nat.reduceAdd]
  (repeat' first
| (with_reducible refine AR.f ?_)
| refine blkA_x (by decide) ?_
| (with_reducible refine AWP.cond rfl ?_ ?_ <;> intro hc <;> (try simp only [hcs, beq_iff_eq, ge_iff_le, gt_iff_lt] at hc))
| ((first | ((first | (with_reducible first | refine zR ?_ | refine zQ (by decide +kernel) ?_ | refine zD (by decide +kernel) ?_ | refine zE (by decide +kernel) ?_ | refine zG (by decide +kernel) ?_)); intro K hK) | ((first | refine zA ((ref_tgood_c t hw hP).re (congrArg B g)) ?_ ?_ ?_ ?_ ?_ | refine zA h1 ?_ ?_ ?_ ?_ ?_ | refine zA h2 ?_ ?_ ?_ ?_ ?_); (focus exact rfl); (focus exact rfl); iterate 2 (focus ((try simp (disch := omega) only [go_sem, wrap_n, beB_len]) <;> (try omega) <;> fail))) | ((first | refine zN ((ref_tgood_c t hw hP).re (congrArg B g)) rfl ?_ ?_ | refine zN h1 rfl ?_ ?_ | refine zN h2 rfl ?_ ?_); (focus ((try simp (disch := omega) only [go_sem, wrap_n, beB_len]) <;> (try omega) <;> fail))) | (first | ((first | refine zX ((ref_tgood_c t hw hP).re (congrArg B g)) rfl ?_ ?_ | refine acallH_anyx ((ref_tgood_c t hw hP).re (congrArg B g)) ?_ ?_); (focus ((try simp (disch := omega) only [go_sem, wrap_n, beB_len]) <;> (try omega) <;> fail))) | ((first | refine zX h1 rfl ?_ ?_ | refine acallH_anyx h1 ?_ ?_); (focus ((try simp (disch := omega) only [go_sem, wrap_n, beB_len]) <;> (try omega) <;> fail))) | ((first | refine zX h2 rfl ?_ ?_ | refine acallH_anyx h2 ?_ ?_); (focus ((try simp (disch := omega) only [go_sem, wrap_n, beB_len]) <;> (try omega) <;> fail)))) | ((first | (with_reducible refine aunder_i ?_ ?_ <;> intro hg) | with_reducible intro hg) <;> (first | (exfalso; simp at hg; done) | (have hg' := hg; (try simp only [hcs, beq_iff_eq, ge_iff_le, gt_iff_lt] at hg'); (try simp only [hg]))))) <;> (try simp (disch := omega) only [go_sem, wrap_n, beB_len]) <;> (repeat' with_reducible refine And.intro ?_ ?_) <;> (try (with_reducible refine hK _ ?_; clear hK K)))
| omega)
  refine AWP.loopB (ι := Nat) (fun k => k ≤ t.sessions.length) (fun k => t.sessions.length - k) [1, 24, 25] (fun k => [(4, S (s2B t ++ beL 4 (t.sessions.take k))), (26, I k)]) (fun k => [.cells [I t.zxid, .d (.sl 9 (t.nodes.map ANode.row)), .d (.sl 1 (t.sessions.map irow))]]) 0 ?_ ?_ ?_
  · omega
  · simp only [go_sem]; (refine SImp.frame [0] rfl (by intro k hk; first | (simp at hk <;> (simp; omega)) | (simp only [List.mem_cons, List.not_mem_nil, or_false] at hk; simp only [List.length_cons, List.length_nil]; omega)) (by decide) (fun k hk => by first | omega | (rcases k with _ | _ | _ | _ | _ | _ | _ | _ | k <;> first | rfl | omega)) ?_ ?_ <;> simp (disch := omega) only [go_sem, wrap_n, Int.natCast_add, s2B, beL_nil] <;> (try rfl))
  intro k hk
  have hS := hs.2.1
  have hl2 : (s2B t ++ beL 4 (t.sessions.take k)).length ≤ 13 + 4 * t.sessions.length := by rw [List.length_append, s2B_len, beL_len, List.length_take]; omega
  simp only [go_sem]
  by_cases hk2 : k < t.sessions.length
  · have h5 := bytesOf_at (t.sessions.getD k default) 4 (by decide) 4 rfl
    generalize hbe : s2B t ++ beL 4 (t.sessions.take k) = b at hl2 ⊢
    (repeat' first
  | (with_reducible refine AR.f ?_)
  | refine blkA_x (by decide) ?_
  | (with_reducible refine AWP.cond rfl ?_ ?_ <;> intro hc <;> (try simp only [hcs, beq_iff_eq, ge_iff_le, gt_iff_lt] at hc))
  | ((first | ((first | (with_reducible first | refine zR ?_ | refine zQ (by decide +kernel) ?_ | refine zD (by decide +kernel) ?_ | refine zE (by decide +kernel) ?_ | refine zG (by decide +kernel) ?_)); intro K hK) | ((first | refine zA h5 ?_ ?_ ?_ ?_ ?_); (focus exact rfl); (focus exact rfl); iterate 2 (focus ((try simp (disch := omega) only [go_sem, wrap_n, beB_len]) <;> (try omega) <;> fail))) | ((first | refine zN h5 rfl ?_ ?_); (focus ((try simp (disch := omega) only [go_sem, wrap_n, beB_len]) <;> (try omega) <;> fail))) | (first | ((first | refine zX h5 rfl ?_ ?_ | refine acallH_anyx h5 ?_ ?_); (focus ((try simp (disch := omega) only [go_sem, wrap_n, beB_len]) <;> (try omega) <;> fail)))) | ((first | (with_reducible refine aunder_i ?_ ?_ <;> intro hg) | with_reducible intro hg) <;> (first | (exfalso; simp at hg; done) | (have hg' := hg; (try simp only [hcs, beq_iff_eq, ge_iff_le, gt_iff_lt] at hg'); (try simp only [hg]))))) <;> (try simp (disch := omega) only [go_sem, wrap_n, beB_len]) <;> (repeat' with_reducible refine And.intro ?_ ?_) <;> (try (with_reducible refine hK _ ?_; clear hK K)))
  | omega)
    refine ⟨k + 1, by omega, by omega, ?_⟩
    rw [beL_snoc 4 t.sessions k hk2, ← List.append_assoc, hbe]
    (refine SImp.frame [0] rfl (by intro k hk; first | (simp at hk <;> (simp; omega)) | (simp only [List.mem_cons, List.not_mem_nil, or_false] at hk; simp only [List.length_cons, List.length_nil]; omega)) (by decide) (fun k hk => by first | omega | (rcases k with _ | _ | _ | _ | _ | _ | _ | _ | k <;> first | rfl | omega)) ?_ ?_ <;> simp (disch := omega) only [go_sem, wrap_n, Int.natCast_add, true_and] <;> (try rfl))
  have hke : k = t.sessions.length := by omega
  subst hke
  rw [List.take_length] at hl2 ⊢
  generalize hbe : s2B t ++ beL 4 t.sessions = b at hl2 ⊢
  (repeat' first
| (with_reducible refine AR.f ?_)
| refine blkA_x (by decide) ?_
| (with_reducible refine AWP.cond rfl ?_ ?_ <;> intro hc <;> (try simp only [hcs, beq_iff_eq, ge_iff_le, gt_iff_lt] at hc))
| ((first | ((first | (with_reducible first | refine zR ?_ | refine zQ (by decide +kernel) ?_ | refine zD (by decide +kernel) ?_ | refine zE (by decide +kernel) ?_ | refine zG (by decide +kernel) ?_)); intro K hK) | ((first | refine zA h3 ?_ ?_ ?_ ?_ ?_); (focus exact rfl); (focus exact rfl); iterate 2 (focus ((try simp (disch := omega) only [go_sem, wrap_n, beB_len]) <;> (try omega) <;> fail))) | ((first | refine zN h3 rfl ?_ ?_); (focus ((try simp (disch := omega) only [go_sem, wrap_n, beB_len]) <;> (try omega) <;> fail))) | (first | ((first | refine zX h3 rfl ?_ ?_ | refine acallH_anyx h3 ?_ ?_); (focus ((try simp (disch := omega) only [go_sem, wrap_n, beB_len]) <;> (try omega) <;> fail)))) | ((first | (with_reducible refine aunder_i ?_ ?_ <;> intro hg) | with_reducible intro hg) <;> (first | (exfalso; simp at hg; done) | (have hg' := hg; (try simp only [hcs, beq_iff_eq, ge_iff_le, gt_iff_lt] at hg'); (try simp only [hg]))))) <;> (try simp (disch := omega) only [go_sem, wrap_n, beB_len]) <;> (repeat' with_reducible refine And.intro ?_ ?_) <;> (try (with_reducible refine hK _ ?_; clear hK K)))
| omega)
  have hs4 : b ++ beB 4 t.nodes.length = s4B t := by rw [← hbe]; rfl
  refine AWP.loopB (ι := Nat) (fun k => k ≤ t.nodes.length) (fun k => t.nodes.length - k) [42, 43] (fun k => [(4, S (s4B t ++ recsB (t.nodes.take k))), (44, I k)]) (fun k => []) 0 ?_ ?_ ?_
  · omega
  · simp only [go_sem]; (refine SImp.frame [] rfl (by intro k hk; first | (simp at hk <;> (simp; omega)) | (simp only [List.mem_cons, List.not_mem_nil, or_false] at hk; simp only [List.length_cons, List.length_nil]; omega)) (by decide) (fun k hk => by first | omega | (rcases k with _ | _ | _ | _ | _ | _ | _ | _ | k <;> first | rfl | omega)) ?_ ?_ <;> simp (disch := omega) only [go_sem, wrap_n, Int.natCast_add, hs4, recsB_nil] <;> (try rfl))
  intro k hk
  have hN := hs.1
  have hb0 := posB_small hs k hk
  simp only [go_sem]
  by_cases hk3 : k < t.nodes.length
  case neg =>
    have hke : k = t.nodes.length := by omega
    subst hke
    rw [List.take_length, show s4B t ++ recsB t.nodes = allB t from rfl]
    (repeat' first
  | (with_reducible refine AR.f ?_)
  | refine blkA_x (by decide) ?_
  | (with_reducible refine AWP.cond rfl ?_ ?_ <;> intro hc <;> (try simp only [hcs, beq_iff_eq, ge_iff_le, gt_iff_lt] at hc))
  | ((first | ((first | (with_reducible first | refine zR ?_ | refine zQ (by decide +kernel) ?_ | refine zD (by decide +kernel) ?_ | refine zE (by decide +kernel) ?_ | refine zG (by decide +kernel) ?_)); intro K hK) | ((first | refine zA hsum ?_ ?_ ?_ ?_ ?_ | refine zA h4 ?_ ?_ ?_ ?_ ?_); (focus exact rfl); (focus exact rfl); iterate 2 (focus ((try simp (disch := omega) only [go_sem, wrap_n, beB_len]) <;> (try omega) <;> fail))) | ((first | refine zN hsum rfl ?_ ?_ | refine zN h4 rfl ?_ ?_); (focus ((try simp (disch := omega) only [go_sem, wrap_n, beB_len]) <;> (try omega) <;> fail))) | (first | ((first | refine zX hsum rfl ?_ ?_ | refine acallH_anyx hsum ?_ ?_); (focus ((try simp (disch := omega) only [go_sem, wrap_n, beB_len]) <;> (try omega) <;> fail))) | ((first | refine zX h4 rfl ?_ ?_ | refine acallH_anyx h4 ?_ ?_); (focus ((try simp (disch := omega) only [go_sem, wrap_n, beB_len]) <;> (try omega) <;> fail)))) | ((first | (with_reducible refine aunder_i ?_ ?_ <;> intro hg) | with_reducible intro hg) <;> (first | (exfalso; simp at hg; done) | (have hg' := hg; (try simp only [hcs, beq_iff_eq, ge_iff_le, gt_iff_lt] at hg'); (try simp only [hg]))))) <;> (try simp (disch := omega) only [go_sem, wrap_n, beB_len]) <;> (repeat' with_reducible refine And.intro ?_ ?_) <;> (try (with_reducible refine hK _ ?_; clear hK K)))
  | omega)
    (refine zF rfl ?_ ?_ ?_ ?_; (iterate 3 (focus ((try simp (disch := omega) only [go_sem, wrap_n]) <;> (try omega) <;> fail))); (try simp (disch := omega) only [go_sem, wrap_n, I, B, S, inj, List.cons.injEq, and_true, true_and, and_self]))
  have hxm := mem_getD t.nodes default hk3
  have hb1 := recsB_snoc t.nodes k hk3
  have hl : (s4B t ++ recsB (t.nodes.take k)).length = posB t k := rfl
  generalize hbe2 : s4B t ++ recsB (t.nodes.take k) = b at hl ⊢
  obtain ⟨hx1, hx2⟩ := hs.2.2 _ hxm
  have h6 := bytesOf_at (t.nodes.getD k default).path.length 1 (by decide) 1 rfl
  have h7 := bytesOf_at (t.nodes.getD k default).data.length 2 (by decide) 2 rfl
  (repeat' first
| (with_reducible refine AR.f ?_)
| refine blkA_x (by decide) ?_
| (with_reducible refine AWP.cond rfl ?_ ?_ <;> intro hc <;> (try simp only [hcs, beq_iff_eq, ge_iff_le, gt_iff_lt] at hc))
| ((first | ((first | (with_reducible first | refine zR ?_ | refine zQ (by decide +kernel) ?_ | refine zD (by decide +kernel) ?_ | refine zE (by decide +kernel) ?_ | refine zG (by decide +kernel) ?_)); intro K hK) | ((first | refine zA h6 ?_ ?_ ?_ ?_ ?_ | refine zA h7 ?_ ?_ ?_ ?_ ?_); (focus exact rfl); (focus exact rfl); iterate 2 (focus ((try simp (disch := omega) only [go_sem, wrap_n, beB_len]) <;> (try omega) <;> fail))) | ((first | refine zN h6 rfl ?_ ?_ | refine zN h7 rfl ?_ ?_); (focus ((try simp (disch := omega) only [go_sem, wrap_n, beB_len]) <;> (try omega) <;> fail))) | (first | ((first | refine zX h6 rfl ?_ ?_ | refine acallH_anyx h6 ?_ ?_); (focus ((try simp (disch := omega) only [go_sem, wrap_n, beB_len]) <;> (try omega) <;> fail))) | ((first | refine zX h7 rfl ?_ ?_ | refine acallH_anyx h7 ?_ ?_); (focus ((try simp (disch := omega) only [go_sem, wrap_n, beB_len]) <;> (try omega) <;> fail)))) | ((first | (with_reducible refine aunder_i ?_ ?_ <;> intro hg) | with_reducible intro hg) <;> (first | (exfalso; simp at hg; done) | (have hg' := hg; (try simp only [hcs, beq_iff_eq, ge_iff_le, gt_iff_lt] at hg'); (try simp only [hg]))))) <;> (try simp (disch := omega) only [go_sem, wrap_n, beB_len]) <;> (repeat' with_reducible refine And.intro ?_ ?_) <;> (try (with_reducible refine hK _ ?_; clear hK K)))
| omega)
  generalize t.nodes.getD k default = x at hx1 hx2 hxm hb1 ⊢
  have hbn : b ++ (beB 1 x.path.length ++ x.path ++ beB 2 x.data.length ++ x.data) = b ++ nodeB x := rfl
  have hl7 : (statL x).length = 7 := rfl
  have hl0 : (b ++ nodeB x).length ≤ 2199096066303 := by rw [List.length_append, nodeB_len]; omega
  simp only [hbn]
  generalize hb1e : b ++ nodeB x = b1 at hl0 ⊢
  refine AWP.loopB (ι := Nat) (fun j => j ≤ 7) (fun j => 7 - j) [42, 43, 44, 87] (fun j => [(4, S (b1 ++ beL 8 ((statL x).take j))), (86, .osl 0 1 0 7), (88, I j)]) (fun j => [.rows 1 ((statL x).map irow)]) 0 ?_ ?_ ?_
  · omega
  · simp only [go_sem]; (refine SImp.frame [1] rfl (by intro k hk; first | (simp at hk <;> (simp; omega)) | (simp only [List.mem_cons, List.not_mem_nil, or_false] at hk; simp only [List.length_cons, List.length_nil]; omega)) (by decide) (fun k hk => by first | omega | (rcases k with _ | _ | _ | _ | _ | _ | _ | _ | k <;> first | rfl | omega)) ?_ ?_ <;> simp (disch := omega) only [go_sem, wrap_n, Int.natCast_add, beL_nil, statL, irow] <;> (try rfl))
  intro j hj
  simp only [go_sem]
  by_cases hj7 : j < 7
  · have h8 := bytesOf_at ((statL x).getD j default) 8 (by decide) 8 rfl
    have hlj : (b1 ++ beL 8 ((statL x).take j)).length ≤ 2199096066303 + 56 := by rw [List.length_append, beL_len, List.length_take, hl7]; omega
    have hi : ∀ z, List.getD (List.map irow (statL x)) j z = irow ((statL x).getD j default) := fun z => by rw [List.getD_eq_getElem?_getD, List.getD_eq_getElem?_getD, List.getElem?_map, List.getElem?_eq_getElem (by omega)]; rfl
    generalize hbe3 : b1 ++ beL 8 ((statL x).take j) = b2 at hlj ⊢
    (repeat' first
  | (with_reducible refine AR.f ?_)
  | refine blkA_x (by decide) ?_
  | (with_reducible refine AWP.cond rfl ?_ ?_ <;> intro hc <;> (try simp only [hcs, beq_iff_eq, ge_iff_le, gt_iff_lt] at hc))
  | ((first | ((first | (with_reducible first | refine zR ?_ | refine zQ (by decide +kernel) ?_ | refine zD (by decide +kernel) ?_ | refine zE (by decide +kernel) ?_ | refine zG (by decide +kernel) ?_)); intro K hK) | ((first | refine zA h8 ?_ ?_ ?_ ?_ ?_); (focus exact rfl); (focus exact rfl); iterate 2 (focus ((try simp (disch := omega) only [go_sem, wrap_n, hi, irow, beB_len, hl7]) <;> (try omega) <;> fail))) | ((first | refine zN h8 rfl ?_ ?_); (focus ((try simp (disch := omega) only [go_sem, wrap_n, hi, irow, beB_len, hl7]) <;> (try omega) <;> fail))) | (first | ((first | refine zX h8 rfl ?_ ?_ | refine acallH_anyx h8 ?_ ?_); (focus ((try simp (disch := omega) only [go_sem, wrap_n, hi, irow, beB_len, hl7]) <;> (try omega) <;> fail)))) | ((first | (with_reducible refine aunder_i ?_ ?_ <;> intro hg) | with_reducible intro hg) <;> (first | (exfalso; simp at hg; done) | (have hg' := hg; (try simp only [hcs, beq_iff_eq, ge_iff_le, gt_iff_lt] at hg'); (try simp only [hg]))))) <;> (try simp (disch := omega) only [go_sem, wrap_n, hi, irow, beB_len, hl7]) <;> (repeat' with_reducible refine And.intro ?_ ?_) <;> (try (with_reducible refine hK _ ?_; clear hK K)))
  | omega)
    refine ⟨j + 1, by omega, by omega, ?_⟩
    rw [beL_snoc 8 (statL x) j (by omega), ← List.append_assoc, hbe3]
    (refine SImp.frame [0] rfl (by intro k hk; first | (simp at hk <;> (simp; omega)) | (simp only [List.mem_cons, List.not_mem_nil, or_false] at hk; simp only [List.length_cons, List.length_nil]; omega)) (by decide) (fun k hk => by first | omega | (rcases k with _ | _ | _ | _ | _ | _ | _ | _ | k <;> first | rfl | omega)) ?_ ?_ <;> simp (disch := omega) only [go_sem, wrap_n, Int.natCast_add, true_and] <;> (try rfl))
  have hje : j = 7 := by omega
  subst hje
  (repeat' first
| (with_reducible refine AR.f ?_)
| refine blkA_x (by decide) ?_
| (with_reducible refine AWP.cond rfl ?_ ?_ <;> intro hc <;> (try simp only [hcs, beq_iff_eq, ge_iff_le, gt_iff_lt] at hc))
| ((first | ((first | (with_reducible first | refine zR ?_ | refine zQ (by decide +kernel) ?_ | refine zD (by decide +kernel) ?_ | refine zE (by decide +kernel) ?_ | refine zG (by decide +kernel) ?_)); intro K hK) | ((first | (with_reducible refine aunder_i ?_ ?_ <;> intro hg) | with_reducible intro hg) <;> (first | (exfalso; simp at hg; done) | (have hg' := hg; (try simp only [hcs, beq_iff_eq, ge_iff_le, gt_iff_lt] at hg'); (try simp only [hg]))))) <;> (try simp (disch := omega) only [go_sem, wrap_n]) <;> (repeat' with_reducible refine And.intro ?_ ?_) <;> (try (with_reducible refine hK _ ?_; clear hK K)))
| omega)
  refine ⟨k + 1, by omega, by omega, ?_⟩
  have hfin : s4B t ++ recsB (t.nodes.take (k + 1)) = b1 ++ beL 8 ((statL x).take 7) := by
    rw [hb1, ← List.append_assoc, hbe2, ← hb1e, List.append_assoc]; rfl
  rw [hfin]
  (refine SImp.frame [] rfl (by intro k hk; first | (simp at hk <;> (simp; omega)) | (simp only [List.mem_cons, List.not_mem_nil, or_false] at hk; simp only [List.length_cons, List.length_nil]; omega)) (by decide) (fun k hk => by first | omega | (rcases k with _ | _ | _ | _ | _ | _ | _ | _ | k <;> first | rfl | omega)) ?_ ?_ <;> simp (disch := omega) only [go_sem, wrap_n, Int.natCast_add, true_and] <;> (try rfl))
theorem snapWrites_w (t : ATree) (hw : t.wf) (hs : smallT t) : acall Tryd.prog [] 5 [t.av] (ret (B true)) := by
  have h1 := copyT_c t hw
  have h2 := snapWrite_c t hw hs
  have h3 := ref_snapWrite_c t hw hs
  generalize snapW t = q at h2 h3
  obtain ⟨a, e⟩ := q
  simp only at h2 h3
  refine acall_of tabOk Tryd.func5 rfl (by kernel_rfl) (by simp [Tryd.ntmps5]) ?_; simp only [Tryd.ntmps5, Tryd.results5, List.toList_toArray, apar, List.length_nil, List.length_cons, Nat.reduceAdd]
  (repeat' first
| (with_reducible refine AR.f ?_)
| refine blkA_x (by decide) ?_
| (with_reducible refine AWP.cond rfl ?_ ?_ <;> intro hc <;> (try simp only [hcs, beq_iff_eq, ge_iff_le, gt_iff_lt] at hc))
| ((first | ((first | (with_reducible first | refine zR ?_ | refine zQ (by decide +kernel) ?_ | refine zD (by decide +kernel) ?_ | refine zE (by decide +kernel) ?_ | refine zG (by decide +kernel) ?_)); intro K hK) | ((first | refine zA h1 ?_ ?_ ?_ ?_ ?_ | refine zA h2 ?_ ?_ ?_ ?_ ?_ | refine zA h3 ?_ ?_ ?_ ?_ ?_); (focus exact rfl); (focus exact rfl); iterate 2 (focus ((try simp (disch := omega) only [go_sem, wrap_n]) <;> (try omega) <;> fail))) | ((first | refine zN h1 rfl ?_ ?_ | refine zN h2 rfl ?_ ?_ | refine zN h3 rfl ?_ ?_); (focus ((try simp (disch := omega) only [go_sem, wrap_n]) <;> (try omega) <;> fail))) | (first | ((first | refine zX h1 rfl ?_ ?_ | refine acallH_anyx h1 ?_ ?_); (focus ((try simp (disch := omega) only [go_sem, wrap_n]) <;> (try omega) <;> fail))) | ((first | refine zX h2 rfl ?_ ?_ | refine acallH_anyx h2 ?_ ?_); (focus ((try simp (disch := omega) only [go_sem, wrap_n]) <;> (try omega) <;> fail))) | ((first | refine zX h3 rfl ?_ ?_ | refine acallH_anyx h3 ?_ ?_); (focus ((try simp (disch := omega) only [go_sem, wrap_n]) <;> (try omega) <;> fail)))) | ((first | (with_reducible refine aunder_i ?_ ?_ <;> intro hg) | with_reducible intro hg) <;> (first | (exfalso; simp at hg; done) | (have hg' := hg; (try simp only [hcs, beq_iff_eq, ge_iff_le, gt_iff_lt] at hg'); (try simp only [hg]))))) <;> (try simp (disch := omega) only [go_sem, wrap_n]) <;> (repeat' with_reducible refine And.intro ?_ ?_) <;> (try (with_reducible refine hK _ ?_; clear hK K)))
| omega)
  all_goals (refine zF rfl ?_ ?_ ?_ ?_; (iterate 3 (focus ((try simp (disch := omega) only [go_sem, wrap_n]) <;> (try omega) <;> fail))); (try simp (disch := omega) only [go_sem, wrap_n, I, B, S, inj, List.cons.injEq, and_true, true_and, and_self]))
theorem snap_small {t : ATree} (h : ∀ c, c ∈ t.row → SmallD 1048576 c) : smallT t :=
  ⟨by simpa using (h (.sl 9 (t.nodes.map ANode.row)) (by simp [ATree.row])).rows.1, by simpa using (h (.sl 1 (t.sessions.map irow)) (by simp [ATree.row])).rows.1, fun x hx => ⟨tree_small h hx, (node_smallD h hx (DV.str x.data) (by simp [ANode.row])).len⟩⟩
theorem snapWrites_u (dss : List (List DV)) (h : typeds T 6 Tryd.f5.params.toList dss) (hs : ∀ cs, cs ∈ dss → ∀ c, c ∈ cs → SmallD 1048576 c) : acall Tryd.prog [] 5 (aargs T Tryd.f5.params.toList dss) (fun v _ => v = B true) := by
  rw [Tryd.params5] at h ⊢
  simp only [List.toList_toArray, typeds] at h
  obtain ⟨c0, d0, rfl, h0, rfl⟩ := h
  have s0 := hs c0 (by simp)
  obtain ⟨t, rfl, w_t⟩ := ATree_typed (m := 1) h0
  have u_t := s0
  simp only [List.toList_toArray, aargs, aarg, TI.agg_mk, T_44, ty44]
  exact (snapWrites_w t w_t (snap_small u_t)).mono fun _ _ h => h.1
end Go.Proofs.YtmpfhalheaeibaaDoor
