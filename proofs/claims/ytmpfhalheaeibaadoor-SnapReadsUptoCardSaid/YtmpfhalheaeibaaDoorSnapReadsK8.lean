/- A part of what SnapReads leans on: texts of this claim, one behind the other. No condition. -/
import Derived.Laws.BitsAllLaws
import Derived.Test.YtmpfhalheaeibaaDoorSnapReadsK7
namespace Go.Proofs.YtmpfhalheaeibaaDoor
set_option linter.unusedVariables false
set_option linter.unusedSimpArgs false
open Go Go.RowKit
set_option maxRecDepth 100000
set_option linter.unusedSimpArgs false
def stepN (c : Nat) : Nat := (c / 2) ^^^ (if c % 2 = 1 then 3988292384 else 0)
def stepsN : Nat → Nat → Nat
  | 0, c => c
  | k + 1, c => stepN (stepsN k c)
def byteN (c : Nat) (b : UInt8) : Nat := stepsN 8 (c ^^^ b.toNat)
def crcN (s : List UInt8) : Nat := s.foldl byteN 4294967295
def sumN (s : List UInt8) : Nat := 4294967295 - crcN s
theorem stepN_lt {c : Nat} (h : c < 4294967296) : stepN c < 4294967296 := by
  unfold stepN
  exact Nat.xor_lt_two_pow (n := 32) (by omega) (by split <;> decide)
theorem stepsN_lt {c : Nat} (h : c < 4294967296) : ∀ k, stepsN k c < 4294967296
  | 0 => h
  | k + 1 => stepN_lt (stepsN_lt h k)
theorem byteN_lt {c : Nat} (b : UInt8) (h : c < 4294967296) : byteN c b < 4294967296 :=
  stepsN_lt (Nat.xor_lt_two_pow (n := 32) h (Nat.lt_trans b.toNat_lt (by decide))) 8
theorem crcN_snoc (s : List UInt8) (k : Nat) (h : k < s.length) : crcN (s.take (k + 1)) = byteN (crcN (s.take k)) (s.getD k 0) := by
  unfold crcN
  have : s.take (k + 1) = s.take k ++ [s.getD k 0] := take_snoc s k h
  rw [this, List.foldl_append]; rfl
theorem crcN_lt (s : List UInt8) : crcN s < 4294967296 := by
  unfold crcN
  have : ∀ (l : List UInt8) (c : Nat), c < 4294967296 → l.foldl byteN c < 4294967296 := by
    intro l
    induction l with
    | nil => intro c h; exact h
    | cons b l ih => intro c h; exact ih _ (byteN_lt b h)
  exact this s _ (by decide)
theorem and1 (c : Nat) (h : c < 4294967296) : bits .and .u32 (c : Int) 1 = ((c % 2 : Nat) : Int) := by
  have := u32_and_nat c 1 h (by decide)
  rw [Nat.and_one_is_mod] at this; exact this
theorem half1 (c : Nat) : (c : Int) / 2 = ((c / 2 : Nat) : Int) := by omega
theorem xorp (c : Nat) (h : c < 4294967296) : bits .xor .u32 (c : Int) 3988292384 = ((c ^^^ 3988292384 : Nat) : Int) := u32_xor_nat c _ h (by decide)
theorem u8_lt32 (b : UInt8) : b.toNat < 4294967296 := Nat.lt_trans b.toNat_lt (by decide)
theorem step_odd {c : Nat} (h : c % 2 = 1) : stepN c = c / 2 ^^^ 3988292384 := by unfold stepN; rw [if_pos h]
theorem step_even {c : Nat} (h : ¬ c % 2 = 1) : stepN c = c / 2 := by unfold stepN; rw [if_neg h, Nat.xor_zero]
theorem crc_nil : crcN [] = 4294967295 := rfl
theorem wrap_u8_32 (b : UInt8) : IntKind.u32.wrap (b.toNat : Int) = (b.toNat : Int) := by
  have := b.toNat_lt
  rw [IntKind.wrap_u32']; omega
theorem not32 (c : Nat) (h : c < 4294967296) : bits .xor .u32 (if IntKind.u32.signed = true then -1 else IntKind.u32.max) (c : Int) = ((4294967295 - c : Nat) : Int) := by
  have e : (if IntKind.u32.signed = true then (-1 : Int) else IntKind.u32.max) = ((4294967295 : Nat) : Int) := by decide
  rw [e, u32_xor_nat _ _ (by decide) h]
  congr 1
  have : 4294967295 - c = 2 ^ 32 - (c + 1) := by omega
  apply Nat.eq_of_testBit_eq
  intro i
  rw [Nat.testBit_xor, this, Nat.testBit_two_pow_sub_succ h, show 4294967295 = 2 ^ 32 - 1 from rfl, Nat.testBit_two_pow_sub_one]
  by_cases hi : i < 32
  · simp [hi]
  · have : c.testBit i = false := Nat.testBit_lt_two_pow (Nat.lt_of_lt_of_le h (Nat.pow_le_pow_right (by decide) (by omega) : 2 ^ 32 ≤ 2 ^ i))
    simp [hi, this]
theorem eq_one (n : Nat) : (((n : Nat) : Int) = 1) = (n = 1) := by rw [eq_iff_iff]; omega
theorem sum_c (s : List UInt8) (h : okS s) : acall Tryd.prog [] 78 [S s] (ret (I (sumN s))) := by
  unfold okS at h
  refine zi tabOk Tryd.func78 rfl (by kernel_rfl) (by simp [Tryd.ntmps78]) ?_; simp only [Tryd.ntmps78, Tryd.results78, List.toList_toArray, apar, List.length_nil, List.length_cons, Nat.reduceAdd]
  (repeat' first
| (with_reducible refine AR.f ?_)
| refine zb (by decide) ?_
| (with_reducible refine AWP.cond rfl ?_ ?_ <;> intro hc <;> (try simp only [hcs, beq_iff_eq, ge_iff_le, gt_iff_lt] at hc))
| ((first | ((first | (with_reducible first | refine zR ?_ | refine zQ (by decide +kernel) ?_ | refine zD (by decide +kernel) ?_ | refine zE (by decide +kernel) ?_ | refine zG (by decide +kernel) ?_)); intro K hK) | ((first | (with_reducible refine zu ?_ ?_ <;> intro hg) | with_reducible intro hg) <;> (first | (exfalso; simp at hg; done) | (have hg' := hg; (try simp only [hcs, beq_iff_eq, ge_iff_le, gt_iff_lt] at hg'); (try simp only [hg]))))) <;> (try simp (disch := omega) only [go_sem, wn]) <;> (repeat' with_reducible refine And.intro ?_ ?_) <;> (try (with_reducible refine hK _ ?_; clear hK K)))
| omega)
  refine AWP.loopS (ι := Nat) (fun k => k ≤ s.length) (fun k => s.length - k) [0] (fun k => [(3, .d (.int .u32 (crcN (s.take k)))), (4, I k)]) 0 ?_ (by simp (disch := omega) only [go_sem, wn, crc_nil, Int.cast_ofNat_Int]) ?_
  · omega
  intro k hk
  have hc0 := crcN_lt (s.take k)
  have hb := u8_lt32 (s.getD k 0)
  have hx : crcN (s.take k) ^^^ (s.getD k 0).toNat < 4294967296 := Nat.xor_lt_two_pow (n := 32) hc0 hb
  simp only [go_sem]
  (repeat' first
| (with_reducible refine AR.f ?_)
| refine zb (by decide) ?_
| (with_reducible refine AWP.cond rfl ?_ ?_ <;> intro hc <;> (try simp only [hcs, beq_iff_eq, ge_iff_le, gt_iff_lt] at hc))
| ((first | ((first | (with_reducible first | refine zR ?_ | refine zQ (by decide +kernel) ?_ | refine zD (by decide +kernel) ?_ | refine zE (by decide +kernel) ?_ | refine zG (by decide +kernel) ?_)); intro K hK) | ((first | (with_reducible refine zu ?_ ?_ <;> intro hg) | with_reducible intro hg) <;> (first | (exfalso; simp at hg; done) | (have hg' := hg; (try simp only [hcs, beq_iff_eq, ge_iff_le, gt_iff_lt] at hg'); (try simp only [hg]))))) <;> (try simp (disch := omega) only [go_sem, wn, u32_xor_nat, wrap_u8_32]) <;> (repeat' with_reducible refine And.intro ?_ ?_) <;> (try (with_reducible refine hK _ ?_; clear hK K)))
| omega)
  · refine AWP.loopS (ι := Nat) (fun j => j ≤ 8) (fun j => 8 - j) [0, 4] (fun j => [(3, .d (.int .u32 (stepsN j (crcN (s.take k) ^^^ (s.getD k 0).toNat)))), (18, I j)]) 0 ?_ (by simp (disch := omega) only [go_sem, wn, stepsN]) ?_
    · omega
    intro j hj
    have hs := stepsN_lt hx j
    have hs2 : stepsN j (crcN (s.take k) ^^^ (s.getD k 0).toNat) / 2 < 4294967296 := by omega
    simp only [go_sem]
    (repeat' first
  | (with_reducible refine AR.f ?_)
  | refine zb (by decide) ?_
  | (with_reducible refine AWP.cond rfl ?_ ?_ <;> intro hc <;> (try simp only [hcs, beq_iff_eq, ge_iff_le, gt_iff_lt] at hc))
  | ((first | ((first | (with_reducible first | refine zR ?_ | refine zQ (by decide +kernel) ?_ | refine zD (by decide +kernel) ?_ | refine zE (by decide +kernel) ?_ | refine zG (by decide +kernel) ?_)); intro K hK) | ((first | (with_reducible refine zu ?_ ?_ <;> intro hg) | with_reducible intro hg) <;> (first | (exfalso; simp at hg; done) | (have hg' := hg; (try simp only [hcs, beq_iff_eq, ge_iff_le, gt_iff_lt] at hg'); (try simp only [hg]))))) <;> (try simp (disch := omega) only [go_sem, wn, and1, half1, xorp, eq_one]) <;> (repeat' with_reducible refine And.intro ?_ ?_) <;> (try (with_reducible refine hK _ ?_; clear hK K)))
  | omega)
    · refine ⟨j + 1, by omega, by omega, ?_⟩
      (refine SImp.same ?_; simp (disch := omega) only [go_sem, wn, Int.natCast_add, stepsN, step_odd hc])
    · refine ⟨j + 1, by omega, by omega, ?_⟩
      (refine SImp.same ?_; simp (disch := omega) only [go_sem, wn, Int.natCast_add, stepsN, step_even hc])
    · have e0 : j = 8 := by omega
      subst e0
      refine ⟨k + 1, by omega, by omega, ?_⟩
      (refine SImp.same ?_; simp (disch := omega) only [go_sem, wn, Int.natCast_add, crcN_snoc, byteN])
  · have e0 : k = s.length := by omega
    subst e0
    rw [List.take_length] at *
    (refine zF rfl ?_ ?_ ?_ ?_; (iterate 3 (focus ((try simp (disch := omega) only [go_sem, wn, not32, sumN]) <;> (try omega) <;> fail))); (try simp (disch := omega) only [go_sem, wn, not32, sumN, I, B, S, inj, List.cons.injEq, and_true, true_and, and_self]))
def cl (l : List Nat) : List AV := l.map fun n : Nat => AV.d (.int .i64 (n : Int))
theorem cl_len (l : List Nat) : (cl l).length = l.length := by simp [cl]
theorem cl_get (l : List Nat) (k : Nat) (h : k < l.length) : (cl l).getD k .any = .d (.int .i64 (l.getD k 0 : Nat)) := by
  unfold cl; rw [List.getD_eq_getElem?_getD, List.getElem?_map, List.getD_eq_getElem?_getD, List.getElem?_eq_getElem h]; rfl
theorem cl_set (l : List Nat) (k v : Nat) : (cl l).set k (.d (.int .i64 (v : Int))) = cl (l.set k v) := by unfold cl; rw [List.map_set]
theorem cl_set1 (l : List Nat) (k : Nat) : (cl l).set k (.d (.int .i64 1)) = cl (l.set k 1) := cl_set l k 1
theorem cl_set0 (l : List Nat) (k : Nat) : (cl l).set k (.d (.int .i64 0)) = cl (l.set k 0) := cl_set l k 0
def reg0 (k : Nat) : List Nat := List.replicate k 1 ++ List.replicate (32 - k) 0
theorem reg0_len (k : Nat) (h : k ≤ 32) : (reg0 k).length = 32 := by simp [reg0]; omega
theorem reg0_set (k : Nat) (h : k < 32) : (reg0 k).set k 1 = reg0 (k + 1) := by
  unfold reg0
  rw [List.set_append_right _ _ (by simp), List.length_replicate, Nat.sub_self, show 32 - k = (32 - (k + 1)) + 1 from by omega, List.replicate_succ, List.set_cons_zero, List.replicate_succ' (n := k), List.append_assoc]; rfl
theorem cl_start : cl (reg0 0) = List.replicate 32 (.d (.int .i64 0)) := rfl
def bitsOf (c : Nat) : List Nat := (List.range 32).map fun k => c / 2 ^ k % 2
theorem bitsOf_len (c : Nat) : (bitsOf c).length = 32 := by simp [bitsOf]
theorem bitsOf_get (c k : Nat) (h : k < 32) : (bitsOf c).getD k 0 = c / 2 ^ k % 2 := by
  unfold bitsOf; rw [List.getD_eq_getElem?_getD, List.getElem?_map, List.getElem?_range h]; rfl
theorem reg0_full : reg0 32 = bitsOf 4294967295 := by decide
def refR (c b k : Nat) : Nat := stepsN k (c ^^^ b) ^^^ (b / 2 ^ k)
theorem refR_zero (c b : Nat) : refR c b 0 = c := by unfold refR; rw [stepsN, Nat.pow_zero, Nat.div_one, Nat.xor_assoc, Nat.xor_self, Nat.xor_zero]
theorem refR_end (c : Nat) (b : UInt8) : refR c b.toNat 8 = byteN c b := by
  have : b.toNat / 2 ^ 8 = 0 := Nat.div_eq_of_lt b.toNat_lt
  unfold refR; rw [this, Nat.xor_zero]; rfl
theorem refR_lt {c b : Nat} (hc : c < 4294967296) (hb : b < 4294967296) (k : Nat) : refR c b k < 4294967296 :=
  Nat.xor_lt_two_pow (n := 32) (stepsN_lt (Nat.xor_lt_two_pow (n := 32) hc hb) k) (Nat.lt_of_le_of_lt (Nat.div_le_self _ _) hb)
theorem bit_cases (n : Nat) : n % 2 = 0 ∨ n % 2 = 1 := by omega
theorem xor_bits {a b : Nat} (ha : a = 0 ∨ a = 1) (hb : b = 0 ∨ b = 1) : bits .xor .i64 (a : Int) (b : Int) = ((a ^^^ b : Nat) : Int) := by
  rcases ha with rfl | rfl <;> rcases hb with rfl | rfl <;> decide
theorem xor_mod2 (a b : Nat) : (a ^^^ b) % 2 = (a % 2) ^^^ (b % 2) := by
  have := @Nat.xor_mod_two_pow a b 1
  simpa using this
theorem out_eq (c k : Nat) (b : UInt8) : bits .xor .i64 ((refR c b.toNat k / 1 % 2 : Nat) : Int) (IntKind.i64.wrap (bits .and .u8 ((b.toNat : Int) / 2 ^ k) 1)) = ((stepsN k (c ^^^ b.toNat) % 2 : Nat) : Int) := by
  have e0 : (b.toNat : Int) / 2 ^ k = ((b.toNat / 2 ^ k : Nat) : Int) := by rw [Int.natCast_ediv, Int.natCast_pow]; rfl
  have e1 := u8_and_nat (b.toNat / 2 ^ k) 1 (Nat.lt_of_le_of_lt (Nat.div_le_self _ _) b.toNat_lt) (by decide)
  rw [Nat.and_one_is_mod] at e1
  rw [e0, show (1 : Int) = ((1 : Nat) : Int) from rfl, e1, wn _ (by omega) (by omega), Nat.div_one, xor_bits (bit_cases _) (bit_cases _)]
  congr 1
  unfold refR
  rw [xor_mod2, Nat.xor_assoc, Nat.xor_self, Nat.xor_zero]
theorem shift_cl (c : Nat) (h : c < 4294967296) : ((List.take (min 32 31) (List.drop 1 (cl (bitsOf c))) ++ List.drop (min 32 31) (cl (bitsOf c))).set 31 (.d (.int .i64 0))) = cl (bitsOf (c / 2)) := by
  have e : (List.take 31 (List.drop 1 (bitsOf c)) ++ List.drop 31 (bitsOf c)).set 31 0 = bitsOf (c / 2) := by
    refine List.ext_getElem (by simp [bitsOf]) fun j h1 h2 => ?_
    rw [List.getElem_set]
    rw [bitsOf_len] at h2
    split
    · rename_i e; subst e; simp [bitsOf]; omega
    · rw [List.getElem_append_left (by simp [bitsOf]; omega), List.getElem_take, List.getElem_drop]
      simp only [bitsOf, List.getElem_map, List.getElem_range]
      rw [Nat.div_div_eq_div_mul, Nat.pow_add, Nat.pow_one]
  rw [← e, ← cl_set0]
  unfold cl
  rw [List.map_append, List.map_take, List.map_drop, List.map_drop]; rfl
def xorR (c low j : Nat) : List Nat := (List.range 32).map fun t => if t < j then (c / 2 ^ t % 2) ^^^ (low * (3988292384 / 2 ^ t % 2)) else c / 2 ^ t % 2
theorem xorR_len (c low j : Nat) : (xorR c low j).length = 32 := by simp [xorR]
theorem xorR_zero (c low : Nat) : xorR c low 0 = bitsOf c := by simp [xorR, bitsOf]
theorem xorR_get (c low j : Nat) (h : j < 32) : (xorR c low j).getD j 0 = c / 2 ^ j % 2 := by
  unfold xorR; rw [List.getD_eq_getElem?_getD, List.getElem?_map, List.getElem?_range h]; simp
theorem xorR_set (c low j : Nat) (h : j < 32) : (xorR c low j).set j ((c / 2 ^ j % 2) ^^^ (low * (3988292384 / 2 ^ j % 2))) = xorR c low (j + 1) := by
  refine List.ext_getElem (by simp [xorR]) fun t h1 h2 => ?_
  rw [List.getElem_set]
  split
  · rename_i e; subst e; simp [xorR]
  · simp only [xorR, List.getElem_map, List.getElem_range]
    by_cases ht : t < j
    · rw [if_pos ht, if_pos (by omega)]
    · rw [if_neg ht, if_neg (by omega)]
theorem bit_xor (a b t : Nat) : (a ^^^ b) / 2 ^ t % 2 = (a / 2 ^ t % 2) ^^^ (b / 2 ^ t % 2) := by
  rw [← xor_mod2, ← Nat.shiftRight_eq_div_pow, ← Nat.shiftRight_eq_div_pow, ← Nat.shiftRight_eq_div_pow, Nat.shiftRight_xor_distrib]
theorem xorR_full (c p : Nat) : xorR c (p % 2) 32 = bitsOf (c ^^^ (if p % 2 = 1 then 3988292384 else 0)) := by
  refine List.ext_getElem (by simp [xorR, bitsOf]) fun t h1 h2 => ?_
  rw [xorR_len] at h1
  simp only [xorR, bitsOf, List.getElem_map, List.getElem_range]
  rw [if_pos h1, bit_xor]
  rcases bit_cases p with e | e <;> rw [e] <;> simp
theorem refR_next (c b k : Nat) : refR c b k / 2 ^^^ (if stepsN k (c ^^^ b) % 2 = 1 then 3988292384 else 0) = refR c b (k + 1) := by
  unfold refR
  rw [stepsN, stepN]
  have e : ∀ a b : Nat, (a ^^^ b) / 2 = (a / 2) ^^^ (b / 2) := fun a b => by
    have := @Nat.shiftRight_xor_distrib 1 a b
    simpa [Nat.shiftRight_eq_div_pow] using this
  rw [e, Nat.div_div_eq_div_mul, ← Nat.pow_succ]
  generalize stepsN k (c ^^^ b) / 2 = x
  generalize b / 2 ^ (k + 1) = y
  generalize (if stepsN k (c ^^^ b) % 2 = 1 then 3988292384 else 0) = z
  rw [Nat.xor_assoc, Nat.xor_assoc, Nat.xor_comm y z]
theorem wrap_u64n (n : Int) (h1 : 0 ≤ n) (h2 : n ≤ 18446744073709551615) : IntKind.u64.wrap n = n := by
  simp [IntKind.wrap, IntKind.bits, IntKind.signed]; omega
theorem wrap_i64n (n : Int) (h0 : 0 ≤ n) (h : n < 2 ^ 62) : IntKind.i64.wrap n = n := wn n (by omega) (by omega)
theorem poly_bit (j : Nat) : bits .and .i64 (3988292384 / 2 ^ j) 1 = ((3988292384 / 2 ^ j % 2 : Nat) : Int) := by
  have e0 : (3988292384 : Int) / 2 ^ j = ((3988292384 / 2 ^ j : Nat) : Int) := by rw [Int.natCast_ediv, Int.natCast_pow]; rfl
  have := (bits_nat .i64 62 (by decide) wrap_i64n (3988292384 / 2 ^ j) 1 (Nat.lt_of_le_of_lt (Nat.div_le_self _ _) (by decide)) (by decide)).1
  rw [Nat.and_one_is_mod] at this
  rw [e0]; exact this
theorem low_mul (p q : Nat) : IntKind.i64.wrap (((p % 2 : Nat) : Int) * ((q % 2 : Nat) : Int)) = ((p % 2 * (q % 2) : Nat) : Int) := by
  rcases bit_cases p with e | e <;> rcases bit_cases q with e2 | e2 <;> rw [e, e2] <;> decide
theorem xor_low (a p q : Nat) : bits .xor .i64 ((a % 2 : Nat) : Int) ((p % 2 * (q % 2) : Nat) : Int) = ((a % 2 ^^^ (p % 2 * (q % 2)) : Nat) : Int) :=
  xor_bits (bit_cases _) (by rcases bit_cases p with e | e <;> rcases bit_cases q with e2 | e2 <;> rw [e, e2] <;> simp)
theorem comp_bit (c j : Nat) (h : c < 4294967296) (hj : j < 32) : (4294967295 - c) / 2 ^ j = 2 * ((4294967295 - c) / 2 ^ (j + 1)) + 1 - c / 2 ^ j % 2 := by
  have e1 : (4294967295 - c) / 2 ^ j % 2 = 1 - c / 2 ^ j % 2 := by
    have := Nat.testBit_two_pow_sub_succ (n := 32) h j
    rw [show 2 ^ 32 - (c + 1) = 4294967295 - c from by omega] at this
    rw [Nat.testBit_eq_decide_div_mod_eq, Nat.testBit_eq_decide_div_mod_eq, decide_eq_true hj, Bool.true_and] at this
    rcases bit_cases (c / 2 ^ j) with e | e <;> rcases bit_cases ((4294967295 - c) / 2 ^ j) with e2 | e2 <;> rw [e, e2] at this <;> simp at this <;> omega
  have e2 : (4294967295 - c) / 2 ^ (j + 1) = (4294967295 - c) / 2 ^ j / 2 := by rw [Nat.div_div_eq_div_mul, Nat.pow_succ]
  rw [e2]
  have := bit_cases (c / 2 ^ j)
  omega
theorem ref_sum_c (s : List UInt8) (h : okS s) : acall Tryd.prog [] 80 [S s] (ret (I (sumN s))) := by
  unfold okS at h
  refine zi tabOk Tryd.func80 rfl (by kernel_rfl) (by simp [Tryd.ntmps80]) ?_; simp only [Tryd.ntmps80, Tryd.results80, List.toList_toArray, apar, List.length_nil, List.length_cons, Nat.reduceAdd]
  (repeat' first
| (with_reducible refine AR.f ?_)
| refine zb (by decide) ?_
| (with_reducible refine AWP.cond rfl ?_ ?_ <;> intro hc <;> (try simp only [hcs, beq_iff_eq, ge_iff_le, gt_iff_lt] at hc))
| ((first | ((first | (with_reducible first | refine zR ?_ | refine zQ (by decide +kernel) ?_ | refine zD (by decide +kernel) ?_ | refine zE (by decide +kernel) ?_ | refine zG (by decide +kernel) ?_)); intro K hK) | ((first | (with_reducible refine zu ?_ ?_ <;> intro hg) | with_reducible intro hg) <;> (first | (exfalso; simp at hg; done) | (have hg' := hg; (try simp only [hcs, beq_iff_eq, ge_iff_le, gt_iff_lt] at hg'); (try simp only [hg]))))) <;> (try simp (disch := omega) only [go_sem, wn]) <;> (repeat' with_reducible refine And.intro ?_ ?_) <;> (try (with_reducible refine hK _ ?_; clear hK K)))
| omega)
  refine AWP.loopB (ι := Nat) (fun k => k ≤ 32) (fun k => 32 - k) [0, 3] (fun k => [(12, I k)]) (fun k => [.cells (cl (reg0 k))]) 0 ?_ ?_ ?_
  · omega
  · rw [cl_start]; simp only [go_sem]; (refine SImp.same ?_; simp (disch := omega) only [go_sem, wn, Int.natCast_add])
  intro k hk
  have hl := reg0_len k hk
  simp only [go_sem]
  (repeat' first
| (with_reducible refine AR.f ?_)
| refine zb (by decide) ?_
| (with_reducible refine AWP.cond rfl ?_ ?_ <;> intro hc <;> (try simp only [hcs, beq_iff_eq, ge_iff_le, gt_iff_lt] at hc))
| ((first | ((first | (with_reducible first | refine zR ?_ | refine zQ (by decide +kernel) ?_ | refine zD (by decide +kernel) ?_ | refine zE (by decide +kernel) ?_ | refine zG (by decide +kernel) ?_)); intro K hK) | ((first | (with_reducible refine zu ?_ ?_ <;> intro hg) | with_reducible intro hg) <;> (first | (exfalso; simp at hg; done) | (have hg' := hg; (try simp only [hcs, beq_iff_eq, ge_iff_le, gt_iff_lt] at hg'); (try simp only [hg]))))) <;> (try simp (disch := omega) only [go_sem, wn, cl_len, reg0_len, Nat.mul_one, cl_set1, reg0_set]) <;> (repeat' with_reducible refine And.intro ?_ ?_) <;> (try (with_reducible refine hK _ ?_; clear hK K)))
| omega)
  · refine ⟨k + 1, by omega, by omega, ?_⟩
    (refine SImp.same ?_; simp (disch := omega) only [go_sem, wn, Int.natCast_add])
  · have e0 : k = 32 := by omega
    subst e0
    rw [reg0_full]
    refine AWP.loopB (ι := Nat) (fun i => i ≤ s.length) (fun i => s.length - i) [3, 19, 20] (fun i => [(21, I i)]) (fun i => [.cells (cl (bitsOf (crcN (s.take i)))), .bytes s]) 0 ?_ ?_ ?_
    · omega
    · simp only [go_sem, crc_nil]; (refine SImp.same ?_; simp (disch := omega) only [go_sem, wn, Int.natCast_add])
    intro i hi
    have hc0 := crcN_lt (s.take i)
    simp only [go_sem]
    (repeat' first
  | (with_reducible refine AR.f ?_)
  | refine zb (by decide) ?_
  | (with_reducible refine AWP.cond rfl ?_ ?_ <;> intro hc <;> (try simp only [hcs, beq_iff_eq, ge_iff_le, gt_iff_lt] at hc))
  | ((first | ((first | (with_reducible first | refine zR ?_ | refine zQ (by decide +kernel) ?_ | refine zD (by decide +kernel) ?_ | refine zE (by decide +kernel) ?_ | refine zG (by decide +kernel) ?_)); intro K hK) | ((first | (with_reducible refine zu ?_ ?_ <;> intro hg) | with_reducible intro hg) <;> (first | (exfalso; simp at hg; done) | (have hg' := hg; (try simp only [hcs, beq_iff_eq, ge_iff_le, gt_iff_lt] at hg'); (try simp only [hg]))))) <;> (try simp (disch := omega) only [go_sem, wn, u8g]) <;> (repeat' with_reducible refine And.intro ?_ ?_) <;> (try (with_reducible refine hK _ ?_; clear hK K)))
  | omega)
    · refine AWP.loopB (ι := Nat) (fun k => k ≤ 8) (fun k => 8 - k) [3, 6, 19, 20, 21] (fun k => [(7, .d (.int .u64 k))]) (fun k => [.cells (cl (bitsOf (refR (crcN (s.take i)) (s.getD i 0).toNat k))), .bytes s]) 0 ?_ ?_ ?_
      · omega
      · simp only [go_sem, refR_zero]; (refine SImp.same ?_; simp (disch := omega) only [go_sem, wn, Int.natCast_add])
      intro k hk
      have hr := refR_lt hc0 (u8_lt32 (s.getD i 0)) k
      have hbl := bitsOf_len (refR (crcN (s.take i)) (s.getD i 0).toNat k)
      simp only [go_sem]
      (repeat' first
    | (with_reducible refine AR.f ?_)
    | refine zb (by decide) ?_
    | (with_reducible refine AWP.cond rfl ?_ ?_ <;> intro hc <;> (try simp only [hcs, beq_iff_eq, ge_iff_le, gt_iff_lt] at hc))
    | ((first | ((first | (with_reducible first | refine zR ?_ | refine zQ (by decide +kernel) ?_ | refine zD (by decide +kernel) ?_ | refine zE (by decide +kernel) ?_ | refine zG (by decide +kernel) ?_)); intro K hK) | ((first | (with_reducible refine zu ?_ ?_ <;> intro hg) | with_reducible intro hg) <;> (first | (exfalso; simp at hg; done) | (have hg' := hg; (try simp only [hcs, beq_iff_eq, ge_iff_le, gt_iff_lt] at hg'); (try simp only [hg]))))) <;> (try simp (disch := omega) only [go_sem, wn, cl_len, bitsOf_len, cl_get, bitsOf_get, cl_set0]) <;> (repeat' with_reducible refine And.intro ?_ ?_) <;> (try (with_reducible refine hK _ ?_; clear hK K)))
    | omega)
      · rw [shift_cl _ hr, out_eq]
        refine AWP.loopB (ι := Nat) (fun j => j ≤ 32) (fun j => 32 - j) [3, 6, 7, 8, 19, 20, 21] (fun j => [(41, I j)]) (fun j => [.cells (cl (xorR (refR (crcN (s.take i)) (s.getD i 0).toNat k / 2) (stepsN k (crcN (s.take i) ^^^ (s.getD i 0).toNat) % 2) j)), .bytes s]) 0 ?_ ?_ ?_
        · omega
        · simp only [go_sem, xorR_zero]; (refine SImp.same ?_; simp (disch := omega) only [go_sem, wn, Int.natCast_add])
        intro j hj
        have hxl := xorR_len (refR (crcN (s.take i)) (s.getD i 0).toNat k / 2) (stepsN k (crcN (s.take i) ^^^ (s.getD i 0).toNat) % 2) j
        simp only [go_sem]
        (repeat' first
      | (with_reducible refine AR.f ?_)
      | refine zb (by decide) ?_
      | (with_reducible refine AWP.cond rfl ?_ ?_ <;> intro hc <;> (try simp only [hcs, beq_iff_eq, ge_iff_le, gt_iff_lt] at hc))
      | ((first | ((first | (with_reducible first | refine zR ?_ | refine zQ (by decide +kernel) ?_ | refine zD (by decide +kernel) ?_ | refine zE (by decide +kernel) ?_ | refine zG (by decide +kernel) ?_)); intro K hK) | ((first | (with_reducible refine zu ?_ ?_ <;> intro hg) | with_reducible intro hg) <;> (first | (exfalso; simp at hg; done) | (have hg' := hg; (try simp only [hcs, beq_iff_eq, ge_iff_le, gt_iff_lt] at hg'); (try simp only [hg]))))) <;> (try simp (disch := omega) only [go_sem, wn, Nat.mul_one, cl_len, xorR_len, cl_get, xorR_get, wrap_u64n, poly_bit, low_mul, xor_low, cl_set, xorR_set]) <;> (repeat' with_reducible refine And.intro ?_ ?_) <;> (try (with_reducible refine hK _ ?_; clear hK K)))
      | omega)
        · refine ⟨j + 1, by omega, by omega, ?_⟩
          (refine SImp.same ?_; simp (disch := omega) only [go_sem, wn, Int.natCast_add])
        · have e0 : j = 32 := by omega
          subst e0
          refine ⟨k + 1, by omega, by omega, ?_⟩
          rw [xorR_full, refR_next]
          (refine SImp.same ?_; simp (disch := omega) only [go_sem, wn, Int.natCast_add, wrap_u64n])
      · have e0 : k = 8 := by omega
        subst e0
        refine ⟨i + 1, by omega, by omega, ?_⟩
        rw [refR_end, ← crcN_snoc _ _ (by omega)]
        (refine SImp.same ?_; simp (disch := omega) only [go_sem, wn, Int.natCast_add])
    · have e0 : i = s.length := by omega
      subst e0
      rw [List.take_length] at *
      have hbl := bitsOf_len (crcN s)
      have hM : ∀ j, (4294967295 - crcN s) / 2 ^ j ≤ 4294967295 := fun j => Nat.le_trans (Nat.div_le_self _ _) (Nat.sub_le _ _)
      have hz : (4294967295 - crcN s) / 4294967296 = 0 := Nat.div_eq_of_lt (by omega)
      refine AWP.loopB (ι := Nat) (fun j => j ≤ 32) (fun j => j) [3] (fun j => [(10, I ((4294967295 - crcN s) / 2 ^ j : Nat)), (11, I ((j : Int) - 1))]) (fun j => [.cells (cl (bitsOf (crcN s))), .bytes s]) 32 ?_ ?_ ?_
      · omega
      · simp only [go_sem]; (refine SImp.same ?_; simp (disch := omega) only [go_sem, wn, Int.natCast_add, hz])
      intro j hj
      have hMj := hM j
      have hb2 := bit_cases (crcN s / 2 ^ (j - 1))
      simp only [go_sem]
      (repeat' first
    | (with_reducible refine AR.f ?_)
    | refine zb (by decide) ?_
    | (with_reducible refine AWP.cond rfl ?_ ?_ <;> intro hc <;> (try simp only [hcs, beq_iff_eq, ge_iff_le, gt_iff_lt] at hc))
    | ((first | ((first | (with_reducible first | refine zR ?_ | refine zQ (by decide +kernel) ?_ | refine zD (by decide +kernel) ?_ | refine zE (by decide +kernel) ?_ | refine zG (by decide +kernel) ?_)); intro K hK) | ((first | (with_reducible refine zu ?_ ?_ <;> intro hg) | with_reducible intro hg) <;> (first | (exfalso; simp at hg; done) | (have hg' := hg; (try simp only [hcs, beq_iff_eq, ge_iff_le, gt_iff_lt] at hg'); (try simp only [hg]))))) <;> (try simp (disch := omega) only [go_sem, wn, Nat.mul_one, cl_len, bitsOf_len, toNat_pr2, cl_get, bitsOf_get]) <;> (repeat' with_reducible refine And.intro ?_ ?_) <;> (try (with_reducible refine hK _ ?_; clear hK K)))
    | omega)
      · refine ⟨j - 1, by omega, by omega, ?_⟩
        have e1 := comp_bit (crcN s) (j - 1) (by omega) (by omega)
        rw [show j - 1 + 1 = j from by omega] at e1
        have e2 : 2 * (((4294967295 - crcN s) / 2 ^ j : Nat) : Int) + 1 - ((crcN s / 2 ^ (j - 1) % 2 : Nat) : Int) = (((4294967295 - crcN s) / 2 ^ (j - 1) : Nat) : Int) := by omega
        have e3 : (j : Int) - 1 = ((j - 1 : Nat) : Int) := by omega
        simp only [e3]
        (refine SImp.same ?_; simp (disch := omega) only [go_sem, wn, Int.natCast_add, e2])
      · have e0 : j = 0 := by omega
        subst e0
        (refine zF rfl ?_ ?_ ?_ ?_; (iterate 3 (focus ((try simp (disch := omega) only [go_sem, wn, sumN, Nat.pow_zero, Nat.div_one]) <;> (try omega) <;> fail))); (try simp (disch := omega) only [go_sem, wn, sumN, Nat.pow_zero, Nat.div_one, I, B, S, inj, List.cons.injEq, and_true, true_and, and_self]))
end Go.Proofs.YtmpfhalheaeibaaDoor
namespace Go.Proofs.YtmpfhalheaeibaaDoor
set_option linter.unusedVariables false
set_option linter.unusedSimpArgs false
open Go Go.RowKit
set_option maxRecDepth 100000
set_option linter.unusedSimpArgs false
def byteAt (k : Nat) (v : Int) : UInt8 := UInt8.ofNat ((v / 2 ^ (8 * k)) % 256).toNat
def beB : Nat → Int → List UInt8
  | 0, _ => []
  | n + 1, v => byteAt n v :: beB n v
theorem beB_len (v : Int) : ∀ n, (beB n v).length = n
  | 0 => rfl
  | n + 1 => by rw [beB, List.length_cons, beB_len v n]
theorem u8_wrap (x : Int) : IntKind.u8.wrap x = ((UInt8.ofNat (x % 256).toNat).toNat : Int) := by
  rw [UInt8.toNat_ofNat']
  simp [IntKind.wrap, IntKind.bits, IntKind.signed]; omega
theorem u8_byte (j : Nat) (v : Int) : IntKind.u8.wrap (v / 2 ^ (8 * j)) = ((byteAt j v).toNat : Int) := u8_wrap _
def b5 (t : ATxn) : List UInt8 := (beB 8 t.zxid ++ [byteAt 0 t.op]) ++ beB 4 t.session
def b6 (t : ATxn) : List UInt8 := (b5 t ++ beB 4 t.version) ++ beB 4 t.owner
def b7 (t : ATxn) : List UInt8 := (b6 t ++ [byteAt 0 t.path.length]) ++ t.path
theorem bytesOf_c (v : Int) (n : Nat) (hn : n ≤ 8) : acall Tryd.prog [] 79 [I v, I n] (ret (S (beB n v))) := by
  refine zi tabOk Tryd.func79 rfl (by kernel_rfl) (by simp [Tryd.ntmps79]) ?_; simp only [Tryd.ntmps79, Tryd.results79, List.toList_toArray, apar, List.length_nil, List.length_cons, Nat.reduceAdd]
  (repeat' first
| (with_reducible refine AR.f ?_)
| refine zb (by decide) ?_
| (with_reducible refine AWP.cond rfl ?_ ?_ <;> intro hc <;> (try simp only [hcs, beq_iff_eq, ge_iff_le, gt_iff_lt] at hc))
| ((first | ((first | (with_reducible first | refine zR ?_ | refine zQ (by decide +kernel) ?_ | refine zD (by decide +kernel) ?_ | refine zE (by decide +kernel) ?_ | refine zG (by decide +kernel) ?_)); intro K hK) | ((first | (with_reducible refine zu ?_ ?_ <;> intro hg) | with_reducible intro hg) <;> (first | (exfalso; simp at hg; done) | (have hg' := hg; (try simp only [hcs, beq_iff_eq, ge_iff_le, gt_iff_lt] at hg'); (try simp only [hg]))))) <;> (try simp (disch := omega) only [go_sem, wn]) <;> (repeat' with_reducible refine And.intro ?_ ?_) <;> (try (with_reducible refine hK _ ?_; clear hK K)))
| omega)
  refine AWP.loopB (ι := Nat) (fun j => j ≤ n) (fun j => n - j) [] (fun j => [(0, I (v / 2 ^ (8 * j))), (1, I ((n - j : Nat) : Int)), (5, S (beB j v))]) (fun j => []) 0 ?_ ?_ ?_
  · omega
  · simp only [go_sem, Nat.mul_zero, Nat.sub_zero, beB, Int.pow_zero, Int.ediv_one]; (refine SImp.same ?_; simp (disch := omega) only [go_sem, wn, Int.natCast_add])
  intro j hj
  have hu : [DV.int IntKind.u8 ((byteAt j v).toNat : Int)] = u8row (byteAt j v) := rfl
  have ok1 : okU8s [[DV.int IntKind.u8 ((byteAt j v).toNat : Int)]] := okU8s_rows [byteAt j v]
  have hdiv : v / 2 ^ (8 * j) / 256 = v / 2 ^ (8 * (j + 1)) := by
    rw [Int.ediv_ediv_of_nonneg (Int.pow_nonneg (by decide)), show (8 * (j + 1)) = 8 * j + 8 from by omega, Int.pow_add]; rfl
  simp only [go_sem]
  (repeat' first
| (with_reducible refine AR.f ?_)
| refine zb (by decide) ?_
| (with_reducible refine AWP.cond rfl ?_ ?_ <;> intro hc <;> (try simp only [hcs, beq_iff_eq, ge_iff_le, gt_iff_lt] at hc))
| ((first | ((first | (with_reducible first | refine zR ?_ | refine zQ (by decide +kernel) ?_ | refine zD (by decide +kernel) ?_ | refine zE (by decide +kernel) ?_ | refine zG (by decide +kernel) ?_)); intro K hK) | ((first | (with_reducible refine zu ?_ ?_ <;> intro hg) | with_reducible intro hg) <;> (first | (exfalso; simp at hg; done) | (have hg' := hg; (try simp only [hcs, beq_iff_eq, ge_iff_le, gt_iff_lt] at hg'); (try simp only [hg]))))) <;> (try simp (disch := omega) only [go_sem, wn, u8_byte, ok1, Int.toNat_natCast, UInt8.ofNat_toNat, hdiv]) <;> (repeat' with_reducible refine And.intro ?_ ?_) <;> (try (with_reducible refine hK _ ?_; clear hK K)))
| omega)
  · rw [beB_len]; omega
  · refine ⟨j + 1, by omega, by omega, ?_⟩
    have hs : ((n - j : Nat) : Int) - 1 = ((n - (j + 1) : Nat) : Int) := by omega
    (refine SImp.frame [] rfl (by intro k hk; first | (simp at hk <;> (simp; omega)) | (simp only [List.mem_cons, List.not_mem_nil, or_false] at hk; simp only [List.length_cons, List.length_nil]; omega)) (by decide) (fun k hk => by first | omega | (rcases k with _ | _ | _ | _ | _ | _ | _ | _ | k <;> first | rfl | omega)) ?_ ?_ <;> simp (disch := omega) only [go_sem, wn, Int.natCast_add, u8_byte, hdiv, beB, hs] <;> (try rfl))
  · rw [show j = n from by omega]
    (refine zF rfl ?_ ?_ ?_ ?_; (iterate 3 (focus ((try simp (disch := omega) only [go_sem, wn]) <;> (try omega) <;> fail))); (try simp (disch := omega) only [go_sem, wn, I, B, S, inj, List.cons.injEq, and_true, true_and, and_self]))
theorem bytesOf_at (v : Int) (n : Nat) (hn : n ≤ 8) (ni : Int) (hi : ni = n) : acall Tryd.prog [] 79 [I v, I ni] (ret (S (beB n v))) := by
  subst hi; exact bytesOf_c v n hn
end Go.Proofs.YtmpfhalheaeibaaDoor
namespace Go.Proofs.YtmpfhalheaeibaaDoor
set_option linter.unusedVariables false
set_option linter.unusedSimpArgs false
open Go Go.RowKit
set_option maxRecDepth 100000
set_option linter.unusedSimpArgs false
def statL (n : ANode) : List Int := [n.stat.czxid, n.stat.mzxid, n.stat.pzxid, n.stat.version, n.stat.cversion, n.stat.owner, n.stat.kids]
def beL (k : Nat) (l : List Int) : List UInt8 := l.flatMap (beB k)
theorem beL_len (k : Nat) (l : List Int) : (beL k l).length = k * l.length := by
  unfold beL; induction l with
  | nil => rfl
  | cons x l ih => rw [List.flatMap_cons, List.length_append, ih, beB_len, List.length_cons, Nat.mul_add]; omega
theorem take_snocD {α : Type} (l : List α) (i : Nat) (d : α) (h : i < l.length) : l.take (i + 1) = l.take i ++ [l.getD i d] := by
  rw [List.take_add_one, List.getElem?_eq_getElem h]; simp [List.getD_eq_getElem?_getD, h]
theorem beL_nil (k : Nat) : beL k [] = [] := rfl
theorem beL_snoc (k : Nat) (l : List Int) (i : Nat) (h : i < l.length) : beL k (l.take (i + 1)) = beL k (l.take i) ++ beB k (l.getD i default) := by
  unfold beL; rw [take_snocD l i default h, List.flatMap_append]; simp
def nodeB (n : ANode) : List UInt8 := (([byteAt 0 n.path.length] ++ n.path) ++ beB 2 n.data.length) ++ n.data
def recB (n : ANode) : List UInt8 := nodeB n ++ beL 8 (statL n)
def recsB (l : List ANode) : List UInt8 := l.flatMap recB
theorem recsB_nil : recsB [] = [] := rfl
theorem recsB_snoc (l : List ANode) (i : Nat) (h : i < l.length) : recsB (l.take (i + 1)) = recsB (l.take i) ++ recB (l.getD i default) := by
  unfold recsB; rw [take_snocD l i default h, List.flatMap_append]; simp
theorem nodeB_len (n : ANode) : (nodeB n).length = 3 + n.path.length + n.data.length := by unfold nodeB; simp only [List.length_append, beB_len, List.length_cons, List.length_nil]; omega
theorem recB_len (n : ANode) : (recB n).length = 59 + n.path.length + n.data.length := by unfold recB; rw [List.length_append, nodeB_len, beL_len]; simp [statL]; omega
def s2B (t : ATree) : List UInt8 := [83] ++ beB 8 t.zxid ++ beB 4 t.sessions.length
def s4B (t : ATree) : List UInt8 := s2B t ++ beL 4 t.sessions ++ beB 4 t.nodes.length
def allB (t : ATree) : List UInt8 := s4B t ++ recsB t.nodes
def snapW (t : ATree) : List UInt8 × Int := if goodTr t = true then (allB t ++ beB 4 (sumN (allB t)), 0) else ([], 3)
theorem s2B_len (t : ATree) : (s2B t).length = 13 := by simp [s2B, beB_len]
theorem s4B_len (t : ATree) : (s4B t).length = 17 + 4 * t.sessions.length := by unfold s4B; simp only [List.length_append, s2B_len, beL_len, beB_len]; omega
def smallT (t : ATree) : Prop := t.nodes.length ≤ 1048576 ∧ t.sessions.length ≤ 1048576 ∧ ∀ x, x ∈ t.nodes → x.path.length ≤ 1048576 ∧ x.data.length ≤ 1048576
theorem recsB_le {l : List ANode} (h : ∀ x, x ∈ l → x.path.length ≤ 1048576 ∧ x.data.length ≤ 1048576) : (recsB l).length ≤ l.length * 2097211 := by
  unfold recsB; induction l with
  | nil => exact Nat.zero_le _
  | cons x l ih =>
    have h1 := h x (List.mem_cons_self ..)
    have h2 := ih fun y hy => h y (List.mem_cons_of_mem _ hy)
    rw [List.flatMap_cons, List.length_append, recB_len, List.length_cons]; omega
theorem recsB_small {t : ATree} (h : smallT t) (k : Nat) (hk : k ≤ t.nodes.length) : (recsB (t.nodes.take k)).length ≤ 2199085580288 := by
  have h1 := h.1
  have := recsB_le (l := t.nodes.take k) fun x hx => h.2.2 x (List.mem_of_mem_take hx)
  rw [List.length_take] at this; omega
theorem allB_small {t : ATree} (h : smallT t) : (allB t).length ≤ 4398046511104 := by
  have h1 := recsB_small h t.nodes.length (Nat.le_refl _)
  have h2 := h.2.1
  rw [List.take_length] at h1
  unfold allB; rw [List.length_append, s4B_len]; omega
def posB (t : ATree) (k : Nat) : Nat := (s4B t ++ recsB (t.nodes.take k)).length
theorem posB_small {t : ATree} (h : smallT t) (k : Nat) (hk : k ≤ t.nodes.length) : posB t k ≤ 2199093968896 := by
  have h1 := recsB_small h k hk
  have h2 := h.2.1
  unfold posB; rw [List.length_append, s4B_len]; omega
theorem ptrs_get (k o j : Nat) (h : j < 7) : List.getD [AV.ptr k o, .ptr k (o + 1), .ptr k (o + 2), .ptr k (o + 3), .ptr k (o + 4), .ptr k (o + 5), .ptr k (o + 6)] j .any = .ptr k (o + j) := by
  rcases j with _ | _ | _ | _ | _ | _ | _ | j <;> first | rfl | omega
set_option maxHeartbeats 8000000 in
theorem ref_snapWrite_c (t : ATree) (hw : t.wf) (hs : smallT t) : acall Tryd.prog [] 28 [t.av] (ret (.tup [S (snapW t).1, I (snapW t).2])) := by
  have hP : ∀ x, x ∈ t.nodes → x.path.length ≤ 1048576 := fun x hx => (hs.2.2 x hx).1
  by_cases g : goodTr t = true
  case neg =>
    unfold snapW
    rw [if_neg g]
    refine zi tabOk Tryd.func28 rfl (by kernel_rfl) (by simp [Tryd.ntmps28]) ?_; simp only [Tryd.ntmps28, Tryd.results28, List.toList_toArray, apar, List.length_nil, List.length_cons, Nat.reduceAdd]
    (repeat' first
  | (with_reducible refine AR.f ?_)
  | refine zb (by decide) ?_
  | (with_reducible refine AWP.cond rfl ?_ ?_ <;> intro hc <;> (try simp only [hcs, beq_iff_eq, ge_iff_le, gt_iff_lt] at hc))
  | ((first | ((first | (with_reducible first | refine zR ?_ | refine zQ (by decide +kernel) ?_ | refine zD (by decide +kernel) ?_ | refine zE (by decide +kernel) ?_ | refine zG (by decide +kernel) ?_)); intro K hK) | ((first | refine zA ((ref_tgood_c t hw hP).re (congrArg B (eq_false_of_ne_true g))) ?_ ?_ ?_ ?_ ?_); (focus exact rfl); (focus exact rfl); iterate 2 (focus ((try simp (disch := omega) only [go_sem, wn]) <;> (try omega) <;> fail))) | ((first | refine zN ((ref_tgood_c t hw hP).re (congrArg B (eq_false_of_ne_true g))) rfl ?_ ?_); (focus ((try simp (disch := omega) only [go_sem, wn]) <;> (try omega) <;> fail))) | (first | ((first | refine zX ((ref_tgood_c t hw hP).re (congrArg B (eq_false_of_ne_true g))) rfl ?_ ?_ | refine zy ((ref_tgood_c t hw hP).re (congrArg B (eq_false_of_ne_true g))) ?_ ?_); (focus ((try simp (disch := omega) only [go_sem, wn]) <;> (try omega) <;> fail)))) | ((first | (with_reducible refine zu ?_ ?_ <;> intro hg) | with_reducible intro hg) <;> (first | (exfalso; simp at hg; done) | (have hg' := hg; (try simp only [hcs, beq_iff_eq, ge_iff_le, gt_iff_lt] at hg'); (try simp only [hg]))))) <;> (try simp (disch := omega) only [go_sem, wn]) <;> (repeat' with_reducible refine And.intro ?_ ?_) <;> (try (with_reducible refine hK _ ?_; clear hK K)))
  | omega)
    all_goals (refine zF rfl ?_ ?_ ?_ ?_; (iterate 3 (focus ((try simp (disch := omega) only [go_sem, wn]) <;> (try omega) <;> fail))); (try simp (disch := omega) only [go_sem, wn, I, B, S, inj, List.cons.injEq, and_true, true_and, and_self]))
  unfold snapW
  rw [if_pos g]
  have hsm := allB_small hs
  have hsum := ref_sum_c (allB t) (by unfold okS; omega)
  have h1 := bytesOf_at t.zxid 8 (by decide) 8 rfl
  have h2 := bytesOf_at t.sessions.length 4 (by decide) 4 rfl
  have h3 := bytesOf_at t.nodes.length 4 (by decide) 4 rfl
  have h4 := bytesOf_at (sumN (allB t)) 4 (by decide) 4 rfl
  refine zi tabOk Tryd.func28 rfl (by kernel_rfl) (by simp [Tryd.ntmps28]) ?_; simp only [Tryd.ntmps28, Tryd.results28, List.toList_toArray, apar, List.length_nil, List.length_cons, Nat.reduceAdd]
  (repeat' first
| (with_reducible refine AR.f ?_)
| refine zb (by decide) ?_
| (with_reducible refine AWP.cond rfl ?_ ?_ <;> intro hc <;> (try simp only [hcs, beq_iff_eq, ge_iff_le, gt_iff_lt] at hc))
| ((first | ((first | (with_reducible first | refine zR ?_ | refine zQ (by decide +kernel) ?_ | refine zD (by decide +kernel) ?_ | refine zE (by decide +kernel) ?_ | refine zG (by decide +kernel) ?_)); intro K hK) | ((first | refine zA ((ref_tgood_c t hw hP).re (congrArg B g)) ?_ ?_ ?_ ?_ ?_ | refine zA h1 ?_ ?_ ?_ ?_ ?_ | refine zA h2 ?_ ?_ ?_ ?_ ?_); (focus exact rfl); (focus exact rfl); iterate 2 (focus ((try simp (disch := omega) only [go_sem, wn, beB_len]) <;> (try omega) <;> fail))) | ((first | refine zN ((ref_tgood_c t hw hP).re (congrArg B g)) rfl ?_ ?_ | refine zN h1 rfl ?_ ?_ | refine zN h2 rfl ?_ ?_); (focus ((try simp (disch := omega) only [go_sem, wn, beB_len]) <;> (try omega) <;> fail))) | (first | ((first | refine zX ((ref_tgood_c t hw hP).re (congrArg B g)) rfl ?_ ?_ | refine zy ((ref_tgood_c t hw hP).re (congrArg B g)) ?_ ?_); (focus ((try simp (disch := omega) only [go_sem, wn, beB_len]) <;> (try omega) <;> fail))) | ((first | refine zX h1 rfl ?_ ?_ | refine zy h1 ?_ ?_); (focus ((try simp (disch := omega) only [go_sem, wn, beB_len]) <;> (try omega) <;> fail))) | ((first | refine zX h2 rfl ?_ ?_ | refine zy h2 ?_ ?_); (focus ((try simp (disch := omega) only [go_sem, wn, beB_len]) <;> (try omega) <;> fail)))) | ((first | (with_reducible refine zu ?_ ?_ <;> intro hg) | with_reducible intro hg) <;> (first | (exfalso; simp at hg; done) | (have hg' := hg; (try simp only [hcs, beq_iff_eq, ge_iff_le, gt_iff_lt] at hg'); (try simp only [hg]))))) <;> (try simp (disch := omega) only [go_sem, wn, beB_len]) <;> (repeat' with_reducible refine And.intro ?_ ?_) <;> (try (with_reducible refine hK _ ?_; clear hK K)))
| omega)
  refine AWP.loopB (ι := Nat) (fun k => k ≤ t.sessions.length) (fun k => t.sessions.length - k) [1, 24, 25] (fun k => [(4, S (s2B t ++ beL 4 (t.sessions.take k))), (26, I k)]) (fun k => [.cells [I t.zxid, .d (.sl 9 (t.nodes.map ANode.row)), .d (.sl 1 (t.sessions.map irow))]]) 0 ?_ ?_ ?_
  · omega
  · simp only [go_sem]; (refine SImp.frame [0] rfl (by intro k hk; first | (simp at hk <;> (simp; omega)) | (simp only [List.mem_cons, List.not_mem_nil, or_false] at hk; simp only [List.length_cons, List.length_nil]; omega)) (by decide) (fun k hk => by first | omega | (rcases k with _ | _ | _ | _ | _ | _ | _ | _ | k <;> first | rfl | omega)) ?_ ?_ <;> simp (disch := omega) only [go_sem, wn, Int.natCast_add, s2B, beL_nil] <;> (try rfl))
  intro k hk
  have hS := hs.2.1
  have hl2 : (s2B t ++ beL 4 (t.sessions.take k)).length ≤ 13 + 4 * t.sessions.length := by rw [List.length_append, s2B_len, beL_len, List.length_take]; omega
  simp only [go_sem]
  by_cases hk2 : k < t.sessions.length
  · have h5 := bytesOf_at (t.sessions.getD k default) 4 (by decide) 4 rfl
    generalize hbe : s2B t ++ beL 4 (t.sessions.take k) = b at hl2 ⊢
    (repeat' first
  | (with_reducible refine AR.f ?_)
  | refine zb (by decide) ?_
  | (with_reducible refine AWP.cond rfl ?_ ?_ <;> intro hc <;> (try simp only [hcs, beq_iff_eq, ge_iff_le, gt_iff_lt] at hc))
  | ((first | ((first | (with_reducible first | refine zR ?_ | refine zQ (by decide +kernel) ?_ | refine zD (by decide +kernel) ?_ | refine zE (by decide +kernel) ?_ | refine zG (by decide +kernel) ?_)); intro K hK) | ((first | refine zA h5 ?_ ?_ ?_ ?_ ?_); (focus exact rfl); (focus exact rfl); iterate 2 (focus ((try simp (disch := omega) only [go_sem, wn, beB_len]) <;> (try omega) <;> fail))) | ((first | refine zN h5 rfl ?_ ?_); (focus ((try simp (disch := omega) only [go_sem, wn, beB_len]) <;> (try omega) <;> fail))) | (first | ((first | refine zX h5 rfl ?_ ?_ | refine zy h5 ?_ ?_); (focus ((try simp (disch := omega) only [go_sem, wn, beB_len]) <;> (try omega) <;> fail)))) | ((first | (with_reducible refine zu ?_ ?_ <;> intro hg) | with_reducible intro hg) <;> (first | (exfalso; simp at hg; done) | (have hg' := hg; (try simp only [hcs, beq_iff_eq, ge_iff_le, gt_iff_lt] at hg'); (try simp only [hg]))))) <;> (try simp (disch := omega) only [go_sem, wn, beB_len]) <;> (repeat' with_reducible refine And.intro ?_ ?_) <;> (try (with_reducible refine hK _ ?_; clear hK K)))
  | omega)
    refine ⟨k + 1, by omega, by omega, ?_⟩
    rw [beL_snoc 4 t.sessions k hk2, ← List.append_assoc, hbe]
    (refine SImp.frame [0] rfl (by intro k hk; first | (simp at hk <;> (simp; omega)) | (simp only [List.mem_cons, List.not_mem_nil, or_false] at hk; simp only [List.length_cons, List.length_nil]; omega)) (by decide) (fun k hk => by first | omega | (rcases k with _ | _ | _ | _ | _ | _ | _ | _ | k <;> first | rfl | omega)) ?_ ?_ <;> simp (disch := omega) only [go_sem, wn, Int.natCast_add, true_and] <;> (try rfl))
  have hke : k = t.sessions.length := by omega
  subst hke
  rw [List.take_length] at hl2 ⊢
  generalize hbe : s2B t ++ beL 4 t.sessions = b at hl2 ⊢
  (repeat' first
| (with_reducible refine AR.f ?_)
| refine zb (by decide) ?_
| (with_reducible refine AWP.cond rfl ?_ ?_ <;> intro hc <;> (try simp only [hcs, beq_iff_eq, ge_iff_le, gt_iff_lt] at hc))
| ((first | ((first | (with_reducible first | refine zR ?_ | refine zQ (by decide +kernel) ?_ | refine zD (by decide +kernel) ?_ | refine zE (by decide +kernel) ?_ | refine zG (by decide +kernel) ?_)); intro K hK) | ((first | refine zA h3 ?_ ?_ ?_ ?_ ?_); (focus exact rfl); (focus exact rfl); iterate 2 (focus ((try simp (disch := omega) only [go_sem, wn, beB_len]) <;> (try omega) <;> fail))) | ((first | refine zN h3 rfl ?_ ?_); (focus ((try simp (disch := omega) only [go_sem, wn, beB_len]) <;> (try omega) <;> fail))) | (first | ((first | refine zX h3 rfl ?_ ?_ | refine zy h3 ?_ ?_); (focus ((try simp (disch := omega) only [go_sem, wn, beB_len]) <;> (try omega) <;> fail)))) | ((first | (with_reducible refine zu ?_ ?_ <;> intro hg) | with_reducible intro hg) <;> (first | (exfalso; simp at hg; done) | (have hg' := hg; (try simp only [hcs, beq_iff_eq, ge_iff_le, gt_iff_lt] at hg'); (try simp only [hg]))))) <;> (try simp (disch := omega) only [go_sem, wn, beB_len]) <;> (repeat' with_reducible refine And.intro ?_ ?_) <;> (try (with_reducible refine hK _ ?_; clear hK K)))
| omega)
  have hs4 : b ++ beB 4 t.nodes.length = s4B t := by rw [← hbe]; rfl
  refine AWP.loopB (ι := Nat) (fun k => k ≤ t.nodes.length) (fun k => t.nodes.length - k) [42, 43] (fun k => [(4, S (s4B t ++ recsB (t.nodes.take k))), (44, I k)]) (fun k => []) 0 ?_ ?_ ?_
  · omega
  · simp only [go_sem]; (refine SImp.frame [] rfl (by intro k hk; first | (simp at hk <;> (simp; omega)) | (simp only [List.mem_cons, List.not_mem_nil, or_false] at hk; simp only [List.length_cons, List.length_nil]; omega)) (by decide) (fun k hk => by first | omega | (rcases k with _ | _ | _ | _ | _ | _ | _ | _ | k <;> first | rfl | omega)) ?_ ?_ <;> simp (disch := omega) only [go_sem, wn, Int.natCast_add, hs4, recsB_nil] <;> (try rfl))
  intro k hk
  have hN := hs.1
  have hb0 := posB_small hs k hk
  simp only [go_sem]
  by_cases hk3 : k < t.nodes.length
  case neg =>
    have hke : k = t.nodes.length := by omega
    subst hke
    rw [List.take_length, show s4B t ++ recsB t.nodes = allB t from rfl]
    (repeat' first
  | (with_reducible refine AR.f ?_)
  | refine zb (by decide) ?_
  | (with_reducible refine AWP.cond rfl ?_ ?_ <;> intro hc <;> (try simp only [hcs, beq_iff_eq, ge_iff_le, gt_iff_lt] at hc))
  | ((first | ((first | (with_reducible first | refine zR ?_ | refine zQ (by decide +kernel) ?_ | refine zD (by decide +kernel) ?_ | refine zE (by decide +kernel) ?_ | refine zG (by decide +kernel) ?_)); intro K hK) | ((first | refine zA hsum ?_ ?_ ?_ ?_ ?_ | refine zA h4 ?_ ?_ ?_ ?_ ?_); (focus exact rfl); (focus exact rfl); iterate 2 (focus ((try simp (disch := omega) only [go_sem, wn, beB_len]) <;> (try omega) <;> fail))) | ((first | refine zN hsum rfl ?_ ?_ | refine zN h4 rfl ?_ ?_); (focus ((try simp (disch := omega) only [go_sem, wn, beB_len]) <;> (try omega) <;> fail))) | (first | ((first | refine zX hsum rfl ?_ ?_ | refine zy hsum ?_ ?_); (focus ((try simp (disch := omega) only [go_sem, wn, beB_len]) <;> (try omega) <;> fail))) | ((first | refine zX h4 rfl ?_ ?_ | refine zy h4 ?_ ?_); (focus ((try simp (disch := omega) only [go_sem, wn, beB_len]) <;> (try omega) <;> fail)))) | ((first | (with_reducible refine zu ?_ ?_ <;> intro hg) | with_reducible intro hg) <;> (first | (exfalso; simp at hg; done) | (have hg' := hg; (try simp only [hcs, beq_iff_eq, ge_iff_le, gt_iff_lt] at hg'); (try simp only [hg]))))) <;> (try simp (disch := omega) only [go_sem, wn, beB_len]) <;> (repeat' with_reducible refine And.intro ?_ ?_) <;> (try (with_reducible refine hK _ ?_; clear hK K)))
  | omega)
    (refine zF rfl ?_ ?_ ?_ ?_; (iterate 3 (focus ((try simp (disch := omega) only [go_sem, wn]) <;> (try omega) <;> fail))); (try simp (disch := omega) only [go_sem, wn, I, B, S, inj, List.cons.injEq, and_true, true_and, and_self]))
  have hxm := mem_getD t.nodes default hk3
  have hb1 := recsB_snoc t.nodes k hk3
  have hl : (s4B t ++ recsB (t.nodes.take k)).length = posB t k := rfl
  generalize hbe2 : s4B t ++ recsB (t.nodes.take k) = b at hl ⊢
  obtain ⟨hx1, hx2⟩ := hs.2.2 _ hxm
  have h6 := bytesOf_at (t.nodes.getD k default).path.length 1 (by decide) 1 rfl
  have h7 := bytesOf_at (t.nodes.getD k default).data.length 2 (by decide) 2 rfl
  (repeat' first
| (with_reducible refine AR.f ?_)
| refine zb (by decide) ?_
| (with_reducible refine AWP.cond rfl ?_ ?_ <;> intro hc <;> (try simp only [hcs, beq_iff_eq, ge_iff_le, gt_iff_lt] at hc))
| ((first | ((first | (with_reducible first | refine zR ?_ | refine zQ (by decide +kernel) ?_ | refine zD (by decide +kernel) ?_ | refine zE (by decide +kernel) ?_ | refine zG (by decide +kernel) ?_)); intro K hK) | ((first | refine zA h6 ?_ ?_ ?_ ?_ ?_ | refine zA h7 ?_ ?_ ?_ ?_ ?_); (focus exact rfl); (focus exact rfl); iterate 2 (focus ((try simp (disch := omega) only [go_sem, wn, beB_len]) <;> (try omega) <;> fail))) | ((first | refine zN h6 rfl ?_ ?_ | refine zN h7 rfl ?_ ?_); (focus ((try simp (disch := omega) only [go_sem, wn, beB_len]) <;> (try omega) <;> fail))) | (first | ((first | refine zX h6 rfl ?_ ?_ | refine zy h6 ?_ ?_); (focus ((try simp (disch := omega) only [go_sem, wn, beB_len]) <;> (try omega) <;> fail))) | ((first | refine zX h7 rfl ?_ ?_ | refine zy h7 ?_ ?_); (focus ((try simp (disch := omega) only [go_sem, wn, beB_len]) <;> (try omega) <;> fail)))) | ((first | (with_reducible refine zu ?_ ?_ <;> intro hg) | with_reducible intro hg) <;> (first | (exfalso; simp at hg; done) | (have hg' := hg; (try simp only [hcs, beq_iff_eq, ge_iff_le, gt_iff_lt] at hg'); (try simp only [hg]))))) <;> (try simp (disch := omega) only [go_sem, wn, beB_len]) <;> (repeat' with_reducible refine And.intro ?_ ?_) <;> (try (with_reducible refine hK _ ?_; clear hK K)))
| omega)
  generalize t.nodes.getD k default = x at hx1 hx2 hxm hb1 ⊢
  have hbn : b ++ (beB 1 x.path.length ++ x.path ++ beB 2 x.data.length ++ x.data) = b ++ nodeB x := rfl
  have hl7 : (statL x).length = 7 := rfl
  have hl0 : (b ++ nodeB x).length ≤ 2199096066303 := by rw [List.length_append, nodeB_len]; omega
  simp only [hbn]
  generalize hb1e : b ++ nodeB x = b1 at hl0 ⊢
  refine AWP.loopB (ι := Nat) (fun j => j ≤ 7) (fun j => 7 - j) [42, 43, 44, 87] (fun j => [(4, S (b1 ++ beL 8 ((statL x).take j))), (86, .osl 0 1 0 7), (88, I j)]) (fun j => [.rows 1 ((statL x).map irow)]) 0 ?_ ?_ ?_
  · omega
  · simp only [go_sem]; (refine SImp.frame [1] rfl (by intro k hk; first | (simp at hk <;> (simp; omega)) | (simp only [List.mem_cons, List.not_mem_nil, or_false] at hk; simp only [List.length_cons, List.length_nil]; omega)) (by decide) (fun k hk => by first | omega | (rcases k with _ | _ | _ | _ | _ | _ | _ | _ | k <;> first | rfl | omega)) ?_ ?_ <;> simp (disch := omega) only [go_sem, wn, Int.natCast_add, beL_nil, statL, irow] <;> (try rfl))
  intro j hj
  simp only [go_sem]
  by_cases hj7 : j < 7
  · have h8 := bytesOf_at ((statL x).getD j default) 8 (by decide) 8 rfl
    have hlj : (b1 ++ beL 8 ((statL x).take j)).length ≤ 2199096066303 + 56 := by rw [List.length_append, beL_len, List.length_take, hl7]; omega
    have hi : ∀ z, List.getD (List.map irow (statL x)) j z = irow ((statL x).getD j default) := fun z => by rw [List.getD_eq_getElem?_getD, List.getD_eq_getElem?_getD, List.getElem?_map, List.getElem?_eq_getElem (by omega)]; rfl
    generalize hbe3 : b1 ++ beL 8 ((statL x).take j) = b2 at hlj ⊢
    (repeat' first
  | (with_reducible refine AR.f ?_)
  | refine zb (by decide) ?_
  | (with_reducible refine AWP.cond rfl ?_ ?_ <;> intro hc <;> (try simp only [hcs, beq_iff_eq, ge_iff_le, gt_iff_lt] at hc))
  | ((first | ((first | (with_reducible first | refine zR ?_ | refine zQ (by decide +kernel) ?_ | refine zD (by decide +kernel) ?_ | refine zE (by decide +kernel) ?_ | refine zG (by decide +kernel) ?_)); intro K hK) | ((first | refine zA h8 ?_ ?_ ?_ ?_ ?_); (focus exact rfl); (focus exact rfl); iterate 2 (focus ((try simp (disch := omega) only [go_sem, wn, hi, irow, beB_len, hl7]) <;> (try omega) <;> fail))) | ((first | refine zN h8 rfl ?_ ?_); (focus ((try simp (disch := omega) only [go_sem, wn, hi, irow, beB_len, hl7]) <;> (try omega) <;> fail))) | (first | ((first | refine zX h8 rfl ?_ ?_ | refine zy h8 ?_ ?_); (focus ((try simp (disch := omega) only [go_sem, wn, hi, irow, beB_len, hl7]) <;> (try omega) <;> fail)))) | ((first | (with_reducible refine zu ?_ ?_ <;> intro hg) | with_reducible intro hg) <;> (first | (exfalso; simp at hg; done) | (have hg' := hg; (try simp only [hcs, beq_iff_eq, ge_iff_le, gt_iff_lt] at hg'); (try simp only [hg]))))) <;> (try simp (disch := omega) only [go_sem, wn, hi, irow, beB_len, hl7]) <;> (repeat' with_reducible refine And.intro ?_ ?_) <;> (try (with_reducible refine hK _ ?_; clear hK K)))
  | omega)
    refine ⟨j + 1, by omega, by omega, ?_⟩
    rw [beL_snoc 8 (statL x) j (by omega), ← List.append_assoc, hbe3]
    (refine SImp.frame [0] rfl (by intro k hk; first | (simp at hk <;> (simp; omega)) | (simp only [List.mem_cons, List.not_mem_nil, or_false] at hk; simp only [List.length_cons, List.length_nil]; omega)) (by decide) (fun k hk => by first | omega | (rcases k with _ | _ | _ | _ | _ | _ | _ | _ | k <;> first | rfl | omega)) ?_ ?_ <;> simp (disch := omega) only [go_sem, wn, Int.natCast_add, true_and] <;> (try rfl))
  have hje : j = 7 := by omega
  subst hje
  (repeat' first
| (with_reducible refine AR.f ?_)
| refine zb (by decide) ?_
| (with_reducible refine AWP.cond rfl ?_ ?_ <;> intro hc <;> (try simp only [hcs, beq_iff_eq, ge_iff_le, gt_iff_lt] at hc))
| ((first | ((first | (with_reducible first | refine zR ?_ | refine zQ (by decide +kernel) ?_ | refine zD (by decide +kernel) ?_ | refine zE (by decide +kernel) ?_ | refine zG (by decide +kernel) ?_)); intro K hK) | ((first | (with_reducible refine zu ?_ ?_ <;> intro hg) | with_reducible intro hg) <;> (first | (exfalso; simp at hg; done) | (have hg' := hg; (try simp only [hcs, beq_iff_eq, ge_iff_le, gt_iff_lt] at hg'); (try simp only [hg]))))) <;> (try simp (disch := omega) only [go_sem, wn]) <;> (repeat' with_reducible refine And.intro ?_ ?_) <;> (try (with_reducible refine hK _ ?_; clear hK K)))
| omega)
  refine ⟨k + 1, by omega, by omega, ?_⟩
  have hfin : s4B t ++ recsB (t.nodes.take (k + 1)) = b1 ++ beL 8 ((statL x).take 7) := by
    rw [hb1, ← List.append_assoc, hbe2, ← hb1e, List.append_assoc]; rfl
  rw [hfin]
  (refine SImp.frame [] rfl (by intro k hk; first | (simp at hk <;> (simp; omega)) | (simp only [List.mem_cons, List.not_mem_nil, or_false] at hk; simp only [List.length_cons, List.length_nil]; omega)) (by decide) (fun k hk => by first | omega | (rcases k with _ | _ | _ | _ | _ | _ | _ | _ | k <;> first | rfl | omega)) ?_ ?_ <;> simp (disch := omega) only [go_sem, wn, Int.natCast_add, true_and] <;> (try rfl))
end Go.Proofs.YtmpfhalheaeibaaDoor
namespace Go.Proofs.YtmpfhalheaeibaaDoor
set_option linter.unusedVariables false
set_option linter.unusedSimpArgs false
open Go Go.RowKit
set_option maxRecDepth 100000
structure Cur where
  t : List UInt8
  s : List UInt8
  bad : Bool
def curT (s : List UInt8) (b : Bool) (n : Nat) : Cur := if b = true ∨ s.length < n then ⟨[], s, true⟩ else ⟨s.take n, s.drop n, false⟩
theorem curT_bad {s : List UInt8} {b : Bool} {n : Nat} (h : b = true ∨ s.length < n) : curT s b n = ⟨[], s, true⟩ := if_pos h
theorem curT_ok {s : List UInt8} {n : Nat} (h : n ≤ s.length) : curT s false n = ⟨s.take n, s.drop n, false⟩ := if_neg (by simp; omega)
def numW (l : List UInt8) : Int := l.foldl (fun v x => IntKind.i64.wrap (v * 256 + x.toNat)) 0
theorem wrap_i64e (n : Int) : IntKind.i64.wrap n = (n + 9223372036854775808) % 18446744073709551616 - 9223372036854775808 := by simp [IntKind.wrap, IntKind.bits, IntKind.signed]; omega
theorem or_byte (n : Int) (c : UInt8) : bits .or .i64 (IntKind.i64.wrap (n * 256)) (c.toNat : Int) = IntKind.i64.wrap (n * 256 + c.toNat) := by
  have hc := c.toNat_lt
  show IntKind.i64.wrap ((BitVec.ofInt 64 (IntKind.i64.wrap (n * 256)) ||| BitVec.ofInt 64 (c.toNat : Int)).toNat : Int) = _
  have e1 : (BitVec.ofInt 64 (IntKind.i64.wrap (n * 256))).toNat = ((n * 256) % 18446744073709551616).toNat := by
    rw [BitVec.toNat_ofInt, wrap_i64e]; congr 1; omega
  rw [BitVec.toNat_or, ofInt_u64 c.toNat (by omega), e1, nat_join 8 _ _ (by omega) (by omega), wrap_i64e, wrap_i64e]
  omega
theorem numW_snoc (t : List UInt8) (k : Nat) (h : k < t.length) : numW (t.take (k + 1)) = IntKind.i64.wrap (numW (t.take k) * 256 + (t.getD k 0).toNat) := by
  unfold numW
  have : t.take (k + 1) = t.take k ++ [t.getD k 0] := take_snoc t k h
  rw [this, List.foldl_append]; rfl
theorem wrap_byte (b : UInt8) : IntKind.i64.wrap (b.toNat : Int) = (b.toNat : Int) := by
  have := b.toNat_lt
  rw [wrap_i64e]; omega
theorem wrap_add_byte (n : Int) (b : UInt8) : IntKind.i64.wrap (IntKind.i64.wrap (n * 256) + (b.toNat : Int)) = IntKind.i64.wrap (n * 256 + b.toNat) := by
  rw [wrap_i64e, wrap_i64e, wrap_i64e]; omega
theorem numberOf_c (s : List UInt8) (hs : okS s) : acall Tryd.prog [] 83 [S s] (ret (I (numW s))) := by
  unfold okS at hs
  refine zi tabOk Tryd.func83 rfl (by kernel_rfl) (by simp [Tryd.ntmps83]) ?_; simp only [Tryd.ntmps83, Tryd.results83, List.toList_toArray, apar, List.length_nil, List.length_cons, Nat.reduceAdd]
  (repeat' first
| (with_reducible refine AR.f ?_)
| refine zb (by decide) ?_
| (with_reducible refine AWP.cond rfl ?_ ?_ <;> intro hc <;> (try simp only [hcs, beq_iff_eq, ge_iff_le, gt_iff_lt] at hc))
| ((first | ((first | (with_reducible first | refine zR ?_ | refine zQ (by decide +kernel) ?_ | refine zD (by decide +kernel) ?_ | refine zE (by decide +kernel) ?_ | refine zG (by decide +kernel) ?_)); intro K hK) | ((first | (with_reducible refine zu ?_ ?_ <;> intro hg) | with_reducible intro hg) <;> (first | (exfalso; simp at hg; done) | (have hg' := hg; (try simp only [hcs, beq_iff_eq, ge_iff_le, gt_iff_lt] at hg'); (try simp only [hg]))))) <;> (try simp (disch := omega) only [go_sem, wn]) <;> (repeat' with_reducible refine And.intro ?_ ?_) <;> (try (with_reducible refine hK _ ?_; clear hK K)))
| omega)
  refine AWP.loopB (ι := Nat) (fun j => j ≤ s.length) (fun j => s.length - j) [7, 8] (fun j => [(3, I (numW (s.take j))), (9, I j)]) (fun j => [.bytes s]) 0 ?_ ?_ ?_
  · omega
  · simp only [go_sem, numW, List.foldl_nil]; (refine SImp.same ?_; simp (disch := omega) only [go_sem, wn, Int.natCast_add])
  intro j hj
  simp only [go_sem]
  (repeat' first
| (with_reducible refine AR.f ?_)
| refine zb (by decide) ?_
| (with_reducible refine AWP.cond rfl ?_ ?_ <;> intro hc <;> (try simp only [hcs, beq_iff_eq, ge_iff_le, gt_iff_lt] at hc))
| ((first | ((first | (with_reducible first | refine zR ?_ | refine zQ (by decide +kernel) ?_ | refine zD (by decide +kernel) ?_ | refine zE (by decide +kernel) ?_ | refine zG (by decide +kernel) ?_)); intro K hK) | ((first | (with_reducible refine zu ?_ ?_ <;> intro hg) | with_reducible intro hg) <;> (first | (exfalso; simp at hg; done) | (have hg' := hg; (try simp only [hcs, beq_iff_eq, ge_iff_le, gt_iff_lt] at hg'); (try simp only [hg]))))) <;> (try simp (disch := omega) only [go_sem, wn, u8g, wrap_byte, wrap_add_byte]) <;> (repeat' with_reducible refine And.intro ?_ ?_) <;> (try (with_reducible refine hK _ ?_; clear hK K)))
| omega)
  · refine ⟨j + 1, by omega, by omega, ?_⟩
    rw [numW_snoc _ _ (by assumption)]
    (refine SImp.same ?_; simp (disch := omega) only [go_sem, wn, Int.natCast_add, wrap_byte, u8g, wrap_add_byte])
  rw [show j = s.length from by omega, List.take_length]
  (refine zF rfl ?_ ?_ ?_ ?_; (iterate 3 (focus ((try simp (disch := omega) only [go_sem, wn]) <;> (try omega) <;> fail))); (try simp (disch := omega) only [go_sem, wn, I, B, S, inj, List.cons.injEq, and_true, true_and, and_self]))
def numN (l : List UInt8) : Nat := l.foldl (fun v x => v * 256 + x.toNat) 0
theorem numN_snoc (t : List UInt8) (k : Nat) (h : k < t.length) : numN (t.take (k + 1)) = numN (t.take k) * 256 + (t.getD k 0).toNat := by
  unfold numN
  have : t.take (k + 1) = t.take k ++ [t.getD k 0] := take_snoc t k h
  rw [this, List.foldl_append]; rfl
theorem numN_take (t : List UInt8) : ∀ k, k ≤ t.length → k ≤ 7 → numN (t.take k) < 256 ^ k ∧ numW (t.take k) = ((numN (t.take k) : Nat) : Int)
  | 0, _, _ => ⟨by simp [numN], rfl⟩
  | k + 1, h, h7 => by
    obtain ⟨h1, h2⟩ := numN_take t k (by omega) (by omega)
    have hb := (t.getD k 0).toNat_lt
    have hp : 256 ^ k ≤ 256 ^ 6 := Nat.pow_le_pow_right (by decide) (by omega)
    have hq : 256 ^ (k + 1) = 256 ^ k * 256 := Nat.pow_succ ..
    rw [numN_snoc t k (by omega), numW_snoc t k (by omega), h2, wrap_i64e]
    omega
theorem numN_lt {t : List UInt8} {k : Nat} (h : t.length ≤ k) (h7 : k ≤ 7) : numN t < 256 ^ k := by
  have := (numN_take t t.length (Nat.le_refl _) (by omega)).1
  rw [List.take_length] at this
  exact Nat.lt_of_lt_of_le this (Nat.pow_le_pow_right (by decide) h)
theorem numW_small {t : List UInt8} (h : t.length ≤ 7) : numW t = ((numN t : Nat) : Int) := by
  have := (numN_take t t.length (Nat.le_refl _) h).2
  rwa [List.take_length] at this
theorem numW_okI (l : List UInt8) : okI (numW l) := by
  rcases List.eq_nil_or_concat l with rfl | ⟨l, x, rfl⟩
  · unfold numW okI; decide
  · unfold numW okI
    rw [List.concat_eq_append, List.foldl_append]
    simp only [List.foldl_cons, List.foldl_nil]
    rw [wrap_i64e]; omega
theorem numberOf_s (s : List UInt8) (hs : s.length ≤ 7) : acall Tryd.prog [] 83 [S s] (ret (I (numN s : Nat))) := by
  rw [← numW_small hs]; exact numberOf_c s (by unfold okS; omega)
def bP (b : List UInt8) : Nat := (b.getD 21 0).toNat
def bD (b : List UInt8) : Nat := numN ((b.drop (22 + bP b)).take 2)
def bodyOk (b : List UInt8) : Prop := b.length = 24 + bP b + bD b
def sN (s : List UInt8) : Nat := numN ((s.drop 1).take 2)
instance (b : List UInt8) : Decidable (bodyOk b) := inferInstanceAs (Decidable (_ = _))
def noHead (s : List UInt8) : Prop := s.length < 3 ∨ s.getD 0 0 ≠ 84
def noRoom (s : List UInt8) : Prop := 1024 < sN s ∨ s.length < sN s + 7
def noSum (s : List UInt8) : Prop := numN ((s.drop (sN s + 3)).take 4) ≠ sumN (s.take (sN s + 3))
instance (s : List UInt8) : Decidable (noHead s) := inferInstanceAs (Decidable (_ ∨ _))
instance (s : List UInt8) : Decidable (noRoom s) := inferInstanceAs (Decidable (_ ∨ _))
instance (s : List UInt8) : Decidable (noSum s) := inferInstanceAs (Decidable (_ ≠ _))
end Go.Proofs.YtmpfhalheaeibaaDoor
namespace Go.Proofs.YtmpfhalheaeibaaDoor
set_option linter.unusedVariables false
set_option linter.unusedSimpArgs false
open Go Go.RowKit
set_option maxRecDepth 100000
theorem curT_len (s : List UInt8) (b : Bool) (n : Nat) : (curT s b n).s.length ≤ s.length ∧ (curT s b n).t.length ≤ s.length ∧ (curT s b n).t.length ≤ n := by
  unfold curT; split <;> simp <;> omega
theorem curT_good {s : List UInt8} {b : Bool} {n : Nat} (h : (curT s b n).bad = false) : b = false ∧ n ≤ s.length ∧ (curT s b n).t = s.take n ∧ (curT s b n).s = s.drop n := by
  unfold curT at *
  split at h
  · cases h
  · rename_i hn
    rw [if_neg hn]
    exact ⟨by cases b <;> simp_all, by omega, rfl, rfl⟩
structure Dec where
  k1 : Cur
  k2 : Cur
  k3 : Cur
  k4 : Cur
  j1 : Cur
  j2 : Cur
  j3 : Cur
  j4 : Cur
  j5 : Cur
  j6 : Cur
  j7 : Cur
  j8 : Cur
  j9 : Cur
structure Reads (s : List UInt8) (d : Dec) : Prop where
  k1 : curT s false 1 = d.k1
  k2 : curT d.k1.s d.k1.bad 2 = d.k2
  k3 : curT d.k2.s d.k2.bad (numN d.k2.t) = d.k3
  k4 : curT d.k3.s d.k3.bad 4 = d.k4
  j1 : curT d.k3.t false 8 = d.j1
  j2 : curT d.j1.s d.j1.bad 1 = d.j2
  j3 : curT d.j2.s d.j2.bad 4 = d.j3
  j4 : curT d.j3.s d.j3.bad 4 = d.j4
  j5 : curT d.j4.s d.j4.bad 4 = d.j5
  j6 : curT d.j5.s d.j5.bad 1 = d.j6
  j7 : curT d.j6.s d.j6.bad (numN d.j6.t) = d.j7
  j8 : curT d.j7.s d.j7.bad 2 = d.j8
  j9 : curT d.j8.s d.j8.bad (numN d.j8.t) = d.j9
theorem reads (s : List UInt8) : ∃ d, Reads s d := by
  let k1 := curT s false 1
  let k2 := curT k1.s k1.bad 2
  let k3 := curT k2.s k2.bad (numN k2.t)
  let k4 := curT k3.s k3.bad 4
  let j1 := curT k3.t false 8
  let j2 := curT j1.s j1.bad 1
  let j3 := curT j2.s j2.bad 4
  let j4 := curT j3.s j3.bad 4
  let j5 := curT j4.s j4.bad 4
  let j6 := curT j5.s j5.bad 1
  let j7 := curT j6.s j6.bad (numN j6.t)
  let j8 := curT j7.s j7.bad 2
  let j9 := curT j8.s j8.bad (numN j8.t)
  exact ⟨⟨k1, k2, k3, k4, j1, j2, j3, j4, j5, j6, j7, j8, j9⟩, ⟨rfl, rfl, rfl, rfl, rfl, rfl, rfl, rfl, rfl, rfl, rfl, rfl, rfl⟩⟩
theorem gd {s : List UInt8} {b : Bool} {n : Nat} {k : Cur} (e : curT s b n = k) (h : k.bad = false) : b = false ∧ n ≤ s.length ∧ k.t = s.take n ∧ k.s = s.drop n := by
  subst e; exact curT_good h
theorem ln {s : List UInt8} {b : Bool} {n m : Nat} {k : Cur} (e : curT s b n = k) (h : s.length ≤ m) : k.s.length ≤ m ∧ k.t.length ≤ m ∧ k.t.length ≤ n := by
  subst e; have := curT_len s b n; omega
end Go.Proofs.YtmpfhalheaeibaaDoor
namespace Go.Proofs.YtmpfhalheaeibaaDoor
set_option linter.unusedVariables false
set_option linter.unusedSimpArgs false
open Go Go.RowKit
set_option maxRecDepth 100000
set_option linter.unusedSimpArgs false
structure PSt (α : Type) where
  l : List α
  s : List UInt8
  bad : Bool
def stepP {α : Type} (rd : List UInt8 → Bool → α × List UInt8 × Bool) (p : PSt α) : PSt α := ⟨p.l ++ [(rd p.s p.bad).1], (rd p.s p.bad).2.1, (rd p.s p.bad).2.2⟩
def runP {α : Type} (rd : List UInt8 → Bool → α × List UInt8 × Bool) : Nat → PSt α → PSt α
  | 0, p => p
  | m + 1, p => if p.bad = true then p else runP rd m (stepP rd p)
theorem runP_bad {α : Type} {rd : List UInt8 → Bool → α × List UInt8 × Bool} {m : Nat} {p : PSt α} (h : m = 0 ∨ p.bad = true) : runP rd m p = p := by
  rcases m with _ | m
  · rfl
  · rcases h with h | h
    · cases h
    · exact if_pos h
theorem runP_go {α : Type} {rd : List UInt8 → Bool → α × List UInt8 × Bool} {m : Nat} {p : PSt α} (h : p.bad = false) : runP rd (m + 1) p = runP rd m (stepP rd p) := if_neg (by rw [h]; decide)
def rdS (s : List UInt8) (b : Bool) : Int × List UInt8 × Bool := ((numN (curT s b 4).t : Nat), (curT s b 4).s, (curT s b 4).bad)
def numsK (s : List UInt8) (b : Bool) : Nat → PSt Int
  | 0 => ⟨[], s, b⟩
  | j + 1 => ⟨(numsK s b j).l ++ [numW (curT (numsK s b j).s (numsK s b j).bad 8).t], (curT (numsK s b j).s (numsK s b j).bad 8).s, (curT (numsK s b j).s (numsK s b j).bad 8).bad⟩
def n1 (s : List UInt8) (b : Bool) : Cur := curT s b 1
def n2 (s : List UInt8) (b : Bool) : Cur := curT (n1 s b).s (n1 s b).bad (numN (n1 s b).t)
def n3 (s : List UInt8) (b : Bool) : Cur := curT (n2 s b).s (n2 s b).bad 2
def n4 (s : List UInt8) (b : Bool) : Cur := curT (n3 s b).s (n3 s b).bad (numN (n3 s b).t)
def n5 (s : List UInt8) (b : Bool) (j : Nat) : PSt Int := numsK (n4 s b).s (n4 s b).bad j
def statO (l : List Int) : AStat := ⟨l.getD 0 0, l.getD 1 0, l.getD 2 0, l.getD 3 0, l.getD 4 0, l.getD 5 0, l.getD 6 0⟩
def rdN (s : List UInt8) (b : Bool) : ANode × List UInt8 × Bool := (⟨(n2 s b).t, (n4 s b).t, statO (n5 s b 7).l⟩, (n5 s b 7).s, (n5 s b 7).bad)
def z1 (b : List UInt8) : Cur := curT b false 8
def z2 (b : List UInt8) : Cur := curT (z1 b).s (z1 b).bad 4
def z3 (b : List UInt8) : PSt Int := runP rdS (numN (z2 b).t) ⟨[], (z2 b).s, (z2 b).bad⟩
def z4 (b : List UInt8) : Cur := curT (z3 b).s (z3 b).bad 4
def z5 (b : List UInt8) : PSt ANode := runP rdN (numN (z4 b).t) ⟨[], (z4 b).s, (z4 b).bad⟩
def treeR (b : List UInt8) : ATree := ⟨numW (z1 b).t, (z5 b).l, (z3 b).l⟩
def bodyR (b : List UInt8) : ATree × Int := if (z5 b).bad = true ∨ (z5 b).s ≠ [] then (default, 2) else if goodTr (treeR b) = true then (treeR b, 0) else (default, 3)
def snapR (s : List UInt8) : ATree × Int :=
  if s.length < 5 ∨ s.getD 0 0 ≠ 83 then (default, 2) else
  if sumN (s.take (s.length - 4)) ≠ numN (s.drop (s.length - 4)) then (default, 5) else bodyR ((s.take (s.length - 4)).drop 1)
structure OkP {α : Type} (W : α → Prop) (L : Nat) (p : PSt α) : Prop where
  s : p.s.length ≤ L
  l : p.l.length ≤ L + 1
  b : p.bad = false → p.l.length + p.s.length ≤ L
  w : ∀ x, x ∈ p.l → W x
structure OkR {α : Type} (W : α → Prop) (L : Nat) (rd : List UInt8 → Bool → α × List UInt8 × Bool) : Prop where
  le : ∀ s b, (rd s b).2.1.length ≤ s.length
  lt : ∀ s b, (rd s b).2.2 = false → (rd s b).2.1.length + 1 ≤ s.length
  w : ∀ s b, s.length ≤ L → W (rd s b).1
theorem OkP.step {α : Type} {W : α → Prop} {L : Nat} {p : PSt α} {rd : List UInt8 → Bool → α × List UInt8 × Bool} (hr : OkR W L rd) (h : OkP W L p) (hb : p.bad = false) : OkP W L (stepP rd p) := by
  have h1 := hr.le p.s p.bad
  have h2 := hr.lt p.s p.bad
  have h3 := h.b hb
  have h4 := h.s
  refine ⟨by show (rd p.s p.bad).2.1.length ≤ L; omega, ?_, fun hh => ?_, fun x hx => ?_⟩
  · show (p.l ++ [_]).length ≤ _; rw [List.length_append, List.length_singleton]; omega
  · have := h2 hh
    show (p.l ++ [_]).length + (rd p.s p.bad).2.1.length ≤ _; rw [List.length_append, List.length_singleton]; omega
  · rcases List.mem_append.1 hx with hx | hx
    · exact h.w x hx
    · rw [List.mem_singleton.1 hx]; exact hr.w _ _ h4
theorem OkP.run {α : Type} {W : α → Prop} {L : Nat} {rd : List UInt8 → Bool → α × List UInt8 × Bool} (hr : OkR W L rd) : ∀ (m : Nat) {p : PSt α}, OkP W L p → OkP W L (runP rd m p)
  | 0, _, h => h
  | m + 1, p, h => by
    cases hb : p.bad with
    | true => rw [runP_bad (.inr hb)]; exact h
    | false => rw [runP_go hb]; exact OkP.run hr m (h.step hr hb)
theorem curT_le (s : List UInt8) (b : Bool) (n : Nat) : (curT s b n).s.length ≤ s.length := (curT_len s b n).1
theorem curT_lt {s : List UInt8} {b : Bool} {n : Nat} (hn : 1 ≤ n) (h : (curT s b n).bad = false) : (curT s b n).s.length + 1 ≤ s.length := by
  obtain ⟨_, h1, _, h2⟩ := curT_good h
  rw [h2, List.length_drop]; omega
theorem curT_t (s : List UInt8) (b : Bool) (n : Nat) : (curT s b n).t.length ≤ n := (curT_len s b n).2.2
theorem curT_bad0 {s : List UInt8} {b : Bool} {n : Nat} (h : (curT s b n).bad = false) : b = false := (curT_good h).1
theorem numN_okI {t : List UInt8} {k : Nat} (h : t.length ≤ k) (hk : k ≤ 7) : okI ((numN t : Nat) : Int) := by
  have h1 := numN_lt (k := 7) (by omega : t.length ≤ 7) (by decide)
  unfold okI; omega
theorem rdS_ok (L : Nat) : OkR okI L rdS := ⟨fun s b => curT_le s b 4, fun s b h => curT_lt (by decide) h, fun s b _ => numN_okI (curT_t s b 4) (by decide)⟩
theorem numsK_le (s : List UInt8) (b : Bool) : ∀ j, (numsK s b j).s.length ≤ s.length
  | 0 => Nat.le_refl _
  | j + 1 => Nat.le_trans (curT_le _ _ 8) (numsK_le s b j)
theorem numsK_bad (s : List UInt8) (b : Bool) : ∀ j, (numsK s b j).bad = false → b = false
  | 0, h => h
  | j + 1, h => numsK_bad s b j (curT_bad0 h)
theorem numsK_len (s : List UInt8) (b : Bool) : ∀ j, (numsK s b j).l.length = j
  | 0 => rfl
  | j + 1 => by show (_ ++ [_]).length = _; rw [List.length_append, numsK_len s b j]; rfl
theorem numsK_ok (s : List UInt8) (b : Bool) : ∀ j x, x ∈ (numsK s b j).l → okI x
  | 0, x, h => by cases h
  | j + 1, x, h => by
    rcases List.mem_append.1 h with h | h
    · exact numsK_ok s b j x h
    · rw [List.mem_singleton.1 h]; exact numW_okI _
theorem getD_okI {l : List Int} (h : ∀ x, x ∈ l → okI x) (i : Nat) : okI (l.getD i 0) := by
  by_cases hi : i < l.length
  · exact h _ (mem_getD l 0 hi)
  · rw [List.getD_eq_getElem?_getD, List.getElem?_eq_none (by omega)]; exact ⟨by decide, by decide⟩
theorem n4_le (s : List UInt8) (b : Bool) : (n4 s b).s.length ≤ s.length ∧ (n3 s b).s.length ≤ s.length ∧ (n2 s b).s.length ≤ s.length ∧ (n1 s b).s.length ≤ s.length ∧ (n2 s b).t.length ≤ s.length ∧ (n4 s b).t.length ≤ s.length := by
  have a1 := curT_len s b 1
  have a2 := curT_len (n1 s b).s (n1 s b).bad (numN (n1 s b).t)
  have a3 := curT_len (n2 s b).s (n2 s b).bad 2
  have a4 := curT_len (n3 s b).s (n3 s b).bad (numN (n3 s b).t)
  rw [show curT s b 1 = n1 s b from rfl] at a1
  rw [show curT (n1 s b).s (n1 s b).bad (numN (n1 s b).t) = n2 s b from rfl] at a2
  rw [show curT (n2 s b).s (n2 s b).bad 2 = n3 s b from rfl] at a3
  rw [show curT (n3 s b).s (n3 s b).bad (numN (n3 s b).t) = n4 s b from rfl] at a4
  omega
def nodeW (x : ANode) : Prop := x.wf ∧ x.path.length ≤ 1048576
theorem rdN_ok (L : Nat) (hL : L ≤ 1048576) : OkR nodeW L rdN := by
  refine ⟨fun s b => ?_, fun s b h => ?_, fun s b h => ?_⟩
  · exact Nat.le_trans (numsK_le _ _ 7) (n4_le s b).1
  · have h4 := numsK_bad _ _ 7 h
    have h3 := curT_bad0 h4
    have h2 := curT_bad0 h3
    have h1 := curT_bad0 h2
    have a1 : (n1 s b).s.length + 1 ≤ s.length := curT_lt (by decide) h1
    have a2 : (n2 s b).s.length ≤ (n1 s b).s.length := curT_le _ _ _
    have a3 : (n3 s b).s.length ≤ (n2 s b).s.length := curT_le _ _ _
    have a4 : (n4 s b).s.length ≤ (n3 s b).s.length := curT_le _ _ _
    have a5 : (n5 s b 7).s.length ≤ (n4 s b).s.length := numsK_le _ _ 7
    show (n5 s b 7).s.length + 1 ≤ _
    omega
  · obtain ⟨_, _, _, _, a, c⟩ := n4_le s b
    have hg := fun i => getD_okI (numsK_ok (n4 s b).s (n4 s b).bad 7) i
    exact ⟨⟨by show (n2 s b).t.length ≤ _; omega, by show (n4 s b).t.length ≤ _; omega, hg 0, hg 1, hg 2, hg 3, hg 4, hg 5, hg 6⟩, by show (n2 s b).t.length ≤ _; omega⟩
theorem z_ok (b : List UInt8) (h : b.length ≤ 1048576) : OkP okI 1048576 (z3 b) ∧ OkP nodeW 1048576 (z5 b) ∧ (z1 b).s.length ≤ 1048576 ∧ (z2 b).s.length ≤ 1048576 ∧ (z4 b).s.length ≤ 1048576 := by
  have a1 : (z1 b).s.length ≤ b.length := curT_le _ _ _
  have a2 : (z2 b).s.length ≤ (z1 b).s.length := curT_le _ _ _
  have h3 : OkP okI 1048576 (z3 b) := OkP.run (rdS_ok _) _ ⟨by show (z2 b).s.length ≤ _; omega, Nat.zero_le _, fun _ => by show 0 + (z2 b).s.length ≤ _; omega, fun _ h => by cases h⟩
  have a3 := h3.s
  have a4 : (z4 b).s.length ≤ (z3 b).s.length := curT_le _ _ _
  have h5 : OkP nodeW 1048576 (z5 b) := OkP.run (rdN_ok _ (Nat.le_refl _)) _ ⟨by show (z4 b).s.length ≤ _; omega, Nat.zero_le _, fun _ => by show 0 + (z4 b).s.length ≤ _; omega, fun _ h => by cases h⟩
  exact ⟨h3, h5, by omega, by omega, by omega⟩
theorem treeR_wf (b : List UInt8) (h : b.length ≤ 1048576) : (treeR b).wf ∧ ∀ x, x ∈ (treeR b).nodes → x.path.length ≤ 1048576 := by
  obtain ⟨h3, h5, _⟩ := z_ok b h
  have := h3.l
  have := h5.l
  exact ⟨⟨numW_okI _, ⟨by show (z5 b).l.length * 88 ≤ _; omega, fun y hy => (h5.w y hy).1⟩, ⟨by show (z3 b).l.length * 8 ≤ _; omega, h3.w⟩⟩, fun x hx => (h5.w x hx).2⟩
def nodeC (p d : List UInt8) (l : List Int) : List AV := [S p, S d, I (l.getD 0 0), I (l.getD 1 0), I (l.getD 2 0), I (l.getD 3 0), I (l.getD 4 0), I (l.getD 5 0), I (l.getD 6 0)]
def arrC (l : List Int) : List AV := [I (l.getD 0 0), I (l.getD 1 0), I (l.getD 2 0), I (l.getD 3 0), I (l.getD 4 0), I (l.getD 5 0), I (l.getD 6 0)]
theorem snoc7 {l : List Int} {j : Nat} (hl : l.length = j) (hj : j < 7) (v : Int) : (arrC l).set j (I v) = arrC (l ++ [v]) := by
  subst hl
  rcases l with _ | ⟨a0, _ | ⟨a1, _ | ⟨a2, _ | ⟨a3, _ | ⟨a4, _ | ⟨a5, _ | ⟨a6, l⟩⟩⟩⟩⟩⟩⟩ <;> first | rfl | (simp at hj)
theorem nodeC_len (p d : List UInt8) (l : List Int) : (nodeC p d l).length = 9 := rfl
theorem arrC_len (l : List Int) : (arrC l).length = 7 := rfl
theorem nodeC_eq (p d : List UInt8) (l : List Int) : nodeC p d l = S p :: S d :: arrC l := rfl
theorem nodeC_set {p d : List UInt8} {l : List Int} {j : Nat} (hl : l.length = j) (hj : j < 7) (v : Int) : (nodeC p d l).set (2 + j) (I v) = nodeC p d (l ++ [v]) := by
  rw [nodeC_eq, nodeC_eq, ← snoc7 hl hj, show 2 + j = j + 1 + 1 from by omega, List.set_cons_succ, List.set_cons_succ]
theorem rtext_c (s : List UInt8) (b : Bool) (n : Nat) (hs : okS s) (ni : Int) (hi : ni = n) : acall Tryd.prog [.cells [S s, B b]] 82 [.ptr 0 0, I ni] (outs (S (curT s b n).t) [.cells [S (curT s b n).s, B (curT s b n).bad]]) := by
  subst hi
  unfold okS at hs
  by_cases h : b = true ∨ s.length < n
  · rw [curT_bad h]
    refine zi tabOk Tryd.func82 rfl (by kernel_rfl) (by simp [Tryd.ntmps82]) ?_; simp only [Tryd.ntmps82, Tryd.results82, List.toList_toArray, apar, List.length_nil, List.length_cons, Nat.reduceAdd]
    (repeat' first
  | (with_reducible refine AR.f ?_)
  | refine zb (by decide) ?_
  | (with_reducible refine AWP.cond rfl ?_ ?_ <;> intro hc <;> (try simp only [hcs, beq_iff_eq, ge_iff_le, gt_iff_lt] at hc))
  | ((first | ((first | (with_reducible first | refine zR ?_ | refine zQ (by decide +kernel) ?_ | refine zD (by decide +kernel) ?_ | refine zE (by decide +kernel) ?_ | refine zG (by decide +kernel) ?_)); intro K hK) | ((first | (with_reducible refine zu ?_ ?_ <;> intro hg) | with_reducible intro hg) <;> (first | (exfalso; simp at hg; done) | (have hg' := hg; (try simp only [hcs, beq_iff_eq, ge_iff_le, gt_iff_lt] at hg'); (try simp only [hg]))))) <;> (try simp (disch := omega) only [go_sem, wn]) <;> (repeat' with_reducible refine And.intro ?_ ?_) <;> (try (with_reducible refine hK _ ?_; clear hK K)))
  | omega)
    · (refine aend_out (by first | exact .inl rfl | exact .inr rfl) ?_ ?_; (focus ((try simp (disch := omega) only [go_sem, wn]) <;> fail)); simp (disch := omega) only [go_sem, wn, true_and]; refine AOut.of_simp ?_ (AOut.same ⟨rfl, rfl⟩); refine SImp.frame [0] rfl (by intro k hk; first | (simp at hk <;> (simp; omega)) | (simp only [List.mem_cons, List.not_mem_nil, or_false] at hk; simp only [List.length_cons, List.length_nil]; omega)) (by decide) (fun k hk => by first | omega | (rcases k with _ | _ | _ | _ | _ | _ | _ | _ | k <;> first | rfl | omega)) ?_ ?_ <;> simp (disch := omega) only [go_sem, wn, true_or, or_true, true_and])
    exfalso; rcases h with h | h
    · rw [h] at hc; exact absurd hc.1 (by decide)
    · omega
  · rw [show b = false from by cases b <;> simp_all] at *
    rw [curT_ok (by omega)]
    refine zi tabOk Tryd.func82 rfl (by kernel_rfl) (by simp [Tryd.ntmps82]) ?_; simp only [Tryd.ntmps82, Tryd.results82, List.toList_toArray, apar, List.length_nil, List.length_cons, Nat.reduceAdd]
    have e : List.take (s.length - n) (List.drop n s) = List.drop n s := List.take_of_length_le (by rw [List.length_drop]; omega)
    (repeat' first
  | (with_reducible refine AR.f ?_)
  | refine zb (by decide) ?_
  | (with_reducible refine AWP.cond rfl ?_ ?_ <;> intro hc <;> (try simp only [hcs, beq_iff_eq, ge_iff_le, gt_iff_lt] at hc))
  | ((first | ((first | (with_reducible first | refine zR ?_ | refine zQ (by decide +kernel) ?_ | refine zD (by decide +kernel) ?_ | refine zE (by decide +kernel) ?_ | refine zG (by decide +kernel) ?_)); intro K hK) | ((first | (with_reducible refine zu ?_ ?_ <;> intro hg) | with_reducible intro hg) <;> (first | (exfalso; simp at hg; done) | (have hg' := hg; (try simp only [hcs, beq_iff_eq, ge_iff_le, gt_iff_lt] at hg'); (try simp only [hg]))))) <;> (try simp (disch := omega) only [go_sem, wn]) <;> (repeat' with_reducible refine And.intro ?_ ?_) <;> (try (with_reducible refine hK _ ?_; clear hK K)))
  | omega)
    (refine aend_out (by first | exact .inl rfl | exact .inr rfl) ?_ ?_; (focus ((try simp (disch := omega) only [go_sem, wn]) <;> fail)); simp (disch := omega) only [go_sem, wn, Nat.sub_zero, e]; refine AOut.of_simp ?_ (AOut.same ⟨rfl, rfl⟩); refine SImp.frame [0] rfl (by intro k hk; first | (simp at hk <;> (simp; omega)) | (simp only [List.mem_cons, List.not_mem_nil, or_false] at hk; simp only [List.length_cons, List.length_nil]; omega)) (by decide) (fun k hk => by first | omega | (rcases k with _ | _ | _ | _ | _ | _ | _ | _ | k <;> first | rfl | omega)) ?_ ?_ <;> simp (disch := omega) only [go_sem, wn, true_or, or_true, Nat.sub_zero, e])
theorem rtake_c (s : List UInt8) (b : Bool) (n : Nat) (hs : okS s) (ni : Int) (hi : ni = n) : acall Tryd.prog [.cells [S s, B b]] 85 [.ptr 0 0, I ni] (outs (S (curT s b n).t) [.cells [S (curT s b n).s, B (curT s b n).bad]]) := by
  subst hi
  unfold okS at hs
  have h0 : ¬ ((n : Nat) : Int) < 0 := by omega
  by_cases h : b = true ∨ s.length < n
  · rw [curT_bad h]
    refine zi tabOk Tryd.func85 rfl (by kernel_rfl) (by simp [Tryd.ntmps85]) ?_; simp only [Tryd.ntmps85, Tryd.results85, List.toList_toArray, apar, List.length_nil, List.length_cons, Nat.reduceAdd]
    (repeat' first
  | (with_reducible refine AR.f ?_)
  | refine zb (by decide) ?_
  | (with_reducible refine AWP.cond rfl ?_ ?_ <;> intro hc <;> (try simp only [hcs, beq_iff_eq, ge_iff_le, gt_iff_lt] at hc))
  | ((first | ((first | (with_reducible first | refine zR ?_ | refine zQ (by decide +kernel) ?_ | refine zD (by decide +kernel) ?_ | refine zE (by decide +kernel) ?_ | refine zG (by decide +kernel) ?_)); intro K hK) | ((first | (with_reducible refine zu ?_ ?_ <;> intro hg) | with_reducible intro hg) <;> (first | (exfalso; simp at hg; done) | (have hg' := hg; (try simp only [hcs, beq_iff_eq, ge_iff_le, gt_iff_lt] at hg'); (try simp only [hg]))))) <;> (try simp (disch := omega) only [go_sem, wn, decide_eq_false h0, Bool.or_false]) <;> (repeat' with_reducible refine And.intro ?_ ?_) <;> (try (with_reducible refine hK _ ?_; clear hK K)))
  | omega)
    all_goals first
      | ((refine aend_out (by first | exact .inl rfl | exact .inr rfl) ?_ ?_; (focus ((try simp (disch := omega) only [go_sem, wn]) <;> fail)); simp (disch := omega) only [go_sem, wn, true_and]; refine AOut.of_simp ?_ (AOut.same ⟨rfl, rfl⟩); refine SImp.frame [0] rfl (by intro k hk; first | (simp at hk <;> (simp; omega)) | (simp only [List.mem_cons, List.not_mem_nil, or_false] at hk; simp only [List.length_cons, List.length_nil]; omega)) (by decide) (fun k hk => by first | omega | (rcases k with _ | _ | _ | _ | _ | _ | _ | _ | k <;> first | rfl | omega)) ?_ ?_ <;> simp (disch := omega) only [go_sem, wn, true_or, or_true, true_and]); done)
      | (exfalso; rcases h with h | h <;> simp_all; done)
      | (exfalso; rcases h with h | h
         · simp_all
         · omega)
  · rw [show b = false from by cases b <;> simp_all] at *
    rw [curT_ok (by omega)]
    refine zi tabOk Tryd.func85 rfl (by kernel_rfl) (by simp [Tryd.ntmps85]) ?_; simp only [Tryd.ntmps85, Tryd.results85, List.toList_toArray, apar, List.length_nil, List.length_cons, Nat.reduceAdd]
    have e : List.take (s.length - n) (List.drop n s) = List.drop n s := List.take_of_length_le (by rw [List.length_drop]; omega)
    (repeat' first
  | (with_reducible refine AR.f ?_)
  | refine zb (by decide) ?_
  | (with_reducible refine AWP.cond rfl ?_ ?_ <;> intro hc <;> (try simp only [hcs, beq_iff_eq, ge_iff_le, gt_iff_lt] at hc))
  | ((first | ((first | (with_reducible first | refine zR ?_ | refine zQ (by decide +kernel) ?_ | refine zD (by decide +kernel) ?_ | refine zE (by decide +kernel) ?_ | refine zG (by decide +kernel) ?_)); intro K hK) | ((first | (with_reducible refine zu ?_ ?_ <;> intro hg) | with_reducible intro hg) <;> (first | (exfalso; simp at hg; done) | (have hg' := hg; (try simp only [hcs, beq_iff_eq, ge_iff_le, gt_iff_lt] at hg'); (try simp only [hg]))))) <;> (try simp (disch := omega) only [go_sem, wn]) <;> (repeat' with_reducible refine And.intro ?_ ?_) <;> (try (with_reducible refine hK _ ?_; clear hK K)))
  | omega)
    all_goals first | omega | skip
    all_goals (refine aend_out (by first | exact .inl rfl | exact .inr rfl) ?_ ?_; (focus ((try simp (disch := omega) only [go_sem, wn]) <;> fail)); simp (disch := omega) only [go_sem, wn, Nat.sub_zero, e]; refine AOut.of_simp ?_ (AOut.same ⟨rfl, rfl⟩); refine SImp.frame [0] rfl (by intro k hk; first | (simp at hk <;> (simp; omega)) | (simp only [List.mem_cons, List.not_mem_nil, or_false] at hk; simp only [List.length_cons, List.length_nil]; omega)) (by decide) (fun k hk => by first | omega | (rcases k with _ | _ | _ | _ | _ | _ | _ | _ | k <;> first | rfl | omega)) ?_ ?_ <;> simp (disch := omega) only [go_sem, wn, true_or, or_true, Nat.sub_zero, e])
theorem rnumber_c (s : List UInt8) (b : Bool) (n : Nat) (hs : okS s) (ni : Int) (hi : ni = n) (hn : n ≤ 8) : acall Tryd.prog [.cells [S s, B b]] 81 [.ptr 0 0, I ni] (outs (I (numW (curT s b n).t)) [.cells [S (curT s b n).s, B (curT s b n).bad]]) := by
  have hl : (curT s b n).t.length ≤ 8 := by unfold curT; split <;> simp; omega
  generalize hk : curT s b n = k at hl
  refine zi tabOk Tryd.func81 rfl (by kernel_rfl) (by simp [Tryd.ntmps81]) ?_; simp only [Tryd.ntmps81, Tryd.results81, List.toList_toArray, apar, List.length_nil, List.length_cons, Nat.reduceAdd]
  have ct : acall Tryd.prog [.cells [S s, B b]] 82 [.ptr 0 0, I ni] (outs (S k.t) [.cells [S k.s, B k.bad]]) := hk ▸ rtext_c s b n hs ni hi
  (repeat' first
| (with_reducible refine AR.f ?_)
| refine zb (by decide) ?_
| (with_reducible refine AWP.cond rfl ?_ ?_ <;> intro hc <;> (try simp only [hcs, beq_iff_eq, ge_iff_le, gt_iff_lt] at hc))
| ((first | ((first | (with_reducible first | refine zR ?_ | refine zQ (by decide +kernel) ?_ | refine zD (by decide +kernel) ?_ | refine zE (by decide +kernel) ?_ | refine zG (by decide +kernel) ?_)); intro K hK) | (refine acallH_at [0] (ct) ?_ ?_ ?_; (focus ((try simp (disch := omega) only [inj, List.cons.injEq, and_self, List.nodup_cons, List.not_mem_nil, List.mem_cons, not_false_eq_true, List.nodup_nil, go_sem, wn]) <;> (try omega) <;> fail)); (focus ((try simp (disch := omega) only [inj, List.cons.injEq, and_self, List.nodup_cons, List.not_mem_nil, List.mem_cons, not_false_eq_true, List.nodup_nil, go_sem, wn]) <;> (try omega) <;> (try decide) <;> fail))) | ((first | (with_reducible refine zu ?_ ?_ <;> intro hg) | with_reducible intro hg) <;> (first | (exfalso; simp at hg; done) | (have hg' := hg; (try simp only [hcs, beq_iff_eq, ge_iff_le, gt_iff_lt] at hg'); (try simp only [hg]))))) <;> (try simp (disch := omega) only [go_sem, wn]) <;> (repeat' with_reducible refine And.intro ?_ ?_) <;> (try (with_reducible refine hK _ ?_; clear hK K)))
| omega)
  refine AWP.loopB (ι := Nat) (fun j => j ≤ k.t.length) (fun j => k.t.length - j) [11, 12] (fun j => [(5, I (numW (k.t.take j))), (13, I j)]) (fun j => [.cells [S k.s, B k.bad], .bytes k.t]) 0 ?_ ?_ ?_
  · omega
  · simp only [go_sem, numW, List.foldl_nil]; (refine SImp.same ?_; simp (disch := omega) only [go_sem, wn, Int.natCast_add])
  intro j hj
  simp only [go_sem]
  (repeat' first
| (with_reducible refine AR.f ?_)
| refine zb (by decide) ?_
| (with_reducible refine AWP.cond rfl ?_ ?_ <;> intro hc <;> (try simp only [hcs, beq_iff_eq, ge_iff_le, gt_iff_lt] at hc))
| ((first | ((first | (with_reducible first | refine zR ?_ | refine zQ (by decide +kernel) ?_ | refine zD (by decide +kernel) ?_ | refine zE (by decide +kernel) ?_ | refine zG (by decide +kernel) ?_)); intro K hK) | ((first | (with_reducible refine zu ?_ ?_ <;> intro hg) | with_reducible intro hg) <;> (first | (exfalso; simp at hg; done) | (have hg' := hg; (try simp only [hcs, beq_iff_eq, ge_iff_le, gt_iff_lt] at hg'); (try simp only [hg]))))) <;> (try simp (disch := omega) only [go_sem, wn, u8g, or_byte, wrap_byte]) <;> (repeat' with_reducible refine And.intro ?_ ?_) <;> (try (with_reducible refine hK _ ?_; clear hK K)))
| omega)
  · refine ⟨j + 1, by omega, by omega, ?_⟩
    rw [numW_snoc _ _ (by assumption)]
    (refine SImp.same ?_; simp (disch := omega) only [go_sem, wn, Int.natCast_add, or_byte, wrap_byte, u8g])
  rw [show j = k.t.length from by omega, List.take_length]
  (refine aend_out (by first | exact .inl rfl | exact .inr rfl) ?_ ?_; (focus ((try simp (disch := omega) only [go_sem, wn]) <;> fail)); simp (disch := omega) only [go_sem, wn, true_and]; refine AOut.of_simp ?_ (AOut.same ⟨rfl, rfl⟩); refine SImp.frame [0] rfl (by intro k hk; first | (simp at hk <;> (simp; omega)) | (simp only [List.mem_cons, List.not_mem_nil, or_false] at hk; simp only [List.length_cons, List.length_nil]; omega)) (by decide) (fun k hk => by first | omega | (rcases k with _ | _ | _ | _ | _ | _ | _ | _ | k <;> first | rfl | omega)) ?_ ?_ <;> simp (disch := omega) only [go_sem, wn, true_or, or_true, true_and])
theorem rnum_s (s : List UInt8) (b : Bool) (n : Nat) (hs : okS s) (ni : Int) (hi : ni = n) (hn : n ≤ 7) : acall Tryd.prog [.cells [S s, B b]] 81 [.ptr 0 0, I ni] (outs (I (numN (curT s b n).t : Nat)) [.cells [S (curT s b n).s, B (curT s b n).bad]]) := by
  have hl : (curT s b n).t.length ≤ 7 := Nat.le_trans (curT_t s b n) hn
  rw [← numW_small hl]; exact rnumber_c s b n hs ni hi (by omega)
def numU (l : List UInt8) : Int := l.foldl (fun v x => IntKind.u64.wrap (v * 256 + x.toNat)) 0
theorem wrap_u64e (n : Int) : IntKind.u64.wrap n = n % 18446744073709551616 := by simp [IntKind.wrap, IntKind.bits, IntKind.signed]
theorem numU_snoc (t : List UInt8) (k : Nat) (h : k < t.length) : numU (t.take (k + 1)) = IntKind.u64.wrap (numU (t.take k) * 256 + (t.getD k 0).toNat) := by
  unfold numU
  have : t.take (k + 1) = t.take k ++ [t.getD k 0] := take_snoc t k h
  rw [this, List.foldl_append]; rfl
theorem numU_W (t : List UInt8) : IntKind.i64.wrap (numU t) = numW t := by
  have key : ∀ (l : List UInt8) (a b : Int), IntKind.i64.wrap a = IntKind.i64.wrap b → IntKind.i64.wrap (l.foldl (fun v x => IntKind.u64.wrap (v * 256 + x.toNat)) a) = IntKind.i64.wrap (l.foldl (fun v x => IntKind.i64.wrap (v * 256 + x.toNat)) b) := by
    intro l
    induction l with
    | nil => intro a b h; exact h
    | cons x l ih =>
      intro a b h
      refine ih _ _ ?_
      rw [wrap_i64e, wrap_i64e] at h
      show IntKind.i64.wrap (IntKind.u64.wrap (a * 256 + x.toNat)) = IntKind.i64.wrap (IntKind.i64.wrap (b * 256 + x.toNat))
      rw [wrap_i64e, wrap_u64e, wrap_i64e (IntKind.i64.wrap _), wrap_i64e]
      omega
  have h := key t 0 0 rfl
  have h2 : IntKind.i64.wrap (numW t) = numW t := wrap_in _ (numW_okI t)
  rw [← h2]; exact h
theorem wrap_add_u (n : Int) (b : UInt8) : IntKind.u64.wrap (IntKind.u64.wrap (n * 256) + (b.toNat : Int)) = IntKind.u64.wrap (n * 256 + b.toNat) := by
  rw [wrap_u64e, wrap_u64e, wrap_u64e]; omega
theorem wrap_byteU (b : UInt8) : IntKind.u64.wrap (b.toNat : Int) = (b.toNat : Int) := by
  have := b.toNat_lt
  rw [wrap_u64e]; omega
theorem signed_c (s : List UInt8) (hs : okS s) : acall Tryd.prog [] 84 [S s] (ret (I (numW s))) := by
  unfold okS at hs
  refine zi tabOk Tryd.func84 rfl (by kernel_rfl) (by simp [Tryd.ntmps84]) ?_; simp only [Tryd.ntmps84, Tryd.results84, List.toList_toArray, apar, List.length_nil, List.length_cons, Nat.reduceAdd]
  (repeat' first
| (with_reducible refine AR.f ?_)
| refine zb (by decide) ?_
| (with_reducible refine AWP.cond rfl ?_ ?_ <;> intro hc <;> (try simp only [hcs, beq_iff_eq, ge_iff_le, gt_iff_lt] at hc))
| ((first | ((first | (with_reducible first | refine zR ?_ | refine zQ (by decide +kernel) ?_ | refine zD (by decide +kernel) ?_ | refine zE (by decide +kernel) ?_ | refine zG (by decide +kernel) ?_)); intro K hK) | ((first | (with_reducible refine zu ?_ ?_ <;> intro hg) | with_reducible intro hg) <;> (first | (exfalso; simp at hg; done) | (have hg' := hg; (try simp only [hcs, beq_iff_eq, ge_iff_le, gt_iff_lt] at hg'); (try simp only [hg]))))) <;> (try simp (disch := omega) only [go_sem, wn]) <;> (repeat' with_reducible refine And.intro ?_ ?_) <;> (try (with_reducible refine hK _ ?_; clear hK K)))
| omega)
  refine AWP.loopB (ι := Nat) (fun j => j ≤ s.length) (fun j => s.length - j) [7, 8] (fun j => [(3, .d (.int .u64 (numU (s.take j)))), (9, I j)]) (fun j => [.bytes s]) 0 ?_ ?_ ?_
  · omega
  · simp only [go_sem, numU, List.foldl_nil]; (refine SImp.same ?_; simp (disch := omega) only [go_sem, wn, Int.natCast_add])
  intro j hj
  simp only [go_sem]
  (repeat' first
| (with_reducible refine AR.f ?_)
| refine zb (by decide) ?_
| (with_reducible refine AWP.cond rfl ?_ ?_ <;> intro hc <;> (try simp only [hcs, beq_iff_eq, ge_iff_le, gt_iff_lt] at hc))
| ((first | ((first | (with_reducible first | refine zR ?_ | refine zQ (by decide +kernel) ?_ | refine zD (by decide +kernel) ?_ | refine zE (by decide +kernel) ?_ | refine zG (by decide +kernel) ?_)); intro K hK) | ((first | (with_reducible refine zu ?_ ?_ <;> intro hg) | with_reducible intro hg) <;> (first | (exfalso; simp at hg; done) | (have hg' := hg; (try simp only [hcs, beq_iff_eq, ge_iff_le, gt_iff_lt] at hg'); (try simp only [hg]))))) <;> (try simp (disch := omega) only [go_sem, wn, u8g, wrap_byteU, wrap_add_u]) <;> (repeat' with_reducible refine And.intro ?_ ?_) <;> (try (with_reducible refine hK _ ?_; clear hK K)))
| omega)
  · refine ⟨j + 1, by omega, by omega, ?_⟩
    rw [numU_snoc _ _ (by assumption)]
    (refine SImp.same ?_; simp (disch := omega) only [go_sem, wn, Int.natCast_add, wrap_byteU, u8g, wrap_add_u])
  rw [show j = s.length from by omega, List.take_length]
  (refine zF rfl ?_ ?_ ?_ ?_; (iterate 3 (focus ((try simp (disch := omega) only [go_sem, wn, numU_W]) <;> (try omega) <;> fail))); (try simp (disch := omega) only [go_sem, wn, numU_W, I, B, S, inj, List.cons.injEq, and_true, true_and, and_self]))
end Go.Proofs.YtmpfhalheaeibaaDoor
namespace Go.Proofs.YtmpfhalheaeibaaDoor
set_option linter.unusedVariables false
set_option linter.unusedSimpArgs false
open Go Go.RowKit
set_option maxRecDepth 100000
set_option linter.unusedSimpArgs false
theorem snapR_head {s : List UInt8} (h : s.length < 5 ∨ s.getD 0 0 ≠ 83) : snapR s = (default, 2) := by unfold snapR; rw [if_pos h]
theorem snapR_sum {s : List UInt8} (h : ¬ (s.length < 5 ∨ s.getD 0 0 ≠ 83)) (h2 : sumN (s.take (s.length - 4)) ≠ numN (s.drop (s.length - 4))) : snapR s = (default, 5) := by unfold snapR; rw [if_neg h, if_pos h2]
theorem snapR_body {s : List UInt8} (h : ¬ (s.length < 5 ∨ s.getD 0 0 ≠ 83)) (h2 : ¬ sumN (s.take (s.length - 4)) ≠ numN (s.drop (s.length - 4))) : snapR s = bodyR ((s.take (s.length - 4)).drop 1) := by unfold snapR; rw [if_neg h, if_neg h2]
theorem bodyR_bad {b : List UInt8} (h : (z5 b).bad = true ∨ (z5 b).s ≠ []) : bodyR b = (default, 2) := by unfold bodyR; rw [if_pos h]
theorem bodyR_ok {b : List UInt8} (h : ¬ ((z5 b).bad = true ∨ (z5 b).s ≠ [])) : bodyR b = if goodTr (treeR b) = true then (treeR b, 0) else (default, 3) := by unfold bodyR; rw [if_neg h]
theorem s_head {s : List UInt8} : ((s.length : Int) < 5 ∨ ¬ ((s.getD 0 0).toNat : Int) = 83) ↔ (s.length < 5 ∨ s.getD 0 0 ≠ 83) := by
  have h0 : s.getD 0 0 = 83 ↔ ((s.getD 0 0).toNat : Int) = 83 := by
    constructor
    · intro h; rw [h]; rfl
    · intro h; apply UInt8.toNat_inj.1; show _ = 83; omega
  rw [show (s.getD 0 0 ≠ 83) = ¬ (s.getD 0 0 = 83) from rfl, h0]; omega
theorem curT_full (s : List UInt8) {n : Nat} (h : s.length = n) : curT s false n = ⟨s, [], false⟩ := by
  rw [curT_ok (by omega), List.take_of_length_le (by omega), List.drop_eq_nil_of_le (by omega)]
set_option maxHeartbeats 16000000 in
theorem snapRead_c (s : List UInt8) (hs : s.length ≤ 1048576) : acall Tryd.prog [] 29 [S s] (ret (.tup [(snapR s).1.av, I (snapR s).2])) := by
  by_cases h1 : s.length < 5 ∨ s.getD 0 0 ≠ 83
  · rw [snapR_head h1]
    have h1' := s_head.2 h1
    refine zi tabOk Tryd.func29 rfl (by kernel_rfl) (by simp [Tryd.ntmps29]) ?_; simp only [Tryd.ntmps29, Tryd.results29, List.toList_toArray, apar, List.length_nil, List.length_cons, Nat.reduceAdd]
    (repeat' first
  | (with_reducible refine AR.f ?_)
  | refine zb (by decide) ?_
  | (with_reducible refine AWP.cond rfl ?_ ?_ <;> intro hc <;> (try simp only [hcs, beq_iff_eq, ge_iff_le, gt_iff_lt] at hc))
  | ((first | ((first | (with_reducible first | refine zR ?_ | refine zQ (by decide +kernel) ?_ | refine zD (by decide +kernel) ?_ | refine zE (by decide +kernel) ?_ | refine zG (by decide +kernel) ?_)); intro K hK) | ((first | (with_reducible refine zu ?_ ?_ <;> intro hg) | with_reducible intro hg) <;> (first | (exfalso; simp at hg; done) | (have hg' := hg; (try simp only [hcs, beq_iff_eq, ge_iff_le, gt_iff_lt] at hg'); (try simp only [hg]))))) <;> (try simp (disch := omega) only [go_sem, wn]) <;> (repeat' with_reducible refine And.intro ?_ ?_) <;> (try (with_reducible refine hK _ ?_; clear hK K)))
  | omega)
    all_goals (refine zF rfl ?_ ?_ ?_ ?_; (iterate 3 (focus ((try simp (disch := omega) only [go_sem, wn, default]) <;> (try omega) <;> fail))); (try simp (disch := omega) only [go_sem, wn, default, I, B, S, inj, List.cons.injEq, and_true, true_and, and_self]))
  have h1' : ¬ ((s.length : Int) < 5 ∨ ¬ ((s.getD 0 0).toNat : Int) = 83) := fun h => h1 (s_head.1 h)
  have hlen : 5 ≤ s.length := by omega
  have q4 : ((s.length : Int) - 4).toNat = s.length - 4 := by omega
  have htl : (s.drop (s.length - 4)).length = 4 := by rw [List.length_drop]; omega
  have hdl : List.take (s.length - (s.length - 4)) (List.drop (s.length - 4) s) = List.drop (s.length - 4) s := List.take_of_length_le (by rw [List.length_drop]; omega)
  have ok {t : List UInt8} (h : t.length ≤ 1048576) : okS t := by unfold okS; omega
  have hbl : (s.take (s.length - 4)).length ≤ 1048576 := by rw [List.length_take]; omega
  have hsum := sum_c (s.take (s.length - 4)) (ok hbl)
  have ct := rnum_s (s.drop (s.length - 4)) false 4 (ok (by omega)) 4 rfl (by decide)
  rw [curT_full _ htl] at ct
  by_cases h2 : sumN (s.take (s.length - 4)) ≠ numN (s.drop (s.length - 4))
  · rw [snapR_sum h1 h2]
    refine zi tabOk Tryd.func29 rfl (by kernel_rfl) (by simp [Tryd.ntmps29]) ?_; simp only [Tryd.ntmps29, Tryd.results29, List.toList_toArray, apar, List.length_nil, List.length_cons, Nat.reduceAdd]
    (repeat' first
  | (with_reducible refine AR.f ?_)
  | refine zb (by decide) ?_
  | (with_reducible refine AWP.cond rfl ?_ ?_ <;> intro hc <;> (try simp only [hcs, beq_iff_eq, ge_iff_le, gt_iff_lt] at hc))
  | ((first | ((first | (with_reducible first | refine zR ?_ | refine zQ (by decide +kernel) ?_ | refine zD (by decide +kernel) ?_ | refine zE (by decide +kernel) ?_ | refine zG (by decide +kernel) ?_)); intro K hK) | ((first | refine zA hsum ?_ ?_ ?_ ?_ ?_); (focus exact rfl); (focus exact rfl); iterate 2 (focus ((try simp (disch := omega) only [go_sem, wn, q4, hdl, Nat.sub_zero]) <;> (try omega) <;> fail))) | ((first | refine zN hsum rfl ?_ ?_); (focus ((try simp (disch := omega) only [go_sem, wn, q4, hdl, Nat.sub_zero]) <;> (try omega) <;> fail))) | (first | ((first | refine zX hsum rfl ?_ ?_ | refine zy hsum ?_ ?_); (focus ((try simp (disch := omega) only [go_sem, wn, q4, hdl, Nat.sub_zero]) <;> (try omega) <;> fail)))) | (refine acallH_at [1] (ct) ?_ ?_ ?_; (focus ((try simp (disch := omega) only [inj, List.cons.injEq, and_self, List.nodup_cons, List.not_mem_nil, List.mem_cons, not_false_eq_true, List.nodup_nil, go_sem, wn, q4, hdl, Nat.sub_zero]) <;> (try omega) <;> fail)); (focus ((try simp (disch := omega) only [inj, List.cons.injEq, and_self, List.nodup_cons, List.not_mem_nil, List.mem_cons, not_false_eq_true, List.nodup_nil, go_sem, wn, q4, hdl, Nat.sub_zero]) <;> (try omega) <;> (try decide) <;> fail))) | ((first | (with_reducible refine zu ?_ ?_ <;> intro hg) | with_reducible intro hg) <;> (first | (exfalso; simp at hg; done) | (have hg' := hg; (try simp only [hcs, beq_iff_eq, ge_iff_le, gt_iff_lt] at hg'); (try simp only [hg]))))) <;> (try simp (disch := omega) only [go_sem, wn, q4, hdl, Nat.sub_zero]) <;> (repeat' with_reducible refine And.intro ?_ ?_) <;> (try (with_reducible refine hK _ ?_; clear hK K)))
  | omega)
    all_goals first | (exfalso; omega) | skip
    all_goals (refine zF rfl ?_ ?_ ?_ ?_; (iterate 3 (focus ((try simp (disch := omega) only [go_sem, wn, default]) <;> (try omega) <;> fail))); (try simp (disch := omega) only [go_sem, wn, default, I, B, S, inj, List.cons.injEq, and_true, true_and, and_self]))
  rw [snapR_body h1 h2]
  have hb1' : List.take (min (s.length - 4) s.length - 1) (List.drop 1 (s.take (s.length - 4))) = (s.take (s.length - 4)).drop 1 := List.take_of_length_le (by rw [List.length_drop, List.length_take]; omega)
  have hbb : ((s.take (s.length - 4)).drop 1).length ≤ 1048576 := by rw [List.length_drop]; omega
  generalize hbe : (s.take (s.length - 4)).drop 1 = b at hbb ⊢
  have hb1 : List.take (min (s.length - 4) s.length - 1) (List.drop 1 (s.take (s.length - 4))) = b := hb1'.trans hbe
  obtain ⟨o3, o5, l1, l2, l4⟩ := z_ok b hbb
  have c1 := rnumber_c b false 8 (ok hbb) 8 rfl (by decide)
  rw [show curT b false 8 = z1 b from rfl] at c1
  have c2 := rnum_s (z1 b).s (z1 b).bad 4 (ok l1) 4 rfl (by decide)
  rw [show curT (z1 b).s (z1 b).bad 4 = z2 b from rfl] at c2
  refine zi tabOk Tryd.func29 rfl (by kernel_rfl) (by simp [Tryd.ntmps29]) ?_; simp only [Tryd.ntmps29, Tryd.results29, List.toList_toArray, apar, List.length_nil, List.length_cons, Nat.reduceAdd]
  (repeat' first
| (with_reducible refine AR.f ?_)
| refine zb (by decide) ?_
| (with_reducible refine AWP.cond rfl ?_ ?_ <;> intro hc <;> (try simp only [hcs, beq_iff_eq, ge_iff_le, gt_iff_lt] at hc))
| ((first | ((first | (with_reducible first | refine zR ?_ | refine zQ (by decide +kernel) ?_ | refine zD (by decide +kernel) ?_ | refine zE (by decide +kernel) ?_ | refine zG (by decide +kernel) ?_)); intro K hK) | ((first | refine zA hsum ?_ ?_ ?_ ?_ ?_); (focus exact rfl); (focus exact rfl); iterate 2 (focus ((try simp (disch := omega) only [go_sem, wn, q4, hdl, hb1, Nat.sub_zero]) <;> (try omega) <;> fail))) | ((first | refine zN hsum rfl ?_ ?_); (focus ((try simp (disch := omega) only [go_sem, wn, q4, hdl, hb1, Nat.sub_zero]) <;> (try omega) <;> fail))) | (first | ((first | refine zX hsum rfl ?_ ?_ | refine zy hsum ?_ ?_); (focus ((try simp (disch := omega) only [go_sem, wn, q4, hdl, hb1, Nat.sub_zero]) <;> (try omega) <;> fail)))) | (refine acallH_at [1] (ct) ?_ ?_ ?_; (focus ((try simp (disch := omega) only [inj, List.cons.injEq, and_self, List.nodup_cons, List.not_mem_nil, List.mem_cons, not_false_eq_true, List.nodup_nil, go_sem, wn, q4, hdl, hb1, Nat.sub_zero]) <;> (try omega) <;> fail)); (focus ((try simp (disch := omega) only [inj, List.cons.injEq, and_self, List.nodup_cons, List.not_mem_nil, List.mem_cons, not_false_eq_true, List.nodup_nil, go_sem, wn, q4, hdl, hb1, Nat.sub_zero]) <;> (try omega) <;> (try decide) <;> fail))) | (refine acallH_at [2] (c1) ?_ ?_ ?_; (focus ((try simp (disch := omega) only [inj, List.cons.injEq, and_self, List.nodup_cons, List.not_mem_nil, List.mem_cons, not_false_eq_true, List.nodup_nil, go_sem, wn, q4, hdl, hb1, Nat.sub_zero]) <;> (try omega) <;> fail)); (focus ((try simp (disch := omega) only [inj, List.cons.injEq, and_self, List.nodup_cons, List.not_mem_nil, List.mem_cons, not_false_eq_true, List.nodup_nil, go_sem, wn, q4, hdl, hb1, Nat.sub_zero]) <;> (try omega) <;> (try decide) <;> fail))) | (refine acallH_at [2] (c2) ?_ ?_ ?_; (focus ((try simp (disch := omega) only [inj, List.cons.injEq, and_self, List.nodup_cons, List.not_mem_nil, List.mem_cons, not_false_eq_true, List.nodup_nil, go_sem, wn, q4, hdl, hb1, Nat.sub_zero]) <;> (try omega) <;> fail)); (focus ((try simp (disch := omega) only [inj, List.cons.injEq, and_self, List.nodup_cons, List.not_mem_nil, List.mem_cons, not_false_eq_true, List.nodup_nil, go_sem, wn, q4, hdl, hb1, Nat.sub_zero]) <;> (try omega) <;> (try decide) <;> fail))) | ((first | (with_reducible refine zu ?_ ?_ <;> intro hg) | with_reducible intro hg) <;> (first | (exfalso; simp at hg; done) | (have hg' := hg; (try simp only [hcs, beq_iff_eq, ge_iff_le, gt_iff_lt] at hg'); (try simp only [hg]))))) <;> (try simp (disch := omega) only [go_sem, wn, q4, hdl, hb1, Nat.sub_zero]) <;> (repeat' with_reducible refine And.intro ?_ ?_) <;> (try (with_reducible refine hK _ ?_; clear hK K)))
| omega)
  refine AWP.weaken (SImp.nilOwnC 3 2 1 rfl rfl) ?_
  simp only [go_sem]
  refine AWP.loopB (ι := Nat × PSt Int) (fun v => runP rdS v.1 v.2 = z3 b ∧ OkP okI 1048576 v.2 ∧ v.1 < 4294967296) (fun v => v.1) [2, 6, 7] (fun v => [(8, I v.1)]) (fun v => [.cells [I 0, .d (.sc (.slice none 0 0)), .d (.sc (.slice none 0 0))], .cells [S [], B false], .cells [S v.2.s, B v.2.bad], .cells [I (numW (z1 b).t), .d (.sc (.slice none 0 0)), .osl 4 1 0 v.2.l.length], .rows 1 (v.2.l.map irow)]) (numN (z2 b).t, ⟨[], (z2 b).s, (z2 b).bad⟩) ?_ ?_ ?_
  · exact ⟨rfl, ⟨l2, Nat.zero_le _, fun _ => by show 0 + (z2 b).s.length ≤ _; omega, fun _ h => by cases h⟩, numN_lt (k := 4) (curT_t _ _ _) (by decide)⟩
  · simp only [go_sem]; (refine SImp.same ?_; simp (disch := omega) only [go_sem, wn, Int.natCast_add])
  intro ⟨m, p⟩ ⟨hr, hp, hm⟩
  simp only at hr hp hm
  simp only [go_sem]
  by_cases hgo : 0 < m ∧ p.bad = false
  · obtain ⟨m, rfl⟩ : ∃ k, m = k + 1 := ⟨m - 1, by omega⟩
    rw [runP_go hgo.2] at hr
    have hp2 := hp.step (rdS_ok _) hgo.2
    have hb := hp.b hgo.2
    have c3 := rnum_s p.s p.bad 4 (ok hp.s) 4 rfl (by decide)
    have hbad := hgo.2
    obtain ⟨pl, ps, pb⟩ := p
    simp only at hbad hb c3
    subst hbad
    generalize hcc : curT ps false 4 = c at c3
    (repeat' first
  | (with_reducible refine AR.f ?_)
  | refine zb (by decide) ?_
  | (with_reducible refine AWP.cond rfl ?_ ?_ <;> intro hc <;> (try simp only [hcs, beq_iff_eq, ge_iff_le, gt_iff_lt] at hc))
  | ((first | ((first | refine zP ((Plan.takes [0, 2] (.fork 1 (Plan.takes [3, 4, 5, 6, 7] .done) 3 (.fork 1 (Plan.takes [4, 5, 6, 7] .done) 4 (Plan.takes [1, 5, 6, 7] .done))))) (by decide +kernel) ?_ | (with_reducible first | refine zR ?_ | refine zQ (by decide +kernel) ?_ | refine zD (by decide +kernel) ?_ | refine zE (by decide +kernel) ?_ | refine zG (by decide +kernel) ?_)); intro K hK) | (refine acallH_at [2] (c3) ?_ ?_ ?_; (focus ((try simp (disch := omega) only [inj, List.cons.injEq, and_self, List.nodup_cons, List.not_mem_nil, List.mem_cons, not_false_eq_true, List.nodup_nil, go_sem, wn]) <;> (try omega) <;> fail)); (focus ((try simp (disch := omega) only [inj, List.cons.injEq, and_self, List.nodup_cons, List.not_mem_nil, List.mem_cons, not_false_eq_true, List.nodup_nil, go_sem, wn]) <;> (try omega) <;> (try decide) <;> fail))) | ((first | (with_reducible refine zu ?_ ?_ <;> intro hg) | with_reducible intro hg) <;> (first | (exfalso; simp at hg; done) | (have hg' := hg; (try simp only [hcs, beq_iff_eq, ge_iff_le, gt_iff_lt] at hg'); (try simp only [hg]))))) <;> (try simp (disch := omega) only [go_sem, wn]) <;> (repeat' with_reducible refine And.intro ?_ ?_) <;> (try (with_reducible refine hK _ ?_; clear hK K)))
  | omega)
    all_goals
      refine ⟨(m, stepP rdS ⟨pl, ps, false⟩), ⟨hr, hp2, by omega⟩, Nat.lt_succ_self m, ?_⟩
      simp only [stepP, rdS, hcc, List.length_append, List.length_singleton, List.map_append, List.map_cons, List.map_nil]
      (refine SImp.frame [0, 1, 2, 3, 6] rfl (by intro k hk; first | (simp at hk <;> (simp; omega)) | (simp only [List.mem_cons, List.not_mem_nil, or_false] at hk; simp only [List.length_cons, List.length_nil]; omega)) (by decide) (fun k hk => by first | omega | (rcases k with _ | _ | _ | _ | _ | _ | _ | _ | k <;> first | rfl | omega)) ?_ ?_ <;> simp (disch := omega) only [go_sem, wn, Int.natCast_add, irow, Int.add_sub_cancel] <;> (try rfl))
  have hz : z3 b = p := by rw [← hr]; exact runP_bad (by rcases Nat.eq_zero_or_pos m with h | h; exact .inl h; right; cases e : p.bad with | true => rfl | false => exact absurd ⟨h, e⟩ hgo)
  have c4 := rnum_s p.s p.bad 4 (ok hp.s) 4 rfl (by decide)
  rw [show curT p.s p.bad 4 = z4 b from by rw [← hz]; rfl] at c4
  (repeat' first
| (with_reducible refine AR.f ?_)
| refine zb (by decide) ?_
| (with_reducible refine AWP.cond rfl ?_ ?_ <;> intro hc <;> (try simp only [hcs, beq_iff_eq, ge_iff_le, gt_iff_lt] at hc))
| ((first | ((first | (with_reducible first | refine zR ?_ | refine zQ (by decide +kernel) ?_ | refine zD (by decide +kernel) ?_ | refine zE (by decide +kernel) ?_ | refine zG (by decide +kernel) ?_)); intro K hK) | (refine acallH_at [2] (c4) ?_ ?_ ?_; (focus ((try simp (disch := omega) only [inj, List.cons.injEq, and_self, List.nodup_cons, List.not_mem_nil, List.mem_cons, not_false_eq_true, List.nodup_nil, go_sem, wn]) <;> (try omega) <;> fail)); (focus ((try simp (disch := omega) only [inj, List.cons.injEq, and_self, List.nodup_cons, List.not_mem_nil, List.mem_cons, not_false_eq_true, List.nodup_nil, go_sem, wn]) <;> (try omega) <;> (try decide) <;> fail))) | ((first | (with_reducible refine zu ?_ ?_ <;> intro hg) | with_reducible intro hg) <;> (first | (exfalso; simp at hg; done) | (have hg' := hg; (try simp only [hcs, beq_iff_eq, ge_iff_le, gt_iff_lt] at hg'); (try simp only [hg]))))) <;> (try simp (disch := omega) only [go_sem, wn]) <;> (repeat' with_reducible refine And.intro ?_ ?_) <;> (try (with_reducible refine hK _ ?_; clear hK K)))
| omega)
  · exact absurd ⟨by omega, hc.2⟩ hgo
  clear hr hp hm hgo hc
  subst hz
  have hzl := o3.l
  refine AWP.weaken (SImp.nilOwnC 3 1 9 rfl rfl) ?_
  simp only [go_sem]
  refine AWP.loopB (ι := Nat × PSt ANode) (fun v => runP rdN v.1 v.2 = z5 b ∧ OkP nodeW 1048576 v.2 ∧ v.1 < 4294967296) (fun v => v.1) [2, 6, 7] (fun v => [(9, I v.1)]) (fun v => [.cells [I 0, .d (.sc (.slice none 0 0)), .d (.sc (.slice none 0 0))], .cells [S [], B false], .cells [S v.2.s, B v.2.bad], .cells [I (numW (z1 b).t), .osl 5 9 0 v.2.l.length, .osl 4 1 0 (z3 b).l.length], .rows 1 ((z3 b).l.map irow), .rows 9 (v.2.l.map ANode.row)]) (numN (z4 b).t, ⟨[], (z4 b).s, (z4 b).bad⟩) ?_ ?_ ?_
  · exact ⟨rfl, ⟨l4, Nat.zero_le _, fun _ => by show 0 + (z4 b).s.length ≤ _; omega, fun _ h => by cases h⟩, numN_lt (k := 4) (curT_t _ _ _) (by decide)⟩
  · simp only [go_sem]; (refine SImp.same ?_; simp (disch := omega) only [go_sem, wn, Int.natCast_add])
  intro ⟨m, p⟩ ⟨hr, hp, hm⟩
  simp only at hr hp hm
  simp only [go_sem]
  by_cases hgo : 0 < m ∧ p.bad = false
  · obtain ⟨m, rfl⟩ : ∃ k, m = k + 1 := ⟨m - 1, by omega⟩
    rw [runP_go hgo.2] at hr
    have hp2 := hp.step (rdN_ok _ (Nat.le_refl _)) hgo.2
    have hb := hp.b hgo.2
    have hps := hp.s
    have hbad := hgo.2
    obtain ⟨pl, ps, pb⟩ := p
    simp only at hbad hb hps
    subst hbad
    obtain ⟨a4, a3, a2, a1, a5, a6⟩ := n4_le ps false
    have d1 := rnum_s ps false 1 (ok hps) 1 rfl (by decide)
    rw [show curT ps false 1 = n1 ps false from rfl] at d1
    have d2 := rtext_c (n1 ps false).s (n1 ps false).bad (numN (n1 ps false).t) (ok (by omega)) (numN (n1 ps false).t : Nat) rfl
    rw [show curT (n1 ps false).s (n1 ps false).bad (numN (n1 ps false).t) = n2 ps false from rfl] at d2
    have d3 := rnum_s (n2 ps false).s (n2 ps false).bad 2 (ok (by omega)) 2 rfl (by decide)
    rw [show curT (n2 ps false).s (n2 ps false).bad 2 = n3 ps false from rfl] at d3
    have d4 := rtext_c (n3 ps false).s (n3 ps false).bad (numN (n3 ps false).t) (ok (by omega)) (numN (n3 ps false).t : Nat) rfl
    rw [show curT (n3 ps false).s (n3 ps false).bad (numN (n3 ps false).t) = n4 ps false from rfl] at d4
    (repeat' first
  | (with_reducible refine AR.f ?_)
  | refine zb (by decide) ?_
  | (with_reducible refine AWP.cond rfl ?_ ?_ <;> intro hc <;> (try simp only [hcs, beq_iff_eq, ge_iff_le, gt_iff_lt] at hc))
  | (refine zh fun Kk hKk => (zi tabOk Tryd.func77 rfl (by kernel_rfl) (by simp [Tryd.ntmps77]) ?_); simp only [Tryd.ntmps77, Tryd.results77, List.toList_toArray, apar, List.length_nil, List.length_cons, Nat.reduceAdd, List.length_append, List.length_set, go_sem])
  | ((first | ((first | (with_reducible first | refine zR ?_ | refine zQ (by decide +kernel) ?_ | refine zD (by decide +kernel) ?_ | refine zE (by decide +kernel) ?_ | refine zG (by decide +kernel) ?_)); intro K hK) | (refine acallH_at [2] (d1) ?_ ?_ ?_; (focus ((try simp (disch := omega) only [inj, List.cons.injEq, and_self, List.nodup_cons, List.not_mem_nil, List.mem_cons, not_false_eq_true, List.nodup_nil, go_sem, wn]) <;> (try omega) <;> fail)); (focus ((try simp (disch := omega) only [inj, List.cons.injEq, and_self, List.nodup_cons, List.not_mem_nil, List.mem_cons, not_false_eq_true, List.nodup_nil, go_sem, wn]) <;> (try omega) <;> (try decide) <;> fail))) | (refine acallH_at [2] (d2) ?_ ?_ ?_; (focus ((try simp (disch := omega) only [inj, List.cons.injEq, and_self, List.nodup_cons, List.not_mem_nil, List.mem_cons, not_false_eq_true, List.nodup_nil, go_sem, wn]) <;> (try omega) <;> fail)); (focus ((try simp (disch := omega) only [inj, List.cons.injEq, and_self, List.nodup_cons, List.not_mem_nil, List.mem_cons, not_false_eq_true, List.nodup_nil, go_sem, wn]) <;> (try omega) <;> (try decide) <;> fail))) | (refine acallH_at [2] (d3) ?_ ?_ ?_; (focus ((try simp (disch := omega) only [inj, List.cons.injEq, and_self, List.nodup_cons, List.not_mem_nil, List.mem_cons, not_false_eq_true, List.nodup_nil, go_sem, wn]) <;> (try omega) <;> fail)); (focus ((try simp (disch := omega) only [inj, List.cons.injEq, and_self, List.nodup_cons, List.not_mem_nil, List.mem_cons, not_false_eq_true, List.nodup_nil, go_sem, wn]) <;> (try omega) <;> (try decide) <;> fail))) | (refine acallH_at [2] (d4) ?_ ?_ ?_; (focus ((try simp (disch := omega) only [inj, List.cons.injEq, and_self, List.nodup_cons, List.not_mem_nil, List.mem_cons, not_false_eq_true, List.nodup_nil, go_sem, wn]) <;> (try omega) <;> fail)); (focus ((try simp (disch := omega) only [inj, List.cons.injEq, and_self, List.nodup_cons, List.not_mem_nil, List.mem_cons, not_false_eq_true, List.nodup_nil, go_sem, wn]) <;> (try omega) <;> (try decide) <;> fail))) | (refine zw (v := ?_) hKk (by first | exact .inl rfl | exact .inr rfl) ?_ ?_ ?_; rotate_left; (focus ((try simp (disch := omega) only [go_sem, wn]) <;> (try omega) <;> fail)); (focus ((try simp (disch := omega) only [go_sem, wn]) <;> (first | done | exact rfl))); clear hKk Kk) | ((first | (with_reducible refine zu ?_ ?_ <;> intro hg) | with_reducible intro hg) <;> (first | (exfalso; simp at hg; done) | (have hg' := hg; (try simp only [hcs, beq_iff_eq, ge_iff_le, gt_iff_lt] at hg'); (try simp only [hg]))))) <;> (try simp (disch := omega) only [go_sem, wn]) <;> (repeat' with_reducible refine And.intro ?_ ?_) <;> (try (with_reducible refine hK _ ?_; clear hK K)))
  | omega)
    refine AWP.loopB (ι := Nat) (fun j => j ≤ 7) (fun j => 7 - j) [2, 6, 7, 9, 10, 91, 92] (fun j => [(93, I j)]) (fun j => [.cells [I 0, .d (.sc (.slice none 0 0)), .d (.sc (.slice none 0 0))], .cells [S [], B false], .cells [S (n5 ps false j).s, B (n5 ps false j).bad], .cells [I (numW (z1 b).t), .osl 5 9 0 pl.length, .osl 4 1 0 (z3 b).l.length], .rows 1 ((z3 b).l.map irow), .rows 9 (pl.map ANode.row), .cells (nodeC (n2 ps false).t (n4 ps false).t (n5 ps false j).l), .cells [.ptr 6 2, .ptr 6 3, .ptr 6 4, .ptr 6 5, .ptr 6 6, .ptr 6 7, .ptr 6 8]]) 0 ?_ ?_ ?_
    · omega
    · simp only [go_sem]; (refine SImp.same ?_; simp (disch := omega) only [go_sem, wn, Int.natCast_add])
    intro j hj
    simp only [go_sem]
    by_cases hj7 : j < 7
    · have e1 := ptrs_get 6 2 j hj7
      have hq : (n5 ps false j).s.length ≤ 1048576 := by have := numsK_le (n4 ps false).s (n4 ps false).bad j; show (numsK _ _ j).s.length ≤ _; omega
      have d5 := rnumber_c (n5 ps false j).s (n5 ps false j).bad 8 (ok hq) 8 rfl (by decide)
      have e2 := nodeC_set (p := (n2 ps false).t) (d := (n4 ps false).t) (numsK_len (n4 ps false).s (n4 ps false).bad j) hj7 (numW (curT (n5 ps false j).s (n5 ps false j).bad 8).t)
      rw [show (numsK (n4 ps false).s (n4 ps false).bad j).l = (n5 ps false j).l from rfl] at e2
      (repeat' first
    | (with_reducible refine AR.f ?_)
    | refine zb (by decide) ?_
    | (with_reducible refine AWP.cond rfl ?_ ?_ <;> intro hc <;> (try simp only [hcs, beq_iff_eq, ge_iff_le, gt_iff_lt] at hc))
    | ((first | ((first | (with_reducible first | refine zR ?_ | refine zQ (by decide +kernel) ?_ | refine zD (by decide +kernel) ?_ | refine zE (by decide +kernel) ?_ | refine zG (by decide +kernel) ?_)); intro K hK) | (refine acallH_at [2] (d5) ?_ ?_ ?_; (focus ((try simp (disch := omega) only [inj, List.cons.injEq, and_self, List.nodup_cons, List.not_mem_nil, List.mem_cons, not_false_eq_true, List.nodup_nil, go_sem, wn, e1, e2, nodeC_len, Nat.mul_one, Nat.zero_add, Nat.add_zero]) <;> (try omega) <;> fail)); (focus ((try simp (disch := omega) only [inj, List.cons.injEq, and_self, List.nodup_cons, List.not_mem_nil, List.mem_cons, not_false_eq_true, List.nodup_nil, go_sem, wn, e1, e2, nodeC_len, Nat.mul_one, Nat.zero_add, Nat.add_zero]) <;> (try omega) <;> (try decide) <;> fail))) | ((first | (with_reducible refine zu ?_ ?_ <;> intro hg) | with_reducible intro hg) <;> (first | (exfalso; simp at hg; done) | (have hg' := hg; (try simp only [hcs, beq_iff_eq, ge_iff_le, gt_iff_lt] at hg'); (try simp only [hg]))))) <;> (try simp (disch := omega) only [go_sem, wn, e1, e2, nodeC_len, Nat.mul_one, Nat.zero_add, Nat.add_zero]) <;> (repeat' with_reducible refine And.intro ?_ ?_) <;> (try (with_reducible refine hK _ ?_; clear hK K)))
    | omega)
      refine ⟨j + 1, by omega, by omega, ?_⟩
      rw [show n5 ps false (j + 1) = ⟨(n5 ps false j).l ++ [numW (curT (n5 ps false j).s (n5 ps false j).bad 8).t], (curT (n5 ps false j).s (n5 ps false j).bad 8).s, (curT (n5 ps false j).s (n5 ps false j).bad 8).bad⟩ from rfl]
      (refine SImp.same ?_; simp (disch := omega) only [go_sem, wn, Int.natCast_add])
    have hje : j = 7 := by omega
    subst hje
    (repeat' first
  | (with_reducible refine AR.f ?_)
  | refine zb (by decide) ?_
  | (with_reducible refine AWP.cond rfl ?_ ?_ <;> intro hc <;> (try simp only [hcs, beq_iff_eq, ge_iff_le, gt_iff_lt] at hc))
  | ((first | ((first | (with_reducible first | refine zR ?_ | refine zQ (by decide +kernel) ?_ | refine zD (by decide +kernel) ?_ | refine zE (by decide +kernel) ?_ | refine zG (by decide +kernel) ?_)); intro K hK) | ((first | (with_reducible refine zu ?_ ?_ <;> intro hg) | with_reducible intro hg) <;> (first | (exfalso; simp at hg; done) | (have hg' := hg; (try simp only [hcs, beq_iff_eq, ge_iff_le, gt_iff_lt] at hg'); (try simp only [hg]))))) <;> (try simp (disch := omega) only [go_sem, wn, nodeC]) <;> (repeat' with_reducible refine And.intro ?_ ?_) <;> (try (with_reducible refine hK _ ?_; clear hK K)))
  | omega)
    refine ⟨(m, stepP rdN ⟨pl, ps, false⟩), ⟨hr, hp2, by omega⟩, Nat.lt_succ_self m, ?_⟩
    simp only [stepP, rdN, statO, List.length_append, List.length_singleton, List.map_append, List.map_cons, List.map_nil, ANode.row]
    (refine SImp.frame [0, 1, 2, 3, 4, 9] rfl (by intro k hk; first | (simp at hk <;> (simp; omega)) | (simp only [List.mem_cons, List.not_mem_nil, or_false] at hk; simp only [List.length_cons, List.length_nil]; omega)) (by decide) (fun k hk => by first | omega | (rcases k with _ | _ | _ | _ | _ | _ | _ | _ | k <;> first | rfl | omega)) ?_ ?_ <;> simp (disch := omega) only [go_sem, wn, Int.natCast_add, Int.add_sub_cancel] <;> (try rfl))
  have hz : z5 b = p := by rw [← hr]; exact runP_bad (by rcases Nat.eq_zero_or_pos m with h | h; exact .inl h; right; cases e : p.bad with | true => rfl | false => exact absurd ⟨h, e⟩ hgo)
  obtain ⟨tw, tp⟩ := treeR_wf b hbb
  have cg := tgood_c (treeR b) tw
  have hwl := o5.l
  subst hz
  have t5 : List.take (z5 b).l.length (List.map ANode.row (z5 b).l) = List.map ANode.row (z5 b).l := List.take_of_length_le (by simp)
  have t3 : List.take (z3 b).l.length (List.map irow (z3 b).l) = List.map irow (z3 b).l := List.take_of_length_le (by simp)
  by_cases hbd : (z5 b).bad = true ∨ (z5 b).s ≠ []
  · rw [bodyR_bad hbd]
    (repeat' first
  | (with_reducible refine AR.f ?_)
  | refine zb (by decide) ?_
  | (with_reducible refine AWP.cond rfl ?_ ?_ <;> intro hc <;> (try simp only [hcs, beq_iff_eq, ge_iff_le, gt_iff_lt] at hc))
  | ((first | ((first | (with_reducible first | refine zR ?_ | refine zQ (by decide +kernel) ?_ | refine zD (by decide +kernel) ?_ | refine zE (by decide +kernel) ?_ | refine zG (by decide +kernel) ?_)); intro K hK) | ((first | (with_reducible refine zu ?_ ?_ <;> intro hg) | with_reducible intro hg) <;> (first | (exfalso; simp at hg; done) | (have hg' := hg; (try simp only [hcs, beq_iff_eq, ge_iff_le, gt_iff_lt] at hg'); (try simp only [hg]))))) <;> (try simp (disch := omega) only [go_sem, wn]) <;> (repeat' with_reducible refine And.intro ?_ ?_) <;> (try (with_reducible refine hK _ ?_; clear hK K)))
  | omega)
    all_goals first
      | exact absurd ⟨by omega, hc.2⟩ hgo
      | (exfalso; rcases hbd with h | h <;> simp_all; done)
      | ((refine zF rfl ?_ ?_ ?_ ?_; (iterate 3 (focus ((try simp (disch := omega) only [go_sem, wn, default]) <;> (try omega) <;> fail))); (try simp (disch := omega) only [go_sem, wn, default, I, B, S, inj, List.cons.injEq, and_true, true_and, and_self])); done)
      | (exfalso; rcases hbd with h | h
         · rw [h] at hc; exact absurd hc.1 (by decide)
         · exact h hc.2)
  rw [bodyR_ok hbd]
  by_cases hg : goodTr (treeR b) = true
  · rw [if_pos hg]
    rw [hg] at cg
    unfold ATree.av treeR at cg
    (repeat' first
  | (with_reducible refine AR.f ?_)
  | refine zb (by decide) ?_
  | (with_reducible refine AWP.cond rfl ?_ ?_ <;> intro hc <;> (try simp only [hcs, beq_iff_eq, ge_iff_le, gt_iff_lt] at hc))
  | ((first | ((first | (with_reducible first | refine zR ?_ | refine zQ (by decide +kernel) ?_ | refine zD (by decide +kernel) ?_ | refine zE (by decide +kernel) ?_ | refine zG (by decide +kernel) ?_)); intro K hK) | ((first | refine zA cg ?_ ?_ ?_ ?_ ?_); (focus exact rfl); (focus exact rfl); iterate 2 (focus ((try simp (disch := omega) only [go_sem, wn, t5, t3]) <;> (try omega) <;> fail))) | ((first | refine zN cg rfl ?_ ?_); (focus ((try simp (disch := omega) only [go_sem, wn, t5, t3]) <;> (try omega) <;> fail))) | (first | ((first | refine zX cg rfl ?_ ?_ | refine zy cg ?_ ?_); (focus ((try simp (disch := omega) only [go_sem, wn, t5, t3]) <;> (try omega) <;> fail)))) | ((first | (with_reducible refine zu ?_ ?_ <;> intro hg) | with_reducible intro hg) <;> (first | (exfalso; simp at hg; done) | (have hg' := hg; (try simp only [hcs, beq_iff_eq, ge_iff_le, gt_iff_lt] at hg'); (try simp only [hg]))))) <;> (try simp (disch := omega) only [go_sem, wn, t5, t3]) <;> (repeat' with_reducible refine And.intro ?_ ?_) <;> (try (with_reducible refine hK _ ?_; clear hK K)))
  | omega)
    all_goals first
      | exact absurd ⟨by omega, hc.2⟩ hgo
      | exact absurd hc hbd
      | skip
    all_goals (refine zF rfl ?_ ?_ ?_ ?_; (iterate 3 (focus ((try simp (disch := omega) only [go_sem, wn, t5, t3, treeR]) <;> (try omega) <;> fail))); (try simp (disch := omega) only [go_sem, wn, t5, t3, treeR, I, B, S, inj, List.cons.injEq, and_true, true_and, and_self]))
  · rw [if_neg hg]
    rw [eq_false_of_ne_true hg] at cg
    unfold ATree.av treeR at cg
    (repeat' first
  | (with_reducible refine AR.f ?_)
  | refine zb (by decide) ?_
  | (with_reducible refine AWP.cond rfl ?_ ?_ <;> intro hc <;> (try simp only [hcs, beq_iff_eq, ge_iff_le, gt_iff_lt] at hc))
  | ((first | ((first | (with_reducible first | refine zR ?_ | refine zQ (by decide +kernel) ?_ | refine zD (by decide +kernel) ?_ | refine zE (by decide +kernel) ?_ | refine zG (by decide +kernel) ?_)); intro K hK) | ((first | refine zA cg ?_ ?_ ?_ ?_ ?_); (focus exact rfl); (focus exact rfl); iterate 2 (focus ((try simp (disch := omega) only [go_sem, wn, t5, t3]) <;> (try omega) <;> fail))) | ((first | refine zN cg rfl ?_ ?_); (focus ((try simp (disch := omega) only [go_sem, wn, t5, t3]) <;> (try omega) <;> fail))) | (first | ((first | refine zX cg rfl ?_ ?_ | refine zy cg ?_ ?_); (focus ((try simp (disch := omega) only [go_sem, wn, t5, t3]) <;> (try omega) <;> fail)))) | ((first | (with_reducible refine zu ?_ ?_ <;> intro hg) | with_reducible intro hg) <;> (first | (exfalso; simp at hg; done) | (have hg' := hg; (try simp only [hcs, beq_iff_eq, ge_iff_le, gt_iff_lt] at hg'); (try simp only [hg]))))) <;> (try simp (disch := omega) only [go_sem, wn, t5, t3]) <;> (repeat' with_reducible refine And.intro ?_ ?_) <;> (try (with_reducible refine hK _ ?_; clear hK K)))
  | omega)
    all_goals first
      | exact absurd ⟨by omega, hc.2⟩ hgo
      | exact absurd hc hbd
      | skip
    all_goals (refine zF rfl ?_ ?_ ?_ ?_; (iterate 3 (focus ((try simp (disch := omega) only [go_sem, wn, default]) <;> (try omega) <;> fail))); (try simp (disch := omega) only [go_sem, wn, default, I, B, S, inj, List.cons.injEq, and_true, true_and, and_self]))
end Go.Proofs.YtmpfhalheaeibaaDoor
