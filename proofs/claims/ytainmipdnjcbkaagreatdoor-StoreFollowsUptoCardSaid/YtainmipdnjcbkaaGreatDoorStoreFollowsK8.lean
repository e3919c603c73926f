/- A part of what StoreFollows leans on: texts of this claim, one behind the other. No condition. -/
import Derived.Laws.BitsAllLaws
import Derived.Test.YtainmipdnjcbkaaGreatDoorStoreFollowsK7
namespace Go.Proofs.YtainmipdnjcbkaaGreatDoor
set_option linter.unusedVariables false
set_option linter.unusedSimpArgs false
open Go Go.RowKit
set_option maxRecDepth 100000
set_option linter.unusedSimpArgs false
def stepN (c : Nat) : Nat := (c / 2) ^^^ (if c % 2 = 1 then 3988292384 else 0)
def stepsN : Nat → Nat → Nat
  | 0, c => c
  | k + 1, c => stepN (stepsN k c)
def byteN (c : Nat) (b : UInt8) : Nat := stepsN 8 (c ^^^ b.toNat)
def crcN (s : List UInt8) : Nat := s.foldl byteN 4294967295
def sumN (s : List UInt8) : Nat := 4294967295 - crcN s
theorem stepN_lt {c : Nat} (h : c < 4294967296) : stepN c < 4294967296 := by
  unfold stepN
  exact Nat.xor_lt_two_pow (n := 32) (by omega) (by split <;> decide)
theorem stepsN_lt {c : Nat} (h : c < 4294967296) : ∀ k, stepsN k c < 4294967296
  | 0 => h
  | k + 1 => stepN_lt (stepsN_lt h k)
theorem byteN_lt {c : Nat} (b : UInt8) (h : c < 4294967296) : byteN c b < 4294967296 :=
  stepsN_lt (Nat.xor_lt_two_pow (n := 32) h (Nat.lt_trans b.toNat_lt (by decide))) 8
theorem crcN_snoc (s : List UInt8) (k : Nat) (h : k < s.length) : crcN (s.take (k + 1)) = byteN (crcN (s.take k)) (s.getD k 0) := by
  unfold crcN
  have : s.take (k + 1) = s.take k ++ [s.getD k 0] := take_snoc s k h
  rw [this, List.foldl_append]; rfl
theorem crcN_lt (s : List UInt8) : crcN s < 4294967296 := by
  unfold crcN
  have : ∀ (l : List UInt8) (c : Nat), c < 4294967296 → l.foldl byteN c < 4294967296 := by
    intro l
    induction l with
    | nil => intro c h; exact h
    | cons b l ih => intro c h; exact ih _ (byteN_lt b h)
  exact this s _ (by decide)
theorem and1 (c : Nat) (h : c < 4294967296) : bits .and .u32 (c : Int) 1 = ((c % 2 : Nat) : Int) := by
  have := u32_and_nat c 1 h (by decide)
  rw [Nat.and_one_is_mod] at this; exact this
theorem half1 (c : Nat) : (c : Int) / 2 = ((c / 2 : Nat) : Int) := by omega
theorem xorp (c : Nat) (h : c < 4294967296) : bits .xor .u32 (c : Int) 3988292384 = ((c ^^^ 3988292384 : Nat) : Int) := u32_xor_nat c _ h (by decide)
theorem u8_lt32 (b : UInt8) : b.toNat < 4294967296 := Nat.lt_trans b.toNat_lt (by decide)
theorem step_odd {c : Nat} (h : c % 2 = 1) : stepN c = c / 2 ^^^ 3988292384 := by unfold stepN; rw [if_pos h]
theorem step_even {c : Nat} (h : ¬ c % 2 = 1) : stepN c = c / 2 := by unfold stepN; rw [if_neg h, Nat.xor_zero]
theorem crc_nil : crcN [] = 4294967295 := rfl
theorem wrap_u8_32 (b : UInt8) : IntKind.u32.wrap (b.toNat : Int) = (b.toNat : Int) := by
  have := b.toNat_lt
  rw [IntKind.wrap_u32']; omega
theorem not32 (c : Nat) (h : c < 4294967296) : bits .xor .u32 (if IntKind.u32.signed = true then -1 else IntKind.u32.max) (c : Int) = ((4294967295 - c : Nat) : Int) := by
  have e : (if IntKind.u32.signed = true then (-1 : Int) else IntKind.u32.max) = ((4294967295 : Nat) : Int) := by decide
  rw [e, u32_xor_nat _ _ (by decide) h]
  congr 1
  have : 4294967295 - c = 2 ^ 32 - (c + 1) := by omega
  apply Nat.eq_of_testBit_eq
  intro i
  rw [Nat.testBit_xor, this, Nat.testBit_two_pow_sub_succ h, show 4294967295 = 2 ^ 32 - 1 from rfl, Nat.testBit_two_pow_sub_one]
  by_cases hi : i < 32
  · simp [hi]
  · have : c.testBit i = false := Nat.testBit_lt_two_pow (Nat.lt_of_lt_of_le h (Nat.pow_le_pow_right (by decide) (by omega) : 2 ^ 32 ≤ 2 ^ i))
    simp [hi, this]
theorem eq_one (n : Nat) : (((n : Nat) : Int) = 1) = (n = 1) := by rw [eq_iff_iff]; omega
theorem sum_c (s : List UInt8) (h : okS s) : acall Tryz.prog [] 196 [S s] (ret (I (sumN s))) := by
  unfold okS at h
  refine zI Tryz.func196 rfl (by kernel_rfl) (by simp [Tryz.ntmps196]) ?_; simp only [Tryz.ntmps196, Tryz.results196, go_sem]
  (repeat' first
| (with_reducible refine AR.f ?_)
| refine zb (by decide) ?_
| (with_reducible refine AWP.cond rfl ?_ ?_ <;> intro hc <;> (try simp only [hcs, beq_iff_eq, ge_iff_le, gt_iff_lt] at hc))
| ((first | ((first | (with_reducible first | refine zR ?_ | refine zQ (by decide +kernel) ?_ | refine zD (by decide +kernel) ?_ | refine zE (by decide +kernel) ?_ | refine zG (by decide +kernel) ?_)); intro K hK) | ((first | (with_reducible refine zu ?_ ?_ <;> intro hg) | with_reducible intro hg) <;> (first | (exfalso; simp at hg; done) | (have hg' := hg; (try simp only [hcs, beq_iff_eq, ge_iff_le, gt_iff_lt] at hg'); (try simp only [hg]))))) <;> (try simp (disch := omega) only [go_sem, wn]) <;> (repeat' with_reducible refine And.intro ?_ ?_) <;> (try (with_reducible refine hK _ ?_; clear hK K)))
| omega)
  refine AWP.loopS (ι := Nat) (fun k => k ≤ s.length) (fun k => s.length - k) [0] (fun k => [(3, .d (.int .u32 (crcN (s.take k)))), (4, I k)]) 0 ?_ (by simp (disch := omega) only [go_sem, wn, crc_nil, Int.cast_ofNat_Int]) ?_
  · omega
  intro k hk
  have hc0 := crcN_lt (s.take k)
  have hb := u8_lt32 (s.getD k 0)
  have hx : crcN (s.take k) ^^^ (s.getD k 0).toNat < 4294967296 := Nat.xor_lt_two_pow (n := 32) hc0 hb
  simp only [go_sem]
  (repeat' first
| (with_reducible refine AR.f ?_)
| refine zb (by decide) ?_
| (with_reducible refine AWP.cond rfl ?_ ?_ <;> intro hc <;> (try simp only [hcs, beq_iff_eq, ge_iff_le, gt_iff_lt] at hc))
| ((first | ((first | (with_reducible first | refine zR ?_ | refine zQ (by decide +kernel) ?_ | refine zD (by decide +kernel) ?_ | refine zE (by decide +kernel) ?_ | refine zG (by decide +kernel) ?_)); intro K hK) | ((first | (with_reducible refine zu ?_ ?_ <;> intro hg) | with_reducible intro hg) <;> (first | (exfalso; simp at hg; done) | (have hg' := hg; (try simp only [hcs, beq_iff_eq, ge_iff_le, gt_iff_lt] at hg'); (try simp only [hg]))))) <;> (try simp (disch := omega) only [go_sem, wn, u32_xor_nat, wrap_u8_32]) <;> (repeat' with_reducible refine And.intro ?_ ?_) <;> (try (with_reducible refine hK _ ?_; clear hK K)))
| omega)
  · refine AWP.loopS (ι := Nat) (fun j => j ≤ 8) (fun j => 8 - j) [0, 4] (fun j => [(3, .d (.int .u32 (stepsN j (crcN (s.take k) ^^^ (s.getD k 0).toNat)))), (18, I j)]) 0 ?_ (by simp (disch := omega) only [go_sem, wn, stepsN]) ?_
    · omega
    intro j hj
    have hs := stepsN_lt hx j
    have hs2 : stepsN j (crcN (s.take k) ^^^ (s.getD k 0).toNat) / 2 < 4294967296 := by omega
    simp only [go_sem]
    (repeat' first
  | (with_reducible refine AR.f ?_)
  | refine zb (by decide) ?_
  | (with_reducible refine AWP.cond rfl ?_ ?_ <;> intro hc <;> (try simp only [hcs, beq_iff_eq, ge_iff_le, gt_iff_lt] at hc))
  | ((first | ((first | (with_reducible first | refine zR ?_ | refine zQ (by decide +kernel) ?_ | refine zD (by decide +kernel) ?_ | refine zE (by decide +kernel) ?_ | refine zG (by decide +kernel) ?_)); intro K hK) | ((first | (with_reducible refine zu ?_ ?_ <;> intro hg) | with_reducible intro hg) <;> (first | (exfalso; simp at hg; done) | (have hg' := hg; (try simp only [hcs, beq_iff_eq, ge_iff_le, gt_iff_lt] at hg'); (try simp only [hg]))))) <;> (try simp (disch := omega) only [go_sem, wn, and1, half1, xorp, eq_one]) <;> (repeat' with_reducible refine And.intro ?_ ?_) <;> (try (with_reducible refine hK _ ?_; clear hK K)))
  | omega)
    · refine ⟨j + 1, by omega, by omega, ?_⟩
      (refine SImp.same ?_; simp (disch := omega) only [go_sem, wn, Int.natCast_add, stepsN, step_odd hc])
    · refine ⟨j + 1, by omega, by omega, ?_⟩
      (refine SImp.same ?_; simp (disch := omega) only [go_sem, wn, Int.natCast_add, stepsN, step_even hc])
    · have e0 : j = 8 := by omega
      subst e0
      refine ⟨k + 1, by omega, by omega, ?_⟩
      (refine SImp.same ?_; simp (disch := omega) only [go_sem, wn, Int.natCast_add, crcN_snoc, byteN])
  · have e0 : k = s.length := by omega
    subst e0
    rw [List.take_length] at *
    (refine zF rfl ?_ ?_ ?_ ?_; (iterate 3 (focus ((try simp (disch := omega) only [go_sem, wn, not32, sumN]) <;> (try omega) <;> fail))); (try simp (disch := omega) only [go_sem, wn, not32, sumN, I, B, S, zj]))
def cl (l : List Nat) : List AV := l.map fun n : Nat => AV.d (.int .i64 (n : Int))
theorem cl_len (l : List Nat) : (cl l).length = l.length := by simp [cl]
theorem cl_get (l : List Nat) (k : Nat) (h : k < l.length) : (cl l).getD k .any = .d (.int .i64 (l.getD k 0 : Nat)) := by
  unfold cl; rw [List.getD_eq_getElem?_getD, List.getElem?_map, List.getD_eq_getElem?_getD, List.getElem?_eq_getElem h]; rfl
theorem cl_set (l : List Nat) (k v : Nat) : (cl l).set k (.d (.int .i64 (v : Int))) = cl (l.set k v) := by unfold cl; rw [List.map_set]
theorem cl_set1 (l : List Nat) (k : Nat) : (cl l).set k (.d (.int .i64 1)) = cl (l.set k 1) := cl_set l k 1
theorem cl_set0 (l : List Nat) (k : Nat) : (cl l).set k (.d (.int .i64 0)) = cl (l.set k 0) := cl_set l k 0
def reg0 (k : Nat) : List Nat := List.replicate k 1 ++ List.replicate (32 - k) 0
theorem reg0_len (k : Nat) (h : k ≤ 32) : (reg0 k).length = 32 := by simp [reg0]; omega
theorem reg0_set (k : Nat) (h : k < 32) : (reg0 k).set k 1 = reg0 (k + 1) := by
  unfold reg0
  rw [List.set_append_right _ _ (by simp), List.length_replicate, Nat.sub_self, show 32 - k = (32 - (k + 1)) + 1 from by omega, List.replicate_succ, List.set_cons_zero, List.replicate_succ' (n := k), List.append_assoc]; rfl
theorem cl_start : cl (reg0 0) = List.replicate 32 (.d (.int .i64 0)) := rfl
def bitsOf (c : Nat) : List Nat := (List.range 32).map fun k => c / 2 ^ k % 2
theorem bitsOf_len (c : Nat) : (bitsOf c).length = 32 := by simp [bitsOf]
theorem bitsOf_get (c k : Nat) (h : k < 32) : (bitsOf c).getD k 0 = c / 2 ^ k % 2 := by
  unfold bitsOf; rw [List.getD_eq_getElem?_getD, List.getElem?_map, List.getElem?_range h]; rfl
theorem reg0_full : reg0 32 = bitsOf 4294967295 := by decide
def refR (c b k : Nat) : Nat := stepsN k (c ^^^ b) ^^^ (b / 2 ^ k)
theorem refR_zero (c b : Nat) : refR c b 0 = c := by unfold refR; rw [stepsN, Nat.pow_zero, Nat.div_one, Nat.xor_assoc, Nat.xor_self, Nat.xor_zero]
theorem refR_end (c : Nat) (b : UInt8) : refR c b.toNat 8 = byteN c b := by
  have : b.toNat / 2 ^ 8 = 0 := Nat.div_eq_of_lt b.toNat_lt
  unfold refR; rw [this, Nat.xor_zero]; rfl
theorem refR_lt {c b : Nat} (hc : c < 4294967296) (hb : b < 4294967296) (k : Nat) : refR c b k < 4294967296 :=
  Nat.xor_lt_two_pow (n := 32) (stepsN_lt (Nat.xor_lt_two_pow (n := 32) hc hb) k) (Nat.lt_of_le_of_lt (Nat.div_le_self _ _) hb)
theorem bit_cases (n : Nat) : n % 2 = 0 ∨ n % 2 = 1 := by omega
theorem xor_bits {a b : Nat} (ha : a = 0 ∨ a = 1) (hb : b = 0 ∨ b = 1) : bits .xor .i64 (a : Int) (b : Int) = ((a ^^^ b : Nat) : Int) := by
  rcases ha with rfl | rfl <;> rcases hb with rfl | rfl <;> decide
theorem xor_mod2 (a b : Nat) : (a ^^^ b) % 2 = (a % 2) ^^^ (b % 2) := by
  have := @Nat.xor_mod_two_pow a b 1
  simpa using this
theorem out_eq (c k : Nat) (b : UInt8) : bits .xor .i64 ((refR c b.toNat k / 1 % 2 : Nat) : Int) (IntKind.i64.wrap (bits .and .u8 ((b.toNat : Int) / 2 ^ k) 1)) = ((stepsN k (c ^^^ b.toNat) % 2 : Nat) : Int) := by
  have e0 : (b.toNat : Int) / 2 ^ k = ((b.toNat / 2 ^ k : Nat) : Int) := by rw [Int.natCast_ediv, Int.natCast_pow]; rfl
  have e1 := u8_and_nat (b.toNat / 2 ^ k) 1 (Nat.lt_of_le_of_lt (Nat.div_le_self _ _) b.toNat_lt) (by decide)
  rw [Nat.and_one_is_mod] at e1
  rw [e0, show (1 : Int) = ((1 : Nat) : Int) from rfl, e1, wn _ (by omega) (by omega), Nat.div_one, xor_bits (bit_cases _) (bit_cases _)]
  congr 1
  unfold refR
  rw [xor_mod2, Nat.xor_assoc, Nat.xor_self, Nat.xor_zero]
theorem shift_cl (c : Nat) (h : c < 4294967296) : ((List.take (min 32 31) (List.drop 1 (cl (bitsOf c))) ++ List.drop (min 32 31) (cl (bitsOf c))).set 31 (.d (.int .i64 0))) = cl (bitsOf (c / 2)) := by
  have e : (List.take 31 (List.drop 1 (bitsOf c)) ++ List.drop 31 (bitsOf c)).set 31 0 = bitsOf (c / 2) := by
    refine List.ext_getElem (by simp [bitsOf]) fun j h1 h2 => ?_
    rw [List.getElem_set]
    rw [bitsOf_len] at h2
    split
    · rename_i e; subst e; simp [bitsOf]; omega
    · rw [List.getElem_append_left (by simp [bitsOf]; omega), List.getElem_take, List.getElem_drop]
      simp only [bitsOf, List.getElem_map, List.getElem_range]
      rw [Nat.div_div_eq_div_mul, Nat.pow_add, Nat.pow_one]
  rw [← e, ← cl_set0]
  unfold cl
  rw [List.map_append, List.map_take, List.map_drop, List.map_drop]; rfl
def xorR (c low j : Nat) : List Nat := (List.range 32).map fun t => if t < j then (c / 2 ^ t % 2) ^^^ (low * (3988292384 / 2 ^ t % 2)) else c / 2 ^ t % 2
theorem xorR_len (c low j : Nat) : (xorR c low j).length = 32 := by simp [xorR]
theorem xorR_zero (c low : Nat) : xorR c low 0 = bitsOf c := by simp [xorR, bitsOf]
theorem xorR_get (c low j : Nat) (h : j < 32) : (xorR c low j).getD j 0 = c / 2 ^ j % 2 := by
  unfold xorR; rw [List.getD_eq_getElem?_getD, List.getElem?_map, List.getElem?_range h]; simp
theorem xorR_set (c low j : Nat) (h : j < 32) : (xorR c low j).set j ((c / 2 ^ j % 2) ^^^ (low * (3988292384 / 2 ^ j % 2))) = xorR c low (j + 1) := by
  refine List.ext_getElem (by simp [xorR]) fun t h1 h2 => ?_
  rw [List.getElem_set]
  split
  · rename_i e; subst e; simp [xorR]
  · simp only [xorR, List.getElem_map, List.getElem_range]
    by_cases ht : t < j
    · rw [if_pos ht, if_pos (by omega)]
    · rw [if_neg ht, if_neg (by omega)]
theorem bit_xor (a b t : Nat) : (a ^^^ b) / 2 ^ t % 2 = (a / 2 ^ t % 2) ^^^ (b / 2 ^ t % 2) := by
  rw [← xor_mod2, ← Nat.shiftRight_eq_div_pow, ← Nat.shiftRight_eq_div_pow, ← Nat.shiftRight_eq_div_pow, Nat.shiftRight_xor_distrib]
theorem xorR_full (c p : Nat) : xorR c (p % 2) 32 = bitsOf (c ^^^ (if p % 2 = 1 then 3988292384 else 0)) := by
  refine List.ext_getElem (by simp [xorR, bitsOf]) fun t h1 h2 => ?_
  rw [xorR_len] at h1
  simp only [xorR, bitsOf, List.getElem_map, List.getElem_range]
  rw [if_pos h1, bit_xor]
  rcases bit_cases p with e | e <;> rw [e] <;> simp
theorem refR_next (c b k : Nat) : refR c b k / 2 ^^^ (if stepsN k (c ^^^ b) % 2 = 1 then 3988292384 else 0) = refR c b (k + 1) := by
  unfold refR
  rw [stepsN, stepN]
  have e : ∀ a b : Nat, (a ^^^ b) / 2 = (a / 2) ^^^ (b / 2) := fun a b => by
    have := @Nat.shiftRight_xor_distrib 1 a b
    simpa [Nat.shiftRight_eq_div_pow] using this
  rw [e, Nat.div_div_eq_div_mul, ← Nat.pow_succ]
  generalize stepsN k (c ^^^ b) / 2 = x
  generalize b / 2 ^ (k + 1) = y
  generalize (if stepsN k (c ^^^ b) % 2 = 1 then 3988292384 else 0) = z
  rw [Nat.xor_assoc, Nat.xor_assoc, Nat.xor_comm y z]
theorem wrap_u64n (n : Int) (h1 : 0 ≤ n) (h2 : n ≤ 18446744073709551615) : IntKind.u64.wrap n = n := by
  simp [IntKind.wrap, IntKind.bits, IntKind.signed]; omega
theorem wrap_i64n (n : Int) (h0 : 0 ≤ n) (h : n < 2 ^ 62) : IntKind.i64.wrap n = n := wn n (by omega) (by omega)
theorem poly_bit (j : Nat) : bits .and .i64 (3988292384 / 2 ^ j) 1 = ((3988292384 / 2 ^ j % 2 : Nat) : Int) := by
  have e0 : (3988292384 : Int) / 2 ^ j = ((3988292384 / 2 ^ j : Nat) : Int) := by rw [Int.natCast_ediv, Int.natCast_pow]; rfl
  have := (bits_nat .i64 62 (by decide) wrap_i64n (3988292384 / 2 ^ j) 1 (Nat.lt_of_le_of_lt (Nat.div_le_self _ _) (by decide)) (by decide)).1
  rw [Nat.and_one_is_mod] at this
  rw [e0]; exact this
theorem low_mul (p q : Nat) : IntKind.i64.wrap (((p % 2 : Nat) : Int) * ((q % 2 : Nat) : Int)) = ((p % 2 * (q % 2) : Nat) : Int) := by
  rcases bit_cases p with e | e <;> rcases bit_cases q with e2 | e2 <;> rw [e, e2] <;> decide
theorem xor_low (a p q : Nat) : bits .xor .i64 ((a % 2 : Nat) : Int) ((p % 2 * (q % 2) : Nat) : Int) = ((a % 2 ^^^ (p % 2 * (q % 2)) : Nat) : Int) :=
  xor_bits (bit_cases _) (by rcases bit_cases p with e | e <;> rcases bit_cases q with e2 | e2 <;> rw [e, e2] <;> simp)
theorem comp_bit (c j : Nat) (h : c < 4294967296) (hj : j < 32) : (4294967295 - c) / 2 ^ j = 2 * ((4294967295 - c) / 2 ^ (j + 1)) + 1 - c / 2 ^ j % 2 := by
  have e1 : (4294967295 - c) / 2 ^ j % 2 = 1 - c / 2 ^ j % 2 := by
    have := Nat.testBit_two_pow_sub_succ (n := 32) h j
    rw [show 2 ^ 32 - (c + 1) = 4294967295 - c from by omega] at this
    rw [Nat.testBit_eq_decide_div_mod_eq, Nat.testBit_eq_decide_div_mod_eq, decide_eq_true hj, Bool.true_and] at this
    rcases bit_cases (c / 2 ^ j) with e | e <;> rcases bit_cases ((4294967295 - c) / 2 ^ j) with e2 | e2 <;> rw [e, e2] at this <;> simp at this <;> omega
  have e2 : (4294967295 - c) / 2 ^ (j + 1) = (4294967295 - c) / 2 ^ j / 2 := by rw [Nat.div_div_eq_div_mul, Nat.pow_succ]
  rw [e2]
  have := bit_cases (c / 2 ^ j)
  omega
theorem ref_sum_c (s : List UInt8) (h : okS s) : acall Tryz.prog [] 199 [S s] (ret (I (sumN s))) := by
  unfold okS at h
  refine zI Tryz.func199 rfl (by kernel_rfl) (by simp [Tryz.ntmps199]) ?_; simp only [Tryz.ntmps199, Tryz.results199, go_sem]
  (repeat' first
| (with_reducible refine AR.f ?_)
| refine zb (by decide) ?_
| (with_reducible refine AWP.cond rfl ?_ ?_ <;> intro hc <;> (try simp only [hcs, beq_iff_eq, ge_iff_le, gt_iff_lt] at hc))
| ((first | ((first | (with_reducible first | refine zR ?_ | refine zQ (by decide +kernel) ?_ | refine zD (by decide +kernel) ?_ | refine zE (by decide +kernel) ?_ | refine zG (by decide +kernel) ?_)); intro K hK) | ((first | (with_reducible refine zu ?_ ?_ <;> intro hg) | with_reducible intro hg) <;> (first | (exfalso; simp at hg; done) | (have hg' := hg; (try simp only [hcs, beq_iff_eq, ge_iff_le, gt_iff_lt] at hg'); (try simp only [hg]))))) <;> (try simp (disch := omega) only [go_sem, wn]) <;> (repeat' with_reducible refine And.intro ?_ ?_) <;> (try (with_reducible refine hK _ ?_; clear hK K)))
| omega)
  refine AWP.loopB (ι := Nat) (fun k => k ≤ 32) (fun k => 32 - k) [0, 3] (fun k => [(12, I k)]) (fun k => [.cells (cl (reg0 k))]) 0 ?_ ?_ ?_
  · omega
  · rw [cl_start]; simp only [go_sem]; (refine SImp.same ?_; simp (disch := omega) only [go_sem, wn, Int.natCast_add])
  intro k hk
  have hl := reg0_len k hk
  simp only [go_sem]
  (repeat' first
| (with_reducible refine AR.f ?_)
| refine zb (by decide) ?_
| (with_reducible refine AWP.cond rfl ?_ ?_ <;> intro hc <;> (try simp only [hcs, beq_iff_eq, ge_iff_le, gt_iff_lt] at hc))
| ((first | ((first | (with_reducible first | refine zR ?_ | refine zQ (by decide +kernel) ?_ | refine zD (by decide +kernel) ?_ | refine zE (by decide +kernel) ?_ | refine zG (by decide +kernel) ?_)); intro K hK) | ((first | (with_reducible refine zu ?_ ?_ <;> intro hg) | with_reducible intro hg) <;> (first | (exfalso; simp at hg; done) | (have hg' := hg; (try simp only [hcs, beq_iff_eq, ge_iff_le, gt_iff_lt] at hg'); (try simp only [hg]))))) <;> (try simp (disch := omega) only [go_sem, wn, cl_len, reg0_len, Nat.mul_one, cl_set1, reg0_set]) <;> (repeat' with_reducible refine And.intro ?_ ?_) <;> (try (with_reducible refine hK _ ?_; clear hK K)))
| omega)
  · refine ⟨k + 1, by omega, by omega, ?_⟩
    (refine SImp.same ?_; simp (disch := omega) only [go_sem, wn, Int.natCast_add])
  · have e0 : k = 32 := by omega
    subst e0
    rw [reg0_full]
    refine AWP.loopB (ι := Nat) (fun i => i ≤ s.length) (fun i => s.length - i) [3, 19, 20] (fun i => [(21, I i)]) (fun i => [.cells (cl (bitsOf (crcN (s.take i)))), .bytes s]) 0 ?_ ?_ ?_
    · omega
    · simp only [go_sem, crc_nil]; (refine SImp.same ?_; simp (disch := omega) only [go_sem, wn, Int.natCast_add])
    intro i hi
    have hc0 := crcN_lt (s.take i)
    simp only [go_sem]
    (repeat' first
  | (with_reducible refine AR.f ?_)
  | refine zb (by decide) ?_
  | (with_reducible refine AWP.cond rfl ?_ ?_ <;> intro hc <;> (try simp only [hcs, beq_iff_eq, ge_iff_le, gt_iff_lt] at hc))
  | ((first | ((first | (with_reducible first | refine zR ?_ | refine zQ (by decide +kernel) ?_ | refine zD (by decide +kernel) ?_ | refine zE (by decide +kernel) ?_ | refine zG (by decide +kernel) ?_)); intro K hK) | ((first | (with_reducible refine zu ?_ ?_ <;> intro hg) | with_reducible intro hg) <;> (first | (exfalso; simp at hg; done) | (have hg' := hg; (try simp only [hcs, beq_iff_eq, ge_iff_le, gt_iff_lt] at hg'); (try simp only [hg]))))) <;> (try simp (disch := omega) only [go_sem, wn, u8g]) <;> (repeat' with_reducible refine And.intro ?_ ?_) <;> (try (with_reducible refine hK _ ?_; clear hK K)))
  | omega)
    · refine AWP.loopB (ι := Nat) (fun k => k ≤ 8) (fun k => 8 - k) [3, 6, 19, 20, 21] (fun k => [(7, .d (.int .u64 k))]) (fun k => [.cells (cl (bitsOf (refR (crcN (s.take i)) (s.getD i 0).toNat k))), .bytes s]) 0 ?_ ?_ ?_
      · omega
      · simp only [go_sem, refR_zero]; (refine SImp.same ?_; simp (disch := omega) only [go_sem, wn, Int.natCast_add])
      intro k hk
      have hr := refR_lt hc0 (u8_lt32 (s.getD i 0)) k
      have hbl := bitsOf_len (refR (crcN (s.take i)) (s.getD i 0).toNat k)
      simp only [go_sem]
      (repeat' first
    | (with_reducible refine AR.f ?_)
    | refine zb (by decide) ?_
    | (with_reducible refine AWP.cond rfl ?_ ?_ <;> intro hc <;> (try simp only [hcs, beq_iff_eq, ge_iff_le, gt_iff_lt] at hc))
    | ((first | ((first | (with_reducible first | refine zR ?_ | refine zQ (by decide +kernel) ?_ | refine zD (by decide +kernel) ?_ | refine zE (by decide +kernel) ?_ | refine zG (by decide +kernel) ?_)); intro K hK) | ((first | (with_reducible refine zu ?_ ?_ <;> intro hg) | with_reducible intro hg) <;> (first | (exfalso; simp at hg; done) | (have hg' := hg; (try simp only [hcs, beq_iff_eq, ge_iff_le, gt_iff_lt] at hg'); (try simp only [hg]))))) <;> (try simp (disch := omega) only [go_sem, wn, cl_len, bitsOf_len, cl_get, bitsOf_get, cl_set0]) <;> (repeat' with_reducible refine And.intro ?_ ?_) <;> (try (with_reducible refine hK _ ?_; clear hK K)))
    | omega)
      · rw [shift_cl _ hr, out_eq]
        refine AWP.loopB (ι := Nat) (fun j => j ≤ 32) (fun j => 32 - j) [3, 6, 7, 8, 19, 20, 21] (fun j => [(41, I j)]) (fun j => [.cells (cl (xorR (refR (crcN (s.take i)) (s.getD i 0).toNat k / 2) (stepsN k (crcN (s.take i) ^^^ (s.getD i 0).toNat) % 2) j)), .bytes s]) 0 ?_ ?_ ?_
        · omega
        · simp only [go_sem, xorR_zero]; (refine SImp.same ?_; simp (disch := omega) only [go_sem, wn, Int.natCast_add])
        intro j hj
        have hxl := xorR_len (refR (crcN (s.take i)) (s.getD i 0).toNat k / 2) (stepsN k (crcN (s.take i) ^^^ (s.getD i 0).toNat) % 2) j
        simp only [go_sem]
        (repeat' first
      | (with_reducible refine AR.f ?_)
      | refine zb (by decide) ?_
      | (with_reducible refine AWP.cond rfl ?_ ?_ <;> intro hc <;> (try simp only [hcs, beq_iff_eq, ge_iff_le, gt_iff_lt] at hc))
      | ((first | ((first | (with_reducible first | refine zR ?_ | refine zQ (by decide +kernel) ?_ | refine zD (by decide +kernel) ?_ | refine zE (by decide +kernel) ?_ | refine zG (by decide +kernel) ?_)); intro K hK) | ((first | (with_reducible refine zu ?_ ?_ <;> intro hg) | with_reducible intro hg) <;> (first | (exfalso; simp at hg; done) | (have hg' := hg; (try simp only [hcs, beq_iff_eq, ge_iff_le, gt_iff_lt] at hg'); (try simp only [hg]))))) <;> (try simp (disch := omega) only [go_sem, wn, Nat.mul_one, cl_len, xorR_len, cl_get, xorR_get, wrap_u64n, poly_bit, low_mul, xor_low, cl_set, xorR_set]) <;> (repeat' with_reducible refine And.intro ?_ ?_) <;> (try (with_reducible refine hK _ ?_; clear hK K)))
      | omega)
        · refine ⟨j + 1, by omega, by omega, ?_⟩
          (refine SImp.same ?_; simp (disch := omega) only [go_sem, wn, Int.natCast_add])
        · have e0 : j = 32 := by omega
          subst e0
          refine ⟨k + 1, by omega, by omega, ?_⟩
          rw [xorR_full, refR_next]
          (refine SImp.same ?_; simp (disch := omega) only [go_sem, wn, Int.natCast_add, wrap_u64n])
      · have e0 : k = 8 := by omega
        subst e0
        refine ⟨i + 1, by omega, by omega, ?_⟩
        rw [refR_end, ← crcN_snoc _ _ (by omega)]
        (refine SImp.same ?_; simp (disch := omega) only [go_sem, wn, Int.natCast_add])
    · have e0 : i = s.length := by omega
      subst e0
      rw [List.take_length] at *
      have hbl := bitsOf_len (crcN s)
      have hM : ∀ j, (4294967295 - crcN s) / 2 ^ j ≤ 4294967295 := fun j => Nat.le_trans (Nat.div_le_self _ _) (Nat.sub_le _ _)
      have hz : (4294967295 - crcN s) / 4294967296 = 0 := Nat.div_eq_of_lt (by omega)
      refine AWP.loopB (ι := Nat) (fun j => j ≤ 32) (fun j => j) [3] (fun j => [(10, I ((4294967295 - crcN s) / 2 ^ j : Nat)), (11, I ((j : Int) - 1))]) (fun j => [.cells (cl (bitsOf (crcN s))), .bytes s]) 32 ?_ ?_ ?_
      · omega
      · simp only [go_sem]; (refine SImp.same ?_; simp (disch := omega) only [go_sem, wn, Int.natCast_add, hz])
      intro j hj
      have hMj := hM j
      have hb2 := bit_cases (crcN s / 2 ^ (j - 1))
      simp only [go_sem]
      (repeat' first
    | (with_reducible refine AR.f ?_)
    | refine zb (by decide) ?_
    | (with_reducible refine AWP.cond rfl ?_ ?_ <;> intro hc <;> (try simp only [hcs, beq_iff_eq, ge_iff_le, gt_iff_lt] at hc))
    | ((first | ((first | (with_reducible first | refine zR ?_ | refine zQ (by decide +kernel) ?_ | refine zD (by decide +kernel) ?_ | refine zE (by decide +kernel) ?_ | refine zG (by decide +kernel) ?_)); intro K hK) | ((first | (with_reducible refine zu ?_ ?_ <;> intro hg) | with_reducible intro hg) <;> (first | (exfalso; simp at hg; done) | (have hg' := hg; (try simp only [hcs, beq_iff_eq, ge_iff_le, gt_iff_lt] at hg'); (try simp only [hg]))))) <;> (try simp (disch := omega) only [go_sem, wn, Nat.mul_one, cl_len, bitsOf_len, toNat_pr2, cl_get, bitsOf_get]) <;> (repeat' with_reducible refine And.intro ?_ ?_) <;> (try (with_reducible refine hK _ ?_; clear hK K)))
    | omega)
      · refine ⟨j - 1, by omega, by omega, ?_⟩
        have e1 := comp_bit (crcN s) (j - 1) (by omega) (by omega)
        rw [show j - 1 + 1 = j from by omega] at e1
        have e2 : 2 * (((4294967295 - crcN s) / 2 ^ j : Nat) : Int) + 1 - ((crcN s / 2 ^ (j - 1) % 2 : Nat) : Int) = (((4294967295 - crcN s) / 2 ^ (j - 1) : Nat) : Int) := by omega
        have e3 : (j : Int) - 1 = ((j - 1 : Nat) : Int) := by omega
        simp only [e3]
        (refine SImp.same ?_; simp (disch := omega) only [go_sem, wn, Int.natCast_add, e2])
      · have e0 : j = 0 := by omega
        subst e0
        (refine zF rfl ?_ ?_ ?_ ?_; (iterate 3 (focus ((try simp (disch := omega) only [go_sem, wn, sumN, Nat.pow_zero, Nat.div_one]) <;> (try omega) <;> fail))); (try simp (disch := omega) only [go_sem, wn, sumN, Nat.pow_zero, Nat.div_one, I, B, S, zj]))
end Go.Proofs.YtainmipdnjcbkaaGreatDoor
namespace Go.Proofs.YtainmipdnjcbkaaGreatDoor
set_option linter.unusedVariables false
set_option linter.unusedSimpArgs false
open Go Go.RowKit
set_option maxRecDepth 100000
set_option linter.unusedSimpArgs false
def dig (n : Nat) : UInt8 := UInt8.ofNat (48 + n % 10)
def digK (k n : Nat) : List UInt8 := (List.range k).map fun i => dig (n / 10 ^ (k - 1 - i))
def decB (n : Nat) : List UInt8 := if h : n < 10 then [dig n] else decB (n / 10) ++ [dig n]
theorem decB_lt {n : Nat} (h : n < 10) : decB n = [dig n] := by rw [decB, dif_pos h]
theorem decB_ge {n : Nat} (h : ¬ n < 10) : decB n = decB (n / 10) ++ [dig n] := by rw [decB, dif_neg h]
theorem digK_succ (k n : Nat) : digK (k + 1) n = digK k (n / 10) ++ [dig n] := by
  unfold digK
  rw [List.range_succ, List.map_append]
  congr 1
  · refine List.map_congr_left fun i hi => ?_
    have hi := List.mem_range.1 hi
    rw [Nat.div_div_eq_div_mul, ← Nat.pow_succ', show k + 1 - 1 - i = (k - 1 - i) + 1 from by omega]
  · simp
theorem digK_zero (k : Nat) : digK k 0 = List.replicate k 48 := by
  unfold digK
  refine List.ext_getElem (by simp) fun i h1 h2 => ?_
  simp [dig]
theorem decB_pad : ∀ (k n : Nat), n < 10 ^ (k + 1) → (decB n).length ≤ k + 1 ∧ List.replicate (k + 1 - (decB n).length) 48 ++ decB n = digK (k + 1) n
  | 0, n, h => by
    rw [decB_lt (by simpa using h), digK_succ]
    exact ⟨by simp, by simp [digK]⟩
  | k + 1, n, h => by
    rw [digK_succ]
    by_cases h10 : n < 10
    · have e : n / 10 = 0 := by omega
      rw [decB_lt h10, e, digK_zero]
      exact ⟨by simp, by simp⟩
    · obtain ⟨h1, h2⟩ := decB_pad k (n / 10) (by rw [Nat.pow_succ] at h; omega)
      rw [decB_ge h10, ← h2]
      refine ⟨by simp; omega, ?_⟩
      rw [List.length_append, List.length_singleton, show k + 1 + 1 - ((decB (n / 10)).length + 1) = k + 1 - (decB (n / 10)).length from by omega, List.append_assoc]
theorem decB_len {n : Nat} (h : n < 10 ^ 20) : (decB n).length ≤ 20 := (decB_pad 19 n h).1
theorem dig_toNat (n : Nat) : (dig n).toNat = 48 + n % 10 := by unfold dig; rw [UInt8.toNat_ofNat']; omega
theorem wrap_dig (n : Nat) : IntKind.u8.wrap (48 + ((n % 10 : Nat) : Int)) = ((dig n).toNat : Int) := by
  rw [dig_toNat]; simp [IntKind.wrap, IntKind.bits, IntKind.signed]; omega
theorem tmod10 (n : Nat) : (n : Int).tmod 10 = ((n % 10 : Nat) : Int) := by rw [Int.tmod_eq_emod_of_nonneg (by omega)]; omega
theorem tdiv10 (n : Nat) : (n : Int).tdiv 10 = ((n / 10 : Nat) : Int) := by rw [Int.tdiv_eq_ediv_of_nonneg (by omega)]; omega
theorem okU8_one' (b : UInt8) : okU8s [[.int .u8 (b.toNat : Int)]] = True := eq_true (okU8s_rows [b])
theorem decimal_c (n : Nat) (h : n ≤ 9223372036854775807) : acall Tryz.prog [] 130 [I n] (ret (S (decB n))) := by
  induction n using Nat.strongRecOn with
  | _ n ih =>
    have hl := decB_len (n := n / 10) (by omega)
    by_cases h10 : n < 10
    · rw [decB_lt h10]
      refine zI Tryz.func130 rfl (by kernel_rfl) (by simp [Tryz.ntmps130]) ?_; simp only [Tryz.ntmps130, Tryz.results130, go_sem]
      (repeat' first
    | (with_reducible refine AR.f ?_)
    | refine zb (by decide) ?_
    | (with_reducible refine AWP.cond rfl ?_ ?_ <;> intro hc <;> (try simp only [hcs, beq_iff_eq, ge_iff_le, gt_iff_lt] at hc))
    | ((first | ((first | (with_reducible first | refine zR ?_ | refine zQ (by decide +kernel) ?_ | refine zD (by decide +kernel) ?_ | refine zE (by decide +kernel) ?_ | refine zG (by decide +kernel) ?_)); intro K hK) | ((first | (with_reducible refine zu ?_ ?_ <;> intro hg) | with_reducible intro hg) <;> (first | (exfalso; simp at hg; done) | (have hg' := hg; (try simp only [hcs, beq_iff_eq, ge_iff_le, gt_iff_lt] at hg'); (try simp only [hg]))))) <;> (try simp (disch := omega) only [go_sem, wn, tmod10, tdiv10, wrap_dig, okU8_one', UInt8.ofNat_toNat]) <;> (repeat' with_reducible refine And.intro ?_ ?_) <;> (try (with_reducible refine hK _ ?_; clear hK K)))
    | omega)
      (refine zF rfl ?_ ?_ ?_ ?_; (iterate 3 (focus ((try simp (disch := omega) only [go_sem, wn]) <;> (try omega) <;> fail))); (try simp (disch := omega) only [go_sem, wn, I, B, S, zj]))
    · rw [decB_ge h10]
      refine zI Tryz.func130 rfl (by kernel_rfl) (by simp [Tryz.ntmps130]) ?_; simp only [Tryz.ntmps130, Tryz.results130, go_sem]
      (repeat' first
    | (with_reducible refine AR.f ?_)
    | refine zb (by decide) ?_
    | (with_reducible refine AWP.cond rfl ?_ ?_ <;> intro hc <;> (try simp only [hcs, beq_iff_eq, ge_iff_le, gt_iff_lt] at hc))
    | ((first | ((first | (with_reducible first | refine zR ?_ | refine zQ (by decide +kernel) ?_ | refine zD (by decide +kernel) ?_ | refine zE (by decide +kernel) ?_ | refine zG (by decide +kernel) ?_)); intro K hK) | ((first | refine zA (ih (n / 10) (by omega) (by omega)) ?_ ?_ ?_ ?_ ?_); (focus exact rfl); (focus exact rfl); iterate 2 (focus ((try simp (disch := omega) only [go_sem, wn, tmod10, tdiv10, wrap_dig, okU8_one', UInt8.ofNat_toNat]) <;> (try omega) <;> fail))) | ((first | refine zN (ih (n / 10) (by omega) (by omega)) rfl ?_ ?_); (focus ((try simp (disch := omega) only [go_sem, wn, tmod10, tdiv10, wrap_dig, okU8_one', UInt8.ofNat_toNat]) <;> (try omega) <;> fail))) | ((first | refine zX (ih (n / 10) (by omega) (by omega)) rfl ?_ ?_ | refine zY (ih (n / 10) (by omega) (by omega)) ?_ ?_); (focus ((try simp (disch := omega) only [go_sem, wn, tmod10, tdiv10, wrap_dig, okU8_one', UInt8.ofNat_toNat]) <;> (try omega) <;> fail))) | ((first | (with_reducible refine zu ?_ ?_ <;> intro hg) | with_reducible intro hg) <;> (first | (exfalso; simp at hg; done) | (have hg' := hg; (try simp only [hcs, beq_iff_eq, ge_iff_le, gt_iff_lt] at hg'); (try simp only [hg]))))) <;> (try simp (disch := omega) only [go_sem, wn, tmod10, tdiv10, wrap_dig, okU8_one', UInt8.ofNat_toNat]) <;> (repeat' with_reducible refine And.intro ?_ ?_) <;> (try (with_reducible refine hK _ ?_; clear hK K)))
    | omega)
      (refine zF rfl ?_ ?_ ?_ ?_; (iterate 3 (focus ((try simp (disch := omega) only [go_sem, wn]) <;> (try omega) <;> fail))); (try simp (disch := omega) only [go_sem, wn, I, B, S, zj]))
end Go.Proofs.YtainmipdnjcbkaaGreatDoor
namespace Go.Proofs.YtainmipdnjcbkaaGreatDoor
set_option linter.unusedVariables false
set_option linter.unusedSimpArgs false
open Go Go.RowKit
set_option maxRecDepth 100000
set_option linter.unusedSimpArgs false
theorem goodP_len {s : List UInt8} (h : goodP s = true) : s.length ≤ 200 := by
  unfold goodP at h
  rw [Bool.or_eq_true, decide_eq_true_eq, Bool.and_eq_true, decide_eq_true_eq] at h
  rcases h with h | h
  · subst h; decide
  · exact h.1
end Go.Proofs.YtainmipdnjcbkaaGreatDoor
namespace Go.Proofs.YtainmipdnjcbkaaGreatDoor
set_option linter.unusedVariables false
set_option linter.unusedSimpArgs false
open Go Go.RowKit
set_option maxRecDepth 100000
set_option linter.unusedSimpArgs false
def byteAt (k : Nat) (v : Int) : UInt8 := UInt8.ofNat ((v / 2 ^ (8 * k)) % 256).toNat
def beB : Nat → Int → List UInt8
  | 0, _ => []
  | n + 1, v => byteAt n v :: beB n v
theorem beB_len (v : Int) : ∀ n, (beB n v).length = n
  | 0 => rfl
  | n + 1 => by rw [beB, List.length_cons, beB_len v n]
theorem beB_snoc (v : Int) : ∀ (n j : Nat), j < n → (beB n v).take (n - j) = (beB n v).take (n - (j + 1)) ++ [byteAt j v]
  | 0, j, h => by omega
  | n + 1, j, h => by
    by_cases e : j = n
    · subst e
      rw [show j + 1 - j = 1 from by omega, Nat.sub_self]; rfl
    · rw [beB, show n + 1 - j = (n - j) + 1 from by omega, show n + 1 - (j + 1) = (n - (j + 1)) + 1 from by omega, List.take_succ_cons, List.take_succ_cons, beB_snoc v n j (by omega)]; rfl
theorem u8_wrap (x : Int) : IntKind.u8.wrap x = ((UInt8.ofNat (x % 256).toNat).toNat : Int) := by
  rw [UInt8.toNat_ofNat']
  simp [IntKind.wrap, IntKind.bits, IntKind.signed]; omega
theorem u8_byte (j : Nat) (v : Int) : IntKind.u8.wrap (v / 2 ^ (8 * j)) = ((byteAt j v).toNat : Int) := u8_wrap _
theorem put_own_c (l : List UInt8) (v : Int) (n : Nat) (hn : n ≤ 8) (hl : l.length ≤ 1048576) : acall Tryz.prog [.rows 1 (l.map u8row)] 195 [.osl 0 1 0 l.length, I v, I n] (outs (.osl 1 1 0 (l.length + n)) [.dead, .rows 1 ((l ++ beB n v).map u8row)]) := by
  refine zI Tryz.func195 rfl (by kernel_rfl) (by simp [Tryz.ntmps195]) ?_; simp only [Tryz.ntmps195, Tryz.results195, go_sem]
  refine AWP.weaken (SImp.moveOwn 0 rfl rfl (by simp)) ?_
  simp only [go_sem]
  (repeat' first
| (with_reducible refine AR.f ?_)
| refine zb (by decide) ?_
| (with_reducible refine AWP.cond rfl ?_ ?_ <;> intro hc <;> (try simp only [hcs, beq_iff_eq, ge_iff_le, gt_iff_lt] at hc))
| ((first | ((first | (with_reducible first | refine zR ?_ | refine zQ (by decide +kernel) ?_ | refine zD (by decide +kernel) ?_ | refine zE (by decide +kernel) ?_ | refine zG (by decide +kernel) ?_)); intro K hK) | ((first | (with_reducible refine zu ?_ ?_ <;> intro hg) | with_reducible intro hg) <;> (first | (exfalso; simp at hg; done) | (have hg' := hg; (try simp only [hcs, beq_iff_eq, ge_iff_le, gt_iff_lt] at hg'); (try simp only [hg]))))) <;> (try simp (disch := omega) only [go_sem, wn]) <;> (repeat' with_reducible refine And.intro ?_ ?_) <;> (try (with_reducible refine hK _ ?_; clear hK K)))
| omega)
  refine AWP.loopB (ι := Nat) (fun j => j ≤ n) (fun j => j) [1] (fun j => [(0, .osl 1 1 0 (l.length + (n - j))), (7, I ((j : Int) - 1))]) (fun j => [.dead, .rows 1 ((l ++ (beB n v).take (n - j)).map u8row)]) n ?_ ?_ ?_
  · omega
  · simp only [go_sem, Nat.sub_self, List.take_zero, List.append_nil, Nat.add_zero]; (refine SImp.same ?_; simp (disch := omega) only [go_sem, wn, Int.natCast_add])
  intro j hj
  rcases j with _ | j
  · simp only [go_sem]
    (repeat' first
  | (with_reducible refine AR.f ?_)
  | refine zb (by decide) ?_
  | (with_reducible refine AWP.cond rfl ?_ ?_ <;> intro hc <;> (try simp only [hcs, beq_iff_eq, ge_iff_le, gt_iff_lt] at hc))
  | ((first | ((first | (with_reducible first | refine zR ?_ | refine zQ (by decide +kernel) ?_ | refine zD (by decide +kernel) ?_ | refine zE (by decide +kernel) ?_ | refine zG (by decide +kernel) ?_)); intro K hK) | ((first | (with_reducible refine zu ?_ ?_ <;> intro hg) | with_reducible intro hg) <;> (first | (exfalso; simp at hg; done) | (have hg' := hg; (try simp only [hcs, beq_iff_eq, ge_iff_le, gt_iff_lt] at hg'); (try simp only [hg]))))) <;> (try simp (disch := omega) only [go_sem, wn]) <;> (repeat' with_reducible refine And.intro ?_ ?_) <;> (try (with_reducible refine hK _ ?_; clear hK K)))
  | omega)
    rw [Nat.sub_zero, List.take_of_length_le (by rw [beB_len]; omega)]
    (refine zO ?_ ?_; (focus ((try simp (disch := omega) only [go_sem, wn]) <;> fail)); simp (disch := omega) only [go_sem, wn]; refine AOut.of_simp ?_ (AOut.same ⟨rfl, rfl⟩); refine zV [0, 1] rfl rfl rfl rfl ?_ ?_ <;> simp (disch := omega) only [go_sem, wn, true_or, or_true])
  rw [show ((j + 1 : Nat) : Int) - 1 = j from by omega]
  simp only [go_sem]
  have hw : IntKind.u64.wrap (8 * (j : Int)) = 8 * j := by simp [IntKind.wrap, IntKind.bits, IntKind.signed]; omega
  have hw2 : (8 * (j : Int)).toNat = 8 * j := by omega
  have hle : (l ++ (beB n v).take (n - (j + 1))).length = l.length + (n - (j + 1)) := by rw [List.length_append, List.length_take, beB_len]; omega
  have hk : List.take (l.length + (n - (j + 1))) ((l ++ (beB n v).take (n - (j + 1))).map u8row) = (l ++ (beB n v).take (n - (j + 1))).map u8row := List.take_of_length_le (by rw [List.length_map]; omega)
  (repeat' first
| (with_reducible refine AR.f ?_)
| refine zb (by decide) ?_
| (with_reducible refine AWP.cond rfl ?_ ?_ <;> intro hc <;> (try simp only [hcs, beq_iff_eq, ge_iff_le, gt_iff_lt] at hc))
| ((first | ((first | (with_reducible first | refine zR ?_ | refine zQ (by decide +kernel) ?_ | refine zD (by decide +kernel) ?_ | refine zE (by decide +kernel) ?_ | refine zG (by decide +kernel) ?_)); intro K hK) | ((first | (with_reducible refine zu ?_ ?_ <;> intro hg) | with_reducible intro hg) <;> (first | (exfalso; simp at hg; done) | (have hg' := hg; (try simp only [hcs, beq_iff_eq, ge_iff_le, gt_iff_lt] at hg'); (try simp only [hg]))))) <;> (try simp (disch := omega) only [go_sem, wn, hw, hw2, hk]) <;> (repeat' with_reducible refine And.intro ?_ ?_) <;> (try (with_reducible refine hK _ ?_; clear hK K)))
| omega)
  · simp [beB_len]
  refine ⟨j, by omega, by omega, ?_⟩
  rw [beB_snoc v n j (by omega), ← List.append_assoc, List.map_append (l₁ := l ++ _), show n - j = n - (j + 1) + 1 from by omega]
  (refine zV [0, 3] rfl rfl rfl rfl ?_ ?_ <;> simp (disch := omega) only [go_sem, wn, Int.natCast_add, hw, hw2, hk, u8_byte, List.map_cons, List.map_nil, u8row, Nat.add_assoc] <;> (try rfl))
theorem put_nil_c (v : Int) (n : Nat) (hn : n ≤ 8) : acall Tryz.prog [] 195 [.d (.sc (.slice none 0 0)), I v, I n] (outs (.osl 0 1 0 n) [.rows 1 ((beB n v).map u8row)]) := by
  refine zI Tryz.func195 rfl (by kernel_rfl) (by simp [Tryz.ntmps195]) ?_; simp only [Tryz.ntmps195, Tryz.results195, go_sem]
  refine AWP.weaken (SImp.nilOwn 0 1 rfl) ?_
  simp only [go_sem]
  (repeat' first
| (with_reducible refine AR.f ?_)
| refine zb (by decide) ?_
| (with_reducible refine AWP.cond rfl ?_ ?_ <;> intro hc <;> (try simp only [hcs, beq_iff_eq, ge_iff_le, gt_iff_lt] at hc))
| ((first | ((first | (with_reducible first | refine zR ?_ | refine zQ (by decide +kernel) ?_ | refine zD (by decide +kernel) ?_ | refine zE (by decide +kernel) ?_ | refine zG (by decide +kernel) ?_)); intro K hK) | ((first | (with_reducible refine zu ?_ ?_ <;> intro hg) | with_reducible intro hg) <;> (first | (exfalso; simp at hg; done) | (have hg' := hg; (try simp only [hcs, beq_iff_eq, ge_iff_le, gt_iff_lt] at hg'); (try simp only [hg]))))) <;> (try simp (disch := omega) only [go_sem, wn]) <;> (repeat' with_reducible refine And.intro ?_ ?_) <;> (try (with_reducible refine hK _ ?_; clear hK K)))
| omega)
  refine AWP.loopB (ι := Nat) (fun j => j ≤ n) (fun j => j) [1] (fun j => [(0, .osl 0 1 0 (n - j)), (7, I ((j : Int) - 1))]) (fun j => [.rows 1 (((beB n v).take (n - j)).map u8row)]) n ?_ ?_ ?_
  · omega
  · simp only [go_sem, Nat.sub_self, List.take_zero, List.map_nil]; (refine SImp.same ?_; simp (disch := omega) only [go_sem, wn, Int.natCast_add])
  intro j hj
  rcases j with _ | j
  · simp only [go_sem]
    (repeat' first
  | (with_reducible refine AR.f ?_)
  | refine zb (by decide) ?_
  | (with_reducible refine AWP.cond rfl ?_ ?_ <;> intro hc <;> (try simp only [hcs, beq_iff_eq, ge_iff_le, gt_iff_lt] at hc))
  | ((first | ((first | (with_reducible first | refine zR ?_ | refine zQ (by decide +kernel) ?_ | refine zD (by decide +kernel) ?_ | refine zE (by decide +kernel) ?_ | refine zG (by decide +kernel) ?_)); intro K hK) | ((first | (with_reducible refine zu ?_ ?_ <;> intro hg) | with_reducible intro hg) <;> (first | (exfalso; simp at hg; done) | (have hg' := hg; (try simp only [hcs, beq_iff_eq, ge_iff_le, gt_iff_lt] at hg'); (try simp only [hg]))))) <;> (try simp (disch := omega) only [go_sem, wn]) <;> (repeat' with_reducible refine And.intro ?_ ?_) <;> (try (with_reducible refine hK _ ?_; clear hK K)))
  | omega)
    rw [Nat.sub_zero, List.take_of_length_le (by rw [beB_len]; omega)]
    (refine zO ?_ ?_; (focus ((try simp (disch := omega) only [go_sem, wn]) <;> fail)); simp (disch := omega) only [go_sem, wn]; refine AOut.of_simp ?_ (AOut.same ⟨rfl, rfl⟩); refine zV [0] rfl rfl rfl rfl ?_ ?_ <;> simp (disch := omega) only [go_sem, wn, true_or, or_true])
  rw [show ((j + 1 : Nat) : Int) - 1 = j from by omega]
  simp only [go_sem]
  have hw : IntKind.u64.wrap (8 * (j : Int)) = 8 * j := by simp [IntKind.wrap, IntKind.bits, IntKind.signed]; omega
  have hw2 : (8 * (j : Int)).toNat = 8 * j := by omega
  have hk : List.take (n - (j + 1)) (((beB n v).take (n - (j + 1))).map u8row) = ((beB n v).take (n - (j + 1))).map u8row := List.take_of_length_le (by rw [List.length_map, List.length_take]; omega)
  (repeat' first
| (with_reducible refine AR.f ?_)
| refine zb (by decide) ?_
| (with_reducible refine AWP.cond rfl ?_ ?_ <;> intro hc <;> (try simp only [hcs, beq_iff_eq, ge_iff_le, gt_iff_lt] at hc))
| ((first | ((first | (with_reducible first | refine zR ?_ | refine zQ (by decide +kernel) ?_ | refine zD (by decide +kernel) ?_ | refine zE (by decide +kernel) ?_ | refine zG (by decide +kernel) ?_)); intro K hK) | ((first | (with_reducible refine zu ?_ ?_ <;> intro hg) | with_reducible intro hg) <;> (first | (exfalso; simp at hg; done) | (have hg' := hg; (try simp only [hcs, beq_iff_eq, ge_iff_le, gt_iff_lt] at hg'); (try simp only [hg]))))) <;> (try simp (disch := omega) only [go_sem, wn, hw, hw2, hk]) <;> (repeat' with_reducible refine And.intro ?_ ?_) <;> (try (with_reducible refine hK _ ?_; clear hK K)))
| omega)
  · simp [beB_len]
  refine ⟨j, by omega, by omega, ?_⟩
  rw [beB_snoc v n j (by omega), List.map_append, show n - j = n - (j + 1) + 1 from by omega]
  (refine zV [2] rfl rfl rfl rfl ?_ ?_ <;> simp (disch := omega) only [go_sem, wn, Int.natCast_add, hw, hw2, hk, u8_byte, List.map_cons, List.map_nil, u8row, Nat.add_assoc] <;> (try rfl))
theorem put_own_at (l : List UInt8) (v : Int) (n m k : Nat) (ni : Int) (hn : n ≤ 8) (hl : l.length ≤ 1048576) (hm : l.length = m) (hk : m + n = k) (hi : ni = n) : acall Tryz.prog [.rows 1 (l.map u8row)] 195 [.osl 0 1 0 m, I v, I ni] (outs (.osl 1 1 0 k) [.dead, .rows 1 ((l ++ beB n v).map u8row)]) := by
  subst hm; subst hk; subst hi; exact put_own_c l v n hn hl
theorem u8_op (v : Int) : IntKind.u8.wrap v = ((byteAt 0 v).toNat : Int) := by rw [← u8_byte 0 v]; simp
def b5 (t : ATxn) : List UInt8 := (beB 8 t.zxid ++ [byteAt 0 t.op]) ++ beB 4 t.session
def b6 (t : ATxn) : List UInt8 := (b5 t ++ beB 4 t.version) ++ beB 4 t.owner
def b7 (t : ATxn) : List UInt8 := (b6 t ++ [byteAt 0 t.path.length]) ++ t.path
def bodyB (t : ATxn) : List UInt8 := (b7 t ++ beB 2 t.data.length) ++ t.data
theorem b5_len (t : ATxn) : (b5 t).length = 13 := by simp [b5, beB_len]
theorem b6_len (t : ATxn) : (b6 t).length = 21 := by simp [b6, b5_len, beB_len]
theorem b7_len (t : ATxn) : (b7 t).length = 22 + t.path.length := by simp [b7, b6_len]; omega
theorem bodyB_len (t : ATxn) : (bodyB t).length = 24 + t.path.length + t.data.length := by simp [bodyB, b7_len, beB_len]; omega
def headB (t : ATxn) : List UInt8 := ([84] ++ beB 2 (bodyB t).length) ++ bodyB t
theorem headB_len (t : ATxn) : (headB t).length = 27 + t.path.length + t.data.length := by unfold headB; simp only [List.length_append, bodyB_len, beB_len, List.length_cons, List.length_nil]; omega
def encB (t : ATxn) : List UInt8 := headB t ++ beB 4 (sumN (headB t))
theorem goodT_small {t : ATxn} (h : goodT t = 0) : t.path.length ≤ 200 ∧ t.data.length ≤ 256 := by
  unfold goodT at h
  split at h
  · cases h
  split at h
  · cases h
  split at h
  · cases h
  split at h
  · cases h
  rename_i h1 h2 h3 h4
  refine ⟨?_, by omega⟩
  unfold badT at h4
  by_cases e2 : t.op ≤ 2
  · rw [if_pos e2] at h4; simp at h4; rw [h4.1]; simp
  rw [if_neg e2] at h4
  have : goodP t.path = true := by
    split at h4 <;> (try split at h4) <;> simp at h4 <;> exact h4.1
  exact goodP_len this
def encT (t : ATxn) : List UInt8 × Int := if goodT t = 0 then (encB t, 0) else ([], goodT t)
set_option maxHeartbeats 2000000 in
theorem encode_c (t : ATxn) (hp : okS t.path) (hd : okS t.data) : acall Tryz.prog [] 138 [t.av] (ret (.tup [S (encT t).1, I (encT t).2])) := by
  refine zI Tryz.func138 rfl (by kernel_rfl) (by simp [Tryz.ntmps138]) ?_; simp only [Tryz.ntmps138, Tryz.results138, go_sem]
  by_cases g : goodT t = 0
  case neg =>
    unfold encT
    rw [if_neg g]
    (repeat' first
  | (with_reducible refine AR.f ?_)
  | refine zb (by decide) ?_
  | (with_reducible refine AWP.cond rfl ?_ ?_ <;> intro hc <;> (try simp only [hcs, beq_iff_eq, ge_iff_le, gt_iff_lt] at hc))
  | ((first | ((first | (with_reducible first | refine zR ?_ | refine zQ (by decide +kernel) ?_ | refine zD (by decide +kernel) ?_ | refine zE (by decide +kernel) ?_ | refine zG (by decide +kernel) ?_)); intro K hK) | ((first | refine zA (wgood_c t hp hd) ?_ ?_ ?_ ?_ ?_); (focus exact rfl); (focus exact rfl); iterate 2 (focus ((try simp (disch := omega) only [go_sem, wn]) <;> (try omega) <;> fail))) | ((first | refine zX (wgood_c t hp hd) rfl ?_ ?_); (focus ((try simp (disch := omega) only [go_sem, wn]) <;> (try omega) <;> fail))) | ((first | (with_reducible refine zu ?_ ?_ <;> intro hg) | with_reducible intro hg) <;> (first | (exfalso; simp at hg; done) | (have hg' := hg; (try simp only [hcs, beq_iff_eq, ge_iff_le, gt_iff_lt] at hg'); (try simp only [hg]))))) <;> (try simp (disch := omega) only [go_sem, wn]) <;> (repeat' with_reducible refine And.intro ?_ ?_) <;> (try (with_reducible refine hK _ ?_; clear hK K)))
  | omega)
    all_goals first | omega | skip
    all_goals (refine zF rfl ?_ ?_ ?_ ?_; (iterate 3 (focus ((try simp (disch := omega) only [go_sem, wn]) <;> (try omega) <;> fail))); (try simp (disch := omega) only [go_sem, wn, I, B, S, zj]))
  unfold encT
  rw [if_pos g]
  (repeat' first
| (with_reducible refine AR.f ?_)
| refine zb (by decide) ?_
| (with_reducible refine AWP.cond rfl ?_ ?_ <;> intro hc <;> (try simp only [hcs, beq_iff_eq, ge_iff_le, gt_iff_lt] at hc))
| ((first | ((first | (with_reducible first | refine zR ?_ | refine zQ (by decide +kernel) ?_ | refine zD (by decide +kernel) ?_ | refine zE (by decide +kernel) ?_ | refine zG (by decide +kernel) ?_)); intro K hK) | ((first | refine zA ((wgood_c t hp hd).re (congrArg I g)) ?_ ?_ ?_ ?_ ?_); (focus exact rfl); (focus exact rfl); iterate 2 (focus ((try simp (disch := omega) only [go_sem, wn]) <;> (try omega) <;> fail))) | ((first | refine zN (put_nil_c t.zxid 8 (by decide)) rfl ?_ ?_ | refine zX ((wgood_c t hp hd).re (congrArg I g)) rfl ?_ ?_ | refine zY (put_nil_c t.zxid 8 (by decide)) ?_ ?_); (focus ((try simp (disch := omega) only [go_sem, wn]) <;> (try omega) <;> fail))) | ((first | (with_reducible refine zu ?_ ?_ <;> intro hg) | with_reducible intro hg) <;> (first | (exfalso; simp at hg; done) | (have hg' := hg; (try simp only [hcs, beq_iff_eq, ge_iff_le, gt_iff_lt] at hg'); (try simp only [hg]))))) <;> (try simp (disch := omega) only [go_sem, wn]) <;> (repeat' with_reducible refine And.intro ?_ ?_) <;> (try (with_reducible refine hK _ ?_; clear hK K)))
| omega)
  obtain ⟨s1, s2⟩ := goodT_small g
  have l8 := beB_len t.zxid 8
  have hh : okS (headB t) := by unfold okS headB; simp only [List.length_append, bodyB_len, beB_len, List.length_cons, List.length_nil]; omega
  have tk24 : List.take (24 + t.path.length) (List.map u8row (b7 t ++ beB 2 (t.data.length : Int))) = List.map u8row (b7 t ++ beB 2 (t.data.length : Int)) := List.take_of_length_le (by rw [List.length_map, List.length_append, b7_len, beB_len]; omega)
  have hbr : List.map u8row (bodyB t) = List.map u8row (b7 t ++ beB 2 (t.data.length : Int)) ++ List.map u8row t.data := by unfold bodyB; rw [List.map_append]
  have h84 : (((84 : UInt8).toNat : Nat) : Int) = 84 := rfl
  have tk22 : List.take 22 (List.map u8row (b6 t) ++ [[DV.int IntKind.u8 ((byteAt 0 (t.path.length : Int)).toNat : Int)]]) = List.map u8row (b6 t) ++ [[DV.int IntKind.u8 ((byteAt 0 (t.path.length : Int)).toNat : Int)]] := List.take_of_length_le (by simp [b6_len])
  have tk (l : List UInt8) (n : Nat) (h : l.length = n) : List.take n (l.map u8row) = l.map u8row := List.take_of_length_le (by rw [List.length_map]; omega)
  refine AWP.meetB [1] [(5, .osl 1 1 0 13)] [.cells [I t.zxid, I t.op, I t.session, S t.path, S t.data, I t.version, I t.owner], .rows 1 ((b5 t).map u8row)] ?_ ?_
  · (repeat' first
  | (with_reducible refine AR.f ?_)
  | refine zb (by decide) ?_
  | (with_reducible refine AWP.cond rfl ?_ ?_ <;> intro hc <;> (try simp only [hcs, beq_iff_eq, ge_iff_le, gt_iff_lt] at hc))
  | ((first | ((first | refine zP ((Plan.takes [0, 1, 2, 6] (.fork 3 (.fork 4 (.fork 5 (Plan.takes [7, 8, 9] .done) 7 (Plan.takes [5, 8, 9] .done)) 7 (Plan.takes [4, 5, 8, 9] .done)) 7 (Plan.takes [3, 4, 5, 8, 9] .done)))) (by decide +kernel) ?_ | (with_reducible first | refine zR ?_ | refine zQ (by decide +kernel) ?_ | refine zD (by decide +kernel) ?_ | refine zE (by decide +kernel) ?_ | refine zG (by decide +kernel) ?_)); intro K hK) | (refine acallH_own (put_own_at (beB 8 t.zxid ++ [byteAt 0 t.op]) t.session 4 9 13 4 (by decide) (by simp [beB_len]) (by simp [beB_len]) rfl rfl) ?_ ?_ ?_; (focus ((try simp (disch := omega) only [inj, List.cons.injEq, and_self, List.nodup_cons, List.not_mem_nil, List.mem_cons, not_false_eq_true, List.nodup_nil, go_sem, wn, tk _ _ l8, List.map_append, List.map_cons, List.map_nil, u8_op, u8row]) <;> (try omega) <;> fail)); (focus ((try simp (disch := omega) only [inj, List.cons.injEq, and_self, List.nodup_cons, List.not_mem_nil, List.mem_cons, not_false_eq_true, List.nodup_nil, go_sem, wn, tk _ _ l8, List.map_append, List.map_cons, List.map_nil, u8_op, u8row]) <;> (try omega) <;> (try decide) <;> fail))) | ((first | (with_reducible refine zu ?_ ?_ <;> intro hg) | with_reducible intro hg) <;> (first | (exfalso; simp at hg; done) | (have hg' := hg; (try simp only [hcs, beq_iff_eq, ge_iff_le, gt_iff_lt] at hg'); (try simp only [hg]))))) <;> (try simp (disch := omega) only [go_sem, wn, tk _ _ l8, List.map_append, List.map_cons, List.map_nil, u8_op, u8row]) <;> (repeat' with_reducible refine And.intro ?_ ?_) <;> (try (with_reducible refine hK _ ?_; clear hK K)))
  | omega)
    all_goals (refine zV [0, 4] rfl rfl rfl rfl ?_ ?_ <;> simp (disch := omega) only [go_sem, wn, Int.natCast_add, b5, List.map_append, List.map_cons, List.map_nil, u8row] <;> (try rfl))
  simp only [go_sem]
  refine AWP.seq (AWP.meetB [1] [(5, .osl 1 1 0 21)] [.cells [I t.zxid, I t.op, I t.session, S t.path, S t.data, I t.version, I t.owner], .rows 1 ((b6 t).map u8row)] ?_ ?_)
  · (repeat' first
  | (with_reducible refine AR.f ?_)
  | refine zb (by decide) ?_
  | (with_reducible refine AWP.cond rfl ?_ ?_ <;> intro hc <;> (try simp only [hcs, beq_iff_eq, ge_iff_le, gt_iff_lt] at hc))
  | ((first | ((first | refine zP ((Plan.takes [0, 1, 2, 4] (.fork 3 (Plan.takes [5, 6, 7] .done) 5 (Plan.takes [3, 6, 7] .done)))) (by decide +kernel) ?_ | (with_reducible first | refine zR ?_ | refine zQ (by decide +kernel) ?_ | refine zD (by decide +kernel) ?_ | refine zE (by decide +kernel) ?_ | refine zG (by decide +kernel) ?_)); intro K hK) | (refine acallH_own (put_own_at (b5 t) t.version 4 13 17 4 (by decide) (by simp [b5_len]) (b5_len t) rfl rfl) ?_ ?_ ?_; (focus ((try simp (disch := omega) only [inj, List.cons.injEq, and_self, List.nodup_cons, List.not_mem_nil, List.mem_cons, not_false_eq_true, List.nodup_nil, go_sem, wn]) <;> (try omega) <;> fail)); (focus ((try simp (disch := omega) only [inj, List.cons.injEq, and_self, List.nodup_cons, List.not_mem_nil, List.mem_cons, not_false_eq_true, List.nodup_nil, go_sem, wn]) <;> (try omega) <;> (try decide) <;> fail))) | (refine acallH_own (put_own_at (b5 t ++ beB 4 t.version) t.owner 4 17 21 4 (by decide) (by simp [b5_len, beB_len]) (by simp [b5_len, beB_len]) rfl rfl) ?_ ?_ ?_; (focus ((try simp (disch := omega) only [inj, List.cons.injEq, and_self, List.nodup_cons, List.not_mem_nil, List.mem_cons, not_false_eq_true, List.nodup_nil, go_sem, wn]) <;> (try omega) <;> fail)); (focus ((try simp (disch := omega) only [inj, List.cons.injEq, and_self, List.nodup_cons, List.not_mem_nil, List.mem_cons, not_false_eq_true, List.nodup_nil, go_sem, wn]) <;> (try omega) <;> (try decide) <;> fail))) | ((first | (with_reducible refine zu ?_ ?_ <;> intro hg) | with_reducible intro hg) <;> (first | (exfalso; simp at hg; done) | (have hg' := hg; (try simp only [hcs, beq_iff_eq, ge_iff_le, gt_iff_lt] at hg'); (try simp only [hg]))))) <;> (try simp (disch := omega) only [go_sem, wn]) <;> (repeat' with_reducible refine And.intro ?_ ?_) <;> (try (with_reducible refine hK _ ?_; clear hK K)))
  | omega)
    all_goals (refine zV [0, 3] rfl rfl rfl rfl ?_ ?_ <;> simp (disch := omega) only [go_sem, wn, Int.natCast_add, b6] <;> (try rfl))
  simp only [go_sem]
  refine AWP.seq (AWP.meetB [1] [(5, .osl 1 1 0 (22 + t.path.length))] [.cells [I t.zxid, I t.op, I t.session, S t.path, S t.data, I t.version, I t.owner], .rows 1 ((b7 t).map u8row)] ?_ ?_)
  · (repeat' first
  | (with_reducible refine AR.f ?_)
  | refine zb (by decide) ?_
  | (with_reducible refine AWP.cond rfl ?_ ?_ <;> intro hc <;> (try simp only [hcs, beq_iff_eq, ge_iff_le, gt_iff_lt] at hc))
  | ((first | ((first | refine zP ((Plan.takes [0, 1, 2, 3, 7] (.fork 4 (.fork 5 (.fork 6 (Plan.takes [8, 9, 10] .done) 8 (Plan.takes [6, 9, 10] .done)) 8 (Plan.takes [5, 6, 9, 10] .done)) 8 (Plan.takes [4, 5, 6, 9, 10] .done)))) (by decide +kernel) ?_ | (with_reducible first | refine zR ?_ | refine zQ (by decide +kernel) ?_ | refine zD (by decide +kernel) ?_ | refine zE (by decide +kernel) ?_ | refine zG (by decide +kernel) ?_)); intro K hK) | ((first | (with_reducible refine zu ?_ ?_ <;> intro hg) | with_reducible intro hg) <;> (first | (exfalso; simp at hg; done) | (have hg' := hg; (try simp only [hcs, beq_iff_eq, ge_iff_le, gt_iff_lt] at hg'); (try simp only [hg]))))) <;> (try simp (disch := omega) only [go_sem, wn, tk _ _ (b6_len t), u8_op]) <;> (repeat' with_reducible refine And.intro ?_ ?_) <;> (try (with_reducible refine hK _ ?_; clear hK K)))
  | omega)
    all_goals first | exact Nat.le_of_eq (b6_len t).symm | omega | skip
    all_goals (refine zV [0, 4] rfl rfl rfl rfl ?_ ?_ <;> simp (disch := omega) only [go_sem, wn, Int.natCast_add, b7, tk22, List.map_append, List.map_cons, List.map_nil, u8row] <;> (try rfl))
  simp only [go_sem]
  refine AWP.seq (AWP.meetB [1] [(5, .osl 1 1 0 (bodyB t).length)] [.cells [I t.zxid, I t.op, I t.session, S t.path, S t.data, I t.version, I t.owner], .rows 1 ((bodyB t).map u8row)] ?_ ?_)
  · (repeat' first
  | (with_reducible refine AR.f ?_)
  | refine zb (by decide) ?_
  | (with_reducible refine AWP.cond rfl ?_ ?_ <;> intro hc <;> (try simp only [hcs, beq_iff_eq, ge_iff_le, gt_iff_lt] at hc))
  | ((first | ((first | refine zP ((Plan.takes [0, 1, 2, 3, 5] (.fork 4 (Plan.takes [6, 7, 8] .done) 6 (Plan.takes [4, 7, 8] .done)))) (by decide +kernel) ?_ | (with_reducible first | refine zR ?_ | refine zQ (by decide +kernel) ?_ | refine zD (by decide +kernel) ?_ | refine zE (by decide +kernel) ?_ | refine zG (by decide +kernel) ?_)); intro K hK) | (refine acallH_own (put_own_at (b7 t) t.data.length 2 (22 + t.path.length) (24 + t.path.length) 2 (by decide) (by rw [b7_len]; omega) (b7_len t) (by omega) rfl) ?_ ?_ ?_; (focus ((try simp (disch := omega) only [inj, List.cons.injEq, and_self, List.nodup_cons, List.not_mem_nil, List.mem_cons, not_false_eq_true, List.nodup_nil, go_sem, wn, bodyB_len]) <;> (try omega) <;> fail)); (focus ((try simp (disch := omega) only [inj, List.cons.injEq, and_self, List.nodup_cons, List.not_mem_nil, List.mem_cons, not_false_eq_true, List.nodup_nil, go_sem, wn, bodyB_len]) <;> (try omega) <;> (try decide) <;> fail))) | ((first | (with_reducible refine zu ?_ ?_ <;> intro hg) | with_reducible intro hg) <;> (first | (exfalso; simp at hg; done) | (have hg' := hg; (try simp only [hcs, beq_iff_eq, ge_iff_le, gt_iff_lt] at hg'); (try simp only [hg]))))) <;> (try simp (disch := omega) only [go_sem, wn, bodyB_len]) <;> (repeat' with_reducible refine And.intro ?_ ?_) <;> (try (with_reducible refine hK _ ?_; clear hK K)))
  | omega)
    all_goals first | exact Nat.le_of_eq (by rw [b7_len, beB_len]; omega) | skip
    all_goals (refine zV [0, 3] rfl rfl rfl rfl ?_ ?_ <;> simp (disch := omega) only [go_sem, wn, Int.natCast_add, bodyB_len, hbr, tk24] <;> (try rfl))
  simp only [go_sem]
  have hB := bodyB_len t
  have tk2 : List.take 2 (List.map u8row (beB 2 ((bodyB t).length : Int))) = List.map u8row (beB 2 ((bodyB t).length : Int)) := List.take_of_length_le (by rw [List.length_map, beB_len]; decide)
  have hH : [DV.int IntKind.u8 84] :: (List.map u8row (beB 2 ((bodyB t).length : Int)) ++ List.map u8row (bodyB t)) = List.map u8row (headB t) := by unfold headB; rw [List.map_append, List.map_append]; rfl
  have tkH : List.take (3 + (bodyB t).length) (List.map u8row (headB t)) = List.map u8row (headB t) := List.take_of_length_le (by rw [List.length_map, headB, List.length_append, List.length_append, beB_len]; simp)
  have tk4 (v : Int) : List.take 4 (List.map u8row (beB 4 v)) = List.map u8row (beB 4 v) := List.take_of_length_le (by rw [List.length_map, beB_len]; decide)
  (repeat' first
| (with_reducible refine AR.f ?_)
| refine zb (by decide) ?_
| (with_reducible refine AWP.cond rfl ?_ ?_ <;> intro hc <;> (try simp only [hcs, beq_iff_eq, ge_iff_le, gt_iff_lt] at hc))
| ((first | ((first | (with_reducible first | refine zR ?_ | refine zQ (by decide +kernel) ?_ | refine zD (by decide +kernel) ?_ | refine zE (by decide +kernel) ?_ | refine zG (by decide +kernel) ?_)); intro K hK) | ((first | refine zA (sum_c (headB t) hh) ?_ ?_ ?_ ?_ ?_); (focus exact rfl); (focus exact rfl); iterate 2 (focus ((try simp (disch := omega) only [go_sem, wn, List.map_cons, List.map_nil, h84, tk2, hH, tkH, tk4]) <;> (try omega) <;> fail))) | ((first | refine zN (put_nil_c (sumN (headB t)) 4 (by decide)) rfl ?_ ?_ | refine zX (sum_c (headB t) hh) rfl ?_ ?_ | refine zY (put_nil_c (sumN (headB t)) 4 (by decide)) ?_ ?_); (focus ((try simp (disch := omega) only [go_sem, wn, List.map_cons, List.map_nil, h84, tk2, hH, tkH, tk4]) <;> (try omega) <;> fail))) | (refine acallH_own (put_own_at [84] (bodyB t).length 2 1 3 2 (by decide) (by decide) rfl rfl rfl) ?_ ?_ ?_; (focus ((try simp (disch := omega) only [inj, List.cons.injEq, and_self, List.nodup_cons, List.not_mem_nil, List.mem_cons, not_false_eq_true, List.nodup_nil, go_sem, wn, List.map_cons, List.map_nil, h84, tk2, hH, tkH, tk4]) <;> (try omega) <;> fail)); (focus ((try simp (disch := omega) only [inj, List.cons.injEq, and_self, List.nodup_cons, List.not_mem_nil, List.mem_cons, not_false_eq_true, List.nodup_nil, go_sem, wn, List.map_cons, List.map_nil, h84, tk2, hH, tkH, tk4]) <;> (try omega) <;> (try decide) <;> fail))) | ((first | (with_reducible refine zu ?_ ?_ <;> intro hg) | with_reducible intro hg) <;> (first | (exfalso; simp at hg; done) | (have hg' := hg; (try simp only [hcs, beq_iff_eq, ge_iff_le, gt_iff_lt] at hg'); (try simp only [hg]))))) <;> (try simp (disch := omega) only [go_sem, wn, List.map_cons, List.map_nil, h84, tk2, hH, tkH, tk4]) <;> (repeat' with_reducible refine And.intro ?_ ?_) <;> (try (with_reducible refine hK _ ?_; clear hK K)))
| omega)
  · exact Nat.le_of_eq (beB_len _ _).symm
  · exact Nat.le_of_eq (by rw [headB_len]; omega)
  · exact Nat.le_of_eq (beB_len _ _).symm
  · rw [headB_len, beB_len]; omega
  · (refine zF rfl ?_ ?_ ?_ ?_; (iterate 3 (focus ((try simp (disch := omega) only [go_sem, wn, encB]) <;> (try omega) <;> fail))); (try simp (disch := omega) only [go_sem, wn, encB, I, B, S, zj]))
theorem bytesOf_c (v : Int) (n : Nat) (hn : n ≤ 8) : acall Tryz.prog [] 198 [I v, I n] (ret (S (beB n v))) := by
  refine zI Tryz.func198 rfl (by kernel_rfl) (by simp [Tryz.ntmps198]) ?_; simp only [Tryz.ntmps198, Tryz.results198, go_sem]
  (repeat' first
| (with_reducible refine AR.f ?_)
| refine zb (by decide) ?_
| (with_reducible refine AWP.cond rfl ?_ ?_ <;> intro hc <;> (try simp only [hcs, beq_iff_eq, ge_iff_le, gt_iff_lt] at hc))
| ((first | ((first | (with_reducible first | refine zR ?_ | refine zQ (by decide +kernel) ?_ | refine zD (by decide +kernel) ?_ | refine zE (by decide +kernel) ?_ | refine zG (by decide +kernel) ?_)); intro K hK) | ((first | (with_reducible refine zu ?_ ?_ <;> intro hg) | with_reducible intro hg) <;> (first | (exfalso; simp at hg; done) | (have hg' := hg; (try simp only [hcs, beq_iff_eq, ge_iff_le, gt_iff_lt] at hg'); (try simp only [hg]))))) <;> (try simp (disch := omega) only [go_sem, wn]) <;> (repeat' with_reducible refine And.intro ?_ ?_) <;> (try (with_reducible refine hK _ ?_; clear hK K)))
| omega)
  refine AWP.loopB (ι := Nat) (fun j => j ≤ n) (fun j => n - j) [] (fun j => [(0, I (v / 2 ^ (8 * j))), (1, I ((n - j : Nat) : Int)), (5, S (beB j v))]) (fun j => []) 0 ?_ ?_ ?_
  · omega
  · simp only [go_sem, Nat.mul_zero, Nat.sub_zero, beB, Int.pow_zero, Int.ediv_one]; (refine SImp.same ?_; simp (disch := omega) only [go_sem, wn, Int.natCast_add])
  intro j hj
  have hu : [DV.int IntKind.u8 ((byteAt j v).toNat : Int)] = u8row (byteAt j v) := rfl
  have ok1 : okU8s [[DV.int IntKind.u8 ((byteAt j v).toNat : Int)]] := okU8s_rows [byteAt j v]
  have hdiv : v / 2 ^ (8 * j) / 256 = v / 2 ^ (8 * (j + 1)) := by
    rw [Int.ediv_ediv_of_nonneg (Int.pow_nonneg (by decide)), show (8 * (j + 1)) = 8 * j + 8 from by omega, Int.pow_add]; rfl
  simp only [go_sem]
  (repeat' first
| (with_reducible refine AR.f ?_)
| refine zb (by decide) ?_
| (with_reducible refine AWP.cond rfl ?_ ?_ <;> intro hc <;> (try simp only [hcs, beq_iff_eq, ge_iff_le, gt_iff_lt] at hc))
| ((first | ((first | (with_reducible first | refine zR ?_ | refine zQ (by decide +kernel) ?_ | refine zD (by decide +kernel) ?_ | refine zE (by decide +kernel) ?_ | refine zG (by decide +kernel) ?_)); intro K hK) | ((first | (with_reducible refine zu ?_ ?_ <;> intro hg) | with_reducible intro hg) <;> (first | (exfalso; simp at hg; done) | (have hg' := hg; (try simp only [hcs, beq_iff_eq, ge_iff_le, gt_iff_lt] at hg'); (try simp only [hg]))))) <;> (try simp (disch := omega) only [go_sem, wn, u8_byte, ok1, Int.toNat_natCast, UInt8.ofNat_toNat, hdiv]) <;> (repeat' with_reducible refine And.intro ?_ ?_) <;> (try (with_reducible refine hK _ ?_; clear hK K)))
| omega)
  · rw [beB_len]; omega
  · refine ⟨j + 1, by omega, by omega, ?_⟩
    have hs : ((n - j : Nat) : Int) - 1 = ((n - (j + 1) : Nat) : Int) := by omega
    (refine zV [] rfl rfl rfl rfl ?_ ?_ <;> simp (disch := omega) only [go_sem, wn, Int.natCast_add, u8_byte, hdiv, beB, hs] <;> (try rfl))
  · rw [show j = n from by omega]
    (refine zF rfl ?_ ?_ ?_ ?_; (iterate 3 (focus ((try simp (disch := omega) only [go_sem, wn]) <;> (try omega) <;> fail))); (try simp (disch := omega) only [go_sem, wn, I, B, S, zj]))
theorem bytesOf_at (v : Int) (n : Nat) (hn : n ≤ 8) (ni : Int) (hi : ni = n) : acall Tryz.prog [] 198 [I v, I ni] (ret (S (beB n v))) := by
  subst hi; exact bytesOf_c v n hn
set_option maxHeartbeats 4000000 in
theorem ref_encode_c (t : ATxn) (hz : okI t.zxid) (hp : t.path.length ≤ 1048576) (hd : okS t.data) : acall Tryz.prog [] 141 [t.av] (ret (.tup [S (encT t).1, I (encT t).2])) := by
  refine zI Tryz.func141 rfl (by kernel_rfl) (by simp [Tryz.ntmps141]) ?_; simp only [Tryz.ntmps141, Tryz.results141, go_sem]
  by_cases g : goodT t = 0
  case neg =>
    unfold encT
    rw [if_neg g]
    (repeat' first
  | (with_reducible refine AR.f ?_)
  | refine zb (by decide) ?_
  | (with_reducible refine AWP.cond rfl ?_ ?_ <;> intro hc <;> (try simp only [hcs, beq_iff_eq, ge_iff_le, gt_iff_lt] at hc))
  | ((first | ((first | (with_reducible first | refine zR ?_ | refine zQ (by decide +kernel) ?_ | refine zD (by decide +kernel) ?_ | refine zE (by decide +kernel) ?_ | refine zG (by decide +kernel) ?_)); intro K hK) | ((first | refine zA (ref_wgood_c t hz hp hd) ?_ ?_ ?_ ?_ ?_); (focus exact rfl); (focus exact rfl); iterate 2 (focus ((try simp (disch := omega) only [go_sem, wn]) <;> (try omega) <;> fail))) | ((first | refine zX (ref_wgood_c t hz hp hd) rfl ?_ ?_); (focus ((try simp (disch := omega) only [go_sem, wn]) <;> (try omega) <;> fail))) | ((first | (with_reducible refine zu ?_ ?_ <;> intro hg) | with_reducible intro hg) <;> (first | (exfalso; simp at hg; done) | (have hg' := hg; (try simp only [hcs, beq_iff_eq, ge_iff_le, gt_iff_lt] at hg'); (try simp only [hg]))))) <;> (try simp (disch := omega) only [go_sem, wn]) <;> (repeat' with_reducible refine And.intro ?_ ?_) <;> (try (with_reducible refine hK _ ?_; clear hK K)))
  | omega)
    all_goals first | omega | skip
    all_goals (refine zF rfl ?_ ?_ ?_ ?_; (iterate 3 (focus ((try simp (disch := omega) only [go_sem, wn]) <;> (try omega) <;> fail))); (try simp (disch := omega) only [go_sem, wn, I, B, S, zj]))
  unfold encT
  rw [if_pos g]
  obtain ⟨s1, s2⟩ := goodT_small g
  have hh : okS (headB t) := by unfold okS; rw [headB_len]; omega
  have hbody : beB 8 t.zxid ++ beB 1 t.op ++ beB 4 t.session ++ beB 4 t.version ++ beB 4 t.owner ++ beB 1 (t.path.length : Int) ++ t.path ++ beB 2 (t.data.length : Int) ++ t.data = bodyB t := rfl
  have hhead : [84] ++ beB 2 ((bodyB t).length : Int) ++ bodyB t = headB t := rfl
  have hhead2 : 84 :: (beB 2 ((bodyB t).length : Int) ++ bodyB t) = headB t := rfl
  (repeat' first
| (with_reducible refine AR.f ?_)
| refine zb (by decide) ?_
| (with_reducible refine AWP.cond rfl ?_ ?_ <;> intro hc <;> (try simp only [hcs, beq_iff_eq, ge_iff_le, gt_iff_lt] at hc))
| ((first | ((first | (with_reducible first | refine zR ?_ | refine zQ (by decide +kernel) ?_ | refine zD (by decide +kernel) ?_ | refine zE (by decide +kernel) ?_ | refine zG (by decide +kernel) ?_)); intro K hK) | ((first | refine zA ((ref_wgood_c t hz hp hd).re (congrArg I g)) ?_ ?_ ?_ ?_ ?_ | refine zA (bytesOf_at t.zxid 8 (by decide) 8 rfl) ?_ ?_ ?_ ?_ ?_ | refine zA (bytesOf_at t.op 1 (by decide) 1 rfl) ?_ ?_ ?_ ?_ ?_ | refine zA (bytesOf_at t.session 4 (by decide) 4 rfl) ?_ ?_ ?_ ?_ ?_ | refine zA (bytesOf_at t.version 4 (by decide) 4 rfl) ?_ ?_ ?_ ?_ ?_ | refine zA (bytesOf_at t.owner 4 (by decide) 4 rfl) ?_ ?_ ?_ ?_ ?_ | refine zA (bytesOf_at t.path.length 1 (by decide) 1 rfl) ?_ ?_ ?_ ?_ ?_ | refine zA (bytesOf_at t.data.length 2 (by decide) 2 rfl) ?_ ?_ ?_ ?_ ?_ | refine zA (bytesOf_at (bodyB t).length 2 (by decide) 2 rfl) ?_ ?_ ?_ ?_ ?_ | refine zA (ref_sum_c (headB t) hh) ?_ ?_ ?_ ?_ ?_ | refine zA (bytesOf_at (sumN (headB t)) 4 (by decide) 4 rfl) ?_ ?_ ?_ ?_ ?_); (focus exact rfl); (focus exact rfl); iterate 2 (focus ((try simp (disch := omega) only [go_sem, wn, hbody, hhead, hhead2]) <;> (try omega) <;> fail))) | ((first | refine zX ((ref_wgood_c t hz hp hd).re (congrArg I g)) rfl ?_ ?_ | refine zX (ref_sum_c (headB t) hh) rfl ?_ ?_); (focus ((try simp (disch := omega) only [go_sem, wn, hbody, hhead, hhead2]) <;> (try omega) <;> fail))) | ((first | refine zX (bytesOf_at t.zxid 8 (by decide) 8 rfl) rfl ?_ ?_); (focus ((try simp (disch := omega) only [go_sem, wn, hbody, hhead, hhead2]) <;> (try omega) <;> fail))) | ((first | refine zX (bytesOf_at t.op 1 (by decide) 1 rfl) rfl ?_ ?_); (focus ((try simp (disch := omega) only [go_sem, wn, hbody, hhead, hhead2]) <;> (try omega) <;> fail))) | ((first | refine zX (bytesOf_at t.session 4 (by decide) 4 rfl) rfl ?_ ?_); (focus ((try simp (disch := omega) only [go_sem, wn, hbody, hhead, hhead2]) <;> (try omega) <;> fail))) | ((first | refine zX (bytesOf_at t.version 4 (by decide) 4 rfl) rfl ?_ ?_); (focus ((try simp (disch := omega) only [go_sem, wn, hbody, hhead, hhead2]) <;> (try omega) <;> fail))) | ((first | refine zX (bytesOf_at t.owner 4 (by decide) 4 rfl) rfl ?_ ?_); (focus ((try simp (disch := omega) only [go_sem, wn, hbody, hhead, hhead2]) <;> (try omega) <;> fail))) | ((first | refine zX (bytesOf_at t.path.length 1 (by decide) 1 rfl) rfl ?_ ?_); (focus ((try simp (disch := omega) only [go_sem, wn, hbody, hhead, hhead2]) <;> (try omega) <;> fail))) | ((first | refine zX (bytesOf_at t.data.length 2 (by decide) 2 rfl) rfl ?_ ?_); (focus ((try simp (disch := omega) only [go_sem, wn, hbody, hhead, hhead2]) <;> (try omega) <;> fail))) | ((first | refine zX (bytesOf_at (bodyB t).length 2 (by decide) 2 rfl) rfl ?_ ?_); (focus ((try simp (disch := omega) only [go_sem, wn, hbody, hhead, hhead2]) <;> (try omega) <;> fail))) | ((first | refine zX (bytesOf_at (sumN (headB t)) 4 (by decide) 4 rfl) rfl ?_ ?_); (focus ((try simp (disch := omega) only [go_sem, wn, hbody, hhead, hhead2]) <;> (try omega) <;> fail))) | ((first | (with_reducible refine zu ?_ ?_ <;> intro hg) | with_reducible intro hg) <;> (first | (exfalso; simp at hg; done) | (have hg' := hg; (try simp only [hcs, beq_iff_eq, ge_iff_le, gt_iff_lt] at hg'); (try simp only [hg]))))) <;> (try simp (disch := omega) only [go_sem, wn, hbody, hhead, hhead2]) <;> (repeat' with_reducible refine And.intro ?_ ?_) <;> (try (with_reducible refine hK _ ?_; clear hK K)))
| omega)
  all_goals first | (with_reducible refine Nat.le_trans (m := 1000) ?_ (by decide); simp only [beB_len, bodyB_len, headB_len]; omega) | skip
  (refine zF rfl ?_ ?_ ?_ ?_; (iterate 3 (focus ((try simp (disch := omega) only [go_sem, wn, encB]) <;> (try omega) <;> fail))); (try simp (disch := omega) only [go_sem, wn, encB, I, B, S, zj]))
end Go.Proofs.YtainmipdnjcbkaaGreatDoor
namespace Go.Proofs.YtainmipdnjcbkaaGreatDoor
set_option linter.unusedVariables false
set_option linter.unusedSimpArgs false
open Go Go.RowKit
set_option maxRecDepth 100000
structure Cur where
  t : List UInt8
  s : List UInt8
  bad : Bool
def curT (s : List UInt8) (b : Bool) (n : Nat) : Cur := if b = true ∨ s.length < n then ⟨[], s, true⟩ else ⟨s.take n, s.drop n, false⟩
theorem curT_bad {s : List UInt8} {b : Bool} {n : Nat} (h : b = true ∨ s.length < n) : curT s b n = ⟨[], s, true⟩ := if_pos h
theorem curT_ok {s : List UInt8} {n : Nat} (h : n ≤ s.length) : curT s false n = ⟨s.take n, s.drop n, false⟩ := if_neg (by simp; omega)
theorem text_c (s : List UInt8) (b : Bool) (n : Nat) (hs : okS s) (ni : Int) (hi : ni = n) : acall Tryz.prog [.cells [S s, B b]] 234 [.ptr 0 0, I ni] (outs (S (curT s b n).t) [.cells [S (curT s b n).s, B (curT s b n).bad]]) := by
  subst hi
  unfold okS at hs
  by_cases h : b = true ∨ s.length < n
  · rw [curT_bad h]
    refine zI Tryz.func234 rfl (by kernel_rfl) (by simp [Tryz.ntmps234]) ?_; simp only [Tryz.ntmps234, Tryz.results234, go_sem]
    (repeat' first
  | (with_reducible refine AR.f ?_)
  | refine zb (by decide) ?_
  | (with_reducible refine AWP.cond rfl ?_ ?_ <;> intro hc <;> (try simp only [hcs, beq_iff_eq, ge_iff_le, gt_iff_lt] at hc))
  | ((first | ((first | (with_reducible first | refine zR ?_ | refine zQ (by decide +kernel) ?_ | refine zD (by decide +kernel) ?_ | refine zE (by decide +kernel) ?_ | refine zG (by decide +kernel) ?_)); intro K hK) | ((first | (with_reducible refine zu ?_ ?_ <;> intro hg) | with_reducible intro hg) <;> (first | (exfalso; simp at hg; done) | (have hg' := hg; (try simp only [hcs, beq_iff_eq, ge_iff_le, gt_iff_lt] at hg'); (try simp only [hg]))))) <;> (try simp (disch := omega) only [go_sem, wn]) <;> (repeat' with_reducible refine And.intro ?_ ?_) <;> (try (with_reducible refine hK _ ?_; clear hK K)))
  | omega)
    · (refine zO ?_ ?_; (focus ((try simp (disch := omega) only [go_sem, wn]) <;> fail)); simp (disch := omega) only [go_sem, wn]; refine AOut.of_simp ?_ (AOut.same ⟨rfl, rfl⟩); refine zV [0] rfl rfl rfl rfl ?_ ?_ <;> simp (disch := omega) only [go_sem, wn, true_or, or_true])
    exfalso; rcases h with h | h
    · rw [h] at hc; exact absurd hc.1 (by decide)
    · omega
  · rw [show b = false from by cases b <;> simp_all] at *
    rw [curT_ok (by omega)]
    refine zI Tryz.func234 rfl (by kernel_rfl) (by simp [Tryz.ntmps234]) ?_; simp only [Tryz.ntmps234, Tryz.results234, go_sem]
    have e : List.take (s.length - n) (List.drop n s) = List.drop n s := List.take_of_length_le (by rw [List.length_drop]; omega)
    (repeat' first
  | (with_reducible refine AR.f ?_)
  | refine zb (by decide) ?_
  | (with_reducible refine AWP.cond rfl ?_ ?_ <;> intro hc <;> (try simp only [hcs, beq_iff_eq, ge_iff_le, gt_iff_lt] at hc))
  | ((first | ((first | (with_reducible first | refine zR ?_ | refine zQ (by decide +kernel) ?_ | refine zD (by decide +kernel) ?_ | refine zE (by decide +kernel) ?_ | refine zG (by decide +kernel) ?_)); intro K hK) | ((first | (with_reducible refine zu ?_ ?_ <;> intro hg) | with_reducible intro hg) <;> (first | (exfalso; simp at hg; done) | (have hg' := hg; (try simp only [hcs, beq_iff_eq, ge_iff_le, gt_iff_lt] at hg'); (try simp only [hg]))))) <;> (try simp (disch := omega) only [go_sem, wn]) <;> (repeat' with_reducible refine And.intro ?_ ?_) <;> (try (with_reducible refine hK _ ?_; clear hK K)))
  | omega)
    (refine zO ?_ ?_; (focus ((try simp (disch := omega) only [go_sem, wn]) <;> fail)); simp (disch := omega) only [go_sem, wn, Nat.sub_zero, e]; refine AOut.of_simp ?_ (AOut.same ⟨rfl, rfl⟩); refine zV [0] rfl rfl rfl rfl ?_ ?_ <;> simp (disch := omega) only [go_sem, wn, true_or, or_true, Nat.sub_zero, e])
def numW (l : List UInt8) : Int := l.foldl (fun v x => IntKind.i64.wrap (v * 256 + x.toNat)) 0
theorem wrap_i64e (n : Int) : IntKind.i64.wrap n = (n + 9223372036854775808) % 18446744073709551616 - 9223372036854775808 := by simp [IntKind.wrap, IntKind.bits, IntKind.signed]; omega
theorem or_byte (n : Int) (c : UInt8) : bits .or .i64 (IntKind.i64.wrap (n * 256)) (c.toNat : Int) = IntKind.i64.wrap (n * 256 + c.toNat) := by
  have hc := c.toNat_lt
  show IntKind.i64.wrap ((BitVec.ofInt 64 (IntKind.i64.wrap (n * 256)) ||| BitVec.ofInt 64 (c.toNat : Int)).toNat : Int) = _
  have e1 : (BitVec.ofInt 64 (IntKind.i64.wrap (n * 256))).toNat = ((n * 256) % 18446744073709551616).toNat := by
    rw [BitVec.toNat_ofInt, wrap_i64e]; congr 1; omega
  rw [BitVec.toNat_or, ofInt_u64 c.toNat (by omega), e1, nat_join 8 _ _ (by omega) (by omega), wrap_i64e, wrap_i64e]
  omega
theorem numW_snoc (t : List UInt8) (k : Nat) (h : k < t.length) : numW (t.take (k + 1)) = IntKind.i64.wrap (numW (t.take k) * 256 + (t.getD k 0).toNat) := by
  unfold numW
  have : t.take (k + 1) = t.take k ++ [t.getD k 0] := take_snoc t k h
  rw [this, List.foldl_append]; rfl
theorem wrap_byte (b : UInt8) : IntKind.i64.wrap (b.toNat : Int) = (b.toNat : Int) := by
  have := b.toNat_lt
  rw [wrap_i64e]; omega
theorem number_c (s : List UInt8) (b : Bool) (n : Nat) (hs : okS s) (ni : Int) (hi : ni = n) (hn : n ≤ 8) : acall Tryz.prog [.cells [S s, B b]] 235 [.ptr 0 0, I ni] (outs (I (numW (curT s b n).t)) [.cells [S (curT s b n).s, B (curT s b n).bad]]) := by
  have hl : (curT s b n).t.length ≤ 8 := by unfold curT; split <;> simp; omega
  generalize hk : curT s b n = k at hl
  refine zI Tryz.func235 rfl (by kernel_rfl) (by simp [Tryz.ntmps235]) ?_; simp only [Tryz.ntmps235, Tryz.results235, go_sem]
  have ct : acall Tryz.prog [.cells [S s, B b]] 234 [.ptr 0 0, I ni] (outs (S k.t) [.cells [S k.s, B k.bad]]) := hk ▸ text_c s b n hs ni hi
  (repeat' first
| (with_reducible refine AR.f ?_)
| refine zb (by decide) ?_
| (with_reducible refine AWP.cond rfl ?_ ?_ <;> intro hc <;> (try simp only [hcs, beq_iff_eq, ge_iff_le, gt_iff_lt] at hc))
| ((first | ((first | (with_reducible first | refine zR ?_ | refine zQ (by decide +kernel) ?_ | refine zD (by decide +kernel) ?_ | refine zE (by decide +kernel) ?_ | refine zG (by decide +kernel) ?_)); intro K hK) | (refine acallH_at [0] (ct) ?_ ?_ ?_; (focus ((try simp (disch := omega) only [inj, List.cons.injEq, and_self, List.nodup_cons, List.not_mem_nil, List.mem_cons, not_false_eq_true, List.nodup_nil, go_sem, wn]) <;> (try omega) <;> fail)); (focus ((try simp (disch := omega) only [inj, List.cons.injEq, and_self, List.nodup_cons, List.not_mem_nil, List.mem_cons, not_false_eq_true, List.nodup_nil, go_sem, wn]) <;> (try omega) <;> (try decide) <;> fail))) | ((first | (with_reducible refine zu ?_ ?_ <;> intro hg) | with_reducible intro hg) <;> (first | (exfalso; simp at hg; done) | (have hg' := hg; (try simp only [hcs, beq_iff_eq, ge_iff_le, gt_iff_lt] at hg'); (try simp only [hg]))))) <;> (try simp (disch := omega) only [go_sem, wn]) <;> (repeat' with_reducible refine And.intro ?_ ?_) <;> (try (with_reducible refine hK _ ?_; clear hK K)))
| omega)
  refine AWP.loopB (ι := Nat) (fun j => j ≤ k.t.length) (fun j => k.t.length - j) [11, 12] (fun j => [(5, I (numW (k.t.take j))), (13, I j)]) (fun j => [.cells [S k.s, B k.bad], .bytes k.t]) 0 ?_ ?_ ?_
  · omega
  · simp only [go_sem, numW, List.foldl_nil]; (refine SImp.same ?_; simp (disch := omega) only [go_sem, wn, Int.natCast_add])
  intro j hj
  simp only [go_sem]
  (repeat' first
| (with_reducible refine AR.f ?_)
| refine zb (by decide) ?_
| (with_reducible refine AWP.cond rfl ?_ ?_ <;> intro hc <;> (try simp only [hcs, beq_iff_eq, ge_iff_le, gt_iff_lt] at hc))
| ((first | ((first | (with_reducible first | refine zR ?_ | refine zQ (by decide +kernel) ?_ | refine zD (by decide +kernel) ?_ | refine zE (by decide +kernel) ?_ | refine zG (by decide +kernel) ?_)); intro K hK) | ((first | (with_reducible refine zu ?_ ?_ <;> intro hg) | with_reducible intro hg) <;> (first | (exfalso; simp at hg; done) | (have hg' := hg; (try simp only [hcs, beq_iff_eq, ge_iff_le, gt_iff_lt] at hg'); (try simp only [hg]))))) <;> (try simp (disch := omega) only [go_sem, wn, u8g, or_byte, wrap_byte]) <;> (repeat' with_reducible refine And.intro ?_ ?_) <;> (try (with_reducible refine hK _ ?_; clear hK K)))
| omega)
  · refine ⟨j + 1, by omega, by omega, ?_⟩
    rw [numW_snoc _ _ (by assumption)]
    (refine SImp.same ?_; simp (disch := omega) only [go_sem, wn, Int.natCast_add, or_byte, wrap_byte, u8g])
  rw [show j = k.t.length from by omega, List.take_length]
  (refine zO ?_ ?_; (focus ((try simp (disch := omega) only [go_sem, wn]) <;> fail)); simp (disch := omega) only [go_sem, wn]; refine AOut.of_simp ?_ (AOut.same ⟨rfl, rfl⟩); refine zV [0] rfl rfl rfl rfl ?_ ?_ <;> simp (disch := omega) only [go_sem, wn, true_or, or_true])
theorem wrap_add_byte (n : Int) (b : UInt8) : IntKind.i64.wrap (IntKind.i64.wrap (n * 256) + (b.toNat : Int)) = IntKind.i64.wrap (n * 256 + b.toNat) := by
  rw [wrap_i64e, wrap_i64e, wrap_i64e]; omega
theorem numberOf_c (s : List UInt8) (hs : okS s) : acall Tryz.prog [] 236 [S s] (ret (I (numW s))) := by
  unfold okS at hs
  refine zI Tryz.func236 rfl (by kernel_rfl) (by simp [Tryz.ntmps236]) ?_; simp only [Tryz.ntmps236, Tryz.results236, go_sem]
  (repeat' first
| (with_reducible refine AR.f ?_)
| refine zb (by decide) ?_
| (with_reducible refine AWP.cond rfl ?_ ?_ <;> intro hc <;> (try simp only [hcs, beq_iff_eq, ge_iff_le, gt_iff_lt] at hc))
| ((first | ((first | (with_reducible first | refine zR ?_ | refine zQ (by decide +kernel) ?_ | refine zD (by decide +kernel) ?_ | refine zE (by decide +kernel) ?_ | refine zG (by decide +kernel) ?_)); intro K hK) | ((first | (with_reducible refine zu ?_ ?_ <;> intro hg) | with_reducible intro hg) <;> (first | (exfalso; simp at hg; done) | (have hg' := hg; (try simp only [hcs, beq_iff_eq, ge_iff_le, gt_iff_lt] at hg'); (try simp only [hg]))))) <;> (try simp (disch := omega) only [go_sem, wn]) <;> (repeat' with_reducible refine And.intro ?_ ?_) <;> (try (with_reducible refine hK _ ?_; clear hK K)))
| omega)
  refine AWP.loopB (ι := Nat) (fun j => j ≤ s.length) (fun j => s.length - j) [7, 8] (fun j => [(3, I (numW (s.take j))), (9, I j)]) (fun j => [.bytes s]) 0 ?_ ?_ ?_
  · omega
  · simp only [go_sem, numW, List.foldl_nil]; (refine SImp.same ?_; simp (disch := omega) only [go_sem, wn, Int.natCast_add])
  intro j hj
  simp only [go_sem]
  (repeat' first
| (with_reducible refine AR.f ?_)
| refine zb (by decide) ?_
| (with_reducible refine AWP.cond rfl ?_ ?_ <;> intro hc <;> (try simp only [hcs, beq_iff_eq, ge_iff_le, gt_iff_lt] at hc))
| ((first | ((first | (with_reducible first | refine zR ?_ | refine zQ (by decide +kernel) ?_ | refine zD (by decide +kernel) ?_ | refine zE (by decide +kernel) ?_ | refine zG (by decide +kernel) ?_)); intro K hK) | ((first | (with_reducible refine zu ?_ ?_ <;> intro hg) | with_reducible intro hg) <;> (first | (exfalso; simp at hg; done) | (have hg' := hg; (try simp only [hcs, beq_iff_eq, ge_iff_le, gt_iff_lt] at hg'); (try simp only [hg]))))) <;> (try simp (disch := omega) only [go_sem, wn, u8g, wrap_byte, wrap_add_byte]) <;> (repeat' with_reducible refine And.intro ?_ ?_) <;> (try (with_reducible refine hK _ ?_; clear hK K)))
| omega)
  · refine ⟨j + 1, by omega, by omega, ?_⟩
    rw [numW_snoc _ _ (by assumption)]
    (refine SImp.same ?_; simp (disch := omega) only [go_sem, wn, Int.natCast_add, wrap_byte, u8g, wrap_add_byte])
  rw [show j = s.length from by omega, List.take_length]
  (refine zF rfl ?_ ?_ ?_ ?_; (iterate 3 (focus ((try simp (disch := omega) only [go_sem, wn]) <;> (try omega) <;> fail))); (try simp (disch := omega) only [go_sem, wn, I, B, S, zj]))
def numN (l : List UInt8) : Nat := l.foldl (fun v x => v * 256 + x.toNat) 0
theorem numN_snoc (t : List UInt8) (k : Nat) (h : k < t.length) : numN (t.take (k + 1)) = numN (t.take k) * 256 + (t.getD k 0).toNat := by
  unfold numN
  have : t.take (k + 1) = t.take k ++ [t.getD k 0] := take_snoc t k h
  rw [this, List.foldl_append]; rfl
theorem numN_take (t : List UInt8) : ∀ k, k ≤ t.length → k ≤ 7 → numN (t.take k) < 256 ^ k ∧ numW (t.take k) = ((numN (t.take k) : Nat) : Int)
  | 0, _, _ => ⟨by simp [numN], rfl⟩
  | k + 1, h, h7 => by
    obtain ⟨h1, h2⟩ := numN_take t k (by omega) (by omega)
    have hb := (t.getD k 0).toNat_lt
    have hp : 256 ^ k ≤ 256 ^ 6 := Nat.pow_le_pow_right (by decide) (by omega)
    have hq : 256 ^ (k + 1) = 256 ^ k * 256 := Nat.pow_succ ..
    rw [numN_snoc t k (by omega), numW_snoc t k (by omega), h2, wrap_i64e]
    omega
theorem numN_lt {t : List UInt8} {k : Nat} (h : t.length ≤ k) (h7 : k ≤ 7) : numN t < 256 ^ k := by
  have := (numN_take t t.length (Nat.le_refl _) (by omega)).1
  rw [List.take_length] at this
  exact Nat.lt_of_lt_of_le this (Nat.pow_le_pow_right (by decide) h)
theorem numW_small {t : List UInt8} (h : t.length ≤ 7) : numW t = ((numN t : Nat) : Int) := by
  have := (numN_take t t.length (Nat.le_refl _) h).2
  rwa [List.take_length] at this
theorem numN_one (b : UInt8) : numN [b] = b.toNat := by simp [numN]
theorem numW_okI (l : List UInt8) : okI (numW l) := by
  rcases List.eq_nil_or_concat l with rfl | ⟨l, x, rfl⟩
  · unfold numW okI; decide
  · unfold numW okI
    rw [List.concat_eq_append, List.foldl_append]
    simp only [List.foldl_cons, List.foldl_nil]
    rw [wrap_i64e]; omega
theorem numberOf_s (s : List UInt8) (hs : s.length ≤ 7) : acall Tryz.prog [] 236 [S s] (ret (I (numN s : Nat))) := by
  rw [← numW_small hs]; exact numberOf_c s (by unfold okS; omega)
def tz : ATxn := ⟨0, 0, 0, [], [], 0, 0⟩
def bP (b : List UInt8) : Nat := (b.getD 21 0).toNat
def bD (b : List UInt8) : Nat := numN ((b.drop (22 + bP b)).take 2)
def bodyT (b : List UInt8) : ATxn := ⟨numW (b.take 8), (b.getD 8 0).toNat, (numN ((b.drop 9).take 4) : Nat), (b.drop 22).take (bP b), b.drop (24 + bP b), (numN ((b.drop 13).take 4) : Nat), (numN ((b.drop 17).take 4) : Nat)⟩
def bodyOk (b : List UInt8) : Prop := b.length = 24 + bP b + bD b
def sN (s : List UInt8) : Nat := numN ((s.drop 1).take 2)
def sB (s : List UInt8) : List UInt8 := (s.drop 3).take (sN s)
instance (b : List UInt8) : Decidable (bodyOk b) := inferInstanceAs (Decidable (_ = _))
def noHead (s : List UInt8) : Prop := s.length < 3 ∨ s.getD 0 0 ≠ 84
def noRoom (s : List UInt8) : Prop := 1024 < sN s ∨ s.length < sN s + 7
def noSum (s : List UInt8) : Prop := numN ((s.drop (sN s + 3)).take 4) ≠ sumN (s.take (sN s + 3))
instance (s : List UInt8) : Decidable (noHead s) := inferInstanceAs (Decidable (_ ∨ _))
instance (s : List UInt8) : Decidable (noRoom s) := inferInstanceAs (Decidable (_ ∨ _))
instance (s : List UInt8) : Decidable (noSum s) := inferInstanceAs (Decidable (_ ≠ _))
def decT (s : List UInt8) : ATxn × Int × Int :=
  if noHead s then (tz, 0, 2)
  else if noRoom s then (tz, 0, 2)
  else if noSum s then (tz, 0, 5)
  else if ¬ bodyOk (sB s) then (tz, 0, 2)
  else if goodT (bodyT (sB s)) ≠ 0 then (tz, 0, goodT (bodyT (sB s)))
  else (bodyT (sB s), (sN s + 7 : Nat), 0)
theorem sN_lt (s : List UInt8) : sN s < 65536 := numN_lt (k := 2) (by simp; omega) (by decide)
theorem decT_a {s : List UInt8} (h : noHead s) : decT s = (tz, 0, 2) := by unfold decT; rw [if_pos h]
theorem decT_b {s : List UInt8} (h1 : ¬ noHead s) (h : noRoom s) : decT s = (tz, 0, 2) := by unfold decT; rw [if_neg h1, if_pos h]
theorem decT_c {s : List UInt8} (h1 : ¬ noHead s) (h2 : ¬ noRoom s) (h : noSum s) : decT s = (tz, 0, 5) := by unfold decT; rw [if_neg h1, if_neg h2, if_pos h]
theorem decT_d {s : List UInt8} (h1 : ¬ noHead s) (h2 : ¬ noRoom s) (h3 : ¬ noSum s) (h : ¬ bodyOk (sB s)) : decT s = (tz, 0, 2) := by unfold decT; rw [if_neg h1, if_neg h2, if_neg h3, if_pos h]
theorem decT_e {s : List UInt8} (h1 : ¬ noHead s) (h2 : ¬ noRoom s) (h3 : ¬ noSum s) (h4 : bodyOk (sB s)) (h : goodT (bodyT (sB s)) ≠ 0) : decT s = (tz, 0, goodT (bodyT (sB s))) := by
  unfold decT; rw [if_neg h1, if_neg h2, if_neg h3, if_neg (fun h => h h4), if_pos h]
theorem decT_f {s : List UInt8} (h1 : ¬ noHead s) (h2 : ¬ noRoom s) (h3 : ¬ noSum s) (h4 : bodyOk (sB s)) (h : goodT (bodyT (sB s)) = 0) : decT s = (bodyT (sB s), ((sN s + 7 : Nat) : Int), 0) := by
  unfold decT; rw [if_neg h1, if_neg h2, if_neg h3, if_neg (fun h => h h4), if_neg (fun h' => h' h)]
theorem head_iff {s : List UInt8} : noHead s ↔ (s.length : Int) < 3 ∨ ¬ ((s.getD 0 0).toNat : Int) = 84 := by
  unfold noHead
  have e : (s.getD 0 0 ≠ 84) ↔ ¬ ((s.getD 0 0).toNat : Int) = 84 := by
    constructor
    · intro h e; apply h; exact UInt8.toNat_inj.1 (by show (s.getD 0 0).toNat = 84; omega)
    · intro h e; apply h; rw [e]; rfl
  rw [e]; omega
theorem room_iff {s : List UInt8} : noRoom s ↔ 1024 < (sN s : Int) ∨ (s.length : Int) < (sN s : Int) + 7 := by unfold noRoom; omega
theorem ref_decode_c (s : List UInt8) (hs : s.length ≤ 1048576) : acall Tryz.prog [] 186 [S s] (ret (.tup [(decT s).1.av, I (decT s).2.1, I (decT s).2.2])) := by
  have hn1 : acall Tryz.prog [] 236 [S ((s.drop 1).take 2)] (ret (I (sN s))) := numberOf_s _ (by simp; omega)
  have hN := sN_lt s
  have q3 : ((sN s : Int) + 3).toNat = sN s + 3 := by omega
  have q7 : ((sN s : Int) + 7).toNat = sN s + 7 := by omega
  have hsum : acall Tryz.prog [] 199 [S (s.take (sN s + 3))] (ret (I (sumN (s.take (sN s + 3))))) := ref_sum_c _ (by unfold okS; simp; omega)
  have q4 : sN s + 7 - (sN s + 3) = 4 := by omega
  have q5 : List.take (sN s + 3 - 3) (List.drop 3 s) = sB s := by unfold sB; rw [Nat.add_sub_cancel]
  have hW : acall Tryz.prog [] 236 [S ((sB s).take 8)] (ret (I (numW ((sB s).take 8)))) := numberOf_c _ (by unfold okS; simp; omega)
  have hbl : (sB s).length ≤ 1048576 := by unfold sB; simp; omega
  have hP : bP (sB s) < 256 := UInt8.toNat_lt _
  have hD : bD (sB s) < 65536 := numN_lt (k := 2) (by simp; omega) (by decide)
  have ebp : ((sB s).getD 21 0).toNat = bP (sB s) := rfl
  have ebd : numN (List.take 2 (List.drop (22 + bP (sB s)) (sB s))) = bD (sB s) := rfl
  have q22 : (22 + (bP (sB s) : Int)).toNat = 22 + bP (sB s) := by omega
  have q24 : (24 + (bP (sB s) : Int)).toNat = 24 + bP (sB s) := by omega
  have q2 : 24 + bP (sB s) - (22 + bP (sB s)) = 2 := by omega
  have q0 : 22 + bP (sB s) - 22 = bP (sB s) := by omega
  have qd : List.take ((sB s).length - (24 + bP (sB s))) (List.drop (24 + bP (sB s)) (sB s)) = List.drop (24 + bP (sB s)) (sB s) := List.take_of_length_le (by rw [List.length_drop]; omega)
  have hG : acall Tryz.prog [] 197 [(bodyT (sB s)).av] (ret (I (goodT (bodyT (sB s))))) := ref_wgood_c _ (numW_okI _) (by simp [bodyT]; omega) (by unfold okS; simp [bodyT]; omega)
  unfold ATxn.av bodyT at hG
  refine zI Tryz.func186 rfl (by kernel_rfl) (by simp [Tryz.ntmps186]) ?_; simp only [Tryz.ntmps186, Tryz.results186, go_sem]
  (repeat' first
| (with_reducible refine AR.f ?_)
| refine zb (by decide) ?_
| (with_reducible refine AWP.cond rfl ?_ ?_ <;> intro hc <;> (try simp only [hcs, beq_iff_eq, ge_iff_le, gt_iff_lt] at hc))
| ((first | ((first | (with_reducible first | refine zR ?_ | refine zQ (by decide +kernel) ?_ | refine zD (by decide +kernel) ?_ | refine zE (by decide +kernel) ?_ | refine zG (by decide +kernel) ?_)); intro K hK) | ((first | refine zA hn1 ?_ ?_ ?_ ?_ ?_ | refine zA hsum ?_ ?_ ?_ ?_ ?_ | refine zA hW ?_ ?_ ?_ ?_ ?_ | refine zA hG ?_ ?_ ?_ ?_ ?_); (focus exact rfl); (focus exact rfl); iterate 2 (focus ((try simp (disch := omega) only [go_sem, wn, q3, q7, q4, q5, Nat.sub_zero, wrap_byte, ebp, q22, q24, q2, q0, ebd, qd]) <;> (try omega) <;> fail))) | ((first | refine acallH_sc (numberOf_s _ (by simp; omega)) rfl rfl ?_ ?_ ?_ | refine acallQ_sc (numberOf_s _ (by simp; omega)) rfl rfl ?_ ?_ ?_); iterate 2 (focus ((try simp (disch := omega) only [go_sem, wn, q3, q7, q4, q5, Nat.sub_zero, wrap_byte, ebp, q22, q24, q2, q0, ebd, qd]) <;> (try omega) <;> fail))) | ((first | refine zX hsum rfl ?_ ?_ | refine zX hG rfl ?_ ?_); (focus ((try simp (disch := omega) only [go_sem, wn, q3, q7, q4, q5, Nat.sub_zero, wrap_byte, ebp, q22, q24, q2, q0, ebd, qd]) <;> (try omega) <;> fail))) | ((first | refine zX hn1 rfl ?_ ?_); (focus ((try simp (disch := omega) only [go_sem, wn, q3, q7, q4, q5, Nat.sub_zero, wrap_byte, ebp, q22, q24, q2, q0, ebd, qd]) <;> (try omega) <;> fail))) | ((first | refine zX (numberOf_s _ (by simp; omega)) rfl ?_ ?_); (focus ((try simp (disch := omega) only [go_sem, wn, q3, q7, q4, q5, Nat.sub_zero, wrap_byte, ebp, q22, q24, q2, q0, ebd, qd]) <;> (try omega) <;> fail))) | ((first | refine zX hW rfl ?_ ?_); (focus ((try simp (disch := omega) only [go_sem, wn, q3, q7, q4, q5, Nat.sub_zero, wrap_byte, ebp, q22, q24, q2, q0, ebd, qd]) <;> (try omega) <;> fail))) | ((first | (with_reducible refine zu ?_ ?_ <;> intro hg) | with_reducible intro hg) <;> (first | (exfalso; simp at hg; done) | (have hg' := hg; (try simp only [hcs, beq_iff_eq, ge_iff_le, gt_iff_lt] at hg'); (try simp only [hg]))))) <;> (try simp (disch := omega) only [go_sem, wn, q3, q7, q4, q5, Nat.sub_zero, wrap_byte, ebp, q22, q24, q2, q0, ebd, qd]) <;> (repeat' with_reducible refine And.intro ?_ ?_) <;> (try (with_reducible refine hK _ ?_; clear hK K)))
| omega)
  · rw [decT_a (head_iff.2 hc)]; (refine zF rfl ?_ ?_ ?_ ?_; (iterate 3 (focus ((try simp (disch := omega) only [go_sem, wn, tz]) <;> (try omega) <;> fail))); (try simp (disch := omega) only [go_sem, wn, tz, I, B, S, zj]))
  all_goals (have h1 : ¬ noHead s := fun h => by have := head_iff.1 h; omega)
  · rw [decT_b h1 (room_iff.2 hc)]; (refine zF rfl ?_ ?_ ?_ ?_; (iterate 3 (focus ((try simp (disch := omega) only [go_sem, wn, tz]) <;> (try omega) <;> fail))); (try simp (disch := omega) only [go_sem, wn, tz, I, B, S, zj]))
  all_goals (have h2 : ¬ noRoom s := fun h => by have := room_iff.1 h; omega)
  · rw [decT_c h1 h2 (by unfold noSum; omega)]; (refine zF rfl ?_ ?_ ?_ ?_; (iterate 3 (focus ((try simp (disch := omega) only [go_sem, wn, tz]) <;> (try omega) <;> fail))); (try simp (disch := omega) only [go_sem, wn, tz, I, B, S, zj]))
  all_goals (have h3 : ¬ noSum s := fun h => by unfold noSum at h; omega)
  · rw [decT_d h1 h2 h3 (by unfold bodyOk; omega)]; (refine zF rfl ?_ ?_ ?_ ?_; (iterate 3 (focus ((try simp (disch := omega) only [go_sem, wn, tz]) <;> (try omega) <;> fail))); (try simp (disch := omega) only [go_sem, wn, tz, I, B, S, zj]))
  · rw [decT_d h1 h2 h3 (by unfold bodyOk; omega)]; (refine zF rfl ?_ ?_ ?_ ?_; (iterate 3 (focus ((try simp (disch := omega) only [go_sem, wn, tz]) <;> (try omega) <;> fail))); (try simp (disch := omega) only [go_sem, wn, tz, I, B, S, zj]))
  · rw [decT_d h1 h2 h3 (by unfold bodyOk; omega)]; (refine zF rfl ?_ ?_ ?_ ?_; (iterate 3 (focus ((try simp (disch := omega) only [go_sem, wn, tz]) <;> (try omega) <;> fail))); (try simp (disch := omega) only [go_sem, wn, tz, I, B, S, zj]))
  · rw [decT_e h1 h2 h3 (by unfold bodyOk; omega) hc]; (refine zF rfl ?_ ?_ ?_ ?_; (iterate 3 (focus ((try simp (disch := omega) only [go_sem, wn, tz, bodyT]) <;> (try omega) <;> fail))); (try simp (disch := omega) only [go_sem, wn, tz, bodyT, I, B, S, zj]))
  · rw [decT_f h1 h2 h3 (by unfold bodyOk; omega) hc]; (refine zF rfl ?_ ?_ ?_ ?_; (iterate 3 (focus ((try simp (disch := omega) only [go_sem, wn, bodyT, Int.natCast_add]) <;> (try omega) <;> fail))); (try simp (disch := omega) only [go_sem, wn, bodyT, Int.natCast_add, I, B, S, zj]))
end Go.Proofs.YtainmipdnjcbkaaGreatDoor
namespace Go.Proofs.YtainmipdnjcbkaaGreatDoor
set_option linter.unusedVariables false
set_option linter.unusedSimpArgs false
open Go Go.RowKit
set_option maxRecDepth 100000
theorem number_s (s : List UInt8) (b : Bool) (n : Nat) (hs : okS s) (ni : Int) (hi : ni = n) (hn : n ≤ 7) : acall Tryz.prog [.cells [S s, B b]] 235 [.ptr 0 0, I ni] (outs (I (numN (curT s b n).t : Nat)) [.cells [S (curT s b n).s, B (curT s b n).bad]]) := by
  have hl : (curT s b n).t.length ≤ 7 := by unfold curT; split <;> simp; omega
  rw [← numW_small hl]; exact number_c s b n hs ni hi (by omega)
theorem curT_len (s : List UInt8) (b : Bool) (n : Nat) : (curT s b n).s.length ≤ s.length ∧ (curT s b n).t.length ≤ s.length ∧ (curT s b n).t.length ≤ n := by
  unfold curT; split <;> simp <;> omega
theorem curT_good {s : List UInt8} {b : Bool} {n : Nat} (h : (curT s b n).bad = false) : b = false ∧ n ≤ s.length ∧ (curT s b n).t = s.take n ∧ (curT s b n).s = s.drop n := by
  unfold curT at *
  split at h
  · cases h
  · rename_i hn
    rw [if_neg hn]
    exact ⟨by cases b <;> simp_all, by omega, rfl, rfl⟩
theorem curT_no {s : List UInt8} {n : Nat} (h : (curT s false n).bad = true) : s.length < n := by
  rcases Nat.lt_or_ge s.length n with h' | h'
  · exact h'
  · rw [curT_ok h'] at h; cases h
structure Dec where
  k1 : Cur
  k2 : Cur
  k3 : Cur
  k4 : Cur
  j1 : Cur
  j2 : Cur
  j3 : Cur
  j4 : Cur
  j5 : Cur
  j6 : Cur
  j7 : Cur
  j8 : Cur
  j9 : Cur
structure Reads (s : List UInt8) (d : Dec) : Prop where
  k1 : curT s false 1 = d.k1
  k2 : curT d.k1.s d.k1.bad 2 = d.k2
  k3 : curT d.k2.s d.k2.bad (numN d.k2.t) = d.k3
  k4 : curT d.k3.s d.k3.bad 4 = d.k4
  j1 : curT d.k3.t false 8 = d.j1
  j2 : curT d.j1.s d.j1.bad 1 = d.j2
  j3 : curT d.j2.s d.j2.bad 4 = d.j3
  j4 : curT d.j3.s d.j3.bad 4 = d.j4
  j5 : curT d.j4.s d.j4.bad 4 = d.j5
  j6 : curT d.j5.s d.j5.bad 1 = d.j6
  j7 : curT d.j6.s d.j6.bad (numN d.j6.t) = d.j7
  j8 : curT d.j7.s d.j7.bad 2 = d.j8
  j9 : curT d.j8.s d.j8.bad (numN d.j8.t) = d.j9
theorem reads (s : List UInt8) : ∃ d, Reads s d := by
  let k1 := curT s false 1
  let k2 := curT k1.s k1.bad 2
  let k3 := curT k2.s k2.bad (numN k2.t)
  let k4 := curT k3.s k3.bad 4
  let j1 := curT k3.t false 8
  let j2 := curT j1.s j1.bad 1
  let j3 := curT j2.s j2.bad 4
  let j4 := curT j3.s j3.bad 4
  let j5 := curT j4.s j4.bad 4
  let j6 := curT j5.s j5.bad 1
  let j7 := curT j6.s j6.bad (numN j6.t)
  let j8 := curT j7.s j7.bad 2
  let j9 := curT j8.s j8.bad (numN j8.t)
  exact ⟨⟨k1, k2, k3, k4, j1, j2, j3, j4, j5, j6, j7, j8, j9⟩, ⟨rfl, rfl, rfl, rfl, rfl, rfl, rfl, rfl, rfl, rfl, rfl, rfl, rfl⟩⟩
theorem gd {s : List UInt8} {b : Bool} {n : Nat} {k : Cur} (e : curT s b n = k) (h : k.bad = false) : b = false ∧ n ≤ s.length ∧ k.t = s.take n ∧ k.s = s.drop n := by
  subst e; exact curT_good h
theorem no {s : List UInt8} {n : Nat} {k : Cur} (e : curT s false n = k) (h : k.bad = true) : s.length < n := by subst e; exact curT_no h
theorem ln {s : List UInt8} {b : Bool} {n m : Nat} {k : Cur} (e : curT s b n = k) (h : s.length ≤ m) : k.s.length ≤ m ∧ k.t.length ≤ m ∧ k.t.length ≤ n := by
  subst e; have := curT_len s b n; omega
def decV (d : Dec) : ATxn := ⟨numW d.j1.t, (numN d.j2.t : Nat), (numN d.j3.t : Nat), d.j7.t, d.j9.t, (numN d.j4.t : Nat), (numN d.j5.t : Nat)⟩
theorem dec_head {s : List UInt8} {d : Dec} (r : Reads s d) (h : d.k1.t ≠ [84]) : noHead s := by
  unfold noHead
  rcases Nat.lt_or_ge s.length 1 with h0 | h0
  · left; omega
  right; intro e; apply h
  have := r.k1
  rw [curT_ok h0] at this
  rw [← this]
  match s, h0, e with
  | x :: s, _, e => simp at e; simp [e]
theorem dec_one {s : List UInt8} {d : Dec} (r : Reads s d) (h : d.k1.t = [84]) : d.k1.bad = false ∧ d.k1.s = s.drop 1 ∧ 1 ≤ s.length ∧ s.getD 0 0 = 84 := by
  have h1 := r.k1
  rcases Nat.lt_or_ge s.length 1 with h0 | h0
  · rw [curT_bad (.inr h0)] at h1; rw [← h1] at h; cases h
  rw [curT_ok h0] at h1
  rw [← h1] at h
  refine ⟨by rw [← h1], by rw [← h1], h0, ?_⟩
  match s, h0, h with
  | x :: s, _, h => simp at h; simp [h]
theorem dec_two {s : List UInt8} {d : Dec} (r : Reads s d) (h : d.k1.t = [84]) (h2 : d.k2.bad = true) : noHead s := by
  obtain ⟨a1, a2, a3, _⟩ := dec_one r h
  have h3 := r.k2
  rw [a1, a2] at h3
  have := no h3 h2
  rw [List.length_drop] at this
  left; omega
theorem dec_n {s : List UInt8} {d : Dec} (r : Reads s d) (h : d.k1.t = [84]) (h2 : d.k2.bad = false) : ¬ noHead s ∧ numN d.k2.t = sN s ∧ d.k2.s = s.drop 3 := by
  obtain ⟨a1, a2, a3, a4⟩ := dec_one r h
  obtain ⟨_, b2, b3, b4⟩ := gd r.k2 h2
  rw [a2] at b2 b3 b4
  rw [List.length_drop] at b2
  refine ⟨fun hh => ?_, by rw [b3]; rfl, by rw [b4, List.drop_drop]⟩
  rcases hh with hh | hh
  · omega
  · exact hh a4
theorem dec_room {s : List UInt8} {d : Dec} (r : Reads s d) (h : d.k1.t = [84]) (h2 : d.k2.bad = false) (h4 : d.k4.bad = true) : s.length < sN s + 7 := by
  obtain ⟨a1, a2, a3⟩ := dec_n r h h2
  rcases Nat.lt_or_ge s.length (sN s + 7) with h' | h'
  · exact h'
  have r3 := r.k3
  rw [h2, a2, a3, curT_ok (by rw [List.length_drop]; omega)] at r3
  have r4 := r.k4
  rw [← r3] at r4
  have := no r4 h4
  simp at this; omega
theorem dec_body {s : List UInt8} {d : Dec} (r : Reads s d) (h : d.k1.t = [84]) (h2 : d.k2.bad = false) (h4 : d.k4.bad = false) : sN s + 7 ≤ s.length ∧ d.k3.t = sB s ∧ d.k4.t = (s.drop (sN s + 3)).take 4 := by
  obtain ⟨a1, a2, a3⟩ := dec_n r h h2
  obtain ⟨b1, b2, b3, b4⟩ := gd r.k4 h4
  obtain ⟨c1, c2, c3, c4⟩ := gd r.k3 b1
  rw [a2, a3] at c2 c3 c4
  rw [List.length_drop] at c2
  rw [c4] at b2 b3
  rw [List.drop_drop] at b2 b3
  rw [List.length_drop] at b2
  exact ⟨by omega, c3, by rw [b3, Nat.add_comm 3]⟩
theorem dec_all {s : List UInt8} {d : Dec} (r : Reads s d) {b : List UInt8} (hb : d.k3.t = b) (h9 : d.j9.bad = false) (hs : d.j9.s = []) : bodyOk b ∧ decV d = bodyT b := by
  obtain ⟨i9, l9, t9, s9⟩ := gd r.j9 h9
  obtain ⟨i8, l8, t8, s8⟩ := gd r.j8 i9
  obtain ⟨i7, l7, t7, s7⟩ := gd r.j7 i8
  obtain ⟨i6, l6, t6, s6⟩ := gd r.j6 i7
  obtain ⟨i5, l5, t5, s5⟩ := gd r.j5 i6
  obtain ⟨i4, l4, t4, s4⟩ := gd r.j4 i5
  obtain ⟨i3, l3, t3, s3⟩ := gd r.j3 i4
  obtain ⟨i2, l2, t2, s2⟩ := gd r.j2 i3
  obtain ⟨i1, l1, t1, s1⟩ := gd r.j1 i2
  rw [hb] at t1 s1 l1
  rw [s1] at t2 s2 l2
  rw [s2, List.drop_drop] at t3 s3 l3
  rw [s3, List.drop_drop] at t4 s4 l4
  rw [s4, List.drop_drop] at t5 s5 l5
  rw [s5, List.drop_drop] at t6 s6 l6
  rw [s6, List.drop_drop] at t7 s7 l7
  rw [s7, List.drop_drop] at t8 s8 l8
  rw [s8, List.drop_drop] at t9 s9 l9
  simp only [Nat.reduceAdd, List.length_drop] at *
  have e1 : ∀ k, k < b.length → (b.drop k).take 1 = [b.getD k 0] := fun k hk => by
    rw [List.drop_eq_getElem_cons hk, List.take_succ_cons, List.take_zero]; simp [hk]
  have n6 : numN d.j6.t = bP b := by rw [t6, e1 21 (by omega), numN_one]; rfl
  rw [n6] at t7 s7 l7 t8 s8 l8 t9 s9 l9
  have n8 : numN d.j8.t = bD b := by rw [t8, show 8 + (14 + bP b) = 22 + bP b from by omega]; rfl
  rw [n8] at t9 s9 l9
  have hz : d.j9.s.length = 0 := by rw [hs]; rfl
  rw [s9] at hz
  simp only [List.length_drop] at hz
  have hok : b.length = 24 + bP b + bD b := by omega
  refine ⟨hok, ?_⟩
  unfold decV bodyT
  rw [t1, t2, t3, t4, t5, t7, t9, e1 8 (by omega), numN_one]
  congr 1
  · rw [show 8 + (14 + bP b + 2) = 24 + bP b from by omega]
    exact List.take_of_length_le (by rw [List.length_drop]; omega)
theorem dec_back {s : List UInt8} {d : Dec} (r : Reads s d) {b : List UInt8} (hb : d.k3.t = b) (h : bodyOk b) : d.j9.bad = false ∧ d.j9.s = [] := by
  unfold bodyOk at h
  have e1 : ∀ k, k < b.length → (b.drop k).take 1 = [b.getD k 0] := fun k hk => by
    rw [List.drop_eq_getElem_cons hk, List.take_succ_cons, List.take_zero]; simp [hk]
  have r1 := r.j1
  rw [hb, curT_ok (by omega)] at r1
  have r2 := r.j2
  rw [← r1, curT_ok (by simp only [List.length_drop]; omega), List.drop_drop] at r2
  have r3 := r.j3
  rw [← r2, curT_ok (by simp only [List.length_drop]; omega), List.drop_drop] at r3
  have r4 := r.j4
  rw [← r3, curT_ok (by simp only [List.length_drop]; omega), List.drop_drop] at r4
  have r5 := r.j5
  rw [← r4, curT_ok (by simp only [List.length_drop]; omega), List.drop_drop] at r5
  have r6 := r.j6
  rw [← r5, curT_ok (by simp only [List.length_drop]; omega), List.drop_drop, e1 _ (by omega)] at r6
  have n6 : numN d.j6.t = bP b := by rw [← r6, numN_one]; rfl
  have r7 := r.j7
  rw [n6, ← r6, curT_ok (by simp only [List.length_drop]; omega), List.drop_drop] at r7
  have r8 := r.j8
  rw [← r7, curT_ok (by simp only [List.length_drop]; omega), List.drop_drop] at r8
  have n8 : numN d.j8.t = bD b := by rw [← r8]; rfl
  have r9 := r.j9
  rw [n8, ← r8, curT_ok (by simp only [List.length_drop]; omega), List.drop_drop] at r9
  exact ⟨by rw [← r9], by rw [← r9]; exact List.drop_eq_nil_of_le (by omega)⟩
set_option maxHeartbeats 4000000 in
theorem decode_c (s : List UInt8) (hs : s.length ≤ 1048576) : acall Tryz.prog [] 184 [S s] (ret (.tup [(decT s).1.av, I (decT s).2.1, I (decT s).2.2])) := by
  obtain ⟨d, r⟩ := reads s
  have e1 := ln r.k1 hs
  have e2 := ln r.k2 e1.1
  have e3 := ln r.k3 e2.1
  have e4 := ln r.k4 e3.1
  have f1 := ln r.j1 e3.2.1
  have f2 := ln r.j2 f1.1
  have f3 := ln r.j3 f2.1
  have f4 := ln r.j4 f3.1
  have f5 := ln r.j5 f4.1
  have f6 := ln r.j6 f5.1
  have f7 := ln r.j7 f6.1
  have f8 := ln r.j8 f7.1
  have f9 := ln r.j9 f8.1
  have hn : numN d.k2.t < 65536 := numN_lt (k := 2) e2.2.2 (by decide)
  have ok {t : List UInt8} (h : t.length ≤ 1048576) : okS t := by unfold okS; omega
  have c1 := text_c s false 1 (ok hs) 1 rfl
  have c2 := number_s d.k1.s d.k1.bad 2 (ok e1.1) 2 rfl (by decide)
  have c3 := text_c d.k2.s d.k2.bad (numN d.k2.t) (ok e2.1) (numN d.k2.t : Nat) rfl
  have c4 := number_s d.k3.s d.k3.bad 4 (ok e3.1) 4 rfl (by decide)
  have b1 := number_c d.k3.t false 8 (ok e3.2.1) 8 rfl (by decide)
  have b2 := number_s d.j1.s d.j1.bad 1 (ok f1.1) 1 rfl (by decide)
  have b3 := number_s d.j2.s d.j2.bad 4 (ok f2.1) 4 rfl (by decide)
  have b4 := number_s d.j3.s d.j3.bad 4 (ok f3.1) 4 rfl (by decide)
  have b5 := number_s d.j4.s d.j4.bad 4 (ok f4.1) 4 rfl (by decide)
  have b6 := number_s d.j5.s d.j5.bad 1 (ok f5.1) 1 rfl (by decide)
  have b7 := text_c d.j6.s d.j6.bad (numN d.j6.t) (ok f6.1) (numN d.j6.t : Nat) rfl
  have b8 := number_s d.j7.s d.j7.bad 2 (ok f7.1) 2 rfl (by decide)
  have b9 := text_c d.j8.s d.j8.bad (numN d.j8.t) (ok f8.1) (numN d.j8.t : Nat) rfl
  rw [r.k1] at c1
  rw [r.k2] at c2
  rw [r.k3] at c3
  rw [r.k4] at c4
  rw [r.j1] at b1
  rw [r.j2] at b2
  rw [r.j3] at b3
  rw [r.j4] at b4
  rw [r.j5] at b5
  rw [r.j6] at b6
  rw [r.j7] at b7
  rw [r.j8] at b8
  rw [r.j9] at b9
  have q3 : (3 + (numN d.k2.t : Int)).toNat = 3 + numN d.k2.t := by omega
  have cs := sum_c (s.take (3 + numN d.k2.t)) (ok (by simp; omega))
  have cg : acall Tryz.prog [] 166 [(decV d).av] (ret (I (goodT (decV d)))) := wgood_c (decV d) (ok f7.2.1) (ok f9.2.1)
  unfold ATxn.av decV at cg
  refine zI Tryz.func184 rfl (by kernel_rfl) (by simp [Tryz.ntmps184]) ?_; simp only [Tryz.ntmps184, Tryz.results184, go_sem]
  (repeat' first
| (with_reducible refine AR.f ?_)
| refine zb (by decide) ?_
| (with_reducible refine AWP.cond rfl ?_ ?_ <;> intro hc <;> (try simp only [hcs, beq_iff_eq, ge_iff_le, gt_iff_lt] at hc))
| ((first | ((first | (with_reducible first | refine zR ?_ | refine zQ (by decide +kernel) ?_ | refine zD (by decide +kernel) ?_ | refine zE (by decide +kernel) ?_ | refine zG (by decide +kernel) ?_)); intro K hK) | ((first | refine zA cs ?_ ?_ ?_ ?_ ?_ | refine zA cg ?_ ?_ ?_ ?_ ?_); (focus exact rfl); (focus exact rfl); iterate 2 (focus ((try simp (disch := omega) only [go_sem, wn, q3, Nat.sub_zero]) <;> (try omega) <;> fail))) | ((first | refine zX cs rfl ?_ ?_ | refine zX cg rfl ?_ ?_); (focus ((try simp (disch := omega) only [go_sem, wn, q3, Nat.sub_zero]) <;> (try omega) <;> fail))) | (refine acallH_at [1] (c1) ?_ ?_ ?_; (focus ((try simp (disch := omega) only [inj, List.cons.injEq, and_self, List.nodup_cons, List.not_mem_nil, List.mem_cons, not_false_eq_true, List.nodup_nil, go_sem, wn, q3, Nat.sub_zero]) <;> (try omega) <;> fail)); (focus ((try simp (disch := omega) only [inj, List.cons.injEq, and_self, List.nodup_cons, List.not_mem_nil, List.mem_cons, not_false_eq_true, List.nodup_nil, go_sem, wn, q3, Nat.sub_zero]) <;> (try omega) <;> (try decide) <;> fail))) | (refine acallH_at [1] (c2) ?_ ?_ ?_; (focus ((try simp (disch := omega) only [inj, List.cons.injEq, and_self, List.nodup_cons, List.not_mem_nil, List.mem_cons, not_false_eq_true, List.nodup_nil, go_sem, wn, q3, Nat.sub_zero]) <;> (try omega) <;> fail)); (focus ((try simp (disch := omega) only [inj, List.cons.injEq, and_self, List.nodup_cons, List.not_mem_nil, List.mem_cons, not_false_eq_true, List.nodup_nil, go_sem, wn, q3, Nat.sub_zero]) <;> (try omega) <;> (try decide) <;> fail))) | (refine acallH_at [1] (c3) ?_ ?_ ?_; (focus ((try simp (disch := omega) only [inj, List.cons.injEq, and_self, List.nodup_cons, List.not_mem_nil, List.mem_cons, not_false_eq_true, List.nodup_nil, go_sem, wn, q3, Nat.sub_zero]) <;> (try omega) <;> fail)); (focus ((try simp (disch := omega) only [inj, List.cons.injEq, and_self, List.nodup_cons, List.not_mem_nil, List.mem_cons, not_false_eq_true, List.nodup_nil, go_sem, wn, q3, Nat.sub_zero]) <;> (try omega) <;> (try decide) <;> fail))) | (refine acallH_at [1] (c4) ?_ ?_ ?_; (focus ((try simp (disch := omega) only [inj, List.cons.injEq, and_self, List.nodup_cons, List.not_mem_nil, List.mem_cons, not_false_eq_true, List.nodup_nil, go_sem, wn, q3, Nat.sub_zero]) <;> (try omega) <;> fail)); (focus ((try simp (disch := omega) only [inj, List.cons.injEq, and_self, List.nodup_cons, List.not_mem_nil, List.mem_cons, not_false_eq_true, List.nodup_nil, go_sem, wn, q3, Nat.sub_zero]) <;> (try omega) <;> (try decide) <;> fail))) | (refine acallH_at [2] (b1) ?_ ?_ ?_; (focus ((try simp (disch := omega) only [inj, List.cons.injEq, and_self, List.nodup_cons, List.not_mem_nil, List.mem_cons, not_false_eq_true, List.nodup_nil, go_sem, wn, q3, Nat.sub_zero]) <;> (try omega) <;> fail)); (focus ((try simp (disch := omega) only [inj, List.cons.injEq, and_self, List.nodup_cons, List.not_mem_nil, List.mem_cons, not_false_eq_true, List.nodup_nil, go_sem, wn, q3, Nat.sub_zero]) <;> (try omega) <;> (try decide) <;> fail))) | (refine acallH_at [2] (b2) ?_ ?_ ?_; (focus ((try simp (disch := omega) only [inj, List.cons.injEq, and_self, List.nodup_cons, List.not_mem_nil, List.mem_cons, not_false_eq_true, List.nodup_nil, go_sem, wn, q3, Nat.sub_zero]) <;> (try omega) <;> fail)); (focus ((try simp (disch := omega) only [inj, List.cons.injEq, and_self, List.nodup_cons, List.not_mem_nil, List.mem_cons, not_false_eq_true, List.nodup_nil, go_sem, wn, q3, Nat.sub_zero]) <;> (try omega) <;> (try decide) <;> fail))) | (refine acallH_at [2] (b3) ?_ ?_ ?_; (focus ((try simp (disch := omega) only [inj, List.cons.injEq, and_self, List.nodup_cons, List.not_mem_nil, List.mem_cons, not_false_eq_true, List.nodup_nil, go_sem, wn, q3, Nat.sub_zero]) <;> (try omega) <;> fail)); (focus ((try simp (disch := omega) only [inj, List.cons.injEq, and_self, List.nodup_cons, List.not_mem_nil, List.mem_cons, not_false_eq_true, List.nodup_nil, go_sem, wn, q3, Nat.sub_zero]) <;> (try omega) <;> (try decide) <;> fail))) | (refine acallH_at [2] (b4) ?_ ?_ ?_; (focus ((try simp (disch := omega) only [inj, List.cons.injEq, and_self, List.nodup_cons, List.not_mem_nil, List.mem_cons, not_false_eq_true, List.nodup_nil, go_sem, wn, q3, Nat.sub_zero]) <;> (try omega) <;> fail)); (focus ((try simp (disch := omega) only [inj, List.cons.injEq, and_self, List.nodup_cons, List.not_mem_nil, List.mem_cons, not_false_eq_true, List.nodup_nil, go_sem, wn, q3, Nat.sub_zero]) <;> (try omega) <;> (try decide) <;> fail))) | (refine acallH_at [2] (b5) ?_ ?_ ?_; (focus ((try simp (disch := omega) only [inj, List.cons.injEq, and_self, List.nodup_cons, List.not_mem_nil, List.mem_cons, not_false_eq_true, List.nodup_nil, go_sem, wn, q3, Nat.sub_zero]) <;> (try omega) <;> fail)); (focus ((try simp (disch := omega) only [inj, List.cons.injEq, and_self, List.nodup_cons, List.not_mem_nil, List.mem_cons, not_false_eq_true, List.nodup_nil, go_sem, wn, q3, Nat.sub_zero]) <;> (try omega) <;> (try decide) <;> fail))) | (refine acallH_at [2] (b6) ?_ ?_ ?_; (focus ((try simp (disch := omega) only [inj, List.cons.injEq, and_self, List.nodup_cons, List.not_mem_nil, List.mem_cons, not_false_eq_true, List.nodup_nil, go_sem, wn, q3, Nat.sub_zero]) <;> (try omega) <;> fail)); (focus ((try simp (disch := omega) only [inj, List.cons.injEq, and_self, List.nodup_cons, List.not_mem_nil, List.mem_cons, not_false_eq_true, List.nodup_nil, go_sem, wn, q3, Nat.sub_zero]) <;> (try omega) <;> (try decide) <;> fail))) | (refine acallH_at [2] (b7) ?_ ?_ ?_; (focus ((try simp (disch := omega) only [inj, List.cons.injEq, and_self, List.nodup_cons, List.not_mem_nil, List.mem_cons, not_false_eq_true, List.nodup_nil, go_sem, wn, q3, Nat.sub_zero]) <;> (try omega) <;> fail)); (focus ((try simp (disch := omega) only [inj, List.cons.injEq, and_self, List.nodup_cons, List.not_mem_nil, List.mem_cons, not_false_eq_true, List.nodup_nil, go_sem, wn, q3, Nat.sub_zero]) <;> (try omega) <;> (try decide) <;> fail))) | (refine acallH_at [2] (b8) ?_ ?_ ?_; (focus ((try simp (disch := omega) only [inj, List.cons.injEq, and_self, List.nodup_cons, List.not_mem_nil, List.mem_cons, not_false_eq_true, List.nodup_nil, go_sem, wn, q3, Nat.sub_zero]) <;> (try omega) <;> fail)); (focus ((try simp (disch := omega) only [inj, List.cons.injEq, and_self, List.nodup_cons, List.not_mem_nil, List.mem_cons, not_false_eq_true, List.nodup_nil, go_sem, wn, q3, Nat.sub_zero]) <;> (try omega) <;> (try decide) <;> fail))) | (refine acallH_at [2] (b9) ?_ ?_ ?_; (focus ((try simp (disch := omega) only [inj, List.cons.injEq, and_self, List.nodup_cons, List.not_mem_nil, List.mem_cons, not_false_eq_true, List.nodup_nil, go_sem, wn, q3, Nat.sub_zero]) <;> (try omega) <;> fail)); (focus ((try simp (disch := omega) only [inj, List.cons.injEq, and_self, List.nodup_cons, List.not_mem_nil, List.mem_cons, not_false_eq_true, List.nodup_nil, go_sem, wn, q3, Nat.sub_zero]) <;> (try omega) <;> (try decide) <;> fail))) | ((first | (with_reducible refine zu ?_ ?_ <;> intro hg) | with_reducible intro hg) <;> (first | (exfalso; simp at hg; done) | (have hg' := hg; (try simp only [hcs, beq_iff_eq, ge_iff_le, gt_iff_lt] at hg'); (try simp only [hg]))))) <;> (try simp (disch := omega) only [go_sem, wn, q3, Nat.sub_zero]) <;> (repeat' with_reducible refine And.intro ?_ ?_) <;> (try (with_reducible refine hK _ ?_; clear hK K)))
| omega)
  · rw [decT_a (dec_head r hc)]; (refine zF rfl ?_ ?_ ?_ ?_; (iterate 3 (focus ((try simp (disch := omega) only [go_sem, wn, tz]) <;> (try omega) <;> fail))); (try simp (disch := omega) only [go_sem, wn, tz, I, B, S, zj]))
  all_goals (have hk : d.k1.t = [84] := by assumption)
  · cases hb : d.k2.bad with
    | true => rw [decT_a (dec_two r hk hb)]; (refine zF rfl ?_ ?_ ?_ ?_; (iterate 3 (focus ((try simp (disch := omega) only [go_sem, wn, tz]) <;> (try omega) <;> fail))); (try simp (disch := omega) only [go_sem, wn, tz, I, B, S, zj]))
    | false =>
      obtain ⟨a1, a2, a3⟩ := dec_n r hk hb
      rw [decT_b a1 (.inl (by rw [hb] at hc; rw [← a2]; rcases hc with hc | hc; cases hc; omega))]; (refine zF rfl ?_ ?_ ?_ ?_; (iterate 3 (focus ((try simp (disch := omega) only [go_sem, wn, tz]) <;> (try omega) <;> fail))); (try simp (disch := omega) only [go_sem, wn, tz, I, B, S, zj]))
  all_goals (have hb : d.k2.bad = false ∧ (numN d.k2.t : Int) ≤ 1024 := by assumption)
  all_goals obtain ⟨a1, a2, a3⟩ := dec_n r hk hb.1
  · rw [decT_b a1 (.inr (dec_room r hk hb.1 hc))]; (refine zF rfl ?_ ?_ ?_ ?_; (iterate 3 (focus ((try simp (disch := omega) only [go_sem, wn, tz]) <;> (try omega) <;> fail))); (try simp (disch := omega) only [go_sem, wn, tz, I, B, S, zj]))
  all_goals (have h4 : d.k4.bad = false := by assumption)
  all_goals obtain ⟨x1, x2, x3⟩ := dec_body r hk hb.1 h4
  · omega
  all_goals (have a4 : ¬ noRoom s := fun h => by unfold noRoom at h; omega)
  all_goals (have ee1 : sumN (List.take (3 + numN d.k2.t) s) = sumN (List.take (sN s + 3) s) := by rw [a2, Nat.add_comm])
  all_goals (have ee2 : numN d.k4.t = numN (List.take 4 (List.drop (sN s + 3) s)) := by rw [x3])
  · rw [decT_c a1 a4 (by unfold noSum; omega)]; (refine zF rfl ?_ ?_ ?_ ?_; (iterate 3 (focus ((try simp (disch := omega) only [go_sem, wn, tz]) <;> (try omega) <;> fail))); (try simp (disch := omega) only [go_sem, wn, tz, I, B, S, zj]))
  all_goals (have a5 : ¬ noSum s := fun h => by unfold noSum at h; omega)
  · have hno : ¬ bodyOk (sB s) := fun h => by
      obtain ⟨u1, u2⟩ := dec_back r x2 h
      rcases hc with hc | hc
      · rw [u1] at hc; cases hc
      · exact hc u2
    rw [decT_d a1 a4 a5 hno]; (refine zF rfl ?_ ?_ ?_ ?_; (iterate 3 (focus ((try simp (disch := omega) only [go_sem, wn, tz]) <;> (try omega) <;> fail))); (try simp (disch := omega) only [go_sem, wn, tz, I, B, S, zj]))
  all_goals (have h9 : d.j9.bad = false ∧ d.j9.s = [] := by assumption)
  all_goals obtain ⟨y1, y2⟩ := dec_all r x2 h9.1 h9.2
  · have hg2 : goodT (bodyT (sB s)) ≠ 0 := y2 ▸ hc
    rw [decT_e a1 a4 a5 y1 hg2, ← y2]; (refine zF rfl ?_ ?_ ?_ ?_; (iterate 3 (focus ((try simp (disch := omega) only [go_sem, wn, tz, decV]) <;> (try omega) <;> fail))); (try simp (disch := omega) only [go_sem, wn, tz, decV, I, B, S, zj]))
  · have hg2 : goodT (bodyT (sB s)) = 0 := y2 ▸ hc
    rw [decT_f a1 a4 a5 y1 hg2, ← y2]; (refine zF rfl ?_ ?_ ?_ ?_; (iterate 3 (focus ((try simp (disch := omega) only [go_sem, wn, decV, Int.natCast_add, a2]) <;> (try omega) <;> fail))); (try simp (disch := omega) only [go_sem, wn, decV, Int.natCast_add, a2, I, B, S, zj]))
end Go.Proofs.YtainmipdnjcbkaaGreatDoor
