/- The digits of a number, and the contract of the reference's function that writes them. No condition. -/
import Derived.Test.YtfnilhdofopoeabDoorLb
namespace Go.Proofs.YtfnilhdofopoeabDoor
set_option linter.unusedVariables false
set_option linter.unusedSimpArgs false
open Go Go.RowKit
set_option maxRecDepth 100000
set_option linter.unusedSimpArgs false

/-- Digits. -/
def dig (n : Nat) : UInt8 := UInt8.ofNat (48 + n % 10)
def digK (k n : Nat) : List UInt8 := (List.range k).map fun i => dig (n / 10 ^ (k - 1 - i))
def decB (n : Nat) : List UInt8 := if h : n < 10 then [dig n] else decB (n / 10) ++ [dig n]
theorem decB_lt {n : Nat} (h : n < 10) : decB n = [dig n] := by rw [decB, dif_pos h]
theorem decB_ge {n : Nat} (h : ¬ n < 10) : decB n = decB (n / 10) ++ [dig n] := by rw [decB, dif_neg h]
theorem digK_succ (k n : Nat) : digK (k + 1) n = digK k (n / 10) ++ [dig n] := by
  unfold digK
  rw [List.range_succ, List.map_append]
  congr 1
  · refine List.map_congr_left fun i hi => ?_
    have hi := List.mem_range.1 hi
    rw [Nat.div_div_eq_div_mul, ← Nat.pow_succ', show k + 1 - 1 - i = (k - 1 - i) + 1 from by omega]
  · simp
theorem digK_zero (k : Nat) : digK k 0 = List.replicate k 48 := by
  unfold digK
  refine List.ext_getElem (by simp) fun i h1 h2 => ?_
  simp [dig]
theorem decB_pos (n : Nat) : 0 < (decB n).length := by
  by_cases h : n < 10
  · rw [decB_lt h]; simp
  · rw [decB_ge h]; simp
theorem decB_pad : ∀ (k n : Nat), n < 10 ^ (k + 1) → (decB n).length ≤ k + 1 ∧ List.replicate (k + 1 - (decB n).length) 48 ++ decB n = digK (k + 1) n
  | 0, n, h => by
    rw [decB_lt (by simpa using h), digK_succ]
    exact ⟨by simp, by simp [digK]⟩
  | k + 1, n, h => by
    rw [digK_succ]
    by_cases h10 : n < 10
    · have e : n / 10 = 0 := by omega
      rw [decB_lt h10, e, digK_zero]
      exact ⟨by simp, by simp⟩
    · obtain ⟨h1, h2⟩ := decB_pad k (n / 10) (by rw [Nat.pow_succ] at h; omega)
      rw [decB_ge h10, ← h2]
      refine ⟨by simp; omega, ?_⟩
      rw [List.length_append, List.length_singleton, show k + 1 + 1 - ((decB (n / 10)).length + 1) = k + 1 - (decB (n / 10)).length from by omega, List.append_assoc]
theorem decB_len {n : Nat} (h : n < 10 ^ 20) : (decB n).length ≤ 20 := (decB_pad 19 n h).1
theorem okU8_dig (n : Nat) : okU8s [[.int .u8 (IntKind.u8.wrap (48 + ((n % 10 : Nat) : Int)))]] = True := by
  have e : IntKind.u8.wrap (48 + ((n % 10 : Nat) : Int)) = ((dig n).toNat : Int) := by
    have : (dig n).toNat = 48 + n % 10 := by unfold dig; rw [UInt8.toNat_ofNat']; omega
    rw [this]; simp [IntKind.wrap, IntKind.bits, IntKind.signed]; omega
  rw [e]; exact eq_true (okU8s_rows [dig n])
theorem dig_toNat (n : Nat) : (dig n).toNat = 48 + n % 10 := by unfold dig; rw [UInt8.toNat_ofNat']; omega
theorem wrap_dig (n : Nat) : IntKind.u8.wrap (48 + ((n % 10 : Nat) : Int)) = ((dig n).toNat : Int) := by
  rw [dig_toNat]; simp [IntKind.wrap, IntKind.bits, IntKind.signed]; omega
theorem tmod10 (n : Nat) : (n : Int).tmod 10 = ((n % 10 : Nat) : Int) := by rw [Int.tmod_eq_emod_of_nonneg (by omega)]; omega
theorem tdiv10 (n : Nat) : (n : Int).tdiv 10 = ((n / 10 : Nat) : Int) := by rw [Int.tdiv_eq_ediv_of_nonneg (by omega)]; omega
theorem okU8_one' (b : UInt8) : okU8s [[.int .u8 (b.toNat : Int)]] = True := eq_true (okU8s_rows [b])
theorem decimal_c (n : Nat) (h : n ≤ 9223372036854775807) : acall Tryd.prog [] 13 [I n] (ret (S (decB n))) := by
  induction n using Nat.strongRecOn with
  | _ n ih =>
    have hl := decB_len (n := n / 10) (by omega)
    by_cases h10 : n < 10
    · rw [decB_lt h10]
      refine zI Tryd.func13 rfl (by kernel_rfl) (by simp [Tryd.ntmps13]) ?_; simp only [Tryd.ntmps13, Tryd.results13, go_sem]
      (repeat' first
    | (with_reducible refine AR.f ?_)
    | refine blkA_x (by decide) ?_
    | (with_reducible refine AWP.cond rfl ?_ ?_ <;> intro hc <;> (try simp only [hcs, beq_iff_eq, ge_iff_le, gt_iff_lt] at hc))
    | ((first | ((first | (with_reducible first | refine zR ?_ | refine zQ (by decide +kernel) ?_ | refine zD (by decide +kernel) ?_ | refine zE (by decide +kernel) ?_ | refine zG (by decide +kernel) ?_)); intro K hK) | ((first | (with_reducible refine aunder_i ?_ ?_ <;> intro hg) | with_reducible intro hg) <;> (first | (exfalso; simp at hg; done) | (have hg' := hg; (try simp only [hcs, beq_iff_eq, ge_iff_le, gt_iff_lt] at hg'); (try simp only [hg]))))) <;> (try simp (disch := omega) only [go_sem, wrap_n, tmod10, tdiv10, wrap_dig, okU8_one', UInt8.ofNat_toNat]) <;> (repeat' with_reducible refine And.intro ?_ ?_) <;> (try (with_reducible refine hK _ ?_; clear hK K)))
    | omega)
      (refine zF rfl ?_ ?_ ?_ ?_; (iterate 3 (focus ((try simp (disch := omega) only [go_sem, wrap_n]) <;> (try omega) <;> fail))); (try simp (disch := omega) only [go_sem, wrap_n, I, B, S, zj]))
    · rw [decB_ge h10]
      refine zI Tryd.func13 rfl (by kernel_rfl) (by simp [Tryd.ntmps13]) ?_; simp only [Tryd.ntmps13, Tryd.results13, go_sem]
      (repeat' first
    | (with_reducible refine AR.f ?_)
    | refine blkA_x (by decide) ?_
    | (with_reducible refine AWP.cond rfl ?_ ?_ <;> intro hc <;> (try simp only [hcs, beq_iff_eq, ge_iff_le, gt_iff_lt] at hc))
    | ((first | ((first | (with_reducible first | refine zR ?_ | refine zQ (by decide +kernel) ?_ | refine zD (by decide +kernel) ?_ | refine zE (by decide +kernel) ?_ | refine zG (by decide +kernel) ?_)); intro K hK) | ((first | refine zA (ih (n / 10) (by omega) (by omega)) ?_ ?_ ?_ ?_ ?_); (focus exact rfl); (focus exact rfl); iterate 2 (focus ((try simp (disch := omega) only [go_sem, wrap_n, tmod10, tdiv10, wrap_dig, okU8_one', UInt8.ofNat_toNat]) <;> (try omega) <;> fail))) | ((first | refine zN (ih (n / 10) (by omega) (by omega)) rfl ?_ ?_); (focus ((try simp (disch := omega) only [go_sem, wrap_n, tmod10, tdiv10, wrap_dig, okU8_one', UInt8.ofNat_toNat]) <;> (try omega) <;> fail))) | ((first | refine zX (ih (n / 10) (by omega) (by omega)) rfl ?_ ?_ | refine zY (ih (n / 10) (by omega) (by omega)) ?_ ?_); (focus ((try simp (disch := omega) only [go_sem, wrap_n, tmod10, tdiv10, wrap_dig, okU8_one', UInt8.ofNat_toNat]) <;> (try omega) <;> fail))) | ((first | (with_reducible refine aunder_i ?_ ?_ <;> intro hg) | with_reducible intro hg) <;> (first | (exfalso; simp at hg; done) | (have hg' := hg; (try simp only [hcs, beq_iff_eq, ge_iff_le, gt_iff_lt] at hg'); (try simp only [hg]))))) <;> (try simp (disch := omega) only [go_sem, wrap_n, tmod10, tdiv10, wrap_dig, okU8_one', UInt8.ofNat_toNat]) <;> (repeat' with_reducible refine And.intro ?_ ?_) <;> (try (with_reducible refine hK _ ?_; clear hK K)))
    | omega)
      (refine zF rfl ?_ ?_ ?_ ?_; (iterate 3 (focus ((try simp (disch := omega) only [go_sem, wrap_n]) <;> (try omega) <;> fail))); (try simp (disch := omega) only [go_sem, wrap_n, I, B, S, zj]))
end Go.Proofs.YtfnilhdofopoeabDoor
