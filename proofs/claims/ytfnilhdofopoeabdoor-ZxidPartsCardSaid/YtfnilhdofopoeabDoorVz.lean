/- Plain facts: a number's text is read as the number. No condition. -/
import Derived.Test.YtfnilhdofopoeabDoorZr
import Derived.Lib.ItoaNum
namespace Go.Proofs.YtfnilhdofopoeabDoor
set_option linter.unusedVariables false
set_option linter.unusedSimpArgs false
open Go Go.RowKit
set_option maxRecDepth 100000
set_option linter.unusedSimpArgs false

/-- The text of a number of a transaction. -/
def ztext (z : Int) : List UInt8 := Lib.decDigits (z / 2147483648).toNat ++ (46 :: Lib.decDigits (z % 2147483648).toNat)
theorem dig_nat {k : Nat} (h : k < 10) : (UInt8.ofNat (48 + k)).toNat = 48 + k := by rw [UInt8.toNat_ofNat']; exact Nat.mod_eq_of_lt (by omega)
theorem dgt_small {u : Nat} (h : u < 10) : Lib.decDigits u = [UInt8.ofNat (48 + u)] := by rw [Lib.decDigits, dif_pos h]
theorem dgt_big {u : Nat} (h : ¬ u < 10) : Lib.decDigits u = Lib.decDigits (u / 10) ++ [UInt8.ofNat (48 + u % 10)] := by rw [Lib.decDigits, dif_neg h]
theorem dgt_ne (u : Nat) : Lib.decDigits u ≠ [] := by
  by_cases h : u < 10
  · rw [dgt_small h]; simp
  · rw [dgt_big h]; simp
theorem dgt_dig (u : Nat) : ∀ c, c ∈ Lib.decDigits u → isDig c = true := by
  induction u using Nat.strongRecOn with
  | _ u ih =>
    by_cases h : u < 10
    · rw [dgt_small h]
      intro c hc
      rw [List.mem_singleton.1 hc]; unfold isDig; rw [dig_nat h]; simp; omega
    · rw [dgt_big h]
      intro c hc
      rcases List.mem_append.1 hc with hc | hc
      · exact ih (u / 10) (by omega) c hc
      · rw [List.mem_singleton.1 hc]; unfold isDig; rw [dig_nat (Nat.mod_lt _ (by decide))]; simp; omega
theorem valS_snoc1 (a : List UInt8) (c : UInt8) : valS (a ++ [c]) = valS a * 10 + (c.toNat - 48) := by unfold valS; rw [List.foldl_append]; rfl
theorem dgt_val (u : Nat) : valS (Lib.decDigits u) = u := by
  induction u using Nat.strongRecOn with
  | _ u ih =>
    by_cases h : u < 10
    · rw [dgt_small h]; show 0 * 10 + ((UInt8.ofNat (48 + u)).toNat - 48) = u; rw [dig_nat h]; omega
    · rw [dgt_big h, valS_snoc1, ih (u / 10) (by omega), dig_nat (Nat.mod_lt _ (by decide))]; omega
theorem dgt_head (u : Nat) : u ≠ 0 → ((Lib.decDigits u).getD 0 0).toNat ≠ 48 := by
  induction u using Nat.strongRecOn with
  | _ u ih =>
    intro h0
    by_cases h : u < 10
    · rw [dgt_small h]; show (UInt8.ofNat (48 + u)).toNat ≠ 48; rw [dig_nat h]; omega
    · have := ih (u / 10) (by omega) (by omega)
      have hl : 0 < (Lib.decDigits (u / 10)).length := List.length_pos_iff.2 (dgt_ne _)
      rw [dgt_big h, List.getD_eq_getElem?_getD, List.getElem?_append_left hl, ← List.getD_eq_getElem?_getD]
      exact this
theorem dgt_len (u : Nat) : ∀ k, u < 10 ^ (k + 1) → (Lib.decDigits u).length ≤ k + 1 := by
  induction u using Nat.strongRecOn with
  | _ u ih =>
    intro k hk
    by_cases h : u < 10
    · rw [dgt_small h]; simp
    · rw [dgt_big h, List.length_append, List.length_singleton]
      rcases k with _ | k
      · simp at hk; omega
      · have := ih (u / 10) (by omega) k (by rw [Nat.pow_succ] at hk; omega)
        omega
theorem dgt_smallB {u : Nat} (h : u ≤ 2147483647) : smallB (Lib.decDigits u) = true := by
  have hl := dgt_len u 9 (by omega)
  unfold smallB
  simp only [Bool.and_eq_true, Bool.not_eq_true', decide_eq_false_iff_not, decide_eq_true_eq, Bool.and_eq_false_iff, List.all_eq_true]
  refine ⟨dgt_ne u, hl, ?_, dgt_dig u⟩
  by_cases h0 : u = 0
  · subst h0; left; rw [dgt_small (by decide)]; simp
  · right; have := dgt_head u h0; omega
theorem index_at (a b : List UInt8) (h : ∀ c, c ∈ a → c ≠ 46) : Lib.indexByte (a ++ 46 :: b) 46 = a.length := by
  induction a with
  | nil => simp [Lib.indexByte]
  | cons x a ih =>
    have hx : x ≠ 46 := h x (List.mem_cons_self ..)
    have := ih fun c hc => h c (List.mem_cons_of_mem _ hc)
    simp only [List.cons_append, Lib.indexByte]
    rw [this]
    simp [hx]
    try omega
theorem cut_text (a b : List UInt8) (h : ∀ c, c ∈ a → isDig c = true) : cutP (a ++ 46 :: b) 46 = ((a, b), true) := by
  have hi := index_at a b fun c hc e => by subst e; exact absurd (h _ hc) (by decide)
  unfold cutP
  rw [hi, if_pos (by omega), Int.toNat_natCast, List.take_left' rfl]
  congr 2
  rw [show a ++ 46 :: b = (a ++ [46]) ++ b from by simp, List.drop_left' (by simp)]
theorem read_text {z : Int} (h : goodZ z) : readZ (ztext z) = (z, 0) := by
  unfold goodZ at h
  have h1 : (z / 2147483648).toNat ≤ 2147483647 := by omega
  have h2 : (z % 2147483648).toNat ≤ 2147483647 := by omega
  unfold readZ ztext
  rw [cut_text _ _ (dgt_dig _)]
  simp only
  rw [if_pos ⟨trivial, dgt_smallB h1, dgt_smallB h2⟩, dgt_val, dgt_val]
  unfold mkZ
  rw [if_neg (by unfold badZ; omega)]
  congr 1
  omega
theorem ztext_len {z : Int} (h : goodZ z) : (ztext z).length ≤ 21 := by
  unfold goodZ at h
  have h1 := dgt_len (z / 2147483648).toNat 9 (by omega)
  have h2 := dgt_len (z % 2147483648).toNat 9 (by omega)
  unfold ztext
  rw [List.length_append, List.length_cons]; omega
end Go.Proofs.YtfnilhdofopoeabDoor
