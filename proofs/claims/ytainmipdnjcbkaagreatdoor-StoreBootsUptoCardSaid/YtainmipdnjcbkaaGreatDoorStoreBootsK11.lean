/- A part of what StoreBoots leans on: texts of this claim, one behind the other. No condition. -/
import Derived.Lib.IndexLaws
import Derived.Lib.ItoaNum
import Derived.Shelf.Strconv.Itoa3
import Derived.Test.YtainmipdnjcbkaaGreatDoorProg
import Derived.KernelRfl
import Derived.Test.YtainmipdnjcbkaaGreatDoorStoreBootsK10
namespace Go.Proofs.YtainmipdnjcbkaaGreatDoor
set_option linter.unusedVariables false
set_option linter.unusedSimpArgs false
open Go Go.RowKit
set_option maxRecDepth 100000
set_option linter.unusedSimpArgs false
def isDig (c : UInt8) : Bool := decide (48 ≤ c.toNat ∧ c.toNat ≤ 57)
def valS (t : List UInt8) : Nat := t.foldl (fun n c => n * 10 + (c.toNat - 48)) 0
theorem valS_snoc (t : List UInt8) (k : Nat) (h : k < t.length) : valS (t.take (k + 1)) = valS (t.take k) * 10 + ((t.getD k 0).toNat - 48) := by
  unfold valS
  have : t.take (k + 1) = t.take k ++ [t.getD k 0] := take_snoc t k h
  rw [this, List.foldl_append]; rfl
theorem valS_lt (t : List UInt8) : t.all isDig = true → valS t < 10 ^ t.length := by
  have : ∀ (t : List UInt8) (n : Nat), t.all isDig = true → t.foldl (fun n c => n * 10 + (c.toNat - 48)) n < (n + 1) * 10 ^ t.length := by
    intro t
    induction t with
    | nil => intro n _; simp
    | cons c t ih =>
      intro n h
      simp only [List.all_cons, Bool.and_eq_true] at h
      have hc := h.1
      unfold isDig at hc
      rw [decide_eq_true_eq] at hc
      have := ih (n * 10 + (c.toNat - 48)) h.2
      simp only [List.foldl_cons, List.length_cons, Nat.pow_succ]
      refine Nat.lt_of_lt_of_le this ?_
      have e : (n + 1) * (10 ^ t.length * 10) = ((n + 1) * 10) * 10 ^ t.length := by rw [Nat.mul_comm (10 ^ t.length) 10, Nat.mul_assoc]
      rw [e]
      exact Nat.mul_le_mul_right _ (by omega)
  intro h
  have := this t 0 h
  simpa [valS] using this
def smallB (t : List UInt8) : Bool := !decide (t = []) && (decide (t.length ≤ 10) && (!(decide (1 < t.length) && decide (((t.getD 0 0).toNat : Int) = 48)) && t.all isDig))
def smallP (t : List UInt8) : Int × Bool := if smallB t = true then ((valS t : Nat), true) else (0, false)
def cutP (s : List UInt8) (c : UInt8) : (List UInt8 × List UInt8) × Bool := if 0 ≤ Lib.indexByte s c then ((s.take (Lib.indexByte s c).toNat, s.drop ((Lib.indexByte s c).toNat + 1)), true) else ((s, []), false)
theorem index_lt (s : List UInt8) (c : UInt8) : Lib.indexByte s c < s.length := by
  induction s with
  | nil => simp [Lib.indexByte]
  | cons b s ih =>
    unfold Lib.indexByte
    split
    · simp
    · split <;> simp <;> omega
theorem take_drop_full {α : Type} (l : List α) (k : Nat) : List.take (l.length - k) (List.drop k l) = List.drop k l := List.take_of_length_le (by simp)
theorem toNat_ad1 (n : Nat) : ((n : Int) + 1).toNat = n + 1 := by omega
theorem cutL_c (s : List UInt8) (c : UInt8) (hs : okS s) : acall Tryz.prog [] 194 [S s, S [c]] (ret (.tup [S (cutP s c).1.1, S (cutP s c).1.2, B (cutP s c).2])) := by
  unfold okS at hs
  have hi := index_lt s c
  by_cases h : 0 ≤ Lib.indexByte s c
  · obtain ⟨n, hn⟩ := Int.eq_ofNat_of_zero_le h
    have e : cutP s c = ((s.take n, s.drop (n + 1)), true) := by unfold cutP; rw [if_pos h, hn]; rfl
    rw [hn] at hi
    rw [e]
    refine zI Tryz.func194 rfl (by kernel_rfl) (by simp [Tryz.ntmps194]) ?_; simp only [Tryz.ntmps194, Tryz.results194, go_sem]
    (repeat' first
  | (with_reducible refine AR.f ?_)
  | refine zb (by decide) ?_
  | (with_reducible refine AWP.cond rfl ?_ ?_ <;> intro hc <;> (try simp only [hcs, beq_iff_eq, ge_iff_le, gt_iff_lt] at hc))
  | ((first | ((first | (with_reducible first | refine zR ?_ | refine zQ (by decide +kernel) ?_ | refine zD (by decide +kernel) ?_ | refine zE (by decide +kernel) ?_ | refine zG (by decide +kernel) ?_)); intro K hK) | ((first | refine zA ((indexL_c s c).re (by rw [hn])) ?_ ?_ ?_ ?_ ?_); (focus exact rfl); (focus exact rfl); iterate 2 (focus ((try simp (disch := omega) only [go_sem, wn, toNat_ad1, take_drop_full, Nat.sub_zero]) <;> (try omega) <;> fail))) | ((first | refine zX ((indexL_c s c).re (by rw [hn])) rfl ?_ ?_); (focus ((try simp (disch := omega) only [go_sem, wn, toNat_ad1, take_drop_full, Nat.sub_zero]) <;> (try omega) <;> fail))) | ((first | (with_reducible refine zu ?_ ?_ <;> intro hg) | with_reducible intro hg) <;> (first | (exfalso; simp at hg; done) | (have hg' := hg; (try simp only [hcs, beq_iff_eq, ge_iff_le, gt_iff_lt] at hg'); (try simp only [hg]))))) <;> (try simp (disch := omega) only [go_sem, wn, toNat_ad1, take_drop_full, Nat.sub_zero]) <;> (repeat' with_reducible refine And.intro ?_ ?_) <;> (try (with_reducible refine hK _ ?_; clear hK K)))
  | omega)
    (refine zF rfl ?_ ?_ ?_ ?_; (iterate 3 (focus ((try simp (disch := omega) only [go_sem, wn]) <;> (try omega) <;> fail))); (try simp (disch := omega) only [go_sem, wn, I, B, S, zj]))
  · have e : cutP s c = ((s, []), false) := by unfold cutP; rw [if_neg h]
    rw [e]
    have hi2 := Lib.indexByte_ge s c
    have hn : Lib.indexByte s c = -1 := by omega
    refine zI Tryz.func194 rfl (by kernel_rfl) (by simp [Tryz.ntmps194]) ?_; simp only [Tryz.ntmps194, Tryz.results194, go_sem]
    (repeat' first
  | (with_reducible refine AR.f ?_)
  | refine zb (by decide) ?_
  | (with_reducible refine AWP.cond rfl ?_ ?_ <;> intro hc <;> (try simp only [hcs, beq_iff_eq, ge_iff_le, gt_iff_lt] at hc))
  | ((first | ((first | (with_reducible first | refine zR ?_ | refine zQ (by decide +kernel) ?_ | refine zD (by decide +kernel) ?_ | refine zE (by decide +kernel) ?_ | refine zG (by decide +kernel) ?_)); intro K hK) | ((first | refine zA ((indexL_c s c).re (by rw [hn])) ?_ ?_ ?_ ?_ ?_); (focus exact rfl); (focus exact rfl); iterate 2 (focus ((try simp (disch := omega) only [go_sem, wn]) <;> (try omega) <;> fail))) | ((first | refine zX ((indexL_c s c).re (by rw [hn])) rfl ?_ ?_); (focus ((try simp (disch := omega) only [go_sem, wn]) <;> (try omega) <;> fail))) | ((first | (with_reducible refine zu ?_ ?_ <;> intro hg) | with_reducible intro hg) <;> (first | (exfalso; simp at hg; done) | (have hg' := hg; (try simp only [hcs, beq_iff_eq, ge_iff_le, gt_iff_lt] at hg'); (try simp only [hg]))))) <;> (try simp (disch := omega) only [go_sem, wn]) <;> (repeat' with_reducible refine And.intro ?_ ?_) <;> (try (with_reducible refine hK _ ?_; clear hK K)))
  | omega)
    (refine zF rfl ?_ ?_ ?_ ?_; (iterate 3 (focus ((try simp (disch := omega) only [go_sem, wn]) <;> (try omega) <;> fail))); (try simp (disch := omega) only [go_sem, wn, I, B, S, zj]))
theorem zcut_c (s : List UInt8) (c : UInt8) (hs : okS s) : acall Tryz.prog [] 136 [S s, S [c]] (ret (.tup [S (cutP s c).1.1, S (cutP s c).1.2, B (cutP s c).2])) := by
  refine zI Tryz.func136 rfl (by kernel_rfl) (by simp [Tryz.ntmps136]) ?_; simp only [Tryz.ntmps136, Tryz.results136, go_sem]
  (repeat' first
| (with_reducible refine AR.f ?_)
| refine zb (by decide) ?_
| (with_reducible refine AWP.cond rfl ?_ ?_ <;> intro hc <;> (try simp only [hcs, beq_iff_eq, ge_iff_le, gt_iff_lt] at hc))
| ((first | ((first | (with_reducible first | refine zR ?_ | refine zQ (by decide +kernel) ?_ | refine zD (by decide +kernel) ?_ | refine zE (by decide +kernel) ?_ | refine zG (by decide +kernel) ?_)); intro K hK) | ((first | refine zA (cutL_c s c hs) ?_ ?_ ?_ ?_ ?_); (focus exact rfl); (focus exact rfl); iterate 2 (focus ((try simp (disch := omega) only [go_sem, wn]) <;> (try omega) <;> fail))) | ((first | refine zX (cutL_c s c hs) rfl ?_ ?_); (focus ((try simp (disch := omega) only [go_sem, wn]) <;> (try omega) <;> fail))) | ((first | (with_reducible refine zu ?_ ?_ <;> intro hg) | with_reducible intro hg) <;> (first | (exfalso; simp at hg; done) | (have hg' := hg; (try simp only [hcs, beq_iff_eq, ge_iff_le, gt_iff_lt] at hg'); (try simp only [hg]))))) <;> (try simp (disch := omega) only [go_sem, wn]) <;> (repeat' with_reducible refine And.intro ?_ ?_) <;> (try (with_reducible refine hK _ ?_; clear hK K)))
| omega)
  (refine zF rfl ?_ ?_ ?_ ?_; (iterate 3 (focus ((try simp (disch := omega) only [go_sem, wn]) <;> (try omega) <;> fail))); (try simp (disch := omega) only [go_sem, wn, I, B, S, zj]))
theorem wrap_u8c (c : UInt8) (h : 48 ≤ c.toNat) : IntKind.u8.wrap ((c.toNat : Int) - 48) = ((c.toNat - 48 : Nat) : Int) := by
  have := c.toNat_lt
  simp [IntKind.wrap, IntKind.bits, IntKind.signed]; omega
theorem valS_le {t : List UInt8} (h : t.all isDig = true) (hl : t.length ≤ 10) : valS t ≤ 9999999999 := by
  have := valS_lt t h
  have h2 : 10 ^ t.length ≤ 10 ^ 10 := Nat.pow_le_pow_right (by decide) hl
  omega
theorem small_c (t : List UInt8) (ht : okS t) : acall Tryz.prog [] 137 [S t] (ret (.tup [I (smallP t).1, B (smallP t).2])) := by
  unfold okS at ht
  refine zI Tryz.func137 rfl (by kernel_rfl) (by simp [Tryz.ntmps137]) ?_; simp only [Tryz.ntmps137, Tryz.results137, go_sem]
  (repeat' first
| (with_reducible refine AR.f ?_)
| refine zb (by decide) ?_
| (with_reducible refine AWP.cond rfl ?_ ?_ <;> intro hc <;> (try simp only [hcs, beq_iff_eq, ge_iff_le, gt_iff_lt] at hc))
| ((first | ((first | (with_reducible first | refine zR ?_ | refine zQ (by decide +kernel) ?_ | refine zD (by decide +kernel) ?_ | refine zE (by decide +kernel) ?_ | refine zG (by decide +kernel) ?_)); intro K hK) | ((first | (with_reducible refine zu ?_ ?_ <;> intro hg) | with_reducible intro hg) <;> (first | (exfalso; simp at hg; done) | (have hg' := hg; (try simp only [hcs, beq_iff_eq, ge_iff_le, gt_iff_lt] at hg'); (try simp only [hg]))))) <;> (try simp (disch := omega) only [go_sem, wn]) <;> (repeat' with_reducible refine And.intro ?_ ?_) <;> (try (with_reducible refine hK _ ?_; clear hK K)))
| omega)
  · have e : smallP t = (0, false) := by
      unfold smallP
      rw [if_neg]
      unfold smallB
      rcases hc with (c | c) | c
      · simp [c]
      · rw [decide_eq_false (p := t.length ≤ 10) (by omega)]; simp
      · rw [decide_eq_true (p := 1 < t.length) (by omega), decide_eq_true c.2]; simp
    rw [e]
    (refine zF rfl ?_ ?_ ?_ ?_; (iterate 3 (focus ((try simp (disch := omega) only [go_sem, wn]) <;> (try omega) <;> fail))); (try simp (disch := omega) only [go_sem, wn, I, B, S, zj]))
  have hsm : smallB t = t.all isDig := by
    unfold smallB
    rw [decide_eq_false hc.1.1, decide_eq_true (p := t.length ≤ 10) (by omega)]
    rcases hc.2 with c | c
    · rw [decide_eq_false (p := 1 < t.length) (by omega)]; simp
    · rw [decide_eq_false c]; simp
  have hl10 : t.length ≤ 10 := by omega
  refine AWP.loopB (ι := Nat) (fun k => k ≤ t.length ∧ (t.take k).all isDig = true) (fun k => t.length - k) [25, 26] (fun k => [(27, I k), (4, I (valS (t.take k) : Nat))]) (fun k => [.bytes t]) 0 ?_ ?_ ?_
  · exact ⟨by omega, rfl⟩
  · simp only [go_sem]; (refine SImp.same ?_; simp (disch := omega) only [go_sem, wn, Int.natCast_add, valS, List.foldl_nil])
  intro k ⟨hk, hk2⟩
  have hv := valS_le hk2 (by simp; omega)
  simp only [go_sem]
  (repeat' first
| (with_reducible refine AR.f ?_)
| refine zb (by decide) ?_
| (with_reducible refine AWP.cond rfl ?_ ?_ <;> intro hc <;> (try simp only [hcs, beq_iff_eq, ge_iff_le, gt_iff_lt] at hc))
| ((first | ((first | (with_reducible first | refine zR ?_ | refine zQ (by decide +kernel) ?_ | refine zD (by decide +kernel) ?_ | refine zE (by decide +kernel) ?_ | refine zG (by decide +kernel) ?_)); intro K hK) | ((first | (with_reducible refine zu ?_ ?_ <;> intro hg) | with_reducible intro hg) <;> (first | (exfalso; simp at hg; done) | (have hg' := hg; (try simp only [hcs, beq_iff_eq, ge_iff_le, gt_iff_lt] at hg'); (try simp only [hg]))))) <;> (try simp (disch := omega) only [go_sem, wn, u8g]) <;> (repeat' with_reducible refine And.intro ?_ ?_) <;> (try (with_reducible refine hK _ ?_; clear hK K)))
| omega)
  · have e : smallP t = (0, false) := by
      unfold smallP
      rw [if_neg]
      rw [hsm, all_not (d := 0) (by assumption) (by unfold isDig; rw [decide_eq_false_iff_not]; omega)]
      simp
    rw [e]
    (refine zF rfl ?_ ?_ ?_ ?_; (iterate 3 (focus ((try simp (disch := omega) only [go_sem, wn]) <;> (try omega) <;> fail))); (try simp (disch := omega) only [go_sem, wn, I, B, S, zj]))
  · have hcc : 48 ≤ (t.getD k 0).toNat := by omega
    refine ⟨k + 1, ⟨by omega, ?_⟩, by omega, ?_⟩
    · have : t.take (k + 1) = t.take k ++ [t.getD k 0] := take_snoc t k (by assumption)
      rw [this, List.all_append, hk2]
      simp only [List.all_cons, List.all_nil, Bool.and_true, Bool.true_and]
      unfold isDig; rw [decide_eq_true_eq]; omega
    rw [valS_snoc _ _ (by assumption)]
    (refine SImp.same ?_; simp (disch := omega) only [go_sem, wn, Int.natCast_add, wrap_u8c _ hcc, Int.natCast_mul])
  · have e0 : k = t.length := by omega
    subst e0
    rw [List.take_length] at *
    have e : smallP t = (((valS t : Nat) : Int), true) := by unfold smallP; rw [if_pos (by rw [hsm]; exact hk2)]
    rw [e]
    (refine zF rfl ?_ ?_ ?_ ?_; (iterate 3 (focus ((try simp (disch := omega) only [go_sem, wn]) <;> (try omega) <;> fail))); (try simp (disch := omega) only [go_sem, wn, I, B, S, zj]))
theorem cutP_ok (s : List UInt8) (c : UInt8) (h : okS s) : okS (cutP s c).1.1 ∧ okS (cutP s c).1.2 := by
  unfold okS at *
  unfold cutP
  split
  · simp only [List.length_take, List.length_drop]; omega
  · simp only [List.length_nil]; omega
def readZ (s : List UInt8) : Int × Int := if (cutP s 46).2 = true ∧ smallB (cutP s 46).1.1 = true ∧ smallB (cutP s 46).1.2 = true then mkZ (valS (cutP s 46).1.1) (valS (cutP s 46).1.2) else (0, 2)
theorem smallP_2 (t : List UInt8) : (smallP t).2 = smallB t := by unfold smallP; cases h : smallB t <;> simp
theorem smallP_1 {t : List UInt8} (h : smallB t = true) : (smallP t).1 = valS t := by unfold smallP; rw [if_pos h]
theorem read_z_c (s : List UInt8) (hs : okS s) : acall Tryz.prog [] 76 [S s] (ret (.tup [I (readZ s).1, I (readZ s).2])) := by
  refine zI Tryz.func76 rfl (by kernel_rfl) (by simp [Tryz.ntmps76]) ?_; simp only [Tryz.ntmps76, Tryz.results76, go_sem]
  (repeat' first
| (with_reducible refine AR.f ?_)
| refine zb (by decide) ?_
| (with_reducible refine AWP.cond rfl ?_ ?_ <;> intro hc <;> (try simp only [hcs, beq_iff_eq, ge_iff_le, gt_iff_lt] at hc))
| ((first | ((first | (with_reducible first | refine zR ?_ | refine zQ (by decide +kernel) ?_ | refine zD (by decide +kernel) ?_ | refine zE (by decide +kernel) ?_ | refine zG (by decide +kernel) ?_)); intro K hK) | ((first | refine zA (zcut_c s 46 hs) ?_ ?_ ?_ ?_ ?_ | refine zA (small_c (cutP s 46).1.1 (cutP_ok s 46 hs).1) ?_ ?_ ?_ ?_ ?_ | refine zA (small_c (cutP s 46).1.2 (cutP_ok s 46 hs).2) ?_ ?_ ?_ ?_ ?_); (focus exact rfl); (focus exact rfl); iterate 2 (focus ((try simp (disch := omega) only [go_sem, wn, two]) <;> (try omega) <;> fail))) | ((first | refine acallH_sc (make_c _ _) rfl rfl ?_ ?_ ?_ | refine acallQ_sc (make_c _ _) rfl rfl ?_ ?_ ?_); iterate 2 (focus ((try simp (disch := omega) only [go_sem, wn, two]) <;> (try omega) <;> fail))) | ((first | refine zX (zcut_c s 46 hs) rfl ?_ ?_ | refine zX (make_c _ _) rfl ?_ ?_); (focus ((try simp (disch := omega) only [go_sem, wn, two]) <;> (try omega) <;> fail))) | ((first | refine zX (small_c (cutP s 46).1.1 (cutP_ok s 46 hs).1) rfl ?_ ?_); (focus ((try simp (disch := omega) only [go_sem, wn, two]) <;> (try omega) <;> fail))) | ((first | refine zX (small_c (cutP s 46).1.2 (cutP_ok s 46 hs).2) rfl ?_ ?_); (focus ((try simp (disch := omega) only [go_sem, wn, two]) <;> (try omega) <;> fail))) | ((first | (with_reducible refine zu ?_ ?_ <;> intro hg) | with_reducible intro hg) <;> (first | (exfalso; simp at hg; done) | (have hg' := hg; (try simp only [hcs, beq_iff_eq, ge_iff_le, gt_iff_lt] at hg'); (try simp only [hg]))))) <;> (try simp (disch := omega) only [go_sem, wn, two]) <;> (repeat' with_reducible refine And.intro ?_ ?_) <;> (try (with_reducible refine hK _ ?_; clear hK K)))
| omega)
  · rw [smallP_2, smallP_2] at hc
    have e : readZ s = (0, 2) := by
      unfold readZ; rw [if_neg]
      rintro ⟨h1, h2, h3⟩
      rw [h1, h2, h3] at hc; simp at hc
    rw [e]; (refine zF rfl ?_ ?_ ?_ ?_; (iterate 3 (focus ((try simp (disch := omega) only [go_sem, wn]) <;> (try omega) <;> fail))); (try simp (disch := omega) only [go_sem, wn, I, B, S, zj]))
  · rw [smallP_2, smallP_2] at hc
    have e : readZ s = mkZ (valS (cutP s 46).1.1) (valS (cutP s 46).1.2) := by
      unfold readZ; rw [if_pos ⟨hc.1.1, hc.1.2, hc.2⟩]
    rw [e, smallP_1 hc.1.2, smallP_1 hc.2]; (refine zF rfl ?_ ?_ ?_ ?_; (iterate 3 (focus ((try simp (disch := omega) only [go_sem, wn]) <;> (try omega) <;> fail))); (try simp (disch := omega) only [go_sem, wn, I, B, S, zj]))
/-! The plain law. -/
theorem dg_lt {c : UInt8} (h : isDig c = true) : c.toNat - 48 < 10 ∧ 48 ≤ c.toNat := by
  unfold isDig at h; rw [decide_eq_true_eq] at h; omega
theorem dig_back {c : UInt8} (h : isDig c = true) (m : Nat) : dig (m * 10 + (c.toNat - 48)) = c := by
  have := dg_lt h
  unfold dig
  rw [show 48 + (m * 10 + (c.toNat - 48)) % 10 = c.toNat from by omega]
  simp
theorem valS_app (u : List UInt8) (c : UInt8) : valS (u ++ [c]) = valS u * 10 + (c.toNat - 48) := by
  unfold valS; rw [List.foldl_append]; rfl
theorem val_mono (t : List UInt8) : ∀ n, n ≤ t.foldl (fun n c => n * 10 + (c.toNat - 48)) n := by
  induction t with
  | nil => intro n; exact Nat.le_refl _
  | cons c t ih => intro n; exact Nat.le_trans (by omega) (ih (n * 10 + (c.toNat - 48)))
theorem valS_pos {t : List UInt8} (h : t.all isDig = true) (h0 : t ≠ []) (h1 : (t.getD 0 0).toNat ≠ 48) : 0 < valS t := by
  cases t with
  | nil => exact absurd rfl h0
  | cons c t =>
    simp only [List.all_cons, Bool.and_eq_true] at h
    have := dg_lt h.1
    have h1' : c.toNat ≠ 48 := h1
    exact Nat.lt_of_lt_of_le (by show 0 < 0 * 10 + (c.toNat - 48); omega) (val_mono t _)
theorem decB_val : ∀ (k : Nat) (t : List UInt8), t.length = k → t.all isDig = true → t ≠ [] → (1 < t.length → (t.getD 0 0).toNat ≠ 48) → decB (valS t) = t := by
  intro k
  induction k using Nat.strongRecOn with
  | _ k ih =>
    intro t hl hd h0 hz
    rcases List.eq_nil_or_concat t with e | ⟨u, c, e⟩
    · exact absurd e h0
    rw [List.concat_eq_append] at e
    subst e
    have hd2 := hd
    rw [List.all_append, Bool.and_eq_true] at hd2
    have hc : isDig c = true := by simpa using hd2.2
    have hc2 := dg_lt hc
    rw [valS_app]
    by_cases hu : u = []
    · subst hu
      have e0 : valS ([] : List UInt8) = 0 := rfl
      rw [e0, decB_lt (by omega), dig_back hc]; rfl
    · obtain ⟨b, u', rfl⟩ : ∃ b u', u = b :: u' := by cases u with | nil => exact absurd rfl hu | cons b u' => exact ⟨b, u', rfl⟩
      have hz2 : b.toNat ≠ 48 := hz (by simp)
      have hp := valS_pos hd2.1 hu hz2
      rw [decB_ge (by omega), dig_back hc, show (valS (b :: u') * 10 + (c.toNat - 48)) / 10 = valS (b :: u') from by omega]
      rw [ih (b :: u').length (by rw [← hl]; simp) (b :: u') rfl hd2.1 hu (fun _ => hz2)]
theorem decB_head (n : Nat) (h : 0 < n) : ((decB n).getD 0 0).toNat ≠ 48 := by
  induction n using Nat.strongRecOn with
  | _ n ih =>
    by_cases h10 : n < 10
    · rw [decB_lt h10]
      show (dig n).toNat ≠ 48
      rw [dig_toNat]; omega
    · rw [decB_ge h10]
      have := ih (n / 10) (by omega) (by omega)
      have hp := decB_pos (n / 10)
      rw [List.getD_eq_getElem?_getD, List.getElem?_append_left hp, ← List.getD_eq_getElem?_getD]
      exact this
theorem decB_iff {t : List UInt8} (hd : t.all isDig = true) (hl : t.length ≤ 10) : decB (valS t) = t ↔ smallB t = true := by
  have e : smallB t = true ↔ (t ≠ [] ∧ (1 < t.length → (t.getD 0 0).toNat ≠ 48)) := by
    unfold smallB
    rw [decide_eq_true hl, hd]
    simp only [Bool.true_and, Bool.and_true, Bool.and_eq_true, Bool.not_eq_true', decide_eq_false_iff_not, Bool.and_eq_false_iff]
    refine and_congr_right fun _ => ?_
    rw [← Decidable.imp_iff_not_or]
    exact imp_congr Iff.rfl (not_congr (by omega))
  rw [e]
  constructor
  · intro h
    refine ⟨fun h0 => ?_, fun h1 => ?_⟩
    · have := decB_pos (valS t)
      rw [h, h0] at this; simp at this
    · rw [← h] at h1
      have hv : ¬ valS t < 10 := by
        intro hv
        rw [decB_lt hv] at h1; simp at h1
      have := decB_head (valS t) (by omega)
      rwa [h] at this
  · rintro ⟨h0, h1⟩
    exact decB_val _ t rfl hd h0 h1
theorem cut_at {s : List UInt8} {n : Nat} (h : Lib.indexByte s 46 = n) : cutP s 46 = ((s.take n, s.drop (n + 1)), true) := by
  unfold cutP; rw [h, if_pos (by omega)]; rfl
theorem cut_no {s : List UInt8} (h : Lib.indexByte s 46 < 0) : readZ s = (0, 2) := by
  have e : cutP s 46 = ((s, []), false) := by unfold cutP; rw [if_neg (by omega)]
  unfold readZ; rw [e]; simp
theorem smallB_bad {t : List UInt8} {k : Nat} (hk : k < t.length) (h : isDig (t.getD k 0) = false) : smallB t = false := by
  unfold smallB; rw [all_not hk h]; simp
theorem readZ_bad {s : List UInt8} {k : Nat} (hk : k < s.length) (h : isDig (s.getD k 0) = false) (hx : Lib.indexByte s 46 ≠ k) : readZ s = (0, 2) := by
  by_cases h0 : Lib.indexByte s 46 < 0
  · exact cut_no h0
  obtain ⟨n, hn⟩ := Int.eq_ofNat_of_zero_le (Int.not_lt.1 h0)
  unfold readZ
  rw [cut_at hn, if_neg]
  rintro ⟨_, h1, h2⟩
  rw [hn] at hx
  by_cases hkn : k < n
  · have := smallB_bad (t := s.take n) (k := k) (by simp; omega) (by rw [List.getD_eq_getElem?_getD, List.getElem?_take_of_lt hkn, ← List.getD_eq_getElem?_getD]; exact h)
    rw [this] at h1; cases h1
  · have := smallB_bad (t := s.drop (n + 1)) (k := k - (n + 1)) (by simp; omega) (by rw [List.getD_eq_getElem?_getD, List.getElem?_drop, show n + 1 + (k - (n + 1)) = k from by omega, ← List.getD_eq_getElem?_getD]; exact h)
    rw [this] at h2; cases h2
theorem getD_some {s : List UInt8} {k : Nat} {c : UInt8} (h : s[k]? = some c) : k < s.length ∧ s.getD k 0 = c := by
  rw [List.getD_eq_getElem?_getD, h]
  exact ⟨(List.getElem?_eq_some_iff.1 h).1, rfl⟩
theorem some_getD {s : List UInt8} {k : Nat} (h : k < s.length) : s[k]? = some (s.getD k 0) := by
  rw [List.getD_eq_getElem?_getD, List.getElem?_eq_getElem h]; rfl
theorem idx_dig {s : List UInt8} (h : ∀ j, j < s.length → isDig (s.getD j 0) = true) : Lib.indexByte s 46 < 0 := by
  refine Int.not_le.1 fun h0 => ?_
  obtain ⟨n, hn⟩ := Int.eq_ofNat_of_zero_le h0
  have h1 := getD_some (Lib.indexByte_some hn).1
  have := h n h1.1
  rw [h1.2] at this; cases this
theorem idx_at {s : List UInt8} {d : Nat} (hd : d < s.length) (h1 : s.getD d 0 = 46) (h : ∀ j, j < d → isDig (s.getD j 0) = true) : Lib.indexByte s 46 = d := by
  have hge := Lib.indexByte_ge s 46
  by_cases h0 : Lib.indexByte s 46 = -1
  · exact absurd (by rw [some_getD hd, h1]) (Lib.indexByte_none h0 d)
  obtain ⟨n, hn⟩ := Int.eq_ofNat_of_zero_le (a := Lib.indexByte s 46) (by omega)
  have h2 := Lib.indexByte_some hn
  have h3 := getD_some h2.1
  by_cases hlt : n < d
  · have := h n hlt
    rw [h3.2] at this; cases this
  · by_cases e : n = d
    · rw [hn, e]
    · exact absurd (by rw [some_getD hd, h1]) (h2.2 d (by omega))
def dotAt (s : List UInt8) (k : Nat) (d : Int) : Prop := (d = -1 ∧ ∀ j, j < k → isDig (s.getD j 0) = true) ∨ ∃ n : Nat, d = n ∧ n < k ∧ s.getD n 0 = 46 ∧ ∀ j, j < k → j ≠ n → isDig (s.getD j 0) = true
theorem all_of {t : List UInt8} (h : ∀ j, j < t.length → isDig (t.getD j 0) = true) : t.all isDig = true := by
  rw [List.all_eq_true]
  intro x hx
  obtain ⟨j, hj, e⟩ := List.getElem_of_mem hx
  have := h j hj
  rw [List.getD_eq_getElem?_getD, List.getElem?_eq_getElem hj] at this
  rw [← e]; exact this
theorem dot_end {s : List UInt8} {d : Int} (h : dotAt s s.length d) : (d < 0 ∧ readZ s = (0, 2)) ∨ ∃ n : Nat, d = n ∧ n < s.length ∧ cutP s 46 = ((s.take n, s.drop (n + 1)), true) ∧ (s.take n).all isDig = true ∧ (s.drop (n + 1)).all isDig = true := by
  rcases h with ⟨h1, h2⟩ | ⟨n, h1, h2, h3, h4⟩
  · exact .inl ⟨by omega, cut_no (idx_dig h2)⟩
  · refine .inr ⟨n, h1, h2, cut_at (idx_at h2 h3 fun j hj => h4 j (by omega) (by omega)), ?_, ?_⟩
    · refine all_of fun j hj => ?_
      simp only [List.length_take] at hj
      rw [List.getD_eq_getElem?_getD, List.getElem?_take_of_lt (by omega), ← List.getD_eq_getElem?_getD]
      exact h4 j (by omega) (by omega)
    · refine all_of fun j hj => ?_
      simp only [List.length_drop] at hj
      rw [List.getD_eq_getElem?_getD, List.getElem?_drop, ← List.getD_eq_getElem?_getD]
      exact h4 _ (by omega) (by omega)
theorem u8_ne {c : UInt8} {n : Nat} (h : (c.toNat : Int) = n) (hn : n < 256) : c = UInt8.ofNat n := by
  apply UInt8.toNat.inj
  rw [UInt8.toNat_ofNat']; omega
theorem val_nil : ((valS [] : Nat) : Int) = 0 := rfl
theorem step_wr {c : UInt8} (h : isDig c = true) {v : Nat} (hv : v ≤ 9999999999) : IntKind.i64.wrap (IntKind.i64.wrap (10 * (v : Int) + IntKind.i64.wrap (c.toNat : Int)) - 48) = ((v * 10 + (c.toNat - 48) : Nat) : Int) := by
  have := dg_lt h
  have := c.toNat_lt
  rw [wn (c.toNat : Int) (by omega) (by omega), wn (10 * (v : Int) + _) (by omega) (by omega), wn _ (by omega) (by omega)]; omega
theorem dig_at {t : List UInt8} (h : t.all isDig = true) {i : Nat} (hi : i < t.length) : isDig (t.getD i 0) = true := by
  rw [List.all_eq_true] at h
  rw [List.getD_eq_getElem?_getD, List.getElem?_eq_getElem hi]
  exact h _ (List.getElem_mem hi)
theorem dig_take {t : List UInt8} (h : t.all isDig = true) (i : Nat) : (t.take i).all isDig = true := by
  rw [List.all_eq_true] at *
  exact fun x hx => h x (List.mem_of_mem_take hx)
theorem readZ_cut {s : List UInt8} {n : Nat} (h : cutP s 46 = ((s.take n, s.drop (n + 1)), true)) : readZ s = if smallB (s.take n) = true ∧ smallB (s.drop (n + 1)) = true then mkZ (valS (s.take n)) (valS (s.drop (n + 1))) else (0, 2) := by
  unfold readZ; rw [h]; simp
theorem small_len {t : List UInt8} (h : ¬ t.length ≤ 10) : smallB t = false := by unfold smallB; rw [decide_eq_false h]; simp
theorem zref_read_c (s : List UInt8) (hs : okS s) : acall Tryz.prog [] 79 [S s] (ret (.tup [I (readZ s).1, I (readZ s).2])) := by
  unfold okS at hs
  refine zI Tryz.func79 rfl (by kernel_rfl) (by simp [Tryz.ntmps79]) ?_; simp only [Tryz.ntmps79, Tryz.results79, go_sem]
  (repeat' first
| (with_reducible refine AR.f ?_)
| refine zb (by decide) ?_
| (with_reducible refine AWP.cond rfl ?_ ?_ <;> intro hc <;> (try simp only [hcs, beq_iff_eq, ge_iff_le, gt_iff_lt] at hc))
| ((first | ((first | (with_reducible first | refine zR ?_ | refine zQ (by decide +kernel) ?_ | refine zD (by decide +kernel) ?_ | refine zE (by decide +kernel) ?_ | refine zG (by decide +kernel) ?_)); intro K hK) | ((first | (with_reducible refine zu ?_ ?_ <;> intro hg) | with_reducible intro hg) <;> (first | (exfalso; simp at hg; done) | (have hg' := hg; (try simp only [hcs, beq_iff_eq, ge_iff_le, gt_iff_lt] at hg'); (try simp only [hg]))))) <;> (try simp (disch := omega) only [go_sem, wn]) <;> (repeat' with_reducible refine And.intro ?_ ?_) <;> (try (with_reducible refine hK _ ?_; clear hK K)))
| omega)
  refine AWP.loopB (ι := Nat × Int) (fun p => p.1 ≤ s.length ∧ dotAt s p.1 p.2) (fun p => s.length - p.1) [0, 13, 14] (fun p => [(4, I p.2), (15, I p.1)]) (fun p => [.bytes s]) (0, -1) ?_ ?_ ?_
  · exact ⟨Nat.zero_le _, .inl ⟨rfl, fun j hj => absurd hj (Nat.not_lt_zero j)⟩⟩
  · simp only [go_sem]; (refine SImp.same ?_; simp (disch := omega) only [go_sem, wn, Int.natCast_add])
  intro ⟨k, d⟩ ⟨hk, hd⟩
  dsimp only at hk hd
  simp only [go_sem]
  (repeat' first
| (with_reducible refine AR.f ?_)
| refine zb (by decide) ?_
| (with_reducible refine AWP.cond rfl ?_ ?_ <;> intro hc <;> (try simp only [hcs, beq_iff_eq, ge_iff_le, gt_iff_lt] at hc))
| ((first | ((first | (with_reducible first | refine zR ?_ | refine zQ (by decide +kernel) ?_ | refine zD (by decide +kernel) ?_ | refine zE (by decide +kernel) ?_ | refine zG (by decide +kernel) ?_)); intro K hK) | ((first | (with_reducible refine zu ?_ ?_ <;> intro hg) | with_reducible intro hg) <;> (first | (exfalso; simp at hg; done) | (have hg' := hg; (try simp only [hcs, beq_iff_eq, ge_iff_le, gt_iff_lt] at hg'); (try simp only [hg]))))) <;> (try simp (disch := omega) only [go_sem, wn, u8g]) <;> (repeat' with_reducible refine And.intro ?_ ?_) <;> (try (with_reducible refine hK _ ?_; clear hK K)))
| omega)
  · have h46 : s.getD k 0 = 46 := u8_ne (n := 46) (by assumption) (by decide)
    have e : readZ s = (0, 2) := by
      rcases hd with ⟨h1, _⟩ | ⟨n, h1, h2, h3, h4⟩
      · omega
      refine readZ_bad (k := k) (by assumption) (by rw [h46]; rfl) fun hx => ?_
      exact (Lib.indexByte_some hx).2 n h2 (by rw [some_getD (by omega), h3])
    rw [e]; (refine zF rfl ?_ ?_ ?_ ?_; (iterate 3 (focus ((try simp (disch := omega) only [go_sem, wn]) <;> (try omega) <;> fail))); (try simp (disch := omega) only [go_sem, wn, I, B, S, zj]))
  · have h46 : s.getD k 0 = 46 := u8_ne (n := 46) (by assumption) (by decide)
    refine ⟨(k + 1, (k : Int)), ⟨by dsimp only; omega, .inr ⟨k, rfl, Nat.lt_succ_self k, h46, fun j hj hjn => ?_⟩⟩, by dsimp only; omega, ?_⟩
    · rcases hd with ⟨_, h2⟩ | ⟨n, h1, _⟩
      · exact h2 j (by omega)
      · omega
    (refine SImp.same ?_; simp (disch := omega) only [go_sem, wn, Int.natCast_add])
  · have e : readZ s = (0, 2) := by
      have hnd : isDig (s.getD k 0) = false := by unfold isDig; rw [decide_eq_false_iff_not]; omega
      refine readZ_bad (k := k) (by assumption) hnd fun hx => ?_
      have := (getD_some (Lib.indexByte_some hx).1).2
      have hne : ¬ ((s.getD k 0).toNat : Int) = 46 := by assumption
      rw [this] at hne; exact hne rfl
    rw [e]; (refine zF rfl ?_ ?_ ?_ ?_; (iterate 3 (focus ((try simp (disch := omega) only [go_sem, wn]) <;> (try omega) <;> fail))); (try simp (disch := omega) only [go_sem, wn, I, B, S, zj]))
  · have hdg : isDig (s.getD k 0) = true := by unfold isDig; rw [decide_eq_true_eq]; omega
    refine ⟨(k + 1, d), ⟨by dsimp only; omega, ?_⟩, by dsimp only; omega, ?_⟩
    · rcases hd with ⟨h1, h2⟩ | ⟨n, h1, h2, h3, h4⟩
      · refine .inl ⟨h1, fun j hj => ?_⟩
        by_cases e : j = k
        · subst e; exact hdg
        · exact h2 j (by omega)
      · refine .inr ⟨n, h1, by omega, h3, fun j hj hjn => ?_⟩
        by_cases e : j = k
        · subst e; exact hdg
        · exact h4 j (by omega) hjn
    (refine SImp.same ?_; simp (disch := omega) only [go_sem, wn, Int.natCast_add])
  · have e0 : k = s.length := by omega
    subst e0
    rcases dot_end hd with ⟨_, e⟩ | ⟨n, h1, _⟩
    · rw [e]; (refine zF rfl ?_ ?_ ?_ ?_; (iterate 3 (focus ((try simp (disch := omega) only [go_sem, wn]) <;> (try omega) <;> fail))); (try simp (disch := omega) only [go_sem, wn, I, B, S, zj]))
    · omega
  have e0 : k = s.length := by omega
  subst e0
  rcases dot_end hd with ⟨hneg, _⟩ | ⟨n, h1, hn, hcut, hd0, hd1⟩
  · omega
  subst h1
  clear hd hc hk
  (repeat' first
| (with_reducible refine AR.f ?_)
| refine zb (by decide) ?_
| (with_reducible refine AWP.cond rfl ?_ ?_ <;> intro hc <;> (try simp only [hcs, beq_iff_eq, ge_iff_le, gt_iff_lt] at hc))
| ((first | ((first | refine zP ((Plan.takes [0, 1, 2, 3, 4, 5, 6, 9, 7, 8] .done)) (by decide +kernel) ?_ | (with_reducible first | refine zR ?_ | refine zQ (by decide +kernel) ?_ | refine zD (by decide +kernel) ?_ | refine zE (by decide +kernel) ?_ | refine zG (by decide +kernel) ?_)); intro K hK) | ((first | (with_reducible refine zu ?_ ?_ <;> intro hg) | with_reducible intro hg) <;> (first | (exfalso; simp at hg; done) | (have hg' := hg; (try simp only [hcs, beq_iff_eq, ge_iff_le, gt_iff_lt] at hg'); (try simp only [hg]))))) <;> (try simp (disch := omega) only [go_sem, wn, toNat_ad1, take_drop_full, Nat.sub_zero, List.drop_zero, List.length_take, List.length_drop]) <;> (repeat' with_reducible refine And.intro ?_ ?_) <;> (try (with_reducible refine hK _ ?_; clear hK K)))
| omega)
  have hr := readZ_cut hcut
  have l0 : (s.take n).length ≤ s.length := by rw [List.length_take]; omega
  have l1 : (s.drop (n + 1)).length ≤ s.length := by rw [List.length_drop]; omega
  clear hcut
  generalize s.take n = p0 at *
  generalize s.drop (n + 1) = p1 at *
  refine AWP.loopB (ι := Nat) (fun k => k ≤ 2 ∧ (0 < k → smallB p0 = true) ∧ (1 < k → smallB p1 = true)) (fun k => 2 - k) [7, 41, 42] (fun k => [(43, I k)]) (fun k => [.bytes s, .cells [I (if 0 < k then (valS p0 : Int) else 0), I (if 1 < k then (valS p1 : Int) else 0)], .rows 1 [[.str p0], [.str p1]]]) 0 ?_ ?_ ?_
  · exact ⟨by omega, fun h => absurd h (by decide), fun h => absurd h (by decide)⟩
  · simp only [go_sem]; (refine SImp.same ?_; simp (disch := omega) only [go_sem, wn, Int.natCast_add])
  intro k ⟨hk, k0, k1⟩
  have hcs : k = 0 ∨ k = 1 ∨ k = 2 := by omega
  rcases hcs with rfl | rfl | rfl
  all_goals simp only [go_sem]
  · (repeat' first
  | (with_reducible refine AR.f ?_)
  | refine zb (by decide) ?_
  | (with_reducible refine AWP.cond rfl ?_ ?_ <;> intro hc <;> (try simp only [hcs, beq_iff_eq, ge_iff_le, gt_iff_lt] at hc))
  | ((first | ((first | (with_reducible first | refine zR ?_ | refine zQ (by decide +kernel) ?_ | refine zD (by decide +kernel) ?_ | refine zE (by decide +kernel) ?_ | refine zG (by decide +kernel) ?_)); intro K hK) | ((first | (with_reducible refine zu ?_ ?_ <;> intro hg) | with_reducible intro hg) <;> (first | (exfalso; simp at hg; done) | (have hg' := hg; (try simp only [hcs, beq_iff_eq, ge_iff_le, gt_iff_lt] at hg'); (try simp only [hg]))))) <;> (try simp (disch := omega) only [go_sem, wn]) <;> (repeat' with_reducible refine And.intro ?_ ?_) <;> (try (with_reducible refine hK _ ?_; clear hK K)))
  | omega)
    · rw [hr, if_neg (fun h => by rw [small_len (t := p0) (by omega)] at h; exact absurd h.1 (by decide))]; (refine zF rfl ?_ ?_ ?_ ?_; (iterate 3 (focus ((try simp (disch := omega) only [go_sem, wn]) <;> (try omega) <;> fail))); (try simp (disch := omega) only [go_sem, wn, I, B, S, zj]))
    have hle : p0.length ≤ 10 := by omega
    refine AWP.loopB (ι := Nat) (fun i => i ≤ p0.length) (fun i => p0.length - i) [7, 8, 9, 41, 42, 43, 52, 53] (fun i => [(54, I i)]) (fun i => [.bytes s, .cells [I (valS (p0.take i) : Nat), I 0], .rows 1 [[.str p0], [.str p1]], .bytes p0]) 0 ?_ ?_ ?_
    · omega
    · simp only [go_sem, val_nil]; (refine SImp.same ?_; simp (disch := omega) only [go_sem, wn, Int.natCast_add])
    intro i hi
    have hv := valS_le (dig_take hd0 i) (by rw [List.length_take]; omega)
    simp only [go_sem]
    (repeat' first
  | (with_reducible refine AR.f ?_)
  | refine zb (by decide) ?_
  | (with_reducible refine AWP.cond rfl ?_ ?_ <;> intro hc <;> (try simp only [hcs, beq_iff_eq, ge_iff_le, gt_iff_lt] at hc))
  | ((first | ((first | (with_reducible first | refine zR ?_ | refine zQ (by decide +kernel) ?_ | refine zD (by decide +kernel) ?_ | refine zE (by decide +kernel) ?_ | refine zG (by decide +kernel) ?_)); intro K hK) | ((first | (with_reducible refine zu ?_ ?_ <;> intro hg) | with_reducible intro hg) <;> (first | (exfalso; simp at hg; done) | (have hg' := hg; (try simp only [hcs, beq_iff_eq, ge_iff_le, gt_iff_lt] at hg'); (try simp only [hg]))))) <;> (try simp (disch := omega) only [go_sem, wn, u8g]) <;> (repeat' with_reducible refine And.intro ?_ ?_) <;> (try (with_reducible refine hK _ ?_; clear hK K)))
  | omega)
    · have hd := dig_at hd0 (by assumption : i < p0.length)
      have hd2 := dg_lt hd
      have hd3 := (p0.getD i 0).toNat_lt
      refine ⟨i + 1, by omega, by omega, ?_⟩
      rw [valS_snoc _ _ (by assumption)]
      rw [step_wr hd hv]; (refine SImp.same ?_; simp (disch := omega) only [go_sem, wn, Int.natCast_add])
    have e0 : i = p0.length := by omega
    subst e0
    rw [List.take_length] at *
    (repeat' first
  | (with_reducible refine AR.f ?_)
  | refine zb (by decide) ?_
  | (with_reducible refine AWP.cond rfl ?_ ?_ <;> intro hc <;> (try simp only [hcs, beq_iff_eq, ge_iff_le, gt_iff_lt] at hc))
  | ((first | ((first | (with_reducible first | refine zR ?_ | refine zQ (by decide +kernel) ?_ | refine zD (by decide +kernel) ?_ | refine zE (by decide +kernel) ?_ | refine zG (by decide +kernel) ?_)); intro K hK) | ((first | refine zA (decimal_c (valS p0) (by omega)) ?_ ?_ ?_ ?_ ?_); (focus exact rfl); (focus exact rfl); iterate 2 (focus ((try simp (disch := omega) only [go_sem, wn]) <;> (try omega) <;> fail))) | ((first | refine zX (decimal_c (valS p0) (by omega)) rfl ?_ ?_); (focus ((try simp (disch := omega) only [go_sem, wn]) <;> (try omega) <;> fail))) | ((first | (with_reducible refine zu ?_ ?_ <;> intro hg) | with_reducible intro hg) <;> (first | (exfalso; simp at hg; done) | (have hg' := hg; (try simp only [hcs, beq_iff_eq, ge_iff_le, gt_iff_lt] at hg'); (try simp only [hg]))))) <;> (try simp (disch := omega) only [go_sem, wn]) <;> (repeat' with_reducible refine And.intro ?_ ?_) <;> (try (with_reducible refine hK _ ?_; clear hK K)))
  | omega)
    · have hns : smallB p0 ≠ true := fun h => hc ((decB_iff hd0 hle).2 h)
      rw [hr, if_neg (fun h => hns h.1)]; (refine zF rfl ?_ ?_ ?_ ?_; (iterate 3 (focus ((try simp (disch := omega) only [go_sem, wn]) <;> (try omega) <;> fail))); (try simp (disch := omega) only [go_sem, wn, I, B, S, zj]))
    · have hss := (decB_iff hd0 hle).1 hc
      refine ⟨1, ⟨by omega, fun _ => hss, fun h => absurd h (by decide)⟩, by omega, ?_⟩
      (refine zV [0, 1, 2] rfl rfl rfl rfl ?_ ?_ <;> simp (disch := omega) only [go_sem, wn, Int.natCast_add] <;> (try rfl))
  · (repeat' first
  | (with_reducible refine AR.f ?_)
  | refine zb (by decide) ?_
  | (with_reducible refine AWP.cond rfl ?_ ?_ <;> intro hc <;> (try simp only [hcs, beq_iff_eq, ge_iff_le, gt_iff_lt] at hc))
  | ((first | ((first | (with_reducible first | refine zR ?_ | refine zQ (by decide +kernel) ?_ | refine zD (by decide +kernel) ?_ | refine zE (by decide +kernel) ?_ | refine zG (by decide +kernel) ?_)); intro K hK) | ((first | (with_reducible refine zu ?_ ?_ <;> intro hg) | with_reducible intro hg) <;> (first | (exfalso; simp at hg; done) | (have hg' := hg; (try simp only [hcs, beq_iff_eq, ge_iff_le, gt_iff_lt] at hg'); (try simp only [hg]))))) <;> (try simp (disch := omega) only [go_sem, wn]) <;> (repeat' with_reducible refine And.intro ?_ ?_) <;> (try (with_reducible refine hK _ ?_; clear hK K)))
  | omega)
    · rw [hr, if_neg (fun h => by rw [small_len (t := p1) (by omega)] at h; exact absurd h.2 (by decide))]; (refine zF rfl ?_ ?_ ?_ ?_; (iterate 3 (focus ((try simp (disch := omega) only [go_sem, wn]) <;> (try omega) <;> fail))); (try simp (disch := omega) only [go_sem, wn, I, B, S, zj]))
    have hle : p1.length ≤ 10 := by omega
    refine AWP.loopB (ι := Nat) (fun i => i ≤ p1.length) (fun i => p1.length - i) [7, 8, 9, 41, 42, 43, 52, 53] (fun i => [(54, I i)]) (fun i => [.bytes s, .cells [I (valS p0 : Nat), I (valS (p1.take i) : Nat)], .rows 1 [[.str p0], [.str p1]], .bytes p1]) 0 ?_ ?_ ?_
    · omega
    · simp only [go_sem, val_nil]; (refine SImp.same ?_; simp (disch := omega) only [go_sem, wn, Int.natCast_add])
    intro i hi
    have hv := valS_le (dig_take hd1 i) (by rw [List.length_take]; omega)
    simp only [go_sem]
    (repeat' first
  | (with_reducible refine AR.f ?_)
  | refine zb (by decide) ?_
  | (with_reducible refine AWP.cond rfl ?_ ?_ <;> intro hc <;> (try simp only [hcs, beq_iff_eq, ge_iff_le, gt_iff_lt] at hc))
  | ((first | ((first | (with_reducible first | refine zR ?_ | refine zQ (by decide +kernel) ?_ | refine zD (by decide +kernel) ?_ | refine zE (by decide +kernel) ?_ | refine zG (by decide +kernel) ?_)); intro K hK) | ((first | (with_reducible refine zu ?_ ?_ <;> intro hg) | with_reducible intro hg) <;> (first | (exfalso; simp at hg; done) | (have hg' := hg; (try simp only [hcs, beq_iff_eq, ge_iff_le, gt_iff_lt] at hg'); (try simp only [hg]))))) <;> (try simp (disch := omega) only [go_sem, wn, u8g]) <;> (repeat' with_reducible refine And.intro ?_ ?_) <;> (try (with_reducible refine hK _ ?_; clear hK K)))
  | omega)
    · have hd := dig_at hd1 (by assumption : i < p1.length)
      have hd2 := dg_lt hd
      have hd3 := (p1.getD i 0).toNat_lt
      refine ⟨i + 1, by omega, by omega, ?_⟩
      rw [valS_snoc _ _ (by assumption)]
      rw [step_wr hd hv]; (refine SImp.same ?_; simp (disch := omega) only [go_sem, wn, Int.natCast_add])
    have e0 : i = p1.length := by omega
    subst e0
    rw [List.take_length] at *
    (repeat' first
  | (with_reducible refine AR.f ?_)
  | refine zb (by decide) ?_
  | (with_reducible refine AWP.cond rfl ?_ ?_ <;> intro hc <;> (try simp only [hcs, beq_iff_eq, ge_iff_le, gt_iff_lt] at hc))
  | ((first | ((first | (with_reducible first | refine zR ?_ | refine zQ (by decide +kernel) ?_ | refine zD (by decide +kernel) ?_ | refine zE (by decide +kernel) ?_ | refine zG (by decide +kernel) ?_)); intro K hK) | ((first | refine zA (decimal_c (valS p1) (by omega)) ?_ ?_ ?_ ?_ ?_); (focus exact rfl); (focus exact rfl); iterate 2 (focus ((try simp (disch := omega) only [go_sem, wn]) <;> (try omega) <;> fail))) | ((first | refine zX (decimal_c (valS p1) (by omega)) rfl ?_ ?_); (focus ((try simp (disch := omega) only [go_sem, wn]) <;> (try omega) <;> fail))) | ((first | (with_reducible refine zu ?_ ?_ <;> intro hg) | with_reducible intro hg) <;> (first | (exfalso; simp at hg; done) | (have hg' := hg; (try simp only [hcs, beq_iff_eq, ge_iff_le, gt_iff_lt] at hg'); (try simp only [hg]))))) <;> (try simp (disch := omega) only [go_sem, wn]) <;> (repeat' with_reducible refine And.intro ?_ ?_) <;> (try (with_reducible refine hK _ ?_; clear hK K)))
  | omega)
    · have hns : smallB p1 ≠ true := fun h => hc ((decB_iff hd1 hle).2 h)
      rw [hr, if_neg (fun h => hns h.2)]; (refine zF rfl ?_ ?_ ?_ ?_; (iterate 3 (focus ((try simp (disch := omega) only [go_sem, wn]) <;> (try omega) <;> fail))); (try simp (disch := omega) only [go_sem, wn, I, B, S, zj]))
    · have hss := (decB_iff hd1 hle).1 hc
      refine ⟨2, ⟨by omega, fun _ => k0 (by decide), fun _ => hss⟩, by omega, ?_⟩
      (refine zV [0, 1, 2] rfl rfl rfl rfl ?_ ?_ <;> simp (disch := omega) only [go_sem, wn, Int.natCast_add] <;> (try rfl))
  · (repeat' first
  | (with_reducible refine AR.f ?_)
  | refine zb (by decide) ?_
  | (with_reducible refine AWP.cond rfl ?_ ?_ <;> intro hc <;> (try simp only [hcs, beq_iff_eq, ge_iff_le, gt_iff_lt] at hc))
  | ((first | ((first | (with_reducible first | refine zR ?_ | refine zQ (by decide +kernel) ?_ | refine zD (by decide +kernel) ?_ | refine zE (by decide +kernel) ?_ | refine zG (by decide +kernel) ?_)); intro K hK) | ((first | refine acallH_sc (ref_make_c _ _) rfl rfl ?_ ?_ ?_ | refine acallQ_sc (ref_make_c _ _) rfl rfl ?_ ?_ ?_); iterate 2 (focus ((try simp (disch := omega) only [go_sem, wn, two]) <;> (try omega) <;> fail))) | ((first | refine zX (ref_make_c _ _) rfl ?_ ?_); (focus ((try simp (disch := omega) only [go_sem, wn, two]) <;> (try omega) <;> fail))) | ((first | (with_reducible refine zu ?_ ?_ <;> intro hg) | with_reducible intro hg) <;> (first | (exfalso; simp at hg; done) | (have hg' := hg; (try simp only [hcs, beq_iff_eq, ge_iff_le, gt_iff_lt] at hg'); (try simp only [hg]))))) <;> (try simp (disch := omega) only [go_sem, wn, two]) <;> (repeat' with_reducible refine And.intro ?_ ?_) <;> (try (with_reducible refine hK _ ?_; clear hK K)))
  | omega)
    rw [hr, if_pos ⟨k0 (by decide), k1 (by decide)⟩]; (refine zF rfl ?_ ?_ ?_ ?_; (iterate 3 (focus ((try simp (disch := omega) only [go_sem, wn]) <;> (try omega) <;> fail))); (try simp (disch := omega) only [go_sem, wn, I, B, S, zj]))
end Go.Proofs.YtainmipdnjcbkaaGreatDoor
namespace Go.Proofs.YtainmipdnjcbkaaGreatDoor
set_option linter.unusedVariables false
set_option linter.unusedSimpArgs false
open Go Go.RowKit
set_option maxRecDepth 100000
set_option linter.unusedSimpArgs false
def ztext (z : Int) : List UInt8 := Lib.decDigits (z / 2147483648).toNat ++ (46 :: Lib.decDigits (z % 2147483648).toNat)
theorem dgt_small {u : Nat} (h : u < 10) : Lib.decDigits u = [UInt8.ofNat (48 + u)] := by rw [Lib.decDigits, dif_pos h]
theorem dgt_big {u : Nat} (h : ¬ u < 10) : Lib.decDigits u = Lib.decDigits (u / 10) ++ [UInt8.ofNat (48 + u % 10)] := by rw [Lib.decDigits, dif_neg h]
theorem dgt_len (u : Nat) : ∀ k, u < 10 ^ (k + 1) → (Lib.decDigits u).length ≤ k + 1 := by
  induction u using Nat.strongRecOn with
  | _ u ih =>
    intro k hk
    by_cases h : u < 10
    · rw [dgt_small h]; simp
    · rw [dgt_big h, List.length_append, List.length_singleton]
      rcases k with _ | k
      · simp at hk; omega
      · have := ih (u / 10) (by omega) k (by rw [Nat.pow_succ] at hk; omega)
        omega
theorem ztext_len {z : Int} (h : goodZ z) : (ztext z).length ≤ 21 := by
  unfold goodZ at h
  have h1 := dgt_len (z / 2147483648).toNat 9 (by omega)
  have h2 := dgt_len (z % 2147483648).toNat 9 (by omega)
  unfold ztext
  rw [List.length_append, List.length_cons]; omega
end Go.Proofs.YtainmipdnjcbkaaGreatDoor
namespace Go.Proofs.YtainmipdnjcbkaaGreatDoor
set_option linter.unusedVariables false
set_option linter.unusedSimpArgs false
open Go Go.RowKit
set_option maxRecDepth 100000
set_option linter.unusedSimpArgs false
def epochD (l : List AFile) : Int := if (readD l epN).2 ≠ 0 then 0 else if (readZ (readD l epN).1).2 ≠ 0 then 0 else epZ (readZ (readD l epN).1).1
def rememberD (l : List AFile) (ep : Int) : ADisk × Int :=
  if (mkZ ep 0).2 ≠ 0 then (default, (mkZ ep 0).2) else
  if (writeD (if (removeD l epN).2 = 0 then (removeD l epN).1.files else l) epN (ztext (mkZ ep 0).1)).2 ≠ 0 then (default, (writeD (if (removeD l epN).2 = 0 then (removeD l epN).1.files else l) epN (ztext (mkZ ep 0).1)).2) else
  changeD (writeD (if (removeD l epN).2 = 0 then (removeD l epN).1.files else l) epN (ztext (mkZ ep 0).1)).1.files epN syncF
def bootS (id : Int) (l : List AFile) : AServer × Int :=
  if id < 0 ∨ 2 < id then (default, 3) else if (recoverD l).2.2 ≠ 0 then (default, (recoverD l).2.2) else (⟨true, (recoverD l).2.1, ⟨id, epochD l, (recoverD l).1, 0⟩, t00, []⟩, 0)
end Go.Proofs.YtainmipdnjcbkaaGreatDoor
namespace Go.Proofs.YtainmipdnjcbkaaGreatDoor
open Go Go.Shelf
def laysItoa_ren : Go.Shelf.Ren := ⟨fun | 171 => 121 | 243 => 188 | 246 => 237 | 283 => 267 | 284 => 268 | 285 => 269 | 286 => 270 | 129 => 281 | 317 => 280 | 318 => 282 | 319 => 283 | 320 => 284 | 337 => 288 | 338 => 289 | n => n, fun | 3 => 3 | 9 => 9 | 2 => 2 | 4 => 4 | 171 => 277 | 0 => 0 | 53 => 278 | 37 => 181 | 5 => 5 | 173 => 281 | 212 => 287 | 51 => 256 | 20 => 20 | 213 => 288 | 46 => 167 | 232 => 298 | 233 => 299 | n => n, fun | 17 => 1 | 18 => 4 | 19 => 5 | n => n⟩
theorem laysItoa : Go.Proofs.LaysM.n171 Tryz.prog laysItoa_ren := {
  mixed := by kernel_rfl
  f129 := Tryz.func281.trans (congrArg some (by kernel_rfl))
  f171 := Tryz.func121.trans (congrArg some (by kernel_rfl))
  f243 := Tryz.func188.trans (congrArg some (by kernel_rfl))
  f246 := Tryz.func237.trans (congrArg some (by kernel_rfl))
  f283 := Tryz.func267.trans (congrArg some (by kernel_rfl))
  f284 := Tryz.func268.trans (congrArg some (by kernel_rfl))
  f285 := Tryz.func269.trans (congrArg some (by kernel_rfl))
  f286 := Tryz.func270.trans (congrArg some (by kernel_rfl))
  f317 := Tryz.func280.trans (congrArg some (by kernel_rfl))
  f318 := Tryz.func282.trans (congrArg some (by kernel_rfl))
  f319 := Tryz.func283.trans (congrArg some (by kernel_rfl))
  f320 := Tryz.func284.trans (congrArg some (by kernel_rfl))
  f337 := Tryz.func288.trans (congrArg some (by kernel_rfl))
  f338 := Tryz.func289.trans (congrArg some (by kernel_rfl))
  t0 := Tryz.underlying0
  a0 := Tryz.isAgg0
  z0 := Tryz.sizeOf0
  v0 := Tryz.zeroValue0
  t2 := Tryz.underlying2
  a2 := Tryz.isAgg2
  z2 := Tryz.sizeOf2
  v2 := Tryz.zeroValue2
  t3 := Tryz.underlying3
  a3 := Tryz.isAgg3
  z3 := Tryz.sizeOf3
  v3 := Tryz.zeroValue3
  t4 := Tryz.underlying4
  a4 := Tryz.isAgg4
  z4 := Tryz.sizeOf4
  v4 := Tryz.zeroValue4
  t5 := Tryz.underlying5
  a5 := Tryz.isAgg5
  z5 := Tryz.sizeOf5
  v5 := Tryz.zeroValue5
  t9 := Tryz.underlying9
  a9 := Tryz.isAgg9
  z9 := Tryz.sizeOf9
  v9 := Tryz.zeroValue9
  t20 := Tryz.underlying20
  a20 := Tryz.isAgg20
  z20 := Tryz.sizeOf20
  v20 := Tryz.zeroValue20
  t37 := Tryz.underlying181
  a37 := Tryz.isAgg181
  z37 := Tryz.sizeOf181
  v37 := Tryz.zeroValue181
  t46 := Tryz.underlying167
  a46 := Tryz.isAgg167
  z46 := Tryz.sizeOf167
  v46 := Tryz.zeroValue167
  t51 := Tryz.underlying256
  a51 := Tryz.isAgg256
  z51 := Tryz.sizeOf256
  v51 := Tryz.zeroValue256
  t53 := Tryz.underlying278
  a53 := Tryz.isAgg278
  z53 := Tryz.sizeOf278
  v53 := Tryz.zeroValue278
  t171 := Tryz.underlying277
  a171 := Tryz.isAgg277
  z171 := Tryz.sizeOf277
  v171 := Tryz.zeroValue277
  t173 := Tryz.underlying281
  a173 := Tryz.isAgg281
  z173 := Tryz.sizeOf281
  v173 := Tryz.zeroValue281
  t212 := Tryz.underlying287
  a212 := Tryz.isAgg287
  z212 := Tryz.sizeOf287
  v212 := Tryz.zeroValue287
  t213 := Tryz.underlying288
  a213 := Tryz.isAgg288
  z213 := Tryz.sizeOf288
  t232 := Tryz.underlying298
  a232 := Tryz.isAgg298
  z232 := Tryz.sizeOf298
  v232 := Tryz.zeroValue298
  t233 := Tryz.underlying299
  a233 := Tryz.isAgg299
  z233 := Tryz.sizeOf299
  v233 := Tryz.zeroValue299
  g17 := by kernel_rfl
  g18 := by kernel_rfl
  g19 := by kernel_rfl
  i0 := by kernel_rfl
  i2 := by kernel_rfl
  i3 := by kernel_rfl
  i4 := by kernel_rfl
  i5 := by kernel_rfl
  i9 := by kernel_rfl
  i20 := by kernel_rfl
  i37 := by kernel_rfl
  i46 := by kernel_rfl
  i51 := by kernel_rfl
  i53 := by kernel_rfl
  i171 := by kernel_rfl
  i173 := by kernel_rfl
  i212 := by kernel_rfl
  i232 := by kernel_rfl
  i233 := by kernel_rfl
  m17 := by kernel_rfl
  m18 := by kernel_rfl
  m19 := by kernel_rfl }
end Go.Proofs.YtainmipdnjcbkaaGreatDoor
namespace Go.Proofs.YtainmipdnjcbkaaGreatDoor
set_option linter.unusedVariables false
set_option linter.unusedSimpArgs false
open Go Go.RowKit
set_option maxRecDepth 100000
set_option linter.unusedSimpArgs false
theorem tab_is {w : World} (ht : TabsAt w) {nm : String} {g : Nat} (hg : Tryz.prog.globalNamed nm = some g) (hm : (g, Lib.pow10Tab.map fun z => Value.int .u64 z) ∈ tabs) : Lib.TabIs Tryz.prog w nm .u64 Lib.pow10Tab := by
  obtain ⟨ty, fz, h⟩ := ht _ hm
  unfold Lib.TabIs World.var?
  rw [hg, Option.bind_some]
  simp only [h]
theorem below_grow (w : World) (k : Nat) (os : Array Obj) : Below w.heap.size w (Sort.grow (w.drewN k) os) :=
  ⟨rfl, rfl, rfl, by rw [Sort.size_grow]; exact Nat.le_add_right _ _, fun i hi => Sort.heap_grow_old _ _ hi⟩
theorem itoa_c (n : Int) (h : okI n) : acall Tryz.prog [] 121 [I n] (ret (S (Lib.itoa n))) :=
  acall_of_below ⟨_, Tryz.func121, by kernel_rfl, by kernel_rfl⟩ rfl rfl fun w ht =>
    (Any.strconv_Itoa laysItoa n h.1 h.2 w (tab_is ht (g := 1) (by kernel_rfl) (List.mem_cons_self ..))).mono fun e w' hh => by
      obtain ⟨h1, k, os, h2⟩ := hh
      subst h2
      exact ⟨h1, below_grow w k os⟩
def textZ (z : Int) : List UInt8 × Int := if goodZ z then (ztext z, 0) else ([], 3)
theorem itoa_nat {n : Int} (h : 0 ≤ n) : Lib.itoa n = Lib.decDigits n.toNat := by unfold Lib.itoa; rw [if_neg (by omega)]
theorem ztext_parts {z : Int} (h : goodZ z) : okI (epZ z) ∧ okI (coZ z) ∧ Lib.itoa (epZ z) = Lib.decDigits (z / 2147483648).toNat ∧ Lib.itoa (coZ z) = Lib.decDigits (z % 2147483648).toNat ∧ (Lib.decDigits (z / 2147483648).toNat).length ≤ 10 ∧ (Lib.decDigits (z % 2147483648).toNat).length ≤ 10 := by
  have h' := h
  unfold goodZ at h'
  have e1 : epZ z = z / 2147483648 := by unfold epZ; rw [if_pos h]
  have e2 : coZ z = z % 2147483648 := by unfold coZ; rw [if_pos h]
  rw [e1, e2]
  refine ⟨⟨by omega, by omega⟩, ⟨by omega, by omega⟩, itoa_nat (by omega), itoa_nat (by omega), dgt_len _ 9 (by omega), dgt_len _ 9 (by omega)⟩
theorem text_z_c (z : Int) : acall Tryz.prog [] 63 [I z] (ret (.tup [S (textZ z).1, I (textZ z).2])) := by
  unfold textZ
  by_cases h : goodZ z
  · rw [if_pos h]
    obtain ⟨a, b, c, d, e, f⟩ := ztext_parts h
    have i1 := itoa_c _ a
    have i2 := itoa_c _ b
    rw [c] at i1
    rw [d] at i2
    refine zI Tryz.func63 rfl (by kernel_rfl) (by simp [Tryz.ntmps63]) ?_; simp only [Tryz.ntmps63, Tryz.results63, go_sem]
    (repeat' first
  | (with_reducible refine AR.f ?_)
  | refine zb (by decide) ?_
  | (with_reducible refine AWP.cond rfl ?_ ?_ <;> intro hc <;> (try simp only [hcs, beq_iff_eq, ge_iff_le, gt_iff_lt] at hc))
  | ((first | ((first | (with_reducible first | refine zR ?_ | refine zQ (by decide +kernel) ?_ | refine zD (by decide +kernel) ?_ | refine zE (by decide +kernel) ?_ | refine zG (by decide +kernel) ?_)); intro K hK) | ((first | refine zA (zgood_c z) ?_ ?_ ?_ ?_ ?_ | refine zA (epoch_c z) ?_ ?_ ?_ ?_ ?_ | refine zA (count_c z) ?_ ?_ ?_ ?_ ?_ | refine zA i1 ?_ ?_ ?_ ?_ ?_ | refine zA i2 ?_ ?_ ?_ ?_ ?_); (focus exact rfl); (focus exact rfl); iterate 2 (focus ((try simp (disch := omega) only [go_sem, wn]) <;> (try omega) <;> fail))) | ((first | refine zX (zgood_c z) rfl ?_ ?_ | refine zX (epoch_c z) rfl ?_ ?_ | refine zX (count_c z) rfl ?_ ?_); (focus ((try simp (disch := omega) only [go_sem, wn]) <;> (try omega) <;> fail))) | ((first | refine zX i1 rfl ?_ ?_); (focus ((try simp (disch := omega) only [go_sem, wn]) <;> (try omega) <;> fail))) | ((first | refine zX i2 rfl ?_ ?_); (focus ((try simp (disch := omega) only [go_sem, wn]) <;> (try omega) <;> fail))) | ((first | (with_reducible refine zu ?_ ?_ <;> intro hg) | with_reducible intro hg) <;> (first | (exfalso; simp at hg; done) | (have hg' := hg; (try simp only [hcs, beq_iff_eq, ge_iff_le, gt_iff_lt] at hg'); (try simp only [hg]))))) <;> (try simp (disch := omega) only [go_sem, wn]) <;> (repeat' with_reducible refine And.intro ?_ ?_) <;> (try (with_reducible refine hK _ ?_; clear hK K)))
  | omega)
    all_goals first | (exfalso; exact absurd h (by assumption)) | skip
    all_goals (refine zF rfl ?_ ?_ ?_ ?_; (iterate 3 (focus ((try simp (disch := omega) only [go_sem, wn, ztext, List.append_assoc, List.cons_append, List.nil_append]) <;> (try omega) <;> fail))); (try simp (disch := omega) only [go_sem, wn, ztext, List.append_assoc, List.cons_append, List.nil_append, I, B, S, zj]))
  · rw [if_neg h]
    refine zI Tryz.func63 rfl (by kernel_rfl) (by simp [Tryz.ntmps63]) ?_; simp only [Tryz.ntmps63, Tryz.results63, go_sem]
    (repeat' first
  | (with_reducible refine AR.f ?_)
  | refine zb (by decide) ?_
  | (with_reducible refine AWP.cond rfl ?_ ?_ <;> intro hc <;> (try simp only [hcs, beq_iff_eq, ge_iff_le, gt_iff_lt] at hc))
  | ((first | ((first | (with_reducible first | refine zR ?_ | refine zQ (by decide +kernel) ?_ | refine zD (by decide +kernel) ?_ | refine zE (by decide +kernel) ?_ | refine zG (by decide +kernel) ?_)); intro K hK) | ((first | refine zA (zgood_c z) ?_ ?_ ?_ ?_ ?_); (focus exact rfl); (focus exact rfl); iterate 2 (focus ((try simp (disch := omega) only [go_sem, wn]) <;> (try omega) <;> fail))) | ((first | refine zX (zgood_c z) rfl ?_ ?_); (focus ((try simp (disch := omega) only [go_sem, wn]) <;> (try omega) <;> fail))) | ((first | (with_reducible refine zu ?_ ?_ <;> intro hg) | with_reducible intro hg) <;> (first | (exfalso; simp at hg; done) | (have hg' := hg; (try simp only [hcs, beq_iff_eq, ge_iff_le, gt_iff_lt] at hg'); (try simp only [hg]))))) <;> (try simp (disch := omega) only [go_sem, wn]) <;> (repeat' with_reducible refine And.intro ?_ ?_) <;> (try (with_reducible refine hK _ ?_; clear hK K)))
  | omega)
    all_goals first | (exfalso; exact absurd (by assumption) h) | skip
    all_goals (refine zF rfl ?_ ?_ ?_ ?_; (iterate 3 (focus ((try simp (disch := omega) only [go_sem, wn]) <;> (try omega) <;> fail))); (try simp (disch := omega) only [go_sem, wn, I, B, S, zj]))
theorem decB_dec (n : Nat) : decB n = Lib.decDigits n := by
  induction n using Nat.strongRecOn with
  | _ n ih =>
    by_cases h : n < 10
    · rw [decB_lt h, dgt_small h]; unfold dig; rw [Nat.mod_eq_of_lt h]
    · rw [decB_ge h, dgt_big h, ih (n / 10) (by omega)]; rfl
theorem ref_text_z_c (z : Int) (hz : okI z) : acall Tryz.prog [] 68 [I z] (ret (.tup [S (textZ z).1, I (textZ z).2])) := by
  unfold textZ
  by_cases h : goodZ z
  · rw [if_pos h]
    obtain ⟨_, _, _, _, e, f⟩ := ztext_parts h
    have h' := h
    unfold goodZ at h'
    have i1 := decimal_c (z / 2147483648).toNat (by omega)
    have i2 := decimal_c (z % 2147483648).toNat (by omega)
    rw [decB_dec, show (((z / 2147483648).toNat : Nat) : Int) = z / 2147483648 by omega] at i1
    rw [decB_dec, show (((z % 2147483648).toNat : Nat) : Int) = z % 2147483648 by omega] at i2
    have t1 : z.tdiv 2147483648 = z / 2147483648 := Int.tdiv_eq_ediv_of_nonneg (by omega)
    have t2 : z.tmod 2147483648 = z % 2147483648 := Int.tmod_eq_emod_of_nonneg (by omega)
    refine zI Tryz.func68 rfl (by kernel_rfl) (by simp [Tryz.ntmps68]) ?_; simp only [Tryz.ntmps68, Tryz.results68, go_sem]
    (repeat' first
  | (with_reducible refine AR.f ?_)
  | refine zb (by decide) ?_
  | (with_reducible refine AWP.cond rfl ?_ ?_ <;> intro hc <;> (try simp only [hcs, beq_iff_eq, ge_iff_le, gt_iff_lt] at hc))
  | ((first | ((first | (with_reducible first | refine zR ?_ | refine zQ (by decide +kernel) ?_ | refine zD (by decide +kernel) ?_ | refine zE (by decide +kernel) ?_ | refine zG (by decide +kernel) ?_)); intro K hK) | ((first | refine zA (ref_zgood_c z hz) ?_ ?_ ?_ ?_ ?_ | refine zA i1 ?_ ?_ ?_ ?_ ?_ | refine zA i2 ?_ ?_ ?_ ?_ ?_); (focus exact rfl); (focus exact rfl); iterate 2 (focus ((try simp (disch := omega) only [go_sem, wn, t1, t2]) <;> (try omega) <;> fail))) | ((first | refine zX (ref_zgood_c z hz) rfl ?_ ?_); (focus ((try simp (disch := omega) only [go_sem, wn, t1, t2]) <;> (try omega) <;> fail))) | ((first | refine zX i1 rfl ?_ ?_); (focus ((try simp (disch := omega) only [go_sem, wn, t1, t2]) <;> (try omega) <;> fail))) | ((first | refine zX i2 rfl ?_ ?_); (focus ((try simp (disch := omega) only [go_sem, wn, t1, t2]) <;> (try omega) <;> fail))) | ((first | (with_reducible refine zu ?_ ?_ <;> intro hg) | with_reducible intro hg) <;> (first | (exfalso; simp at hg; done) | (have hg' := hg; (try simp only [hcs, beq_iff_eq, ge_iff_le, gt_iff_lt] at hg'); (try simp only [hg]))))) <;> (try simp (disch := omega) only [go_sem, wn, t1, t2]) <;> (repeat' with_reducible refine And.intro ?_ ?_) <;> (try (with_reducible refine hK _ ?_; clear hK K)))
  | omega)
    all_goals first | (exfalso; exact absurd h (by assumption)) | skip
    all_goals (refine zF rfl ?_ ?_ ?_ ?_; (iterate 3 (focus ((try simp (disch := omega) only [go_sem, wn, ztext, List.append_assoc, List.cons_append, List.nil_append]) <;> (try omega) <;> fail))); (try simp (disch := omega) only [go_sem, wn, ztext, List.append_assoc, List.cons_append, List.nil_append, I, B, S, zj]))
  · rw [if_neg h]
    refine zI Tryz.func68 rfl (by kernel_rfl) (by simp [Tryz.ntmps68]) ?_; simp only [Tryz.ntmps68, Tryz.results68, go_sem]
    (repeat' first
  | (with_reducible refine AR.f ?_)
  | refine zb (by decide) ?_
  | (with_reducible refine AWP.cond rfl ?_ ?_ <;> intro hc <;> (try simp only [hcs, beq_iff_eq, ge_iff_le, gt_iff_lt] at hc))
  | ((first | ((first | (with_reducible first | refine zR ?_ | refine zQ (by decide +kernel) ?_ | refine zD (by decide +kernel) ?_ | refine zE (by decide +kernel) ?_ | refine zG (by decide +kernel) ?_)); intro K hK) | ((first | refine zA (ref_zgood_c z hz) ?_ ?_ ?_ ?_ ?_); (focus exact rfl); (focus exact rfl); iterate 2 (focus ((try simp (disch := omega) only [go_sem, wn]) <;> (try omega) <;> fail))) | ((first | refine zX (ref_zgood_c z hz) rfl ?_ ?_); (focus ((try simp (disch := omega) only [go_sem, wn]) <;> (try omega) <;> fail))) | ((first | (with_reducible refine zu ?_ ?_ <;> intro hg) | with_reducible intro hg) <;> (first | (exfalso; simp at hg; done) | (have hg' := hg; (try simp only [hcs, beq_iff_eq, ge_iff_le, gt_iff_lt] at hg'); (try simp only [hg]))))) <;> (try simp (disch := omega) only [go_sem, wn]) <;> (repeat' with_reducible refine And.intro ?_ ?_) <;> (try (with_reducible refine hK _ ?_; clear hK K)))
  | omega)
    all_goals first | (exfalso; exact absurd (by assumption) h) | skip
    all_goals (refine zF rfl ?_ ?_ ?_ ?_; (iterate 3 (focus ((try simp (disch := omega) only [go_sem, wn]) <;> (try omega) <;> fail))); (try simp (disch := omega) only [go_sem, wn, I, B, S, zj]))
end Go.Proofs.YtainmipdnjcbkaaGreatDoor
namespace Go.Proofs.YtainmipdnjcbkaaGreatDoor
set_option linter.unusedVariables false
set_option linter.unusedSimpArgs false
open Go Go.RowKit
set_option maxRecDepth 100000
set_option linter.unusedSimpArgs false
theorem epN_ok : okS epN := by unfold okS; decide
theorem epoch_s_c (d : ADisk) (h : d.files.length * 48 ≤ 140737488351232) (hw : ∀ f, f ∈ d.files → f.wf) : acall Tryz.prog [] 22 [d.av] (ret (I (epochD d.files))) := by
  have hr := read_c d epN h hw
  have hz := read_z_c (readD d.files epN).1 (by have := read_len (l := d.files) epN; unfold okS; omega)
  unfold epochD
  generalize readD d.files epN = q at hr hz ⊢
  obtain ⟨s, e⟩ := q
  simp only at hr hz ⊢
  generalize readZ s = r at hz ⊢
  obtain ⟨z, f⟩ := r
  simp only at hz ⊢
  simp only [epN] at hr
  have he := epoch_c z
  generalize epZ z = ep at he ⊢
  refine zI Tryz.func22 rfl (by kernel_rfl) (by simp [Tryz.ntmps22]) ?_; simp only [Tryz.ntmps22, Tryz.results22, go_sem]
  (repeat' first
| (with_reducible refine AR.f ?_)
| refine zb (by decide) ?_
| (with_reducible refine AWP.cond rfl ?_ ?_ <;> intro hc <;> (try simp only [hcs, beq_iff_eq, ge_iff_le, gt_iff_lt] at hc))
| ((first | ((first | (with_reducible first | refine zR ?_ | refine zQ (by decide +kernel) ?_ | refine zD (by decide +kernel) ?_ | refine zE (by decide +kernel) ?_ | refine zG (by decide +kernel) ?_)); intro K hK) | ((first | refine zA hr ?_ ?_ ?_ ?_ ?_ | refine zA hz ?_ ?_ ?_ ?_ ?_ | refine zA he ?_ ?_ ?_ ?_ ?_); (focus exact rfl); (focus exact rfl); iterate 2 (focus ((try simp (disch := omega) only [go_sem, wn]) <;> (try omega) <;> fail))) | ((first | refine zX hr rfl ?_ ?_ | refine zX hz rfl ?_ ?_ | refine zX he rfl ?_ ?_); (focus ((try simp (disch := omega) only [go_sem, wn]) <;> (try omega) <;> fail))) | ((first | (with_reducible refine zu ?_ ?_ <;> intro hg) | with_reducible intro hg) <;> (first | (exfalso; simp at hg; done) | (have hg' := hg; (try simp only [hcs, beq_iff_eq, ge_iff_le, gt_iff_lt] at hg'); (try simp only [hg]))))) <;> (try simp (disch := omega) only [go_sem, wn]) <;> (repeat' with_reducible refine And.intro ?_ ?_) <;> (try (with_reducible refine hK _ ?_; clear hK K)))
| omega)
  all_goals first
    | (rw [if_pos (by assumption)]; (refine zF rfl ?_ ?_ ?_ ?_; (iterate 3 (focus ((try simp (disch := omega) only [go_sem, wn]) <;> (try omega) <;> fail))); (try simp (disch := omega) only [go_sem, wn, I, B, S, zj])); done)
    | (rw [if_neg (by omega), if_pos (by assumption)]; (refine zF rfl ?_ ?_ ?_ ?_; (iterate 3 (focus ((try simp (disch := omega) only [go_sem, wn]) <;> (try omega) <;> fail))); (try simp (disch := omega) only [go_sem, wn, I, B, S, zj])); done)
    | (rw [if_neg (by omega), if_neg (by omega)]; (refine zF rfl ?_ ?_ ?_ ?_; (iterate 3 (focus ((try simp (disch := omega) only [go_sem, wn]) <;> (try omega) <;> fail))); (try simp (disch := omega) only [go_sem, wn, I, B, S, zj])); done)
theorem readZ_err {s : List UInt8} (h : (readZ s).2 ≠ 0) : (readZ s).1 = 0 := by
  unfold readZ at h ⊢
  split at h
  · rename_i hc
    rw [if_pos hc]
    unfold mkZ at h ⊢
    split at h
    · rename_i hb; rw [if_pos hb]
    · exact absurd rfl h
  · rename_i hc; rw [if_neg hc]
theorem readZ_okI (s : List UInt8) : okI (readZ s).1 := by
  unfold readZ
  split
  · unfold mkZ
    split
    · exact ⟨by decide, by decide⟩
    · rename_i hb; unfold badZ at hb; simp only; constructor <;> omega
  · exact ⟨by decide, by decide⟩
theorem ref_epoch_s_c (d : ADisk) (h : d.files.length * 48 ≤ 140737488351232) (hw : ∀ f, f ∈ d.files → f.wf) : acall Tryz.prog [] 23 [d.av] (ret (I (epochD d.files))) := by
  have hr := ref_read_c d epN h hw
  have hz := zref_read_c (readD d.files epN).1 (by have := read_len (l := d.files) epN; unfold okS; omega)
  have hze := @readZ_err (readD d.files epN).1
  have he := ref_epoch_c (readZ (readD d.files epN).1).1 (readZ_okI _)
  unfold epochD
  generalize readD d.files epN = q at hr hz hze he ⊢
  obtain ⟨s, e⟩ := q
  simp only at hr hz hze he ⊢
  generalize readZ s = r at hz hze he ⊢
  obtain ⟨z, f⟩ := r
  simp only at hz hze he ⊢
  simp only [epN] at hr
  have hq : (if f ≠ 0 then 0 else epZ z) = epZ z := by
    split
    · rw [hze (by assumption)]; rfl
    · rfl
  rw [hq]
  generalize epZ z = ep at he ⊢
  refine zI Tryz.func23 rfl (by kernel_rfl) (by simp [Tryz.ntmps23]) ?_; simp only [Tryz.ntmps23, Tryz.results23, go_sem]
  (repeat' first
| (with_reducible refine AR.f ?_)
| refine zb (by decide) ?_
| (with_reducible refine AWP.cond rfl ?_ ?_ <;> intro hc <;> (try simp only [hcs, beq_iff_eq, ge_iff_le, gt_iff_lt] at hc))
| ((first | ((first | (with_reducible first | refine zR ?_ | refine zQ (by decide +kernel) ?_ | refine zD (by decide +kernel) ?_ | refine zE (by decide +kernel) ?_ | refine zG (by decide +kernel) ?_)); intro K hK) | ((first | refine zA hr ?_ ?_ ?_ ?_ ?_ | refine zA hz ?_ ?_ ?_ ?_ ?_ | refine zA he ?_ ?_ ?_ ?_ ?_); (focus exact rfl); (focus exact rfl); iterate 2 (focus ((try simp (disch := omega) only [go_sem, wn]) <;> (try omega) <;> fail))) | ((first | refine zX hr rfl ?_ ?_ | refine zX hz rfl ?_ ?_ | refine zX he rfl ?_ ?_); (focus ((try simp (disch := omega) only [go_sem, wn]) <;> (try omega) <;> fail))) | ((first | (with_reducible refine zu ?_ ?_ <;> intro hg) | with_reducible intro hg) <;> (first | (exfalso; simp at hg; done) | (have hg' := hg; (try simp only [hcs, beq_iff_eq, ge_iff_le, gt_iff_lt] at hg'); (try simp only [hg]))))) <;> (try simp (disch := omega) only [go_sem, wn]) <;> (repeat' with_reducible refine And.intro ?_ ?_) <;> (try (with_reducible refine hK _ ?_; clear hK K)))
| omega)
  all_goals first
    | (rw [if_pos (by assumption)]; (refine zF rfl ?_ ?_ ?_ ?_; (iterate 3 (focus ((try simp (disch := omega) only [go_sem, wn]) <;> (try omega) <;> fail))); (try simp (disch := omega) only [go_sem, wn, I, B, S, zj])); done)
    | (rw [if_neg (by omega)]; (refine zF rfl ?_ ?_ ?_ ?_; (iterate 3 (focus ((try simp (disch := omega) only [go_sem, wn]) <;> (try omega) <;> fail))); (try simp (disch := omega) only [go_sem, wn, I, B, S, zj])); done)
theorem remove_fwf {l : List AFile} {key : List UInt8} (h : ∀ f, f ∈ l → f.wf) : ∀ f, f ∈ (removeD l key).1.files → f.wf := by
  intro f hf
  unfold removeD at hf
  split at hf
  · cases hf
  · split at hf
    · exact h f (List.mem_of_mem_eraseIdx hf)
    · cases hf
def lessD (l : List AFile) : List AFile := if (removeD l epN).2 = 0 then (removeD l epN).1.files else l
theorem less_wf {l : List AFile} (h : l.length * 48 ≤ 140737488351232) (hw : ∀ f, f ∈ l → f.wf) : (lessD l).length * 48 ≤ 140737488351232 ∧ ∀ f, f ∈ lessD l → f.wf := by
  unfold lessD
  split
  · exact ⟨remove_wf h, remove_fwf hw⟩
  · exact ⟨h, hw⟩
theorem rem_eq (l : List AFile) (ep : Int) (h : (mkZ ep 0).2 = 0) : rememberD l ep = if (writeD (lessD l) epN (ztext (mkZ ep 0).1)).2 ≠ 0 then (default, (writeD (lessD l) epN (ztext (mkZ ep 0).1)).2) else changeD (writeD (lessD l) epN (ztext (mkZ ep 0).1)).1.files epN syncF := by
  unfold rememberD
  rw [if_neg (fun hh => hh h)]; rfl
theorem mkZ_good {ep : Int} (h : (mkZ ep 0).2 = 0) : goodZ (mkZ ep 0).1 := by
  unfold mkZ at h ⊢
  split at h
  · cases h
  · rename_i hb
    rw [if_neg hb]
    unfold badZ at hb; unfold goodZ; simp only; omega
theorem ztext_ok {z : Int} (h : goodZ z) : okS (ztext z) := by have := ztext_len h; unfold okS; omega
set_option maxHeartbeats 4000000 in
theorem remember_c (d : ADisk) (ep : Int) (h : d.files.length * 48 ≤ 140737488351232) (hw : ∀ f, f ∈ d.files → f.wf) : acall Tryz.prog [] 18 [d.av, I ep] (ret (.tup [(rememberD d.files ep).1.av, I (rememberD d.files ep).2])) := by
  have hmk := make_c ep 0
  by_cases hm : (mkZ ep 0).2 = 0
  case neg =>
    have e : rememberD d.files ep = (default, (mkZ ep 0).2) := by unfold rememberD; rw [if_pos hm]
    rw [e]
    generalize mkZ ep 0 = m at hm hmk ⊢
    refine zI Tryz.func18 rfl (by kernel_rfl) (by simp [Tryz.ntmps18]) ?_; simp only [Tryz.ntmps18, Tryz.results18, go_sem]
    (repeat' first
  | (with_reducible refine AR.f ?_)
  | refine zb (by decide) ?_
  | (with_reducible refine AWP.cond rfl ?_ ?_ <;> intro hc <;> (try simp only [hcs, beq_iff_eq, ge_iff_le, gt_iff_lt] at hc))
  | ((first | ((first | (with_reducible first | refine zR ?_ | refine zQ (by decide +kernel) ?_ | refine zD (by decide +kernel) ?_ | refine zE (by decide +kernel) ?_ | refine zG (by decide +kernel) ?_)); intro K hK) | ((first | refine zA hmk ?_ ?_ ?_ ?_ ?_); (focus exact rfl); (focus exact rfl); iterate 2 (focus ((try simp (disch := omega) only [go_sem, wn, two]) <;> (try omega) <;> fail))) | ((first | refine zX hmk rfl ?_ ?_); (focus ((try simp (disch := omega) only [go_sem, wn, two]) <;> (try omega) <;> fail))) | ((first | (with_reducible refine zu ?_ ?_ <;> intro hg) | with_reducible intro hg) <;> (first | (exfalso; simp at hg; done) | (have hg' := hg; (try simp only [hcs, beq_iff_eq, ge_iff_le, gt_iff_lt] at hg'); (try simp only [hg]))))) <;> (try simp (disch := omega) only [go_sem, wn, two]) <;> (repeat' with_reducible refine And.intro ?_ ?_) <;> (try (with_reducible refine hK _ ?_; clear hK K)))
  | omega)
    all_goals first | (exfalso; exact absurd (by assumption) hm) | (exfalso; exact absurd hm (by assumption)) | skip
    all_goals (refine zF rfl ?_ ?_ ?_ ?_; (iterate 3 (focus ((try simp (disch := omega) only [go_sem, wn, default]) <;> (try omega) <;> fail))); (try simp (disch := omega) only [go_sem, wn, default, I, B, S, zj]))
  rw [rem_eq _ _ hm]
  have hg := mkZ_good hm
  have ht := text_z_c (mkZ ep 0).1
  rw [textZ, if_pos hg] at ht
  have hrm := remove_c d epN h hw
  obtain ⟨l1, l2⟩ := less_wf h hw
  have hwr := write_c ⟨lessD d.files⟩ epN (ztext (mkZ ep 0).1) (ztext_ok hg) epN_ok l1 l2
  have hsy := sync_c (writeD (lessD d.files) epN (ztext (mkZ ep 0).1)).1 epN write_wf (write_files_wf epN_ok l2)
  have hls : lessD d.files = if (removeD d.files epN).2 = 0 then (removeD d.files epN).1.files else d.files := rfl
  generalize mkZ ep 0 = m at hm hmk ht hwr hsy ⊢
  obtain ⟨z, e0⟩ := m
  simp only at hm hmk ht hwr hsy ⊢
  subst hm
  generalize ztext z = s at ht hwr hsy ⊢
  generalize lessD d.files = L at hwr hsy hls ⊢
  generalize writeD L epN s = Q at hwr hsy ⊢
  obtain ⟨wd, we⟩ := Q
  simp only at hwr hsy ⊢
  generalize changeD wd.files epN syncF = R at hsy ⊢
  obtain ⟨sd, se⟩ := R
  simp only at hsy ⊢
  generalize removeD d.files epN = M at hrm hls
  obtain ⟨rd, re⟩ := M
  simp only at hrm hls
  simp only [epN] at hrm hwr hsy
  by_cases hre : re = 0
  · subst hre
    rw [if_pos rfl] at hls
    subst hls
    refine zI Tryz.func18 rfl (by kernel_rfl) (by simp [Tryz.ntmps18]) ?_; simp only [Tryz.ntmps18, Tryz.results18, go_sem]
    (repeat' first
  | (with_reducible refine AR.f ?_)
  | refine zb (by decide) ?_
  | (with_reducible refine AWP.cond rfl ?_ ?_ <;> intro hc <;> (try simp only [hcs, beq_iff_eq, ge_iff_le, gt_iff_lt] at hc))
  | ((first | ((first | (with_reducible first | refine zR ?_ | refine zQ (by decide +kernel) ?_ | refine zD (by decide +kernel) ?_ | refine zE (by decide +kernel) ?_ | refine zG (by decide +kernel) ?_)); intro K hK) | ((first | refine zA hmk ?_ ?_ ?_ ?_ ?_ | refine zA ht ?_ ?_ ?_ ?_ ?_ | refine zA hrm ?_ ?_ ?_ ?_ ?_ | refine zA hwr ?_ ?_ ?_ ?_ ?_ | refine zA hsy ?_ ?_ ?_ ?_ ?_); (focus exact rfl); (focus exact rfl); iterate 2 (focus ((try simp (disch := omega) only [go_sem, wn, two]) <;> (try omega) <;> fail))) | ((first | refine zN hrm rfl ?_ ?_ | refine zN hwr rfl ?_ ?_ | refine zN hsy rfl ?_ ?_ | refine zX hmk rfl ?_ ?_ | refine zX ht rfl ?_ ?_ | refine zX hrm rfl ?_ ?_ | refine zY hrm ?_ ?_ | refine zX hwr rfl ?_ ?_ | refine zY hwr ?_ ?_ | refine zX hsy rfl ?_ ?_ | refine zY hsy ?_ ?_); (focus ((try simp (disch := omega) only [go_sem, wn, two]) <;> (try omega) <;> fail))) | ((first | (with_reducible refine zu ?_ ?_ <;> intro hg) | with_reducible intro hg) <;> (first | (exfalso; simp at hg; done) | (have hg' := hg; (try simp only [hcs, beq_iff_eq, ge_iff_le, gt_iff_lt] at hg'); (try simp only [hg]))))) <;> (try simp (disch := omega) only [go_sem, wn, two]) <;> (repeat' with_reducible refine And.intro ?_ ?_) <;> (try (with_reducible refine hK _ ?_; clear hK K)))
  | omega)
    all_goals first
      | (rw [if_pos (by assumption)]; (refine zF rfl ?_ ?_ ?_ ?_; (iterate 3 (focus ((try simp (disch := omega) only [go_sem, wn, default]) <;> (try omega) <;> fail))); (try simp (disch := omega) only [go_sem, wn, default, I, B, S, zj])); done)
      | (rw [if_neg (by omega)]; (refine zF rfl ?_ ?_ ?_ ?_; (iterate 3 (focus ((try simp (disch := omega) only [go_sem, wn]) <;> (try omega) <;> fail))); (try simp (disch := omega) only [go_sem, wn, I, B, S, zj])); done)
  · rw [if_neg hre] at hls
    subst hls
    refine zI Tryz.func18 rfl (by kernel_rfl) (by simp [Tryz.ntmps18]) ?_; simp only [Tryz.ntmps18, Tryz.results18, go_sem]
    (repeat' first
  | (with_reducible refine AR.f ?_)
  | refine zb (by decide) ?_
  | (with_reducible refine AWP.cond rfl ?_ ?_ <;> intro hc <;> (try simp only [hcs, beq_iff_eq, ge_iff_le, gt_iff_lt] at hc))
  | ((first | ((first | (with_reducible first | refine zR ?_ | refine zQ (by decide +kernel) ?_ | refine zD (by decide +kernel) ?_ | refine zE (by decide +kernel) ?_ | refine zG (by decide +kernel) ?_)); intro K hK) | ((first | refine zA hmk ?_ ?_ ?_ ?_ ?_ | refine zA ht ?_ ?_ ?_ ?_ ?_ | refine zA hrm ?_ ?_ ?_ ?_ ?_ | refine zA hwr ?_ ?_ ?_ ?_ ?_ | refine zA hsy ?_ ?_ ?_ ?_ ?_); (focus exact rfl); (focus exact rfl); iterate 2 (focus ((try simp (disch := omega) only [go_sem, wn, two]) <;> (try omega) <;> fail))) | ((first | refine zN hrm rfl ?_ ?_ | refine zN hwr rfl ?_ ?_ | refine zN hsy rfl ?_ ?_ | refine zX hmk rfl ?_ ?_ | refine zX ht rfl ?_ ?_ | refine zX hrm rfl ?_ ?_ | refine zY hrm ?_ ?_ | refine zX hwr rfl ?_ ?_ | refine zY hwr ?_ ?_ | refine zX hsy rfl ?_ ?_ | refine zY hsy ?_ ?_); (focus ((try simp (disch := omega) only [go_sem, wn, two]) <;> (try omega) <;> fail))) | ((first | (with_reducible refine zu ?_ ?_ <;> intro hg) | with_reducible intro hg) <;> (first | (exfalso; simp at hg; done) | (have hg' := hg; (try simp only [hcs, beq_iff_eq, ge_iff_le, gt_iff_lt] at hg'); (try simp only [hg]))))) <;> (try simp (disch := omega) only [go_sem, wn, two]) <;> (repeat' with_reducible refine And.intro ?_ ?_) <;> (try (with_reducible refine hK _ ?_; clear hK K)))
  | omega)
    all_goals first | (exfalso; exact absurd (by assumption) hre) | skip
    all_goals first
      | (rw [if_pos (by assumption)]; (refine zF rfl ?_ ?_ ?_ ?_; (iterate 3 (focus ((try simp (disch := omega) only [go_sem, wn, default]) <;> (try omega) <;> fail))); (try simp (disch := omega) only [go_sem, wn, default, I, B, S, zj])); done)
      | (rw [if_neg (by omega)]; (refine zF rfl ?_ ?_ ?_ ?_; (iterate 3 (focus ((try simp (disch := omega) only [go_sem, wn]) <;> (try omega) <;> fail))); (try simp (disch := omega) only [go_sem, wn, I, B, S, zj])); done)
set_option maxHeartbeats 4000000 in
theorem ref_remember_c (d : ADisk) (ep : Int) (h : d.files.length * 48 ≤ 140737488351232) (hw : ∀ f, f ∈ d.files → f.wf) : acall Tryz.prog [] 19 [d.av, I ep] (ret (.tup [(rememberD d.files ep).1.av, I (rememberD d.files ep).2])) := by
  have hmk := ref_make_c ep 0
  by_cases hm : (mkZ ep 0).2 = 0
  case neg =>
    have e : rememberD d.files ep = (default, (mkZ ep 0).2) := by unfold rememberD; rw [if_pos hm]
    rw [e]
    generalize mkZ ep 0 = m at hm hmk ⊢
    refine zI Tryz.func19 rfl (by kernel_rfl) (by simp [Tryz.ntmps19]) ?_; simp only [Tryz.ntmps19, Tryz.results19, go_sem]
    (repeat' first
  | (with_reducible refine AR.f ?_)
  | refine zb (by decide) ?_
  | (with_reducible refine AWP.cond rfl ?_ ?_ <;> intro hc <;> (try simp only [hcs, beq_iff_eq, ge_iff_le, gt_iff_lt] at hc))
  | ((first | ((first | (with_reducible first | refine zR ?_ | refine zQ (by decide +kernel) ?_ | refine zD (by decide +kernel) ?_ | refine zE (by decide +kernel) ?_ | refine zG (by decide +kernel) ?_)); intro K hK) | ((first | refine zA hmk ?_ ?_ ?_ ?_ ?_); (focus exact rfl); (focus exact rfl); iterate 2 (focus ((try simp (disch := omega) only [go_sem, wn, two]) <;> (try omega) <;> fail))) | ((first | refine zX hmk rfl ?_ ?_); (focus ((try simp (disch := omega) only [go_sem, wn, two]) <;> (try omega) <;> fail))) | ((first | (with_reducible refine zu ?_ ?_ <;> intro hg) | with_reducible intro hg) <;> (first | (exfalso; simp at hg; done) | (have hg' := hg; (try simp only [hcs, beq_iff_eq, ge_iff_le, gt_iff_lt] at hg'); (try simp only [hg]))))) <;> (try simp (disch := omega) only [go_sem, wn, two]) <;> (repeat' with_reducible refine And.intro ?_ ?_) <;> (try (with_reducible refine hK _ ?_; clear hK K)))
  | omega)
    all_goals first | (exfalso; exact absurd (by assumption) hm) | (exfalso; exact absurd hm (by assumption)) | skip
    all_goals (refine zF rfl ?_ ?_ ?_ ?_; (iterate 3 (focus ((try simp (disch := omega) only [go_sem, wn, default]) <;> (try omega) <;> fail))); (try simp (disch := omega) only [go_sem, wn, default, I, B, S, zj]))
  rw [rem_eq _ _ hm]
  have hg := mkZ_good hm
  have ht := ref_text_z_c (mkZ ep 0).1 (by unfold goodZ at hg; unfold okI; omega)
  rw [textZ, if_pos hg] at ht
  have hrm := ref_remove_c d epN h hw
  obtain ⟨l1, l2⟩ := less_wf h hw
  have hwr := ref_write_c ⟨lessD d.files⟩ epN (ztext (mkZ ep 0).1) (ztext_ok hg) epN_ok l1 l2
  have hsy := ref_sync_c (writeD (lessD d.files) epN (ztext (mkZ ep 0).1)).1 epN write_wf (write_files_wf epN_ok l2)
  have hls : lessD d.files = if (removeD d.files epN).2 = 0 then (removeD d.files epN).1.files else d.files := rfl
  generalize mkZ ep 0 = m at hm hmk ht hwr hsy ⊢
  obtain ⟨z, e0⟩ := m
  simp only at hm hmk ht hwr hsy ⊢
  subst hm
  generalize ztext z = s at ht hwr hsy ⊢
  generalize lessD d.files = L at hwr hsy hls ⊢
  generalize writeD L epN s = Q at hwr hsy ⊢
  obtain ⟨wd, we⟩ := Q
  simp only at hwr hsy ⊢
  generalize changeD wd.files epN syncF = R at hsy ⊢
  obtain ⟨sd, se⟩ := R
  simp only at hsy ⊢
  generalize removeD d.files epN = M at hrm hls
  obtain ⟨rd, re⟩ := M
  simp only at hrm hls
  simp only [epN] at hrm hwr hsy
  by_cases hre : re = 0
  · subst hre
    rw [if_pos rfl] at hls
    subst hls
    refine zI Tryz.func19 rfl (by kernel_rfl) (by simp [Tryz.ntmps19]) ?_; simp only [Tryz.ntmps19, Tryz.results19, go_sem]
    (repeat' first
  | (with_reducible refine AR.f ?_)
  | refine zb (by decide) ?_
  | (with_reducible refine AWP.cond rfl ?_ ?_ <;> intro hc <;> (try simp only [hcs, beq_iff_eq, ge_iff_le, gt_iff_lt] at hc))
  | ((first | ((first | (with_reducible first | refine zR ?_ | refine zQ (by decide +kernel) ?_ | refine zD (by decide +kernel) ?_ | refine zE (by decide +kernel) ?_ | refine zG (by decide +kernel) ?_)); intro K hK) | ((first | refine zA hmk ?_ ?_ ?_ ?_ ?_ | refine zA ht ?_ ?_ ?_ ?_ ?_ | refine zA hrm ?_ ?_ ?_ ?_ ?_ | refine zA hwr ?_ ?_ ?_ ?_ ?_ | refine zA hsy ?_ ?_ ?_ ?_ ?_); (focus exact rfl); (focus exact rfl); iterate 2 (focus ((try simp (disch := omega) only [go_sem, wn, two]) <;> (try omega) <;> fail))) | ((first | refine zN hrm rfl ?_ ?_ | refine zN hwr rfl ?_ ?_ | refine zN hsy rfl ?_ ?_ | refine zX hmk rfl ?_ ?_ | refine zX ht rfl ?_ ?_ | refine zX hrm rfl ?_ ?_ | refine zY hrm ?_ ?_ | refine zX hwr rfl ?_ ?_ | refine zY hwr ?_ ?_ | refine zX hsy rfl ?_ ?_ | refine zY hsy ?_ ?_); (focus ((try simp (disch := omega) only [go_sem, wn, two]) <;> (try omega) <;> fail))) | ((first | (with_reducible refine zu ?_ ?_ <;> intro hg) | with_reducible intro hg) <;> (first | (exfalso; simp at hg; done) | (have hg' := hg; (try simp only [hcs, beq_iff_eq, ge_iff_le, gt_iff_lt] at hg'); (try simp only [hg]))))) <;> (try simp (disch := omega) only [go_sem, wn, two]) <;> (repeat' with_reducible refine And.intro ?_ ?_) <;> (try (with_reducible refine hK _ ?_; clear hK K)))
  | omega)
    all_goals first
      | (rw [if_pos (by assumption)]; (refine zF rfl ?_ ?_ ?_ ?_; (iterate 3 (focus ((try simp (disch := omega) only [go_sem, wn, default]) <;> (try omega) <;> fail))); (try simp (disch := omega) only [go_sem, wn, default, I, B, S, zj])); done)
      | (rw [if_neg (by omega)]; (refine zF rfl ?_ ?_ ?_ ?_; (iterate 3 (focus ((try simp (disch := omega) only [go_sem, wn]) <;> (try omega) <;> fail))); (try simp (disch := omega) only [go_sem, wn, I, B, S, zj])); done)
  · rw [if_neg hre] at hls
    subst hls
    refine zI Tryz.func19 rfl (by kernel_rfl) (by simp [Tryz.ntmps19]) ?_; simp only [Tryz.ntmps19, Tryz.results19, go_sem]
    (repeat' first
  | (with_reducible refine AR.f ?_)
  | refine zb (by decide) ?_
  | (with_reducible refine AWP.cond rfl ?_ ?_ <;> intro hc <;> (try simp only [hcs, beq_iff_eq, ge_iff_le, gt_iff_lt] at hc))
  | ((first | ((first | (with_reducible first | refine zR ?_ | refine zQ (by decide +kernel) ?_ | refine zD (by decide +kernel) ?_ | refine zE (by decide +kernel) ?_ | refine zG (by decide +kernel) ?_)); intro K hK) | ((first | refine zA hmk ?_ ?_ ?_ ?_ ?_ | refine zA ht ?_ ?_ ?_ ?_ ?_ | refine zA hrm ?_ ?_ ?_ ?_ ?_ | refine zA hwr ?_ ?_ ?_ ?_ ?_ | refine zA hsy ?_ ?_ ?_ ?_ ?_); (focus exact rfl); (focus exact rfl); iterate 2 (focus ((try simp (disch := omega) only [go_sem, wn, two]) <;> (try omega) <;> fail))) | ((first | refine zN hrm rfl ?_ ?_ | refine zN hwr rfl ?_ ?_ | refine zN hsy rfl ?_ ?_ | refine zX hmk rfl ?_ ?_ | refine zX ht rfl ?_ ?_ | refine zX hrm rfl ?_ ?_ | refine zY hrm ?_ ?_ | refine zX hwr rfl ?_ ?_ | refine zY hwr ?_ ?_ | refine zX hsy rfl ?_ ?_ | refine zY hsy ?_ ?_); (focus ((try simp (disch := omega) only [go_sem, wn, two]) <;> (try omega) <;> fail))) | ((first | (with_reducible refine zu ?_ ?_ <;> intro hg) | with_reducible intro hg) <;> (first | (exfalso; simp at hg; done) | (have hg' := hg; (try simp only [hcs, beq_iff_eq, ge_iff_le, gt_iff_lt] at hg'); (try simp only [hg]))))) <;> (try simp (disch := omega) only [go_sem, wn, two]) <;> (repeat' with_reducible refine And.intro ?_ ?_) <;> (try (with_reducible refine hK _ ?_; clear hK K)))
  | omega)
    all_goals first | (exfalso; exact absurd (by assumption) hre) | skip
    all_goals first
      | (rw [if_pos (by assumption)]; (refine zF rfl ?_ ?_ ?_ ?_; (iterate 3 (focus ((try simp (disch := omega) only [go_sem, wn, default]) <;> (try omega) <;> fail))); (try simp (disch := omega) only [go_sem, wn, default, I, B, S, zj])); done)
      | (rw [if_neg (by omega)]; (refine zF rfl ?_ ?_ ?_ ?_; (iterate 3 (focus ((try simp (disch := omega) only [go_sem, wn]) <;> (try omega) <;> fail))); (try simp (disch := omega) only [go_sem, wn, I, B, S, zj])); done)
set_option maxHeartbeats 4000000 in
theorem boot_c (id : Int) (d : ADisk) (h : d.files.length * 48 ≤ 140737488351232) (hw : ∀ f, f ∈ d.files → f.wf) : acall Tryz.prog [] 15 [I id, d.av] (ret (.tup [(bootS id d.files).1.av, I (bootS id d.files).2])) := by
  have he := epoch_s_c d h hw
  have hr := recover_c d h hw
  unfold bootS
  generalize epochD d.files = ep at he ⊢
  generalize recoverD d.files = R at hr ⊢
  obtain ⟨l, d2, e⟩ := R
  simp only at hr ⊢
  refine zI Tryz.func15 rfl (by kernel_rfl) (by simp [Tryz.ntmps15]) ?_; simp only [Tryz.ntmps15, Tryz.results15, go_sem]
  (repeat' first
| (with_reducible refine AR.f ?_)
| refine zb (by decide) ?_
| (with_reducible refine AWP.cond rfl ?_ ?_ <;> intro hc <;> (try simp only [hcs, beq_iff_eq, ge_iff_le, gt_iff_lt] at hc))
| ((first | ((first | refine zP ((Plan.takes [1, 2, 3, 4] (.fork 0 (Plan.takes [5, 6, 7, 8] .done) 5 (Plan.takes [0, 6, 7, 8] .done)))) (by decide +kernel) ?_ | (with_reducible first | refine zR ?_ | refine zQ (by decide +kernel) ?_ | refine zD (by decide +kernel) ?_ | refine zE (by decide +kernel) ?_ | refine zG (by decide +kernel) ?_)); intro K hK) | ((first | refine zA he ?_ ?_ ?_ ?_ ?_ | refine zA new_c ?_ ?_ ?_ ?_ ?_); (focus exact rfl); (focus exact rfl); iterate 2 (focus ((try simp (disch := omega) only [go_sem, wn]) <;> (try omega) <;> fail))) | ((first | refine zN hr rfl ?_ ?_ | refine zN new_c rfl ?_ ?_ | refine zX he rfl ?_ ?_ | refine zY hr ?_ ?_ | refine zX new_c rfl ?_ ?_ | refine zY new_c ?_ ?_); (focus ((try simp (disch := omega) only [go_sem, wn]) <;> (try omega) <;> fail))) | ((first | (with_reducible refine zu ?_ ?_ <;> intro hg) | with_reducible intro hg) <;> (first | (exfalso; simp at hg; done) | (have hg' := hg; (try simp only [hcs, beq_iff_eq, ge_iff_le, gt_iff_lt] at hg'); (try simp only [hg]))))) <;> (try simp (disch := omega) only [go_sem, wn]) <;> (repeat' with_reducible refine And.intro ?_ ?_) <;> (try (with_reducible refine hK _ ?_; clear hK K)))
| omega)
  all_goals first
    | (rw [if_pos (by omega)]; (refine zF rfl ?_ ?_ ?_ ?_; (iterate 3 (focus ((try simp (disch := omega) only [go_sem, wn, default]) <;> (try omega) <;> fail))); (try simp (disch := omega) only [go_sem, wn, default, I, B, S, zj])); done)
    | (rw [if_neg (by omega), if_pos (by omega)]; (refine zF rfl ?_ ?_ ?_ ?_; (iterate 3 (focus ((try simp (disch := omega) only [go_sem, wn, default]) <;> (try omega) <;> fail))); (try simp (disch := omega) only [go_sem, wn, default, I, B, S, zj])); done)
    | (rw [if_neg (by omega), if_neg (by omega)]; (refine zF rfl ?_ ?_ ?_ ?_; (iterate 3 (focus ((try simp (disch := omega) only [go_sem, wn, t00]) <;> (try omega) <;> fail))); (try simp (disch := omega) only [go_sem, wn, t00, I, B, S, zj])); done)
set_option maxHeartbeats 4000000 in
theorem ref_boot_c (id : Int) (d : ADisk) (h : d.files.length * 48 ≤ 140737488351232) (hw : ∀ f, f ∈ d.files → f.wf) : acall Tryz.prog [] 17 [I id, d.av] (ret (.tup [(bootS id d.files).1.av, I (bootS id d.files).2])) := by
  have he := ref_epoch_s_c d h hw
  have hr := ref_recover_c d h hw
  unfold bootS
  generalize epochD d.files = ep at he ⊢
  generalize recoverD d.files = R at hr ⊢
  obtain ⟨l, d2, e⟩ := R
  simp only at hr ⊢
  refine zI Tryz.func17 rfl (by kernel_rfl) (by simp [Tryz.ntmps17]) ?_; simp only [Tryz.ntmps17, Tryz.results17, go_sem]
  (repeat' first
| (with_reducible refine AR.f ?_)
| refine zb (by decide) ?_
| (with_reducible refine AWP.cond rfl ?_ ?_ <;> intro hc <;> (try simp only [hcs, beq_iff_eq, ge_iff_le, gt_iff_lt] at hc))
| ((first | ((first | refine zP ((Plan.takes [1, 2, 4] (.fork 0 (Plan.takes [3, 5, 6, 7, 8, 9] .done) 3 (Plan.takes [5] (.fork 0 (Plan.takes [6, 7, 8, 9] .done) 6 (Plan.takes [0, 7, 8, 9] .done)))))) (by decide +kernel) ?_ | (with_reducible first | refine zR ?_ | refine zQ (by decide +kernel) ?_ | refine zD (by decide +kernel) ?_ | refine zE (by decide +kernel) ?_ | refine zG (by decide +kernel) ?_)); intro K hK) | ((first | refine zA he ?_ ?_ ?_ ?_ ?_ | refine zA ref_new_c ?_ ?_ ?_ ?_ ?_); (focus exact rfl); (focus exact rfl); iterate 2 (focus ((try simp (disch := omega) only [go_sem, wn]) <;> (try omega) <;> fail))) | ((first | refine zN hr rfl ?_ ?_ | refine zN ref_new_c rfl ?_ ?_ | refine zX he rfl ?_ ?_ | refine zY hr ?_ ?_ | refine zX ref_new_c rfl ?_ ?_ | refine zY ref_new_c ?_ ?_); (focus ((try simp (disch := omega) only [go_sem, wn]) <;> (try omega) <;> fail))) | ((first | (with_reducible refine zu ?_ ?_ <;> intro hg) | with_reducible intro hg) <;> (first | (exfalso; simp at hg; done) | (have hg' := hg; (try simp only [hcs, beq_iff_eq, ge_iff_le, gt_iff_lt] at hg'); (try simp only [hg]))))) <;> (try simp (disch := omega) only [go_sem, wn]) <;> (repeat' with_reducible refine And.intro ?_ ?_) <;> (try (with_reducible refine hK _ ?_; clear hK K)))
| omega)
  all_goals first
    | (rw [if_pos (by omega)]; (refine zF rfl ?_ ?_ ?_ ?_; (iterate 3 (focus ((try simp (disch := omega) only [go_sem, wn, default]) <;> (try omega) <;> fail))); (try simp (disch := omega) only [go_sem, wn, default, I, B, S, zj])); done)
    | (rw [if_neg (by omega), if_pos (by omega)]; (refine zF rfl ?_ ?_ ?_ ?_; (iterate 3 (focus ((try simp (disch := omega) only [go_sem, wn, default]) <;> (try omega) <;> fail))); (try simp (disch := omega) only [go_sem, wn, default, I, B, S, zj])); done)
    | (rw [if_neg (by omega), if_neg (by omega)]; (refine zF rfl ?_ ?_ ?_ ?_; (iterate 3 (focus ((try simp (disch := omega) only [go_sem, wn, t00]) <;> (try omega) <;> fail))); (try simp (disch := omega) only [go_sem, wn, t00, I, B, S, zj])); done)
theorem remember_lenD (l : List AFile) (ep : Int) : (rememberD l ep).1.files.length * 48 ≤ 140737488351232 := by
  by_cases hm : (mkZ ep 0).2 = 0
  · rw [rem_eq _ _ hm]
    split
    · exact (by decide : ([] : List AFile).length * 48 ≤ 140737488351232)
    · exact change_wf write_wf
  · have e : rememberD l ep = (default, (mkZ ep 0).2) := by unfold rememberD; rw [if_pos hm]
    rw [e]
    exact (by decide : ([] : List AFile).length * 48 ≤ 140737488351232)
theorem boot_lenS (id : Int) (l : List AFile) : lenS (bootS id l).1 := by
  unfold bootS
  split
  · exact default_lenS
  split
  · exact default_lenS
  · exact ⟨recover_wf, recover_cnt l, t00_wf, (by decide : 0 * 32 ≤ 140737488351232)⟩
set_option maxHeartbeats 8000000 in
theorem storeBoots_w (id : Int) (d : ADisk) (ep : Int) (h : d.files.length * 48 ≤ 140737488351232) (hw : ∀ f, f ∈ d.files → f.wf) : acall Tryz.prog [] 3 [I id, d.av, I ep] (ret (B true)) := by
  have hcp := ref_copied_d_c d h
  have h1 := boot_c id d h hw
  have h2 := ref_boot_c id d h hw
  have h3 := remember_c d ep h hw
  have h4 := ref_remember_c d ep h hw
  have h5 := epoch_s_c d h hw
  have h6 := ref_epoch_s_c d h hw
  have s1 := sameServer_c _ (boot_lenS id d.files)
  have s2 := (same_disk_c (rememberD d.files ep).1 (rememberD d.files ep).1 (remember_lenD _ _) (remember_lenD _ _)).re (congrArg B (decide_eq_true rfl))
  generalize bootS id d.files = q at h1 h2 s1
  generalize rememberD d.files ep = r at h3 h4 s2
  generalize epochD d.files = u at h5 h6
  obtain ⟨a, e⟩ := q
  obtain ⟨b, f⟩ := r
  simp only at h1 h2 h3 h4 s1 s2
  refine zI Tryz.func3 rfl (by kernel_rfl) (by simp [Tryz.ntmps3]) ?_; simp only [Tryz.ntmps3, Tryz.results3, go_sem]
  (repeat' first
| (with_reducible refine AR.f ?_)
| refine zb (by decide) ?_
| (with_reducible refine AWP.cond rfl ?_ ?_ <;> intro hc <;> (try simp only [hcs, beq_iff_eq, ge_iff_le, gt_iff_lt] at hc))
| ((first | ((first | refine zP ((Plan.takes [0, 1, 2, 3, 4, 5, 6, 7, 8, 9, 10, 11, 12, 13, 14, 15, 16, 17, 18, 19] (.fork 20 (.fork 21 (Plan.takes [22, 23, 24, 25, 26, 27, 28, 29] .done) 22 (Plan.takes [21, 23, 24, 25, 26, 27, 28, 29] .done)) 22 (Plan.takes [20, 21, 23, 24, 25, 26, 27, 28, 29] .done)))) (by decide +kernel) ?_ | (with_reducible first | refine zR ?_ | refine zQ (by decide +kernel) ?_ | refine zD (by decide +kernel) ?_ | refine zE (by decide +kernel) ?_ | refine zG (by decide +kernel) ?_)); intro K hK) | ((first | refine zA hcp ?_ ?_ ?_ ?_ ?_ | refine zA h1 ?_ ?_ ?_ ?_ ?_ | refine zA h2 ?_ ?_ ?_ ?_ ?_ | refine zA h3 ?_ ?_ ?_ ?_ ?_ | refine zA h4 ?_ ?_ ?_ ?_ ?_ | refine zA h5 ?_ ?_ ?_ ?_ ?_ | refine zA h6 ?_ ?_ ?_ ?_ ?_ | refine zA s1 ?_ ?_ ?_ ?_ ?_ | refine zA s2 ?_ ?_ ?_ ?_ ?_ | refine zA boots_c ?_ ?_ ?_ ?_ ?_); (focus exact rfl); (focus exact rfl); iterate 2 (focus ((try simp (disch := omega) only [go_sem, wn]) <;> (try omega) <;> fail))) | ((first | refine zN hcp rfl ?_ ?_ | refine zN h1 rfl ?_ ?_ | refine zN h2 rfl ?_ ?_ | refine zN h3 rfl ?_ ?_ | refine zN h4 rfl ?_ ?_ | refine zX hcp rfl ?_ ?_ | refine zY hcp ?_ ?_ | refine zX h1 rfl ?_ ?_ | refine zY h1 ?_ ?_ | refine zX h2 rfl ?_ ?_ | refine zY h2 ?_ ?_ | refine zX h3 rfl ?_ ?_ | refine zY h3 ?_ ?_ | refine zX h4 rfl ?_ ?_ | refine zY h4 ?_ ?_ | refine zX h5 rfl ?_ ?_ | refine zX h6 rfl ?_ ?_ | refine zX s1 rfl ?_ ?_ | refine zX s2 rfl ?_ ?_ | refine zX boots_c rfl ?_ ?_); (focus ((try simp (disch := omega) only [go_sem, wn]) <;> (try omega) <;> fail))) | ((first | (with_reducible refine zu ?_ ?_ <;> intro hg) | with_reducible intro hg) <;> (first | (exfalso; simp at hg; done) | (have hg' := hg; (try simp only [hcs, beq_iff_eq, ge_iff_le, gt_iff_lt] at hg'); (try simp only [hg]))))) <;> (try simp (disch := omega) only [go_sem, wn]) <;> (repeat' with_reducible refine And.intro ?_ ?_) <;> (try (with_reducible refine hK _ ?_; clear hK K)))
| omega)
  all_goals (refine zF rfl ?_ ?_ ?_ ?_; (iterate 3 (focus ((try simp (disch := omega) only [go_sem, wn]) <;> (try omega) <;> fail))); (try simp (disch := omega) only [go_sem, wn, I, B, S, zj]))
theorem storeBoots_u (dss : List (List DV)) (h : typeds T 6 Tryz.f3.params.toList dss) (hs : ∀ cs, cs ∈ dss → ∀ c, c ∈ cs → SmallD 1048576 c) : acall Tryz.prog [] 3 (aargs T Tryz.f3.params.toList dss) (fun v _ => v = B true) := by
  rw [Tryz.params3] at h ⊢
  simp only [List.toList_toArray, typeds] at h
  obtain ⟨c0, d0, rfl, h0, c1, d1, rfl, h1, c2, d2, rfl, h2, rfl⟩ := h
  have s0 := hs c0 (by simp)
  have s1 := hs c1 (by simp)
  have s2 := hs c2 (by simp)
  obtain ⟨id, rfl, w_id⟩ := ty_int (m := 5) (by simp only [T_3, ty3]) h0
  obtain ⟨d, rfl, w_d⟩ := ADisk_typed (m := 2) h1
  obtain ⟨epoch, rfl, w_epoch⟩ := ty_int (m := 5) (by simp only [T_3, ty3]) h2
  have u_id := s0
  have u_d := s1
  have u_epoch := s2
  simp only [List.toList_toArray, aargs, aarg, TI.agg_mk, T_3, ty3, T_24, ty24]
  exact (storeBoots_w id d epoch w_d.1 w_d.2).mono fun _ _ h => h.1
end Go.Proofs.YtainmipdnjcbkaaGreatDoor
