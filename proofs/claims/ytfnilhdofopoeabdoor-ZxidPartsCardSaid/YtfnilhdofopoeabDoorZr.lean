/- Contracts of zxid.Read and its reference. No condition. -/
import Derived.Test.YtfnilhdofopoeabDoorIx
import Derived.Test.YtfnilhdofopoeabDoorDe
import Derived.Test.YtfnilhdofopoeabDoorZx
import Derived.Test.YtfnilhdofopoeabDoorPn
import Derived.Lib.IndexLaws
namespace Go.Proofs.YtfnilhdofopoeabDoor
set_option linter.unusedVariables false
set_option linter.unusedSimpArgs false
open Go Go.RowKit
set_option maxRecDepth 100000
set_option linter.unusedSimpArgs false

def isDig (c : UInt8) : Bool := decide (48 ≤ c.toNat ∧ c.toNat ≤ 57)
def valS (t : List UInt8) : Nat := t.foldl (fun n c => n * 10 + (c.toNat - 48)) 0
theorem valS_snoc (t : List UInt8) (k : Nat) (h : k < t.length) : valS (t.take (k + 1)) = valS (t.take k) * 10 + ((t.getD k 0).toNat - 48) := by
  unfold valS
  have : t.take (k + 1) = t.take k ++ [t.getD k 0] := take_snoc t k h
  rw [this, List.foldl_append]; rfl
theorem valS_lt (t : List UInt8) : t.all isDig = true → valS t < 10 ^ t.length := by
  have : ∀ (t : List UInt8) (n : Nat), t.all isDig = true → t.foldl (fun n c => n * 10 + (c.toNat - 48)) n < (n + 1) * 10 ^ t.length := by
    intro t
    induction t with
    | nil => intro n _; simp
    | cons c t ih =>
      intro n h
      simp only [List.all_cons, Bool.and_eq_true] at h
      have hc := h.1
      unfold isDig at hc
      rw [decide_eq_true_eq] at hc
      have := ih (n * 10 + (c.toNat - 48)) h.2
      simp only [List.foldl_cons, List.length_cons, Nat.pow_succ]
      refine Nat.lt_of_lt_of_le this ?_
      have e : (n + 1) * (10 ^ t.length * 10) = ((n + 1) * 10) * 10 ^ t.length := by rw [Nat.mul_comm (10 ^ t.length) 10, Nat.mul_assoc]
      rw [e]
      exact Nat.mul_le_mul_right _ (by omega)
  intro h
  have := this t 0 h
  simpa [valS] using this
def smallB (t : List UInt8) : Bool := !decide (t = []) && (decide (t.length ≤ 10) && (!(decide (1 < t.length) && decide (((t.getD 0 0).toNat : Int) = 48)) && t.all isDig))
def smallP (t : List UInt8) : Int × Bool := if smallB t = true then ((valS t : Nat), true) else (0, false)
def cutP (s : List UInt8) (c : UInt8) : (List UInt8 × List UInt8) × Bool := if 0 ≤ Lib.indexByte s c then ((s.take (Lib.indexByte s c).toNat, s.drop ((Lib.indexByte s c).toNat + 1)), true) else ((s, []), false)
theorem index_lt (s : List UInt8) (c : UInt8) : Lib.indexByte s c < s.length := by
  induction s with
  | nil => simp [Lib.indexByte]
  | cons b s ih =>
    unfold Lib.indexByte
    split
    · simp
    · split <;> simp <;> omega
theorem take_drop_full {α : Type} (l : List α) (k : Nat) : List.take (l.length - k) (List.drop k l) = List.drop k l := List.take_of_length_le (by simp)
theorem toNat_ad1 (n : Nat) : ((n : Int) + 1).toNat = n + 1 := by omega
theorem wrap_u8c (c : UInt8) (h : 48 ≤ c.toNat) : IntKind.u8.wrap ((c.toNat : Int) - 48) = ((c.toNat - 48 : Nat) : Int) := by
  have := c.toNat_lt
  simp [IntKind.wrap, IntKind.bits, IntKind.signed]; omega
theorem valS_le {t : List UInt8} (h : t.all isDig = true) (hl : t.length ≤ 10) : valS t ≤ 9999999999 := by
  have := valS_lt t h
  have h2 : 10 ^ t.length ≤ 10 ^ 10 := Nat.pow_le_pow_right (by decide) hl
  omega
theorem cutP_ok (s : List UInt8) (c : UInt8) (h : okS s) : okS (cutP s c).1.1 ∧ okS (cutP s c).1.2 := by
  unfold okS at *
  unfold cutP
  split
  · simp only [List.length_take, List.length_drop]; omega
  · simp only [List.length_nil]; omega
def readZ (s : List UInt8) : Int × Int := if (cutP s 46).2 = true ∧ smallB (cutP s 46).1.1 = true ∧ smallB (cutP s 46).1.2 = true then mkZ (valS (cutP s 46).1.1) (valS (cutP s 46).1.2) else (0, 2)
theorem smallP_2 (t : List UInt8) : (smallP t).2 = smallB t := by unfold smallP; cases h : smallB t <;> simp
theorem smallP_1 {t : List UInt8} (h : smallB t = true) : (smallP t).1 = valS t := by unfold smallP; rw [if_pos h]
theorem dg_lt {c : UInt8} (h : isDig c = true) : c.toNat - 48 < 10 ∧ 48 ≤ c.toNat := by
  unfold isDig at h; rw [decide_eq_true_eq] at h; omega
theorem dig_back {c : UInt8} (h : isDig c = true) (m : Nat) : dig (m * 10 + (c.toNat - 48)) = c := by
  have := dg_lt h
  unfold dig
  rw [show 48 + (m * 10 + (c.toNat - 48)) % 10 = c.toNat from by omega]
  simp
theorem valS_app (u : List UInt8) (c : UInt8) : valS (u ++ [c]) = valS u * 10 + (c.toNat - 48) := by
  unfold valS; rw [List.foldl_append]; rfl
theorem val_mono (t : List UInt8) : ∀ n, n ≤ t.foldl (fun n c => n * 10 + (c.toNat - 48)) n := by
  induction t with
  | nil => intro n; exact Nat.le_refl _
  | cons c t ih => intro n; exact Nat.le_trans (by omega) (ih (n * 10 + (c.toNat - 48)))
theorem valS_pos {t : List UInt8} (h : t.all isDig = true) (h0 : t ≠ []) (h1 : (t.getD 0 0).toNat ≠ 48) : 0 < valS t := by
  cases t with
  | nil => exact absurd rfl h0
  | cons c t =>
    simp only [List.all_cons, Bool.and_eq_true] at h
    have := dg_lt h.1
    have h1' : c.toNat ≠ 48 := h1
    exact Nat.lt_of_lt_of_le (by show 0 < 0 * 10 + (c.toNat - 48); omega) (val_mono t _)
theorem decB_val : ∀ (k : Nat) (t : List UInt8), t.length = k → t.all isDig = true → t ≠ [] → (1 < t.length → (t.getD 0 0).toNat ≠ 48) → decB (valS t) = t := by
  intro k
  induction k using Nat.strongRecOn with
  | _ k ih =>
    intro t hl hd h0 hz
    rcases List.eq_nil_or_concat t with e | ⟨u, c, e⟩
    · exact absurd e h0
    rw [List.concat_eq_append] at e
    subst e
    have hd2 := hd
    rw [List.all_append, Bool.and_eq_true] at hd2
    have hc : isDig c = true := by simpa using hd2.2
    have hc2 := dg_lt hc
    rw [valS_app]
    by_cases hu : u = []
    · subst hu
      have e0 : valS ([] : List UInt8) = 0 := rfl
      rw [e0, decB_lt (by omega), dig_back hc]; rfl
    · obtain ⟨b, u', rfl⟩ : ∃ b u', u = b :: u' := by cases u with | nil => exact absurd rfl hu | cons b u' => exact ⟨b, u', rfl⟩
      have hz2 : b.toNat ≠ 48 := hz (by simp)
      have hp := valS_pos hd2.1 hu hz2
      rw [decB_ge (by omega), dig_back hc, show (valS (b :: u') * 10 + (c.toNat - 48)) / 10 = valS (b :: u') from by omega]
      rw [ih (b :: u').length (by rw [← hl]; simp) (b :: u') rfl hd2.1 hu (fun _ => hz2)]
theorem decB_head (n : Nat) (h : 0 < n) : ((decB n).getD 0 0).toNat ≠ 48 := by
  induction n using Nat.strongRecOn with
  | _ n ih =>
    by_cases h10 : n < 10
    · rw [decB_lt h10]
      show (dig n).toNat ≠ 48
      rw [dig_toNat]; omega
    · rw [decB_ge h10]
      have := ih (n / 10) (by omega) (by omega)
      have hp := decB_pos (n / 10)
      rw [List.getD_eq_getElem?_getD, List.getElem?_append_left hp, ← List.getD_eq_getElem?_getD]
      exact this
theorem decB_iff {t : List UInt8} (hd : t.all isDig = true) (hl : t.length ≤ 10) : decB (valS t) = t ↔ smallB t = true := by
  have e : smallB t = true ↔ (t ≠ [] ∧ (1 < t.length → (t.getD 0 0).toNat ≠ 48)) := by
    unfold smallB
    rw [decide_eq_true hl, hd]
    simp only [Bool.true_and, Bool.and_true, Bool.and_eq_true, Bool.not_eq_true', decide_eq_false_iff_not, Bool.and_eq_false_iff]
    refine and_congr_right fun _ => ?_
    rw [← Decidable.imp_iff_not_or]
    exact imp_congr Iff.rfl (not_congr (by omega))
  rw [e]
  constructor
  · intro h
    refine ⟨fun h0 => ?_, fun h1 => ?_⟩
    · have := decB_pos (valS t)
      rw [h, h0] at this; simp at this
    · rw [← h] at h1
      have hv : ¬ valS t < 10 := by
        intro hv
        rw [decB_lt hv] at h1; simp at h1
      have := decB_head (valS t) (by omega)
      rwa [h] at this
  · rintro ⟨h0, h1⟩
    exact decB_val _ t rfl hd h0 h1
theorem cut_at {s : List UInt8} {n : Nat} (h : Lib.indexByte s 46 = n) : cutP s 46 = ((s.take n, s.drop (n + 1)), true) := by
  unfold cutP; rw [h, if_pos (by omega)]; rfl
theorem cut_no {s : List UInt8} (h : Lib.indexByte s 46 < 0) : readZ s = (0, 2) := by
  have e : cutP s 46 = ((s, []), false) := by unfold cutP; rw [if_neg (by omega)]
  unfold readZ; rw [e]; simp
theorem smallB_bad {t : List UInt8} {k : Nat} (hk : k < t.length) (h : isDig (t.getD k 0) = false) : smallB t = false := by
  unfold smallB; rw [all_not hk h]; simp
theorem readZ_bad {s : List UInt8} {k : Nat} (hk : k < s.length) (h : isDig (s.getD k 0) = false) (hx : Lib.indexByte s 46 ≠ k) : readZ s = (0, 2) := by
  by_cases h0 : Lib.indexByte s 46 < 0
  · exact cut_no h0
  obtain ⟨n, hn⟩ := Int.eq_ofNat_of_zero_le (Int.not_lt.1 h0)
  unfold readZ
  rw [cut_at hn, if_neg]
  rintro ⟨_, h1, h2⟩
  rw [hn] at hx
  by_cases hkn : k < n
  · have := smallB_bad (t := s.take n) (k := k) (by simp; omega) (by rw [List.getD_eq_getElem?_getD, List.getElem?_take_of_lt hkn, ← List.getD_eq_getElem?_getD]; exact h)
    rw [this] at h1; cases h1
  · have := smallB_bad (t := s.drop (n + 1)) (k := k - (n + 1)) (by simp; omega) (by rw [List.getD_eq_getElem?_getD, List.getElem?_drop, show n + 1 + (k - (n + 1)) = k from by omega, ← List.getD_eq_getElem?_getD]; exact h)
    rw [this] at h2; cases h2
theorem getD_some {s : List UInt8} {k : Nat} {c : UInt8} (h : s[k]? = some c) : k < s.length ∧ s.getD k 0 = c := by
  rw [List.getD_eq_getElem?_getD, h]
  exact ⟨(List.getElem?_eq_some_iff.1 h).1, rfl⟩
theorem some_getD {s : List UInt8} {k : Nat} (h : k < s.length) : s[k]? = some (s.getD k 0) := by
  rw [List.getD_eq_getElem?_getD, List.getElem?_eq_getElem h]; rfl
theorem idx_dig {s : List UInt8} (h : ∀ j, j < s.length → isDig (s.getD j 0) = true) : Lib.indexByte s 46 < 0 := by
  refine Int.not_le.1 fun h0 => ?_
  obtain ⟨n, hn⟩ := Int.eq_ofNat_of_zero_le h0
  have h1 := getD_some (Lib.indexByte_some hn).1
  have := h n h1.1
  rw [h1.2] at this; cases this
theorem idx_at {s : List UInt8} {d : Nat} (hd : d < s.length) (h1 : s.getD d 0 = 46) (h : ∀ j, j < d → isDig (s.getD j 0) = true) : Lib.indexByte s 46 = d := by
  have hge := Lib.indexByte_ge s 46
  by_cases h0 : Lib.indexByte s 46 = -1
  · exact absurd (by rw [some_getD hd, h1]) (Lib.indexByte_none h0 d)
  obtain ⟨n, hn⟩ := Int.eq_ofNat_of_zero_le (a := Lib.indexByte s 46) (by omega)
  have h2 := Lib.indexByte_some hn
  have h3 := getD_some h2.1
  by_cases hlt : n < d
  · have := h n hlt
    rw [h3.2] at this; cases this
  · by_cases e : n = d
    · rw [hn, e]
    · exact absurd (by rw [some_getD hd, h1]) (h2.2 d (by omega))
def dotAt (s : List UInt8) (k : Nat) (d : Int) : Prop := (d = -1 ∧ ∀ j, j < k → isDig (s.getD j 0) = true) ∨ ∃ n : Nat, d = n ∧ n < k ∧ s.getD n 0 = 46 ∧ ∀ j, j < k → j ≠ n → isDig (s.getD j 0) = true
theorem all_of {t : List UInt8} (h : ∀ j, j < t.length → isDig (t.getD j 0) = true) : t.all isDig = true := by
  rw [List.all_eq_true]
  intro x hx
  obtain ⟨j, hj, e⟩ := List.getElem_of_mem hx
  have := h j hj
  rw [List.getD_eq_getElem?_getD, List.getElem?_eq_getElem hj] at this
  rw [← e]; exact this
theorem dot_end {s : List UInt8} {d : Int} (h : dotAt s s.length d) : (d < 0 ∧ readZ s = (0, 2)) ∨ ∃ n : Nat, d = n ∧ n < s.length ∧ cutP s 46 = ((s.take n, s.drop (n + 1)), true) ∧ (s.take n).all isDig = true ∧ (s.drop (n + 1)).all isDig = true := by
  rcases h with ⟨h1, h2⟩ | ⟨n, h1, h2, h3, h4⟩
  · exact .inl ⟨by omega, cut_no (idx_dig h2)⟩
  · refine .inr ⟨n, h1, h2, cut_at (idx_at h2 h3 fun j hj => h4 j (by omega) (by omega)), ?_, ?_⟩
    · refine all_of fun j hj => ?_
      simp only [List.length_take] at hj
      rw [List.getD_eq_getElem?_getD, List.getElem?_take_of_lt (by omega), ← List.getD_eq_getElem?_getD]
      exact h4 j (by omega) (by omega)
    · refine all_of fun j hj => ?_
      simp only [List.length_drop] at hj
      rw [List.getD_eq_getElem?_getD, List.getElem?_drop, ← List.getD_eq_getElem?_getD]
      exact h4 _ (by omega) (by omega)
theorem u8_ne {c : UInt8} {n : Nat} (h : (c.toNat : Int) = n) (hn : n < 256) : c = UInt8.ofNat n := by
  apply UInt8.toNat.inj
  rw [UInt8.toNat_ofNat']; omega
theorem val_nil : ((valS [] : Nat) : Int) = 0 := rfl
theorem step_wr {c : UInt8} (h : isDig c = true) {v : Nat} (hv : v ≤ 9999999999) : IntKind.i64.wrap (IntKind.i64.wrap (10 * (v : Int) + IntKind.i64.wrap (c.toNat : Int)) - 48) = ((v * 10 + (c.toNat - 48) : Nat) : Int) := by
  have := dg_lt h
  have := c.toNat_lt
  rw [wrap_n (c.toNat : Int) (by omega) (by omega), wrap_n (10 * (v : Int) + _) (by omega) (by omega), wrap_n _ (by omega) (by omega)]; omega
theorem step_val {c : UInt8} (h : isDig c = true) (v : Nat) : 10 * (v : Int) + (c.toNat : Int) - 48 = ((v * 10 + (c.toNat - 48) : Nat) : Int) := by
  have := dg_lt h; omega
theorem dig_at {t : List UInt8} (h : t.all isDig = true) {i : Nat} (hi : i < t.length) : isDig (t.getD i 0) = true := by
  rw [List.all_eq_true] at h
  rw [List.getD_eq_getElem?_getD, List.getElem?_eq_getElem hi]
  exact h _ (List.getElem_mem hi)
theorem dig_take {t : List UInt8} (h : t.all isDig = true) (i : Nat) : (t.take i).all isDig = true := by
  rw [List.all_eq_true] at *
  exact fun x hx => h x (List.mem_of_mem_take hx)
theorem readZ_cut {s : List UInt8} {n : Nat} (h : cutP s 46 = ((s.take n, s.drop (n + 1)), true)) : readZ s = if smallB (s.take n) = true ∧ smallB (s.drop (n + 1)) = true then mkZ (valS (s.take n)) (valS (s.drop (n + 1))) else (0, 2) := by
  unfold readZ; rw [h]; simp
theorem small_len {t : List UInt8} (h : ¬ t.length ≤ 10) : smallB t = false := by unfold smallB; rw [decide_eq_false h]; simp
theorem readZ_known : readZ [48, 46, 55] = (7, 0) := by decide
end Go.Proofs.YtfnilhdofopoeabDoor
