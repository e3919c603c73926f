/- The text of a number: strconv.Itoa by the kit's own contract, zxid.Text and its reference. No condition. -/
import Derived.Test.YtfnilhdofopoeabDoorVz
import Derived.Test.YtfnilhdofopoeabDoorZx
import Derived.Test.YtfnilhdofopoeabDoorSp
import Derived.Test.YtfnilhdofopoeabDoorIt
namespace Go.Proofs.YtfnilhdofopoeabDoor
set_option linter.unusedVariables false
set_option linter.unusedSimpArgs false
open Go Go.RowKit
set_option maxRecDepth 100000
set_option linter.unusedSimpArgs false

theorem tab_is {w : World} (ht : TabsAt w) {nm : String} {g : Nat} (hg : Tryd.prog.globalNamed nm = some g) (hm : (g, Lib.pow10Tab.map fun z => Value.int .u64 z) ∈ tabs) : Lib.TabIs Tryd.prog w nm .u64 Lib.pow10Tab := by
  obtain ⟨ty, fz, h⟩ := ht _ hm
  unfold Lib.TabIs World.var?
  rw [hg, Option.bind_some]
  simp only [h]
theorem below_grow (w : World) (k : Nat) (os : Array Obj) : Below w.heap.size w (Sort.grow (w.drewN k) os) :=
  ⟨rfl, rfl, rfl, by rw [Sort.size_grow]; exact Nat.le_add_right _ _, fun i hi => Sort.heap_grow_old _ _ hi⟩
theorem itoa_c (n : Int) (h : okI n) : acall Tryd.prog [] 12 [I n] (ret (S (Lib.itoa n))) :=
  acall_of_below ⟨_, Tryd.func12, by kernel_rfl, by kernel_rfl⟩ rfl rfl fun w ht =>
    (Any.strconv_Itoa laysItoa n h.1 h.2 w (tab_is ht (g := 0) (by kernel_rfl) (List.mem_cons_self ..))).mono fun e w' hh => by
      obtain ⟨h1, k, os, h2⟩ := hh
      subst h2
      exact ⟨h1, below_grow w k os⟩
def textZ (z : Int) : List UInt8 × Int := if goodZ z then (ztext z, 0) else ([], 3)
theorem itoa_nat {n : Int} (h : 0 ≤ n) : Lib.itoa n = Lib.decDigits n.toNat := by unfold Lib.itoa; rw [if_neg (by omega)]
theorem ztext_parts {z : Int} (h : goodZ z) : okI (epZ z) ∧ okI (coZ z) ∧ Lib.itoa (epZ z) = Lib.decDigits (z / 2147483648).toNat ∧ Lib.itoa (coZ z) = Lib.decDigits (z % 2147483648).toNat ∧ (Lib.decDigits (z / 2147483648).toNat).length ≤ 10 ∧ (Lib.decDigits (z % 2147483648).toNat).length ≤ 10 := by
  have h' := h
  unfold goodZ at h'
  have e1 : epZ z = z / 2147483648 := by unfold epZ; rw [if_pos h]
  have e2 : coZ z = z % 2147483648 := by unfold coZ; rw [if_pos h]
  rw [e1, e2]
  refine ⟨⟨by omega, by omega⟩, ⟨by omega, by omega⟩, itoa_nat (by omega), itoa_nat (by omega), dgt_len _ 9 (by omega), dgt_len _ 9 (by omega)⟩
theorem text_z_c (z : Int) : acall Tryd.prog [] 4 [I z] (ret (.tup [S (textZ z).1, I (textZ z).2])) := by
  unfold textZ
  by_cases h : goodZ z
  · rw [if_pos h]
    obtain ⟨a, b, c, d, e, f⟩ := ztext_parts h
    have i1 := itoa_c _ a
    have i2 := itoa_c _ b
    rw [c] at i1
    rw [d] at i2
    refine zI Tryd.func4 rfl (by kernel_rfl) (by simp [Tryd.ntmps4]) ?_; simp only [Tryd.ntmps4, Tryd.results4, go_sem]
    (repeat' first
  | (with_reducible refine AR.f ?_)
  | refine blkA_x (by decide) ?_
  | (with_reducible refine AWP.cond rfl ?_ ?_ <;> intro hc <;> (try simp only [hcs, beq_iff_eq, ge_iff_le, gt_iff_lt] at hc))
  | ((first | ((first | (with_reducible first | refine zR ?_ | refine zQ (by decide +kernel) ?_ | refine zD (by decide +kernel) ?_ | refine zE (by decide +kernel) ?_ | refine zG (by decide +kernel) ?_)); intro K hK) | ((first | refine zA (zgood_c z) ?_ ?_ ?_ ?_ ?_ | refine zA (epoch_c z) ?_ ?_ ?_ ?_ ?_ | refine zA (count_c z) ?_ ?_ ?_ ?_ ?_ | refine zA i1 ?_ ?_ ?_ ?_ ?_ | refine zA i2 ?_ ?_ ?_ ?_ ?_); (focus exact rfl); (focus exact rfl); iterate 2 (focus ((try simp (disch := omega) only [go_sem, wrap_n]) <;> (try omega) <;> fail))) | ((first | refine zX (zgood_c z) rfl ?_ ?_ | refine zX (epoch_c z) rfl ?_ ?_ | refine zX (count_c z) rfl ?_ ?_); (focus ((try simp (disch := omega) only [go_sem, wrap_n]) <;> (try omega) <;> fail))) | ((first | refine zX i1 rfl ?_ ?_); (focus ((try simp (disch := omega) only [go_sem, wrap_n]) <;> (try omega) <;> fail))) | ((first | refine zX i2 rfl ?_ ?_); (focus ((try simp (disch := omega) only [go_sem, wrap_n]) <;> (try omega) <;> fail))) | ((first | (with_reducible refine aunder_i ?_ ?_ <;> intro hg) | with_reducible intro hg) <;> (first | (exfalso; simp at hg; done) | (have hg' := hg; (try simp only [hcs, beq_iff_eq, ge_iff_le, gt_iff_lt] at hg'); (try simp only [hg]))))) <;> (try simp (disch := omega) only [go_sem, wrap_n]) <;> (repeat' with_reducible refine And.intro ?_ ?_) <;> (try (with_reducible refine hK _ ?_; clear hK K)))
  | omega)
    all_goals first | (exfalso; exact absurd h (by assumption)) | skip
    all_goals (refine zF rfl ?_ ?_ ?_ ?_; (iterate 3 (focus ((try simp (disch := omega) only [go_sem, wrap_n, ztext, List.append_assoc, List.cons_append, List.nil_append]) <;> (try omega) <;> fail))); (try simp (disch := omega) only [go_sem, wrap_n, ztext, List.append_assoc, List.cons_append, List.nil_append, I, B, S, zj]))
  · rw [if_neg h]
    refine zI Tryd.func4 rfl (by kernel_rfl) (by simp [Tryd.ntmps4]) ?_; simp only [Tryd.ntmps4, Tryd.results4, go_sem]
    (repeat' first
  | (with_reducible refine AR.f ?_)
  | refine blkA_x (by decide) ?_
  | (with_reducible refine AWP.cond rfl ?_ ?_ <;> intro hc <;> (try simp only [hcs, beq_iff_eq, ge_iff_le, gt_iff_lt] at hc))
  | ((first | ((first | (with_reducible first | refine zR ?_ | refine zQ (by decide +kernel) ?_ | refine zD (by decide +kernel) ?_ | refine zE (by decide +kernel) ?_ | refine zG (by decide +kernel) ?_)); intro K hK) | ((first | refine zA (zgood_c z) ?_ ?_ ?_ ?_ ?_); (focus exact rfl); (focus exact rfl); iterate 2 (focus ((try simp (disch := omega) only [go_sem, wrap_n]) <;> (try omega) <;> fail))) | ((first | refine zX (zgood_c z) rfl ?_ ?_); (focus ((try simp (disch := omega) only [go_sem, wrap_n]) <;> (try omega) <;> fail))) | ((first | (with_reducible refine aunder_i ?_ ?_ <;> intro hg) | with_reducible intro hg) <;> (first | (exfalso; simp at hg; done) | (have hg' := hg; (try simp only [hcs, beq_iff_eq, ge_iff_le, gt_iff_lt] at hg'); (try simp only [hg]))))) <;> (try simp (disch := omega) only [go_sem, wrap_n]) <;> (repeat' with_reducible refine And.intro ?_ ?_) <;> (try (with_reducible refine hK _ ?_; clear hK K)))
  | omega)
    all_goals first | (exfalso; exact absurd (by assumption) h) | skip
    all_goals (refine zF rfl ?_ ?_ ?_ ?_; (iterate 3 (focus ((try simp (disch := omega) only [go_sem, wrap_n]) <;> (try omega) <;> fail))); (try simp (disch := omega) only [go_sem, wrap_n, I, B, S, zj]))
theorem decB_dec (n : Nat) : decB n = Lib.decDigits n := by
  induction n using Nat.strongRecOn with
  | _ n ih =>
    by_cases h : n < 10
    · rw [decB_lt h, dgt_small h]; unfold dig; rw [Nat.mod_eq_of_lt h]
    · rw [decB_ge h, dgt_big h, ih (n / 10) (by omega)]; rfl
theorem ref_text_z_c (z : Int) (hz : okI z) : acall Tryd.prog [] 5 [I z] (ret (.tup [S (textZ z).1, I (textZ z).2])) := by
  unfold textZ
  by_cases h : goodZ z
  · rw [if_pos h]
    obtain ⟨_, _, _, _, e, f⟩ := ztext_parts h
    have h' := h
    unfold goodZ at h'
    have i1 := decimal_c (z / 2147483648).toNat (by omega)
    have i2 := decimal_c (z % 2147483648).toNat (by omega)
    rw [decB_dec, show (((z / 2147483648).toNat : Nat) : Int) = z / 2147483648 by omega] at i1
    rw [decB_dec, show (((z % 2147483648).toNat : Nat) : Int) = z % 2147483648 by omega] at i2
    have t1 : z.tdiv 2147483648 = z / 2147483648 := Int.tdiv_eq_ediv_of_nonneg (by omega)
    have t2 : z.tmod 2147483648 = z % 2147483648 := Int.tmod_eq_emod_of_nonneg (by omega)
    refine zI Tryd.func5 rfl (by kernel_rfl) (by simp [Tryd.ntmps5]) ?_; simp only [Tryd.ntmps5, Tryd.results5, go_sem]
    (repeat' first
  | (with_reducible refine AR.f ?_)
  | refine blkA_x (by decide) ?_
  | (with_reducible refine AWP.cond rfl ?_ ?_ <;> intro hc <;> (try simp only [hcs, beq_iff_eq, ge_iff_le, gt_iff_lt] at hc))
  | ((first | ((first | (with_reducible first | refine zR ?_ | refine zQ (by decide +kernel) ?_ | refine zD (by decide +kernel) ?_ | refine zE (by decide +kernel) ?_ | refine zG (by decide +kernel) ?_)); intro K hK) | ((first | refine zA (ref_zgood_c z hz) ?_ ?_ ?_ ?_ ?_ | refine zA i1 ?_ ?_ ?_ ?_ ?_ | refine zA i2 ?_ ?_ ?_ ?_ ?_); (focus exact rfl); (focus exact rfl); iterate 2 (focus ((try simp (disch := omega) only [go_sem, wrap_n, t1, t2]) <;> (try omega) <;> fail))) | ((first | refine zX (ref_zgood_c z hz) rfl ?_ ?_); (focus ((try simp (disch := omega) only [go_sem, wrap_n, t1, t2]) <;> (try omega) <;> fail))) | ((first | refine zX i1 rfl ?_ ?_); (focus ((try simp (disch := omega) only [go_sem, wrap_n, t1, t2]) <;> (try omega) <;> fail))) | ((first | refine zX i2 rfl ?_ ?_); (focus ((try simp (disch := omega) only [go_sem, wrap_n, t1, t2]) <;> (try omega) <;> fail))) | ((first | (with_reducible refine aunder_i ?_ ?_ <;> intro hg) | with_reducible intro hg) <;> (first | (exfalso; simp at hg; done) | (have hg' := hg; (try simp only [hcs, beq_iff_eq, ge_iff_le, gt_iff_lt] at hg'); (try simp only [hg]))))) <;> (try simp (disch := omega) only [go_sem, wrap_n, t1, t2]) <;> (repeat' with_reducible refine And.intro ?_ ?_) <;> (try (with_reducible refine hK _ ?_; clear hK K)))
  | omega)
    all_goals first | (exfalso; exact absurd h (by assumption)) | skip
    all_goals (refine zF rfl ?_ ?_ ?_ ?_; (iterate 3 (focus ((try simp (disch := omega) only [go_sem, wrap_n, ztext, List.append_assoc, List.cons_append, List.nil_append]) <;> (try omega) <;> fail))); (try simp (disch := omega) only [go_sem, wrap_n, ztext, List.append_assoc, List.cons_append, List.nil_append, I, B, S, zj]))
  · rw [if_neg h]
    refine zI Tryd.func5 rfl (by kernel_rfl) (by simp [Tryd.ntmps5]) ?_; simp only [Tryd.ntmps5, Tryd.results5, go_sem]
    (repeat' first
  | (with_reducible refine AR.f ?_)
  | refine blkA_x (by decide) ?_
  | (with_reducible refine AWP.cond rfl ?_ ?_ <;> intro hc <;> (try simp only [hcs, beq_iff_eq, ge_iff_le, gt_iff_lt] at hc))
  | ((first | ((first | (with_reducible first | refine zR ?_ | refine zQ (by decide +kernel) ?_ | refine zD (by decide +kernel) ?_ | refine zE (by decide +kernel) ?_ | refine zG (by decide +kernel) ?_)); intro K hK) | ((first | refine zA (ref_zgood_c z hz) ?_ ?_ ?_ ?_ ?_); (focus exact rfl); (focus exact rfl); iterate 2 (focus ((try simp (disch := omega) only [go_sem, wrap_n]) <;> (try omega) <;> fail))) | ((first | refine zX (ref_zgood_c z hz) rfl ?_ ?_); (focus ((try simp (disch := omega) only [go_sem, wrap_n]) <;> (try omega) <;> fail))) | ((first | (with_reducible refine aunder_i ?_ ?_ <;> intro hg) | with_reducible intro hg) <;> (first | (exfalso; simp at hg; done) | (have hg' := hg; (try simp only [hcs, beq_iff_eq, ge_iff_le, gt_iff_lt] at hg'); (try simp only [hg]))))) <;> (try simp (disch := omega) only [go_sem, wrap_n]) <;> (repeat' with_reducible refine And.intro ?_ ?_) <;> (try (with_reducible refine hK _ ?_; clear hK K)))
  | omega)
    all_goals first | (exfalso; exact absurd (by assumption) h) | skip
    all_goals (refine zF rfl ?_ ?_ ?_ ?_; (iterate 3 (focus ((try simp (disch := omega) only [go_sem, wrap_n]) <;> (try omega) <;> fail))); (try simp (disch := omega) only [go_sem, wrap_n, I, B, S, zj]))
end Go.Proofs.YtfnilhdofopoeabDoor
