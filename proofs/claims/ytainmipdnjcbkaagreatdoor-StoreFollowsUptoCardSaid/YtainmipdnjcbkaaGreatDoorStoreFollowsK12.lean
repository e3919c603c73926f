/- A part of what StoreFollows leans on: texts of this claim, one behind the other. No condition. -/
import Derived.Test.YtainmipdnjcbkaaGreatDoorStoreFollowsK11
namespace Go.Proofs.YtainmipdnjcbkaaGreatDoor
set_option linter.unusedVariables false
set_option linter.unusedSimpArgs false
open Go Go.RowKit
set_option maxRecDepth 100000
set_option linter.unusedSimpArgs false
theorem tab_is {w : World} (ht : TabsAt w) {nm : String} {g : Nat} (hg : Tryz.prog.globalNamed nm = some g) (hm : (g, Lib.pow10Tab.map fun z => Value.int .u64 z) ∈ tabs) : Lib.TabIs Tryz.prog w nm .u64 Lib.pow10Tab := by
  obtain ⟨ty, fz, h⟩ := ht _ hm
  unfold Lib.TabIs World.var?
  rw [hg, Option.bind_some]
  simp only [h]
theorem below_grow (w : World) (k : Nat) (os : Array Obj) : Below w.heap.size w (Sort.grow (w.drewN k) os) :=
  ⟨rfl, rfl, rfl, by rw [Sort.size_grow]; exact Nat.le_add_right _ _, fun i hi => Sort.heap_grow_old _ _ hi⟩
theorem itoa_c (n : Int) (h : okI n) : acall Tryz.prog [] 121 [I n] (ret (S (Lib.itoa n))) :=
  acall_of_below ⟨_, Tryz.func121, by kernel_rfl, by kernel_rfl⟩ rfl rfl fun w ht =>
    (Any.strconv_Itoa laysItoa n h.1 h.2 w (tab_is ht (g := 1) (by kernel_rfl) (List.mem_cons_self ..))).mono fun e w' hh => by
      obtain ⟨h1, k, os, h2⟩ := hh
      subst h2
      exact ⟨h1, below_grow w k os⟩
def textZ (z : Int) : List UInt8 × Int := if goodZ z then (ztext z, 0) else ([], 3)
theorem itoa_nat {n : Int} (h : 0 ≤ n) : Lib.itoa n = Lib.decDigits n.toNat := by unfold Lib.itoa; rw [if_neg (by omega)]
theorem ztext_parts {z : Int} (h : goodZ z) : okI (epZ z) ∧ okI (coZ z) ∧ Lib.itoa (epZ z) = Lib.decDigits (z / 2147483648).toNat ∧ Lib.itoa (coZ z) = Lib.decDigits (z % 2147483648).toNat ∧ (Lib.decDigits (z / 2147483648).toNat).length ≤ 10 ∧ (Lib.decDigits (z % 2147483648).toNat).length ≤ 10 := by
  have h' := h
  unfold goodZ at h'
  have e1 : epZ z = z / 2147483648 := by unfold epZ; rw [if_pos h]
  have e2 : coZ z = z % 2147483648 := by unfold coZ; rw [if_pos h]
  rw [e1, e2]
  refine ⟨⟨by omega, by omega⟩, ⟨by omega, by omega⟩, itoa_nat (by omega), itoa_nat (by omega), dgt_len _ 9 (by omega), dgt_len _ 9 (by omega)⟩
theorem text_z_c (z : Int) : acall Tryz.prog [] 63 [I z] (ret (.tup [S (textZ z).1, I (textZ z).2])) := by
  unfold textZ
  by_cases h : goodZ z
  · rw [if_pos h]
    obtain ⟨a, b, c, d, e, f⟩ := ztext_parts h
    have i1 := itoa_c _ a
    have i2 := itoa_c _ b
    rw [c] at i1
    rw [d] at i2
    refine zI Tryz.func63 rfl (by kernel_rfl) (by simp [Tryz.ntmps63]) ?_; simp only [Tryz.ntmps63, Tryz.results63, go_sem]
    (repeat' first
  | (with_reducible refine AR.f ?_)
  | refine zb (by decide) ?_
  | (with_reducible refine AWP.cond rfl ?_ ?_ <;> intro hc <;> (try simp only [hcs, beq_iff_eq, ge_iff_le, gt_iff_lt] at hc))
  | ((first | ((first | (with_reducible first | refine zR ?_ | refine zQ (by decide +kernel) ?_ | refine zD (by decide +kernel) ?_ | refine zE (by decide +kernel) ?_ | refine zG (by decide +kernel) ?_)); intro K hK) | ((first | refine zA (zgood_c z) ?_ ?_ ?_ ?_ ?_ | refine zA (epoch_c z) ?_ ?_ ?_ ?_ ?_ | refine zA (count_c z) ?_ ?_ ?_ ?_ ?_ | refine zA i1 ?_ ?_ ?_ ?_ ?_ | refine zA i2 ?_ ?_ ?_ ?_ ?_); (focus exact rfl); (focus exact rfl); iterate 2 (focus ((try simp (disch := omega) only [go_sem, wn]) <;> (try omega) <;> fail))) | ((first | refine zX (zgood_c z) rfl ?_ ?_ | refine zX (epoch_c z) rfl ?_ ?_ | refine zX (count_c z) rfl ?_ ?_); (focus ((try simp (disch := omega) only [go_sem, wn]) <;> (try omega) <;> fail))) | ((first | refine zX i1 rfl ?_ ?_); (focus ((try simp (disch := omega) only [go_sem, wn]) <;> (try omega) <;> fail))) | ((first | refine zX i2 rfl ?_ ?_); (focus ((try simp (disch := omega) only [go_sem, wn]) <;> (try omega) <;> fail))) | ((first | (with_reducible refine zu ?_ ?_ <;> intro hg) | with_reducible intro hg) <;> (first | (exfalso; simp at hg; done) | (have hg' := hg; (try simp only [hcs, beq_iff_eq, ge_iff_le, gt_iff_lt] at hg'); (try simp only [hg]))))) <;> (try simp (disch := omega) only [go_sem, wn]) <;> (repeat' with_reducible refine And.intro ?_ ?_) <;> (try (with_reducible refine hK _ ?_; clear hK K)))
  | omega)
    all_goals first | (exfalso; exact absurd h (by assumption)) | skip
    all_goals (refine zF rfl ?_ ?_ ?_ ?_; (iterate 3 (focus ((try simp (disch := omega) only [go_sem, wn, ztext, List.append_assoc, List.cons_append, List.nil_append]) <;> (try omega) <;> fail))); (try simp (disch := omega) only [go_sem, wn, ztext, List.append_assoc, List.cons_append, List.nil_append, I, B, S, zj]))
  · rw [if_neg h]
    refine zI Tryz.func63 rfl (by kernel_rfl) (by simp [Tryz.ntmps63]) ?_; simp only [Tryz.ntmps63, Tryz.results63, go_sem]
    (repeat' first
  | (with_reducible refine AR.f ?_)
  | refine zb (by decide) ?_
  | (with_reducible refine AWP.cond rfl ?_ ?_ <;> intro hc <;> (try simp only [hcs, beq_iff_eq, ge_iff_le, gt_iff_lt] at hc))
  | ((first | ((first | (with_reducible first | refine zR ?_ | refine zQ (by decide +kernel) ?_ | refine zD (by decide +kernel) ?_ | refine zE (by decide +kernel) ?_ | refine zG (by decide +kernel) ?_)); intro K hK) | ((first | refine zA (zgood_c z) ?_ ?_ ?_ ?_ ?_); (focus exact rfl); (focus exact rfl); iterate 2 (focus ((try simp (disch := omega) only [go_sem, wn]) <;> (try omega) <;> fail))) | ((first | refine zX (zgood_c z) rfl ?_ ?_); (focus ((try simp (disch := omega) only [go_sem, wn]) <;> (try omega) <;> fail))) | ((first | (with_reducible refine zu ?_ ?_ <;> intro hg) | with_reducible intro hg) <;> (first | (exfalso; simp at hg; done) | (have hg' := hg; (try simp only [hcs, beq_iff_eq, ge_iff_le, gt_iff_lt] at hg'); (try simp only [hg]))))) <;> (try simp (disch := omega) only [go_sem, wn]) <;> (repeat' with_reducible refine And.intro ?_ ?_) <;> (try (with_reducible refine hK _ ?_; clear hK K)))
  | omega)
    all_goals first | (exfalso; exact absurd (by assumption) h) | skip
    all_goals (refine zF rfl ?_ ?_ ?_ ?_; (iterate 3 (focus ((try simp (disch := omega) only [go_sem, wn]) <;> (try omega) <;> fail))); (try simp (disch := omega) only [go_sem, wn, I, B, S, zj]))
theorem decB_dec (n : Nat) : decB n = Lib.decDigits n := by
  induction n using Nat.strongRecOn with
  | _ n ih =>
    by_cases h : n < 10
    · rw [decB_lt h, dgt_small h]; unfold dig; rw [Nat.mod_eq_of_lt h]
    · rw [decB_ge h, dgt_big h, ih (n / 10) (by omega)]; rfl
theorem ref_text_z_c (z : Int) (hz : okI z) : acall Tryz.prog [] 68 [I z] (ret (.tup [S (textZ z).1, I (textZ z).2])) := by
  unfold textZ
  by_cases h : goodZ z
  · rw [if_pos h]
    obtain ⟨_, _, _, _, e, f⟩ := ztext_parts h
    have h' := h
    unfold goodZ at h'
    have i1 := decimal_c (z / 2147483648).toNat (by omega)
    have i2 := decimal_c (z % 2147483648).toNat (by omega)
    rw [decB_dec, show (((z / 2147483648).toNat : Nat) : Int) = z / 2147483648 by omega] at i1
    rw [decB_dec, show (((z % 2147483648).toNat : Nat) : Int) = z % 2147483648 by omega] at i2
    have t1 : z.tdiv 2147483648 = z / 2147483648 := Int.tdiv_eq_ediv_of_nonneg (by omega)
    have t2 : z.tmod 2147483648 = z % 2147483648 := Int.tmod_eq_emod_of_nonneg (by omega)
    refine zI Tryz.func68 rfl (by kernel_rfl) (by simp [Tryz.ntmps68]) ?_; simp only [Tryz.ntmps68, Tryz.results68, go_sem]
    (repeat' first
  | (with_reducible refine AR.f ?_)
  | refine zb (by decide) ?_
  | (with_reducible refine AWP.cond rfl ?_ ?_ <;> intro hc <;> (try simp only [hcs, beq_iff_eq, ge_iff_le, gt_iff_lt] at hc))
  | ((first | ((first | (with_reducible first | refine zR ?_ | refine zQ (by decide +kernel) ?_ | refine zD (by decide +kernel) ?_ | refine zE (by decide +kernel) ?_ | refine zG (by decide +kernel) ?_)); intro K hK) | ((first | refine zA (ref_zgood_c z hz) ?_ ?_ ?_ ?_ ?_ | refine zA i1 ?_ ?_ ?_ ?_ ?_ | refine zA i2 ?_ ?_ ?_ ?_ ?_); (focus exact rfl); (focus exact rfl); iterate 2 (focus ((try simp (disch := omega) only [go_sem, wn, t1, t2]) <;> (try omega) <;> fail))) | ((first | refine zX (ref_zgood_c z hz) rfl ?_ ?_); (focus ((try simp (disch := omega) only [go_sem, wn, t1, t2]) <;> (try omega) <;> fail))) | ((first | refine zX i1 rfl ?_ ?_); (focus ((try simp (disch := omega) only [go_sem, wn, t1, t2]) <;> (try omega) <;> fail))) | ((first | refine zX i2 rfl ?_ ?_); (focus ((try simp (disch := omega) only [go_sem, wn, t1, t2]) <;> (try omega) <;> fail))) | ((first | (with_reducible refine zu ?_ ?_ <;> intro hg) | with_reducible intro hg) <;> (first | (exfalso; simp at hg; done) | (have hg' := hg; (try simp only [hcs, beq_iff_eq, ge_iff_le, gt_iff_lt] at hg'); (try simp only [hg]))))) <;> (try simp (disch := omega) only [go_sem, wn, t1, t2]) <;> (repeat' with_reducible refine And.intro ?_ ?_) <;> (try (with_reducible refine hK _ ?_; clear hK K)))
  | omega)
    all_goals first | (exfalso; exact absurd h (by assumption)) | skip
    all_goals (refine zF rfl ?_ ?_ ?_ ?_; (iterate 3 (focus ((try simp (disch := omega) only [go_sem, wn, ztext, List.append_assoc, List.cons_append, List.nil_append]) <;> (try omega) <;> fail))); (try simp (disch := omega) only [go_sem, wn, ztext, List.append_assoc, List.cons_append, List.nil_append, I, B, S, zj]))
  · rw [if_neg h]
    refine zI Tryz.func68 rfl (by kernel_rfl) (by simp [Tryz.ntmps68]) ?_; simp only [Tryz.ntmps68, Tryz.results68, go_sem]
    (repeat' first
  | (with_reducible refine AR.f ?_)
  | refine zb (by decide) ?_
  | (with_reducible refine AWP.cond rfl ?_ ?_ <;> intro hc <;> (try simp only [hcs, beq_iff_eq, ge_iff_le, gt_iff_lt] at hc))
  | ((first | ((first | (with_reducible first | refine zR ?_ | refine zQ (by decide +kernel) ?_ | refine zD (by decide +kernel) ?_ | refine zE (by decide +kernel) ?_ | refine zG (by decide +kernel) ?_)); intro K hK) | ((first | refine zA (ref_zgood_c z hz) ?_ ?_ ?_ ?_ ?_); (focus exact rfl); (focus exact rfl); iterate 2 (focus ((try simp (disch := omega) only [go_sem, wn]) <;> (try omega) <;> fail))) | ((first | refine zX (ref_zgood_c z hz) rfl ?_ ?_); (focus ((try simp (disch := omega) only [go_sem, wn]) <;> (try omega) <;> fail))) | ((first | (with_reducible refine zu ?_ ?_ <;> intro hg) | with_reducible intro hg) <;> (first | (exfalso; simp at hg; done) | (have hg' := hg; (try simp only [hcs, beq_iff_eq, ge_iff_le, gt_iff_lt] at hg'); (try simp only [hg]))))) <;> (try simp (disch := omega) only [go_sem, wn]) <;> (repeat' with_reducible refine And.intro ?_ ?_) <;> (try (with_reducible refine hK _ ?_; clear hK K)))
  | omega)
    all_goals first | (exfalso; exact absurd (by assumption) h) | skip
    all_goals (refine zF rfl ?_ ?_ ?_ ?_; (iterate 3 (focus ((try simp (disch := omega) only [go_sem, wn]) <;> (try omega) <;> fail))); (try simp (disch := omega) only [go_sem, wn, I, B, S, zj]))
end Go.Proofs.YtainmipdnjcbkaaGreatDoor
namespace Go.Proofs.YtainmipdnjcbkaaGreatDoor
set_option linter.unusedVariables false
set_option linter.unusedSimpArgs false
open Go Go.RowKit
set_option maxRecDepth 100000
set_option linter.unusedSimpArgs false
theorem epN_ok : okS epN := by unfold okS; decide
theorem remove_fwf {l : List AFile} {key : List UInt8} (h : ∀ f, f ∈ l → f.wf) : ∀ f, f ∈ (removeD l key).1.files → f.wf := by
  intro f hf
  unfold removeD at hf
  split at hf
  · cases hf
  · split at hf
    · exact h f (List.mem_of_mem_eraseIdx hf)
    · cases hf
def lessD (l : List AFile) : List AFile := if (removeD l epN).2 = 0 then (removeD l epN).1.files else l
theorem less_wf {l : List AFile} (h : l.length * 48 ≤ 140737488351232) (hw : ∀ f, f ∈ l → f.wf) : (lessD l).length * 48 ≤ 140737488351232 ∧ ∀ f, f ∈ lessD l → f.wf := by
  unfold lessD
  split
  · exact ⟨remove_wf h, remove_fwf hw⟩
  · exact ⟨h, hw⟩
theorem rem_eq (l : List AFile) (ep : Int) (h : (mkZ ep 0).2 = 0) : rememberD l ep = if (writeD (lessD l) epN (ztext (mkZ ep 0).1)).2 ≠ 0 then (default, (writeD (lessD l) epN (ztext (mkZ ep 0).1)).2) else changeD (writeD (lessD l) epN (ztext (mkZ ep 0).1)).1.files epN syncF := by
  unfold rememberD
  rw [if_neg (fun hh => hh h)]; rfl
theorem mkZ_good {ep : Int} (h : (mkZ ep 0).2 = 0) : goodZ (mkZ ep 0).1 := by
  unfold mkZ at h ⊢
  split at h
  · cases h
  · rename_i hb
    rw [if_neg hb]
    unfold badZ at hb; unfold goodZ; simp only; omega
theorem ztext_ok {z : Int} (h : goodZ z) : okS (ztext z) := by have := ztext_len h; unfold okS; omega
set_option maxHeartbeats 4000000 in
theorem remember_c (d : ADisk) (ep : Int) (h : d.files.length * 48 ≤ 140737488351232) (hw : ∀ f, f ∈ d.files → f.wf) : acall Tryz.prog [] 18 [d.av, I ep] (ret (.tup [(rememberD d.files ep).1.av, I (rememberD d.files ep).2])) := by
  have hmk := make_c ep 0
  by_cases hm : (mkZ ep 0).2 = 0
  case neg =>
    have e : rememberD d.files ep = (default, (mkZ ep 0).2) := by unfold rememberD; rw [if_pos hm]
    rw [e]
    generalize mkZ ep 0 = m at hm hmk ⊢
    refine zI Tryz.func18 rfl (by kernel_rfl) (by simp [Tryz.ntmps18]) ?_; simp only [Tryz.ntmps18, Tryz.results18, go_sem]
    (repeat' first
  | (with_reducible refine AR.f ?_)
  | refine zb (by decide) ?_
  | (with_reducible refine AWP.cond rfl ?_ ?_ <;> intro hc <;> (try simp only [hcs, beq_iff_eq, ge_iff_le, gt_iff_lt] at hc))
  | ((first | ((first | (with_reducible first | refine zR ?_ | refine zQ (by decide +kernel) ?_ | refine zD (by decide +kernel) ?_ | refine zE (by decide +kernel) ?_ | refine zG (by decide +kernel) ?_)); intro K hK) | ((first | refine zA hmk ?_ ?_ ?_ ?_ ?_); (focus exact rfl); (focus exact rfl); iterate 2 (focus ((try simp (disch := omega) only [go_sem, wn, two]) <;> (try omega) <;> fail))) | ((first | refine zX hmk rfl ?_ ?_); (focus ((try simp (disch := omega) only [go_sem, wn, two]) <;> (try omega) <;> fail))) | ((first | (with_reducible refine zu ?_ ?_ <;> intro hg) | with_reducible intro hg) <;> (first | (exfalso; simp at hg; done) | (have hg' := hg; (try simp only [hcs, beq_iff_eq, ge_iff_le, gt_iff_lt] at hg'); (try simp only [hg]))))) <;> (try simp (disch := omega) only [go_sem, wn, two]) <;> (repeat' with_reducible refine And.intro ?_ ?_) <;> (try (with_reducible refine hK _ ?_; clear hK K)))
  | omega)
    all_goals first | (exfalso; exact absurd (by assumption) hm) | (exfalso; exact absurd hm (by assumption)) | skip
    all_goals (refine zF rfl ?_ ?_ ?_ ?_; (iterate 3 (focus ((try simp (disch := omega) only [go_sem, wn, default]) <;> (try omega) <;> fail))); (try simp (disch := omega) only [go_sem, wn, default, I, B, S, zj]))
  rw [rem_eq _ _ hm]
  have hg := mkZ_good hm
  have ht := text_z_c (mkZ ep 0).1
  rw [textZ, if_pos hg] at ht
  have hrm := remove_c d epN h hw
  obtain ⟨l1, l2⟩ := less_wf h hw
  have hwr := write_c ⟨lessD d.files⟩ epN (ztext (mkZ ep 0).1) (ztext_ok hg) epN_ok l1 l2
  have hsy := sync_c (writeD (lessD d.files) epN (ztext (mkZ ep 0).1)).1 epN write_wf (write_files_wf epN_ok l2)
  have hls : lessD d.files = if (removeD d.files epN).2 = 0 then (removeD d.files epN).1.files else d.files := rfl
  generalize mkZ ep 0 = m at hm hmk ht hwr hsy ⊢
  obtain ⟨z, e0⟩ := m
  simp only at hm hmk ht hwr hsy ⊢
  subst hm
  generalize ztext z = s at ht hwr hsy ⊢
  generalize lessD d.files = L at hwr hsy hls ⊢
  generalize writeD L epN s = Q at hwr hsy ⊢
  obtain ⟨wd, we⟩ := Q
  simp only at hwr hsy ⊢
  generalize changeD wd.files epN syncF = R at hsy ⊢
  obtain ⟨sd, se⟩ := R
  simp only at hsy ⊢
  generalize removeD d.files epN = M at hrm hls
  obtain ⟨rd, re⟩ := M
  simp only at hrm hls
  simp only [epN] at hrm hwr hsy
  by_cases hre : re = 0
  · subst hre
    rw [if_pos rfl] at hls
    subst hls
    refine zI Tryz.func18 rfl (by kernel_rfl) (by simp [Tryz.ntmps18]) ?_; simp only [Tryz.ntmps18, Tryz.results18, go_sem]
    (repeat' first
  | (with_reducible refine AR.f ?_)
  | refine zb (by decide) ?_
  | (with_reducible refine AWP.cond rfl ?_ ?_ <;> intro hc <;> (try simp only [hcs, beq_iff_eq, ge_iff_le, gt_iff_lt] at hc))
  | ((first | ((first | (with_reducible first | refine zR ?_ | refine zQ (by decide +kernel) ?_ | refine zD (by decide +kernel) ?_ | refine zE (by decide +kernel) ?_ | refine zG (by decide +kernel) ?_)); intro K hK) | ((first | refine zA hmk ?_ ?_ ?_ ?_ ?_ | refine zA ht ?_ ?_ ?_ ?_ ?_ | refine zA hrm ?_ ?_ ?_ ?_ ?_ | refine zA hwr ?_ ?_ ?_ ?_ ?_ | refine zA hsy ?_ ?_ ?_ ?_ ?_); (focus exact rfl); (focus exact rfl); iterate 2 (focus ((try simp (disch := omega) only [go_sem, wn, two]) <;> (try omega) <;> fail))) | ((first | refine zN hrm rfl ?_ ?_ | refine zN hwr rfl ?_ ?_ | refine zN hsy rfl ?_ ?_ | refine zX hmk rfl ?_ ?_ | refine zX ht rfl ?_ ?_ | refine zX hrm rfl ?_ ?_ | refine zY hrm ?_ ?_ | refine zX hwr rfl ?_ ?_ | refine zY hwr ?_ ?_ | refine zX hsy rfl ?_ ?_ | refine zY hsy ?_ ?_); (focus ((try simp (disch := omega) only [go_sem, wn, two]) <;> (try omega) <;> fail))) | ((first | (with_reducible refine zu ?_ ?_ <;> intro hg) | with_reducible intro hg) <;> (first | (exfalso; simp at hg; done) | (have hg' := hg; (try simp only [hcs, beq_iff_eq, ge_iff_le, gt_iff_lt] at hg'); (try simp only [hg]))))) <;> (try simp (disch := omega) only [go_sem, wn, two]) <;> (repeat' with_reducible refine And.intro ?_ ?_) <;> (try (with_reducible refine hK _ ?_; clear hK K)))
  | omega)
    all_goals first
      | (rw [if_pos (by assumption)]; (refine zF rfl ?_ ?_ ?_ ?_; (iterate 3 (focus ((try simp (disch := omega) only [go_sem, wn, default]) <;> (try omega) <;> fail))); (try simp (disch := omega) only [go_sem, wn, default, I, B, S, zj])); done)
      | (rw [if_neg (by omega)]; (refine zF rfl ?_ ?_ ?_ ?_; (iterate 3 (focus ((try simp (disch := omega) only [go_sem, wn]) <;> (try omega) <;> fail))); (try simp (disch := omega) only [go_sem, wn, I, B, S, zj])); done)
  · rw [if_neg hre] at hls
    subst hls
    refine zI Tryz.func18 rfl (by kernel_rfl) (by simp [Tryz.ntmps18]) ?_; simp only [Tryz.ntmps18, Tryz.results18, go_sem]
    (repeat' first
  | (with_reducible refine AR.f ?_)
  | refine zb (by decide) ?_
  | (with_reducible refine AWP.cond rfl ?_ ?_ <;> intro hc <;> (try simp only [hcs, beq_iff_eq, ge_iff_le, gt_iff_lt] at hc))
  | ((first | ((first | (with_reducible first | refine zR ?_ | refine zQ (by decide +kernel) ?_ | refine zD (by decide +kernel) ?_ | refine zE (by decide +kernel) ?_ | refine zG (by decide +kernel) ?_)); intro K hK) | ((first | refine zA hmk ?_ ?_ ?_ ?_ ?_ | refine zA ht ?_ ?_ ?_ ?_ ?_ | refine zA hrm ?_ ?_ ?_ ?_ ?_ | refine zA hwr ?_ ?_ ?_ ?_ ?_ | refine zA hsy ?_ ?_ ?_ ?_ ?_); (focus exact rfl); (focus exact rfl); iterate 2 (focus ((try simp (disch := omega) only [go_sem, wn, two]) <;> (try omega) <;> fail))) | ((first | refine zN hrm rfl ?_ ?_ | refine zN hwr rfl ?_ ?_ | refine zN hsy rfl ?_ ?_ | refine zX hmk rfl ?_ ?_ | refine zX ht rfl ?_ ?_ | refine zX hrm rfl ?_ ?_ | refine zY hrm ?_ ?_ | refine zX hwr rfl ?_ ?_ | refine zY hwr ?_ ?_ | refine zX hsy rfl ?_ ?_ | refine zY hsy ?_ ?_); (focus ((try simp (disch := omega) only [go_sem, wn, two]) <;> (try omega) <;> fail))) | ((first | (with_reducible refine zu ?_ ?_ <;> intro hg) | with_reducible intro hg) <;> (first | (exfalso; simp at hg; done) | (have hg' := hg; (try simp only [hcs, beq_iff_eq, ge_iff_le, gt_iff_lt] at hg'); (try simp only [hg]))))) <;> (try simp (disch := omega) only [go_sem, wn, two]) <;> (repeat' with_reducible refine And.intro ?_ ?_) <;> (try (with_reducible refine hK _ ?_; clear hK K)))
  | omega)
    all_goals first | (exfalso; exact absurd (by assumption) hre) | skip
    all_goals first
      | (rw [if_pos (by assumption)]; (refine zF rfl ?_ ?_ ?_ ?_; (iterate 3 (focus ((try simp (disch := omega) only [go_sem, wn, default]) <;> (try omega) <;> fail))); (try simp (disch := omega) only [go_sem, wn, default, I, B, S, zj])); done)
      | (rw [if_neg (by omega)]; (refine zF rfl ?_ ?_ ?_ ?_; (iterate 3 (focus ((try simp (disch := omega) only [go_sem, wn]) <;> (try omega) <;> fail))); (try simp (disch := omega) only [go_sem, wn, I, B, S, zj])); done)
set_option maxHeartbeats 4000000 in
theorem ref_remember_c (d : ADisk) (ep : Int) (h : d.files.length * 48 ≤ 140737488351232) (hw : ∀ f, f ∈ d.files → f.wf) : acall Tryz.prog [] 19 [d.av, I ep] (ret (.tup [(rememberD d.files ep).1.av, I (rememberD d.files ep).2])) := by
  have hmk := ref_make_c ep 0
  by_cases hm : (mkZ ep 0).2 = 0
  case neg =>
    have e : rememberD d.files ep = (default, (mkZ ep 0).2) := by unfold rememberD; rw [if_pos hm]
    rw [e]
    generalize mkZ ep 0 = m at hm hmk ⊢
    refine zI Tryz.func19 rfl (by kernel_rfl) (by simp [Tryz.ntmps19]) ?_; simp only [Tryz.ntmps19, Tryz.results19, go_sem]
    (repeat' first
  | (with_reducible refine AR.f ?_)
  | refine zb (by decide) ?_
  | (with_reducible refine AWP.cond rfl ?_ ?_ <;> intro hc <;> (try simp only [hcs, beq_iff_eq, ge_iff_le, gt_iff_lt] at hc))
  | ((first | ((first | (with_reducible first | refine zR ?_ | refine zQ (by decide +kernel) ?_ | refine zD (by decide +kernel) ?_ | refine zE (by decide +kernel) ?_ | refine zG (by decide +kernel) ?_)); intro K hK) | ((first | refine zA hmk ?_ ?_ ?_ ?_ ?_); (focus exact rfl); (focus exact rfl); iterate 2 (focus ((try simp (disch := omega) only [go_sem, wn, two]) <;> (try omega) <;> fail))) | ((first | refine zX hmk rfl ?_ ?_); (focus ((try simp (disch := omega) only [go_sem, wn, two]) <;> (try omega) <;> fail))) | ((first | (with_reducible refine zu ?_ ?_ <;> intro hg) | with_reducible intro hg) <;> (first | (exfalso; simp at hg; done) | (have hg' := hg; (try simp only [hcs, beq_iff_eq, ge_iff_le, gt_iff_lt] at hg'); (try simp only [hg]))))) <;> (try simp (disch := omega) only [go_sem, wn, two]) <;> (repeat' with_reducible refine And.intro ?_ ?_) <;> (try (with_reducible refine hK _ ?_; clear hK K)))
  | omega)
    all_goals first | (exfalso; exact absurd (by assumption) hm) | (exfalso; exact absurd hm (by assumption)) | skip
    all_goals (refine zF rfl ?_ ?_ ?_ ?_; (iterate 3 (focus ((try simp (disch := omega) only [go_sem, wn, default]) <;> (try omega) <;> fail))); (try simp (disch := omega) only [go_sem, wn, default, I, B, S, zj]))
  rw [rem_eq _ _ hm]
  have hg := mkZ_good hm
  have ht := ref_text_z_c (mkZ ep 0).1 (by unfold goodZ at hg; unfold okI; omega)
  rw [textZ, if_pos hg] at ht
  have hrm := ref_remove_c d epN h hw
  obtain ⟨l1, l2⟩ := less_wf h hw
  have hwr := ref_write_c ⟨lessD d.files⟩ epN (ztext (mkZ ep 0).1) (ztext_ok hg) epN_ok l1 l2
  have hsy := ref_sync_c (writeD (lessD d.files) epN (ztext (mkZ ep 0).1)).1 epN write_wf (write_files_wf epN_ok l2)
  have hls : lessD d.files = if (removeD d.files epN).2 = 0 then (removeD d.files epN).1.files else d.files := rfl
  generalize mkZ ep 0 = m at hm hmk ht hwr hsy ⊢
  obtain ⟨z, e0⟩ := m
  simp only at hm hmk ht hwr hsy ⊢
  subst hm
  generalize ztext z = s at ht hwr hsy ⊢
  generalize lessD d.files = L at hwr hsy hls ⊢
  generalize writeD L epN s = Q at hwr hsy ⊢
  obtain ⟨wd, we⟩ := Q
  simp only at hwr hsy ⊢
  generalize changeD wd.files epN syncF = R at hsy ⊢
  obtain ⟨sd, se⟩ := R
  simp only at hsy ⊢
  generalize removeD d.files epN = M at hrm hls
  obtain ⟨rd, re⟩ := M
  simp only at hrm hls
  simp only [epN] at hrm hwr hsy
  by_cases hre : re = 0
  · subst hre
    rw [if_pos rfl] at hls
    subst hls
    refine zI Tryz.func19 rfl (by kernel_rfl) (by simp [Tryz.ntmps19]) ?_; simp only [Tryz.ntmps19, Tryz.results19, go_sem]
    (repeat' first
  | (with_reducible refine AR.f ?_)
  | refine zb (by decide) ?_
  | (with_reducible refine AWP.cond rfl ?_ ?_ <;> intro hc <;> (try simp only [hcs, beq_iff_eq, ge_iff_le, gt_iff_lt] at hc))
  | ((first | ((first | (with_reducible first | refine zR ?_ | refine zQ (by decide +kernel) ?_ | refine zD (by decide +kernel) ?_ | refine zE (by decide +kernel) ?_ | refine zG (by decide +kernel) ?_)); intro K hK) | ((first | refine zA hmk ?_ ?_ ?_ ?_ ?_ | refine zA ht ?_ ?_ ?_ ?_ ?_ | refine zA hrm ?_ ?_ ?_ ?_ ?_ | refine zA hwr ?_ ?_ ?_ ?_ ?_ | refine zA hsy ?_ ?_ ?_ ?_ ?_); (focus exact rfl); (focus exact rfl); iterate 2 (focus ((try simp (disch := omega) only [go_sem, wn, two]) <;> (try omega) <;> fail))) | ((first | refine zN hrm rfl ?_ ?_ | refine zN hwr rfl ?_ ?_ | refine zN hsy rfl ?_ ?_ | refine zX hmk rfl ?_ ?_ | refine zX ht rfl ?_ ?_ | refine zX hrm rfl ?_ ?_ | refine zY hrm ?_ ?_ | refine zX hwr rfl ?_ ?_ | refine zY hwr ?_ ?_ | refine zX hsy rfl ?_ ?_ | refine zY hsy ?_ ?_); (focus ((try simp (disch := omega) only [go_sem, wn, two]) <;> (try omega) <;> fail))) | ((first | (with_reducible refine zu ?_ ?_ <;> intro hg) | with_reducible intro hg) <;> (first | (exfalso; simp at hg; done) | (have hg' := hg; (try simp only [hcs, beq_iff_eq, ge_iff_le, gt_iff_lt] at hg'); (try simp only [hg]))))) <;> (try simp (disch := omega) only [go_sem, wn, two]) <;> (repeat' with_reducible refine And.intro ?_ ?_) <;> (try (with_reducible refine hK _ ?_; clear hK K)))
  | omega)
    all_goals first
      | (rw [if_pos (by assumption)]; (refine zF rfl ?_ ?_ ?_ ?_; (iterate 3 (focus ((try simp (disch := omega) only [go_sem, wn, default]) <;> (try omega) <;> fail))); (try simp (disch := omega) only [go_sem, wn, default, I, B, S, zj])); done)
      | (rw [if_neg (by omega)]; (refine zF rfl ?_ ?_ ?_ ?_; (iterate 3 (focus ((try simp (disch := omega) only [go_sem, wn]) <;> (try omega) <;> fail))); (try simp (disch := omega) only [go_sem, wn, I, B, S, zj])); done)
  · rw [if_neg hre] at hls
    subst hls
    refine zI Tryz.func19 rfl (by kernel_rfl) (by simp [Tryz.ntmps19]) ?_; simp only [Tryz.ntmps19, Tryz.results19, go_sem]
    (repeat' first
  | (with_reducible refine AR.f ?_)
  | refine zb (by decide) ?_
  | (with_reducible refine AWP.cond rfl ?_ ?_ <;> intro hc <;> (try simp only [hcs, beq_iff_eq, ge_iff_le, gt_iff_lt] at hc))
  | ((first | ((first | (with_reducible first | refine zR ?_ | refine zQ (by decide +kernel) ?_ | refine zD (by decide +kernel) ?_ | refine zE (by decide +kernel) ?_ | refine zG (by decide +kernel) ?_)); intro K hK) | ((first | refine zA hmk ?_ ?_ ?_ ?_ ?_ | refine zA ht ?_ ?_ ?_ ?_ ?_ | refine zA hrm ?_ ?_ ?_ ?_ ?_ | refine zA hwr ?_ ?_ ?_ ?_ ?_ | refine zA hsy ?_ ?_ ?_ ?_ ?_); (focus exact rfl); (focus exact rfl); iterate 2 (focus ((try simp (disch := omega) only [go_sem, wn, two]) <;> (try omega) <;> fail))) | ((first | refine zN hrm rfl ?_ ?_ | refine zN hwr rfl ?_ ?_ | refine zN hsy rfl ?_ ?_ | refine zX hmk rfl ?_ ?_ | refine zX ht rfl ?_ ?_ | refine zX hrm rfl ?_ ?_ | refine zY hrm ?_ ?_ | refine zX hwr rfl ?_ ?_ | refine zY hwr ?_ ?_ | refine zX hsy rfl ?_ ?_ | refine zY hsy ?_ ?_); (focus ((try simp (disch := omega) only [go_sem, wn, two]) <;> (try omega) <;> fail))) | ((first | (with_reducible refine zu ?_ ?_ <;> intro hg) | with_reducible intro hg) <;> (first | (exfalso; simp at hg; done) | (have hg' := hg; (try simp only [hcs, beq_iff_eq, ge_iff_le, gt_iff_lt] at hg'); (try simp only [hg]))))) <;> (try simp (disch := omega) only [go_sem, wn, two]) <;> (repeat' with_reducible refine And.intro ?_ ?_) <;> (try (with_reducible refine hK _ ?_; clear hK K)))
  | omega)
    all_goals first | (exfalso; exact absurd (by assumption) hre) | skip
    all_goals first
      | (rw [if_pos (by assumption)]; (refine zF rfl ?_ ?_ ?_ ?_; (iterate 3 (focus ((try simp (disch := omega) only [go_sem, wn, default]) <;> (try omega) <;> fail))); (try simp (disch := omega) only [go_sem, wn, default, I, B, S, zj])); done)
      | (rw [if_neg (by omega)]; (refine zF rfl ?_ ?_ ?_ ?_; (iterate 3 (focus ((try simp (disch := omega) only [go_sem, wn]) <;> (try omega) <;> fail))); (try simp (disch := omega) only [go_sem, wn, I, B, S, zj])); done)
theorem remember_lenD (l : List AFile) (ep : Int) : (rememberD l ep).1.files.length * 48 ≤ 140737488351232 := by
  by_cases hm : (mkZ ep 0).2 = 0
  · rw [rem_eq _ _ hm]
    split
    · exact (by decide : ([] : List AFile).length * 48 ≤ 140737488351232)
    · exact change_wf write_wf
  · have e : rememberD l ep = (default, (mkZ ep 0).2) := by unfold rememberD; rw [if_pos hm]
    rw [e]
    exact (by decide : ([] : List AFile).length * 48 ≤ 140737488351232)
end Go.Proofs.YtainmipdnjcbkaaGreatDoor
namespace Go.Proofs.YtainmipdnjcbkaaGreatDoor
set_option linter.unusedVariables false
set_option linter.unusedSimpArgs false
open Go Go.RowKit
set_option maxRecDepth 100000
set_option linter.unusedSimpArgs false
theorem SImp.frzC (k0 j : Nat) {np nt : Nat} {env : List (Nat × AV)} {hp : List ABlk} {cs : List AV} {k sz off n : Nat} {rs : List (List DV)} (hg : hp[k0]? = some (.cells cs)) (hj : cs[j]? = some (.osl k sz off n)) (hk : hp[k]? = some (.rows sz rs)) (hn : off + n ≤ rs.length) (hne : k ≠ k0)
    (h0 : ∀ j, j < np → j ≠ k ∧ ∃ z, hp[j]? = some z ∧ z ≠ .dead) :
    SImp { np := np, nt := nt, env := env, hp := hp } { np := np, nt := nt, env := env, hp := (hp.set k .dead).set k0 (.cells (cs.set j (.d (.sl sz ((rs.drop off).take n))))) } := by
  intro E ρ a w h
  have hl := h.heap.len
  simp only at hl
  have hkl0 : k0 < hp.length := (List.getElem?_eq_some_iff.1 hg).1
  obtain ⟨p0, hp0⟩ : ∃ p, ρ[k0]? = some p := ⟨ρ[k0]'(by omega), List.getElem?_eq_getElem (by omega)⟩
  have hst : HStep E ρ hp w ρ (hp.set k .dead) w := HStep.kill h.heap k
  have hr := h.step hst
  have hg0 : (hp.set k .dead)[k0]? = some (.cells cs) := by rw [List.getElem?_set_ne hne]; exact hg
  have hf : frzOk hp (.osl k sz off n) := by rw [frzOk_osl, hk]; exact ⟨rfl, hn⟩
  have he : frzV hp (.osl k sz off n) = .d (.sl sz ((rs.drop off).take n)) := by rw [frzV_osl, hk]
  have hnp : E.ρ0.length = np := h.np
  cases p0 with
  | none => rcases h.heap.nil k0 _ hg hp0 with e | ⟨_, e⟩ <;> cases e
  | some bm =>
    obtain ⟨b, m⟩ := bm
    have hst2 := HStep.redo (x' := .cells (cs.set j (.d (.sl sz ((rs.drop off).take n))))) hr.heap hg0 (by simp) (by simp) hp0 (by simp) fun us ty fz hw hm ⟨h1, h2, h3⟩ => ⟨h1, by simp [h2], fun j' c u hc hu => by
      rcases zs hc with ⟨e, e', _⟩ | ⟨_, hc⟩
      · subst e; subst e'
        have hx := h3 _ _ _ hj hu
        have hv : RepV ρ (okB E ρ hp w) w (.osl k sz off n) u := by
          cases hx with
          | osl _ _ _ _ b m cap hkk hm hn => exact .osl _ _ _ _ b m cap hkk hm hn
          | oslnil _ _ A hkk => exact .oslnil _ _ A hkk
        have hz := frz_ids h.heap.blks (fun b hb => (hst.ok b hb).1) hv (fun j hj b m sz' rs' hx2 hb2 => by
          have hjk : j = k := by simpa [idsV] using hj
          subst hjk
          exact killOne_ok h.heap h.pre (fun i hi => h0 i (by omega)) b m sz' rs' hx2 hb2) hf (by rw [he]; trivial)
        rw [he] at hz
        exact noId_rep (fun b hb => ⟨hb, rfl⟩) hz (show noId (.d (.sl sz ((rs.drop off).take n))) from trivial)
      · exact h3 _ _ _ hc hu⟩
    exact ⟨_, hr.step hst2⟩
end Go.Proofs.YtainmipdnjcbkaaGreatDoor
namespace Go.Proofs.YtainmipdnjcbkaaGreatDoor
set_option linter.unusedVariables false
set_option linter.unusedSimpArgs false
open Go Go.RowKit
set_option maxRecDepth 100000
set_option linter.unusedSimpArgs false
theorem commonZ_is : ∀ (a b : List ATxn) (k : Nat), (∀ j, j < k → (a.getD j default).zxid = (b.getD j default).zxid) → k ≤ a.length → k ≤ b.length → (k < a.length → k < b.length → (a.getD k default).zxid ≠ (b.getD k default).zxid) → commonZ a b = k
  | [], b, k, _, ha, _, _ => by simp at ha; subst ha; unfold commonZ; rfl
  | x :: a, [], k, _, _, hb, _ => by simp at hb; subst hb; unfold commonZ; rfl
  | x :: a, y :: b, 0, _, _, _, hs => by
    have h0 := hs (by simp) (by simp)
    simp only [List.getD_cons_zero] at h0
    unfold commonZ; rw [if_neg h0]
  | x :: a, y :: b, k + 1, h, ha, hb, hs => by
    have h0 := h 0 (by omega)
    simp only [List.getD_cons_zero] at h0
    unfold commonZ; rw [if_pos h0]
    rw [commonZ_is a b k (fun j hj => by simpa using h (j + 1) (by omega)) (by simpa using ha) (by simpa using hb) (fun h1 h2 => by simpa using hs (by simpa using h1) (by simpa using h2))]
theorem sync_fwf {l : List AFile} {key : List UInt8} (hw : ∀ f, f ∈ l → f.wf) : ∀ f, f ∈ (changeD l key syncF).1.files → f.wf := by
  intro f hf
  by_cases hg : goodD l = true
  · by_cases hm : key ∈ l.map AFile.name
    · rw [change_ok hg hm rfl] at hf
      have hk := ((goodD_iff.1 hg).2 _ (place_lt hg hm)).1.2
      rcases List.mem_or_eq_of_mem_set hf with h | h
      · exact hw f h
      · subst h
        obtain ⟨g1, _, _, _⟩ := file_wf hw (place (l.map AFile.name) key)
        exact ⟨g1, by show okS (_ ++ _); unfold okS; rw [List.length_append]; omega, by show okS []; unfold okS; decide⟩
    · rw [change_none hg hm] at hf; cases hf
  · rw [change_bad hg] at hf; cases hf
theorem keep_fwf {l : List AFile} {z : Int} (hw : ∀ f, f ∈ l → f.wf) : ∀ f, f ∈ (keepD l z).1.files → f.wf := by
  intro f hf
  by_cases h : (recoverD l).2.2 = 0
  · have o := recover_ok h
    rw [keep_yes h] at hf
    rcases List.mem_or_eq_of_mem_set hf with h1 | h1
    · exact o.wf hw f h1
    · subst h1
      have hl : (encs (keepL (recoverD l).1 z)).length ≤ 1048576 := Nat.le_trans (encs_filter _ _) o.len
      exact ⟨logN_ok, by show okS (encs (keepL (recoverD l).1 z)); unfold okS; omega, by show okS []; unfold okS; decide⟩
  · rw [keep_no h] at hf; cases hf
theorem remember_fwf {l : List AFile} {ep : Int} (h : l.length * 48 ≤ 140737488351232) (hw : ∀ f, f ∈ l → f.wf) : ∀ f, f ∈ (rememberD l ep).1.files → f.wf := by
  by_cases hm : (mkZ ep 0).2 = 0
  · rw [rem_eq _ _ hm]
    split
    · intro f hf; cases hf
    · exact sync_fwf (write_files_wf epN_ok (less_wf h hw).2)
  · have e : rememberD l ep = (default, (mkZ ep 0).2) := by unfold rememberD; rw [if_pos hm]
    rw [e]; intro f hf; cases hf
theorem append_fwf {l : List AFile} {t : ATxn} {safe : Bool} (hw : ∀ f, f ∈ l → f.wf) : ∀ f, f ∈ (appendD l t safe).1.files → f.wf := by
  unfold appendD
  split
  · intro f hf; cases hf
  · split
    · exact write_files_wf logN_ok hw
    · exact sync_fwf (write_files_wf logN_ok hw)
theorem default_swf : (default : AServer).wf :=
  ⟨trivial, ⟨by decide, fun _ h => by cases h⟩, ⟨⟨by decide, by decide⟩, ⟨by decide, by decide⟩, ⟨by decide, fun _ h => by cases h⟩, ⟨by decide, by decide⟩⟩, ⟨⟨by decide, by decide⟩, ⟨by decide, fun _ h => by cases h⟩, ⟨by decide, fun _ h => by cases h⟩⟩, ⟨by decide, fun _ h => by cases h⟩⟩
theorem take_swf {s : AServer} {x : ATxn} {safe : Bool} (hw : s.wf) (hx : x.wf) (hl : s.peer.log.length ≤ 1048576) : (takeS s x safe).1.wf := by
  obtain ⟨_, h1, h2, h3, h4⟩ := hw
  unfold takeS
  split
  · exact default_swf
  split
  · refine ⟨trivial, ⟨append_wf, append_fwf h1.2⟩, ⟨h2.1, h2.2.1, ⟨?_, fun y hy => ?_⟩, h2.2.2.2⟩, h3, h4⟩
    · show (s.peer.log ++ [x]).length * 72 ≤ _; rw [List.length_append, List.length_singleton]; omega
    · rcases List.mem_append.1 hy with hy | hy
      · exact h2.2.2.1.2 y hy
      · rw [List.mem_singleton.1 hy]; exact hx
  · exact default_swf
theorem take_len {s : AServer} {x : ATxn} {safe : Bool} : (takeS s x safe).1.peer.log.length ≤ s.peer.log.length + 1 := by
  unfold takeS
  split
  · exact Nat.zero_le _
  split
  · show (s.peer.log ++ [x]).length ≤ _; rw [List.length_append, List.length_singleton]; exact Nat.le_refl _
  · exact Nat.zero_le _
theorem drop_consT (l : List ATxn) (k : Nat) (h : k < l.length) : l.drop k = l.getD k default :: l.drop (k + 1) := by
  rw [List.drop_eq_getElem_cons h, List.getD_eq_getElem?_getD, List.getElem?_eq_getElem h]; rfl
structure GS (s : AServer) : Prop where
  w : s.wf
  t : okT s.tree
  p : ∀ x, x ∈ s.peer.log → x.path.length ≤ 1048576
def fol0 (s : AServer) (l : List ATxn) (ep : Int) (k : Nat) : AServer × Int :=
  if (k : Int) < s.peer.done then (default, 13) else
  if (keepD s.disk.files (backZ l k)).2 ≠ 0 then (default, (keepD s.disk.files (backZ l k)).2) else
  if (rememberD (keepD s.disk.files (backZ l k)).1.files ep).2 ≠ 0 then (default, (rememberD (keepD s.disk.files (backZ l k)).1.files ep).2) else
  takesS ⟨s.up, (rememberD (keepD s.disk.files (backZ l k)).1.files ep).1, ⟨s.peer.id, ep, s.peer.log.take k, s.peer.done⟩, s.tree, s.watches⟩ (l.drop k)
theorem fol0_eq (s : AServer) (l : List ATxn) (ep : Int) : followS s l ep = fol0 s l ep (commonZ l s.peer.log) := rfl
theorem takesS_ok {x : ATxn} {r : List ATxn} {s : AServer} (h : (takeS s x true).2 = 0) : takesS s (x :: r) = takesS (takeS s x true).1 r := by rw [takesS, if_pos h]
theorem takesS_no {x : ATxn} {r : List ATxn} {s : AServer} (h : ¬ (takeS s x true).2 = 0) : takesS s (x :: r) = (default, (takeS s x true).2) := by rw [takesS, if_neg h]
structure TkInv (X : List ATxn) (F : AServer × Int) (v : Nat × AServer) : Prop where
  k : v.1 ≤ X.length
  f : takesS v.2 (X.drop v.1) = F
  w : v.2.wf
  l : v.2.peer.log.length + (X.length - v.1) ≤ 1048576
theorem TkInv.next {X : List ATxn} {F : AServer × Int} {v : Nat × AServer} (h : TkInv X F v) (hk : v.1 < X.length) (hX : ∀ x, x ∈ X → x.wf) (h0 : (takeS v.2 (X.getD v.1 default) true).2 = 0) : TkInv X F (v.1 + 1, (takeS v.2 (X.getD v.1 default) true).1) := by
  obtain ⟨h1, h2, h3, h4⟩ := h
  have hx := hX _ (mem_getD X default hk)
  have hd := drop_consT X v.1 hk
  rw [hd, takesS_ok h0] at h2
  have := take_len (s := v.2) (x := X.getD v.1 default) (safe := true)
  exact ⟨hk, h2, take_swf h3 hx (by omega), by simp only; omega⟩
theorem TkInv.stop {X : List ATxn} {F : AServer × Int} {v : Nat × AServer} (h : TkInv X F v) (hk : v.1 < X.length) (h0 : ¬ (takeS v.2 (X.getD v.1 default) true).2 = 0) : F = (default, (takeS v.2 (X.getD v.1 default) true).2) := by
  have h2 := h.f
  rw [drop_consT X v.1 hk, takesS_no h0] at h2
  exact h2.symm
theorem TkInv.end {X : List ATxn} {F : AServer × Int} {v : Nat × AServer} (h : TkInv X F v) (hk : ¬ v.1 < X.length) : F = (v.2, 0) := by
  have h2 := h.f
  rw [List.drop_of_length_le (by have := h.k; omega)] at h2
  exact h2.symm
theorem fol_swf {s : AServer} {d : ADisk} {ep : Int} {k : Nat} (hw : s.wf) (hd : d.wf) (he : okI ep) : AServer.wf ⟨s.up, d, ⟨s.peer.id, ep, s.peer.log.take k, s.peer.done⟩, s.tree, s.watches⟩ := by
  obtain ⟨_, h1, h2, h3, h4⟩ := hw
  have := h2.2.2.1.1
  exact ⟨trivial, hd, ⟨h2.1, he, ⟨by show (s.peer.log.take k).length * 72 ≤ _; rw [List.length_take]; omega, fun y hy => h2.2.2.1.2 y (List.mem_of_mem_take hy)⟩, h2.2.2.2⟩, h3, h4⟩
set_option maxHeartbeats 8000000 in
theorem follow_c (s : AServer) (l : List ATxn) (ep : Int) (hw : s.wf) (hlw : ∀ x, x ∈ l → x.wf) (hll : l.length ≤ 1048576) (he : okI ep) : acall Tryz.prog [] 25 [s.av, .d (.sl 7 (l.map ATxn.row)), I ep] (ret (.tup [(followS s l ep).1.av, I (followS s l ep).2])) := by
  have hw0 := hw
  obtain ⟨_, h1, h2, h3, h4⟩ := hw
  have hl7 := h2.2.2.1.1
  have hok0 := h2.2.2.2
  rw [fol0_eq]
  generalize hC : commonZ l s.peer.log = C
  refine zI Tryz.func25 rfl (by kernel_rfl) (by simp [Tryz.ntmps25]) ?_; simp only [Tryz.ntmps25, Tryz.results25, go_sem]
  (repeat' first
| (with_reducible refine AR.f ?_)
| refine zb (by decide) ?_
| (with_reducible refine AWP.cond rfl ?_ ?_ <;> intro hc <;> (try simp only [hcs, beq_iff_eq, ge_iff_le, gt_iff_lt] at hc))
| ((first | ((first | (with_reducible first | refine zR ?_ | refine zQ (by decide +kernel) ?_ | refine zD (by decide +kernel) ?_ | refine zE (by decide +kernel) ?_ | refine zG (by decide +kernel) ?_)); intro K hK) | ((first | (with_reducible refine zu ?_ ?_ <;> intro hg) | with_reducible intro hg) <;> (first | (exfalso; simp at hg; done) | (have hg' := hg; (try simp only [hcs, beq_iff_eq, ge_iff_le, gt_iff_lt] at hg'); (try simp only [hg]))))) <;> (try simp (disch := omega) only [go_sem, wn]) <;> (repeat' with_reducible refine And.intro ?_ ?_) <;> (try (with_reducible refine hK _ ?_; clear hK K)))
| omega)
  refine AWP.loopB (ι := Nat) (fun k => k ≤ l.length ∧ k ≤ s.peer.log.length ∧ ∀ j, j < k → (l.getD j default).zxid = (s.peer.log.getD j default).zxid) (fun k => l.length - k) [1, 2, 3, 6] (fun k => [(8, I k)]) (fun k => [.cells [B s.up, .d (.sl 3 (s.disk.files.map AFile.row)), I s.peer.id, I s.peer.epoch, .d (.sl 7 (s.peer.log.map ATxn.row)), I s.peer.done, I s.tree.zxid, .d (.sl 9 (s.tree.nodes.map ANode.row)), .d (.sl 1 (s.tree.sessions.map irow)), .d (.sl 3 (s.watches.map AWatch.row))], .cells [B false, .d (.sc (.slice none 0 0)), I 0, I 0, .d (.sc (.slice none 0 0)), I 0, I 0, .d (.sc (.slice none 0 0)), .d (.sc (.slice none 0 0)), .d (.sc (.slice none 0 0))]]) 0 ?_ ?_ ?_
  · exact ⟨Nat.zero_le _, Nat.zero_le _, fun j hj => by omega⟩
  · simp only [go_sem]; (refine SImp.same ?_; simp (disch := omega) only [go_sem, wn, Int.natCast_add])
  intro k ⟨hk1, hk2, hk3⟩
  simp only [go_sem]
  by_cases hgo : k < l.length ∧ k < s.peer.log.length ∧ (l.getD k default).zxid = (s.peer.log.getD k default).zxid
  · obtain ⟨g1, g2, g3⟩ := hgo
    (repeat' first
  | (with_reducible refine AR.f ?_)
  | refine zb (by decide) ?_
  | (with_reducible refine AWP.cond rfl ?_ ?_ <;> intro hc <;> (try simp only [hcs, beq_iff_eq, ge_iff_le, gt_iff_lt] at hc))
  | ((first | ((first | (with_reducible first | refine zR ?_ | refine zQ (by decide +kernel) ?_ | refine zD (by decide +kernel) ?_ | refine zE (by decide +kernel) ?_ | refine zG (by decide +kernel) ?_)); intro K hK) | ((first | (with_reducible refine zu ?_ ?_ <;> intro hg) | with_reducible intro hg) <;> (first | (exfalso; simp at hg; done) | (have hg' := hg; (try simp only [hcs, beq_iff_eq, ge_iff_le, gt_iff_lt] at hg'); (try simp only [hg]))))) <;> (try simp (disch := omega) only [go_sem, wn, ATxn.rgetD l k _ g1, ATxn.rgetD s.peer.log k _ g2, g3, g1, g2]) <;> (repeat' with_reducible refine And.intro ?_ ?_) <;> (try (with_reducible refine hK _ ?_; clear hK K)))
  | omega)
    all_goals first | (exfalso; omega) | skip
    refine ⟨k + 1, ⟨by omega, by omega, fun j hj => ?_⟩, by omega, ?_⟩
    · by_cases e : j = k
      · subst e; exact g3
      · exact hk3 j (by omega)
    · (refine SImp.same ?_; simp (disch := omega) only [go_sem, wn, Int.natCast_add])
  have hkC : C = k := by rw [← hC]; exact commonZ_is _ _ _ hk3 hk1 hk2 fun a b c => hgo ⟨a, b, c⟩
  subst hkC
  have hkp := keep_c s.disk (backZ l C) h1.1 h1.2
  have kwf := keep_wf (l := s.disk.files) (z := backZ l C)
  have kfw := keep_fwf (z := backZ l C) h1.2
  have hrm := remember_c (keepD s.disk.files (backZ l C)).1 ep kwf kfw
  have rwf := remember_lenD (keepD s.disk.files (backZ l C)).1.files ep
  have rfw := remember_fwf (ep := ep) kwf kfw
  have hbz : backZ l C = if 0 < C then (l.getD (C - 1) default).zxid else -1 := rfl
  have hXe : List.take (l.length - C) (List.drop C (l.map ATxn.row)) = (l.drop C).map ATxn.row := by rw [← List.map_drop]; exact List.take_of_length_le (by simp)
  have hYe : List.take C (s.peer.log.map ATxn.row) = (s.peer.log.take C).map ATxn.row := by rw [List.map_take]
  have hYl : (s.peer.log.take C).length = C := by rw [List.length_take]; omega
  have hXl : (l.drop C).length = l.length - C := List.length_drop
  have hXw : ∀ x, x ∈ l.drop C → x.wf := fun x hx => hlw x (List.mem_of_mem_drop hx)
  unfold fol0
  by_cases hd : (C : Int) < s.peer.done
  · rw [if_pos hd]
    (repeat' first
  | (with_reducible refine AR.f ?_)
  | refine zb (by decide) ?_
  | (with_reducible refine AWP.cond rfl ?_ ?_ <;> intro hc <;> (try simp only [hcs, beq_iff_eq, ge_iff_le, gt_iff_lt] at hc))
  | ((first | ((first | (with_reducible first | refine zR ?_ | refine zQ (by decide +kernel) ?_ | refine zD (by decide +kernel) ?_ | refine zE (by decide +kernel) ?_ | refine zG (by decide +kernel) ?_)); intro K hK) | ((first | (with_reducible refine zu ?_ ?_ <;> intro hg) | with_reducible intro hg) <;> (first | (exfalso; simp at hg; done) | (have hg' := hg; (try simp only [hcs, beq_iff_eq, ge_iff_le, gt_iff_lt] at hg'); (try simp only [hg]))))) <;> (try simp (disch := omega) only [go_sem, wn]) <;> (repeat' with_reducible refine And.intro ?_ ?_) <;> (try (with_reducible refine hK _ ?_; clear hK K)))
  | omega)
    all_goals first | (exfalso; omega) | skip
    all_goals (refine zF rfl ?_ ?_ ?_ ?_; (iterate 3 (focus ((try simp (disch := omega) only [go_sem, wn, default]) <;> (try omega) <;> fail))); (try simp (disch := omega) only [go_sem, wn, default, I, B, S, zj]))
  rw [if_neg hd]
  have hsw (d : ADisk) (hd : d.wf) := fol_swf (k := C) hw0 hd he
  generalize backZ l C = bz at hbz hkp hrm kwf kfw rwf rfw ⊢
  generalize keepD s.disk.files bz = K at hkp hrm kwf kfw rwf rfw ⊢
  obtain ⟨kd, ke⟩ := K
  simp only at hkp hrm kwf kfw rwf rfw ⊢
  generalize rememberD kd.files ep = R at hrm rwf rfw ⊢
  obtain ⟨rd, re⟩ := R
  simp only at hrm rwf rfw ⊢
  have hrw : rd.wf := ⟨rwf, rfw⟩
  have hsw := hsw rd hrw
  generalize hX : l.drop C = X at hXe hXl hXw ⊢
  generalize hY : s.peer.log.take C = Y at hYe hYl hsw ⊢
  have hYt : List.take C (Y.map ATxn.row) = Y.map ATxn.row := List.take_of_length_le (by simp; omega)
  have hmn : min C s.peer.log.length = C := Nat.min_eq_left hk2
  generalize hF : (if ke ≠ 0 then ((default : AServer), ke) else if re ≠ 0 then (default, re) else takesS ⟨s.up, rd, ⟨s.peer.id, ep, Y, s.peer.done⟩, s.tree, s.watches⟩ X) = F
  by_cases h0 : 0 < C
  · rw [if_pos h0] at hbz
    subst hbz
    (repeat' first
  | (with_reducible refine AR.f ?_)
  | refine zb (by decide) ?_
  | (with_reducible refine AWP.cond rfl ?_ ?_ <;> intro hc <;> (try simp only [hcs, beq_iff_eq, ge_iff_le, gt_iff_lt] at hc))
  | ((first | ((first | (with_reducible first | refine zR ?_ | refine zQ (by decide +kernel) ?_ | refine zD (by decide +kernel) ?_ | refine zE (by decide +kernel) ?_ | refine zG (by decide +kernel) ?_)); intro K hK) | ((first | refine zA hkp ?_ ?_ ?_ ?_ ?_ | refine zA hrm ?_ ?_ ?_ ?_ ?_); (focus exact rfl); (focus exact rfl); iterate 2 (focus ((try simp (disch := omega) only [go_sem, wn, ATxn.rgetD l (C - 1) _ (by omega), hXe, hYe, toNat_pr, Nat.sub_zero, hmn]) <;> (try omega) <;> fail))) | ((first | refine zN hkp rfl ?_ ?_ | refine zN hrm rfl ?_ ?_ | refine zX hkp rfl ?_ ?_ | refine zY hkp ?_ ?_ | refine zX hrm rfl ?_ ?_ | refine zY hrm ?_ ?_); (focus ((try simp (disch := omega) only [go_sem, wn, ATxn.rgetD l (C - 1) _ (by omega), hXe, hYe, toNat_pr, Nat.sub_zero, hmn]) <;> (try omega) <;> fail))) | ((first | (with_reducible refine zu ?_ ?_ <;> intro hg) | with_reducible intro hg) <;> (first | (exfalso; simp at hg; done) | (have hg' := hg; (try simp only [hcs, beq_iff_eq, ge_iff_le, gt_iff_lt] at hg'); (try simp only [hg]))))) <;> (try simp (disch := omega) only [go_sem, wn, ATxn.rgetD l (C - 1) _ (by omega), hXe, hYe, toNat_pr, Nat.sub_zero, hmn]) <;> (repeat' with_reducible refine And.intro ?_ ?_) <;> (try (with_reducible refine hK _ ?_; clear hK K)))
  | omega)
    · rw [if_pos hc] at hF
      subst hF
      (refine zF rfl ?_ ?_ ?_ ?_; (iterate 3 (focus ((try simp (disch := omega) only [go_sem, wn, default]) <;> (try omega) <;> fail))); (try simp (disch := omega) only [go_sem, wn, default, I, B, S, zj]))
    · rw [if_neg (by omega), if_pos hc] at hF
      subst hF
      (refine zF rfl ?_ ?_ ?_ ?_; (iterate 3 (focus ((try simp (disch := omega) only [go_sem, wn, default]) <;> (try omega) <;> fail))); (try simp (disch := omega) only [go_sem, wn, default, I, B, S, zj]))
    · rw [if_neg (by omega), if_neg (by omega)] at hF
      refine AWP.weaken (SImp.frzC 0 4 rfl rfl rfl (by first | (simp; done) | (simp; omega)) (by decide) (fun j hj => absurd hj (Nat.not_lt_zero j))) ?_
      simp only [go_sem]
      refine AWP.loopB (ι := Nat × AServer) (fun v => TkInv X F v) (fun v => X.length - v.1) [3, 6, 92, 93] (fun v => [(94, I v.1)]) (fun v => [.cells [B v.2.up, .d (.sl 3 (v.2.disk.files.map AFile.row)), I v.2.peer.id, I v.2.peer.epoch, .d (.sl 7 (v.2.peer.log.map ATxn.row)), I v.2.peer.done, I v.2.tree.zxid, .d (.sl 9 (v.2.tree.nodes.map ANode.row)), .d (.sl 1 (v.2.tree.sessions.map irow)), .d (.sl 3 (v.2.watches.map AWatch.row))], .cells [B false, .d (.sc (.slice none 0 0)), I 0, I 0, .d (.sc (.slice none 0 0)), I 0, I 0, .d (.sc (.slice none 0 0)), .d (.sc (.slice none 0 0)), .d (.sc (.slice none 0 0))]]) (0, ⟨s.up, rd, ⟨s.peer.id, ep, Y, s.peer.done⟩, s.tree, s.watches⟩) ?_ ?_ ?_
      · exact ⟨Nat.zero_le _, hF, hsw, by simp only; omega⟩
      · simp only [go_sem]; (refine zV [0, 1] rfl rfl rfl rfl ?_ ?_ <;> simp (disch := omega) only [go_sem, wn, Int.natCast_add, List.drop_zero, hYt] <;> (try rfl))
      intro v hv
      simp only [go_sem]
      have hvk := hv.k
      by_cases hk4 : v.1 < X.length
      · have hxw := hXw _ (mem_getD X default hk4)
        have hvl := hv.l
        have ht := take_c v.2 (X.getD v.1 default) true hv.w hxw (by omega)
        have hrow : ∀ z, List.getD (X.map ATxn.row) v.1 z = (X.getD v.1 default).row := fun z => ATxn.rgetD X v.1 z hk4
        by_cases ht0 : (takeS v.2 (X.getD v.1 default) true).2 = 0
        · have hnx := hv.next hk4 hXw ht0
          generalize X.getD v.1 default = x at ht ht0 hnx hrow
          generalize takeS v.2 x true = q at ht ht0 hnx
          obtain ⟨q1, q2⟩ := q
          simp only at ht ht0 hnx
          (repeat' first
        | (with_reducible refine AR.f ?_)
        | refine zb (by decide) ?_
        | (with_reducible refine AWP.cond rfl ?_ ?_ <;> intro hc <;> (try simp only [hcs, beq_iff_eq, ge_iff_le, gt_iff_lt] at hc))
        | ((first | ((first | (with_reducible first | refine zR ?_ | refine zQ (by decide +kernel) ?_ | refine zD (by decide +kernel) ?_ | refine zE (by decide +kernel) ?_ | refine zG (by decide +kernel) ?_)); intro K hK) | ((first | refine zA ht ?_ ?_ ?_ ?_ ?_); (focus exact rfl); (focus exact rfl); iterate 2 (focus ((try simp (disch := omega) only [go_sem, wn, hrow, ATxn.row]) <;> (try omega) <;> fail))) | ((first | refine zN ht rfl ?_ ?_ | refine zX ht rfl ?_ ?_ | refine zY ht ?_ ?_); (focus ((try simp (disch := omega) only [go_sem, wn, hrow, ATxn.row]) <;> (try omega) <;> fail))) | ((first | (with_reducible refine zu ?_ ?_ <;> intro hg) | with_reducible intro hg) <;> (first | (exfalso; simp at hg; done) | (have hg' := hg; (try simp only [hcs, beq_iff_eq, ge_iff_le, gt_iff_lt] at hg'); (try simp only [hg]))))) <;> (try simp (disch := omega) only [go_sem, wn, hrow, ATxn.row]) <;> (repeat' with_reducible refine And.intro ?_ ?_) <;> (try (with_reducible refine hK _ ?_; clear hK K)))
        | omega)
          all_goals first | (exfalso; omega) | skip
          refine ⟨(v.1 + 1, q1), hnx, by simp only; omega, ?_⟩
          (refine zV [0, 1] rfl rfl rfl rfl ?_ ?_ <;> simp (disch := omega) only [go_sem, wn, Int.natCast_add] <;> (try rfl))
        · have hst := hv.stop hk4 ht0
          generalize X.getD v.1 default = x at ht ht0 hst hrow
          generalize takeS v.2 x true = q at ht ht0 hst
          obtain ⟨q1, q2⟩ := q
          simp only at ht ht0 hst
          subst hst
          (repeat' first
        | (with_reducible refine AR.f ?_)
        | refine zb (by decide) ?_
        | (with_reducible refine AWP.cond rfl ?_ ?_ <;> intro hc <;> (try simp only [hcs, beq_iff_eq, ge_iff_le, gt_iff_lt] at hc))
        | ((first | ((first | (with_reducible first | refine zR ?_ | refine zQ (by decide +kernel) ?_ | refine zD (by decide +kernel) ?_ | refine zE (by decide +kernel) ?_ | refine zG (by decide +kernel) ?_)); intro K hK) | ((first | refine zA ht ?_ ?_ ?_ ?_ ?_); (focus exact rfl); (focus exact rfl); iterate 2 (focus ((try simp (disch := omega) only [go_sem, wn, hrow, ATxn.row]) <;> (try omega) <;> fail))) | ((first | refine zN ht rfl ?_ ?_ | refine zX ht rfl ?_ ?_ | refine zY ht ?_ ?_); (focus ((try simp (disch := omega) only [go_sem, wn, hrow, ATxn.row]) <;> (try omega) <;> fail))) | ((first | (with_reducible refine zu ?_ ?_ <;> intro hg) | with_reducible intro hg) <;> (first | (exfalso; simp at hg; done) | (have hg' := hg; (try simp only [hcs, beq_iff_eq, ge_iff_le, gt_iff_lt] at hg'); (try simp only [hg]))))) <;> (try simp (disch := omega) only [go_sem, wn, hrow, ATxn.row]) <;> (repeat' with_reducible refine And.intro ?_ ?_) <;> (try (with_reducible refine hK _ ?_; clear hK K)))
        | omega)
          all_goals first | (exfalso; omega) | skip
          (refine zF rfl ?_ ?_ ?_ ?_; (iterate 3 (focus ((try simp (disch := omega) only [go_sem, wn, default]) <;> (try omega) <;> fail))); (try simp (disch := omega) only [go_sem, wn, default, I, B, S, zj]))
      · have hst := hv.end hk4
        subst hst
        (repeat' first
      | (with_reducible refine AR.f ?_)
      | refine zb (by decide) ?_
      | (with_reducible refine AWP.cond rfl ?_ ?_ <;> intro hc <;> (try simp only [hcs, beq_iff_eq, ge_iff_le, gt_iff_lt] at hc))
      | ((first | ((first | (with_reducible first | refine zR ?_ | refine zQ (by decide +kernel) ?_ | refine zD (by decide +kernel) ?_ | refine zE (by decide +kernel) ?_ | refine zG (by decide +kernel) ?_)); intro K hK) | ((first | (with_reducible refine zu ?_ ?_ <;> intro hg) | with_reducible intro hg) <;> (first | (exfalso; simp at hg; done) | (have hg' := hg; (try simp only [hcs, beq_iff_eq, ge_iff_le, gt_iff_lt] at hg'); (try simp only [hg]))))) <;> (try simp (disch := omega) only [go_sem, wn]) <;> (repeat' with_reducible refine And.intro ?_ ?_) <;> (try (with_reducible refine hK _ ?_; clear hK K)))
      | omega)
        all_goals first | (exfalso; omega) | skip
        (refine zF rfl ?_ ?_ ?_ ?_; (iterate 3 (focus ((try simp (disch := omega) only [go_sem, wn]) <;> (try omega) <;> fail))); (try simp (disch := omega) only [go_sem, wn, I, B, S, zj]))
  · rw [if_neg h0] at hbz
    subst hbz
    (repeat' first
  | (with_reducible refine AR.f ?_)
  | refine zb (by decide) ?_
  | (with_reducible refine AWP.cond rfl ?_ ?_ <;> intro hc <;> (try simp only [hcs, beq_iff_eq, ge_iff_le, gt_iff_lt] at hc))
  | ((first | ((first | (with_reducible first | refine zR ?_ | refine zQ (by decide +kernel) ?_ | refine zD (by decide +kernel) ?_ | refine zE (by decide +kernel) ?_ | refine zG (by decide +kernel) ?_)); intro K hK) | ((first | refine zA hkp ?_ ?_ ?_ ?_ ?_ | refine zA hrm ?_ ?_ ?_ ?_ ?_); (focus exact rfl); (focus exact rfl); iterate 2 (focus ((try simp (disch := omega) only [go_sem, wn, hXe, hYe, Nat.sub_zero, hmn]) <;> (try omega) <;> fail))) | ((first | refine zN hkp rfl ?_ ?_ | refine zN hrm rfl ?_ ?_ | refine zX hkp rfl ?_ ?_ | refine zY hkp ?_ ?_ | refine zX hrm rfl ?_ ?_ | refine zY hrm ?_ ?_); (focus ((try simp (disch := omega) only [go_sem, wn, hXe, hYe, Nat.sub_zero, hmn]) <;> (try omega) <;> fail))) | ((first | (with_reducible refine zu ?_ ?_ <;> intro hg) | with_reducible intro hg) <;> (first | (exfalso; simp at hg; done) | (have hg' := hg; (try simp only [hcs, beq_iff_eq, ge_iff_le, gt_iff_lt] at hg'); (try simp only [hg]))))) <;> (try simp (disch := omega) only [go_sem, wn, hXe, hYe, Nat.sub_zero, hmn]) <;> (repeat' with_reducible refine And.intro ?_ ?_) <;> (try (with_reducible refine hK _ ?_; clear hK K)))
  | omega)
    · rw [if_pos hc] at hF
      subst hF
      (refine zF rfl ?_ ?_ ?_ ?_; (iterate 3 (focus ((try simp (disch := omega) only [go_sem, wn, default]) <;> (try omega) <;> fail))); (try simp (disch := omega) only [go_sem, wn, default, I, B, S, zj]))
    · rw [if_neg (by omega), if_pos hc] at hF
      subst hF
      (refine zF rfl ?_ ?_ ?_ ?_; (iterate 3 (focus ((try simp (disch := omega) only [go_sem, wn, default]) <;> (try omega) <;> fail))); (try simp (disch := omega) only [go_sem, wn, default, I, B, S, zj]))
    · rw [if_neg (by omega), if_neg (by omega)] at hF
      refine AWP.weaken (SImp.frzC 0 4 rfl rfl rfl (by first | (simp; done) | (simp; omega)) (by decide) (fun j hj => absurd hj (Nat.not_lt_zero j))) ?_
      simp only [go_sem]
      refine AWP.loopB (ι := Nat × AServer) (fun v => TkInv X F v) (fun v => X.length - v.1) [3, 6, 92, 93] (fun v => [(94, I v.1)]) (fun v => [.cells [B v.2.up, .d (.sl 3 (v.2.disk.files.map AFile.row)), I v.2.peer.id, I v.2.peer.epoch, .d (.sl 7 (v.2.peer.log.map ATxn.row)), I v.2.peer.done, I v.2.tree.zxid, .d (.sl 9 (v.2.tree.nodes.map ANode.row)), .d (.sl 1 (v.2.tree.sessions.map irow)), .d (.sl 3 (v.2.watches.map AWatch.row))], .cells [B false, .d (.sc (.slice none 0 0)), I 0, I 0, .d (.sc (.slice none 0 0)), I 0, I 0, .d (.sc (.slice none 0 0)), .d (.sc (.slice none 0 0)), .d (.sc (.slice none 0 0))]]) (0, ⟨s.up, rd, ⟨s.peer.id, ep, Y, s.peer.done⟩, s.tree, s.watches⟩) ?_ ?_ ?_
      · exact ⟨Nat.zero_le _, hF, hsw, by simp only; omega⟩
      · simp only [go_sem]; (refine zV [0, 1] rfl rfl rfl rfl ?_ ?_ <;> simp (disch := omega) only [go_sem, wn, Int.natCast_add, List.drop_zero, hYt] <;> (try rfl))
      intro v hv
      simp only [go_sem]
      have hvk := hv.k
      by_cases hk4 : v.1 < X.length
      · have hxw := hXw _ (mem_getD X default hk4)
        have hvl := hv.l
        have ht := take_c v.2 (X.getD v.1 default) true hv.w hxw (by omega)
        have hrow : ∀ z, List.getD (X.map ATxn.row) v.1 z = (X.getD v.1 default).row := fun z => ATxn.rgetD X v.1 z hk4
        by_cases ht0 : (takeS v.2 (X.getD v.1 default) true).2 = 0
        · have hnx := hv.next hk4 hXw ht0
          generalize X.getD v.1 default = x at ht ht0 hnx hrow
          generalize takeS v.2 x true = q at ht ht0 hnx
          obtain ⟨q1, q2⟩ := q
          simp only at ht ht0 hnx
          (repeat' first
        | (with_reducible refine AR.f ?_)
        | refine zb (by decide) ?_
        | (with_reducible refine AWP.cond rfl ?_ ?_ <;> intro hc <;> (try simp only [hcs, beq_iff_eq, ge_iff_le, gt_iff_lt] at hc))
        | ((first | ((first | (with_reducible first | refine zR ?_ | refine zQ (by decide +kernel) ?_ | refine zD (by decide +kernel) ?_ | refine zE (by decide +kernel) ?_ | refine zG (by decide +kernel) ?_)); intro K hK) | ((first | refine zA ht ?_ ?_ ?_ ?_ ?_); (focus exact rfl); (focus exact rfl); iterate 2 (focus ((try simp (disch := omega) only [go_sem, wn, hrow, ATxn.row]) <;> (try omega) <;> fail))) | ((first | refine zN ht rfl ?_ ?_ | refine zX ht rfl ?_ ?_ | refine zY ht ?_ ?_); (focus ((try simp (disch := omega) only [go_sem, wn, hrow, ATxn.row]) <;> (try omega) <;> fail))) | ((first | (with_reducible refine zu ?_ ?_ <;> intro hg) | with_reducible intro hg) <;> (first | (exfalso; simp at hg; done) | (have hg' := hg; (try simp only [hcs, beq_iff_eq, ge_iff_le, gt_iff_lt] at hg'); (try simp only [hg]))))) <;> (try simp (disch := omega) only [go_sem, wn, hrow, ATxn.row]) <;> (repeat' with_reducible refine And.intro ?_ ?_) <;> (try (with_reducible refine hK _ ?_; clear hK K)))
        | omega)
          all_goals first | (exfalso; omega) | skip
          refine ⟨(v.1 + 1, q1), hnx, by simp only; omega, ?_⟩
          (refine zV [0, 1] rfl rfl rfl rfl ?_ ?_ <;> simp (disch := omega) only [go_sem, wn, Int.natCast_add] <;> (try rfl))
        · have hst := hv.stop hk4 ht0
          generalize X.getD v.1 default = x at ht ht0 hst hrow
          generalize takeS v.2 x true = q at ht ht0 hst
          obtain ⟨q1, q2⟩ := q
          simp only at ht ht0 hst
          subst hst
          (repeat' first
        | (with_reducible refine AR.f ?_)
        | refine zb (by decide) ?_
        | (with_reducible refine AWP.cond rfl ?_ ?_ <;> intro hc <;> (try simp only [hcs, beq_iff_eq, ge_iff_le, gt_iff_lt] at hc))
        | ((first | ((first | (with_reducible first | refine zR ?_ | refine zQ (by decide +kernel) ?_ | refine zD (by decide +kernel) ?_ | refine zE (by decide +kernel) ?_ | refine zG (by decide +kernel) ?_)); intro K hK) | ((first | refine zA ht ?_ ?_ ?_ ?_ ?_); (focus exact rfl); (focus exact rfl); iterate 2 (focus ((try simp (disch := omega) only [go_sem, wn, hrow, ATxn.row]) <;> (try omega) <;> fail))) | ((first | refine zN ht rfl ?_ ?_ | refine zX ht rfl ?_ ?_ | refine zY ht ?_ ?_); (focus ((try simp (disch := omega) only [go_sem, wn, hrow, ATxn.row]) <;> (try omega) <;> fail))) | ((first | (with_reducible refine zu ?_ ?_ <;> intro hg) | with_reducible intro hg) <;> (first | (exfalso; simp at hg; done) | (have hg' := hg; (try simp only [hcs, beq_iff_eq, ge_iff_le, gt_iff_lt] at hg'); (try simp only [hg]))))) <;> (try simp (disch := omega) only [go_sem, wn, hrow, ATxn.row]) <;> (repeat' with_reducible refine And.intro ?_ ?_) <;> (try (with_reducible refine hK _ ?_; clear hK K)))
        | omega)
          all_goals first | (exfalso; omega) | skip
          (refine zF rfl ?_ ?_ ?_ ?_; (iterate 3 (focus ((try simp (disch := omega) only [go_sem, wn, default]) <;> (try omega) <;> fail))); (try simp (disch := omega) only [go_sem, wn, default, I, B, S, zj]))
      · have hst := hv.end hk4
        subst hst
        (repeat' first
      | (with_reducible refine AR.f ?_)
      | refine zb (by decide) ?_
      | (with_reducible refine AWP.cond rfl ?_ ?_ <;> intro hc <;> (try simp only [hcs, beq_iff_eq, ge_iff_le, gt_iff_lt] at hc))
      | ((first | ((first | (with_reducible first | refine zR ?_ | refine zQ (by decide +kernel) ?_ | refine zD (by decide +kernel) ?_ | refine zE (by decide +kernel) ?_ | refine zG (by decide +kernel) ?_)); intro K hK) | ((first | (with_reducible refine zu ?_ ?_ <;> intro hg) | with_reducible intro hg) <;> (first | (exfalso; simp at hg; done) | (have hg' := hg; (try simp only [hcs, beq_iff_eq, ge_iff_le, gt_iff_lt] at hg'); (try simp only [hg]))))) <;> (try simp (disch := omega) only [go_sem, wn]) <;> (repeat' with_reducible refine And.intro ?_ ?_) <;> (try (with_reducible refine hK _ ?_; clear hK K)))
      | omega)
        all_goals first | (exfalso; omega) | skip
        (refine zF rfl ?_ ?_ ?_ ?_; (iterate 3 (focus ((try simp (disch := omega) only [go_sem, wn]) <;> (try omega) <;> fail))); (try simp (disch := omega) only [go_sem, wn, I, B, S, zj]))
theorem ref_common_c (l m : List ATxn) (h1 : l.length * 72 ≤ 140737488351232) (h2 : m.length * 72 ≤ 140737488351232) : acall Tryz.prog [] 84 [.d (.sl 7 (l.map ATxn.row)), .d (.sl 7 (m.map ATxn.row))] (ret (I (commonZ l m))) := by
  generalize hC : commonZ l m = C
  refine zI Tryz.func84 rfl (by kernel_rfl) (by simp [Tryz.ntmps84]) ?_; simp only [Tryz.ntmps84, Tryz.results84, go_sem]
  (repeat' first
| (with_reducible refine AR.f ?_)
| refine zb (by decide) ?_
| (with_reducible refine AWP.cond rfl ?_ ?_ <;> intro hc <;> (try simp only [hcs, beq_iff_eq, ge_iff_le, gt_iff_lt] at hc))
| ((first | ((first | (with_reducible first | refine zR ?_ | refine zQ (by decide +kernel) ?_ | refine zD (by decide +kernel) ?_ | refine zE (by decide +kernel) ?_ | refine zG (by decide +kernel) ?_)); intro K hK) | ((first | (with_reducible refine zu ?_ ?_ <;> intro hg) | with_reducible intro hg) <;> (first | (exfalso; simp at hg; done) | (have hg' := hg; (try simp only [hcs, beq_iff_eq, ge_iff_le, gt_iff_lt] at hg'); (try simp only [hg]))))) <;> (try simp (disch := omega) only [go_sem, wn]) <;> (repeat' with_reducible refine And.intro ?_ ?_) <;> (try (with_reducible refine hK _ ?_; clear hK K)))
| omega)
  refine AWP.loopB (ι := Nat) (fun k => k ≤ l.length ∧ k ≤ m.length ∧ ∀ j, j < k → (l.getD j default).zxid = (m.getD j default).zxid) (fun k => l.length - k) [0, 1] (fun k => [(5, I k)]) (fun k => []) 0 ?_ ?_ ?_
  · exact ⟨Nat.zero_le _, Nat.zero_le _, fun j hj => by omega⟩
  · simp only [go_sem]; (refine SImp.same ?_; simp (disch := omega) only [go_sem, wn, Int.natCast_add])
  intro k ⟨hk1, hk2, hk3⟩
  simp only [go_sem]
  by_cases hgo : k < l.length ∧ k < m.length ∧ (l.getD k default).zxid = (m.getD k default).zxid
  · obtain ⟨g1, g2, g3⟩ := hgo
    (repeat' first
  | (with_reducible refine AR.f ?_)
  | refine zb (by decide) ?_
  | (with_reducible refine AWP.cond rfl ?_ ?_ <;> intro hc <;> (try simp only [hcs, beq_iff_eq, ge_iff_le, gt_iff_lt] at hc))
  | ((first | ((first | (with_reducible first | refine zR ?_ | refine zQ (by decide +kernel) ?_ | refine zD (by decide +kernel) ?_ | refine zE (by decide +kernel) ?_ | refine zG (by decide +kernel) ?_)); intro K hK) | ((first | (with_reducible refine zu ?_ ?_ <;> intro hg) | with_reducible intro hg) <;> (first | (exfalso; simp at hg; done) | (have hg' := hg; (try simp only [hcs, beq_iff_eq, ge_iff_le, gt_iff_lt] at hg'); (try simp only [hg]))))) <;> (try simp (disch := omega) only [go_sem, wn, ATxn.rgetD l k _ g1, ATxn.rgetD m k _ g2, g3, g1, g2]) <;> (repeat' with_reducible refine And.intro ?_ ?_) <;> (try (with_reducible refine hK _ ?_; clear hK K)))
  | omega)
    all_goals first | (exfalso; omega) | skip
    refine ⟨k + 1, ⟨by omega, by omega, fun j hj => ?_⟩, by omega, ?_⟩
    · by_cases e : j = k
      · subst e; exact g3
      · exact hk3 j (by omega)
    · (refine SImp.same ?_; simp (disch := omega) only [go_sem, wn, Int.natCast_add])
  have hkC : C = k := by rw [← hC]; exact commonZ_is _ _ _ hk3 hk1 hk2 fun a b c => hgo ⟨a, b, c⟩
  subst hkC
  (repeat' first
| (with_reducible refine AR.f ?_)
| refine zb (by decide) ?_
| (with_reducible refine AWP.cond rfl ?_ ?_ <;> intro hc <;> (try simp only [hcs, beq_iff_eq, ge_iff_le, gt_iff_lt] at hc))
| ((first | ((first | (with_reducible first | refine zR ?_ | refine zQ (by decide +kernel) ?_ | refine zD (by decide +kernel) ?_ | refine zE (by decide +kernel) ?_ | refine zG (by decide +kernel) ?_)); intro K hK) | ((first | (with_reducible refine zu ?_ ?_ <;> intro hg) | with_reducible intro hg) <;> (first | (exfalso; simp at hg; done) | (have hg' := hg; (try simp only [hcs, beq_iff_eq, ge_iff_le, gt_iff_lt] at hg'); (try simp only [hg]))))) <;> (try simp (disch := omega) only [go_sem, wn]) <;> (repeat' with_reducible refine And.intro ?_ ?_) <;> (try (with_reducible refine hK _ ?_; clear hK K)))
| omega)
  all_goals first | (exfalso; omega) | skip
  (refine zF rfl ?_ ?_ ?_ ?_; (iterate 3 (focus ((try simp (disch := omega) only [go_sem, wn]) <;> (try omega) <;> fail))); (try simp (disch := omega) only [go_sem, wn, I, B, S, zj]))
set_option maxHeartbeats 8000000 in
theorem ref_follow_c (s : AServer) (l : List ATxn) (ep : Int) (hw : s.wf) (hlw : ∀ x, x ∈ l → x.wf) (hlp : ∀ x, x ∈ l → x.path.length ≤ 1048576) (hll : l.length ≤ 1048576) (he : okI ep) : acall Tryz.prog [] 27 [s.av, .d (.sl 7 (l.map ATxn.row)), I ep] (ret (.tup [(followS s l ep).1.av, I (followS s l ep).2])) := by
  have hw0 := hw
  have hcp := copyServer_c s hw
  obtain ⟨_, h1, h2, h3, h4⟩ := hw
  have hl7 := h2.2.2.1.1
  have hok0 := h2.2.2.2
  have hcm := ref_common_c l s.peer.log (by omega) hl7
  obtain ⟨hk1, hk2⟩ := commonZ_le l s.peer.log
  rw [fol0_eq]
  generalize commonZ l s.peer.log = C at hcm hk1 hk2 ⊢
  have hkp := ref_keep_c s.disk (backZ l C) h1.1 h1.2
  have kwf := keep_wf (l := s.disk.files) (z := backZ l C)
  have kfw := keep_fwf (z := backZ l C) h1.2
  have hrm := ref_remember_c (keepD s.disk.files (backZ l C)).1 ep kwf kfw
  have rwf := remember_lenD (keepD s.disk.files (backZ l C)).1.files ep
  have rfw := remember_fwf (ep := ep) kwf kfw
  have hbz : backZ l C = if 0 < C then (l.getD (C - 1) default).zxid else -1 := rfl
  have hXe : List.take (l.length - C) (List.drop C (l.map ATxn.row)) = (l.drop C).map ATxn.row := by rw [← List.map_drop]; exact List.take_of_length_le (by simp)
  have hYe : List.take C (s.peer.log.map ATxn.row) = (s.peer.log.take C).map ATxn.row := by rw [List.map_take]
  have hYl : (s.peer.log.take C).length = C := by rw [List.length_take]; omega
  have hXl : (l.drop C).length = l.length - C := List.length_drop
  have hXw : ∀ x, x ∈ l.drop C → x.wf := fun x hx => hlw x (List.mem_of_mem_drop hx)
  unfold fol0
  by_cases hd : (C : Int) < s.peer.done
  · rw [if_pos hd]
    refine zI Tryz.func27 rfl (by kernel_rfl) (by simp [Tryz.ntmps27]) ?_; simp only [Tryz.ntmps27, Tryz.results27, go_sem]
    (repeat' first
  | (with_reducible refine AR.f ?_)
  | refine zb (by decide) ?_
  | (with_reducible refine AWP.cond rfl ?_ ?_ <;> intro hc <;> (try simp only [hcs, beq_iff_eq, ge_iff_le, gt_iff_lt] at hc))
  | ((first | ((first | (with_reducible first | refine zR ?_ | refine zQ (by decide +kernel) ?_ | refine zD (by decide +kernel) ?_ | refine zE (by decide +kernel) ?_ | refine zG (by decide +kernel) ?_)); intro K hK) | ((first | refine zA hcm ?_ ?_ ?_ ?_ ?_); (focus exact rfl); (focus exact rfl); iterate 2 (focus ((try simp (disch := omega) only [go_sem, wn]) <;> (try omega) <;> fail))) | ((first | refine zX hcm rfl ?_ ?_); (focus ((try simp (disch := omega) only [go_sem, wn]) <;> (try omega) <;> fail))) | ((first | (with_reducible refine zu ?_ ?_ <;> intro hg) | with_reducible intro hg) <;> (first | (exfalso; simp at hg; done) | (have hg' := hg; (try simp only [hcs, beq_iff_eq, ge_iff_le, gt_iff_lt] at hg'); (try simp only [hg]))))) <;> (try simp (disch := omega) only [go_sem, wn]) <;> (repeat' with_reducible refine And.intro ?_ ?_) <;> (try (with_reducible refine hK _ ?_; clear hK K)))
  | omega)
    all_goals first | (exfalso; omega) | skip
    all_goals (refine zF rfl ?_ ?_ ?_ ?_; (iterate 3 (focus ((try simp (disch := omega) only [go_sem, wn, default]) <;> (try omega) <;> fail))); (try simp (disch := omega) only [go_sem, wn, default, I, B, S, zj]))
  rw [if_neg hd]
  have hsw (d : ADisk) (hd : d.wf) := fol_swf (k := C) hw0 hd he
  generalize backZ l C = bz at hbz hkp hrm kwf kfw rwf rfw ⊢
  generalize keepD s.disk.files bz = K at hkp hrm kwf kfw rwf rfw ⊢
  obtain ⟨kd, ke⟩ := K
  simp only at hkp hrm kwf kfw rwf rfw ⊢
  generalize rememberD kd.files ep = R at hrm rwf rfw ⊢
  obtain ⟨rd, re⟩ := R
  simp only at hrm rwf rfw ⊢
  have hrw : rd.wf := ⟨rwf, rfw⟩
  have hsw := hsw rd hrw
  generalize hX : l.drop C = X at hXe hXl hXw ⊢
  generalize hY : s.peer.log.take C = Y at hYe hYl hsw ⊢
  have hYt : List.take C (Y.map ATxn.row) = Y.map ATxn.row := List.take_of_length_le (by simp; omega)
  have hmn : min C s.peer.log.length = C := Nat.min_eq_left hk2
  have hXp : ∀ x, x ∈ X → x.path.length ≤ 1048576 := fun x hx => hlp x (by rw [← hX] at hx; exact List.mem_of_mem_drop hx)
  generalize hF : (if ke ≠ 0 then ((default : AServer), ke) else if re ≠ 0 then (default, re) else takesS ⟨s.up, rd, ⟨s.peer.id, ep, Y, s.peer.done⟩, s.tree, s.watches⟩ X) = F
  by_cases h0 : 0 < C
  · rw [if_pos h0] at hbz
    subst hbz
    refine zI Tryz.func27 rfl (by kernel_rfl) (by simp [Tryz.ntmps27]) ?_; simp only [Tryz.ntmps27, Tryz.results27, go_sem]
    (repeat' first
  | (with_reducible refine AR.f ?_)
  | refine zb (by decide) ?_
  | (with_reducible refine AWP.cond rfl ?_ ?_ <;> intro hc <;> (try simp only [hcs, beq_iff_eq, ge_iff_le, gt_iff_lt] at hc))
  | ((first | ((first | refine zP ((Plan.takes [0, 1, 2, 3, 4, 5, 6, 7, 8, 9, 10, 11, 12, 13, 14] .done)) (by decide +kernel) ?_ | (with_reducible first | refine zR ?_ | refine zQ (by decide +kernel) ?_ | refine zD (by decide +kernel) ?_ | refine zE (by decide +kernel) ?_ | refine zG (by decide +kernel) ?_)); intro K hK) | ((first | refine zA hcm ?_ ?_ ?_ ?_ ?_ | refine zA hkp ?_ ?_ ?_ ?_ ?_ | refine zA hrm ?_ ?_ ?_ ?_ ?_ | refine zA hcp ?_ ?_ ?_ ?_ ?_); (focus exact rfl); (focus exact rfl); iterate 2 (focus ((try simp (disch := omega) only [go_sem, wn, ATxn.rgetD l (C - 1) _ (by omega), hXe, hYe, toNat_pr, Nat.sub_zero, hmn]) <;> (try omega) <;> fail))) | ((first | refine zN hkp rfl ?_ ?_ | refine zN hrm rfl ?_ ?_ | refine zN hcp rfl ?_ ?_ | refine zX hcm rfl ?_ ?_ | refine zX hkp rfl ?_ ?_ | refine zY hkp ?_ ?_ | refine zX hrm rfl ?_ ?_ | refine zY hrm ?_ ?_ | refine zX hcp rfl ?_ ?_ | refine zY hcp ?_ ?_); (focus ((try simp (disch := omega) only [go_sem, wn, ATxn.rgetD l (C - 1) _ (by omega), hXe, hYe, toNat_pr, Nat.sub_zero, hmn]) <;> (try omega) <;> fail))) | ((first | (with_reducible refine zu ?_ ?_ <;> intro hg) | with_reducible intro hg) <;> (first | (exfalso; simp at hg; done) | (have hg' := hg; (try simp only [hcs, beq_iff_eq, ge_iff_le, gt_iff_lt] at hg'); (try simp only [hg]))))) <;> (try simp (disch := omega) only [go_sem, wn, ATxn.rgetD l (C - 1) _ (by omega), hXe, hYe, toNat_pr, Nat.sub_zero, hmn]) <;> (repeat' with_reducible refine And.intro ?_ ?_) <;> (try (with_reducible refine hK _ ?_; clear hK K)))
  | omega)
    all_goals first | (exfalso; omega) | skip
    · rw [if_pos hc] at hF
      subst hF
      (refine zF rfl ?_ ?_ ?_ ?_; (iterate 3 (focus ((try simp (disch := omega) only [go_sem, wn, default]) <;> (try omega) <;> fail))); (try simp (disch := omega) only [go_sem, wn, default, I, B, S, zj]))
    · rw [if_neg (by omega), if_pos hc] at hF
      subst hF
      (refine zF rfl ?_ ?_ ?_ ?_; (iterate 3 (focus ((try simp (disch := omega) only [go_sem, wn, default]) <;> (try omega) <;> fail))); (try simp (disch := omega) only [go_sem, wn, default, I, B, S, zj]))
    · rw [if_neg (by omega), if_neg (by omega)] at hF
      refine AWP.loopB (ι := Nat × AServer) (fun v => TkInv X F v) (fun v => X.length - v.1) [3, 6, 70, 71] (fun v => [(72, I v.1)]) (fun v => [.cells [B v.2.up, .d (.sl 3 (v.2.disk.files.map AFile.row)), I v.2.peer.id, I v.2.peer.epoch, .d (.sl 7 (v.2.peer.log.map ATxn.row)), I v.2.peer.done, I v.2.tree.zxid, .d (.sl 9 (v.2.tree.nodes.map ANode.row)), .d (.sl 1 (v.2.tree.sessions.map irow)), .d (.sl 3 (v.2.watches.map AWatch.row))], .cells [B false, .d (.sc (.slice none 0 0)), I 0, I 0, .d (.sc (.slice none 0 0)), I 0, I 0, .d (.sc (.slice none 0 0)), .d (.sc (.slice none 0 0)), .d (.sc (.slice none 0 0))]]) (0, ⟨s.up, rd, ⟨s.peer.id, ep, Y, s.peer.done⟩, s.tree, s.watches⟩) ?_ ?_ ?_
      · exact ⟨Nat.zero_le _, hF, hsw, by simp only; omega⟩
      · simp only [go_sem]; (refine zV [0, 1] rfl rfl rfl rfl ?_ ?_ <;> simp (disch := omega) only [go_sem, wn, Int.natCast_add, List.drop_zero, hYt, hYe] <;> (try rfl))
      intro v hv
      simp only [go_sem]
      have hvk := hv.k
      by_cases hk4 : v.1 < X.length
      · have hxw := hXw _ (mem_getD X default hk4)
        have hvl := hv.l
        have ht := ref_take_c v.2 (X.getD v.1 default) true hv.w hxw (hXp _ (mem_getD X default hk4)) (by omega)
        have hrow : ∀ z, List.getD (X.map ATxn.row) v.1 z = (X.getD v.1 default).row := fun z => ATxn.rgetD X v.1 z hk4
        by_cases ht0 : (takeS v.2 (X.getD v.1 default) true).2 = 0
        · have hnx := hv.next hk4 hXw ht0
          generalize X.getD v.1 default = x at ht ht0 hnx hrow
          generalize takeS v.2 x true = q at ht ht0 hnx
          obtain ⟨q1, q2⟩ := q
          simp only at ht ht0 hnx
          (repeat' first
        | (with_reducible refine AR.f ?_)
        | refine zb (by decide) ?_
        | (with_reducible refine AWP.cond rfl ?_ ?_ <;> intro hc <;> (try simp only [hcs, beq_iff_eq, ge_iff_le, gt_iff_lt] at hc))
        | ((first | ((first | (with_reducible first | refine zR ?_ | refine zQ (by decide +kernel) ?_ | refine zD (by decide +kernel) ?_ | refine zE (by decide +kernel) ?_ | refine zG (by decide +kernel) ?_)); intro K hK) | ((first | refine zA ht ?_ ?_ ?_ ?_ ?_); (focus exact rfl); (focus exact rfl); iterate 2 (focus ((try simp (disch := omega) only [go_sem, wn, hrow, ATxn.row]) <;> (try omega) <;> fail))) | ((first | refine zN ht rfl ?_ ?_ | refine zX ht rfl ?_ ?_ | refine zY ht ?_ ?_); (focus ((try simp (disch := omega) only [go_sem, wn, hrow, ATxn.row]) <;> (try omega) <;> fail))) | ((first | (with_reducible refine zu ?_ ?_ <;> intro hg) | with_reducible intro hg) <;> (first | (exfalso; simp at hg; done) | (have hg' := hg; (try simp only [hcs, beq_iff_eq, ge_iff_le, gt_iff_lt] at hg'); (try simp only [hg]))))) <;> (try simp (disch := omega) only [go_sem, wn, hrow, ATxn.row]) <;> (repeat' with_reducible refine And.intro ?_ ?_) <;> (try (with_reducible refine hK _ ?_; clear hK K)))
        | omega)
          all_goals first | (exfalso; omega) | skip
          refine ⟨(v.1 + 1, q1), hnx, by simp only; omega, ?_⟩
          (refine zV [0, 1] rfl rfl rfl rfl ?_ ?_ <;> simp (disch := omega) only [go_sem, wn, Int.natCast_add] <;> (try rfl))
        · have hst := hv.stop hk4 ht0
          generalize X.getD v.1 default = x at ht ht0 hst hrow
          generalize takeS v.2 x true = q at ht ht0 hst
          obtain ⟨q1, q2⟩ := q
          simp only at ht ht0 hst
          subst hst
          (repeat' first
        | (with_reducible refine AR.f ?_)
        | refine zb (by decide) ?_
        | (with_reducible refine AWP.cond rfl ?_ ?_ <;> intro hc <;> (try simp only [hcs, beq_iff_eq, ge_iff_le, gt_iff_lt] at hc))
        | ((first | ((first | (with_reducible first | refine zR ?_ | refine zQ (by decide +kernel) ?_ | refine zD (by decide +kernel) ?_ | refine zE (by decide +kernel) ?_ | refine zG (by decide +kernel) ?_)); intro K hK) | ((first | refine zA ht ?_ ?_ ?_ ?_ ?_); (focus exact rfl); (focus exact rfl); iterate 2 (focus ((try simp (disch := omega) only [go_sem, wn, hrow, ATxn.row]) <;> (try omega) <;> fail))) | ((first | refine zN ht rfl ?_ ?_ | refine zX ht rfl ?_ ?_ | refine zY ht ?_ ?_); (focus ((try simp (disch := omega) only [go_sem, wn, hrow, ATxn.row]) <;> (try omega) <;> fail))) | ((first | (with_reducible refine zu ?_ ?_ <;> intro hg) | with_reducible intro hg) <;> (first | (exfalso; simp at hg; done) | (have hg' := hg; (try simp only [hcs, beq_iff_eq, ge_iff_le, gt_iff_lt] at hg'); (try simp only [hg]))))) <;> (try simp (disch := omega) only [go_sem, wn, hrow, ATxn.row]) <;> (repeat' with_reducible refine And.intro ?_ ?_) <;> (try (with_reducible refine hK _ ?_; clear hK K)))
        | omega)
          all_goals first | (exfalso; omega) | skip
          (refine zF rfl ?_ ?_ ?_ ?_; (iterate 3 (focus ((try simp (disch := omega) only [go_sem, wn, default]) <;> (try omega) <;> fail))); (try simp (disch := omega) only [go_sem, wn, default, I, B, S, zj]))
      · have hst := hv.end hk4
        subst hst
        (repeat' first
      | (with_reducible refine AR.f ?_)
      | refine zb (by decide) ?_
      | (with_reducible refine AWP.cond rfl ?_ ?_ <;> intro hc <;> (try simp only [hcs, beq_iff_eq, ge_iff_le, gt_iff_lt] at hc))
      | ((first | ((first | (with_reducible first | refine zR ?_ | refine zQ (by decide +kernel) ?_ | refine zD (by decide +kernel) ?_ | refine zE (by decide +kernel) ?_ | refine zG (by decide +kernel) ?_)); intro K hK) | ((first | (with_reducible refine zu ?_ ?_ <;> intro hg) | with_reducible intro hg) <;> (first | (exfalso; simp at hg; done) | (have hg' := hg; (try simp only [hcs, beq_iff_eq, ge_iff_le, gt_iff_lt] at hg'); (try simp only [hg]))))) <;> (try simp (disch := omega) only [go_sem, wn]) <;> (repeat' with_reducible refine And.intro ?_ ?_) <;> (try (with_reducible refine hK _ ?_; clear hK K)))
      | omega)
        all_goals first | (exfalso; omega) | skip
        (refine zF rfl ?_ ?_ ?_ ?_; (iterate 3 (focus ((try simp (disch := omega) only [go_sem, wn]) <;> (try omega) <;> fail))); (try simp (disch := omega) only [go_sem, wn, I, B, S, zj]))
  · rw [if_neg h0] at hbz
    subst hbz
    refine zI Tryz.func27 rfl (by kernel_rfl) (by simp [Tryz.ntmps27]) ?_; simp only [Tryz.ntmps27, Tryz.results27, go_sem]
    (repeat' first
  | (with_reducible refine AR.f ?_)
  | refine zb (by decide) ?_
  | (with_reducible refine AWP.cond rfl ?_ ?_ <;> intro hc <;> (try simp only [hcs, beq_iff_eq, ge_iff_le, gt_iff_lt] at hc))
  | ((first | ((first | refine zP ((Plan.takes [0, 1, 2, 3, 4, 5, 6, 7, 8, 9, 10, 11, 12, 13, 14] .done)) (by decide +kernel) ?_ | (with_reducible first | refine zR ?_ | refine zQ (by decide +kernel) ?_ | refine zD (by decide +kernel) ?_ | refine zE (by decide +kernel) ?_ | refine zG (by decide +kernel) ?_)); intro K hK) | ((first | refine zA hcm ?_ ?_ ?_ ?_ ?_ | refine zA hkp ?_ ?_ ?_ ?_ ?_ | refine zA hrm ?_ ?_ ?_ ?_ ?_ | refine zA hcp ?_ ?_ ?_ ?_ ?_); (focus exact rfl); (focus exact rfl); iterate 2 (focus ((try simp (disch := omega) only [go_sem, wn, hXe, hYe, Nat.sub_zero, hmn]) <;> (try omega) <;> fail))) | ((first | refine zN hkp rfl ?_ ?_ | refine zN hrm rfl ?_ ?_ | refine zN hcp rfl ?_ ?_ | refine zX hcm rfl ?_ ?_ | refine zX hkp rfl ?_ ?_ | refine zY hkp ?_ ?_ | refine zX hrm rfl ?_ ?_ | refine zY hrm ?_ ?_ | refine zX hcp rfl ?_ ?_ | refine zY hcp ?_ ?_); (focus ((try simp (disch := omega) only [go_sem, wn, hXe, hYe, Nat.sub_zero, hmn]) <;> (try omega) <;> fail))) | ((first | (with_reducible refine zu ?_ ?_ <;> intro hg) | with_reducible intro hg) <;> (first | (exfalso; simp at hg; done) | (have hg' := hg; (try simp only [hcs, beq_iff_eq, ge_iff_le, gt_iff_lt] at hg'); (try simp only [hg]))))) <;> (try simp (disch := omega) only [go_sem, wn, hXe, hYe, Nat.sub_zero, hmn]) <;> (repeat' with_reducible refine And.intro ?_ ?_) <;> (try (with_reducible refine hK _ ?_; clear hK K)))
  | omega)
    all_goals first | (exfalso; omega) | skip
    · rw [if_pos hc] at hF
      subst hF
      (refine zF rfl ?_ ?_ ?_ ?_; (iterate 3 (focus ((try simp (disch := omega) only [go_sem, wn, default]) <;> (try omega) <;> fail))); (try simp (disch := omega) only [go_sem, wn, default, I, B, S, zj]))
    · rw [if_neg (by omega), if_pos hc] at hF
      subst hF
      (refine zF rfl ?_ ?_ ?_ ?_; (iterate 3 (focus ((try simp (disch := omega) only [go_sem, wn, default]) <;> (try omega) <;> fail))); (try simp (disch := omega) only [go_sem, wn, default, I, B, S, zj]))
    · rw [if_neg (by omega), if_neg (by omega)] at hF
      refine AWP.loopB (ι := Nat × AServer) (fun v => TkInv X F v) (fun v => X.length - v.1) [3, 6, 70, 71] (fun v => [(72, I v.1)]) (fun v => [.cells [B v.2.up, .d (.sl 3 (v.2.disk.files.map AFile.row)), I v.2.peer.id, I v.2.peer.epoch, .d (.sl 7 (v.2.peer.log.map ATxn.row)), I v.2.peer.done, I v.2.tree.zxid, .d (.sl 9 (v.2.tree.nodes.map ANode.row)), .d (.sl 1 (v.2.tree.sessions.map irow)), .d (.sl 3 (v.2.watches.map AWatch.row))], .cells [B false, .d (.sc (.slice none 0 0)), I 0, I 0, .d (.sc (.slice none 0 0)), I 0, I 0, .d (.sc (.slice none 0 0)), .d (.sc (.slice none 0 0)), .d (.sc (.slice none 0 0))]]) (0, ⟨s.up, rd, ⟨s.peer.id, ep, Y, s.peer.done⟩, s.tree, s.watches⟩) ?_ ?_ ?_
      · exact ⟨Nat.zero_le _, hF, hsw, by simp only; omega⟩
      · simp only [go_sem]; (refine zV [0, 1] rfl rfl rfl rfl ?_ ?_ <;> simp (disch := omega) only [go_sem, wn, Int.natCast_add, List.drop_zero, hYt, hYe] <;> (try rfl))
      intro v hv
      simp only [go_sem]
      have hvk := hv.k
      by_cases hk4 : v.1 < X.length
      · have hxw := hXw _ (mem_getD X default hk4)
        have hvl := hv.l
        have ht := ref_take_c v.2 (X.getD v.1 default) true hv.w hxw (hXp _ (mem_getD X default hk4)) (by omega)
        have hrow : ∀ z, List.getD (X.map ATxn.row) v.1 z = (X.getD v.1 default).row := fun z => ATxn.rgetD X v.1 z hk4
        by_cases ht0 : (takeS v.2 (X.getD v.1 default) true).2 = 0
        · have hnx := hv.next hk4 hXw ht0
          generalize X.getD v.1 default = x at ht ht0 hnx hrow
          generalize takeS v.2 x true = q at ht ht0 hnx
          obtain ⟨q1, q2⟩ := q
          simp only at ht ht0 hnx
          (repeat' first
        | (with_reducible refine AR.f ?_)
        | refine zb (by decide) ?_
        | (with_reducible refine AWP.cond rfl ?_ ?_ <;> intro hc <;> (try simp only [hcs, beq_iff_eq, ge_iff_le, gt_iff_lt] at hc))
        | ((first | ((first | (with_reducible first | refine zR ?_ | refine zQ (by decide +kernel) ?_ | refine zD (by decide +kernel) ?_ | refine zE (by decide +kernel) ?_ | refine zG (by decide +kernel) ?_)); intro K hK) | ((first | refine zA ht ?_ ?_ ?_ ?_ ?_); (focus exact rfl); (focus exact rfl); iterate 2 (focus ((try simp (disch := omega) only [go_sem, wn, hrow, ATxn.row]) <;> (try omega) <;> fail))) | ((first | refine zN ht rfl ?_ ?_ | refine zX ht rfl ?_ ?_ | refine zY ht ?_ ?_); (focus ((try simp (disch := omega) only [go_sem, wn, hrow, ATxn.row]) <;> (try omega) <;> fail))) | ((first | (with_reducible refine zu ?_ ?_ <;> intro hg) | with_reducible intro hg) <;> (first | (exfalso; simp at hg; done) | (have hg' := hg; (try simp only [hcs, beq_iff_eq, ge_iff_le, gt_iff_lt] at hg'); (try simp only [hg]))))) <;> (try simp (disch := omega) only [go_sem, wn, hrow, ATxn.row]) <;> (repeat' with_reducible refine And.intro ?_ ?_) <;> (try (with_reducible refine hK _ ?_; clear hK K)))
        | omega)
          all_goals first | (exfalso; omega) | skip
          refine ⟨(v.1 + 1, q1), hnx, by simp only; omega, ?_⟩
          (refine zV [0, 1] rfl rfl rfl rfl ?_ ?_ <;> simp (disch := omega) only [go_sem, wn, Int.natCast_add] <;> (try rfl))
        · have hst := hv.stop hk4 ht0
          generalize X.getD v.1 default = x at ht ht0 hst hrow
          generalize takeS v.2 x true = q at ht ht0 hst
          obtain ⟨q1, q2⟩ := q
          simp only at ht ht0 hst
          subst hst
          (repeat' first
        | (with_reducible refine AR.f ?_)
        | refine zb (by decide) ?_
        | (with_reducible refine AWP.cond rfl ?_ ?_ <;> intro hc <;> (try simp only [hcs, beq_iff_eq, ge_iff_le, gt_iff_lt] at hc))
        | ((first | ((first | (with_reducible first | refine zR ?_ | refine zQ (by decide +kernel) ?_ | refine zD (by decide +kernel) ?_ | refine zE (by decide +kernel) ?_ | refine zG (by decide +kernel) ?_)); intro K hK) | ((first | refine zA ht ?_ ?_ ?_ ?_ ?_); (focus exact rfl); (focus exact rfl); iterate 2 (focus ((try simp (disch := omega) only [go_sem, wn, hrow, ATxn.row]) <;> (try omega) <;> fail))) | ((first | refine zN ht rfl ?_ ?_ | refine zX ht rfl ?_ ?_ | refine zY ht ?_ ?_); (focus ((try simp (disch := omega) only [go_sem, wn, hrow, ATxn.row]) <;> (try omega) <;> fail))) | ((first | (with_reducible refine zu ?_ ?_ <;> intro hg) | with_reducible intro hg) <;> (first | (exfalso; simp at hg; done) | (have hg' := hg; (try simp only [hcs, beq_iff_eq, ge_iff_le, gt_iff_lt] at hg'); (try simp only [hg]))))) <;> (try simp (disch := omega) only [go_sem, wn, hrow, ATxn.row]) <;> (repeat' with_reducible refine And.intro ?_ ?_) <;> (try (with_reducible refine hK _ ?_; clear hK K)))
        | omega)
          all_goals first | (exfalso; omega) | skip
          (refine zF rfl ?_ ?_ ?_ ?_; (iterate 3 (focus ((try simp (disch := omega) only [go_sem, wn, default]) <;> (try omega) <;> fail))); (try simp (disch := omega) only [go_sem, wn, default, I, B, S, zj]))
      · have hst := hv.end hk4
        subst hst
        (repeat' first
      | (with_reducible refine AR.f ?_)
      | refine zb (by decide) ?_
      | (with_reducible refine AWP.cond rfl ?_ ?_ <;> intro hc <;> (try simp only [hcs, beq_iff_eq, ge_iff_le, gt_iff_lt] at hc))
      | ((first | ((first | (with_reducible first | refine zR ?_ | refine zQ (by decide +kernel) ?_ | refine zD (by decide +kernel) ?_ | refine zE (by decide +kernel) ?_ | refine zG (by decide +kernel) ?_)); intro K hK) | ((first | (with_reducible refine zu ?_ ?_ <;> intro hg) | with_reducible intro hg) <;> (first | (exfalso; simp at hg; done) | (have hg' := hg; (try simp only [hcs, beq_iff_eq, ge_iff_le, gt_iff_lt] at hg'); (try simp only [hg]))))) <;> (try simp (disch := omega) only [go_sem, wn]) <;> (repeat' with_reducible refine And.intro ?_ ?_) <;> (try (with_reducible refine hK _ ?_; clear hK K)))
      | omega)
        all_goals first | (exfalso; omega) | skip
        (refine zF rfl ?_ ?_ ?_ ?_; (iterate 3 (focus ((try simp (disch := omega) only [go_sem, wn]) <;> (try omega) <;> fail))); (try simp (disch := omega) only [go_sem, wn, I, B, S, zj]))
theorem lenS_of {s : AServer} (h : s.wf) : lenS s := ⟨h.2.1.1, h.2.2.1.2.2.1.1, h.2.2.2.1, h.2.2.2.2.1⟩
theorem takes_swf : ∀ (r : List ATxn) {s : AServer}, s.wf → (∀ x, x ∈ r → x.wf) → s.peer.log.length + r.length ≤ 1048576 → (takesS s r).1.wf
  | [], s, h, _, _ => h
  | x :: r, s, h, hr, hl => by
    rw [List.length_cons] at hl
    rw [takesS]
    split
    · have := take_len (s := s) (x := x) (safe := true)
      exact takes_swf r (take_swf h (hr x (List.mem_cons_self ..)) (by omega)) (fun y hy => hr y (List.mem_cons_of_mem _ hy)) (by omega)
    · exact default_swf
theorem follow_swf {s : AServer} {l : List ATxn} {ep : Int} (hw : s.wf) (hl : ∀ x, x ∈ l → x.wf) (hll : l.length ≤ 1048576) (he : okI ep) : (followS s l ep).1.wf := by
  have hk := commonZ_le l s.peer.log
  unfold followS
  split
  · exact default_swf
  split
  · exact default_swf
  split
  · exact default_swf
  · refine takes_swf _ (fol_swf hw ⟨remember_lenD _ _, remember_fwf keep_wf (keep_fwf hw.2.1.2)⟩ he) (fun x hx => hl x (List.mem_of_mem_drop hx)) ?_
    show (s.peer.log.take _).length + _ ≤ _
    rw [List.length_take, List.length_drop]; omega
set_option maxHeartbeats 8000000 in
theorem storeFollows_w (s : AServer) (l : List ATxn) (ep : Int) (hw : s.wf) (hlw : ∀ x, x ∈ l → x.wf) (hlp : ∀ x, x ∈ l → x.path.length ≤ 1048576) (hll : l.length ≤ 1048576) (he : okI ep) : acall Tryz.prog [] 4 [s.av, .d (.sl 7 (l.map ATxn.row)), I ep] (ret (B true)) := by
  have hcp := copyServer_c s hw
  have h1 := follow_c s l ep hw hlw hll he
  have h2 := ref_follow_c s l ep hw hlw hlp hll he
  have s1 := sameServer_c _ (lenS_of (follow_swf hw hlw hll he))
  generalize followS s l ep = q at h1 h2 s1
  obtain ⟨a, e⟩ := q
  simp only at h1 h2 s1
  have t1 : List.take l.length (l.map ATxn.row) = l.map ATxn.row := List.take_of_length_le (by simp)
  refine zI Tryz.func4 rfl (by kernel_rfl) (by simp [Tryz.ntmps4]) ?_; simp only [Tryz.ntmps4, Tryz.results4, go_sem]
  (repeat' first
| (with_reducible refine AR.f ?_)
| refine zb (by decide) ?_
| (with_reducible refine AWP.cond rfl ?_ ?_ <;> intro hc <;> (try simp only [hcs, beq_iff_eq, ge_iff_le, gt_iff_lt] at hc))
| ((first | ((first | (with_reducible first | refine zR ?_ | refine zQ (by decide +kernel) ?_ | refine zD (by decide +kernel) ?_ | refine zE (by decide +kernel) ?_ | refine zG (by decide +kernel) ?_)); intro K hK) | ((first | refine zA hcp ?_ ?_ ?_ ?_ ?_ | refine zA h1 ?_ ?_ ?_ ?_ ?_ | refine zA h2 ?_ ?_ ?_ ?_ ?_ | refine zA s1 ?_ ?_ ?_ ?_ ?_ | refine zA boots_c ?_ ?_ ?_ ?_ ?_); (focus exact rfl); (focus exact rfl); iterate 2 (focus ((try simp (disch := omega) only [go_sem, wn, t1]) <;> (try omega) <;> fail))) | ((first | refine zN hcp rfl ?_ ?_ | refine zN h1 rfl ?_ ?_ | refine zN h2 rfl ?_ ?_ | refine zX hcp rfl ?_ ?_ | refine zY hcp ?_ ?_ | refine zX h1 rfl ?_ ?_ | refine zY h1 ?_ ?_ | refine zX h2 rfl ?_ ?_ | refine zY h2 ?_ ?_ | refine zX s1 rfl ?_ ?_ | refine zX boots_c rfl ?_ ?_); (focus ((try simp (disch := omega) only [go_sem, wn, t1]) <;> (try omega) <;> fail))) | ((first | (with_reducible refine zu ?_ ?_ <;> intro hg) | with_reducible intro hg) <;> (first | (exfalso; simp at hg; done) | (have hg' := hg; (try simp only [hcs, beq_iff_eq, ge_iff_le, gt_iff_lt] at hg'); (try simp only [hg]))))) <;> (try simp (disch := omega) only [go_sem, wn, t1]) <;> (repeat' with_reducible refine And.intro ?_ ?_) <;> (try (with_reducible refine hK _ ?_; clear hK K)))
| omega)
  all_goals (refine zF rfl ?_ ?_ ?_ ?_; (iterate 3 (focus ((try simp (disch := omega) only [go_sem, wn]) <;> (try omega) <;> fail))); (try simp (disch := omega) only [go_sem, wn, I, B, S, zj]))
theorem storeFollows_u (dss : List (List DV)) (h : typeds T 6 Tryz.f4.params.toList dss) (hs : ∀ cs, cs ∈ dss → ∀ c, c ∈ cs → SmallD 1048576 c) : acall Tryz.prog [] 4 (aargs T Tryz.f4.params.toList dss) (fun v _ => v = B true) := by
  rw [Tryz.params4] at h ⊢
  simp only [List.toList_toArray, typeds] at h
  obtain ⟨c0, d0, rfl, h0, c1, d1, rfl, h1, c2, d2, rfl, h2, rfl⟩ := h
  have s0 := hs c0 (by simp)
  have s1 := hs c1 (by simp)
  have s2 := hs c2 (by simp)
  obtain ⟨s, rfl, w_s⟩ := AServer_typed (m := 0) h0
  obtain ⟨l, rfl, v_l, w_l⟩ := ty_sl (m := 5) (e := 93) (sz := 7) (by_ := 72) (f := ATxn.row) (wf := ATxn.wf) (by simp only [T_25, ty25]) (by simp only [T_93, ty93]) (by simp only [T_93, ty93]) (fun r hr => ATxn_typed (m := 3) hr) h1
  obtain ⟨epoch, rfl, w_epoch⟩ := ty_int (m := 5) (by simp only [T_3, ty3]) h2
  have u_s := s0
  have u_l := s1
  have u_epoch := s2
  simp only [List.toList_toArray, aargs, aarg, TI.agg_mk, T_3, ty3, T_25, ty25, T_34, ty34]
  exact (storeFollows_w s l epoch w_s w_l (fun x hx => ((u_l (DV.sl 7 (l.map ATxn.row)) (by simp)).rows.2 _ (List.mem_map_of_mem hx) (DV.str x.path) (by simp [ATxn.row])).len) (by simpa using (u_l (DV.sl 7 (l.map ATxn.row)) (by simp)).rows.1) w_epoch).mono fun _ _ h => h.1
end Go.Proofs.YtainmipdnjcbkaaGreatDoor
