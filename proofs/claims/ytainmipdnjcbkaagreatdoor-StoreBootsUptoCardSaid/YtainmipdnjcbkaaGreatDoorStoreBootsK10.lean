/- A part of what StoreBoots leans on: texts of this claim, one behind the other. No condition. -/
import Derived.Test.YtainmipdnjcbkaaGreatDoorStoreBootsK9
namespace Go.Proofs.YtainmipdnjcbkaaGreatDoor
set_option linter.unusedVariables false
set_option linter.unusedSimpArgs false
open Go Go.RowKit
set_option maxRecDepth 100000
set_option linter.unusedSimpArgs false
def writeD (l : List AFile) (key s : List UInt8) : ADisk × Int :=
  if goodD l = false then (default, 3) else if namedP key = false then (default, 2) else
    if key ∈ l.map AFile.name then
      (if 1048576 < (l.getD (place (l.map AFile.name) key) default).safe.length + (l.getD (place (l.map AFile.name) key) default).tail.length + s.length then (default, 1)
        else (⟨l.set (place (l.map AFile.name) key) ⟨(l.getD (place (l.map AFile.name) key) default).name, (l.getD (place (l.map AFile.name) key) default).safe, (l.getD (place (l.map AFile.name) key) default).tail ++ s⟩⟩, 0))
    else if 16 ≤ l.length then (default, 6) else if 1048576 < s.length then (default, 1) else (⟨l.insertIdx (place (l.map AFile.name) key) ⟨key, [], s⟩⟩, 0)
theorem good_len {l : List AFile} (h : goodD l = true) : l.length ≤ 16 := by unfold goodD at h; rw [decide_eq_true_eq] at h; exact h.1
theorem place_le' {l : List AFile} {key : List UInt8} : place (l.map AFile.name) key ≤ l.length := by have := place_le (l.map AFile.name) key; simpa using this
theorem write_c (d : ADisk) (key s : List UInt8) (hs : okS s) (hk : okS key) (h : d.files.length * 48 ≤ 140737488351232) (hw : ∀ f, f ∈ d.files → f.wf) : acall Tryz.prog [] 65 [d.av, S key, S s] (ret (.tup [(writeD d.files key s).1.av, I (writeD d.files key s).2])) := by
  obtain ⟨w0, w1, w2, w3⟩ := file_wf hw (place (d.files.map AFile.name) key)
  unfold okS at hs
  by_cases hg : goodD d.files = true
  · have hl16 := good_len hg
    by_cases hn : namedP key = true
    · have hpl' := place_le' (l := d.files) (key := key)
      by_cases hm : key ∈ d.files.map AFile.name
      · have hpl := place_lt hg hm
        have e : writeD d.files key s = (if 1048576 < (d.files.getD (place (d.files.map AFile.name) key) default).safe.length + (d.files.getD (place (d.files.map AFile.name) key) default).tail.length + s.length then (default, 1)
          else (⟨d.files.set (place (d.files.map AFile.name) key) ⟨(d.files.getD (place (d.files.map AFile.name) key) default).name, (d.files.getD (place (d.files.map AFile.name) key) default).safe, (d.files.getD (place (d.files.map AFile.name) key) default).tail ++ s⟩⟩, 0)) := by
          unfold writeD; rw [if_neg (by simp [hg]), if_neg (by simp [hn]), if_pos hm]
        rw [e]
        refine zI Tryz.func65 rfl (by kernel_rfl) (by simp [Tryz.ntmps65]) ?_; simp only [Tryz.ntmps65, Tryz.results65, go_sem]
        (repeat' first
      | (with_reducible refine AR.f ?_)
      | refine zb (by decide) ?_
      | (with_reducible refine AWP.cond rfl ?_ ?_ <;> intro hc <;> (try simp only [hcs, beq_iff_eq, ge_iff_le, gt_iff_lt] at hc))
      | ((first | ((first | (with_reducible first | refine zR ?_ | refine zQ (by decide +kernel) ?_ | refine zD (by decide +kernel) ?_ | refine zE (by decide +kernel) ?_ | refine zG (by decide +kernel) ?_)); intro K hK) | ((first | refine zA ((good_d_c d h hw).re (by rw [hg])) ?_ ?_ ?_ ?_ ?_ | refine zA ((named_c key hk).re (by rw [hn])) ?_ ?_ ?_ ?_ ?_ | refine zA ((find_c d key h hg).re (by rw [decide_eq_true hm])) ?_ ?_ ?_ ?_ ?_); (focus exact rfl); (focus exact rfl); iterate 2 (focus ((try simp (disch := omega) only [go_sem, wn, AFile.rgetD, zg, AFile.rset, zm, List.set_set]) <;> (try omega) <;> fail))) | ((first | refine zN ((find_c d key h hg).re (by rw [decide_eq_true hm])) rfl ?_ ?_ | refine zN (copied_d_c d h) rfl ?_ ?_ | refine zX ((good_d_c d h hw).re (by rw [hg])) rfl ?_ ?_ | refine zX ((named_c key hk).re (by rw [hn])) rfl ?_ ?_ | refine zY (copied_d_c d h) ?_ ?_); (focus ((try simp (disch := omega) only [go_sem, wn, AFile.rgetD, zg, AFile.rset, zm, List.set_set]) <;> (try omega) <;> fail))) | ((first | refine zX ((find_c d key h hg).re (by rw [decide_eq_true hm])) rfl ?_ ?_ | refine zY ((find_c d key h hg).re (by rw [decide_eq_true hm])) ?_ ?_); (focus ((try simp (disch := omega) only [go_sem, wn, AFile.rgetD, zg, AFile.rset, zm, List.set_set]) <;> (try omega) <;> fail))) | ((first | (with_reducible refine zu ?_ ?_ <;> intro hg) | with_reducible intro hg) <;> (first | (exfalso; simp at hg; done) | (have hg' := hg; (try simp only [hcs, beq_iff_eq, ge_iff_le, gt_iff_lt] at hg'); (try simp only [hg]))))) <;> (try simp (disch := omega) only [go_sem, wn, AFile.rgetD, zg, AFile.rset, zm, List.set_set]) <;> (repeat' with_reducible refine And.intro ?_ ?_) <;> (try (with_reducible refine hK _ ?_; clear hK K)))
      | omega)
        · rw [if_pos (by omega)]; (refine zF rfl ?_ ?_ ?_ ?_; (iterate 3 (focus ((try simp (disch := omega) only [go_sem, wn, default]) <;> (try omega) <;> fail))); (try simp (disch := omega) only [go_sem, wn, default, I, B, S, zj]))
        · rw [if_neg (by omega)]; (refine zF rfl ?_ ?_ ?_ ?_; (iterate 3 (focus ((try simp (disch := omega) only [go_sem, wn, take_map_set]) <;> (try omega) <;> fail))); (try simp (disch := omega) only [go_sem, wn, take_map_set, I, B, S, zj]))
      · by_cases hf : 16 ≤ d.files.length
        · have e : writeD d.files key s = (default, 6) := by unfold writeD; rw [if_neg (by simp [hg]), if_neg (by simp [hn]), if_neg hm, if_pos hf]
          rw [e]
          refine zI Tryz.func65 rfl (by kernel_rfl) (by simp [Tryz.ntmps65]) ?_; simp only [Tryz.ntmps65, Tryz.results65, go_sem]
          (repeat' first
        | (with_reducible refine AR.f ?_)
        | refine zb (by decide) ?_
        | (with_reducible refine AWP.cond rfl ?_ ?_ <;> intro hc <;> (try simp only [hcs, beq_iff_eq, ge_iff_le, gt_iff_lt] at hc))
        | ((first | ((first | (with_reducible first | refine zR ?_ | refine zQ (by decide +kernel) ?_ | refine zD (by decide +kernel) ?_ | refine zE (by decide +kernel) ?_ | refine zG (by decide +kernel) ?_)); intro K hK) | ((first | refine zA ((good_d_c d h hw).re (by rw [hg])) ?_ ?_ ?_ ?_ ?_ | refine zA ((named_c key hk).re (by rw [hn])) ?_ ?_ ?_ ?_ ?_ | refine zA ((find_c d key h hg).re (by rw [decide_eq_false hm])) ?_ ?_ ?_ ?_ ?_); (focus exact rfl); (focus exact rfl); iterate 2 (focus ((try simp (disch := omega) only [go_sem, wn]) <;> (try omega) <;> fail))) | ((first | refine zN ((find_c d key h hg).re (by rw [decide_eq_false hm])) rfl ?_ ?_ | refine zN (copied_d_c d h) rfl ?_ ?_ | refine zX ((good_d_c d h hw).re (by rw [hg])) rfl ?_ ?_ | refine zX ((named_c key hk).re (by rw [hn])) rfl ?_ ?_ | refine zY (copied_d_c d h) ?_ ?_); (focus ((try simp (disch := omega) only [go_sem, wn]) <;> (try omega) <;> fail))) | ((first | refine zX ((find_c d key h hg).re (by rw [decide_eq_false hm])) rfl ?_ ?_ | refine zY ((find_c d key h hg).re (by rw [decide_eq_false hm])) ?_ ?_); (focus ((try simp (disch := omega) only [go_sem, wn]) <;> (try omega) <;> fail))) | ((first | (with_reducible refine zu ?_ ?_ <;> intro hg) | with_reducible intro hg) <;> (first | (exfalso; simp at hg; done) | (have hg' := hg; (try simp only [hcs, beq_iff_eq, ge_iff_le, gt_iff_lt] at hg'); (try simp only [hg]))))) <;> (try simp (disch := omega) only [go_sem, wn]) <;> (repeat' with_reducible refine And.intro ?_ ?_) <;> (try (with_reducible refine hK _ ?_; clear hK K)))
        | omega)
          (refine zF rfl ?_ ?_ ?_ ?_; (iterate 3 (focus ((try simp (disch := omega) only [go_sem, wn, default]) <;> (try omega) <;> fail))); (try simp (disch := omega) only [go_sem, wn, default, I, B, S, zj]))
        · have e : writeD d.files key s = (if 1048576 < s.length then (default, 1) else (⟨d.files.insertIdx (place (d.files.map AFile.name) key) ⟨key, [], s⟩⟩, 0)) := by
            unfold writeD; rw [if_neg (by simp [hg]), if_neg (by simp [hn]), if_neg hm, if_neg hf]
          rw [e]
          have hil := ins_len d.files (place (d.files.map AFile.name) key) (⟨key, [], []⟩ : AFile) hpl'
          have hil2 := ins_len d.files (place (d.files.map AFile.name) key) (⟨key, [], s⟩ : AFile) hpl'
          refine zI Tryz.func65 rfl (by kernel_rfl) (by simp [Tryz.ntmps65]) ?_; simp only [Tryz.ntmps65, Tryz.results65, go_sem]
          (repeat' first
        | (with_reducible refine AR.f ?_)
        | refine zb (by decide) ?_
        | (with_reducible refine AWP.cond rfl ?_ ?_ <;> intro hc <;> (try simp only [hcs, beq_iff_eq, ge_iff_le, gt_iff_lt] at hc))
        | ((first | ((first | (with_reducible first | refine zR ?_ | refine zQ (by decide +kernel) ?_ | refine zD (by decide +kernel) ?_ | refine zE (by decide +kernel) ?_ | refine zG (by decide +kernel) ?_)); intro K hK) | ((first | refine zA ((good_d_c d h hw).re (by rw [hg])) ?_ ?_ ?_ ?_ ?_ | refine zA ((named_c key hk).re (by rw [hn])) ?_ ?_ ?_ ?_ ?_ | refine zA ((find_c d key h hg).re (by rw [decide_eq_false hm])) ?_ ?_ ?_ ?_ ?_); (focus exact rfl); (focus exact rfl); iterate 2 (focus ((try simp (disch := omega) only [go_sem, wn, AFile.rins, getD_insmap, AFile.rset, set_ins, List.length_nil, List.nil_append]) <;> (try omega) <;> fail))) | ((first | refine zN ((find_c d key h hg).re (by rw [decide_eq_false hm])) rfl ?_ ?_ | refine zN (copied_d_c d h) rfl ?_ ?_ | refine zX ((good_d_c d h hw).re (by rw [hg])) rfl ?_ ?_ | refine zX ((named_c key hk).re (by rw [hn])) rfl ?_ ?_ | refine zY (copied_d_c d h) ?_ ?_); (focus ((try simp (disch := omega) only [go_sem, wn, AFile.rins, getD_insmap, AFile.rset, set_ins, List.length_nil, List.nil_append]) <;> (try omega) <;> fail))) | ((first | refine zX ((find_c d key h hg).re (by rw [decide_eq_false hm])) rfl ?_ ?_ | refine zY ((find_c d key h hg).re (by rw [decide_eq_false hm])) ?_ ?_); (focus ((try simp (disch := omega) only [go_sem, wn, AFile.rins, getD_insmap, AFile.rset, set_ins, List.length_nil, List.nil_append]) <;> (try omega) <;> fail))) | (refine acallH_own (insFile_c (d.files.map AFile.row) [.str key, .str [], .str []] (place (d.files.map AFile.name) key) (by simpa using hpl') (by simp only [List.length_map]; omega)) ?_ ?_ ?_; (focus ((try simp (disch := omega) only [inj, List.cons.injEq, and_self, List.nodup_cons, List.not_mem_nil, List.mem_cons, not_false_eq_true, List.nodup_nil, go_sem, wn, AFile.rins, getD_insmap, AFile.rset, set_ins, List.length_nil, List.nil_append]) <;> (try omega) <;> fail)); (focus ((try simp (disch := omega) only [inj, List.cons.injEq, and_self, List.nodup_cons, List.not_mem_nil, List.mem_cons, not_false_eq_true, List.nodup_nil, go_sem, wn, AFile.rins, getD_insmap, AFile.rset, set_ins, List.length_nil, List.nil_append]) <;> (try omega) <;> (try decide) <;> fail))) | ((first | (with_reducible refine zu ?_ ?_ <;> intro hg) | with_reducible intro hg) <;> (first | (exfalso; simp at hg; done) | (have hg' := hg; (try simp only [hcs, beq_iff_eq, ge_iff_le, gt_iff_lt] at hg'); (try simp only [hg]))))) <;> (try simp (disch := omega) only [go_sem, wn, AFile.rins, getD_insmap, AFile.rset, set_ins, List.length_nil, List.nil_append]) <;> (repeat' with_reducible refine And.intro ?_ ?_) <;> (try (with_reducible refine hK _ ?_; clear hK K)))
        | omega)
          · rw [if_pos (by omega)]; (refine zF rfl ?_ ?_ ?_ ?_; (iterate 3 (focus ((try simp (disch := omega) only [go_sem, wn, default]) <;> (try omega) <;> fail))); (try simp (disch := omega) only [go_sem, wn, default, I, B, S, zj]))
          · rw [if_neg (by omega)]; (refine zF rfl ?_ ?_ ?_ ?_; (iterate 3 (focus ((try simp (disch := omega) only [go_sem, wn, take_map_ins]) <;> (try omega) <;> fail))); (try simp (disch := omega) only [go_sem, wn, take_map_ins, I, B, S, zj]))
    · have e : writeD d.files key s = (default, 2) := by unfold writeD; rw [if_neg (by simp [hg]), if_pos (by simpa using hn)]
      rw [e]
      rw [Bool.not_eq_true] at hn
      refine zI Tryz.func65 rfl (by kernel_rfl) (by simp [Tryz.ntmps65]) ?_; simp only [Tryz.ntmps65, Tryz.results65, go_sem]
      (repeat' first
    | (with_reducible refine AR.f ?_)
    | refine zb (by decide) ?_
    | (with_reducible refine AWP.cond rfl ?_ ?_ <;> intro hc <;> (try simp only [hcs, beq_iff_eq, ge_iff_le, gt_iff_lt] at hc))
    | ((first | ((first | (with_reducible first | refine zR ?_ | refine zQ (by decide +kernel) ?_ | refine zD (by decide +kernel) ?_ | refine zE (by decide +kernel) ?_ | refine zG (by decide +kernel) ?_)); intro K hK) | ((first | refine zA ((good_d_c d h hw).re (by rw [hg])) ?_ ?_ ?_ ?_ ?_ | refine zA ((named_c key hk).re (by rw [hn])) ?_ ?_ ?_ ?_ ?_); (focus exact rfl); (focus exact rfl); iterate 2 (focus ((try simp (disch := omega) only [go_sem, wn]) <;> (try omega) <;> fail))) | ((first | refine zX ((good_d_c d h hw).re (by rw [hg])) rfl ?_ ?_ | refine zX ((named_c key hk).re (by rw [hn])) rfl ?_ ?_); (focus ((try simp (disch := omega) only [go_sem, wn]) <;> (try omega) <;> fail))) | ((first | (with_reducible refine zu ?_ ?_ <;> intro hg) | with_reducible intro hg) <;> (first | (exfalso; simp at hg; done) | (have hg' := hg; (try simp only [hcs, beq_iff_eq, ge_iff_le, gt_iff_lt] at hg'); (try simp only [hg]))))) <;> (try simp (disch := omega) only [go_sem, wn]) <;> (repeat' with_reducible refine And.intro ?_ ?_) <;> (try (with_reducible refine hK _ ?_; clear hK K)))
    | omega)
      (refine zF rfl ?_ ?_ ?_ ?_; (iterate 3 (focus ((try simp (disch := omega) only [go_sem, wn, default]) <;> (try omega) <;> fail))); (try simp (disch := omega) only [go_sem, wn, default, I, B, S, zj]))
  · have e : writeD d.files key s = (default, 3) := by unfold writeD; rw [if_pos (by simpa using hg)]
    rw [e]
    rw [Bool.not_eq_true] at hg
    refine zI Tryz.func65 rfl (by kernel_rfl) (by simp [Tryz.ntmps65]) ?_; simp only [Tryz.ntmps65, Tryz.results65, go_sem]
    (repeat' first
  | (with_reducible refine AR.f ?_)
  | refine zb (by decide) ?_
  | (with_reducible refine AWP.cond rfl ?_ ?_ <;> intro hc <;> (try simp only [hcs, beq_iff_eq, ge_iff_le, gt_iff_lt] at hc))
  | ((first | ((first | (with_reducible first | refine zR ?_ | refine zQ (by decide +kernel) ?_ | refine zD (by decide +kernel) ?_ | refine zE (by decide +kernel) ?_ | refine zG (by decide +kernel) ?_)); intro K hK) | ((first | refine zA ((good_d_c d h hw).re (by rw [hg])) ?_ ?_ ?_ ?_ ?_); (focus exact rfl); (focus exact rfl); iterate 2 (focus ((try simp (disch := omega) only [go_sem, wn]) <;> (try omega) <;> fail))) | ((first | refine zX ((good_d_c d h hw).re (by rw [hg])) rfl ?_ ?_); (focus ((try simp (disch := omega) only [go_sem, wn]) <;> (try omega) <;> fail))) | ((first | (with_reducible refine zu ?_ ?_ <;> intro hg) | with_reducible intro hg) <;> (first | (exfalso; simp at hg; done) | (have hg' := hg; (try simp only [hcs, beq_iff_eq, ge_iff_le, gt_iff_lt] at hg'); (try simp only [hg]))))) <;> (try simp (disch := omega) only [go_sem, wn]) <;> (repeat' with_reducible refine And.intro ?_ ?_) <;> (try (with_reducible refine hK _ ?_; clear hK K)))
  | omega)
    (refine zF rfl ?_ ?_ ?_ ?_; (iterate 3 (focus ((try simp (disch := omega) only [go_sem, wn, default]) <;> (try omega) <;> fail))); (try simp (disch := omega) only [go_sem, wn, default, I, B, S, zj]))
theorem at_place {l : List AFile} {key : List UInt8} {k : Nat} {x : AFile} (hg : goodD l = true) (hm : ¬ key ∈ l.map AFile.name) (hkl : k ≤ l.length) (hk2 : ∀ j, k ≤ j → j < l.length → key < (l.getD j default).name)
    (hc : (k : Int) ≤ 0 ∨ ((l.insertIdx k x).getD (k - 1) default).name < key ∨ ((l.insertIdx k x).getD (k - 1) default).name = key) : place (l.map AFile.name) key = k := by
  have hnm : ∀ k, (l.map AFile.name).getD k [] = (l.getD k default).name := fun k => getD_map AFile.name l k default
  refine place_eq (by simpa using hkl) (fun j hj => ?_) fun h1 => ?_
  · rw [hnm]
    have hk0 : 0 < k := by omega
    have c1 : (l.getD (k - 1) default).name < key := by
      rw [ins_get_lt _ _ _ _ _ hkl (by omega)] at hc
      rcases hc with c | c | c
      · omega
      · exact c
      · exact absurd ((mem_iff_getD _ [] key).2 ⟨k - 1, by simp; omega, by rw [hnm]; exact c⟩) hm
    by_cases e : j = k - 1
    · subst e; exact c1
    · exact List.lt_trans (by have := rises_lt (goodD_rises hg) (i := j) (j := k - 1) (by omega) (by simp; omega); rwa [hnm, hnm] at this) c1
  · rw [hnm]; exact fun h2 => List.lt_irrefl _ (List.lt_trans h2 (hk2 k (Nat.le_refl _) (by simpa using h1)))
theorem ref_write_c (d : ADisk) (key s : List UInt8) (hs : okS s) (hk : okS key) (h : d.files.length * 48 ≤ 140737488351232) (hw : ∀ f, f ∈ d.files → f.wf) : acall Tryz.prog [] 70 [d.av, S key, S s] (ret (.tup [(writeD d.files key s).1.av, I (writeD d.files key s).2])) := by
  obtain ⟨w0, w1, w2, w3⟩ := file_wf hw (place (d.files.map AFile.name) key)
  unfold okS at hs
  by_cases hg : goodD d.files = true
  · have hl16 := good_len hg
    by_cases hn : namedP key = true
    · have hpl' := place_le' (l := d.files) (key := key)
      by_cases hm : key ∈ d.files.map AFile.name
      · have hpl := place_lt hg hm
        have e : writeD d.files key s = (if 1048576 < (d.files.getD (place (d.files.map AFile.name) key) default).safe.length + (d.files.getD (place (d.files.map AFile.name) key) default).tail.length + s.length then (default, 1)
          else (⟨d.files.set (place (d.files.map AFile.name) key) ⟨(d.files.getD (place (d.files.map AFile.name) key) default).name, (d.files.getD (place (d.files.map AFile.name) key) default).safe, (d.files.getD (place (d.files.map AFile.name) key) default).tail ++ s⟩⟩, 0)) := by
          unfold writeD; rw [if_neg (by simp [hg]), if_neg (by simp [hn]), if_pos hm]
        rw [e]
        refine zI Tryz.func70 rfl (by kernel_rfl) (by simp [Tryz.ntmps70]) ?_; simp only [Tryz.ntmps70, Tryz.results70, go_sem]
        (repeat' first
      | (with_reducible refine AR.f ?_)
      | refine zb (by decide) ?_
      | (with_reducible refine AWP.cond rfl ?_ ?_ <;> intro hc <;> (try simp only [hcs, beq_iff_eq, ge_iff_le, gt_iff_lt] at hc))
      | ((first | ((first | (with_reducible first | refine zR ?_ | refine zQ (by decide +kernel) ?_ | refine zD (by decide +kernel) ?_ | refine zE (by decide +kernel) ?_ | refine zG (by decide +kernel) ?_)); intro K hK) | ((first | refine zA ((ref_good_d_c d h hw).re (by rw [hg])) ?_ ?_ ?_ ?_ ?_ | refine zA ((ref_named_c key hk).re (by rw [hn])) ?_ ?_ ?_ ?_ ?_ | refine zA ((file_c d key h hg).re (by rw [fileI_yes hm])) ?_ ?_ ?_ ?_ ?_); (focus exact rfl); (focus exact rfl); iterate 2 (focus ((try simp (disch := omega) only [go_sem, wn, AFile.rgetD, zg, AFile.rset, zm, List.set_set]) <;> (try omega) <;> fail))) | ((first | refine zN (ref_copied_o_c d h) rfl ?_ ?_ | refine zX ((ref_good_d_c d h hw).re (by rw [hg])) rfl ?_ ?_ | refine zX ((ref_named_c key hk).re (by rw [hn])) rfl ?_ ?_ | refine zX ((file_c d key h hg).re (by rw [fileI_yes hm])) rfl ?_ ?_ | refine zY (ref_copied_o_c d h) ?_ ?_); (focus ((try simp (disch := omega) only [go_sem, wn, AFile.rgetD, zg, AFile.rset, zm, List.set_set]) <;> (try omega) <;> fail))) | ((first | (with_reducible refine zu ?_ ?_ <;> intro hg) | with_reducible intro hg) <;> (first | (exfalso; simp at hg; done) | (have hg' := hg; (try simp only [hcs, beq_iff_eq, ge_iff_le, gt_iff_lt] at hg'); (try simp only [hg]))))) <;> (try simp (disch := omega) only [go_sem, wn, AFile.rgetD, zg, AFile.rset, zm, List.set_set]) <;> (repeat' with_reducible refine And.intro ?_ ?_) <;> (try (with_reducible refine hK _ ?_; clear hK K)))
      | omega)
        · rw [if_pos (by omega)]; (refine zF rfl ?_ ?_ ?_ ?_; (iterate 3 (focus ((try simp (disch := omega) only [go_sem, wn, default]) <;> (try omega) <;> fail))); (try simp (disch := omega) only [go_sem, wn, default, I, B, S, zj]))
        · rw [if_neg (by omega)]; (refine zF rfl ?_ ?_ ?_ ?_; (iterate 3 (focus ((try simp (disch := omega) only [go_sem, wn, take_map_set]) <;> (try omega) <;> fail))); (try simp (disch := omega) only [go_sem, wn, take_map_set, I, B, S, zj]))
      · by_cases hf : 16 ≤ d.files.length
        · have e : writeD d.files key s = (default, 6) := by unfold writeD; rw [if_neg (by simp [hg]), if_neg (by simp [hn]), if_neg hm, if_pos hf]
          rw [e]
          refine zI Tryz.func70 rfl (by kernel_rfl) (by simp [Tryz.ntmps70]) ?_; simp only [Tryz.ntmps70, Tryz.results70, go_sem]
          (repeat' first
        | (with_reducible refine AR.f ?_)
        | refine zb (by decide) ?_
        | (with_reducible refine AWP.cond rfl ?_ ?_ <;> intro hc <;> (try simp only [hcs, beq_iff_eq, ge_iff_le, gt_iff_lt] at hc))
        | ((first | ((first | (with_reducible first | refine zR ?_ | refine zQ (by decide +kernel) ?_ | refine zD (by decide +kernel) ?_ | refine zE (by decide +kernel) ?_ | refine zG (by decide +kernel) ?_)); intro K hK) | ((first | refine zA ((ref_good_d_c d h hw).re (by rw [hg])) ?_ ?_ ?_ ?_ ?_ | refine zA ((ref_named_c key hk).re (by rw [hn])) ?_ ?_ ?_ ?_ ?_ | refine zA ((file_c d key h hg).re (by rw [fileI_no hm])) ?_ ?_ ?_ ?_ ?_); (focus exact rfl); (focus exact rfl); iterate 2 (focus ((try simp (disch := omega) only [go_sem, wn]) <;> (try omega) <;> fail))) | ((first | refine zN (ref_copied_o_c d h) rfl ?_ ?_ | refine zX ((ref_good_d_c d h hw).re (by rw [hg])) rfl ?_ ?_ | refine zX ((ref_named_c key hk).re (by rw [hn])) rfl ?_ ?_ | refine zX ((file_c d key h hg).re (by rw [fileI_no hm])) rfl ?_ ?_ | refine zY (ref_copied_o_c d h) ?_ ?_); (focus ((try simp (disch := omega) only [go_sem, wn]) <;> (try omega) <;> fail))) | ((first | (with_reducible refine zu ?_ ?_ <;> intro hg) | with_reducible intro hg) <;> (first | (exfalso; simp at hg; done) | (have hg' := hg; (try simp only [hcs, beq_iff_eq, ge_iff_le, gt_iff_lt] at hg'); (try simp only [hg]))))) <;> (try simp (disch := omega) only [go_sem, wn]) <;> (repeat' with_reducible refine And.intro ?_ ?_) <;> (try (with_reducible refine hK _ ?_; clear hK K)))
        | omega)
          (refine zF rfl ?_ ?_ ?_ ?_; (iterate 3 (focus ((try simp (disch := omega) only [go_sem, wn, default]) <;> (try omega) <;> fail))); (try simp (disch := omega) only [go_sem, wn, default, I, B, S, zj]))
        · have e : writeD d.files key s = (if 1048576 < s.length then (default, 1) else (⟨d.files.insertIdx (place (d.files.map AFile.name) key) ⟨key, [], s⟩⟩, 0)) := by
            unfold writeD; rw [if_neg (by simp [hg]), if_neg (by simp [hn]), if_neg hm, if_neg hf]
          rw [e]
          have hil := ins_len d.files (place (d.files.map AFile.name) key) (⟨key, [], []⟩ : AFile) hpl'
          have hil2 := ins_len d.files (place (d.files.map AFile.name) key) (⟨key, [], s⟩ : AFile) hpl'
          refine zI Tryz.func70 rfl (by kernel_rfl) (by simp [Tryz.ntmps70]) ?_; simp only [Tryz.ntmps70, Tryz.results70, go_sem]
          (repeat' first
        | (with_reducible refine AR.f ?_)
        | refine zb (by decide) ?_
        | (with_reducible refine AWP.cond rfl ?_ ?_ <;> intro hc <;> (try simp only [hcs, beq_iff_eq, ge_iff_le, gt_iff_lt] at hc))
        | ((first | ((first | (with_reducible first | refine zR ?_ | refine zQ (by decide +kernel) ?_ | refine zD (by decide +kernel) ?_ | refine zE (by decide +kernel) ?_ | refine zG (by decide +kernel) ?_)); intro K hK) | ((first | refine zA ((ref_good_d_c d h hw).re (by rw [hg])) ?_ ?_ ?_ ?_ ?_ | refine zA ((ref_named_c key hk).re (by rw [hn])) ?_ ?_ ?_ ?_ ?_ | refine zA ((file_c d key h hg).re (by rw [fileI_no hm])) ?_ ?_ ?_ ?_ ?_); (focus exact rfl); (focus exact rfl); iterate 2 (focus ((try simp (disch := omega) only [go_sem, wn, AFile.rsnoc]) <;> (try omega) <;> fail))) | ((first | refine zN (ref_copied_o_c d h) rfl ?_ ?_ | refine zX ((ref_good_d_c d h hw).re (by rw [hg])) rfl ?_ ?_ | refine zX ((ref_named_c key hk).re (by rw [hn])) rfl ?_ ?_ | refine zX ((file_c d key h hg).re (by rw [fileI_no hm])) rfl ?_ ?_ | refine zY (ref_copied_o_c d h) ?_ ?_); (focus ((try simp (disch := omega) only [go_sem, wn, AFile.rsnoc]) <;> (try omega) <;> fail))) | ((first | (with_reducible refine zu ?_ ?_ <;> intro hg) | with_reducible intro hg) <;> (first | (exfalso; simp at hg; done) | (have hg' := hg; (try simp only [hcs, beq_iff_eq, ge_iff_le, gt_iff_lt] at hg'); (try simp only [hg]))))) <;> (try simp (disch := omega) only [go_sem, wn, AFile.rsnoc]) <;> (repeat' with_reducible refine And.intro ?_ ?_) <;> (try (with_reducible refine hK _ ?_; clear hK K)))
        | omega)
          have e8 : ((d.files.length + 1 : Nat) : Int) - 1 = (d.files.length : Nat) := by omega
          have hrr := goodD_rises hg
          have hnm : ∀ k, (d.files.map AFile.name).getD k [] = (d.files.getD k default).name := fun k => getD_map AFile.name d.files k default
          refine AWP.loopB (ι := Nat) (fun k => k ≤ d.files.length ∧ ∀ j, k ≤ j → j < d.files.length → key < (d.files.getD j default).name) (fun k => k) [1, 2, 3, 6] (fun k => [(8, I k)]) (fun k => [.cells [.osl 4 3 0 (d.files.length + 1)], .cells [.d (.sc (.slice none 0 0))], .dead, .rows 3 [[.str key, .str [], .str []]], .rows 3 ((d.files.insertIdx k ⟨key, [], []⟩).map AFile.row)]) d.files.length ?_ ?_ ?_
          · exact ⟨Nat.le_refl _, fun j h1 h2 => by omega⟩
          · simp only [go_sem, ins_end, e8]; (refine SImp.same ?_; simp (disch := omega) only [go_sem, wn, Int.natCast_add])
          intro k ⟨hkl, hk2⟩
          have hik := ins_len d.files k (⟨key, [], []⟩ : AFile) hkl
          have hik2 := ins_len d.files k (⟨key, [], s⟩ : AFile) hkl
          simp only [go_sem]
          (repeat' first
        | (with_reducible refine AR.f ?_)
        | refine zb (by decide) ?_
        | (with_reducible refine AWP.cond rfl ?_ ?_ <;> intro hc <;> (try simp only [hcs, beq_iff_eq, ge_iff_le, gt_iff_lt] at hc))
        | ((first | ((first | refine zP (Plan.takes [0, 1, 2, 3, 4, 6, 7, 8, 9, 10, 11, 12, 13, 14, 15, 16, 17, 18] (.fork 5 (Plan.takes [19, 20, 21] .done) 19 (Plan.takes [5, 20, 21] .done))) (by decide +kernel) ?_ | (with_reducible first | refine zR ?_ | refine zQ (by decide +kernel) ?_ | refine zD (by decide +kernel) ?_ | refine zE (by decide +kernel) ?_ | refine zG (by decide +kernel) ?_)); intro K hK) | ((first | (with_reducible refine zu ?_ ?_ <;> intro hg) | with_reducible intro hg) <;> (first | (exfalso; simp at hg; done) | (have hg' := hg; (try simp only [hcs, beq_iff_eq, ge_iff_le, gt_iff_lt] at hg'); (try simp only [hg]))))) <;> (try simp (disch := omega) only [go_sem, wn, AFile.rgetD, getD_ins, strLt_eq, toNat_pr, AFile.rset, List.length_set, zm, set_ins]) <;> (repeat' with_reducible refine And.intro ?_ ?_) <;> (try (with_reducible refine hK _ ?_; clear hK K)))
        | omega)
          iterate 2
            · obtain ⟨c0, c1, c2⟩ := hc
              rw [ins_get_lt _ _ _ _ _ hkl (by omega)] at c1 c2
              have e9 : (k : Int) - 1 = ((k - 1 : Nat) : Int) := by omega
              have e10 : (⟨((d.files.insertIdx k (⟨key, [], []⟩ : AFile)).getD (k - 1) default).name, ((d.files.insertIdx k (⟨key, [], []⟩ : AFile)).getD (k - 1) default).safe, ((d.files.insertIdx k (⟨key, [], []⟩ : AFile)).getD (k - 1) default).tail⟩ : AFile) = d.files.getD (k - 1) default := by
                rw [ins_get_lt _ _ _ _ _ hkl (by omega)]
              refine ⟨k - 1, ⟨by omega, fun j h1 h2 => ?_⟩, by omega, ?_⟩
              · by_cases e : j = k - 1
                · subst e; exact lt_of_not c1 c2
                · exact hk2 j (by omega) h2
              rw [e10, ins_swap _ _ _ _ hkl (by omega), e9]
              (refine SImp.same ?_; simp (disch := omega) only [go_sem, wn, Int.natCast_add])
          · rename_i hc1
            have epl := at_place hg hm hkl hk2 hc1
            rw [if_pos (by omega)]; (refine zF rfl ?_ ?_ ?_ ?_; (iterate 3 (focus ((try simp (disch := omega) only [go_sem, wn, default]) <;> (try omega) <;> fail))); (try simp (disch := omega) only [go_sem, wn, default, I, B, S, zj]))
          · rename_i hc1
            have epl := at_place hg hm hkl hk2 hc1
            rw [if_neg (by omega), epl]; (refine zF rfl ?_ ?_ ?_ ?_; (iterate 3 (focus ((try simp (disch := omega) only [go_sem, wn, take_map_ins]) <;> (try omega) <;> fail))); (try simp (disch := omega) only [go_sem, wn, take_map_ins, I, B, S, zj]))
    · have e : writeD d.files key s = (default, 2) := by unfold writeD; rw [if_neg (by simp [hg]), if_pos (by simpa using hn)]
      rw [e]
      rw [Bool.not_eq_true] at hn
      refine zI Tryz.func70 rfl (by kernel_rfl) (by simp [Tryz.ntmps70]) ?_; simp only [Tryz.ntmps70, Tryz.results70, go_sem]
      (repeat' first
    | (with_reducible refine AR.f ?_)
    | refine zb (by decide) ?_
    | (with_reducible refine AWP.cond rfl ?_ ?_ <;> intro hc <;> (try simp only [hcs, beq_iff_eq, ge_iff_le, gt_iff_lt] at hc))
    | ((first | ((first | (with_reducible first | refine zR ?_ | refine zQ (by decide +kernel) ?_ | refine zD (by decide +kernel) ?_ | refine zE (by decide +kernel) ?_ | refine zG (by decide +kernel) ?_)); intro K hK) | ((first | refine zA ((ref_good_d_c d h hw).re (by rw [hg])) ?_ ?_ ?_ ?_ ?_ | refine zA ((ref_named_c key hk).re (by rw [hn])) ?_ ?_ ?_ ?_ ?_); (focus exact rfl); (focus exact rfl); iterate 2 (focus ((try simp (disch := omega) only [go_sem, wn]) <;> (try omega) <;> fail))) | ((first | refine zX ((ref_good_d_c d h hw).re (by rw [hg])) rfl ?_ ?_ | refine zX ((ref_named_c key hk).re (by rw [hn])) rfl ?_ ?_); (focus ((try simp (disch := omega) only [go_sem, wn]) <;> (try omega) <;> fail))) | ((first | (with_reducible refine zu ?_ ?_ <;> intro hg) | with_reducible intro hg) <;> (first | (exfalso; simp at hg; done) | (have hg' := hg; (try simp only [hcs, beq_iff_eq, ge_iff_le, gt_iff_lt] at hg'); (try simp only [hg]))))) <;> (try simp (disch := omega) only [go_sem, wn]) <;> (repeat' with_reducible refine And.intro ?_ ?_) <;> (try (with_reducible refine hK _ ?_; clear hK K)))
    | omega)
      (refine zF rfl ?_ ?_ ?_ ?_; (iterate 3 (focus ((try simp (disch := omega) only [go_sem, wn, default]) <;> (try omega) <;> fail))); (try simp (disch := omega) only [go_sem, wn, default, I, B, S, zj]))
  · have e : writeD d.files key s = (default, 3) := by unfold writeD; rw [if_pos (by simpa using hg)]
    rw [e]
    rw [Bool.not_eq_true] at hg
    refine zI Tryz.func70 rfl (by kernel_rfl) (by simp [Tryz.ntmps70]) ?_; simp only [Tryz.ntmps70, Tryz.results70, go_sem]
    (repeat' first
  | (with_reducible refine AR.f ?_)
  | refine zb (by decide) ?_
  | (with_reducible refine AWP.cond rfl ?_ ?_ <;> intro hc <;> (try simp only [hcs, beq_iff_eq, ge_iff_le, gt_iff_lt] at hc))
  | ((first | ((first | (with_reducible first | refine zR ?_ | refine zQ (by decide +kernel) ?_ | refine zD (by decide +kernel) ?_ | refine zE (by decide +kernel) ?_ | refine zG (by decide +kernel) ?_)); intro K hK) | ((first | refine zA ((ref_good_d_c d h hw).re (by rw [hg])) ?_ ?_ ?_ ?_ ?_); (focus exact rfl); (focus exact rfl); iterate 2 (focus ((try simp (disch := omega) only [go_sem, wn]) <;> (try omega) <;> fail))) | ((first | refine zX ((ref_good_d_c d h hw).re (by rw [hg])) rfl ?_ ?_); (focus ((try simp (disch := omega) only [go_sem, wn]) <;> (try omega) <;> fail))) | ((first | (with_reducible refine zu ?_ ?_ <;> intro hg) | with_reducible intro hg) <;> (first | (exfalso; simp at hg; done) | (have hg' := hg; (try simp only [hcs, beq_iff_eq, ge_iff_le, gt_iff_lt] at hg'); (try simp only [hg]))))) <;> (try simp (disch := omega) only [go_sem, wn]) <;> (repeat' with_reducible refine And.intro ?_ ?_) <;> (try (with_reducible refine hK _ ?_; clear hK K)))
  | omega)
    (refine zF rfl ?_ ?_ ?_ ?_; (iterate 3 (focus ((try simp (disch := omega) only [go_sem, wn, default]) <;> (try omega) <;> fail))); (try simp (disch := omega) only [go_sem, wn, default, I, B, S, zj]))
theorem write_wf {l : List AFile} {key s : List UInt8} : (writeD l key s).1.files.length * 48 ≤ 140737488351232 := by
  unfold writeD; split
  · decide
  · rename_i hg
    have hl := good_len (l := l) (by simpa using hg)
    split
    · decide
    · split
      · split
        · decide
        · show (l.set _ _).length * 48 ≤ _; rw [List.length_set]; omega
      · split
        · decide
        · split
          · decide
          · show (l.insertIdx _ _).length * 48 ≤ _; rw [ins_len _ _ _ place_le']; omega
end Go.Proofs.YtainmipdnjcbkaaGreatDoor
namespace Go.Proofs.YtainmipdnjcbkaaGreatDoor
set_option linter.unusedVariables false
set_option linter.unusedSimpArgs false
open Go Go.RowKit
set_option maxRecDepth 100000
def logN : List UInt8 := [108, 111, 103]
theorem logN_ok : okS logN := by unfold okS; decide
theorem write_files_wf {l : List AFile} {key s : List UInt8} (hk : okS key) (hw : ∀ f, f ∈ l → f.wf) : ∀ f, f ∈ (writeD l key s).1.files → f.wf := by
  intro f hf
  unfold writeD at hf
  split at hf
  · cases hf
  · split at hf
    · cases hf
    · split at hf
      · split at hf
        · cases hf
        · obtain ⟨g1, g2, g3, g4⟩ := file_wf hw (place (l.map AFile.name) key)
          rcases List.mem_or_eq_of_mem_set hf with h | h
          · exact hw f h
          · subst h
            exact ⟨g1, g3, by show okS _; unfold okS; rw [List.length_append]; omega⟩
      · split at hf
        · cases hf
        · split at hf
          · cases hf
          · rename_i h1
            have hf' : f ∈ l.insertIdx (place (l.map AFile.name) key) ⟨key, [], s⟩ := hf
            rw [List.mem_insertIdx place_le'] at hf'
            rcases hf' with h | h
            · subst h; exact ⟨hk, by show okS []; unfold okS; decide, by show okS s; unfold okS; omega⟩
            · exact hw f h
end Go.Proofs.YtainmipdnjcbkaaGreatDoor
namespace Go.Proofs.YtainmipdnjcbkaaGreatDoor
set_option linter.unusedVariables false
set_option linter.unusedSimpArgs false
open Go Go.RowKit
set_option maxRecDepth 100000
theorem numN_fold (l : List UInt8) : ∀ a : Nat, l.foldl (fun v (x : UInt8) => v * 256 + x.toNat) a = a * 256 ^ l.length + numN l := by
  induction l with
  | nil => intro a; simp [numN]
  | cons x l ih =>
    intro a
    unfold numN
    rw [List.foldl_cons, List.foldl_cons, ih, ih, List.length_cons, Nat.pow_succ]
    have : (a * 256 + x.toNat) * 256 ^ l.length = a * (256 ^ l.length * 256) + x.toNat * 256 ^ l.length := by rw [Nat.add_mul, Nat.mul_assoc, Nat.mul_comm 256 (256 ^ l.length)]
    rw [this, Nat.zero_mul, Nat.zero_add, Nat.add_assoc]
theorem numN_cons (x : UInt8) (l : List UInt8) : numN (x :: l) = x.toNat * 256 ^ l.length + numN l := by
  unfold numN
  rw [List.foldl_cons, numN_fold, Nat.zero_mul, Nat.zero_add]; rfl
theorem numN_bound : ∀ l : List UInt8, numN l < 256 ^ l.length
  | [] => by simp [numN]
  | x :: l => by
    have h := numN_bound l
    have hx := x.toNat_lt
    rw [numN_cons, List.length_cons, Nat.pow_succ]
    have : x.toNat * 256 ^ l.length ≤ 255 * 256 ^ l.length := Nat.mul_le_mul_right _ (by omega)
    omega
theorem pow8 (n : Nat) : (2 : Int) ^ (8 * n) = ((256 ^ n : Nat) : Int) := by
  rw [Int.pow_mul]; simp
theorem beB_numN : ∀ (l : List UInt8) (k : Int), beB l.length ((numN l : Int) + (256 ^ l.length : Nat) * k) = l
  | [], _ => rfl
  | x :: l, k => by
    have hb := numN_bound l
    have hx := x.toNat_lt
    rw [List.length_cons, beB]
    have e : ((numN (x :: l) : Nat) : Int) + ((256 ^ (l.length + 1) : Nat) : Int) * k = (numN l : Int) + ((256 ^ l.length : Nat) : Int) * (x.toNat + 256 * k) := by
      rw [numN_cons, Nat.pow_succ, Int.natCast_add, Int.natCast_mul, Int.natCast_mul, Int.mul_add, Int.mul_comm (x.toNat : Int), Int.mul_assoc]
      generalize ((256 ^ l.length : Nat) : Int) * _ = a
      simp only [Int.cast_ofNat_Int] at *
      omega
    rw [e, beB_numN l _]
    congr 1
    unfold byteAt
    rw [pow8, Int.add_mul_ediv_left _ _ (by have : 0 < 256 ^ l.length := Nat.pow_pos (by decide)
                                            omega), Int.ediv_eq_zero_of_lt (by omega) (by omega), Int.zero_add]
    rw [show ((x.toNat : Int) + 256 * k) % 256 = x.toNat from by omega, Int.toNat_natCast, UInt8.ofNat_toNat]
theorem beB_N (l : List UInt8) (n : Nat) (h : l.length = n) : beB n (numN l : Nat) = l := by
  subst h
  have := beB_numN l 0
  rwa [Int.mul_zero, Int.add_zero] at this
theorem numW_N (l : List UInt8) : ∃ k : Int, numW l = (numN l : Int) + 18446744073709551616 * k := by
  generalize hn : l.length = n
  induction n generalizing l with
  | zero => rw [List.length_eq_zero_iff.1 hn]; exact ⟨0, rfl⟩
  | succ n ih =>
    have e : l = l.take (n + 1) := by rw [← hn, List.take_length]
    obtain ⟨k, hk⟩ := ih (l.take n) (by rw [List.length_take]; omega)
    have h1 := numW_snoc l n (by omega)
    have h2 := numN_snoc l n (by omega)
    rw [← e] at h1 h2
    rw [h1, h2, hk, wrap_i64e]
    refine ⟨(((numN (l.take n) : Int) + 18446744073709551616 * k) * 256 + (l.getD n 0).toNat - (numN (l.take n) * 256 + (l.getD n 0).toNat : Nat) - 18446744073709551616 * ((((numN (l.take n) : Int) + 18446744073709551616 * k) * 256 + (l.getD n 0).toNat + 9223372036854775808) / 18446744073709551616)) / 18446744073709551616, ?_⟩
    omega
theorem beB_W (l : List UInt8) (h : l.length = 8) : beB 8 (numW l) = l := by
  obtain ⟨k, hk⟩ := numW_N l
  have := beB_numN l k
  rw [h] at this
  rw [hk]; exact this
theorem byteAt_one (x : UInt8) : byteAt 0 (x.toNat : Int) = x := by
  have h := x.toNat_lt
  unfold byteAt
  simp only [Nat.mul_zero, Int.pow_zero, Int.ediv_one]
  rw [show ((x.toNat : Int)) % 256 = x.toNat from by omega, Int.toNat_natCast, UInt8.ofNat_toNat]
theorem body_back {b : List UInt8} (h : bodyOk b) : bodyB (bodyT b) = b := by
  unfold bodyOk at h
  have l1 : (b.take 8).length = 8 := by rw [List.length_take]; omega
  have l2 : ((b.drop 9).take 4).length = 4 := by rw [List.length_take, List.length_drop]; omega
  have l3 : ((b.drop 13).take 4).length = 4 := by rw [List.length_take, List.length_drop]; omega
  have l4 : ((b.drop 17).take 4).length = 4 := by rw [List.length_take, List.length_drop]; omega
  have l5 : ((b.drop 22).take (bP b)).length = bP b := by rw [List.length_take, List.length_drop]; omega
  have l6 : ((b.drop (22 + bP b)).take 2).length = 2 := by rw [List.length_take, List.length_drop]; omega
  have l7 : (b.drop (24 + bP b)).length = bD b := by rw [List.length_drop]; omega
  unfold bodyB b7 b6 b5 bodyT
  simp only [l5, l7]
  rw [beB_W _ l1, beB_N _ 4 l2, beB_N _ 4 l3, beB_N _ 4 l4, byteAt_one]
  rw [show ((bP b : Nat) : Int) = ((b.getD 21 0).toNat : Int) from rfl, byteAt_one]
  rw [show bD b = numN ((b.drop (22 + bP b)).take 2) from rfl, beB_N _ 2 l6]
  have one (k : Nat) (hk : k < b.length) : [b.getD k 0] = (b.drop k).take 1 := by
    rw [List.drop_eq_getElem_cons hk, List.getD_eq_getElem?_getD, List.getElem?_eq_getElem hk]; rfl
  rw [one 8 (by omega), one 21 (by omega)]
  have j (m n k : Nat) (hk : m + n = k) : b.take m ++ (b.drop m).take n = b.take k := by subst hk; exact List.take_add.symm
  rw [j 8 1 9 rfl, j 9 4 13 rfl, j 13 4 17 rfl, j 17 4 21 rfl, j 21 1 22 rfl, j 22 (bP b) (22 + bP b) rfl, j (22 + bP b) 2 (24 + bP b) (by omega), List.take_append_drop]
theorem decT_yes {s : List UInt8} (h : (decT s).2.2 = 0) : ¬ noHead s ∧ ¬ noRoom s ∧ ¬ noSum s ∧ bodyOk (sB s) ∧ goodT (bodyT (sB s)) = 0 := by
  by_cases h1 : noHead s
  · rw [decT_a h1] at h; cases h
  by_cases h2 : noRoom s
  · rw [decT_b h1 h2] at h; cases h
  by_cases h3 : noSum s
  · rw [decT_c h1 h2 h3] at h; cases h
  by_cases h4 : bodyOk (sB s)
  case neg => rw [decT_d h1 h2 h3 h4] at h; cases h
  by_cases h5 : goodT (bodyT (sB s)) = 0
  · exact ⟨h1, h2, h3, h4, h5⟩
  · rw [decT_e h1 h2 h3 h4 h5] at h; exact absurd h h5
theorem enc_back {s : List UInt8} (h : (decT s).2.2 = 0) : encT (decT s).1 = (s.take (sN s + 7), 0) := by
  obtain ⟨h1, h2, h3, h4, h5⟩ := decT_yes h
  rw [decT_f h1 h2 h3 h4 h5]
  unfold noHead at h1
  unfold noRoom at h2
  unfold noSum at h3
  have h3' : numN ((s.drop (sN s + 3)).take 4) = sumN (s.take (sN s + 3)) := Classical.byContradiction h3
  have h84 : s.getD 0 0 = 84 := Classical.byContradiction fun e => h1 (.inr e)
  have hl : ((bodyB (bodyT (sB s))).length : Int) = (sN s : Nat) := by
    rw [body_back h4]; unfold sB; rw [List.length_take, List.length_drop]; omega
  have l2 : ((s.drop 1).take 2).length = 2 := by rw [List.length_take, List.length_drop]; omega
  have l4 : ((s.drop (sN s + 3)).take 4).length = 4 := by rw [List.length_take, List.length_drop]; omega
  have one : [(84 : UInt8)] = s.take 1 := by
    rw [← h84, List.getD_eq_getElem?_getD, List.getElem?_eq_getElem (by omega)]
    rcases s with _ | ⟨x, s⟩
    · simp at h1
    · rfl
  have j (m n k : Nat) (hk : m + n = k) : s.take m ++ (s.drop m).take n = s.take k := by subst hk; exact List.take_add.symm
  have hh : headB (bodyT (sB s)) = s.take (sN s + 3) := by
    unfold headB
    rw [hl, body_back h4, one, show sN s = numN ((s.drop 1).take 2) from rfl, beB_N _ 2 l2, j 1 2 3 rfl]
    exact j 3 _ _ (by rw [Nat.add_comm]; rfl)
  unfold encT
  rw [if_pos h5]
  unfold encB
  rw [hh, ← h3', beB_N _ 4 l4, j (sN s + 3) 4 (sN s + 7) rfl]
def encs (l : List ATxn) : List UInt8 := (l.map fun t => (encT t).1).flatten
theorem encs_snoc (l : List ATxn) (t : ATxn) : encs (l ++ [t]) = encs l ++ (encT t).1 := by unfold encs; simp
def logOk (l : List ATxn) : Prop := (∀ k, k + 1 < l.length → (l.getD k default).zxid < (l.getD (k + 1) default).zxid) ∧ ∀ t, t ∈ l → goodT t = 0
theorem logOk_nil : logOk [] := ⟨fun k h => by simp at h, fun t h => by cases h⟩
theorem logOk_snoc {l : List ATxn} {t : ATxn} (h : logOk l) (hz : 0 < l.length → lastZ l < t.zxid) (ht : goodT t = 0) : logOk (l ++ [t]) := by
  have g1 : ∀ j, j < l.length → (l ++ [t]).getD j default = l.getD j default := fun j hj => by
    rw [List.getD_eq_getElem?_getD, List.getElem?_append_left hj, List.getD_eq_getElem?_getD]
  have g2 : (l ++ [t]).getD l.length default = t := by simp [List.getD_eq_getElem?_getD]
  refine ⟨fun k hk => ?_, fun x hx => ?_⟩
  · rw [List.length_append, List.length_singleton] at hk
    rw [g1 k (by omega)]
    by_cases e : k + 1 = l.length
    · rw [e, g2]
      have := hz (by omega)
      rw [lastZ_pos (by omega), show l.length - 1 = k from by omega] at this
      exact this
    · rw [g1 _ (by omega)]; exact h.1 k (by omega)
  · rcases List.mem_append.1 hx with h1 | h1
    · exact h.2 x h1
    · rw [List.mem_singleton.1 h1]; exact ht
theorem scanG_ok (s : List UInt8) : ∀ (f at_ : Nat) (l : List ATxn), logOk l → encs l = s.take at_ → at_ ≤ s.length → logOk (scanG s f at_ l).1 ∧ encs (scanG s f at_ l).1 = s.take (scanG s f at_ l).2 ∧ (scanG s f at_ l).2 ≤ s.length
  | 0, at_, l, h1, h2, h3 => ⟨h1, h2, h3⟩
  | f + 1, at_, l, h1, h2, h3 => by
    by_cases hc : (decT (s.drop at_)).2.2 ≠ 0 ∨ (0 < l.length ∧ (decT (s.drop at_)).1.zxid ≤ lastZ l)
    · rw [scanG_stop hc]; exact ⟨h1, h2, h3⟩
    · have hz : (decT (s.drop at_)).2.2 = 0 := Classical.byContradiction fun h => hc (.inl h)
      have hr : ¬ (0 < l.length ∧ (decT (s.drop at_)).1.zxid ≤ lastZ l) := fun h => hc (.inr h)
      rcases decT_cases (s.drop at_) with ⟨c, _⟩ | ⟨_, c2, c3, _, c5⟩
      · exact absurd hz c
      rw [scanG_next hz hr c2]
      rw [List.length_drop] at c3
      refine scanG_ok s f _ _ (logOk_snoc h1 (fun h0 => ?_) c5) ?_ (by omega)
      · exact Int.not_le.1 fun h => hr ⟨h0, h⟩
      · rw [encs_snoc, h2, enc_back hz]; exact List.take_add.symm
theorem scanT_ok (s : List UInt8) : logOk (scanT s).1 ∧ encs (scanT s).1 = s.take (scanT s).2 ∧ (scanT s).2 ≤ s.length := scanG_ok s _ 0 [] logOk_nil rfl (Nat.zero_le _)
def keepL (l : List ATxn) (z : Int) : List ATxn := l.filter fun t => decide (t.zxid ≤ z)
theorem nm (l : List AFile) (k : Nat) : (l.map AFile.name).getD k [] = (l.getD k default).name := getD_map AFile.name l k default
theorem goodD_iff {l : List AFile} : goodD l = true ↔ l.length ≤ 16 ∧ ∀ k, k < l.length → fileK l k := by unfold goodD; rw [decide_eq_true_eq]
end Go.Proofs.YtainmipdnjcbkaaGreatDoor
namespace Go.Proofs.YtainmipdnjcbkaaGreatDoor
set_option linter.unusedVariables false
set_option linter.unusedSimpArgs false
open Go Go.RowKit
set_option maxRecDepth 100000
def recoverD (l : List AFile) : List ATxn × ADisk × Int :=
  if (readD l logN).2 = 7 then (if (writeD l logN []).2 = 0 then ([], (writeD l logN []).1, 0) else ([], default, (writeD l logN []).2))
  else if (readD l logN).2 = 0 then ((scanT (readD l logN).1).1, (changeD l logN (cutF (scanT (readD l logN).1).2)).1, 0)
  else ([], default, (readD l logN).2)
theorem read_len {l : List AFile} (key : List UInt8) : (readD l key).1.length ≤ 1048576 := by
  unfold readD
  split
  · decide
  · rename_i hg
    split
    · rename_i hm
      have hg' : goodD l = true := by simpa using hg
      have hp := place_lt hg' hm
      have := ((goodD_iff.1 hg').2 _ hp).1.2
      simp only [List.length_append]; exact this
    · decide
theorem read_zero {l : List AFile} {key : List UInt8} (h : (readD l key).2 = 0) : goodD l = true ∧ key ∈ l.map AFile.name ∧ (readD l key).1 = (l.getD (place (l.map AFile.name) key) default).safe ++ (l.getD (place (l.map AFile.name) key) default).tail := by
  unfold readD at h ⊢
  split at h
  · cases h
  · rename_i hg
    split at h
    · rename_i hm
      rw [if_neg hg, if_pos hm]
      exact ⟨by simpa using hg, hm, rfl⟩
    · cases h
theorem cut_ok {l : List AFile} {key : List UInt8} {n : Nat} (hg : goodD l = true) (hm : key ∈ l.map AFile.name) (hn : n ≤ ((l.getD (place (l.map AFile.name) key) default).safe ++ (l.getD (place (l.map AFile.name) key) default).tail).length) :
    changeD l key (cutF n) = (⟨l.set (place (l.map AFile.name) key) ⟨key, ((l.getD (place (l.map AFile.name) key) default).safe ++ (l.getD (place (l.map AFile.name) key) default).tail).take n, []⟩⟩, 0) := by
  have e : cutF n (l.getD (place (l.map AFile.name) key) default) = (⟨(l.getD (place (l.map AFile.name) key) default).name, ((l.getD (place (l.map AFile.name) key) default).safe ++ (l.getD (place (l.map AFile.name) key) default).tail).take n, []⟩, 0) := by
    rw [List.length_append] at hn
    unfold cutF; rw [if_neg (by omega), Int.toNat_natCast]
  rw [change_ok hg hm (by rw [e]), e]
  have := (zc (goodD_rises hg) hm).2
  rw [nm] at this
  simp only [this]
theorem cut_scan {l : List AFile} (h : (readD l logN).2 = 0) : (changeD l logN (cutF (scanT (readD l logN).1).2)) = (⟨l.set (place (l.map AFile.name) logN) ⟨logN, encs (scanT (readD l logN).1).1, []⟩⟩, 0) := by
  obtain ⟨a, b, c⟩ := read_zero h
  obtain ⟨d1, d2, d3⟩ := scanT_ok (readD l logN).1
  rw [cut_ok a b (by rw [← c]; exact d3), ← c, ← d2]
theorem logN_named : namedP logN = true := by decide
structure RecOk (l : List AFile) (r : List AFile) (L : List ATxn) : Prop where
  good : goodD r = true
  mem : logN ∈ r.map AFile.name
  file : r.getD (place (r.map AFile.name) logN) default = ⟨logN, encs L, []⟩
  ok : logOk L
  len : (encs L).length ≤ 1048576
  cnt : L.length ≤ 1048577
  wf : (∀ f, f ∈ l → f.wf) → ∀ f, f ∈ r → f.wf
theorem good_small {l : List AFile} (h : goodD l = true) : l.length * 48 ≤ 140737488351232 := by have := good_len h; omega
theorem recover_wf {l : List AFile} : (recoverD l).2.1.files.length * 48 ≤ 140737488351232 := by
  unfold recoverD
  split
  · split
    · exact write_wf
    · exact (by decide : ([] : List AFile).length * 48 ≤ 140737488351232)
  · split
    · rename_i h0
      rw [cut_scan h0]
      have := good_small (read_zero h0).1
      show (l.set _ _).length * 48 ≤ _
      rw [List.length_set]; exact this
    · exact (by decide : ([] : List AFile).length * 48 ≤ 140737488351232)
theorem recover_cnt (l : List AFile) : (recoverD l).1.length * 72 ≤ 140737488351232 := by
  unfold recoverD
  split
  · split <;> exact (by decide : ([] : List ATxn).length * 72 ≤ 140737488351232)
  · split
    · have a := scanT_len (readD l logN).1
      have b := read_len (l := l) logN
      simp only; omega
    · exact (by decide : ([] : List ATxn).length * 72 ≤ 140737488351232)
theorem rec_a {l : List AFile} (h : (readD l logN).2 = 7) (h2 : ¬ (writeD l logN []).2 = 0) : recoverD l = ([], default, (writeD l logN []).2) := by unfold recoverD; rw [if_pos h, if_neg h2]
theorem rec_b {l : List AFile} (h : (readD l logN).2 = 7) (h2 : (writeD l logN []).2 = 0) : recoverD l = ([], (writeD l logN []).1, 0) := by unfold recoverD; rw [if_pos h, if_pos h2]
theorem rec_c {l : List AFile} (h : ¬ (readD l logN).2 = 7) (h2 : ¬ (readD l logN).2 = 0) : recoverD l = ([], default, (readD l logN).2) := by unfold recoverD; rw [if_neg h, if_neg h2]
theorem rec_d {l : List AFile} (h : ¬ (readD l logN).2 = 7) (h2 : (readD l logN).2 = 0) : recoverD l = ((scanT (readD l logN).1).1, (changeD l logN (cutF (scanT (readD l logN).1).2)).1, 0) := by unfold recoverD; rw [if_neg h, if_pos h2]
set_option maxHeartbeats 2000000 in
theorem recover_c (d : ADisk) (h : d.files.length * 48 ≤ 140737488351232) (hw : ∀ f, f ∈ d.files → f.wf) : acall Tryz.prog [] 52 [d.av] (ret (.tup [.d (.sl 7 ((recoverD d.files).1.map ATxn.row)), (recoverD d.files).2.1.av, I (recoverD d.files).2.2])) := by
  have hr := read_c d logN h hw
  have hs := scan_c _ (read_len (l := d.files) logN)
  have hcut := cut_c d logN (scanT (readD d.files logN).1).2 h hw
  have hwr := write_c d logN [] (by unfold okS; decide) logN_ok h hw
  refine zI Tryz.func52 rfl (by kernel_rfl) (by simp [Tryz.ntmps52]) ?_; simp only [Tryz.ntmps52, Tryz.results52, go_sem]
  (repeat' first
| (with_reducible refine AR.f ?_)
| refine zb (by decide) ?_
| (with_reducible refine AWP.cond rfl ?_ ?_ <;> intro hc <;> (try simp only [hcs, beq_iff_eq, ge_iff_le, gt_iff_lt] at hc))
| ((first | ((first | (with_reducible first | refine zR ?_ | refine zQ (by decide +kernel) ?_ | refine zD (by decide +kernel) ?_ | refine zE (by decide +kernel) ?_ | refine zG (by decide +kernel) ?_)); intro K hK) | ((first | refine zA hr ?_ ?_ ?_ ?_ ?_ | refine zA hwr ?_ ?_ ?_ ?_ ?_ | refine zA hcut ?_ ?_ ?_ ?_ ?_); (focus exact rfl); (focus exact rfl); iterate 2 (focus ((try simp (disch := omega) only [go_sem, wn, logN]) <;> (try omega) <;> fail))) | ((first | refine zN hwr rfl ?_ ?_ | refine zN hs rfl ?_ ?_ | refine zN hcut rfl ?_ ?_ | refine zX hr rfl ?_ ?_ | refine zX hwr rfl ?_ ?_ | refine zY hwr ?_ ?_ | refine zY hs ?_ ?_ | refine zX hcut rfl ?_ ?_ | refine zY hcut ?_ ?_); (focus ((try simp (disch := omega) only [go_sem, wn, logN]) <;> (try omega) <;> fail))) | ((first | (with_reducible refine zu ?_ ?_ <;> intro hg) | with_reducible intro hg) <;> (first | (exfalso; simp at hg; done) | (have hg' := hg; (try simp only [hcs, beq_iff_eq, ge_iff_le, gt_iff_lt] at hg'); (try simp only [hg]))))) <;> (try simp (disch := omega) only [go_sem, wn, logN]) <;> (repeat' with_reducible refine And.intro ?_ ?_) <;> (try (with_reducible refine hK _ ?_; clear hK K)))
| omega)
  · rw [rec_a (by assumption) (by assumption)]; (refine zF rfl ?_ ?_ ?_ ?_; (iterate 3 (focus ((try simp (disch := omega) only [go_sem, wn, logN, default]) <;> (try omega) <;> fail))); (try simp (disch := omega) only [go_sem, wn, logN, default, I, B, S, zj]))
  · rw [rec_b (by assumption) (by assumption)]; (refine zF rfl ?_ ?_ ?_ ?_; (iterate 3 (focus ((try simp (disch := omega) only [go_sem, wn, logN, default]) <;> (try omega) <;> fail))); (try simp (disch := omega) only [go_sem, wn, logN, default, I, B, S, zj]))
  · rw [rec_c (by assumption) (by assumption)]; (refine zF rfl ?_ ?_ ?_ ?_; (iterate 3 (focus ((try simp (disch := omega) only [go_sem, wn, logN, default]) <;> (try omega) <;> fail))); (try simp (disch := omega) only [go_sem, wn, logN, default, I, B, S, zj]))
  · have e := cut_scan (l := d.files) (by assumption)
    exact absurd (congrArg Prod.snd e) hc
  · rw [rec_d (by assumption) (by assumption)]; (refine zF rfl ?_ ?_ ?_ ?_; (iterate 3 (focus ((try simp (disch := omega) only [go_sem, wn, logN]) <;> (try omega) <;> fail))); (try simp (disch := omega) only [go_sem, wn, logN, I, B, S, zj]))
set_option maxHeartbeats 2000000 in
theorem ref_recover_c (d : ADisk) (h : d.files.length * 48 ≤ 140737488351232) (hw : ∀ f, f ∈ d.files → f.wf) : acall Tryz.prog [] 60 [d.av] (ret (.tup [.d (.sl 7 ((recoverD d.files).1.map ATxn.row)), (recoverD d.files).2.1.av, I (recoverD d.files).2.2])) := by
  have hr := ref_read_c d logN h hw
  have hs := ref_scan_c _ (read_len (l := d.files) logN)
  have hcut := ref_cut_c d logN (scanT (readD d.files logN).1).2 h hw
  have hwr := ref_write_c d logN [] (by unfold okS; decide) logN_ok h hw
  refine zI Tryz.func60 rfl (by kernel_rfl) (by simp [Tryz.ntmps60]) ?_; simp only [Tryz.ntmps60, Tryz.results60, go_sem]
  (repeat' first
| (with_reducible refine AR.f ?_)
| refine zb (by decide) ?_
| (with_reducible refine AWP.cond rfl ?_ ?_ <;> intro hc <;> (try simp only [hcs, beq_iff_eq, ge_iff_le, gt_iff_lt] at hc))
| ((first | ((first | (with_reducible first | refine zR ?_ | refine zQ (by decide +kernel) ?_ | refine zD (by decide +kernel) ?_ | refine zE (by decide +kernel) ?_ | refine zG (by decide +kernel) ?_)); intro K hK) | ((first | refine zA hr ?_ ?_ ?_ ?_ ?_ | refine zA hwr ?_ ?_ ?_ ?_ ?_ | refine zA hcut ?_ ?_ ?_ ?_ ?_); (focus exact rfl); (focus exact rfl); iterate 2 (focus ((try simp (disch := omega) only [go_sem, wn, logN]) <;> (try omega) <;> fail))) | ((first | refine zN hwr rfl ?_ ?_ | refine zN hs rfl ?_ ?_ | refine zN hcut rfl ?_ ?_ | refine zX hr rfl ?_ ?_ | refine zX hwr rfl ?_ ?_ | refine zY hwr ?_ ?_ | refine zY hs ?_ ?_ | refine zX hcut rfl ?_ ?_ | refine zY hcut ?_ ?_); (focus ((try simp (disch := omega) only [go_sem, wn, logN]) <;> (try omega) <;> fail))) | ((first | (with_reducible refine zu ?_ ?_ <;> intro hg) | with_reducible intro hg) <;> (first | (exfalso; simp at hg; done) | (have hg' := hg; (try simp only [hcs, beq_iff_eq, ge_iff_le, gt_iff_lt] at hg'); (try simp only [hg]))))) <;> (try simp (disch := omega) only [go_sem, wn, logN]) <;> (repeat' with_reducible refine And.intro ?_ ?_) <;> (try (with_reducible refine hK _ ?_; clear hK K)))
| omega)
  · rw [rec_a (by assumption) (by assumption)]; (refine zF rfl ?_ ?_ ?_ ?_; (iterate 3 (focus ((try simp (disch := omega) only [go_sem, wn, logN, default]) <;> (try omega) <;> fail))); (try simp (disch := omega) only [go_sem, wn, logN, default, I, B, S, zj]))
  · rw [rec_b (by assumption) (by assumption)]; (refine zF rfl ?_ ?_ ?_ ?_; (iterate 3 (focus ((try simp (disch := omega) only [go_sem, wn, logN, default]) <;> (try omega) <;> fail))); (try simp (disch := omega) only [go_sem, wn, logN, default, I, B, S, zj]))
  · rw [rec_c (by assumption) (by assumption)]; (refine zF rfl ?_ ?_ ?_ ?_; (iterate 3 (focus ((try simp (disch := omega) only [go_sem, wn, logN, default]) <;> (try omega) <;> fail))); (try simp (disch := omega) only [go_sem, wn, logN, default, I, B, S, zj]))
  · rw [rec_d (by assumption) (by assumption)]
    have e := congrArg Prod.snd (cut_scan (l := d.files) (by assumption))
    have e' : (changeD d.files [108, 111, 103] (cutF (scanT (readD d.files [108, 111, 103]).1).2)).2 = 0 := e
    (refine zF rfl ?_ ?_ ?_ ?_; (iterate 3 (focus ((try simp (disch := omega) only [go_sem, wn, logN, e']) <;> (try omega) <;> fail))); (try simp (disch := omega) only [go_sem, wn, logN, e', I, B, S, zj]))
def keepD (l : List AFile) (z : Int) : ADisk × Int :=
  if (recoverD l).2.2 = 0 then (⟨(recoverD l).2.1.files.set (place ((recoverD l).2.1.files.map AFile.name) logN) ⟨logN, encs (keepL (recoverD l).1 z), []⟩⟩, 0) else (default, (recoverD l).2.2)
end Go.Proofs.YtainmipdnjcbkaaGreatDoor
namespace Go.Proofs.YtainmipdnjcbkaaGreatDoor
set_option linter.unusedVariables false
set_option linter.unusedSimpArgs false
open Go Go.RowKit
set_option maxRecDepth 100000
set_option linter.unusedSimpArgs false
theorem encs_app (a b : List ATxn) : encs (a ++ b) = encs a ++ encs b := by unfold encs; simp
end Go.Proofs.YtainmipdnjcbkaaGreatDoor
namespace Go.Proofs.YtainmipdnjcbkaaGreatDoor
set_option linter.unusedVariables false
set_option linter.unusedSimpArgs false
open Go Go.RowKit
set_option maxRecDepth 100000
set_option linter.unusedSimpArgs false
def epN : List UInt8 := [101, 112, 111, 99, 104]
def mkD (e : Option (List UInt8)) (s t : List UInt8) : List AFile :=
  match e with
  | none => [⟨logN, s, t⟩]
  | some x => [⟨epN, x, []⟩, ⟨logN, s, t⟩]
def okD (e : Option (List UInt8)) (s t : List UInt8) : Prop := (∀ x, e = some x → x.length ≤ 1048576) ∧ s.length + t.length ≤ 1048576
theorem ep_named : namedP epN = true := by decide
theorem epN_lt : epN < logN := by decide
theorem mk_good {e : Option (List UInt8)} {s t : List UInt8} (h : okD e s t) : goodD (mkD e s t) = true := by
  rw [goodD_iff]
  obtain ⟨h1, h2⟩ := h
  cases e with
  | none =>
    refine ⟨by show 1 ≤ 16; decide, fun k hk => ?_⟩
    have hk0 : k = 0 := by have : k < 1 := hk; omega
    subst hk0
    exact ⟨⟨logN_named, h2⟩, fun h => absurd h (by decide)⟩
  | some x =>
    have h3 := h1 x rfl
    refine ⟨by show 2 ≤ 16; decide, fun k hk => ?_⟩
    have hk0 : k = 0 ∨ k = 1 := by have : k < 2 := hk; omega
    rcases hk0 with rfl | rfl
    · exact ⟨⟨ep_named, by show x.length + 0 ≤ _; omega⟩, fun h => absurd h (by decide)⟩
    · exact ⟨⟨logN_named, h2⟩, fun _ => epN_lt⟩
end Go.Proofs.YtainmipdnjcbkaaGreatDoor
namespace Go.Proofs.YtainmipdnjcbkaaGreatDoor
set_option linter.unusedVariables false
set_option linter.unusedSimpArgs false
open Go Go.RowKit
set_option maxRecDepth 100000
set_option linter.unusedSimpArgs false
end Go.Proofs.YtainmipdnjcbkaaGreatDoor
namespace Go.Proofs.YtainmipdnjcbkaaGreatDoor
set_option linter.unusedVariables false
set_option linter.unusedSimpArgs false
open Go Go.RowKit
set_option maxRecDepth 100000
set_option linter.unusedSimpArgs false
def placeI (l : List Int) (key : Int) : Nat := l.findIdx fun x => !decide (x < key)
end Go.Proofs.YtainmipdnjcbkaaGreatDoor
namespace Go.Proofs.YtainmipdnjcbkaaGreatDoor
set_option linter.unusedVariables false
set_option linter.unusedSimpArgs false
open Go Go.RowKit
set_option maxRecDepth 100000
set_option linter.unusedSimpArgs false
def joinL : List (List UInt8) → List UInt8
  | [] => []
  | p :: ps => 47 :: (p ++ joinL ps)
def pathOf (ps : List (List UInt8)) : List UInt8 := if ps = [] then [47] else joinL ps
def stepsOf (s : List UInt8) : List (List UInt8) := if s = [47] then [] else splitB (s.drop 1)
def splitP (s : List UInt8) : (List UInt8 × List UInt8) × Int := if goodP s = true then (if stepsOf s = [] then (([], []), 7) else ((pathOf ((stepsOf s).take ((stepsOf s).length - 1)), (stepsOf s).getD ((stepsOf s).length - 1) []), 0)) else (([], []), 2)
end Go.Proofs.YtainmipdnjcbkaaGreatDoor
namespace Go.Proofs.YtainmipdnjcbkaaGreatDoor
set_option linter.unusedVariables false
set_option linter.unusedSimpArgs false
open Go Go.RowKit
set_option maxRecDepth 100000
set_option linter.unusedSimpArgs false
def pathsT (t : ATree) : List (List UInt8) := t.nodes.map ANode.path
def nd (t : ATree) (k : Nat) : ANode := t.nodes.getD k default
def sessOk (l : List Int) (k : Nat) : Prop := 1 ≤ l.getD k default ∧ l.getD k default ≤ 2147483647 ∧ (0 < k → l.getD (k - 1) default < l.getD k default)
instance (l : List Int) (k : Nat) : Decidable (sessOk l k) := by unfold sessOk; infer_instance
def nodeA (t : ATree) (k : Nat) : Prop := goodP (nd t k).path = true ∧ (nd t k).data.length ≤ 256 ∧ (0 < k → (nd t (k - 1)).path < (nd t k).path)
instance (t : ATree) (k : Nat) : Decidable (nodeA t k) := by unfold nodeA; infer_instance
def statB (t : ATree) (s : AStat) : Prop := 0 ≤ s.version ∧ s.version ≤ 2147483647 ∧ 0 ≤ s.cversion ∧ s.cversion ≤ 2147483647 ∧ 0 ≤ s.czxid ∧ s.czxid ≤ s.mzxid ∧ s.czxid ≤ s.pzxid ∧ s.mzxid ≤ t.zxid ∧ s.pzxid ≤ t.zxid
instance (t : ATree) (s : AStat) : Decidable (statB t s) := by unfold statB; infer_instance
def ownB (t : ATree) (s : AStat) : Prop := s.owner ≠ 0 → s.owner ∈ t.sessions ∧ s.kids = 0
instance (t : ATree) (s : AStat) : Decidable (ownB t s) := by unfold ownB; infer_instance
def dirT (t : ATree) (k : Nat) : List UInt8 := (splitP (nd t k).path).1.1
def kidsN (t : ATree) (p : List UInt8) (n : Nat) : Nat := ((List.range n).filter fun j => decide (dirT t j = p)).length
def upB (t : ATree) (k : Nat) : Prop := k = 0 ∨ dirT t k ∈ pathsT t
instance (t : ATree) (k : Nat) : Decidable (upB t k) := by unfold upB; infer_instance
def headOk (t : ATree) : Prop := 1 ≤ t.nodes.length ∧ t.nodes.length ≤ 400 ∧ (nd t 0).path = [47] ∧ (nd t 0).stat.owner = 0 ∧ goodZ t.zxid
instance (t : ATree) : Decidable (headOk t) := by unfold headOk; infer_instance
def goodTr (t : ATree) : Bool := decide (headOk t ∧ (∀ k, k < t.sessions.length → sessOk t.sessions k) ∧ (∀ k, k < t.nodes.length → nodeA t k) ∧
  ∀ k, k < t.nodes.length → statB t (nd t k).stat ∧ ownB t (nd t k).stat ∧ upB t k ∧ (nd t k).stat.kids = kidsN t (nd t k).path t.nodes.length)
def getT (t : ATree) (key : List UInt8) : ANode × Int := if key ∈ pathsT t then (nd t (place (pathsT t) key), 0) else (default, 7)
def t00 : ATree := ⟨0, [⟨[47], [], ⟨0, 0, 0, 0, 0, 0, 0⟩⟩], []⟩
theorem new_c : acall Tryz.prog [] 46 [] (ret t00.av) := by
  refine zI Tryz.func46 rfl (by kernel_rfl) (by simp [Tryz.ntmps46]) ?_; simp only [Tryz.ntmps46, Tryz.results46, go_sem]
  (repeat' first
| (with_reducible refine AR.f ?_)
| refine zb (by decide) ?_
| (with_reducible refine AWP.cond rfl ?_ ?_ <;> intro hc <;> (try simp only [hcs, beq_iff_eq, ge_iff_le, gt_iff_lt] at hc))
| ((first | ((first | (with_reducible first | refine zR ?_ | refine zQ (by decide +kernel) ?_ | refine zD (by decide +kernel) ?_ | refine zE (by decide +kernel) ?_ | refine zG (by decide +kernel) ?_)); intro K hK) | ((first | (with_reducible refine zu ?_ ?_ <;> intro hg) | with_reducible intro hg) <;> (first | (exfalso; simp at hg; done) | (have hg' := hg; (try simp only [hcs, beq_iff_eq, ge_iff_le, gt_iff_lt] at hg'); (try simp only [hg]))))) <;> (try simp (disch := omega) only [go_sem, wn]) <;> (repeat' with_reducible refine And.intro ?_ ?_) <;> (try (with_reducible refine hK _ ?_; clear hK K)))
| omega)
  (refine zF rfl ?_ ?_ ?_ ?_; (iterate 3 (focus ((try simp (disch := omega) only [go_sem, wn, t00]) <;> (try omega) <;> fail))); (try simp (disch := omega) only [go_sem, wn, t00, I, B, S, zj]))
theorem ref_new_c : acall Tryz.prog [] 61 [] (ret t00.av) := by
  refine zI Tryz.func61 rfl (by kernel_rfl) (by simp [Tryz.ntmps61]) ?_; simp only [Tryz.ntmps61, Tryz.results61, go_sem]
  (repeat' first
| (with_reducible refine AR.f ?_)
| refine zb (by decide) ?_
| (with_reducible refine AWP.cond rfl ?_ ?_ <;> intro hc <;> (try simp only [hcs, beq_iff_eq, ge_iff_le, gt_iff_lt] at hc))
| ((first | ((first | (with_reducible first | refine zR ?_ | refine zQ (by decide +kernel) ?_ | refine zD (by decide +kernel) ?_ | refine zE (by decide +kernel) ?_ | refine zG (by decide +kernel) ?_)); intro K hK) | ((first | (with_reducible refine zu ?_ ?_ <;> intro hg) | with_reducible intro hg) <;> (first | (exfalso; simp at hg; done) | (have hg' := hg; (try simp only [hcs, beq_iff_eq, ge_iff_le, gt_iff_lt] at hg'); (try simp only [hg]))))) <;> (try simp (disch := omega) only [go_sem, wn]) <;> (repeat' with_reducible refine And.intro ?_ ?_) <;> (try (with_reducible refine hK _ ?_; clear hK K)))
| omega)
  (refine zF rfl ?_ ?_ ?_ ?_; (iterate 3 (focus ((try simp (disch := omega) only [go_sem, wn, t00]) <;> (try omega) <;> fail))); (try simp (disch := omega) only [go_sem, wn, t00, I, B, S, zj]))
end Go.Proofs.YtainmipdnjcbkaaGreatDoor
namespace Go.Proofs.YtainmipdnjcbkaaGreatDoor
set_option linter.unusedVariables false
set_option linter.unusedSimpArgs false
open Go Go.RowKit
set_option maxRecDepth 100000
set_option linter.unusedSimpArgs false
structure TLoop (t : ATree) (i : Nat) (m : List (List UInt8 × Int)) : Prop where
  le : i ≤ t.nodes.length
  ok : ∀ j, j < i → nodeA t j ∧ statB t (nd t j).stat ∧ ownB t (nd t j).stat ∧ upB t j
  cnt : ∀ p, p ≠ [] → mval m p = (kidsN t p i : Nat)
end Go.Proofs.YtainmipdnjcbkaaGreatDoor
namespace Go.Proofs.YtainmipdnjcbkaaGreatDoor
set_option linter.unusedVariables false
set_option linter.unusedSimpArgs false
open Go Go.RowKit
set_option maxRecDepth 100000
set_option linter.unusedSimpArgs false
end Go.Proofs.YtainmipdnjcbkaaGreatDoor
namespace Go.Proofs.YtainmipdnjcbkaaGreatDoor
set_option linter.unusedVariables false
set_option linter.unusedSimpArgs false
open Go Go.RowKit
set_option maxRecDepth 100000
set_option linter.unusedSimpArgs false
theorem sameTree_c (a b : ATree) (ha : a.wf) (hb : b.wf) : acall Tryz.prog [] 73 [a.av, b.av] (ret (B (decide (a = b)))) := by
  obtain ⟨hz, ⟨hn, hnw⟩, ⟨hs, hsw⟩⟩ := ha
  obtain ⟨kz, ⟨kn, knw⟩, ⟨ks, ksw⟩⟩ := hb
  refine zI Tryz.func73 rfl (by kernel_rfl) (by simp [Tryz.ntmps73]) ?_; simp only [Tryz.ntmps73, Tryz.results73, go_sem]
  (repeat' first
| (with_reducible refine AR.f ?_)
| refine zb (by decide) ?_
| (with_reducible refine AWP.cond rfl ?_ ?_ <;> intro hc <;> (try simp only [hcs, beq_iff_eq, ge_iff_le, gt_iff_lt] at hc))
| ((first | ((first | (with_reducible first | refine zR ?_ | refine zQ (by decide +kernel) ?_ | refine zD (by decide +kernel) ?_ | refine zE (by decide +kernel) ?_ | refine zG (by decide +kernel) ?_)); intro K hK) | ((first | (with_reducible refine zu ?_ ?_ <;> intro hg) | with_reducible intro hg) <;> (first | (exfalso; simp at hg; done) | (have hg' := hg; (try simp only [hcs, beq_iff_eq, ge_iff_le, gt_iff_lt] at hg'); (try simp only [hg]))))) <;> (try simp (disch := omega) only [go_sem, wn]) <;> (repeat' with_reducible refine And.intro ?_ ?_) <;> (try (with_reducible refine hK _ ?_; clear hK K)))
| omega)
  · (refine zF rfl ?_ ?_ ?_ ?_; (iterate 3 (focus ((try simp (disch := omega) only [go_sem, wn]) <;> (try omega) <;> fail))); (try simp (disch := omega) only [go_sem, wn, I, B, S, zj]))
    symm; rw [decide_eq_false_iff_not]; rintro rfl
    simp at hc
  obtain ⟨⟨e1, e2⟩, e3⟩ := hc
  refine AWP.loopS (ι := Nat) (fun k => k ≤ a.nodes.length ∧ ∀ j, j < k → a.nodes.getD j default = b.nodes.getD j default) (fun k => a.nodes.length - k) [2, 3, 32] (fun k => [(33, I k)]) 0 ?_ (by simp (disch := omega) only [go_sem, wn, true_and]) ?_
  · exact ⟨by omega, fun j hj => by omega⟩
  intro k ⟨hk, hk2⟩
  simp only [go_sem]
  (repeat' first
| (with_reducible refine AR.f ?_)
| refine zb (by decide) ?_
| (with_reducible refine AWP.cond rfl ?_ ?_ <;> intro hc <;> (try simp only [hcs, beq_iff_eq, ge_iff_le, gt_iff_lt] at hc))
| ((first | ((first | (with_reducible first | refine zR ?_ | refine zQ (by decide +kernel) ?_ | refine zD (by decide +kernel) ?_ | refine zE (by decide +kernel) ?_ | refine zG (by decide +kernel) ?_)); intro K hK) | ((first | (with_reducible refine zu ?_ ?_ <;> intro hg) | with_reducible intro hg) <;> (first | (exfalso; simp at hg; done) | (have hg' := hg; (try simp only [hcs, beq_iff_eq, ge_iff_le, gt_iff_lt] at hg'); (try simp only [hg]))))) <;> (try simp (disch := omega) only [go_sem, wn]) <;> (repeat' with_reducible refine And.intro ?_ ?_) <;> (try (with_reducible refine hK _ ?_; clear hK K)))
| omega)
  · (refine zF rfl ?_ ?_ ?_ ?_; (iterate 3 (focus ((try simp (disch := omega) only [go_sem, wn]) <;> (try omega) <;> fail))); (try simp (disch := omega) only [go_sem, wn, I, B, S, zj]))
    symm; rw [decide_eq_false_iff_not]; rintro rfl
    simp at hc
  · refine ⟨k + 1, ⟨by omega, fun j hj => ?_⟩, by omega, ?_⟩
    · by_cases e : j = k
      · subst e; exact (ANode.ext_iff _ _).2 hc
      · exact hk2 j (by omega)
    (refine SImp.same ?_; simp (disch := omega) only [go_sem, wn, Int.natCast_add])
  have hnodes : a.nodes = b.nodes := eq_of_getD (by omega) fun j hj => hk2 j (by omega)
  clear hk hk2 hc
  refine AWP.loopS (ι := Nat) (fun j => j ≤ a.sessions.length ∧ ∀ i, i < j → a.sessions.getD i default = b.sessions.getD i default) (fun j => a.sessions.length - j) [2, 3, 50] (fun j => [(51, I j)]) 0 ?_ (by simp (disch := omega) only [go_sem, wn, true_and]) ?_
  · exact ⟨by omega, fun j hj => by omega⟩
  intro j ⟨hj, hj2⟩
  simp only [go_sem]
  (repeat' first
| (with_reducible refine AR.f ?_)
| refine zb (by decide) ?_
| (with_reducible refine AWP.cond rfl ?_ ?_ <;> intro hc <;> (try simp only [hcs, beq_iff_eq, ge_iff_le, gt_iff_lt] at hc))
| ((first | ((first | (with_reducible first | refine zR ?_ | refine zQ (by decide +kernel) ?_ | refine zD (by decide +kernel) ?_ | refine zE (by decide +kernel) ?_ | refine zG (by decide +kernel) ?_)); intro K hK) | ((first | (with_reducible refine zu ?_ ?_ <;> intro hg) | with_reducible intro hg) <;> (first | (exfalso; simp at hg; done) | (have hg' := hg; (try simp only [hcs, beq_iff_eq, ge_iff_le, gt_iff_lt] at hg'); (try simp only [hg]))))) <;> (try simp (disch := omega) only [go_sem, wn]) <;> (repeat' with_reducible refine And.intro ?_ ?_) <;> (try (with_reducible refine hK _ ?_; clear hK K)))
| omega)
  · (refine zF rfl ?_ ?_ ?_ ?_; (iterate 3 (focus ((try simp (disch := omega) only [go_sem, wn]) <;> (try omega) <;> fail))); (try simp (disch := omega) only [go_sem, wn, I, B, S, zj]))
    symm; rw [decide_eq_false_iff_not]; rintro rfl
    simp at hc
  · refine ⟨j + 1, ⟨by omega, fun i hi => ?_⟩, by omega, ?_⟩
    · by_cases e : i = j
      · subst e; exact hc
      · exact hj2 i (by omega)
    (refine SImp.same ?_; simp (disch := omega) only [go_sem, wn, Int.natCast_add])
  · (refine zF rfl ?_ ?_ ?_ ?_; (iterate 3 (focus ((try simp (disch := omega) only [go_sem, wn]) <;> (try omega) <;> fail))); (try simp (disch := omega) only [go_sem, wn, I, B, S, zj]))
    symm; rw [decide_eq_true_eq, ATree.ext_iff]
    exact ⟨e1, hnodes, eq_of_getD (by omega) fun i hi => hj2 i (by omega)⟩
theorem t00_wf : t00.wf := by
  refine ⟨by unfold okI t00; decide, ⟨by decide, fun y hy => ?_⟩, ⟨by decide, fun y hy => by cases hy⟩⟩
  rw [List.mem_singleton.1 hy]
  unfold ANode.wf AStat.wf okS okI; decide
end Go.Proofs.YtainmipdnjcbkaaGreatDoor
namespace Go.Proofs.YtainmipdnjcbkaaGreatDoor
set_option linter.unusedVariables false
set_option linter.unusedSimpArgs false
open Go Go.RowKit
set_option maxRecDepth 100000
set_option linter.unusedSimpArgs false
theorem boots_c : acall Tryz.prog [] 24 [] (ret (B true)) := by
  have hr := recover_c ⟨[]⟩ (by decide) (fun f hf => by cases hf)
  have hd := read_c ⟨[]⟩ [101, 112, 111, 99, 104] (by decide) (fun f hf => by cases hf)
  have e1 : recoverD [] = ([], ⟨[⟨[108, 111, 103], [], []⟩]⟩, 0) := by decide +kernel
  have e2 : readD [] [101, 112, 111, 99, 104] = ([], 7) := by decide +kernel
  simp only [e1] at hr
  simp only [e2] at hd
  refine zI Tryz.func24 rfl (by kernel_rfl) (by simp [Tryz.ntmps24]) ?_; simp only [Tryz.ntmps24, Tryz.results24, go_sem]
  (repeat' first
| (with_reducible refine AR.f ?_)
| refine zb (by decide) ?_
| (with_reducible refine AWP.cond rfl ?_ ?_ <;> intro hc <;> (try simp only [hcs, beq_iff_eq, ge_iff_le, gt_iff_lt] at hc))
| (refine zh fun Kk hKk => (zi tabOk Tryz.func15 rfl (by kernel_rfl) (by simp [Tryz.ntmps15]) ?_); simp only [Tryz.ntmps15, Tryz.results15, List.toList_toArray, apar, List.length_nil, List.length_cons, Nat.reduceAdd, List.length_append, List.length_set, go_sem])
| (refine zh fun Kk hKk => (zi tabOk Tryz.func22 rfl (by kernel_rfl) (by simp [Tryz.ntmps22]) ?_); simp only [Tryz.ntmps22, Tryz.results22, List.toList_toArray, apar, List.length_nil, List.length_cons, Nat.reduceAdd, List.length_append, List.length_set, go_sem])
| ((first | ((first | refine zP ((Plan.takes [1, 2, 3, 4] (.fork 0 (Plan.takes [5, 6, 7, 8] .done) 5 (Plan.takes [0, 6, 7, 8] .done)))) (by decide +kernel) ?_ | (with_reducible first | refine zR ?_ | refine zQ (by decide +kernel) ?_ | refine zD (by decide +kernel) ?_ | refine zE (by decide +kernel) ?_ | refine zG (by decide +kernel) ?_)); intro K hK) | ((first | refine zA hd ?_ ?_ ?_ ?_ ?_ | refine zA new_c ?_ ?_ ?_ ?_ ?_); (focus exact rfl); (focus exact rfl); iterate 2 (focus ((try simp (disch := omega) only [go_sem, wn]) <;> (try omega) <;> fail))) | ((first | refine zN hr rfl ?_ ?_ | refine zN new_c rfl ?_ ?_ | refine zY hr ?_ ?_ | refine zX hd rfl ?_ ?_ | refine zX new_c rfl ?_ ?_ | refine zY new_c ?_ ?_); (focus ((try simp (disch := omega) only [go_sem, wn]) <;> (try omega) <;> fail))) | (refine zw (v := ?_) hKk (by first | exact .inl rfl | exact .inr rfl) ?_ ?_ ?_; rotate_left; (focus ((try simp (disch := omega) only [go_sem, wn]) <;> (try omega) <;> fail)); (focus ((try simp (disch := omega) only [go_sem, wn]) <;> (first | done | exact rfl))); clear hKk Kk) | ((first | (with_reducible refine zu ?_ ?_ <;> intro hg) | with_reducible intro hg) <;> (first | (exfalso; simp at hg; done) | (have hg' := hg; (try simp only [hcs, beq_iff_eq, ge_iff_le, gt_iff_lt] at hg'); (try simp only [hg]))))) <;> (try simp (disch := omega) only [go_sem, wn]) <;> (repeat' with_reducible refine And.intro ?_ ?_) <;> (try (with_reducible refine hK _ ?_; clear hK K)))
| omega)
  all_goals (refine zF rfl ?_ ?_ ?_ ?_; (iterate 3 (focus ((try simp (disch := omega) only [go_sem, wn]) <;> (try omega) <;> fail))); (try simp (disch := omega) only [go_sem, wn, I, B, S, zj]))
end Go.Proofs.YtainmipdnjcbkaaGreatDoor
namespace Go.Proofs.YtainmipdnjcbkaaGreatDoor
set_option linter.unusedVariables false
set_option linter.unusedSimpArgs false
open Go Go.RowKit
set_option maxRecDepth 100000
theorem same_watches_c (a b : List AWatch) (h : a.length * 32 ≤ 140737488351232) (h2 : b.length * 32 ≤ 140737488351232) : acall Tryz.prog [] 74 [.d (.sl 3 (a.map AWatch.row)), .d (.sl 3 (b.map AWatch.row))] (ret (B (decide (a = b)))) := by
  refine zI Tryz.func74 rfl (by kernel_rfl) (by simp [Tryz.ntmps74]) ?_; simp only [Tryz.ntmps74, Tryz.results74, go_sem]
  (repeat' first
| (with_reducible refine AR.f ?_)
| refine zb (by decide) ?_
| (with_reducible refine AWP.cond rfl ?_ ?_ <;> intro hc <;> (try simp only [hcs, beq_iff_eq, ge_iff_le, gt_iff_lt] at hc))
| ((first | ((first | (with_reducible first | refine zR ?_ | refine zQ (by decide +kernel) ?_ | refine zD (by decide +kernel) ?_ | refine zE (by decide +kernel) ?_ | refine zG (by decide +kernel) ?_)); intro K hK) | ((first | (with_reducible refine zu ?_ ?_ <;> intro hg) | with_reducible intro hg) <;> (first | (exfalso; simp at hg; done) | (have hg' := hg; (try simp only [hcs, beq_iff_eq, ge_iff_le, gt_iff_lt] at hg'); (try simp only [hg]))))) <;> (try simp (disch := omega) only [go_sem, wn]) <;> (repeat' with_reducible refine And.intro ?_ ?_) <;> (try (with_reducible refine hK _ ?_; clear hK K)))
| omega)
  · (refine zF rfl ?_ ?_ ?_ ?_; (iterate 3 (focus ((try simp (disch := omega) only [go_sem, wn]) <;> (try omega) <;> fail))); (try simp (disch := omega) only [go_sem, wn, I, B, S, zj]))
    symm; rw [decide_eq_false_iff_not]; intro e; subst e; simp at hc
  have h3 := hc
  refine AWP.loopS (ι := Nat) (fun k => k ≤ a.length ∧ ∀ j, j < k → a.getD j default = b.getD j default) (fun k => a.length - k) [0, 1, 12] (fun k => [(13, I k)]) 0 ?_ (by simp (disch := omega) only [go_sem, wn, true_and]) ?_
  · exact ⟨by omega, by omega⟩
  intro k ⟨hk, hk2⟩
  simp only [go_sem]
  (repeat' first
| (with_reducible refine AR.f ?_)
| refine zb (by decide) ?_
| (with_reducible refine AWP.cond rfl ?_ ?_ <;> intro hc <;> (try simp only [hcs, beq_iff_eq, ge_iff_le, gt_iff_lt] at hc))
| ((first | ((first | (with_reducible first | refine zR ?_ | refine zQ (by decide +kernel) ?_ | refine zD (by decide +kernel) ?_ | refine zE (by decide +kernel) ?_ | refine zG (by decide +kernel) ?_)); intro K hK) | ((first | (with_reducible refine zu ?_ ?_ <;> intro hg) | with_reducible intro hg) <;> (first | (exfalso; simp at hg; done) | (have hg' := hg; (try simp only [hcs, beq_iff_eq, ge_iff_le, gt_iff_lt] at hg'); (try simp only [hg]))))) <;> (try simp (disch := omega) only [go_sem, wn, AWatch.rgetD]) <;> (repeat' with_reducible refine And.intro ?_ ?_) <;> (try (with_reducible refine hK _ ?_; clear hK K)))
| omega)
  · (refine zF rfl ?_ ?_ ?_ ?_; (iterate 3 (focus ((try simp (disch := omega) only [go_sem, wn]) <;> (try omega) <;> fail))); (try simp (disch := omega) only [go_sem, wn, I, B, S, zj]))
    symm; rw [decide_eq_false_iff_not]; intro e; subst e; simp at hc
  · refine ⟨k + 1, ⟨by omega, fun j hj => ?_⟩, by omega, ?_⟩
    · by_cases e : j = k
      · subst e; exact hc
      · exact hk2 j (by omega)
    (refine SImp.same ?_; simp (disch := omega) only [go_sem, wn, Int.natCast_add])
  · (refine zF rfl ?_ ?_ ?_ ?_; (iterate 3 (focus ((try simp (disch := omega) only [go_sem, wn]) <;> (try omega) <;> fail))); (try simp (disch := omega) only [go_sem, wn, I, B, S, zj]))
    symm; rw [decide_eq_true_eq]
    exact eq_of_getD (by omega) fun j hj => hk2 j (by omega)
end Go.Proofs.YtainmipdnjcbkaaGreatDoor
namespace Go.Proofs.YtainmipdnjcbkaaGreatDoor
set_option linter.unusedVariables false
set_option linter.unusedSimpArgs false
open Go Go.RowKit
set_option maxRecDepth 100000
set_option linter.unusedSimpArgs false
def lenS (s : AServer) : Prop := s.disk.files.length * 48 ≤ 140737488351232 ∧ s.peer.log.length * 72 ≤ 140737488351232 ∧ s.tree.wf ∧ s.watches.length * 32 ≤ 140737488351232
theorem samePeer_c (a b : APeer) (h1 : a.log.length * 72 ≤ 140737488351232) (h2 : b.log.length * 72 ≤ 140737488351232) : acall Tryz.prog [] 72 [a.av, b.av] (ret (B (decide (a = b)))) := by
  have hs := sameLog_c a.log b.log h1 h2
  refine zI Tryz.func72 rfl (by kernel_rfl) (by simp [Tryz.ntmps72]) ?_; simp only [Tryz.ntmps72, Tryz.results72, go_sem]
  (repeat' first
| (with_reducible refine AR.f ?_)
| refine zb (by decide) ?_
| (with_reducible refine AWP.cond rfl ?_ ?_ <;> intro hc <;> (try simp only [hcs, beq_iff_eq, ge_iff_le, gt_iff_lt] at hc))
| ((first | ((first | (with_reducible first | refine zR ?_ | refine zQ (by decide +kernel) ?_ | refine zD (by decide +kernel) ?_ | refine zE (by decide +kernel) ?_ | refine zG (by decide +kernel) ?_)); intro K hK) | ((first | refine zA hs ?_ ?_ ?_ ?_ ?_); (focus exact rfl); (focus exact rfl); iterate 2 (focus ((try simp (disch := omega) only [go_sem, wn]) <;> (try omega) <;> fail))) | ((first | refine zX hs rfl ?_ ?_); (focus ((try simp (disch := omega) only [go_sem, wn]) <;> (try omega) <;> fail))) | ((first | (with_reducible refine zu ?_ ?_ <;> intro hg) | with_reducible intro hg) <;> (first | (exfalso; simp at hg; done) | (have hg' := hg; (try simp only [hcs, beq_iff_eq, ge_iff_le, gt_iff_lt] at hg'); (try simp only [hg]))))) <;> (try simp (disch := omega) only [go_sem, wn]) <;> (repeat' with_reducible refine And.intro ?_ ?_) <;> (try (with_reducible refine hK _ ?_; clear hK K)))
| omega)
  all_goals (refine zF rfl ?_ ?_ ?_ ?_; (iterate 3 (focus ((try simp (disch := omega) only [go_sem, wn, APeer.ext_iff]) <;> (try omega) <;> fail))); (try simp (disch := omega) only [go_sem, wn, APeer.ext_iff, I, B, S, zj]))
  all_goals (try simp_all)
theorem sameServer_c (a : AServer) (h : lenS a) : acall Tryz.prog [] 20 [a.av, a.av] (ret (B true)) := by
  have hd := (same_disk_c a.disk a.disk h.1 h.1).re (congrArg B (decide_eq_true rfl))
  have hp := (samePeer_c a.peer a.peer h.2.1 h.2.1).re (congrArg B (decide_eq_true rfl))
  have ht := (sameTree_c a.tree a.tree h.2.2.1 h.2.2.1).re (congrArg B (decide_eq_true rfl))
  have hw := (same_watches_c a.watches a.watches h.2.2.2 h.2.2.2).re (congrArg B (decide_eq_true rfl))
  refine zI Tryz.func20 rfl (by kernel_rfl) (by simp [Tryz.ntmps20]) ?_; simp only [Tryz.ntmps20, Tryz.results20, go_sem]
  (repeat' first
| (with_reducible refine AR.f ?_)
| refine zb (by decide) ?_
| (with_reducible refine AWP.cond rfl ?_ ?_ <;> intro hc <;> (try simp only [hcs, beq_iff_eq, ge_iff_le, gt_iff_lt] at hc))
| ((first | ((first | (with_reducible first | refine zR ?_ | refine zQ (by decide +kernel) ?_ | refine zD (by decide +kernel) ?_ | refine zE (by decide +kernel) ?_ | refine zG (by decide +kernel) ?_)); intro K hK) | ((first | refine zA hd ?_ ?_ ?_ ?_ ?_ | refine zA hp ?_ ?_ ?_ ?_ ?_ | refine zA ht ?_ ?_ ?_ ?_ ?_ | refine zA hw ?_ ?_ ?_ ?_ ?_); (focus exact rfl); (focus exact rfl); iterate 2 (focus ((try simp (disch := omega) only [go_sem, wn]) <;> (try omega) <;> fail))) | ((first | refine zX hd rfl ?_ ?_ | refine zX hp rfl ?_ ?_ | refine zX ht rfl ?_ ?_ | refine zX hw rfl ?_ ?_); (focus ((try simp (disch := omega) only [go_sem, wn]) <;> (try omega) <;> fail))) | ((first | (with_reducible refine zu ?_ ?_ <;> intro hg) | with_reducible intro hg) <;> (first | (exfalso; simp at hg; done) | (have hg' := hg; (try simp only [hcs, beq_iff_eq, ge_iff_le, gt_iff_lt] at hg'); (try simp only [hg]))))) <;> (try simp (disch := omega) only [go_sem, wn]) <;> (repeat' with_reducible refine And.intro ?_ ?_) <;> (try (with_reducible refine hK _ ?_; clear hK K)))
| omega)
  all_goals (refine zF rfl ?_ ?_ ?_ ?_; (iterate 3 (focus ((try simp (disch := omega) only [go_sem, wn]) <;> (try omega) <;> fail))); (try simp (disch := omega) only [go_sem, wn, I, B, S, zj]))
theorem default_lenS : lenS default := ⟨by decide, by decide, ⟨by unfold okI; decide, ⟨by decide, fun _ h => by cases h⟩, by decide, fun _ h => by cases h⟩, by decide⟩
end Go.Proofs.YtainmipdnjcbkaaGreatDoor
namespace Go.Proofs.YtainmipdnjcbkaaGreatDoor
set_option linter.unusedVariables false
set_option linter.unusedSimpArgs false
open Go Go.RowKit
set_option maxRecDepth 100000
set_option linter.unusedSimpArgs false
def lacksT (t : ATree) (x : ATxn) (there : Int) : Int :=
  if there = 0 then 8 else if ¬ (getT t (splitP x.path).1.1).2 = 0 then (getT t (splitP x.path).1.1).2 else if ¬ (getT t (splitP x.path).1.1).1.stat.owner = 0 then 11
  else if ¬ x.owner = 0 ∧ ¬ x.owner = x.session then 12 else if 400 ≤ t.nodes.length then 6 else 0
def wrongT (t : ATree) (x : ATxn) : Int :=
  if goodTr t = false then 3 else if ¬ goodT x = 0 then goodT x else if x.zxid ≤ t.zxid then 13
  else if x.op = 1 then (if x.session ∈ t.sessions then 8 else 0)
  else if ¬ x.session ∈ t.sessions then 12
  else if x.op = 3 then lacksT t x (getT t x.path).2
  else if x.op = 4 then (if (getT t x.path).2 = 0 ∧ 0 < (getT t x.path).1.stat.kids then 10 else (getT t x.path).2)
  else if x.op = 5 then (if (getT t x.path).2 = 0 ∧ ¬ x.version = (getT t x.path).1.stat.version + 1 then 9 else (getT t x.path).2)
  else 0
def bigN (n : ANode) : Bool := decide (2147483647 < n.stat.cversion)
end Go.Proofs.YtainmipdnjcbkaaGreatDoor
namespace Go.Proofs.YtainmipdnjcbkaaGreatDoor
set_option linter.unusedVariables false
set_option linter.unusedSimpArgs false
open Go Go.RowKit
set_option maxRecDepth 100000
set_option linter.unusedSimpArgs false
def pathsN (ns : List ANode) : List (List UInt8) := ns.map ANode.path
def dirP (p : List UInt8) : List UInt8 := (splitP p).1.1
def kidF (more z : Int) (n : ANode) : ANode := ⟨n.path, n.data, ⟨n.stat.czxid, n.stat.mzxid, z, n.stat.version, IntKind.i64.wrap (n.stat.cversion + 1), n.stat.owner, IntKind.i64.wrap (n.stat.kids + more)⟩⟩
def kidN (ns : List ANode) (p : List UInt8) (more z : Int) : List ANode := if dirP p ∈ pathsN ns then ns.set (place (pathsN ns) (dirP p)) (kidF more z (ns.getD (place (pathsN ns) (dirP p)) default)) else ns
def delN (ns : List ANode) (p : List UInt8) (z : Int) : List ANode := kidN (ns.eraseIdx (place (pathsN ns) p)) p (-1) z
def mkN (x : ATxn) : ANode := ⟨x.path, x.data, ⟨x.zxid, x.zxid, x.zxid, 0, 0, x.owner, 0⟩⟩
def addN (ns : List ANode) (x : ATxn) : List ANode := kidN (ns.insertIdx (place (pathsN ns) x.path) (mkN x)) x.path 1 x.zxid
def setF (x : ATxn) (n : ANode) : ANode := ⟨n.path, x.data, ⟨n.stat.czxid, x.zxid, n.stat.pzxid, x.version, n.stat.cversion, n.stat.owner, n.stat.kids⟩⟩
def setN (ns : List ANode) (x : ATxn) : List ANode := ns.set (place (pathsN ns) x.path) (setF x (ns.getD (place (pathsN ns) x.path) default))
def goneE (p : List UInt8) : List AEvent := [⟨2, p⟩, ⟨4, dirP p⟩]
def closeN (t : ATree) (s z : Int) : Nat → List ANode × List AEvent
  | 0 => (t.nodes, [])
  | k + 1 => if (t.nodes.getD k default).stat.owner = s then (delN (closeN t s z k).1 (t.nodes.getD k default).path z, (closeN t s z k).2 ++ goneE (t.nodes.getD k default).path) else closeN t s z k
def doneT (t : ATree) (x : ATxn) : ATree × List AEvent :=
  if x.op = 1 then (⟨x.zxid, t.nodes, t.sessions.insertIdx (placeI t.sessions x.session) x.session⟩, [])
  else if x.op = 2 then (⟨x.zxid, (closeN t x.session x.zxid t.nodes.length).1, t.sessions.eraseIdx (placeI t.sessions x.session)⟩, (closeN t x.session x.zxid t.nodes.length).2)
  else if x.op = 3 then (⟨x.zxid, addN t.nodes x, t.sessions⟩, [⟨1, x.path⟩, ⟨4, dirP x.path⟩])
  else if x.op = 4 then (⟨x.zxid, delN t.nodes x.path x.zxid, t.sessions⟩, goneE x.path)
  else (⟨x.zxid, setN t.nodes x, t.sessions⟩, [⟨3, x.path⟩])
def applyT (t : ATree) (x : ATxn) : ATree × List AEvent × Int :=
  if ¬ wrongT t x = 0 then (default, [], wrongT t x) else if (doneT t x).1.nodes.any bigN = true then (default, [], 6) else ((doneT t x).1, (doneT t x).2, 0)
end Go.Proofs.YtainmipdnjcbkaaGreatDoor
namespace Go.Proofs.YtainmipdnjcbkaaGreatDoor
set_option linter.unusedVariables false
set_option linter.unusedSimpArgs false
open Go Go.RowKit
set_option maxRecDepth 100000
set_option linter.unusedSimpArgs false
structure CloseOk (t : ATree) (s : Int) (k : Nat) (ns : List ANode) (es : List AEvent) : Prop where
  rises : Rises (pathsN ns)
  rest : ∀ j, k ≤ j → j < t.nodes.length → (nd t j).path ∈ pathsN ns
  dirs : ∀ j, j < t.nodes.length → (nd t j).stat.owner = s → dirP (nd t j).path ∈ pathsN ns
  len : ns.length ≤ t.nodes.length
  elen : es.length ≤ 2 * k
end Go.Proofs.YtainmipdnjcbkaaGreatDoor
namespace Go.Proofs.YtainmipdnjcbkaaGreatDoor
set_option linter.unusedVariables false
set_option linter.unusedSimpArgs false
open Go Go.RowKit
set_option maxRecDepth 100000
set_option linter.unusedSimpArgs false
end Go.Proofs.YtainmipdnjcbkaaGreatDoor
namespace Go.Proofs.YtainmipdnjcbkaaGreatDoor
set_option linter.unusedVariables false
set_option linter.unusedSimpArgs false
open Go Go.RowKit
set_option maxRecDepth 100000
set_option linter.unusedSimpArgs false
end Go.Proofs.YtainmipdnjcbkaaGreatDoor
namespace Go.Proofs.YtainmipdnjcbkaaGreatDoor
set_option linter.unusedVariables false
set_option linter.unusedSimpArgs false
open Go Go.RowKit
set_option maxRecDepth 100000
set_option linter.unusedSimpArgs false
end Go.Proofs.YtainmipdnjcbkaaGreatDoor
namespace Go.Proofs.YtainmipdnjcbkaaGreatDoor
set_option linter.unusedVariables false
set_option linter.unusedSimpArgs false
open Go Go.RowKit
set_option maxRecDepth 100000
set_option linter.unusedSimpArgs false
end Go.Proofs.YtainmipdnjcbkaaGreatDoor
namespace Go.Proofs.YtainmipdnjcbkaaGreatDoor
set_option linter.unusedVariables false
set_option linter.unusedSimpArgs false
open Go Go.RowKit
set_option maxRecDepth 100000
set_option linter.unusedSimpArgs false
end Go.Proofs.YtainmipdnjcbkaaGreatDoor
namespace Go.Proofs.YtainmipdnjcbkaaGreatDoor
set_option linter.unusedVariables false
set_option linter.unusedSimpArgs false
open Go Go.RowKit
set_option maxRecDepth 100000
set_option linter.unusedSimpArgs false
end Go.Proofs.YtainmipdnjcbkaaGreatDoor
namespace Go.Proofs.YtainmipdnjcbkaaGreatDoor
set_option linter.unusedVariables false
set_option linter.unusedSimpArgs false
open Go Go.RowKit
set_option maxRecDepth 100000
set_option linter.unusedSimpArgs false
end Go.Proofs.YtainmipdnjcbkaaGreatDoor
namespace Go.Proofs.YtainmipdnjcbkaaGreatDoor
set_option linter.unusedVariables false
set_option linter.unusedSimpArgs false
open Go Go.RowKit
set_option maxRecDepth 100000
set_option linter.unusedSimpArgs false
end Go.Proofs.YtainmipdnjcbkaaGreatDoor
namespace Go.Proofs.YtainmipdnjcbkaaGreatDoor
set_option linter.unusedVariables false
set_option linter.unusedSimpArgs false
open Go
theorem SImp.tail (k n : Nat) {np nt : Nat} {env : List (Nat × AV)} {hp : List ABlk} {sz : Nat} {rs : List (List DV)} (hk : hp[k]? = some (.rows sz rs)) :
    SImp { np := np, nt := nt, env := env, hp := hp } { np := np, nt := nt, env := env, hp := hp.set k (.rows sz (rs.take n)) } := by
  intro E ρ a w h
  have hl := h.heap.len
  simp only at hl
  have hkl : k < hp.length := (List.getElem?_eq_some_iff.1 hk).1
  obtain ⟨p, hkp⟩ : ∃ p, ρ[k]? = some p := ⟨ρ[k]'(by omega), List.getElem?_eq_getElem (by omega)⟩
  cases p with
  | none =>
    rcases h.heap.nil k _ hk hkp with e | ⟨sz', e⟩
    · cases e
    · injection e with e1 e2
      subst e2
      have e3 : hp.set k (.rows sz (List.take n [])) = hp := by
        apply List.ext_getElem?
        intro j
        rw [List.getElem?_set]
        split
        · rename_i e; subst e; rw [hk]; first | rfl | simp | (rw [if_pos hkl]; simp)
        · rfl
      rw [e3]
      exact ⟨ρ, h⟩
  | some bm =>
    obtain ⟨b, m⟩ := bm
    have hst := HStep.redo (x' := .rows sz (rs.take n)) h.heap hk (by simp) (by simp) hkp (by simp) fun us ty fz hw hm ⟨h1, h2, h3, h4⟩ => by
      refine ⟨h1, fun r hr => h2 r (List.mem_of_mem_take hr), Nat.le_trans (Nat.mul_le_mul_right _ (by rw [List.length_take]; omega)) h3, fun i r hi j c u hj hu => ?_⟩
      rw [List.getElem?_take] at hi
      split at hi
      · exact h4 i r hi j c u hj hu
      · cases hi
    exact ⟨_, h.step hst⟩
end Go.Proofs.YtainmipdnjcbkaaGreatDoor
namespace Go.Proofs.YtainmipdnjcbkaaGreatDoor
set_option linter.unusedVariables false
set_option linter.unusedSimpArgs false
open Go Go.RowKit
set_option maxRecDepth 100000
set_option linter.unusedSimpArgs false
end Go.Proofs.YtainmipdnjcbkaaGreatDoor
namespace Go.Proofs.YtainmipdnjcbkaaGreatDoor
set_option linter.unusedVariables false
set_option linter.unusedSimpArgs false
open Go Go.RowKit
set_option maxRecDepth 100000
set_option linter.unusedSimpArgs false
structure CSt where
  t : ATree
  w : List AWatch
  n : List ANote
end Go.Proofs.YtainmipdnjcbkaaGreatDoor
namespace Go.Proofs.YtainmipdnjcbkaaGreatDoor
set_option linter.unusedVariables false
set_option linter.unusedSimpArgs false
open Go Go.RowKit
set_option maxRecDepth 100000
set_option linter.unusedSimpArgs false
def playT (t : ATree) : List ATxn → Option ATree
  | [] => some t
  | x :: r => if (applyT t x).2.2 = 0 then playT (applyT t x).1 r else none
structure UpOk (s : AServer) (e : Option (List UInt8)) (a : Nat) : Prop where
  up : s.up = true
  disk : s.disk.files = mkD e (encs (s.peer.log.take a)) (encs (s.peer.log.drop a))
  le : a ≤ s.peer.log.length
  log : logOk s.peer.log
  small : (encs s.peer.log).length ≤ 1048576
  elen : ∀ x, e = some x → x.length ≤ 1048576
  d0 : 0 ≤ s.peer.done
  dl : s.peer.done ≤ s.peer.log.length
  tree : playT t00 (s.peer.log.take s.peer.done.toNat) = some s.tree
  play : ∃ v, playT t00 s.peer.log = some v
theorem split_encs (l : List ATxn) (a : Nat) : encs (l.take a) ++ encs (l.drop a) = encs l := by rw [← encs_app, List.take_append_drop]
theorem UpOk.okD {s : AServer} {e : Option (List UInt8)} {a : Nat} (h : UpOk s e a) : okD e (encs (s.peer.log.take a)) (encs (s.peer.log.drop a)) :=
  ⟨h.elen, by rw [← List.length_append, split_encs]; exact h.small⟩
theorem UpOk.good {s : AServer} {e : Option (List UInt8)} {a : Nat} (h : UpOk s e a) : goodD s.disk.files = true := by rw [h.disk]; exact mk_good h.okD
structure DownOk (s : AServer) (e : Option (List UInt8)) (l : List ATxn) : Prop where
  up : s.up = false
  disk : ∃ c, s.disk.files = mkD e c [] ∧ c.length ≤ 1048576 ∧ (scanT c).1 = l
  elen : ∀ x, e = some x → x.length ≤ 1048576
  log : s.peer.log = []
  done : s.peer.done = 0
  ep : s.peer.epoch = 0
  tree : s.tree = t00
  watches : s.watches = []
  play : ∃ v, playT t00 l = some v
theorem DownOk.logOk {s : AServer} {e : Option (List UInt8)} {l : List ATxn} (h : DownOk s e l) : logOk l := by
  obtain ⟨c, _, _, h3⟩ := h.disk
  rw [← h3]; exact (scanT_ok c).1
theorem DownOk.good {s : AServer} {e : Option (List UInt8)} {l : List ATxn} (h : DownOk s e l) : goodD s.disk.files = true := by
  obtain ⟨c, h1, h2, _⟩ := h.disk
  rw [h1]; exact mk_good ⟨h.elen, by simpa using h2⟩
end Go.Proofs.YtainmipdnjcbkaaGreatDoor
