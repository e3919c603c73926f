/- Contracts of disk.Write and its reference. No condition. -/
import Derived.Test.YtmpfhalheaeibaaDoorDk
namespace Go.Proofs.YtmpfhalheaeibaaDoor
set_option linter.unusedVariables false
set_option linter.unusedSimpArgs false
open Go Go.RowKit
set_option maxRecDepth 100000
set_option linter.unusedSimpArgs false

def writeD (l : List AFile) (key s : List UInt8) : ADisk × Int :=
  if goodD l = false then (default, 3) else if namedP key = false then (default, 2) else
    if key ∈ l.map AFile.name then
      (if 1048576 < (l.getD (place (l.map AFile.name) key) default).safe.length + (l.getD (place (l.map AFile.name) key) default).tail.length + s.length then (default, 1)
        else (⟨l.set (place (l.map AFile.name) key) ⟨(l.getD (place (l.map AFile.name) key) default).name, (l.getD (place (l.map AFile.name) key) default).safe, (l.getD (place (l.map AFile.name) key) default).tail ++ s⟩⟩, 0))
    else if 16 ≤ l.length then (default, 6) else if 1048576 < s.length then (default, 1) else (⟨l.insertIdx (place (l.map AFile.name) key) ⟨key, [], s⟩⟩, 0)
theorem good_len {l : List AFile} (h : goodD l = true) : l.length ≤ 16 := by unfold goodD at h; rw [decide_eq_true_eq] at h; exact h.1
theorem place_le' {l : List AFile} {key : List UInt8} : place (l.map AFile.name) key ≤ l.length := by have := place_le (l.map AFile.name) key; simpa using this

theorem write_c (d : ADisk) (key s : List UInt8) (hs : okS s) (hk : okS key) (h : d.files.length * 48 ≤ 140737488351232) (hw : ∀ f, f ∈ d.files → f.wf) : acall Tryd.prog [] 64 [d.av, S key, S s] (ret (.tup [(writeD d.files key s).1.av, I (writeD d.files key s).2])) := by
  obtain ⟨w0, w1, w2, w3⟩ := file_wf hw (place (d.files.map AFile.name) key)
  unfold okS at hs
  by_cases hg : goodD d.files = true
  · have hl16 := good_len hg
    by_cases hn : namedP key = true
    · have hpl' := place_le' (l := d.files) (key := key)
      by_cases hm : key ∈ d.files.map AFile.name
      · have hpl := place_lt hg hm
        have e : writeD d.files key s = (if 1048576 < (d.files.getD (place (d.files.map AFile.name) key) default).safe.length + (d.files.getD (place (d.files.map AFile.name) key) default).tail.length + s.length then (default, 1)
          else (⟨d.files.set (place (d.files.map AFile.name) key) ⟨(d.files.getD (place (d.files.map AFile.name) key) default).name, (d.files.getD (place (d.files.map AFile.name) key) default).safe, (d.files.getD (place (d.files.map AFile.name) key) default).tail ++ s⟩⟩, 0)) := by
          unfold writeD; rw [if_neg (by simp [hg]), if_neg (by simp [hn]), if_pos hm]
        rw [e]
        refine acall_of tabOk Tryd.func64 rfl (by kernel_rfl) (by simp [Tryd.ntmps64]) ?_; simp only [Tryd.ntmps64, Tryd.results64, List.toList_toArray, apar, List.length_nil, List.length_cons, Nat.reduceAdd]
        repeat' first
          | (with_reducible first | refine AWP.seq ?_ | refine thenA_n ?_ | refine thenA_r ?_ | refine thenA_e ?_ | refine blkA_n ?_ | refine blkA_r ?_ | refine blkA_e ?_ | refine blkA_x (by decide) ?_ | refine AWP.skip ?_ | refine AWP.ret ?_ | refine AWP.exit ?_ | refine AWP.block ?_)
          | (with_reducible refine AWP.cond rfl ?_ ?_ <;> intro hc <;> (try simp only [hcs, beq_iff_eq, ge_iff_le, gt_iff_lt] at hc))
          | ((first
            | (with_reducible first | refine AWP.region tabOk ?_ | refine AWP.quietC mixed tabOk (by decide +kernel) ?_ | refine AWP.draw mixed tabOk (by decide +kernel) ?_ | refine AWP.drawE mixed tabOk (by decide +kernel) ?_ | refine AWP.drawG mixed tabOk (by decide +kernel) ?_); intro K hK
            | ((first | refine acallH_sc ((good_d_c d h hw).re (by rw [hg])) rfl rfl ?_ ?_ ?_ | refine acallQ_sc ((good_d_c d h hw).re (by rw [hg])) rfl rfl ?_ ?_ ?_ | refine acallH_sc ((named_c key hk).re (by rw [hn])) rfl rfl ?_ ?_ ?_ | refine acallQ_sc ((named_c key hk).re (by rw [hn])) rfl rfl ?_ ?_ ?_ | refine acallH_sc ((find_c d key h hg).re (by rw [decide_eq_true hm])) rfl rfl ?_ ?_ ?_ | refine acallQ_sc ((find_c d key h hg).re (by rw [decide_eq_true hm])) rfl rfl ?_ ?_ ?_ | refine acallH_sc (copied_d_c d h) rfl rfl ?_ ?_ ?_ | refine acallQ_sc (copied_d_c d h) rfl rfl ?_ ?_ ?_); iterate 2 (focus ((try simp (disch := omega) only [go_sem, wrap_n, AFile.rgetD, getD_set, AFile.rset, getD_mapset, List.set_set]) <;> (try omega) <;> fail)))
            | ((first | refine acallH_anyr ((good_d_c d h hw).re (by rw [hg])) rfl ?_ ?_ | refine acallH_anyr ((named_c key hk).re (by rw [hn])) rfl ?_ ?_ | refine acallH_anyr ((find_c d key h hg).re (by rw [decide_eq_true hm])) rfl ?_ ?_ | refine acallH_anyr (copied_d_c d h) rfl ?_ ?_); (focus ((try simp (disch := omega) only [go_sem, wrap_n, AFile.rgetD, getD_set, AFile.rset, getD_mapset, List.set_set]) <;> (try omega) <;> fail)))
            | ((first | refine acallH_scx ((good_d_c d h hw).re (by rw [hg])) rfl ?_ ?_ | refine acallQ_scx ((good_d_c d h hw).re (by rw [hg])) rfl ?_ ?_ | refine acallH_anyx ((good_d_c d h hw).re (by rw [hg])) ?_ ?_); (focus ((try simp (disch := omega) only [go_sem, wrap_n, AFile.rgetD, getD_set, AFile.rset, getD_mapset, List.set_set]) <;> (try omega) <;> fail)))
            | ((first | refine acallH_scx ((named_c key hk).re (by rw [hn])) rfl ?_ ?_ | refine acallQ_scx ((named_c key hk).re (by rw [hn])) rfl ?_ ?_ | refine acallH_anyx ((named_c key hk).re (by rw [hn])) ?_ ?_); (focus ((try simp (disch := omega) only [go_sem, wrap_n, AFile.rgetD, getD_set, AFile.rset, getD_mapset, List.set_set]) <;> (try omega) <;> fail)))
            | ((first | refine acallH_scx ((find_c d key h hg).re (by rw [decide_eq_true hm])) rfl ?_ ?_ | refine acallQ_scx ((find_c d key h hg).re (by rw [decide_eq_true hm])) rfl ?_ ?_ | refine acallH_anyx ((find_c d key h hg).re (by rw [decide_eq_true hm])) ?_ ?_); (focus ((try simp (disch := omega) only [go_sem, wrap_n, AFile.rgetD, getD_set, AFile.rset, getD_mapset, List.set_set]) <;> (try omega) <;> fail)))
            | ((first | refine acallH_scx (copied_d_c d h) rfl ?_ ?_ | refine acallQ_scx (copied_d_c d h) rfl ?_ ?_ | refine acallH_anyx (copied_d_c d h) ?_ ?_); (focus ((try simp (disch := omega) only [go_sem, wrap_n, AFile.rgetD, getD_set, AFile.rset, getD_mapset, List.set_set]) <;> (try omega) <;> fail)))); ((try simp (disch := omega) only [go_sem, wrap_n, AFile.rgetD, getD_set, AFile.rset, getD_mapset, List.set_set]) <;> (repeat' with_reducible refine And.intro ?_ ?_) <;> (try (with_reducible refine hK _ ?_; clear hK K))))
          | ((first | (with_reducible refine aunder_i ?_ ?_ <;> intro hg) | with_reducible intro hg) <;> (first | (exfalso; simp at hg; done) | (have hg' := hg; (try simp only [hcs, beq_iff_eq, ge_iff_le, gt_iff_lt] at hg'); ((try simp (disch := omega) only [hg, go_sem, wrap_n, AFile.rgetD, getD_set, AFile.rset, getD_mapset, List.set_set]) <;> (repeat' with_reducible refine And.intro ?_ ?_) <;> (try (with_reducible refine hK _ ?_; clear hK K))))))
                                                                  | omega
        · rw [if_pos (by omega)]; (refine aend_retc ?_ rfl ?_ ?_ ?_ ?_; (focus (first | exact .inl rfl | exact .inr rfl)); (iterate 3 (focus ((try simp (disch := omega) only [go_sem, wrap_n, default]) <;> (try omega) <;> fail))); (try simp (disch := omega) only [go_sem, wrap_n, default, I, B, S, inj, List.cons.injEq, and_true, true_and, and_self]))
        · rw [if_neg (by omega)]; (refine aend_retc ?_ rfl ?_ ?_ ?_ ?_; (focus (first | exact .inl rfl | exact .inr rfl)); (iterate 3 (focus ((try simp (disch := omega) only [go_sem, wrap_n, take_map_set]) <;> (try omega) <;> fail))); (try simp (disch := omega) only [go_sem, wrap_n, take_map_set, I, B, S, inj, List.cons.injEq, and_true, true_and, and_self]))
      · by_cases hf : 16 ≤ d.files.length
        · have e : writeD d.files key s = (default, 6) := by unfold writeD; rw [if_neg (by simp [hg]), if_neg (by simp [hn]), if_neg hm, if_pos hf]
          rw [e]
          refine acall_of tabOk Tryd.func64 rfl (by kernel_rfl) (by simp [Tryd.ntmps64]) ?_; simp only [Tryd.ntmps64, Tryd.results64, List.toList_toArray, apar, List.length_nil, List.length_cons, Nat.reduceAdd]
          repeat' first
            | (with_reducible first | refine AWP.seq ?_ | refine thenA_n ?_ | refine thenA_r ?_ | refine thenA_e ?_ | refine blkA_n ?_ | refine blkA_r ?_ | refine blkA_e ?_ | refine blkA_x (by decide) ?_ | refine AWP.skip ?_ | refine AWP.ret ?_ | refine AWP.exit ?_ | refine AWP.block ?_)
            | (with_reducible refine AWP.cond rfl ?_ ?_ <;> intro hc <;> (try simp only [hcs, beq_iff_eq, ge_iff_le, gt_iff_lt] at hc))
            | ((first
              | (with_reducible first | refine AWP.region tabOk ?_ | refine AWP.quietC mixed tabOk (by decide +kernel) ?_ | refine AWP.draw mixed tabOk (by decide +kernel) ?_ | refine AWP.drawE mixed tabOk (by decide +kernel) ?_ | refine AWP.drawG mixed tabOk (by decide +kernel) ?_); intro K hK
              | ((first | refine acallH_sc ((good_d_c d h hw).re (by rw [hg])) rfl rfl ?_ ?_ ?_ | refine acallQ_sc ((good_d_c d h hw).re (by rw [hg])) rfl rfl ?_ ?_ ?_ | refine acallH_sc ((named_c key hk).re (by rw [hn])) rfl rfl ?_ ?_ ?_ | refine acallQ_sc ((named_c key hk).re (by rw [hn])) rfl rfl ?_ ?_ ?_ | refine acallH_sc ((find_c d key h hg).re (by rw [decide_eq_false hm])) rfl rfl ?_ ?_ ?_ | refine acallQ_sc ((find_c d key h hg).re (by rw [decide_eq_false hm])) rfl rfl ?_ ?_ ?_ | refine acallH_sc (copied_d_c d h) rfl rfl ?_ ?_ ?_ | refine acallQ_sc (copied_d_c d h) rfl rfl ?_ ?_ ?_); iterate 2 (focus ((try simp (disch := omega) only [go_sem, wrap_n]) <;> (try omega) <;> fail)))
              | ((first | refine acallH_anyr ((good_d_c d h hw).re (by rw [hg])) rfl ?_ ?_ | refine acallH_anyr ((named_c key hk).re (by rw [hn])) rfl ?_ ?_ | refine acallH_anyr ((find_c d key h hg).re (by rw [decide_eq_false hm])) rfl ?_ ?_ | refine acallH_anyr (copied_d_c d h) rfl ?_ ?_); (focus ((try simp (disch := omega) only [go_sem, wrap_n]) <;> (try omega) <;> fail)))
              | ((first | refine acallH_scx ((good_d_c d h hw).re (by rw [hg])) rfl ?_ ?_ | refine acallQ_scx ((good_d_c d h hw).re (by rw [hg])) rfl ?_ ?_ | refine acallH_anyx ((good_d_c d h hw).re (by rw [hg])) ?_ ?_); (focus ((try simp (disch := omega) only [go_sem, wrap_n]) <;> (try omega) <;> fail)))
              | ((first | refine acallH_scx ((named_c key hk).re (by rw [hn])) rfl ?_ ?_ | refine acallQ_scx ((named_c key hk).re (by rw [hn])) rfl ?_ ?_ | refine acallH_anyx ((named_c key hk).re (by rw [hn])) ?_ ?_); (focus ((try simp (disch := omega) only [go_sem, wrap_n]) <;> (try omega) <;> fail)))
              | ((first | refine acallH_scx ((find_c d key h hg).re (by rw [decide_eq_false hm])) rfl ?_ ?_ | refine acallQ_scx ((find_c d key h hg).re (by rw [decide_eq_false hm])) rfl ?_ ?_ | refine acallH_anyx ((find_c d key h hg).re (by rw [decide_eq_false hm])) ?_ ?_); (focus ((try simp (disch := omega) only [go_sem, wrap_n]) <;> (try omega) <;> fail)))
              | ((first | refine acallH_scx (copied_d_c d h) rfl ?_ ?_ | refine acallQ_scx (copied_d_c d h) rfl ?_ ?_ | refine acallH_anyx (copied_d_c d h) ?_ ?_); (focus ((try simp (disch := omega) only [go_sem, wrap_n]) <;> (try omega) <;> fail)))); ((try simp (disch := omega) only [go_sem, wrap_n]) <;> (repeat' with_reducible refine And.intro ?_ ?_) <;> (try (with_reducible refine hK _ ?_; clear hK K))))
            | ((first | (with_reducible refine aunder_i ?_ ?_ <;> intro hg) | with_reducible intro hg) <;> (first | (exfalso; simp at hg; done) | (have hg' := hg; (try simp only [hcs, beq_iff_eq, ge_iff_le, gt_iff_lt] at hg'); ((try simp (disch := omega) only [hg, go_sem, wrap_n]) <;> (repeat' with_reducible refine And.intro ?_ ?_) <;> (try (with_reducible refine hK _ ?_; clear hK K))))))
                                                                    | omega
          (refine aend_retc ?_ rfl ?_ ?_ ?_ ?_; (focus (first | exact .inl rfl | exact .inr rfl)); (iterate 3 (focus ((try simp (disch := omega) only [go_sem, wrap_n, default]) <;> (try omega) <;> fail))); (try simp (disch := omega) only [go_sem, wrap_n, default, I, B, S, inj, List.cons.injEq, and_true, true_and, and_self]))
        · have e : writeD d.files key s = (if 1048576 < s.length then (default, 1) else (⟨d.files.insertIdx (place (d.files.map AFile.name) key) ⟨key, [], s⟩⟩, 0)) := by
            unfold writeD; rw [if_neg (by simp [hg]), if_neg (by simp [hn]), if_neg hm, if_neg hf]
          rw [e]
          have hil := ins_len d.files (place (d.files.map AFile.name) key) (⟨key, [], []⟩ : AFile) hpl'
          have hil2 := ins_len d.files (place (d.files.map AFile.name) key) (⟨key, [], s⟩ : AFile) hpl'
          refine acall_of tabOk Tryd.func64 rfl (by kernel_rfl) (by simp [Tryd.ntmps64]) ?_; simp only [Tryd.ntmps64, Tryd.results64, List.toList_toArray, apar, List.length_nil, List.length_cons, Nat.reduceAdd]
          repeat' first
            | (with_reducible first | refine AWP.seq ?_ | refine thenA_n ?_ | refine thenA_r ?_ | refine thenA_e ?_ | refine blkA_n ?_ | refine blkA_r ?_ | refine blkA_e ?_ | refine blkA_x (by decide) ?_ | refine AWP.skip ?_ | refine AWP.ret ?_ | refine AWP.exit ?_ | refine AWP.block ?_)
            | (with_reducible refine AWP.cond rfl ?_ ?_ <;> intro hc <;> (try simp only [hcs, beq_iff_eq, ge_iff_le, gt_iff_lt] at hc))
            | ((first
              | (with_reducible first | refine AWP.region tabOk ?_ | refine AWP.quietC mixed tabOk (by decide +kernel) ?_ | refine AWP.draw mixed tabOk (by decide +kernel) ?_ | refine AWP.drawE mixed tabOk (by decide +kernel) ?_ | refine AWP.drawG mixed tabOk (by decide +kernel) ?_); intro K hK
              | ((first | refine acallH_sc ((good_d_c d h hw).re (by rw [hg])) rfl rfl ?_ ?_ ?_ | refine acallQ_sc ((good_d_c d h hw).re (by rw [hg])) rfl rfl ?_ ?_ ?_ | refine acallH_sc ((named_c key hk).re (by rw [hn])) rfl rfl ?_ ?_ ?_ | refine acallQ_sc ((named_c key hk).re (by rw [hn])) rfl rfl ?_ ?_ ?_ | refine acallH_sc ((find_c d key h hg).re (by rw [decide_eq_false hm])) rfl rfl ?_ ?_ ?_ | refine acallQ_sc ((find_c d key h hg).re (by rw [decide_eq_false hm])) rfl rfl ?_ ?_ ?_ | refine acallH_sc (copied_d_c d h) rfl rfl ?_ ?_ ?_ | refine acallQ_sc (copied_d_c d h) rfl rfl ?_ ?_ ?_); iterate 2 (focus ((try simp (disch := omega) only [go_sem, wrap_n, AFile.rins, getD_insmap, AFile.rset, set_ins, List.length_nil, List.nil_append]) <;> (try omega) <;> fail)))
              | ((first | refine acallH_anyr ((good_d_c d h hw).re (by rw [hg])) rfl ?_ ?_ | refine acallH_anyr ((named_c key hk).re (by rw [hn])) rfl ?_ ?_ | refine acallH_anyr ((find_c d key h hg).re (by rw [decide_eq_false hm])) rfl ?_ ?_ | refine acallH_anyr (copied_d_c d h) rfl ?_ ?_); (focus ((try simp (disch := omega) only [go_sem, wrap_n, AFile.rins, getD_insmap, AFile.rset, set_ins, List.length_nil, List.nil_append]) <;> (try omega) <;> fail)))
              | ((first | refine acallH_scx ((good_d_c d h hw).re (by rw [hg])) rfl ?_ ?_ | refine acallQ_scx ((good_d_c d h hw).re (by rw [hg])) rfl ?_ ?_ | refine acallH_anyx ((good_d_c d h hw).re (by rw [hg])) ?_ ?_); (focus ((try simp (disch := omega) only [go_sem, wrap_n, AFile.rins, getD_insmap, AFile.rset, set_ins, List.length_nil, List.nil_append]) <;> (try omega) <;> fail)))
              | ((first | refine acallH_scx ((named_c key hk).re (by rw [hn])) rfl ?_ ?_ | refine acallQ_scx ((named_c key hk).re (by rw [hn])) rfl ?_ ?_ | refine acallH_anyx ((named_c key hk).re (by rw [hn])) ?_ ?_); (focus ((try simp (disch := omega) only [go_sem, wrap_n, AFile.rins, getD_insmap, AFile.rset, set_ins, List.length_nil, List.nil_append]) <;> (try omega) <;> fail)))
              | ((first | refine acallH_scx ((find_c d key h hg).re (by rw [decide_eq_false hm])) rfl ?_ ?_ | refine acallQ_scx ((find_c d key h hg).re (by rw [decide_eq_false hm])) rfl ?_ ?_ | refine acallH_anyx ((find_c d key h hg).re (by rw [decide_eq_false hm])) ?_ ?_); (focus ((try simp (disch := omega) only [go_sem, wrap_n, AFile.rins, getD_insmap, AFile.rset, set_ins, List.length_nil, List.nil_append]) <;> (try omega) <;> fail)))
              | ((first | refine acallH_scx (copied_d_c d h) rfl ?_ ?_ | refine acallQ_scx (copied_d_c d h) rfl ?_ ?_ | refine acallH_anyx (copied_d_c d h) ?_ ?_); (focus ((try simp (disch := omega) only [go_sem, wrap_n, AFile.rins, getD_insmap, AFile.rset, set_ins, List.length_nil, List.nil_append]) <;> (try omega) <;> fail)))
              | (refine acallH_own (insFile_c (d.files.map AFile.row) [.str key, .str [], .str []] (place (d.files.map AFile.name) key) (by simpa using hpl') (by simp only [List.length_map]; omega)) ?_ ?_ ?_; (focus ((try simp (disch := omega) only [inj, List.cons.injEq, and_self, List.nodup_cons, List.not_mem_nil, List.mem_cons, not_false_eq_true, List.nodup_nil, go_sem, wrap_n, AFile.rins, getD_insmap, AFile.rset, set_ins, List.length_nil, List.nil_append]) <;> (try omega) <;> fail)); (focus ((try simp (disch := omega) only [inj, List.cons.injEq, and_self, List.nodup_cons, List.not_mem_nil, List.mem_cons, not_false_eq_true, List.nodup_nil, go_sem, wrap_n, AFile.rins, getD_insmap, AFile.rset, set_ins, List.length_nil, List.nil_append]) <;> (try omega) <;> (try decide) <;> fail)))); ((try simp (disch := omega) only [go_sem, wrap_n, AFile.rins, getD_insmap, AFile.rset, set_ins, List.length_nil, List.nil_append]) <;> (repeat' with_reducible refine And.intro ?_ ?_) <;> (try (with_reducible refine hK _ ?_; clear hK K))))
            | ((first | (with_reducible refine aunder_i ?_ ?_ <;> intro hg) | with_reducible intro hg) <;> (first | (exfalso; simp at hg; done) | (have hg' := hg; (try simp only [hcs, beq_iff_eq, ge_iff_le, gt_iff_lt] at hg'); ((try simp (disch := omega) only [hg, go_sem, wrap_n, AFile.rins, getD_insmap, AFile.rset, set_ins, List.length_nil, List.nil_append]) <;> (repeat' with_reducible refine And.intro ?_ ?_) <;> (try (with_reducible refine hK _ ?_; clear hK K))))))
                                                                    | omega
          · rw [if_pos (by omega)]; (refine aend_retc ?_ rfl ?_ ?_ ?_ ?_; (focus (first | exact .inl rfl | exact .inr rfl)); (iterate 3 (focus ((try simp (disch := omega) only [go_sem, wrap_n, default]) <;> (try omega) <;> fail))); (try simp (disch := omega) only [go_sem, wrap_n, default, I, B, S, inj, List.cons.injEq, and_true, true_and, and_self]))
          · rw [if_neg (by omega)]; (refine aend_retc ?_ rfl ?_ ?_ ?_ ?_; (focus (first | exact .inl rfl | exact .inr rfl)); (iterate 3 (focus ((try simp (disch := omega) only [go_sem, wrap_n, take_map_ins]) <;> (try omega) <;> fail))); (try simp (disch := omega) only [go_sem, wrap_n, take_map_ins, I, B, S, inj, List.cons.injEq, and_true, true_and, and_self]))
    · have e : writeD d.files key s = (default, 2) := by unfold writeD; rw [if_neg (by simp [hg]), if_pos (by simpa using hn)]
      rw [e]
      rw [Bool.not_eq_true] at hn
      refine acall_of tabOk Tryd.func64 rfl (by kernel_rfl) (by simp [Tryd.ntmps64]) ?_; simp only [Tryd.ntmps64, Tryd.results64, List.toList_toArray, apar, List.length_nil, List.length_cons, Nat.reduceAdd]
      repeat' first
        | (with_reducible first | refine AWP.seq ?_ | refine thenA_n ?_ | refine thenA_r ?_ | refine thenA_e ?_ | refine blkA_n ?_ | refine blkA_r ?_ | refine blkA_e ?_ | refine blkA_x (by decide) ?_ | refine AWP.skip ?_ | refine AWP.ret ?_ | refine AWP.exit ?_ | refine AWP.block ?_)
        | (with_reducible refine AWP.cond rfl ?_ ?_ <;> intro hc <;> (try simp only [hcs, beq_iff_eq, ge_iff_le, gt_iff_lt] at hc))
        | ((first
          | (with_reducible first | refine AWP.region tabOk ?_ | refine AWP.quietC mixed tabOk (by decide +kernel) ?_ | refine AWP.draw mixed tabOk (by decide +kernel) ?_ | refine AWP.drawE mixed tabOk (by decide +kernel) ?_ | refine AWP.drawG mixed tabOk (by decide +kernel) ?_); intro K hK
          | ((first | refine acallH_sc ((good_d_c d h hw).re (by rw [hg])) rfl rfl ?_ ?_ ?_ | refine acallQ_sc ((good_d_c d h hw).re (by rw [hg])) rfl rfl ?_ ?_ ?_ | refine acallH_sc ((named_c key hk).re (by rw [hn])) rfl rfl ?_ ?_ ?_ | refine acallQ_sc ((named_c key hk).re (by rw [hn])) rfl rfl ?_ ?_ ?_); iterate 2 (focus ((try simp (disch := omega) only [go_sem, wrap_n]) <;> (try omega) <;> fail)))
          | ((first | refine acallH_anyr ((good_d_c d h hw).re (by rw [hg])) rfl ?_ ?_ | refine acallH_anyr ((named_c key hk).re (by rw [hn])) rfl ?_ ?_); (focus ((try simp (disch := omega) only [go_sem, wrap_n]) <;> (try omega) <;> fail)))
          | ((first | refine acallH_scx ((good_d_c d h hw).re (by rw [hg])) rfl ?_ ?_ | refine acallQ_scx ((good_d_c d h hw).re (by rw [hg])) rfl ?_ ?_ | refine acallH_anyx ((good_d_c d h hw).re (by rw [hg])) ?_ ?_); (focus ((try simp (disch := omega) only [go_sem, wrap_n]) <;> (try omega) <;> fail)))
          | ((first | refine acallH_scx ((named_c key hk).re (by rw [hn])) rfl ?_ ?_ | refine acallQ_scx ((named_c key hk).re (by rw [hn])) rfl ?_ ?_ | refine acallH_anyx ((named_c key hk).re (by rw [hn])) ?_ ?_); (focus ((try simp (disch := omega) only [go_sem, wrap_n]) <;> (try omega) <;> fail)))); ((try simp (disch := omega) only [go_sem, wrap_n]) <;> (repeat' with_reducible refine And.intro ?_ ?_) <;> (try (with_reducible refine hK _ ?_; clear hK K))))
        | ((first | (with_reducible refine aunder_i ?_ ?_ <;> intro hg) | with_reducible intro hg) <;> (first | (exfalso; simp at hg; done) | (have hg' := hg; (try simp only [hcs, beq_iff_eq, ge_iff_le, gt_iff_lt] at hg'); ((try simp (disch := omega) only [hg, go_sem, wrap_n]) <;> (repeat' with_reducible refine And.intro ?_ ?_) <;> (try (with_reducible refine hK _ ?_; clear hK K))))))
                                                                | omega
      (refine aend_retc ?_ rfl ?_ ?_ ?_ ?_; (focus (first | exact .inl rfl | exact .inr rfl)); (iterate 3 (focus ((try simp (disch := omega) only [go_sem, wrap_n, default]) <;> (try omega) <;> fail))); (try simp (disch := omega) only [go_sem, wrap_n, default, I, B, S, inj, List.cons.injEq, and_true, true_and, and_self]))
  · have e : writeD d.files key s = (default, 3) := by unfold writeD; rw [if_pos (by simpa using hg)]
    rw [e]
    rw [Bool.not_eq_true] at hg
    refine acall_of tabOk Tryd.func64 rfl (by kernel_rfl) (by simp [Tryd.ntmps64]) ?_; simp only [Tryd.ntmps64, Tryd.results64, List.toList_toArray, apar, List.length_nil, List.length_cons, Nat.reduceAdd]
    repeat' first
      | (with_reducible first | refine AWP.seq ?_ | refine thenA_n ?_ | refine thenA_r ?_ | refine thenA_e ?_ | refine blkA_n ?_ | refine blkA_r ?_ | refine blkA_e ?_ | refine blkA_x (by decide) ?_ | refine AWP.skip ?_ | refine AWP.ret ?_ | refine AWP.exit ?_ | refine AWP.block ?_)
      | (with_reducible refine AWP.cond rfl ?_ ?_ <;> intro hc <;> (try simp only [hcs, beq_iff_eq, ge_iff_le, gt_iff_lt] at hc))
      | ((first
        | (with_reducible first | refine AWP.region tabOk ?_ | refine AWP.quietC mixed tabOk (by decide +kernel) ?_ | refine AWP.draw mixed tabOk (by decide +kernel) ?_ | refine AWP.drawE mixed tabOk (by decide +kernel) ?_ | refine AWP.drawG mixed tabOk (by decide +kernel) ?_); intro K hK
        | ((first | refine acallH_sc ((good_d_c d h hw).re (by rw [hg])) rfl rfl ?_ ?_ ?_ | refine acallQ_sc ((good_d_c d h hw).re (by rw [hg])) rfl rfl ?_ ?_ ?_); iterate 2 (focus ((try simp (disch := omega) only [go_sem, wrap_n]) <;> (try omega) <;> fail)))
        | ((first | refine acallH_anyr ((good_d_c d h hw).re (by rw [hg])) rfl ?_ ?_); (focus ((try simp (disch := omega) only [go_sem, wrap_n]) <;> (try omega) <;> fail)))
        | ((first | refine acallH_scx ((good_d_c d h hw).re (by rw [hg])) rfl ?_ ?_ | refine acallQ_scx ((good_d_c d h hw).re (by rw [hg])) rfl ?_ ?_ | refine acallH_anyx ((good_d_c d h hw).re (by rw [hg])) ?_ ?_); (focus ((try simp (disch := omega) only [go_sem, wrap_n]) <;> (try omega) <;> fail)))); ((try simp (disch := omega) only [go_sem, wrap_n]) <;> (repeat' with_reducible refine And.intro ?_ ?_) <;> (try (with_reducible refine hK _ ?_; clear hK K))))
      | ((first | (with_reducible refine aunder_i ?_ ?_ <;> intro hg) | with_reducible intro hg) <;> (first | (exfalso; simp at hg; done) | (have hg' := hg; (try simp only [hcs, beq_iff_eq, ge_iff_le, gt_iff_lt] at hg'); ((try simp (disch := omega) only [hg, go_sem, wrap_n]) <;> (repeat' with_reducible refine And.intro ?_ ?_) <;> (try (with_reducible refine hK _ ?_; clear hK K))))))
                                                              | omega
    (refine aend_retc ?_ rfl ?_ ?_ ?_ ?_; (focus (first | exact .inl rfl | exact .inr rfl)); (iterate 3 (focus ((try simp (disch := omega) only [go_sem, wrap_n, default]) <;> (try omega) <;> fail))); (try simp (disch := omega) only [go_sem, wrap_n, default, I, B, S, inj, List.cons.injEq, and_true, true_and, and_self]))
theorem at_place {l : List AFile} {key : List UInt8} {k : Nat} {x : AFile} (hg : goodD l = true) (hm : ¬ key ∈ l.map AFile.name) (hkl : k ≤ l.length) (hk2 : ∀ j, k ≤ j → j < l.length → key < (l.getD j default).name)
    (hc : (k : Int) ≤ 0 ∨ ((l.insertIdx k x).getD (k - 1) default).name < key ∨ ((l.insertIdx k x).getD (k - 1) default).name = key) : place (l.map AFile.name) key = k := by
  have hnm : ∀ k, (l.map AFile.name).getD k [] = (l.getD k default).name := fun k => getD_map AFile.name l k default
  refine place_eq (by simpa using hkl) (fun j hj => ?_) fun h1 => ?_
  · rw [hnm]
    have hk0 : 0 < k := by omega
    have c1 : (l.getD (k - 1) default).name < key := by
      rw [ins_get_lt _ _ _ _ _ hkl (by omega)] at hc
      rcases hc with c | c | c
      · omega
      · exact c
      · exact absurd ((mem_iff_getD _ [] key).2 ⟨k - 1, by simp; omega, by rw [hnm]; exact c⟩) hm
    by_cases e : j = k - 1
    · subst e; exact c1
    · exact List.lt_trans (by have := rises_lt (goodD_rises hg) (i := j) (j := k - 1) (by omega) (by simp; omega); rwa [hnm, hnm] at this) c1
  · rw [hnm]; exact fun h2 => List.lt_irrefl _ (List.lt_trans h2 (hk2 k (Nat.le_refl _) (by simpa using h1)))
theorem ref_write_c (d : ADisk) (key s : List UInt8) (hs : okS s) (hk : okS key) (h : d.files.length * 48 ≤ 140737488351232) (hw : ∀ f, f ∈ d.files → f.wf) : acall Tryd.prog [] 67 [d.av, S key, S s] (ret (.tup [(writeD d.files key s).1.av, I (writeD d.files key s).2])) := by
  obtain ⟨w0, w1, w2, w3⟩ := file_wf hw (place (d.files.map AFile.name) key)
  unfold okS at hs
  by_cases hg : goodD d.files = true
  · have hl16 := good_len hg
    by_cases hn : namedP key = true
    · have hpl' := place_le' (l := d.files) (key := key)
      by_cases hm : key ∈ d.files.map AFile.name
      · have hpl := place_lt hg hm
        have e : writeD d.files key s = (if 1048576 < (d.files.getD (place (d.files.map AFile.name) key) default).safe.length + (d.files.getD (place (d.files.map AFile.name) key) default).tail.length + s.length then (default, 1)
          else (⟨d.files.set (place (d.files.map AFile.name) key) ⟨(d.files.getD (place (d.files.map AFile.name) key) default).name, (d.files.getD (place (d.files.map AFile.name) key) default).safe, (d.files.getD (place (d.files.map AFile.name) key) default).tail ++ s⟩⟩, 0)) := by
          unfold writeD; rw [if_neg (by simp [hg]), if_neg (by simp [hn]), if_pos hm]
        rw [e]
        refine acall_of tabOk Tryd.func67 rfl (by kernel_rfl) (by simp [Tryd.ntmps67]) ?_; simp only [Tryd.ntmps67, Tryd.results67, List.toList_toArray, apar, List.length_nil, List.length_cons, Nat.reduceAdd]
        repeat' first
          | (with_reducible first | refine AWP.seq ?_ | refine thenA_n ?_ | refine thenA_r ?_ | refine thenA_e ?_ | refine blkA_n ?_ | refine blkA_r ?_ | refine blkA_e ?_ | refine blkA_x (by decide) ?_ | refine AWP.skip ?_ | refine AWP.ret ?_ | refine AWP.exit ?_ | refine AWP.block ?_)
          | (with_reducible refine AWP.cond rfl ?_ ?_ <;> intro hc <;> (try simp only [hcs, beq_iff_eq, ge_iff_le, gt_iff_lt] at hc))
          | ((first
            | (with_reducible first | refine AWP.region tabOk ?_ | refine AWP.quietC mixed tabOk (by decide +kernel) ?_ | refine AWP.draw mixed tabOk (by decide +kernel) ?_ | refine AWP.drawE mixed tabOk (by decide +kernel) ?_ | refine AWP.drawG mixed tabOk (by decide +kernel) ?_); intro K hK
            | ((first | refine acallH_sc ((ref_good_d_c d h hw).re (by rw [hg])) rfl rfl ?_ ?_ ?_ | refine acallQ_sc ((ref_good_d_c d h hw).re (by rw [hg])) rfl rfl ?_ ?_ ?_ | refine acallH_sc ((ref_named_c key hk).re (by rw [hn])) rfl rfl ?_ ?_ ?_ | refine acallQ_sc ((ref_named_c key hk).re (by rw [hn])) rfl rfl ?_ ?_ ?_ | refine acallH_sc ((file_c d key h hg).re (by rw [fileI_yes hm])) rfl rfl ?_ ?_ ?_ | refine acallQ_sc ((file_c d key h hg).re (by rw [fileI_yes hm])) rfl rfl ?_ ?_ ?_ | refine acallH_sc (ref_copied_o_c d h) rfl rfl ?_ ?_ ?_ | refine acallQ_sc (ref_copied_o_c d h) rfl rfl ?_ ?_ ?_); iterate 2 (focus ((try simp (disch := omega) only [go_sem, wrap_n, AFile.rgetD, getD_set, AFile.rset, getD_mapset, List.set_set]) <;> (try omega) <;> fail)))
            | ((first | refine acallH_anyr ((ref_good_d_c d h hw).re (by rw [hg])) rfl ?_ ?_ | refine acallH_anyr ((ref_named_c key hk).re (by rw [hn])) rfl ?_ ?_ | refine acallH_anyr ((file_c d key h hg).re (by rw [fileI_yes hm])) rfl ?_ ?_ | refine acallH_anyr (ref_copied_o_c d h) rfl ?_ ?_); (focus ((try simp (disch := omega) only [go_sem, wrap_n, AFile.rgetD, getD_set, AFile.rset, getD_mapset, List.set_set]) <;> (try omega) <;> fail)))
            | ((first | refine acallH_scx ((ref_good_d_c d h hw).re (by rw [hg])) rfl ?_ ?_ | refine acallQ_scx ((ref_good_d_c d h hw).re (by rw [hg])) rfl ?_ ?_ | refine acallH_anyx ((ref_good_d_c d h hw).re (by rw [hg])) ?_ ?_); (focus ((try simp (disch := omega) only [go_sem, wrap_n, AFile.rgetD, getD_set, AFile.rset, getD_mapset, List.set_set]) <;> (try omega) <;> fail)))
            | ((first | refine acallH_scx ((ref_named_c key hk).re (by rw [hn])) rfl ?_ ?_ | refine acallQ_scx ((ref_named_c key hk).re (by rw [hn])) rfl ?_ ?_ | refine acallH_anyx ((ref_named_c key hk).re (by rw [hn])) ?_ ?_); (focus ((try simp (disch := omega) only [go_sem, wrap_n, AFile.rgetD, getD_set, AFile.rset, getD_mapset, List.set_set]) <;> (try omega) <;> fail)))
            | ((first | refine acallH_scx ((file_c d key h hg).re (by rw [fileI_yes hm])) rfl ?_ ?_ | refine acallQ_scx ((file_c d key h hg).re (by rw [fileI_yes hm])) rfl ?_ ?_ | refine acallH_anyx ((file_c d key h hg).re (by rw [fileI_yes hm])) ?_ ?_); (focus ((try simp (disch := omega) only [go_sem, wrap_n, AFile.rgetD, getD_set, AFile.rset, getD_mapset, List.set_set]) <;> (try omega) <;> fail)))
            | ((first | refine acallH_scx (ref_copied_o_c d h) rfl ?_ ?_ | refine acallQ_scx (ref_copied_o_c d h) rfl ?_ ?_ | refine acallH_anyx (ref_copied_o_c d h) ?_ ?_); (focus ((try simp (disch := omega) only [go_sem, wrap_n, AFile.rgetD, getD_set, AFile.rset, getD_mapset, List.set_set]) <;> (try omega) <;> fail)))); ((try simp (disch := omega) only [go_sem, wrap_n, AFile.rgetD, getD_set, AFile.rset, getD_mapset, List.set_set]) <;> (repeat' with_reducible refine And.intro ?_ ?_) <;> (try (with_reducible refine hK _ ?_; clear hK K))))
          | ((first | (with_reducible refine aunder_i ?_ ?_ <;> intro hg) | with_reducible intro hg) <;> (first | (exfalso; simp at hg; done) | (have hg' := hg; (try simp only [hcs, beq_iff_eq, ge_iff_le, gt_iff_lt] at hg'); ((try simp (disch := omega) only [hg, go_sem, wrap_n, AFile.rgetD, getD_set, AFile.rset, getD_mapset, List.set_set]) <;> (repeat' with_reducible refine And.intro ?_ ?_) <;> (try (with_reducible refine hK _ ?_; clear hK K))))))
                                                                  | omega
        · rw [if_pos (by omega)]; (refine aend_retc ?_ rfl ?_ ?_ ?_ ?_; (focus (first | exact .inl rfl | exact .inr rfl)); (iterate 3 (focus ((try simp (disch := omega) only [go_sem, wrap_n, default]) <;> (try omega) <;> fail))); (try simp (disch := omega) only [go_sem, wrap_n, default, I, B, S, inj, List.cons.injEq, and_true, true_and, and_self]))
        · rw [if_neg (by omega)]; (refine aend_retc ?_ rfl ?_ ?_ ?_ ?_; (focus (first | exact .inl rfl | exact .inr rfl)); (iterate 3 (focus ((try simp (disch := omega) only [go_sem, wrap_n, take_map_set]) <;> (try omega) <;> fail))); (try simp (disch := omega) only [go_sem, wrap_n, take_map_set, I, B, S, inj, List.cons.injEq, and_true, true_and, and_self]))
      · by_cases hf : 16 ≤ d.files.length
        · have e : writeD d.files key s = (default, 6) := by unfold writeD; rw [if_neg (by simp [hg]), if_neg (by simp [hn]), if_neg hm, if_pos hf]
          rw [e]
          refine acall_of tabOk Tryd.func67 rfl (by kernel_rfl) (by simp [Tryd.ntmps67]) ?_; simp only [Tryd.ntmps67, Tryd.results67, List.toList_toArray, apar, List.length_nil, List.length_cons, Nat.reduceAdd]
          repeat' first
            | (with_reducible first | refine AWP.seq ?_ | refine thenA_n ?_ | refine thenA_r ?_ | refine thenA_e ?_ | refine blkA_n ?_ | refine blkA_r ?_ | refine blkA_e ?_ | refine blkA_x (by decide) ?_ | refine AWP.skip ?_ | refine AWP.ret ?_ | refine AWP.exit ?_ | refine AWP.block ?_)
            | (with_reducible refine AWP.cond rfl ?_ ?_ <;> intro hc <;> (try simp only [hcs, beq_iff_eq, ge_iff_le, gt_iff_lt] at hc))
            | ((first
              | (with_reducible first | refine AWP.region tabOk ?_ | refine AWP.quietC mixed tabOk (by decide +kernel) ?_ | refine AWP.draw mixed tabOk (by decide +kernel) ?_ | refine AWP.drawE mixed tabOk (by decide +kernel) ?_ | refine AWP.drawG mixed tabOk (by decide +kernel) ?_); intro K hK
              | ((first | refine acallH_sc ((ref_good_d_c d h hw).re (by rw [hg])) rfl rfl ?_ ?_ ?_ | refine acallQ_sc ((ref_good_d_c d h hw).re (by rw [hg])) rfl rfl ?_ ?_ ?_ | refine acallH_sc ((ref_named_c key hk).re (by rw [hn])) rfl rfl ?_ ?_ ?_ | refine acallQ_sc ((ref_named_c key hk).re (by rw [hn])) rfl rfl ?_ ?_ ?_ | refine acallH_sc ((file_c d key h hg).re (by rw [fileI_no hm])) rfl rfl ?_ ?_ ?_ | refine acallQ_sc ((file_c d key h hg).re (by rw [fileI_no hm])) rfl rfl ?_ ?_ ?_ | refine acallH_sc (ref_copied_o_c d h) rfl rfl ?_ ?_ ?_ | refine acallQ_sc (ref_copied_o_c d h) rfl rfl ?_ ?_ ?_); iterate 2 (focus ((try simp (disch := omega) only [go_sem, wrap_n]) <;> (try omega) <;> fail)))
              | ((first | refine acallH_anyr ((ref_good_d_c d h hw).re (by rw [hg])) rfl ?_ ?_ | refine acallH_anyr ((ref_named_c key hk).re (by rw [hn])) rfl ?_ ?_ | refine acallH_anyr ((file_c d key h hg).re (by rw [fileI_no hm])) rfl ?_ ?_ | refine acallH_anyr (ref_copied_o_c d h) rfl ?_ ?_); (focus ((try simp (disch := omega) only [go_sem, wrap_n]) <;> (try omega) <;> fail)))
              | ((first | refine acallH_scx ((ref_good_d_c d h hw).re (by rw [hg])) rfl ?_ ?_ | refine acallQ_scx ((ref_good_d_c d h hw).re (by rw [hg])) rfl ?_ ?_ | refine acallH_anyx ((ref_good_d_c d h hw).re (by rw [hg])) ?_ ?_); (focus ((try simp (disch := omega) only [go_sem, wrap_n]) <;> (try omega) <;> fail)))
              | ((first | refine acallH_scx ((ref_named_c key hk).re (by rw [hn])) rfl ?_ ?_ | refine acallQ_scx ((ref_named_c key hk).re (by rw [hn])) rfl ?_ ?_ | refine acallH_anyx ((ref_named_c key hk).re (by rw [hn])) ?_ ?_); (focus ((try simp (disch := omega) only [go_sem, wrap_n]) <;> (try omega) <;> fail)))
              | ((first | refine acallH_scx ((file_c d key h hg).re (by rw [fileI_no hm])) rfl ?_ ?_ | refine acallQ_scx ((file_c d key h hg).re (by rw [fileI_no hm])) rfl ?_ ?_ | refine acallH_anyx ((file_c d key h hg).re (by rw [fileI_no hm])) ?_ ?_); (focus ((try simp (disch := omega) only [go_sem, wrap_n]) <;> (try omega) <;> fail)))
              | ((first | refine acallH_scx (ref_copied_o_c d h) rfl ?_ ?_ | refine acallQ_scx (ref_copied_o_c d h) rfl ?_ ?_ | refine acallH_anyx (ref_copied_o_c d h) ?_ ?_); (focus ((try simp (disch := omega) only [go_sem, wrap_n]) <;> (try omega) <;> fail)))); ((try simp (disch := omega) only [go_sem, wrap_n]) <;> (repeat' with_reducible refine And.intro ?_ ?_) <;> (try (with_reducible refine hK _ ?_; clear hK K))))
            | ((first | (with_reducible refine aunder_i ?_ ?_ <;> intro hg) | with_reducible intro hg) <;> (first | (exfalso; simp at hg; done) | (have hg' := hg; (try simp only [hcs, beq_iff_eq, ge_iff_le, gt_iff_lt] at hg'); ((try simp (disch := omega) only [hg, go_sem, wrap_n]) <;> (repeat' with_reducible refine And.intro ?_ ?_) <;> (try (with_reducible refine hK _ ?_; clear hK K))))))
                                                                    | omega
          (refine aend_retc ?_ rfl ?_ ?_ ?_ ?_; (focus (first | exact .inl rfl | exact .inr rfl)); (iterate 3 (focus ((try simp (disch := omega) only [go_sem, wrap_n, default]) <;> (try omega) <;> fail))); (try simp (disch := omega) only [go_sem, wrap_n, default, I, B, S, inj, List.cons.injEq, and_true, true_and, and_self]))
        · have e : writeD d.files key s = (if 1048576 < s.length then (default, 1) else (⟨d.files.insertIdx (place (d.files.map AFile.name) key) ⟨key, [], s⟩⟩, 0)) := by
            unfold writeD; rw [if_neg (by simp [hg]), if_neg (by simp [hn]), if_neg hm, if_neg hf]
          rw [e]
          have hil := ins_len d.files (place (d.files.map AFile.name) key) (⟨key, [], []⟩ : AFile) hpl'
          have hil2 := ins_len d.files (place (d.files.map AFile.name) key) (⟨key, [], s⟩ : AFile) hpl'
          refine acall_of tabOk Tryd.func67 rfl (by kernel_rfl) (by simp [Tryd.ntmps67]) ?_; simp only [Tryd.ntmps67, Tryd.results67, List.toList_toArray, apar, List.length_nil, List.length_cons, Nat.reduceAdd]
          repeat' first
            | (with_reducible first | refine AWP.seq ?_ | refine thenA_n ?_ | refine thenA_r ?_ | refine thenA_e ?_ | refine blkA_n ?_ | refine blkA_r ?_ | refine blkA_e ?_ | refine blkA_x (by decide) ?_ | refine AWP.skip ?_ | refine AWP.ret ?_ | refine AWP.exit ?_ | refine AWP.block ?_)
            | (with_reducible refine AWP.cond rfl ?_ ?_ <;> intro hc <;> (try simp only [hcs, beq_iff_eq, ge_iff_le, gt_iff_lt] at hc))
            | ((first
              | (with_reducible first | refine AWP.region tabOk ?_ | refine AWP.quietC mixed tabOk (by decide +kernel) ?_ | refine AWP.draw mixed tabOk (by decide +kernel) ?_ | refine AWP.drawE mixed tabOk (by decide +kernel) ?_ | refine AWP.drawG mixed tabOk (by decide +kernel) ?_); intro K hK
              | ((first | refine acallH_sc ((ref_good_d_c d h hw).re (by rw [hg])) rfl rfl ?_ ?_ ?_ | refine acallQ_sc ((ref_good_d_c d h hw).re (by rw [hg])) rfl rfl ?_ ?_ ?_ | refine acallH_sc ((ref_named_c key hk).re (by rw [hn])) rfl rfl ?_ ?_ ?_ | refine acallQ_sc ((ref_named_c key hk).re (by rw [hn])) rfl rfl ?_ ?_ ?_ | refine acallH_sc ((file_c d key h hg).re (by rw [fileI_no hm])) rfl rfl ?_ ?_ ?_ | refine acallQ_sc ((file_c d key h hg).re (by rw [fileI_no hm])) rfl rfl ?_ ?_ ?_ | refine acallH_sc (ref_copied_o_c d h) rfl rfl ?_ ?_ ?_ | refine acallQ_sc (ref_copied_o_c d h) rfl rfl ?_ ?_ ?_); iterate 2 (focus ((try simp (disch := omega) only [go_sem, wrap_n, AFile.rsnoc]) <;> (try omega) <;> fail)))
              | ((first | refine acallH_anyr ((ref_good_d_c d h hw).re (by rw [hg])) rfl ?_ ?_ | refine acallH_anyr ((ref_named_c key hk).re (by rw [hn])) rfl ?_ ?_ | refine acallH_anyr ((file_c d key h hg).re (by rw [fileI_no hm])) rfl ?_ ?_ | refine acallH_anyr (ref_copied_o_c d h) rfl ?_ ?_); (focus ((try simp (disch := omega) only [go_sem, wrap_n, AFile.rsnoc]) <;> (try omega) <;> fail)))
              | ((first | refine acallH_scx ((ref_good_d_c d h hw).re (by rw [hg])) rfl ?_ ?_ | refine acallQ_scx ((ref_good_d_c d h hw).re (by rw [hg])) rfl ?_ ?_ | refine acallH_anyx ((ref_good_d_c d h hw).re (by rw [hg])) ?_ ?_); (focus ((try simp (disch := omega) only [go_sem, wrap_n, AFile.rsnoc]) <;> (try omega) <;> fail)))
              | ((first | refine acallH_scx ((ref_named_c key hk).re (by rw [hn])) rfl ?_ ?_ | refine acallQ_scx ((ref_named_c key hk).re (by rw [hn])) rfl ?_ ?_ | refine acallH_anyx ((ref_named_c key hk).re (by rw [hn])) ?_ ?_); (focus ((try simp (disch := omega) only [go_sem, wrap_n, AFile.rsnoc]) <;> (try omega) <;> fail)))
              | ((first | refine acallH_scx ((file_c d key h hg).re (by rw [fileI_no hm])) rfl ?_ ?_ | refine acallQ_scx ((file_c d key h hg).re (by rw [fileI_no hm])) rfl ?_ ?_ | refine acallH_anyx ((file_c d key h hg).re (by rw [fileI_no hm])) ?_ ?_); (focus ((try simp (disch := omega) only [go_sem, wrap_n, AFile.rsnoc]) <;> (try omega) <;> fail)))
              | ((first | refine acallH_scx (ref_copied_o_c d h) rfl ?_ ?_ | refine acallQ_scx (ref_copied_o_c d h) rfl ?_ ?_ | refine acallH_anyx (ref_copied_o_c d h) ?_ ?_); (focus ((try simp (disch := omega) only [go_sem, wrap_n, AFile.rsnoc]) <;> (try omega) <;> fail)))); ((try simp (disch := omega) only [go_sem, wrap_n, AFile.rsnoc]) <;> (repeat' with_reducible refine And.intro ?_ ?_) <;> (try (with_reducible refine hK _ ?_; clear hK K))))
            | ((first | (with_reducible refine aunder_i ?_ ?_ <;> intro hg) | with_reducible intro hg) <;> (first | (exfalso; simp at hg; done) | (have hg' := hg; (try simp only [hcs, beq_iff_eq, ge_iff_le, gt_iff_lt] at hg'); ((try simp (disch := omega) only [hg, go_sem, wrap_n, AFile.rsnoc]) <;> (repeat' with_reducible refine And.intro ?_ ?_) <;> (try (with_reducible refine hK _ ?_; clear hK K))))))
                                                                    | omega
          have e8 : ((d.files.length + 1 : Nat) : Int) - 1 = (d.files.length : Nat) := by omega
          have hrr := goodD_rises hg
          have hnm : ∀ k, (d.files.map AFile.name).getD k [] = (d.files.getD k default).name := fun k => getD_map AFile.name d.files k default
          refine AWP.loopB (ι := Nat) (fun k => k ≤ d.files.length ∧ ∀ j, k ≤ j → j < d.files.length → key < (d.files.getD j default).name) (fun k => k) [1, 2, 3, 6] (fun k => [(8, I k)]) (fun k => [.cells [.osl 4 3 0 (d.files.length + 1)], .cells [.d (.sc (.slice none 0 0))], .dead, .rows 3 [[.str key, .str [], .str []]], .rows 3 ((d.files.insertIdx k ⟨key, [], []⟩).map AFile.row)]) d.files.length ?_ ?_ ?_
          · exact ⟨Nat.le_refl _, fun j h1 h2 => by omega⟩
          · simp only [go_sem, ins_end, e8]; (refine SImp.same ?_; simp (disch := omega) only [go_sem, wrap_n, Int.natCast_add])
          intro k ⟨hkl, hk2⟩
          have hik := ins_len d.files k (⟨key, [], []⟩ : AFile) hkl
          have hik2 := ins_len d.files k (⟨key, [], s⟩ : AFile) hkl
          simp only [go_sem]
          repeat' first
            | (with_reducible first | refine AWP.seq ?_ | refine thenA_n ?_ | refine thenA_r ?_ | refine thenA_e ?_ | refine blkA_n ?_ | refine blkA_r ?_ | refine blkA_e ?_ | refine blkA_x (by decide) ?_ | refine AWP.skip ?_ | refine AWP.ret ?_ | refine AWP.exit ?_ | refine AWP.block ?_)
            | (with_reducible refine AWP.cond rfl ?_ ?_ <;> intro hc <;> (try simp only [hcs, beq_iff_eq, ge_iff_le, gt_iff_lt] at hc))
            | ((first
              | (refine AWP.plan (Plan.takes [0, 1, 2, 3, 4, 6, 7, 8, 9, 10, 11, 12, 13, 14, 15, 16, 17, 18] (.fork 5 (Plan.takes [19, 20, 21] .done) 19 (Plan.takes [5, 20, 21] .done))) mixed tabOk (by decide +kernel) ?_; intro K hK)
              | (with_reducible first | refine AWP.region tabOk ?_ | refine AWP.quietC mixed tabOk (by decide +kernel) ?_ | refine AWP.draw mixed tabOk (by decide +kernel) ?_ | refine AWP.drawE mixed tabOk (by decide +kernel) ?_ | refine AWP.drawG mixed tabOk (by decide +kernel) ?_); intro K hK); ((try simp (disch := omega) only [go_sem, wrap_n, AFile.rgetD, getD_ins, strLt_eq, toNat_pr, AFile.rset, List.length_set, getD_mapset, set_ins]) <;> (repeat' with_reducible refine And.intro ?_ ?_) <;> (try (with_reducible refine hK _ ?_; clear hK K))))
            | ((first | (with_reducible refine aunder_i ?_ ?_ <;> intro hg) | with_reducible intro hg) <;> (first | (exfalso; simp at hg; done) | (have hg' := hg; (try simp only [hcs, beq_iff_eq, ge_iff_le, gt_iff_lt] at hg'); ((try simp (disch := omega) only [hg, go_sem, wrap_n, AFile.rgetD, getD_ins, strLt_eq, toNat_pr, AFile.rset, List.length_set, getD_mapset, set_ins]) <;> (repeat' with_reducible refine And.intro ?_ ?_) <;> (try (with_reducible refine hK _ ?_; clear hK K))))))
                                                                    | omega
          iterate 2
            · obtain ⟨c0, c1, c2⟩ := hc
              rw [ins_get_lt _ _ _ _ _ hkl (by omega)] at c1 c2
              have e9 : (k : Int) - 1 = ((k - 1 : Nat) : Int) := by omega
              have e10 : (⟨((d.files.insertIdx k (⟨key, [], []⟩ : AFile)).getD (k - 1) default).name, ((d.files.insertIdx k (⟨key, [], []⟩ : AFile)).getD (k - 1) default).safe, ((d.files.insertIdx k (⟨key, [], []⟩ : AFile)).getD (k - 1) default).tail⟩ : AFile) = d.files.getD (k - 1) default := by
                rw [ins_get_lt _ _ _ _ _ hkl (by omega)]
              refine ⟨k - 1, ⟨by omega, fun j h1 h2 => ?_⟩, by omega, ?_⟩
              · by_cases e : j = k - 1
                · subst e; exact lt_of_not c1 c2
                · exact hk2 j (by omega) h2
              rw [e10, ins_swap _ _ _ _ hkl (by omega), e9]
              (refine SImp.same ?_; simp (disch := omega) only [go_sem, wrap_n, Int.natCast_add])
          · rename_i hc1
            have epl := at_place hg hm hkl hk2 hc1
            rw [if_pos (by omega)]; (refine aend_retc ?_ rfl ?_ ?_ ?_ ?_; (focus (first | exact .inl rfl | exact .inr rfl)); (iterate 3 (focus ((try simp (disch := omega) only [go_sem, wrap_n, default]) <;> (try omega) <;> fail))); (try simp (disch := omega) only [go_sem, wrap_n, default, I, B, S, inj, List.cons.injEq, and_true, true_and, and_self]))
          · rename_i hc1
            have epl := at_place hg hm hkl hk2 hc1
            rw [if_neg (by omega), epl]; (refine aend_retc ?_ rfl ?_ ?_ ?_ ?_; (focus (first | exact .inl rfl | exact .inr rfl)); (iterate 3 (focus ((try simp (disch := omega) only [go_sem, wrap_n, take_map_ins]) <;> (try omega) <;> fail))); (try simp (disch := omega) only [go_sem, wrap_n, take_map_ins, I, B, S, inj, List.cons.injEq, and_true, true_and, and_self]))
    · have e : writeD d.files key s = (default, 2) := by unfold writeD; rw [if_neg (by simp [hg]), if_pos (by simpa using hn)]
      rw [e]
      rw [Bool.not_eq_true] at hn
      refine acall_of tabOk Tryd.func67 rfl (by kernel_rfl) (by simp [Tryd.ntmps67]) ?_; simp only [Tryd.ntmps67, Tryd.results67, List.toList_toArray, apar, List.length_nil, List.length_cons, Nat.reduceAdd]
      repeat' first
        | (with_reducible first | refine AWP.seq ?_ | refine thenA_n ?_ | refine thenA_r ?_ | refine thenA_e ?_ | refine blkA_n ?_ | refine blkA_r ?_ | refine blkA_e ?_ | refine blkA_x (by decide) ?_ | refine AWP.skip ?_ | refine AWP.ret ?_ | refine AWP.exit ?_ | refine AWP.block ?_)
        | (with_reducible refine AWP.cond rfl ?_ ?_ <;> intro hc <;> (try simp only [hcs, beq_iff_eq, ge_iff_le, gt_iff_lt] at hc))
        | ((first
          | (with_reducible first | refine AWP.region tabOk ?_ | refine AWP.quietC mixed tabOk (by decide +kernel) ?_ | refine AWP.draw mixed tabOk (by decide +kernel) ?_ | refine AWP.drawE mixed tabOk (by decide +kernel) ?_ | refine AWP.drawG mixed tabOk (by decide +kernel) ?_); intro K hK
          | ((first | refine acallH_sc ((ref_good_d_c d h hw).re (by rw [hg])) rfl rfl ?_ ?_ ?_ | refine acallQ_sc ((ref_good_d_c d h hw).re (by rw [hg])) rfl rfl ?_ ?_ ?_ | refine acallH_sc ((ref_named_c key hk).re (by rw [hn])) rfl rfl ?_ ?_ ?_ | refine acallQ_sc ((ref_named_c key hk).re (by rw [hn])) rfl rfl ?_ ?_ ?_); iterate 2 (focus ((try simp (disch := omega) only [go_sem, wrap_n]) <;> (try omega) <;> fail)))
          | ((first | refine acallH_anyr ((ref_good_d_c d h hw).re (by rw [hg])) rfl ?_ ?_ | refine acallH_anyr ((ref_named_c key hk).re (by rw [hn])) rfl ?_ ?_); (focus ((try simp (disch := omega) only [go_sem, wrap_n]) <;> (try omega) <;> fail)))
          | ((first | refine acallH_scx ((ref_good_d_c d h hw).re (by rw [hg])) rfl ?_ ?_ | refine acallQ_scx ((ref_good_d_c d h hw).re (by rw [hg])) rfl ?_ ?_ | refine acallH_anyx ((ref_good_d_c d h hw).re (by rw [hg])) ?_ ?_); (focus ((try simp (disch := omega) only [go_sem, wrap_n]) <;> (try omega) <;> fail)))
          | ((first | refine acallH_scx ((ref_named_c key hk).re (by rw [hn])) rfl ?_ ?_ | refine acallQ_scx ((ref_named_c key hk).re (by rw [hn])) rfl ?_ ?_ | refine acallH_anyx ((ref_named_c key hk).re (by rw [hn])) ?_ ?_); (focus ((try simp (disch := omega) only [go_sem, wrap_n]) <;> (try omega) <;> fail)))); ((try simp (disch := omega) only [go_sem, wrap_n]) <;> (repeat' with_reducible refine And.intro ?_ ?_) <;> (try (with_reducible refine hK _ ?_; clear hK K))))
        | ((first | (with_reducible refine aunder_i ?_ ?_ <;> intro hg) | with_reducible intro hg) <;> (first | (exfalso; simp at hg; done) | (have hg' := hg; (try simp only [hcs, beq_iff_eq, ge_iff_le, gt_iff_lt] at hg'); ((try simp (disch := omega) only [hg, go_sem, wrap_n]) <;> (repeat' with_reducible refine And.intro ?_ ?_) <;> (try (with_reducible refine hK _ ?_; clear hK K))))))
                                                                | omega
      (refine aend_retc ?_ rfl ?_ ?_ ?_ ?_; (focus (first | exact .inl rfl | exact .inr rfl)); (iterate 3 (focus ((try simp (disch := omega) only [go_sem, wrap_n, default]) <;> (try omega) <;> fail))); (try simp (disch := omega) only [go_sem, wrap_n, default, I, B, S, inj, List.cons.injEq, and_true, true_and, and_self]))
  · have e : writeD d.files key s = (default, 3) := by unfold writeD; rw [if_pos (by simpa using hg)]
    rw [e]
    rw [Bool.not_eq_true] at hg
    refine acall_of tabOk Tryd.func67 rfl (by kernel_rfl) (by simp [Tryd.ntmps67]) ?_; simp only [Tryd.ntmps67, Tryd.results67, List.toList_toArray, apar, List.length_nil, List.length_cons, Nat.reduceAdd]
    repeat' first
      | (with_reducible first | refine AWP.seq ?_ | refine thenA_n ?_ | refine thenA_r ?_ | refine thenA_e ?_ | refine blkA_n ?_ | refine blkA_r ?_ | refine blkA_e ?_ | refine blkA_x (by decide) ?_ | refine AWP.skip ?_ | refine AWP.ret ?_ | refine AWP.exit ?_ | refine AWP.block ?_)
      | (with_reducible refine AWP.cond rfl ?_ ?_ <;> intro hc <;> (try simp only [hcs, beq_iff_eq, ge_iff_le, gt_iff_lt] at hc))
      | ((first
        | (with_reducible first | refine AWP.region tabOk ?_ | refine AWP.quietC mixed tabOk (by decide +kernel) ?_ | refine AWP.draw mixed tabOk (by decide +kernel) ?_ | refine AWP.drawE mixed tabOk (by decide +kernel) ?_ | refine AWP.drawG mixed tabOk (by decide +kernel) ?_); intro K hK
        | ((first | refine acallH_sc ((ref_good_d_c d h hw).re (by rw [hg])) rfl rfl ?_ ?_ ?_ | refine acallQ_sc ((ref_good_d_c d h hw).re (by rw [hg])) rfl rfl ?_ ?_ ?_); iterate 2 (focus ((try simp (disch := omega) only [go_sem, wrap_n]) <;> (try omega) <;> fail)))
        | ((first | refine acallH_anyr ((ref_good_d_c d h hw).re (by rw [hg])) rfl ?_ ?_); (focus ((try simp (disch := omega) only [go_sem, wrap_n]) <;> (try omega) <;> fail)))
        | ((first | refine acallH_scx ((ref_good_d_c d h hw).re (by rw [hg])) rfl ?_ ?_ | refine acallQ_scx ((ref_good_d_c d h hw).re (by rw [hg])) rfl ?_ ?_ | refine acallH_anyx ((ref_good_d_c d h hw).re (by rw [hg])) ?_ ?_); (focus ((try simp (disch := omega) only [go_sem, wrap_n]) <;> (try omega) <;> fail)))); ((try simp (disch := omega) only [go_sem, wrap_n]) <;> (repeat' with_reducible refine And.intro ?_ ?_) <;> (try (with_reducible refine hK _ ?_; clear hK K))))
      | ((first | (with_reducible refine aunder_i ?_ ?_ <;> intro hg) | with_reducible intro hg) <;> (first | (exfalso; simp at hg; done) | (have hg' := hg; (try simp only [hcs, beq_iff_eq, ge_iff_le, gt_iff_lt] at hg'); ((try simp (disch := omega) only [hg, go_sem, wrap_n]) <;> (repeat' with_reducible refine And.intro ?_ ?_) <;> (try (with_reducible refine hK _ ?_; clear hK K))))))
                                                              | omega
    (refine aend_retc ?_ rfl ?_ ?_ ?_ ?_; (focus (first | exact .inl rfl | exact .inr rfl)); (iterate 3 (focus ((try simp (disch := omega) only [go_sem, wrap_n, default]) <;> (try omega) <;> fail))); (try simp (disch := omega) only [go_sem, wrap_n, default, I, B, S, inj, List.cons.injEq, and_true, true_and, and_self]))
theorem write_wf {l : List AFile} {key s : List UInt8} : (writeD l key s).1.files.length * 48 ≤ 140737488351232 := by
  unfold writeD; split
  · decide
  · rename_i hg
    have hl := good_len (l := l) (by simpa using hg)
    split
    · decide
    · split
      · split
        · decide
        · show (l.set _ _).length * 48 ≤ _; rw [List.length_set]; omega
      · split
        · decide
        · split
          · decide
          · show (l.insertIdx _ _).length * 48 ≤ _; rw [ins_len _ _ _ place_le']; omega
theorem write_empty : writeD [] [97] [98] = (⟨[⟨[97], [], [98]⟩]⟩, 0) := by decide
end Go.Proofs.YtmpfhalheaeibaaDoor
