/- A part of what WalRecovers leans on: texts of this claim, one behind the other. No condition. -/
import Derived.Test.YtmpfhalheaeibaaDoorWalRecoversK10
namespace Go.Proofs.YtmpfhalheaeibaaDoor
set_option linter.unusedVariables false
set_option linter.unusedSimpArgs false
open Go Go.RowKit
set_option maxRecDepth 100000
set_option linter.unusedSimpArgs false
def writeD (l : List AFile) (key s : List UInt8) : ADisk × Int :=
  if goodD l = false then (default, 3) else if namedP key = false then (default, 2) else
    if key ∈ l.map AFile.name then
      (if 1048576 < (l.getD (place (l.map AFile.name) key) default).safe.length + (l.getD (place (l.map AFile.name) key) default).tail.length + s.length then (default, 1)
        else (⟨l.set (place (l.map AFile.name) key) ⟨(l.getD (place (l.map AFile.name) key) default).name, (l.getD (place (l.map AFile.name) key) default).safe, (l.getD (place (l.map AFile.name) key) default).tail ++ s⟩⟩, 0))
    else if 16 ≤ l.length then (default, 6) else if 1048576 < s.length then (default, 1) else (⟨l.insertIdx (place (l.map AFile.name) key) ⟨key, [], s⟩⟩, 0)
theorem good_len {l : List AFile} (h : goodD l = true) : l.length ≤ 16 := by unfold goodD at h; rw [decide_eq_true_eq] at h; exact h.1
theorem place_le' {l : List AFile} {key : List UInt8} : place (l.map AFile.name) key ≤ l.length := by have := place_le (l.map AFile.name) key; simpa using this
theorem write_c (d : ADisk) (key s : List UInt8) (hs : okS s) (hk : okS key) (h : d.files.length * 48 ≤ 140737488351232) (hw : ∀ f, f ∈ d.files → f.wf) : acall Tryd.prog [] 64 [d.av, S key, S s] (ret (.tup [(writeD d.files key s).1.av, I (writeD d.files key s).2])) := by
  obtain ⟨w0, w1, w2, w3⟩ := file_wf hw (place (d.files.map AFile.name) key)
  unfold okS at hs
  by_cases hg : goodD d.files = true
  · have hl16 := good_len hg
    by_cases hn : namedP key = true
    · have hpl' := place_le' (l := d.files) (key := key)
      by_cases hm : key ∈ d.files.map AFile.name
      · have hpl := place_lt hg hm
        have e : writeD d.files key s = (if 1048576 < (d.files.getD (place (d.files.map AFile.name) key) default).safe.length + (d.files.getD (place (d.files.map AFile.name) key) default).tail.length + s.length then (default, 1)
          else (⟨d.files.set (place (d.files.map AFile.name) key) ⟨(d.files.getD (place (d.files.map AFile.name) key) default).name, (d.files.getD (place (d.files.map AFile.name) key) default).safe, (d.files.getD (place (d.files.map AFile.name) key) default).tail ++ s⟩⟩, 0)) := by
          unfold writeD; rw [if_neg (by simp [hg]), if_neg (by simp [hn]), if_pos hm]
        rw [e]
        refine acall_of tabOk Tryd.func64 rfl (by kernel_rfl) (by simp [Tryd.ntmps64]) ?_; simp only [Tryd.ntmps64, Tryd.results64, List.toList_toArray, apar, List.length_nil, List.length_cons, Nat.reduceAdd]
        repeat' first
          | (with_reducible first | refine AWP.seq ?_ | refine thenA_n ?_ | refine thenA_r ?_ | refine thenA_e ?_ | refine blkA_n ?_ | refine blkA_r ?_ | refine blkA_e ?_ | refine blkA_x (by decide) ?_ | refine AWP.skip ?_ | refine AWP.ret ?_ | refine AWP.exit ?_ | refine AWP.block ?_)
          | (with_reducible refine AWP.cond rfl ?_ ?_ <;> intro hc <;> (try simp only [hcs, beq_iff_eq, ge_iff_le, gt_iff_lt] at hc))
          | ((first
            | (with_reducible first | refine AWP.region tabOk ?_ | refine AWP.quietC mixed tabOk (by decide +kernel) ?_ | refine AWP.draw mixed tabOk (by decide +kernel) ?_ | refine AWP.drawE mixed tabOk (by decide +kernel) ?_ | refine AWP.drawG mixed tabOk (by decide +kernel) ?_); intro K hK
            | ((first | refine acallH_sc ((good_d_c d h hw).re (by rw [hg])) rfl rfl ?_ ?_ ?_ | refine acallQ_sc ((good_d_c d h hw).re (by rw [hg])) rfl rfl ?_ ?_ ?_ | refine acallH_sc ((named_c key hk).re (by rw [hn])) rfl rfl ?_ ?_ ?_ | refine acallQ_sc ((named_c key hk).re (by rw [hn])) rfl rfl ?_ ?_ ?_ | refine acallH_sc ((find_c d key h hg).re (by rw [decide_eq_true hm])) rfl rfl ?_ ?_ ?_ | refine acallQ_sc ((find_c d key h hg).re (by rw [decide_eq_true hm])) rfl rfl ?_ ?_ ?_ | refine acallH_sc (copied_d_c d h) rfl rfl ?_ ?_ ?_ | refine acallQ_sc (copied_d_c d h) rfl rfl ?_ ?_ ?_); iterate 2 (focus ((try simp (disch := omega) only [go_sem, wrap_n, AFile.rgetD, getD_set, AFile.rset, getD_mapset, List.set_set]) <;> (try omega) <;> fail)))
            | ((first | refine acallH_anyr ((good_d_c d h hw).re (by rw [hg])) rfl ?_ ?_ | refine acallH_anyr ((named_c key hk).re (by rw [hn])) rfl ?_ ?_ | refine acallH_anyr ((find_c d key h hg).re (by rw [decide_eq_true hm])) rfl ?_ ?_ | refine acallH_anyr (copied_d_c d h) rfl ?_ ?_); (focus ((try simp (disch := omega) only [go_sem, wrap_n, AFile.rgetD, getD_set, AFile.rset, getD_mapset, List.set_set]) <;> (try omega) <;> fail)))
            | ((first | refine acallH_scx ((good_d_c d h hw).re (by rw [hg])) rfl ?_ ?_ | refine acallQ_scx ((good_d_c d h hw).re (by rw [hg])) rfl ?_ ?_ | refine acallH_anyx ((good_d_c d h hw).re (by rw [hg])) ?_ ?_); (focus ((try simp (disch := omega) only [go_sem, wrap_n, AFile.rgetD, getD_set, AFile.rset, getD_mapset, List.set_set]) <;> (try omega) <;> fail)))
            | ((first | refine acallH_scx ((named_c key hk).re (by rw [hn])) rfl ?_ ?_ | refine acallQ_scx ((named_c key hk).re (by rw [hn])) rfl ?_ ?_ | refine acallH_anyx ((named_c key hk).re (by rw [hn])) ?_ ?_); (focus ((try simp (disch := omega) only [go_sem, wrap_n, AFile.rgetD, getD_set, AFile.rset, getD_mapset, List.set_set]) <;> (try omega) <;> fail)))
            | ((first | refine acallH_scx ((find_c d key h hg).re (by rw [decide_eq_true hm])) rfl ?_ ?_ | refine acallQ_scx ((find_c d key h hg).re (by rw [decide_eq_true hm])) rfl ?_ ?_ | refine acallH_anyx ((find_c d key h hg).re (by rw [decide_eq_true hm])) ?_ ?_); (focus ((try simp (disch := omega) only [go_sem, wrap_n, AFile.rgetD, getD_set, AFile.rset, getD_mapset, List.set_set]) <;> (try omega) <;> fail)))
            | ((first | refine acallH_scx (copied_d_c d h) rfl ?_ ?_ | refine acallQ_scx (copied_d_c d h) rfl ?_ ?_ | refine acallH_anyx (copied_d_c d h) ?_ ?_); (focus ((try simp (disch := omega) only [go_sem, wrap_n, AFile.rgetD, getD_set, AFile.rset, getD_mapset, List.set_set]) <;> (try omega) <;> fail)))); ((try simp (disch := omega) only [go_sem, wrap_n, AFile.rgetD, getD_set, AFile.rset, getD_mapset, List.set_set]) <;> (repeat' with_reducible refine And.intro ?_ ?_) <;> (try (with_reducible refine hK _ ?_; clear hK K))))
          | ((first | (with_reducible refine aunder_i ?_ ?_ <;> intro hg) | with_reducible intro hg) <;> (first | (exfalso; simp at hg; done) | (have hg' := hg; (try simp only [hcs, beq_iff_eq, ge_iff_le, gt_iff_lt] at hg'); ((try simp (disch := omega) only [hg, go_sem, wrap_n, AFile.rgetD, getD_set, AFile.rset, getD_mapset, List.set_set]) <;> (repeat' with_reducible refine And.intro ?_ ?_) <;> (try (with_reducible refine hK _ ?_; clear hK K))))))
                                                                  | omega
        · rw [if_pos (by omega)]; (refine aend_retc ?_ rfl ?_ ?_ ?_ ?_; (focus (first | exact .inl rfl | exact .inr rfl)); (iterate 3 (focus ((try simp (disch := omega) only [go_sem, wrap_n, default]) <;> (try omega) <;> fail))); (try simp (disch := omega) only [go_sem, wrap_n, default, I, B, S, inj, List.cons.injEq, and_true, true_and, and_self]))
        · rw [if_neg (by omega)]; (refine aend_retc ?_ rfl ?_ ?_ ?_ ?_; (focus (first | exact .inl rfl | exact .inr rfl)); (iterate 3 (focus ((try simp (disch := omega) only [go_sem, wrap_n, take_map_set]) <;> (try omega) <;> fail))); (try simp (disch := omega) only [go_sem, wrap_n, take_map_set, I, B, S, inj, List.cons.injEq, and_true, true_and, and_self]))
      · by_cases hf : 16 ≤ d.files.length
        · have e : writeD d.files key s = (default, 6) := by unfold writeD; rw [if_neg (by simp [hg]), if_neg (by simp [hn]), if_neg hm, if_pos hf]
          rw [e]
          refine acall_of tabOk Tryd.func64 rfl (by kernel_rfl) (by simp [Tryd.ntmps64]) ?_; simp only [Tryd.ntmps64, Tryd.results64, List.toList_toArray, apar, List.length_nil, List.length_cons, Nat.reduceAdd]
          repeat' first
            | (with_reducible first | refine AWP.seq ?_ | refine thenA_n ?_ | refine thenA_r ?_ | refine thenA_e ?_ | refine blkA_n ?_ | refine blkA_r ?_ | refine blkA_e ?_ | refine blkA_x (by decide) ?_ | refine AWP.skip ?_ | refine AWP.ret ?_ | refine AWP.exit ?_ | refine AWP.block ?_)
            | (with_reducible refine AWP.cond rfl ?_ ?_ <;> intro hc <;> (try simp only [hcs, beq_iff_eq, ge_iff_le, gt_iff_lt] at hc))
            | ((first
              | (with_reducible first | refine AWP.region tabOk ?_ | refine AWP.quietC mixed tabOk (by decide +kernel) ?_ | refine AWP.draw mixed tabOk (by decide +kernel) ?_ | refine AWP.drawE mixed tabOk (by decide +kernel) ?_ | refine AWP.drawG mixed tabOk (by decide +kernel) ?_); intro K hK
              | ((first | refine acallH_sc ((good_d_c d h hw).re (by rw [hg])) rfl rfl ?_ ?_ ?_ | refine acallQ_sc ((good_d_c d h hw).re (by rw [hg])) rfl rfl ?_ ?_ ?_ | refine acallH_sc ((named_c key hk).re (by rw [hn])) rfl rfl ?_ ?_ ?_ | refine acallQ_sc ((named_c key hk).re (by rw [hn])) rfl rfl ?_ ?_ ?_ | refine acallH_sc ((find_c d key h hg).re (by rw [decide_eq_false hm])) rfl rfl ?_ ?_ ?_ | refine acallQ_sc ((find_c d key h hg).re (by rw [decide_eq_false hm])) rfl rfl ?_ ?_ ?_ | refine acallH_sc (copied_d_c d h) rfl rfl ?_ ?_ ?_ | refine acallQ_sc (copied_d_c d h) rfl rfl ?_ ?_ ?_); iterate 2 (focus ((try simp (disch := omega) only [go_sem, wrap_n]) <;> (try omega) <;> fail)))
              | ((first | refine acallH_anyr ((good_d_c d h hw).re (by rw [hg])) rfl ?_ ?_ | refine acallH_anyr ((named_c key hk).re (by rw [hn])) rfl ?_ ?_ | refine acallH_anyr ((find_c d key h hg).re (by rw [decide_eq_false hm])) rfl ?_ ?_ | refine acallH_anyr (copied_d_c d h) rfl ?_ ?_); (focus ((try simp (disch := omega) only [go_sem, wrap_n]) <;> (try omega) <;> fail)))
              | ((first | refine acallH_scx ((good_d_c d h hw).re (by rw [hg])) rfl ?_ ?_ | refine acallQ_scx ((good_d_c d h hw).re (by rw [hg])) rfl ?_ ?_ | refine acallH_anyx ((good_d_c d h hw).re (by rw [hg])) ?_ ?_); (focus ((try simp (disch := omega) only [go_sem, wrap_n]) <;> (try omega) <;> fail)))
              | ((first | refine acallH_scx ((named_c key hk).re (by rw [hn])) rfl ?_ ?_ | refine acallQ_scx ((named_c key hk).re (by rw [hn])) rfl ?_ ?_ | refine acallH_anyx ((named_c key hk).re (by rw [hn])) ?_ ?_); (focus ((try simp (disch := omega) only [go_sem, wrap_n]) <;> (try omega) <;> fail)))
              | ((first | refine acallH_scx ((find_c d key h hg).re (by rw [decide_eq_false hm])) rfl ?_ ?_ | refine acallQ_scx ((find_c d key h hg).re (by rw [decide_eq_false hm])) rfl ?_ ?_ | refine acallH_anyx ((find_c d key h hg).re (by rw [decide_eq_false hm])) ?_ ?_); (focus ((try simp (disch := omega) only [go_sem, wrap_n]) <;> (try omega) <;> fail)))
              | ((first | refine acallH_scx (copied_d_c d h) rfl ?_ ?_ | refine acallQ_scx (copied_d_c d h) rfl ?_ ?_ | refine acallH_anyx (copied_d_c d h) ?_ ?_); (focus ((try simp (disch := omega) only [go_sem, wrap_n]) <;> (try omega) <;> fail)))); ((try simp (disch := omega) only [go_sem, wrap_n]) <;> (repeat' with_reducible refine And.intro ?_ ?_) <;> (try (with_reducible refine hK _ ?_; clear hK K))))
            | ((first | (with_reducible refine aunder_i ?_ ?_ <;> intro hg) | with_reducible intro hg) <;> (first | (exfalso; simp at hg; done) | (have hg' := hg; (try simp only [hcs, beq_iff_eq, ge_iff_le, gt_iff_lt] at hg'); ((try simp (disch := omega) only [hg, go_sem, wrap_n]) <;> (repeat' with_reducible refine And.intro ?_ ?_) <;> (try (with_reducible refine hK _ ?_; clear hK K))))))
                                                                    | omega
          (refine aend_retc ?_ rfl ?_ ?_ ?_ ?_; (focus (first | exact .inl rfl | exact .inr rfl)); (iterate 3 (focus ((try simp (disch := omega) only [go_sem, wrap_n, default]) <;> (try omega) <;> fail))); (try simp (disch := omega) only [go_sem, wrap_n, default, I, B, S, inj, List.cons.injEq, and_true, true_and, and_self]))
        · have e : writeD d.files key s = (if 1048576 < s.length then (default, 1) else (⟨d.files.insertIdx (place (d.files.map AFile.name) key) ⟨key, [], s⟩⟩, 0)) := by
            unfold writeD; rw [if_neg (by simp [hg]), if_neg (by simp [hn]), if_neg hm, if_neg hf]
          rw [e]
          have hil := ins_len d.files (place (d.files.map AFile.name) key) (⟨key, [], []⟩ : AFile) hpl'
          have hil2 := ins_len d.files (place (d.files.map AFile.name) key) (⟨key, [], s⟩ : AFile) hpl'
          refine acall_of tabOk Tryd.func64 rfl (by kernel_rfl) (by simp [Tryd.ntmps64]) ?_; simp only [Tryd.ntmps64, Tryd.results64, List.toList_toArray, apar, List.length_nil, List.length_cons, Nat.reduceAdd]
          repeat' first
            | (with_reducible first | refine AWP.seq ?_ | refine thenA_n ?_ | refine thenA_r ?_ | refine thenA_e ?_ | refine blkA_n ?_ | refine blkA_r ?_ | refine blkA_e ?_ | refine blkA_x (by decide) ?_ | refine AWP.skip ?_ | refine AWP.ret ?_ | refine AWP.exit ?_ | refine AWP.block ?_)
            | (with_reducible refine AWP.cond rfl ?_ ?_ <;> intro hc <;> (try simp only [hcs, beq_iff_eq, ge_iff_le, gt_iff_lt] at hc))
            | ((first
              | (with_reducible first | refine AWP.region tabOk ?_ | refine AWP.quietC mixed tabOk (by decide +kernel) ?_ | refine AWP.draw mixed tabOk (by decide +kernel) ?_ | refine AWP.drawE mixed tabOk (by decide +kernel) ?_ | refine AWP.drawG mixed tabOk (by decide +kernel) ?_); intro K hK
              | ((first | refine acallH_sc ((good_d_c d h hw).re (by rw [hg])) rfl rfl ?_ ?_ ?_ | refine acallQ_sc ((good_d_c d h hw).re (by rw [hg])) rfl rfl ?_ ?_ ?_ | refine acallH_sc ((named_c key hk).re (by rw [hn])) rfl rfl ?_ ?_ ?_ | refine acallQ_sc ((named_c key hk).re (by rw [hn])) rfl rfl ?_ ?_ ?_ | refine acallH_sc ((find_c d key h hg).re (by rw [decide_eq_false hm])) rfl rfl ?_ ?_ ?_ | refine acallQ_sc ((find_c d key h hg).re (by rw [decide_eq_false hm])) rfl rfl ?_ ?_ ?_ | refine acallH_sc (copied_d_c d h) rfl rfl ?_ ?_ ?_ | refine acallQ_sc (copied_d_c d h) rfl rfl ?_ ?_ ?_); iterate 2 (focus ((try simp (disch := omega) only [go_sem, wrap_n, AFile.rins, getD_insmap, AFile.rset, set_ins, List.length_nil, List.nil_append]) <;> (try omega) <;> fail)))
              | ((first | refine acallH_anyr ((good_d_c d h hw).re (by rw [hg])) rfl ?_ ?_ | refine acallH_anyr ((named_c key hk).re (by rw [hn])) rfl ?_ ?_ | refine acallH_anyr ((find_c d key h hg).re (by rw [decide_eq_false hm])) rfl ?_ ?_ | refine acallH_anyr (copied_d_c d h) rfl ?_ ?_); (focus ((try simp (disch := omega) only [go_sem, wrap_n, AFile.rins, getD_insmap, AFile.rset, set_ins, List.length_nil, List.nil_append]) <;> (try omega) <;> fail)))
              | ((first | refine acallH_scx ((good_d_c d h hw).re (by rw [hg])) rfl ?_ ?_ | refine acallQ_scx ((good_d_c d h hw).re (by rw [hg])) rfl ?_ ?_ | refine acallH_anyx ((good_d_c d h hw).re (by rw [hg])) ?_ ?_); (focus ((try simp (disch := omega) only [go_sem, wrap_n, AFile.rins, getD_insmap, AFile.rset, set_ins, List.length_nil, List.nil_append]) <;> (try omega) <;> fail)))
              | ((first | refine acallH_scx ((named_c key hk).re (by rw [hn])) rfl ?_ ?_ | refine acallQ_scx ((named_c key hk).re (by rw [hn])) rfl ?_ ?_ | refine acallH_anyx ((named_c key hk).re (by rw [hn])) ?_ ?_); (focus ((try simp (disch := omega) only [go_sem, wrap_n, AFile.rins, getD_insmap, AFile.rset, set_ins, List.length_nil, List.nil_append]) <;> (try omega) <;> fail)))
              | ((first | refine acallH_scx ((find_c d key h hg).re (by rw [decide_eq_false hm])) rfl ?_ ?_ | refine acallQ_scx ((find_c d key h hg).re (by rw [decide_eq_false hm])) rfl ?_ ?_ | refine acallH_anyx ((find_c d key h hg).re (by rw [decide_eq_false hm])) ?_ ?_); (focus ((try simp (disch := omega) only [go_sem, wrap_n, AFile.rins, getD_insmap, AFile.rset, set_ins, List.length_nil, List.nil_append]) <;> (try omega) <;> fail)))
              | ((first | refine acallH_scx (copied_d_c d h) rfl ?_ ?_ | refine acallQ_scx (copied_d_c d h) rfl ?_ ?_ | refine acallH_anyx (copied_d_c d h) ?_ ?_); (focus ((try simp (disch := omega) only [go_sem, wrap_n, AFile.rins, getD_insmap, AFile.rset, set_ins, List.length_nil, List.nil_append]) <;> (try omega) <;> fail)))
              | (refine acallH_own (insFile_c (d.files.map AFile.row) [.str key, .str [], .str []] (place (d.files.map AFile.name) key) (by simpa using hpl') (by simp only [List.length_map]; omega)) ?_ ?_ ?_; (focus ((try simp (disch := omega) only [inj, List.cons.injEq, and_self, List.nodup_cons, List.not_mem_nil, List.mem_cons, not_false_eq_true, List.nodup_nil, go_sem, wrap_n, AFile.rins, getD_insmap, AFile.rset, set_ins, List.length_nil, List.nil_append]) <;> (try omega) <;> fail)); (focus ((try simp (disch := omega) only [inj, List.cons.injEq, and_self, List.nodup_cons, List.not_mem_nil, List.mem_cons, not_false_eq_true, List.nodup_nil, go_sem, wrap_n, AFile.rins, getD_insmap, AFile.rset, set_ins, List.length_nil, List.nil_append]) <;> (try omega) <;> (try decide) <;> fail)))); ((try simp (disch := omega) only [go_sem, wrap_n, AFile.rins, getD_insmap, AFile.rset, set_ins, List.length_nil, List.nil_append]) <;> (repeat' with_reducible refine And.intro ?_ ?_) <;> (try (with_reducible refine hK _ ?_; clear hK K))))
            | ((first | (with_reducible refine aunder_i ?_ ?_ <;> intro hg) | with_reducible intro hg) <;> (first | (exfalso; simp at hg; done) | (have hg' := hg; (try simp only [hcs, beq_iff_eq, ge_iff_le, gt_iff_lt] at hg'); ((try simp (disch := omega) only [hg, go_sem, wrap_n, AFile.rins, getD_insmap, AFile.rset, set_ins, List.length_nil, List.nil_append]) <;> (repeat' with_reducible refine And.intro ?_ ?_) <;> (try (with_reducible refine hK _ ?_; clear hK K))))))
                                                                    | omega
          · rw [if_pos (by omega)]; (refine aend_retc ?_ rfl ?_ ?_ ?_ ?_; (focus (first | exact .inl rfl | exact .inr rfl)); (iterate 3 (focus ((try simp (disch := omega) only [go_sem, wrap_n, default]) <;> (try omega) <;> fail))); (try simp (disch := omega) only [go_sem, wrap_n, default, I, B, S, inj, List.cons.injEq, and_true, true_and, and_self]))
          · rw [if_neg (by omega)]; (refine aend_retc ?_ rfl ?_ ?_ ?_ ?_; (focus (first | exact .inl rfl | exact .inr rfl)); (iterate 3 (focus ((try simp (disch := omega) only [go_sem, wrap_n, take_map_ins]) <;> (try omega) <;> fail))); (try simp (disch := omega) only [go_sem, wrap_n, take_map_ins, I, B, S, inj, List.cons.injEq, and_true, true_and, and_self]))
    · have e : writeD d.files key s = (default, 2) := by unfold writeD; rw [if_neg (by simp [hg]), if_pos (by simpa using hn)]
      rw [e]
      rw [Bool.not_eq_true] at hn
      refine acall_of tabOk Tryd.func64 rfl (by kernel_rfl) (by simp [Tryd.ntmps64]) ?_; simp only [Tryd.ntmps64, Tryd.results64, List.toList_toArray, apar, List.length_nil, List.length_cons, Nat.reduceAdd]
      repeat' first
        | (with_reducible first | refine AWP.seq ?_ | refine thenA_n ?_ | refine thenA_r ?_ | refine thenA_e ?_ | refine blkA_n ?_ | refine blkA_r ?_ | refine blkA_e ?_ | refine blkA_x (by decide) ?_ | refine AWP.skip ?_ | refine AWP.ret ?_ | refine AWP.exit ?_ | refine AWP.block ?_)
        | (with_reducible refine AWP.cond rfl ?_ ?_ <;> intro hc <;> (try simp only [hcs, beq_iff_eq, ge_iff_le, gt_iff_lt] at hc))
        | ((first
          | (with_reducible first | refine AWP.region tabOk ?_ | refine AWP.quietC mixed tabOk (by decide +kernel) ?_ | refine AWP.draw mixed tabOk (by decide +kernel) ?_ | refine AWP.drawE mixed tabOk (by decide +kernel) ?_ | refine AWP.drawG mixed tabOk (by decide +kernel) ?_); intro K hK
          | ((first | refine acallH_sc ((good_d_c d h hw).re (by rw [hg])) rfl rfl ?_ ?_ ?_ | refine acallQ_sc ((good_d_c d h hw).re (by rw [hg])) rfl rfl ?_ ?_ ?_ | refine acallH_sc ((named_c key hk).re (by rw [hn])) rfl rfl ?_ ?_ ?_ | refine acallQ_sc ((named_c key hk).re (by rw [hn])) rfl rfl ?_ ?_ ?_); iterate 2 (focus ((try simp (disch := omega) only [go_sem, wrap_n]) <;> (try omega) <;> fail)))
          | ((first | refine acallH_anyr ((good_d_c d h hw).re (by rw [hg])) rfl ?_ ?_ | refine acallH_anyr ((named_c key hk).re (by rw [hn])) rfl ?_ ?_); (focus ((try simp (disch := omega) only [go_sem, wrap_n]) <;> (try omega) <;> fail)))
          | ((first | refine acallH_scx ((good_d_c d h hw).re (by rw [hg])) rfl ?_ ?_ | refine acallQ_scx ((good_d_c d h hw).re (by rw [hg])) rfl ?_ ?_ | refine acallH_anyx ((good_d_c d h hw).re (by rw [hg])) ?_ ?_); (focus ((try simp (disch := omega) only [go_sem, wrap_n]) <;> (try omega) <;> fail)))
          | ((first | refine acallH_scx ((named_c key hk).re (by rw [hn])) rfl ?_ ?_ | refine acallQ_scx ((named_c key hk).re (by rw [hn])) rfl ?_ ?_ | refine acallH_anyx ((named_c key hk).re (by rw [hn])) ?_ ?_); (focus ((try simp (disch := omega) only [go_sem, wrap_n]) <;> (try omega) <;> fail)))); ((try simp (disch := omega) only [go_sem, wrap_n]) <;> (repeat' with_reducible refine And.intro ?_ ?_) <;> (try (with_reducible refine hK _ ?_; clear hK K))))
        | ((first | (with_reducible refine aunder_i ?_ ?_ <;> intro hg) | with_reducible intro hg) <;> (first | (exfalso; simp at hg; done) | (have hg' := hg; (try simp only [hcs, beq_iff_eq, ge_iff_le, gt_iff_lt] at hg'); ((try simp (disch := omega) only [hg, go_sem, wrap_n]) <;> (repeat' with_reducible refine And.intro ?_ ?_) <;> (try (with_reducible refine hK _ ?_; clear hK K))))))
                                                                | omega
      (refine aend_retc ?_ rfl ?_ ?_ ?_ ?_; (focus (first | exact .inl rfl | exact .inr rfl)); (iterate 3 (focus ((try simp (disch := omega) only [go_sem, wrap_n, default]) <;> (try omega) <;> fail))); (try simp (disch := omega) only [go_sem, wrap_n, default, I, B, S, inj, List.cons.injEq, and_true, true_and, and_self]))
  · have e : writeD d.files key s = (default, 3) := by unfold writeD; rw [if_pos (by simpa using hg)]
    rw [e]
    rw [Bool.not_eq_true] at hg
    refine acall_of tabOk Tryd.func64 rfl (by kernel_rfl) (by simp [Tryd.ntmps64]) ?_; simp only [Tryd.ntmps64, Tryd.results64, List.toList_toArray, apar, List.length_nil, List.length_cons, Nat.reduceAdd]
    repeat' first
      | (with_reducible first | refine AWP.seq ?_ | refine thenA_n ?_ | refine thenA_r ?_ | refine thenA_e ?_ | refine blkA_n ?_ | refine blkA_r ?_ | refine blkA_e ?_ | refine blkA_x (by decide) ?_ | refine AWP.skip ?_ | refine AWP.ret ?_ | refine AWP.exit ?_ | refine AWP.block ?_)
      | (with_reducible refine AWP.cond rfl ?_ ?_ <;> intro hc <;> (try simp only [hcs, beq_iff_eq, ge_iff_le, gt_iff_lt] at hc))
      | ((first
        | (with_reducible first | refine AWP.region tabOk ?_ | refine AWP.quietC mixed tabOk (by decide +kernel) ?_ | refine AWP.draw mixed tabOk (by decide +kernel) ?_ | refine AWP.drawE mixed tabOk (by decide +kernel) ?_ | refine AWP.drawG mixed tabOk (by decide +kernel) ?_); intro K hK
        | ((first | refine acallH_sc ((good_d_c d h hw).re (by rw [hg])) rfl rfl ?_ ?_ ?_ | refine acallQ_sc ((good_d_c d h hw).re (by rw [hg])) rfl rfl ?_ ?_ ?_); iterate 2 (focus ((try simp (disch := omega) only [go_sem, wrap_n]) <;> (try omega) <;> fail)))
        | ((first | refine acallH_anyr ((good_d_c d h hw).re (by rw [hg])) rfl ?_ ?_); (focus ((try simp (disch := omega) only [go_sem, wrap_n]) <;> (try omega) <;> fail)))
        | ((first | refine acallH_scx ((good_d_c d h hw).re (by rw [hg])) rfl ?_ ?_ | refine acallQ_scx ((good_d_c d h hw).re (by rw [hg])) rfl ?_ ?_ | refine acallH_anyx ((good_d_c d h hw).re (by rw [hg])) ?_ ?_); (focus ((try simp (disch := omega) only [go_sem, wrap_n]) <;> (try omega) <;> fail)))); ((try simp (disch := omega) only [go_sem, wrap_n]) <;> (repeat' with_reducible refine And.intro ?_ ?_) <;> (try (with_reducible refine hK _ ?_; clear hK K))))
      | ((first | (with_reducible refine aunder_i ?_ ?_ <;> intro hg) | with_reducible intro hg) <;> (first | (exfalso; simp at hg; done) | (have hg' := hg; (try simp only [hcs, beq_iff_eq, ge_iff_le, gt_iff_lt] at hg'); ((try simp (disch := omega) only [hg, go_sem, wrap_n]) <;> (repeat' with_reducible refine And.intro ?_ ?_) <;> (try (with_reducible refine hK _ ?_; clear hK K))))))
                                                              | omega
    (refine aend_retc ?_ rfl ?_ ?_ ?_ ?_; (focus (first | exact .inl rfl | exact .inr rfl)); (iterate 3 (focus ((try simp (disch := omega) only [go_sem, wrap_n, default]) <;> (try omega) <;> fail))); (try simp (disch := omega) only [go_sem, wrap_n, default, I, B, S, inj, List.cons.injEq, and_true, true_and, and_self]))
theorem at_place {l : List AFile} {key : List UInt8} {k : Nat} {x : AFile} (hg : goodD l = true) (hm : ¬ key ∈ l.map AFile.name) (hkl : k ≤ l.length) (hk2 : ∀ j, k ≤ j → j < l.length → key < (l.getD j default).name)
    (hc : (k : Int) ≤ 0 ∨ ((l.insertIdx k x).getD (k - 1) default).name < key ∨ ((l.insertIdx k x).getD (k - 1) default).name = key) : place (l.map AFile.name) key = k := by
  have hnm : ∀ k, (l.map AFile.name).getD k [] = (l.getD k default).name := fun k => getD_map AFile.name l k default
  refine place_eq (by simpa using hkl) (fun j hj => ?_) fun h1 => ?_
  · rw [hnm]
    have hk0 : 0 < k := by omega
    have c1 : (l.getD (k - 1) default).name < key := by
      rw [ins_get_lt _ _ _ _ _ hkl (by omega)] at hc
      rcases hc with c | c | c
      · omega
      · exact c
      · exact absurd ((mem_iff_getD _ [] key).2 ⟨k - 1, by simp; omega, by rw [hnm]; exact c⟩) hm
    by_cases e : j = k - 1
    · subst e; exact c1
    · exact List.lt_trans (by have := rises_lt (goodD_rises hg) (i := j) (j := k - 1) (by omega) (by simp; omega); rwa [hnm, hnm] at this) c1
  · rw [hnm]; exact fun h2 => List.lt_irrefl _ (List.lt_trans h2 (hk2 k (Nat.le_refl _) (by simpa using h1)))
theorem ref_write_c (d : ADisk) (key s : List UInt8) (hs : okS s) (hk : okS key) (h : d.files.length * 48 ≤ 140737488351232) (hw : ∀ f, f ∈ d.files → f.wf) : acall Tryd.prog [] 67 [d.av, S key, S s] (ret (.tup [(writeD d.files key s).1.av, I (writeD d.files key s).2])) := by
  obtain ⟨w0, w1, w2, w3⟩ := file_wf hw (place (d.files.map AFile.name) key)
  unfold okS at hs
  by_cases hg : goodD d.files = true
  · have hl16 := good_len hg
    by_cases hn : namedP key = true
    · have hpl' := place_le' (l := d.files) (key := key)
      by_cases hm : key ∈ d.files.map AFile.name
      · have hpl := place_lt hg hm
        have e : writeD d.files key s = (if 1048576 < (d.files.getD (place (d.files.map AFile.name) key) default).safe.length + (d.files.getD (place (d.files.map AFile.name) key) default).tail.length + s.length then (default, 1)
          else (⟨d.files.set (place (d.files.map AFile.name) key) ⟨(d.files.getD (place (d.files.map AFile.name) key) default).name, (d.files.getD (place (d.files.map AFile.name) key) default).safe, (d.files.getD (place (d.files.map AFile.name) key) default).tail ++ s⟩⟩, 0)) := by
          unfold writeD; rw [if_neg (by simp [hg]), if_neg (by simp [hn]), if_pos hm]
        rw [e]
        refine acall_of tabOk Tryd.func67 rfl (by kernel_rfl) (by simp [Tryd.ntmps67]) ?_; simp only [Tryd.ntmps67, Tryd.results67, List.toList_toArray, apar, List.length_nil, List.length_cons, Nat.reduceAdd]
        repeat' first
          | (with_reducible first | refine AWP.seq ?_ | refine thenA_n ?_ | refine thenA_r ?_ | refine thenA_e ?_ | refine blkA_n ?_ | refine blkA_r ?_ | refine blkA_e ?_ | refine blkA_x (by decide) ?_ | refine AWP.skip ?_ | refine AWP.ret ?_ | refine AWP.exit ?_ | refine AWP.block ?_)
          | (with_reducible refine AWP.cond rfl ?_ ?_ <;> intro hc <;> (try simp only [hcs, beq_iff_eq, ge_iff_le, gt_iff_lt] at hc))
          | ((first
            | (with_reducible first | refine AWP.region tabOk ?_ | refine AWP.quietC mixed tabOk (by decide +kernel) ?_ | refine AWP.draw mixed tabOk (by decide +kernel) ?_ | refine AWP.drawE mixed tabOk (by decide +kernel) ?_ | refine AWP.drawG mixed tabOk (by decide +kernel) ?_); intro K hK
            | ((first | refine acallH_sc ((ref_good_d_c d h hw).re (by rw [hg])) rfl rfl ?_ ?_ ?_ | refine acallQ_sc ((ref_good_d_c d h hw).re (by rw [hg])) rfl rfl ?_ ?_ ?_ | refine acallH_sc ((ref_named_c key hk).re (by rw [hn])) rfl rfl ?_ ?_ ?_ | refine acallQ_sc ((ref_named_c key hk).re (by rw [hn])) rfl rfl ?_ ?_ ?_ | refine acallH_sc ((file_c d key h hg).re (by rw [fileI_yes hm])) rfl rfl ?_ ?_ ?_ | refine acallQ_sc ((file_c d key h hg).re (by rw [fileI_yes hm])) rfl rfl ?_ ?_ ?_ | refine acallH_sc (ref_copied_o_c d h) rfl rfl ?_ ?_ ?_ | refine acallQ_sc (ref_copied_o_c d h) rfl rfl ?_ ?_ ?_); iterate 2 (focus ((try simp (disch := omega) only [go_sem, wrap_n, AFile.rgetD, getD_set, AFile.rset, getD_mapset, List.set_set]) <;> (try omega) <;> fail)))
            | ((first | refine acallH_anyr ((ref_good_d_c d h hw).re (by rw [hg])) rfl ?_ ?_ | refine acallH_anyr ((ref_named_c key hk).re (by rw [hn])) rfl ?_ ?_ | refine acallH_anyr ((file_c d key h hg).re (by rw [fileI_yes hm])) rfl ?_ ?_ | refine acallH_anyr (ref_copied_o_c d h) rfl ?_ ?_); (focus ((try simp (disch := omega) only [go_sem, wrap_n, AFile.rgetD, getD_set, AFile.rset, getD_mapset, List.set_set]) <;> (try omega) <;> fail)))
            | ((first | refine acallH_scx ((ref_good_d_c d h hw).re (by rw [hg])) rfl ?_ ?_ | refine acallQ_scx ((ref_good_d_c d h hw).re (by rw [hg])) rfl ?_ ?_ | refine acallH_anyx ((ref_good_d_c d h hw).re (by rw [hg])) ?_ ?_); (focus ((try simp (disch := omega) only [go_sem, wrap_n, AFile.rgetD, getD_set, AFile.rset, getD_mapset, List.set_set]) <;> (try omega) <;> fail)))
            | ((first | refine acallH_scx ((ref_named_c key hk).re (by rw [hn])) rfl ?_ ?_ | refine acallQ_scx ((ref_named_c key hk).re (by rw [hn])) rfl ?_ ?_ | refine acallH_anyx ((ref_named_c key hk).re (by rw [hn])) ?_ ?_); (focus ((try simp (disch := omega) only [go_sem, wrap_n, AFile.rgetD, getD_set, AFile.rset, getD_mapset, List.set_set]) <;> (try omega) <;> fail)))
            | ((first | refine acallH_scx ((file_c d key h hg).re (by rw [fileI_yes hm])) rfl ?_ ?_ | refine acallQ_scx ((file_c d key h hg).re (by rw [fileI_yes hm])) rfl ?_ ?_ | refine acallH_anyx ((file_c d key h hg).re (by rw [fileI_yes hm])) ?_ ?_); (focus ((try simp (disch := omega) only [go_sem, wrap_n, AFile.rgetD, getD_set, AFile.rset, getD_mapset, List.set_set]) <;> (try omega) <;> fail)))
            | ((first | refine acallH_scx (ref_copied_o_c d h) rfl ?_ ?_ | refine acallQ_scx (ref_copied_o_c d h) rfl ?_ ?_ | refine acallH_anyx (ref_copied_o_c d h) ?_ ?_); (focus ((try simp (disch := omega) only [go_sem, wrap_n, AFile.rgetD, getD_set, AFile.rset, getD_mapset, List.set_set]) <;> (try omega) <;> fail)))); ((try simp (disch := omega) only [go_sem, wrap_n, AFile.rgetD, getD_set, AFile.rset, getD_mapset, List.set_set]) <;> (repeat' with_reducible refine And.intro ?_ ?_) <;> (try (with_reducible refine hK _ ?_; clear hK K))))
          | ((first | (with_reducible refine aunder_i ?_ ?_ <;> intro hg) | with_reducible intro hg) <;> (first | (exfalso; simp at hg; done) | (have hg' := hg; (try simp only [hcs, beq_iff_eq, ge_iff_le, gt_iff_lt] at hg'); ((try simp (disch := omega) only [hg, go_sem, wrap_n, AFile.rgetD, getD_set, AFile.rset, getD_mapset, List.set_set]) <;> (repeat' with_reducible refine And.intro ?_ ?_) <;> (try (with_reducible refine hK _ ?_; clear hK K))))))
                                                                  | omega
        · rw [if_pos (by omega)]; (refine aend_retc ?_ rfl ?_ ?_ ?_ ?_; (focus (first | exact .inl rfl | exact .inr rfl)); (iterate 3 (focus ((try simp (disch := omega) only [go_sem, wrap_n, default]) <;> (try omega) <;> fail))); (try simp (disch := omega) only [go_sem, wrap_n, default, I, B, S, inj, List.cons.injEq, and_true, true_and, and_self]))
        · rw [if_neg (by omega)]; (refine aend_retc ?_ rfl ?_ ?_ ?_ ?_; (focus (first | exact .inl rfl | exact .inr rfl)); (iterate 3 (focus ((try simp (disch := omega) only [go_sem, wrap_n, take_map_set]) <;> (try omega) <;> fail))); (try simp (disch := omega) only [go_sem, wrap_n, take_map_set, I, B, S, inj, List.cons.injEq, and_true, true_and, and_self]))
      · by_cases hf : 16 ≤ d.files.length
        · have e : writeD d.files key s = (default, 6) := by unfold writeD; rw [if_neg (by simp [hg]), if_neg (by simp [hn]), if_neg hm, if_pos hf]
          rw [e]
          refine acall_of tabOk Tryd.func67 rfl (by kernel_rfl) (by simp [Tryd.ntmps67]) ?_; simp only [Tryd.ntmps67, Tryd.results67, List.toList_toArray, apar, List.length_nil, List.length_cons, Nat.reduceAdd]
          repeat' first
            | (with_reducible first | refine AWP.seq ?_ | refine thenA_n ?_ | refine thenA_r ?_ | refine thenA_e ?_ | refine blkA_n ?_ | refine blkA_r ?_ | refine blkA_e ?_ | refine blkA_x (by decide) ?_ | refine AWP.skip ?_ | refine AWP.ret ?_ | refine AWP.exit ?_ | refine AWP.block ?_)
            | (with_reducible refine AWP.cond rfl ?_ ?_ <;> intro hc <;> (try simp only [hcs, beq_iff_eq, ge_iff_le, gt_iff_lt] at hc))
            | ((first
              | (with_reducible first | refine AWP.region tabOk ?_ | refine AWP.quietC mixed tabOk (by decide +kernel) ?_ | refine AWP.draw mixed tabOk (by decide +kernel) ?_ | refine AWP.drawE mixed tabOk (by decide +kernel) ?_ | refine AWP.drawG mixed tabOk (by decide +kernel) ?_); intro K hK
              | ((first | refine acallH_sc ((ref_good_d_c d h hw).re (by rw [hg])) rfl rfl ?_ ?_ ?_ | refine acallQ_sc ((ref_good_d_c d h hw).re (by rw [hg])) rfl rfl ?_ ?_ ?_ | refine acallH_sc ((ref_named_c key hk).re (by rw [hn])) rfl rfl ?_ ?_ ?_ | refine acallQ_sc ((ref_named_c key hk).re (by rw [hn])) rfl rfl ?_ ?_ ?_ | refine acallH_sc ((file_c d key h hg).re (by rw [fileI_no hm])) rfl rfl ?_ ?_ ?_ | refine acallQ_sc ((file_c d key h hg).re (by rw [fileI_no hm])) rfl rfl ?_ ?_ ?_ | refine acallH_sc (ref_copied_o_c d h) rfl rfl ?_ ?_ ?_ | refine acallQ_sc (ref_copied_o_c d h) rfl rfl ?_ ?_ ?_); iterate 2 (focus ((try simp (disch := omega) only [go_sem, wrap_n]) <;> (try omega) <;> fail)))
              | ((first | refine acallH_anyr ((ref_good_d_c d h hw).re (by rw [hg])) rfl ?_ ?_ | refine acallH_anyr ((ref_named_c key hk).re (by rw [hn])) rfl ?_ ?_ | refine acallH_anyr ((file_c d key h hg).re (by rw [fileI_no hm])) rfl ?_ ?_ | refine acallH_anyr (ref_copied_o_c d h) rfl ?_ ?_); (focus ((try simp (disch := omega) only [go_sem, wrap_n]) <;> (try omega) <;> fail)))
              | ((first | refine acallH_scx ((ref_good_d_c d h hw).re (by rw [hg])) rfl ?_ ?_ | refine acallQ_scx ((ref_good_d_c d h hw).re (by rw [hg])) rfl ?_ ?_ | refine acallH_anyx ((ref_good_d_c d h hw).re (by rw [hg])) ?_ ?_); (focus ((try simp (disch := omega) only [go_sem, wrap_n]) <;> (try omega) <;> fail)))
              | ((first | refine acallH_scx ((ref_named_c key hk).re (by rw [hn])) rfl ?_ ?_ | refine acallQ_scx ((ref_named_c key hk).re (by rw [hn])) rfl ?_ ?_ | refine acallH_anyx ((ref_named_c key hk).re (by rw [hn])) ?_ ?_); (focus ((try simp (disch := omega) only [go_sem, wrap_n]) <;> (try omega) <;> fail)))
              | ((first | refine acallH_scx ((file_c d key h hg).re (by rw [fileI_no hm])) rfl ?_ ?_ | refine acallQ_scx ((file_c d key h hg).re (by rw [fileI_no hm])) rfl ?_ ?_ | refine acallH_anyx ((file_c d key h hg).re (by rw [fileI_no hm])) ?_ ?_); (focus ((try simp (disch := omega) only [go_sem, wrap_n]) <;> (try omega) <;> fail)))
              | ((first | refine acallH_scx (ref_copied_o_c d h) rfl ?_ ?_ | refine acallQ_scx (ref_copied_o_c d h) rfl ?_ ?_ | refine acallH_anyx (ref_copied_o_c d h) ?_ ?_); (focus ((try simp (disch := omega) only [go_sem, wrap_n]) <;> (try omega) <;> fail)))); ((try simp (disch := omega) only [go_sem, wrap_n]) <;> (repeat' with_reducible refine And.intro ?_ ?_) <;> (try (with_reducible refine hK _ ?_; clear hK K))))
            | ((first | (with_reducible refine aunder_i ?_ ?_ <;> intro hg) | with_reducible intro hg) <;> (first | (exfalso; simp at hg; done) | (have hg' := hg; (try simp only [hcs, beq_iff_eq, ge_iff_le, gt_iff_lt] at hg'); ((try simp (disch := omega) only [hg, go_sem, wrap_n]) <;> (repeat' with_reducible refine And.intro ?_ ?_) <;> (try (with_reducible refine hK _ ?_; clear hK K))))))
                                                                    | omega
          (refine aend_retc ?_ rfl ?_ ?_ ?_ ?_; (focus (first | exact .inl rfl | exact .inr rfl)); (iterate 3 (focus ((try simp (disch := omega) only [go_sem, wrap_n, default]) <;> (try omega) <;> fail))); (try simp (disch := omega) only [go_sem, wrap_n, default, I, B, S, inj, List.cons.injEq, and_true, true_and, and_self]))
        · have e : writeD d.files key s = (if 1048576 < s.length then (default, 1) else (⟨d.files.insertIdx (place (d.files.map AFile.name) key) ⟨key, [], s⟩⟩, 0)) := by
            unfold writeD; rw [if_neg (by simp [hg]), if_neg (by simp [hn]), if_neg hm, if_neg hf]
          rw [e]
          have hil := ins_len d.files (place (d.files.map AFile.name) key) (⟨key, [], []⟩ : AFile) hpl'
          have hil2 := ins_len d.files (place (d.files.map AFile.name) key) (⟨key, [], s⟩ : AFile) hpl'
          refine acall_of tabOk Tryd.func67 rfl (by kernel_rfl) (by simp [Tryd.ntmps67]) ?_; simp only [Tryd.ntmps67, Tryd.results67, List.toList_toArray, apar, List.length_nil, List.length_cons, Nat.reduceAdd]
          repeat' first
            | (with_reducible first | refine AWP.seq ?_ | refine thenA_n ?_ | refine thenA_r ?_ | refine thenA_e ?_ | refine blkA_n ?_ | refine blkA_r ?_ | refine blkA_e ?_ | refine blkA_x (by decide) ?_ | refine AWP.skip ?_ | refine AWP.ret ?_ | refine AWP.exit ?_ | refine AWP.block ?_)
            | (with_reducible refine AWP.cond rfl ?_ ?_ <;> intro hc <;> (try simp only [hcs, beq_iff_eq, ge_iff_le, gt_iff_lt] at hc))
            | ((first
              | (with_reducible first | refine AWP.region tabOk ?_ | refine AWP.quietC mixed tabOk (by decide +kernel) ?_ | refine AWP.draw mixed tabOk (by decide +kernel) ?_ | refine AWP.drawE mixed tabOk (by decide +kernel) ?_ | refine AWP.drawG mixed tabOk (by decide +kernel) ?_); intro K hK
              | ((first | refine acallH_sc ((ref_good_d_c d h hw).re (by rw [hg])) rfl rfl ?_ ?_ ?_ | refine acallQ_sc ((ref_good_d_c d h hw).re (by rw [hg])) rfl rfl ?_ ?_ ?_ | refine acallH_sc ((ref_named_c key hk).re (by rw [hn])) rfl rfl ?_ ?_ ?_ | refine acallQ_sc ((ref_named_c key hk).re (by rw [hn])) rfl rfl ?_ ?_ ?_ | refine acallH_sc ((file_c d key h hg).re (by rw [fileI_no hm])) rfl rfl ?_ ?_ ?_ | refine acallQ_sc ((file_c d key h hg).re (by rw [fileI_no hm])) rfl rfl ?_ ?_ ?_ | refine acallH_sc (ref_copied_o_c d h) rfl rfl ?_ ?_ ?_ | refine acallQ_sc (ref_copied_o_c d h) rfl rfl ?_ ?_ ?_); iterate 2 (focus ((try simp (disch := omega) only [go_sem, wrap_n, AFile.rsnoc]) <;> (try omega) <;> fail)))
              | ((first | refine acallH_anyr ((ref_good_d_c d h hw).re (by rw [hg])) rfl ?_ ?_ | refine acallH_anyr ((ref_named_c key hk).re (by rw [hn])) rfl ?_ ?_ | refine acallH_anyr ((file_c d key h hg).re (by rw [fileI_no hm])) rfl ?_ ?_ | refine acallH_anyr (ref_copied_o_c d h) rfl ?_ ?_); (focus ((try simp (disch := omega) only [go_sem, wrap_n, AFile.rsnoc]) <;> (try omega) <;> fail)))
              | ((first | refine acallH_scx ((ref_good_d_c d h hw).re (by rw [hg])) rfl ?_ ?_ | refine acallQ_scx ((ref_good_d_c d h hw).re (by rw [hg])) rfl ?_ ?_ | refine acallH_anyx ((ref_good_d_c d h hw).re (by rw [hg])) ?_ ?_); (focus ((try simp (disch := omega) only [go_sem, wrap_n, AFile.rsnoc]) <;> (try omega) <;> fail)))
              | ((first | refine acallH_scx ((ref_named_c key hk).re (by rw [hn])) rfl ?_ ?_ | refine acallQ_scx ((ref_named_c key hk).re (by rw [hn])) rfl ?_ ?_ | refine acallH_anyx ((ref_named_c key hk).re (by rw [hn])) ?_ ?_); (focus ((try simp (disch := omega) only [go_sem, wrap_n, AFile.rsnoc]) <;> (try omega) <;> fail)))
              | ((first | refine acallH_scx ((file_c d key h hg).re (by rw [fileI_no hm])) rfl ?_ ?_ | refine acallQ_scx ((file_c d key h hg).re (by rw [fileI_no hm])) rfl ?_ ?_ | refine acallH_anyx ((file_c d key h hg).re (by rw [fileI_no hm])) ?_ ?_); (focus ((try simp (disch := omega) only [go_sem, wrap_n, AFile.rsnoc]) <;> (try omega) <;> fail)))
              | ((first | refine acallH_scx (ref_copied_o_c d h) rfl ?_ ?_ | refine acallQ_scx (ref_copied_o_c d h) rfl ?_ ?_ | refine acallH_anyx (ref_copied_o_c d h) ?_ ?_); (focus ((try simp (disch := omega) only [go_sem, wrap_n, AFile.rsnoc]) <;> (try omega) <;> fail)))); ((try simp (disch := omega) only [go_sem, wrap_n, AFile.rsnoc]) <;> (repeat' with_reducible refine And.intro ?_ ?_) <;> (try (with_reducible refine hK _ ?_; clear hK K))))
            | ((first | (with_reducible refine aunder_i ?_ ?_ <;> intro hg) | with_reducible intro hg) <;> (first | (exfalso; simp at hg; done) | (have hg' := hg; (try simp only [hcs, beq_iff_eq, ge_iff_le, gt_iff_lt] at hg'); ((try simp (disch := omega) only [hg, go_sem, wrap_n, AFile.rsnoc]) <;> (repeat' with_reducible refine And.intro ?_ ?_) <;> (try (with_reducible refine hK _ ?_; clear hK K))))))
                                                                    | omega
          have e8 : ((d.files.length + 1 : Nat) : Int) - 1 = (d.files.length : Nat) := by omega
          have hrr := goodD_rises hg
          have hnm : ∀ k, (d.files.map AFile.name).getD k [] = (d.files.getD k default).name := fun k => getD_map AFile.name d.files k default
          refine AWP.loopB (ι := Nat) (fun k => k ≤ d.files.length ∧ ∀ j, k ≤ j → j < d.files.length → key < (d.files.getD j default).name) (fun k => k) [1, 2, 3, 6] (fun k => [(8, I k)]) (fun k => [.cells [.osl 4 3 0 (d.files.length + 1)], .cells [.d (.sc (.slice none 0 0))], .dead, .rows 3 [[.str key, .str [], .str []]], .rows 3 ((d.files.insertIdx k ⟨key, [], []⟩).map AFile.row)]) d.files.length ?_ ?_ ?_
          · exact ⟨Nat.le_refl _, fun j h1 h2 => by omega⟩
          · simp only [go_sem, ins_end, e8]; (refine SImp.same ?_; simp (disch := omega) only [go_sem, wrap_n, Int.natCast_add])
          intro k ⟨hkl, hk2⟩
          have hik := ins_len d.files k (⟨key, [], []⟩ : AFile) hkl
          have hik2 := ins_len d.files k (⟨key, [], s⟩ : AFile) hkl
          simp only [go_sem]
          repeat' first
            | (with_reducible first | refine AWP.seq ?_ | refine thenA_n ?_ | refine thenA_r ?_ | refine thenA_e ?_ | refine blkA_n ?_ | refine blkA_r ?_ | refine blkA_e ?_ | refine blkA_x (by decide) ?_ | refine AWP.skip ?_ | refine AWP.ret ?_ | refine AWP.exit ?_ | refine AWP.block ?_)
            | (with_reducible refine AWP.cond rfl ?_ ?_ <;> intro hc <;> (try simp only [hcs, beq_iff_eq, ge_iff_le, gt_iff_lt] at hc))
            | ((first
              | (refine AWP.plan (Plan.takes [0, 1, 2, 3, 4, 6, 7, 8, 9, 10, 11, 12, 13, 14, 15, 16, 17, 18] (.fork 5 (Plan.takes [19, 20, 21] .done) 19 (Plan.takes [5, 20, 21] .done))) mixed tabOk (by decide +kernel) ?_; intro K hK)
              | (with_reducible first | refine AWP.region tabOk ?_ | refine AWP.quietC mixed tabOk (by decide +kernel) ?_ | refine AWP.draw mixed tabOk (by decide +kernel) ?_ | refine AWP.drawE mixed tabOk (by decide +kernel) ?_ | refine AWP.drawG mixed tabOk (by decide +kernel) ?_); intro K hK); ((try simp (disch := omega) only [go_sem, wrap_n, AFile.rgetD, getD_ins, strLt_eq, toNat_pr, AFile.rset, List.length_set, getD_mapset, set_ins]) <;> (repeat' with_reducible refine And.intro ?_ ?_) <;> (try (with_reducible refine hK _ ?_; clear hK K))))
            | ((first | (with_reducible refine aunder_i ?_ ?_ <;> intro hg) | with_reducible intro hg) <;> (first | (exfalso; simp at hg; done) | (have hg' := hg; (try simp only [hcs, beq_iff_eq, ge_iff_le, gt_iff_lt] at hg'); ((try simp (disch := omega) only [hg, go_sem, wrap_n, AFile.rgetD, getD_ins, strLt_eq, toNat_pr, AFile.rset, List.length_set, getD_mapset, set_ins]) <;> (repeat' with_reducible refine And.intro ?_ ?_) <;> (try (with_reducible refine hK _ ?_; clear hK K))))))
                                                                    | omega
          iterate 2
            · obtain ⟨c0, c1, c2⟩ := hc
              rw [ins_get_lt _ _ _ _ _ hkl (by omega)] at c1 c2
              have e9 : (k : Int) - 1 = ((k - 1 : Nat) : Int) := by omega
              have e10 : (⟨((d.files.insertIdx k (⟨key, [], []⟩ : AFile)).getD (k - 1) default).name, ((d.files.insertIdx k (⟨key, [], []⟩ : AFile)).getD (k - 1) default).safe, ((d.files.insertIdx k (⟨key, [], []⟩ : AFile)).getD (k - 1) default).tail⟩ : AFile) = d.files.getD (k - 1) default := by
                rw [ins_get_lt _ _ _ _ _ hkl (by omega)]
              refine ⟨k - 1, ⟨by omega, fun j h1 h2 => ?_⟩, by omega, ?_⟩
              · by_cases e : j = k - 1
                · subst e; exact lt_of_not c1 c2
                · exact hk2 j (by omega) h2
              rw [e10, ins_swap _ _ _ _ hkl (by omega), e9]
              (refine SImp.same ?_; simp (disch := omega) only [go_sem, wrap_n, Int.natCast_add])
          · rename_i hc1
            have epl := at_place hg hm hkl hk2 hc1
            rw [if_pos (by omega)]; (refine aend_retc ?_ rfl ?_ ?_ ?_ ?_; (focus (first | exact .inl rfl | exact .inr rfl)); (iterate 3 (focus ((try simp (disch := omega) only [go_sem, wrap_n, default]) <;> (try omega) <;> fail))); (try simp (disch := omega) only [go_sem, wrap_n, default, I, B, S, inj, List.cons.injEq, and_true, true_and, and_self]))
          · rename_i hc1
            have epl := at_place hg hm hkl hk2 hc1
            rw [if_neg (by omega), epl]; (refine aend_retc ?_ rfl ?_ ?_ ?_ ?_; (focus (first | exact .inl rfl | exact .inr rfl)); (iterate 3 (focus ((try simp (disch := omega) only [go_sem, wrap_n, take_map_ins]) <;> (try omega) <;> fail))); (try simp (disch := omega) only [go_sem, wrap_n, take_map_ins, I, B, S, inj, List.cons.injEq, and_true, true_and, and_self]))
    · have e : writeD d.files key s = (default, 2) := by unfold writeD; rw [if_neg (by simp [hg]), if_pos (by simpa using hn)]
      rw [e]
      rw [Bool.not_eq_true] at hn
      refine acall_of tabOk Tryd.func67 rfl (by kernel_rfl) (by simp [Tryd.ntmps67]) ?_; simp only [Tryd.ntmps67, Tryd.results67, List.toList_toArray, apar, List.length_nil, List.length_cons, Nat.reduceAdd]
      repeat' first
        | (with_reducible first | refine AWP.seq ?_ | refine thenA_n ?_ | refine thenA_r ?_ | refine thenA_e ?_ | refine blkA_n ?_ | refine blkA_r ?_ | refine blkA_e ?_ | refine blkA_x (by decide) ?_ | refine AWP.skip ?_ | refine AWP.ret ?_ | refine AWP.exit ?_ | refine AWP.block ?_)
        | (with_reducible refine AWP.cond rfl ?_ ?_ <;> intro hc <;> (try simp only [hcs, beq_iff_eq, ge_iff_le, gt_iff_lt] at hc))
        | ((first
          | (with_reducible first | refine AWP.region tabOk ?_ | refine AWP.quietC mixed tabOk (by decide +kernel) ?_ | refine AWP.draw mixed tabOk (by decide +kernel) ?_ | refine AWP.drawE mixed tabOk (by decide +kernel) ?_ | refine AWP.drawG mixed tabOk (by decide +kernel) ?_); intro K hK
          | ((first | refine acallH_sc ((ref_good_d_c d h hw).re (by rw [hg])) rfl rfl ?_ ?_ ?_ | refine acallQ_sc ((ref_good_d_c d h hw).re (by rw [hg])) rfl rfl ?_ ?_ ?_ | refine acallH_sc ((ref_named_c key hk).re (by rw [hn])) rfl rfl ?_ ?_ ?_ | refine acallQ_sc ((ref_named_c key hk).re (by rw [hn])) rfl rfl ?_ ?_ ?_); iterate 2 (focus ((try simp (disch := omega) only [go_sem, wrap_n]) <;> (try omega) <;> fail)))
          | ((first | refine acallH_anyr ((ref_good_d_c d h hw).re (by rw [hg])) rfl ?_ ?_ | refine acallH_anyr ((ref_named_c key hk).re (by rw [hn])) rfl ?_ ?_); (focus ((try simp (disch := omega) only [go_sem, wrap_n]) <;> (try omega) <;> fail)))
          | ((first | refine acallH_scx ((ref_good_d_c d h hw).re (by rw [hg])) rfl ?_ ?_ | refine acallQ_scx ((ref_good_d_c d h hw).re (by rw [hg])) rfl ?_ ?_ | refine acallH_anyx ((ref_good_d_c d h hw).re (by rw [hg])) ?_ ?_); (focus ((try simp (disch := omega) only [go_sem, wrap_n]) <;> (try omega) <;> fail)))
          | ((first | refine acallH_scx ((ref_named_c key hk).re (by rw [hn])) rfl ?_ ?_ | refine acallQ_scx ((ref_named_c key hk).re (by rw [hn])) rfl ?_ ?_ | refine acallH_anyx ((ref_named_c key hk).re (by rw [hn])) ?_ ?_); (focus ((try simp (disch := omega) only [go_sem, wrap_n]) <;> (try omega) <;> fail)))); ((try simp (disch := omega) only [go_sem, wrap_n]) <;> (repeat' with_reducible refine And.intro ?_ ?_) <;> (try (with_reducible refine hK _ ?_; clear hK K))))
        | ((first | (with_reducible refine aunder_i ?_ ?_ <;> intro hg) | with_reducible intro hg) <;> (first | (exfalso; simp at hg; done) | (have hg' := hg; (try simp only [hcs, beq_iff_eq, ge_iff_le, gt_iff_lt] at hg'); ((try simp (disch := omega) only [hg, go_sem, wrap_n]) <;> (repeat' with_reducible refine And.intro ?_ ?_) <;> (try (with_reducible refine hK _ ?_; clear hK K))))))
                                                                | omega
      (refine aend_retc ?_ rfl ?_ ?_ ?_ ?_; (focus (first | exact .inl rfl | exact .inr rfl)); (iterate 3 (focus ((try simp (disch := omega) only [go_sem, wrap_n, default]) <;> (try omega) <;> fail))); (try simp (disch := omega) only [go_sem, wrap_n, default, I, B, S, inj, List.cons.injEq, and_true, true_and, and_self]))
  · have e : writeD d.files key s = (default, 3) := by unfold writeD; rw [if_pos (by simpa using hg)]
    rw [e]
    rw [Bool.not_eq_true] at hg
    refine acall_of tabOk Tryd.func67 rfl (by kernel_rfl) (by simp [Tryd.ntmps67]) ?_; simp only [Tryd.ntmps67, Tryd.results67, List.toList_toArray, apar, List.length_nil, List.length_cons, Nat.reduceAdd]
    repeat' first
      | (with_reducible first | refine AWP.seq ?_ | refine thenA_n ?_ | refine thenA_r ?_ | refine thenA_e ?_ | refine blkA_n ?_ | refine blkA_r ?_ | refine blkA_e ?_ | refine blkA_x (by decide) ?_ | refine AWP.skip ?_ | refine AWP.ret ?_ | refine AWP.exit ?_ | refine AWP.block ?_)
      | (with_reducible refine AWP.cond rfl ?_ ?_ <;> intro hc <;> (try simp only [hcs, beq_iff_eq, ge_iff_le, gt_iff_lt] at hc))
      | ((first
        | (with_reducible first | refine AWP.region tabOk ?_ | refine AWP.quietC mixed tabOk (by decide +kernel) ?_ | refine AWP.draw mixed tabOk (by decide +kernel) ?_ | refine AWP.drawE mixed tabOk (by decide +kernel) ?_ | refine AWP.drawG mixed tabOk (by decide +kernel) ?_); intro K hK
        | ((first | refine acallH_sc ((ref_good_d_c d h hw).re (by rw [hg])) rfl rfl ?_ ?_ ?_ | refine acallQ_sc ((ref_good_d_c d h hw).re (by rw [hg])) rfl rfl ?_ ?_ ?_); iterate 2 (focus ((try simp (disch := omega) only [go_sem, wrap_n]) <;> (try omega) <;> fail)))
        | ((first | refine acallH_anyr ((ref_good_d_c d h hw).re (by rw [hg])) rfl ?_ ?_); (focus ((try simp (disch := omega) only [go_sem, wrap_n]) <;> (try omega) <;> fail)))
        | ((first | refine acallH_scx ((ref_good_d_c d h hw).re (by rw [hg])) rfl ?_ ?_ | refine acallQ_scx ((ref_good_d_c d h hw).re (by rw [hg])) rfl ?_ ?_ | refine acallH_anyx ((ref_good_d_c d h hw).re (by rw [hg])) ?_ ?_); (focus ((try simp (disch := omega) only [go_sem, wrap_n]) <;> (try omega) <;> fail)))); ((try simp (disch := omega) only [go_sem, wrap_n]) <;> (repeat' with_reducible refine And.intro ?_ ?_) <;> (try (with_reducible refine hK _ ?_; clear hK K))))
      | ((first | (with_reducible refine aunder_i ?_ ?_ <;> intro hg) | with_reducible intro hg) <;> (first | (exfalso; simp at hg; done) | (have hg' := hg; (try simp only [hcs, beq_iff_eq, ge_iff_le, gt_iff_lt] at hg'); ((try simp (disch := omega) only [hg, go_sem, wrap_n]) <;> (repeat' with_reducible refine And.intro ?_ ?_) <;> (try (with_reducible refine hK _ ?_; clear hK K))))))
                                                              | omega
    (refine aend_retc ?_ rfl ?_ ?_ ?_ ?_; (focus (first | exact .inl rfl | exact .inr rfl)); (iterate 3 (focus ((try simp (disch := omega) only [go_sem, wrap_n, default]) <;> (try omega) <;> fail))); (try simp (disch := omega) only [go_sem, wrap_n, default, I, B, S, inj, List.cons.injEq, and_true, true_and, and_self]))
theorem write_wf {l : List AFile} {key s : List UInt8} : (writeD l key s).1.files.length * 48 ≤ 140737488351232 := by
  unfold writeD; split
  · decide
  · rename_i hg
    have hl := good_len (l := l) (by simpa using hg)
    split
    · decide
    · split
      · split
        · decide
        · show (l.set _ _).length * 48 ≤ _; rw [List.length_set]; omega
      · split
        · decide
        · split
          · decide
          · show (l.insertIdx _ _).length * 48 ≤ _; rw [ins_len _ _ _ place_le']; omega
end Go.Proofs.YtmpfhalheaeibaaDoor
namespace Go.Proofs.YtmpfhalheaeibaaDoor
set_option linter.unusedVariables false
set_option linter.unusedSimpArgs false
open Go Go.RowKit
set_option maxRecDepth 100000
def logN : List UInt8 := [108, 111, 103]
theorem logN_ok : okS logN := by unfold okS; decide
theorem write_files_wf {l : List AFile} {key s : List UInt8} (hk : okS key) (hw : ∀ f, f ∈ l → f.wf) : ∀ f, f ∈ (writeD l key s).1.files → f.wf := by
  intro f hf
  unfold writeD at hf
  split at hf
  · cases hf
  · split at hf
    · cases hf
    · split at hf
      · split at hf
        · cases hf
        · obtain ⟨g1, g2, g3, g4⟩ := file_wf hw (place (l.map AFile.name) key)
          rcases List.mem_or_eq_of_mem_set hf with h | h
          · exact hw f h
          · subst h
            exact ⟨g1, g3, by show okS _; unfold okS; rw [List.length_append]; omega⟩
      · split at hf
        · cases hf
        · split at hf
          · cases hf
          · rename_i h1
            have hf' : f ∈ l.insertIdx (place (l.map AFile.name) key) ⟨key, [], s⟩ := hf
            rw [List.mem_insertIdx place_le'] at hf'
            rcases hf' with h | h
            · subst h; exact ⟨hk, by show okS []; unfold okS; decide, by show okS s; unfold okS; omega⟩
            · exact hw f h
theorem encT_ok {t : ATxn} (h : goodT t = 0) : okS (encT t).1 ∧ (encT t).2 = 0 := by
  obtain ⟨s1, s2⟩ := goodT_small h
  unfold encT; rw [if_pos h]
  refine ⟨?_, rfl⟩
  unfold okS encB
  simp only [List.length_append, headB_len, beB_len]; omega
end Go.Proofs.YtmpfhalheaeibaaDoor
namespace Go.Proofs.YtmpfhalheaeibaaDoor
set_option linter.unusedVariables false
set_option linter.unusedSimpArgs false
open Go Go.RowKit
set_option maxRecDepth 100000
theorem numN_fold (l : List UInt8) : ∀ a : Nat, l.foldl (fun v (x : UInt8) => v * 256 + x.toNat) a = a * 256 ^ l.length + numN l := by
  induction l with
  | nil => intro a; simp [numN]
  | cons x l ih =>
    intro a
    unfold numN
    rw [List.foldl_cons, List.foldl_cons, ih, ih, List.length_cons, Nat.pow_succ]
    have : (a * 256 + x.toNat) * 256 ^ l.length = a * (256 ^ l.length * 256) + x.toNat * 256 ^ l.length := by rw [Nat.add_mul, Nat.mul_assoc, Nat.mul_comm 256 (256 ^ l.length)]
    rw [this, Nat.zero_mul, Nat.zero_add, Nat.add_assoc]
theorem numN_cons (x : UInt8) (l : List UInt8) : numN (x :: l) = x.toNat * 256 ^ l.length + numN l := by
  unfold numN
  rw [List.foldl_cons, numN_fold, Nat.zero_mul, Nat.zero_add]; rfl
theorem numN_bound : ∀ l : List UInt8, numN l < 256 ^ l.length
  | [] => by simp [numN]
  | x :: l => by
    have h := numN_bound l
    have hx := x.toNat_lt
    rw [numN_cons, List.length_cons, Nat.pow_succ]
    have : x.toNat * 256 ^ l.length ≤ 255 * 256 ^ l.length := Nat.mul_le_mul_right _ (by omega)
    omega
theorem pow8 (n : Nat) : (2 : Int) ^ (8 * n) = ((256 ^ n : Nat) : Int) := by
  rw [Int.pow_mul]; simp
theorem beB_numN : ∀ (l : List UInt8) (k : Int), beB l.length ((numN l : Int) + (256 ^ l.length : Nat) * k) = l
  | [], _ => rfl
  | x :: l, k => by
    have hb := numN_bound l
    have hx := x.toNat_lt
    rw [List.length_cons, beB]
    have e : ((numN (x :: l) : Nat) : Int) + ((256 ^ (l.length + 1) : Nat) : Int) * k = (numN l : Int) + ((256 ^ l.length : Nat) : Int) * (x.toNat + 256 * k) := by
      rw [numN_cons, Nat.pow_succ, Int.natCast_add, Int.natCast_mul, Int.natCast_mul, Int.mul_add, Int.mul_comm (x.toNat : Int), Int.mul_assoc]
      generalize ((256 ^ l.length : Nat) : Int) * _ = a
      simp only [Int.cast_ofNat_Int] at *
      omega
    rw [e, beB_numN l _]
    congr 1
    unfold byteAt
    rw [pow8, Int.add_mul_ediv_left _ _ (by have : 0 < 256 ^ l.length := Nat.pow_pos (by decide)
                                            omega), Int.ediv_eq_zero_of_lt (by omega) (by omega), Int.zero_add]
    rw [show ((x.toNat : Int) + 256 * k) % 256 = x.toNat from by omega, Int.toNat_natCast, UInt8.ofNat_toNat]
theorem beB_N (l : List UInt8) (n : Nat) (h : l.length = n) : beB n (numN l : Nat) = l := by
  subst h
  have := beB_numN l 0
  rwa [Int.mul_zero, Int.add_zero] at this
theorem numW_N (l : List UInt8) : ∃ k : Int, numW l = (numN l : Int) + 18446744073709551616 * k := by
  generalize hn : l.length = n
  induction n generalizing l with
  | zero => rw [List.length_eq_zero_iff.1 hn]; exact ⟨0, rfl⟩
  | succ n ih =>
    have e : l = l.take (n + 1) := by rw [← hn, List.take_length]
    obtain ⟨k, hk⟩ := ih (l.take n) (by rw [List.length_take]; omega)
    have h1 := numW_snoc l n (by omega)
    have h2 := numN_snoc l n (by omega)
    rw [← e] at h1 h2
    rw [h1, h2, hk, wrap_i64e]
    refine ⟨(((numN (l.take n) : Int) + 18446744073709551616 * k) * 256 + (l.getD n 0).toNat - (numN (l.take n) * 256 + (l.getD n 0).toNat : Nat) - 18446744073709551616 * ((((numN (l.take n) : Int) + 18446744073709551616 * k) * 256 + (l.getD n 0).toNat + 9223372036854775808) / 18446744073709551616)) / 18446744073709551616, ?_⟩
    omega
theorem beB_W (l : List UInt8) (h : l.length = 8) : beB 8 (numW l) = l := by
  obtain ⟨k, hk⟩ := numW_N l
  have := beB_numN l k
  rw [h] at this
  rw [hk]; exact this
theorem byteAt_one (x : UInt8) : byteAt 0 (x.toNat : Int) = x := by
  have h := x.toNat_lt
  unfold byteAt
  simp only [Nat.mul_zero, Int.pow_zero, Int.ediv_one]
  rw [show ((x.toNat : Int)) % 256 = x.toNat from by omega, Int.toNat_natCast, UInt8.ofNat_toNat]
theorem body_back {b : List UInt8} (h : bodyOk b) : bodyB (bodyT b) = b := by
  unfold bodyOk at h
  have l1 : (b.take 8).length = 8 := by rw [List.length_take]; omega
  have l2 : ((b.drop 9).take 4).length = 4 := by rw [List.length_take, List.length_drop]; omega
  have l3 : ((b.drop 13).take 4).length = 4 := by rw [List.length_take, List.length_drop]; omega
  have l4 : ((b.drop 17).take 4).length = 4 := by rw [List.length_take, List.length_drop]; omega
  have l5 : ((b.drop 22).take (bP b)).length = bP b := by rw [List.length_take, List.length_drop]; omega
  have l6 : ((b.drop (22 + bP b)).take 2).length = 2 := by rw [List.length_take, List.length_drop]; omega
  have l7 : (b.drop (24 + bP b)).length = bD b := by rw [List.length_drop]; omega
  unfold bodyB b7 b6 b5 bodyT
  simp only [l5, l7]
  rw [beB_W _ l1, beB_N _ 4 l2, beB_N _ 4 l3, beB_N _ 4 l4, byteAt_one]
  rw [show ((bP b : Nat) : Int) = ((b.getD 21 0).toNat : Int) from rfl, byteAt_one]
  rw [show bD b = numN ((b.drop (22 + bP b)).take 2) from rfl, beB_N _ 2 l6]
  have one (k : Nat) (hk : k < b.length) : [b.getD k 0] = (b.drop k).take 1 := by
    rw [List.drop_eq_getElem_cons hk, List.getD_eq_getElem?_getD, List.getElem?_eq_getElem hk]; rfl
  rw [one 8 (by omega), one 21 (by omega)]
  have j (m n k : Nat) (hk : m + n = k) : b.take m ++ (b.drop m).take n = b.take k := by subst hk; exact List.take_add.symm
  rw [j 8 1 9 rfl, j 9 4 13 rfl, j 13 4 17 rfl, j 17 4 21 rfl, j 21 1 22 rfl, j 22 (bP b) (22 + bP b) rfl, j (22 + bP b) 2 (24 + bP b) (by omega), List.take_append_drop]
theorem decT_yes {s : List UInt8} (h : (decT s).2.2 = 0) : ¬ noHead s ∧ ¬ noRoom s ∧ ¬ noSum s ∧ bodyOk (sB s) ∧ goodT (bodyT (sB s)) = 0 := by
  by_cases h1 : noHead s
  · rw [decT_a h1] at h; cases h
  by_cases h2 : noRoom s
  · rw [decT_b h1 h2] at h; cases h
  by_cases h3 : noSum s
  · rw [decT_c h1 h2 h3] at h; cases h
  by_cases h4 : bodyOk (sB s)
  case neg => rw [decT_d h1 h2 h3 h4] at h; cases h
  by_cases h5 : goodT (bodyT (sB s)) = 0
  · exact ⟨h1, h2, h3, h4, h5⟩
  · rw [decT_e h1 h2 h3 h4 h5] at h; exact absurd h h5
theorem enc_back {s : List UInt8} (h : (decT s).2.2 = 0) : encT (decT s).1 = (s.take (sN s + 7), 0) := by
  obtain ⟨h1, h2, h3, h4, h5⟩ := decT_yes h
  rw [decT_f h1 h2 h3 h4 h5]
  unfold noHead at h1
  unfold noRoom at h2
  unfold noSum at h3
  have h3' : numN ((s.drop (sN s + 3)).take 4) = sumN (s.take (sN s + 3)) := Classical.byContradiction h3
  have h84 : s.getD 0 0 = 84 := Classical.byContradiction fun e => h1 (.inr e)
  have hl : ((bodyB (bodyT (sB s))).length : Int) = (sN s : Nat) := by
    rw [body_back h4]; unfold sB; rw [List.length_take, List.length_drop]; omega
  have l2 : ((s.drop 1).take 2).length = 2 := by rw [List.length_take, List.length_drop]; omega
  have l4 : ((s.drop (sN s + 3)).take 4).length = 4 := by rw [List.length_take, List.length_drop]; omega
  have one : [(84 : UInt8)] = s.take 1 := by
    rw [← h84, List.getD_eq_getElem?_getD, List.getElem?_eq_getElem (by omega)]
    rcases s with _ | ⟨x, s⟩
    · simp at h1
    · rfl
  have j (m n k : Nat) (hk : m + n = k) : s.take m ++ (s.drop m).take n = s.take k := by subst hk; exact List.take_add.symm
  have hh : headB (bodyT (sB s)) = s.take (sN s + 3) := by
    unfold headB
    rw [hl, body_back h4, one, show sN s = numN ((s.drop 1).take 2) from rfl, beB_N _ 2 l2, j 1 2 3 rfl]
    exact j 3 _ _ (by rw [Nat.add_comm]; rfl)
  unfold encT
  rw [if_pos h5]
  unfold encB
  rw [hh, ← h3', beB_N _ 4 l4, j (sN s + 3) 4 (sN s + 7) rfl]
def encs (l : List ATxn) : List UInt8 := (l.map fun t => (encT t).1).flatten
theorem encs_nil : encs [] = [] := rfl
theorem encs_snoc (l : List ATxn) (t : ATxn) : encs (l ++ [t]) = encs l ++ (encT t).1 := by unfold encs; simp
theorem encs_take (l : List ATxn) (k : Nat) (h : k < l.length) : encs (l.take (k + 1)) = encs (l.take k) ++ (encT (l.getD k default)).1 := by rw [take_snoc l k h, encs_snoc]
def logOk (l : List ATxn) : Prop := (∀ k, k + 1 < l.length → (l.getD k default).zxid < (l.getD (k + 1) default).zxid) ∧ ∀ t, t ∈ l → goodT t = 0
theorem logOk_nil : logOk [] := ⟨fun k h => by simp at h, fun t h => by cases h⟩
theorem logOk_snoc {l : List ATxn} {t : ATxn} (h : logOk l) (hz : 0 < l.length → lastZ l < t.zxid) (ht : goodT t = 0) : logOk (l ++ [t]) := by
  have g1 : ∀ j, j < l.length → (l ++ [t]).getD j default = l.getD j default := fun j hj => by
    rw [List.getD_eq_getElem?_getD, List.getElem?_append_left hj, List.getD_eq_getElem?_getD]
  have g2 : (l ++ [t]).getD l.length default = t := by simp [List.getD_eq_getElem?_getD]
  refine ⟨fun k hk => ?_, fun x hx => ?_⟩
  · rw [List.length_append, List.length_singleton] at hk
    rw [g1 k (by omega)]
    by_cases e : k + 1 = l.length
    · rw [e, g2]
      have := hz (by omega)
      rw [lastZ_pos (by omega), show l.length - 1 = k from by omega] at this
      exact this
    · rw [g1 _ (by omega)]; exact h.1 k (by omega)
  · rcases List.mem_append.1 hx with h1 | h1
    · exact h.2 x h1
    · rw [List.mem_singleton.1 h1]; exact ht
theorem logOk_lt {l : List ATxn} (h : logOk l) {i : Nat} : ∀ {j : Nat}, i < j → j < l.length → (l.getD i default).zxid < (l.getD j default).zxid
  | 0, h1, _ => by omega
  | j + 1, h1, h2 => by
    by_cases e : i = j
    · subst e; exact h.1 i h2
    · exact Int.lt_trans (logOk_lt h (by omega) (by omega)) (h.1 j h2)
theorem scanG_ok (s : List UInt8) : ∀ (f at_ : Nat) (l : List ATxn), logOk l → encs l = s.take at_ → at_ ≤ s.length → logOk (scanG s f at_ l).1 ∧ encs (scanG s f at_ l).1 = s.take (scanG s f at_ l).2 ∧ (scanG s f at_ l).2 ≤ s.length
  | 0, at_, l, h1, h2, h3 => ⟨h1, h2, h3⟩
  | f + 1, at_, l, h1, h2, h3 => by
    by_cases hc : (decT (s.drop at_)).2.2 ≠ 0 ∨ (0 < l.length ∧ (decT (s.drop at_)).1.zxid ≤ lastZ l)
    · rw [scanG_stop hc]; exact ⟨h1, h2, h3⟩
    · have hz : (decT (s.drop at_)).2.2 = 0 := Classical.byContradiction fun h => hc (.inl h)
      have hr : ¬ (0 < l.length ∧ (decT (s.drop at_)).1.zxid ≤ lastZ l) := fun h => hc (.inr h)
      rcases decT_cases (s.drop at_) with ⟨c, _⟩ | ⟨_, c2, c3, _, c5⟩
      · exact absurd hz c
      rw [scanG_next hz hr c2]
      rw [List.length_drop] at c3
      refine scanG_ok s f _ _ (logOk_snoc h1 (fun h0 => ?_) c5) ?_ (by omega)
      · exact Int.not_le.1 fun h => hr ⟨h0, h⟩
      · rw [encs_snoc, h2, enc_back hz]; exact List.take_add.symm
theorem scanT_ok (s : List UInt8) : logOk (scanT s).1 ∧ encs (scanT s).1 = s.take (scanT s).2 ∧ (scanT s).2 ≤ s.length := scanG_ok s _ 0 [] logOk_nil rfl (Nat.zero_le _)
def keepL (l : List ATxn) (z : Int) : List ATxn := l.filter fun t => decide (t.zxid ≤ z)
theorem keepL_take {l : List ATxn} {z : Int} {k : Nat} (hr : logOk l) (hk : k ≤ l.length) (h1 : ∀ j, j < k → (l.getD j default).zxid ≤ z) (h2 : k < l.length → z < (l.getD k default).zxid) : keepL l z = l.take k := by
  unfold keepL
  conv => lhs; rw [← List.take_append_drop k l]
  rw [List.filter_append]
  have e1 : (l.take k).filter (fun t => decide (t.zxid ≤ z)) = l.take k := by
    rw [List.filter_eq_self]
    intro t ht
    obtain ⟨j, hj, rfl⟩ := List.mem_take_iff_getElem.1 ht
    have := h1 j (by omega)
    rw [List.getD_eq_getElem?_getD, List.getElem?_eq_getElem (by omega)] at this
    simpa using this
  have e2 : (l.drop k).filter (fun t => decide (t.zxid ≤ z)) = [] := by
    rw [List.filter_eq_nil_iff]
    intro t ht
    obtain ⟨j, hj, rfl⟩ := List.mem_drop_iff_getElem.1 ht
    have a := h2 (by omega)
    have : z < (l.getD (k + j) default).zxid := by
      by_cases e : j = 0
      · subst e; exact a
      · exact Int.lt_trans a (logOk_lt hr (by omega) (by omega))
    rw [List.getD_eq_getElem?_getD, List.getElem?_eq_getElem (by omega)] at this
    simpa using this
  rw [e1, e2, List.append_nil]
theorem keepL_snoc (l : List ATxn) (z : Int) (k : Nat) (h : k < l.length) : keepL (l.take (k + 1)) z = if (l.getD k default).zxid ≤ z then keepL (l.take k) z ++ [l.getD k default] else keepL (l.take k) z := by
  unfold keepL
  rw [take_snoc l k h, List.filter_append]
  by_cases e : (l.getD k default).zxid ≤ z
  · rw [if_pos e, List.filter_cons_of_pos (by simpa using e)]; rfl
  · rw [if_neg e, List.filter_cons_of_neg (by simpa using e), List.filter_nil, List.append_nil]
theorem encs_pre {l : List ATxn} {k : Nat} : encs (l.take k) = (encs l).take (encs (l.take k)).length := by
  conv => rhs; rw [show encs l = encs (l.take k) ++ encs (l.drop k) from by unfold encs; rw [← List.flatten_append, ← List.map_append, List.take_append_drop]]
  rw [List.take_left']; rfl
theorem nm (l : List AFile) (k : Nat) : (l.map AFile.name).getD k [] = (l.getD k default).name := getD_map AFile.name l k default
theorem goodD_iff {l : List AFile} : goodD l = true ↔ l.length ≤ 16 ∧ ∀ k, k < l.length → fileK l k := by unfold goodD; rw [decide_eq_true_eq]
theorem goodD_set {l : List AFile} {p : Nat} {x : AFile} (h : goodD l = true) (hn : x.name = (l.getD p default).name) (hl : x.safe.length + x.tail.length ≤ 1048576) : goodD (l.set p x) = true := by
  rw [goodD_iff] at h ⊢
  have g (j : Nat) : ((l.set p x).getD j default).name = (l.getD j default).name := by
    simp only [List.getD_eq_getElem?_getD, List.getElem?_set]
    split
    · rename_i e; subst e
      split
      · exact hn
      · rename_i h2; rw [List.getElem?_eq_none (by omega)]
    · rfl
  refine ⟨by rw [List.length_set]; exact h.1, fun k hk => ?_⟩
  rw [List.length_set] at hk
  obtain ⟨a, b⟩ := h.2 k hk
  refine ⟨⟨by rw [g]; exact a.1, ?_⟩, by rw [g, g]; exact b⟩
  simp only [List.getD_eq_getElem?_getD, List.getElem?_set]
  split
  · rename_i e; subst e
    split
    · exact hl
    · omega
  · simpa only [List.getD_eq_getElem?_getD] using a.2
theorem place_lo {ns : List (List UInt8)} {key : List UInt8} {k : Nat} (h : k < place ns key) : ns.getD k [] < key := by
  have hl := place_le ns key
  have := List.not_of_lt_findIdx (p := fun x => !decide (x < key)) (xs := ns) h
  rw [List.getD_eq_getElem?_getD, List.getElem?_eq_getElem (by omega)]
  simpa using this
theorem place_hi {ns : List (List UInt8)} {key : List UInt8} (h : place ns key < ns.length) : ¬ ns.getD (place ns key) [] < key := by
  have := List.findIdx_getElem (p := fun x => !decide (x < key)) (xs := ns) (w := h)
  rw [Bool.not_eq_true', decide_eq_false_iff_not] at this
  rw [List.getD_eq_getElem?_getD, List.getElem?_eq_getElem h]
  exact this
theorem ins_get_gt {α : Type} (l : List α) (i k : Nat) (x z : α) (h : i ≤ l.length) (hk : i < k) : (l.insertIdx i x).getD k z = l.getD (k - 1) z := by
  rw [ins_eq _ _ _ h, List.getD_eq_getElem?_getD, List.getElem?_append_right (by rw [List.length_take]; omega), List.length_take, Nat.min_eq_left h, show k - i = (k - i - 1) + 1 from by omega, List.getElem?_cons_succ, List.getElem?_drop, List.getD_eq_getElem?_getD]
  congr 2; omega
theorem goodD_ins {l : List AFile} {key : List UInt8} {x : AFile} (h : goodD l = true) (hx : x.name = key) (hm : ¬ key ∈ l.map AFile.name) (hn : namedP key = true) (hf : l.length < 16) (hs : x.safe.length + x.tail.length ≤ 1048576) : goodD (l.insertIdx (place (l.map AFile.name) key) x) = true := by
  have hr := goodD_rises h
  have hp := place_le' (l := l) (key := key)
  have lo : ∀ j, j < place (l.map AFile.name) key → (l.getD j default).name < key := fun j hj => by rw [← nm]; exact place_lo hj
  have hi : ∀ j, place (l.map AFile.name) key ≤ j → j < l.length → key < (l.getD j default).name := fun j h1 h2 => by
    have a := place_hi (ns := l.map AFile.name) (key := key) (by rw [List.length_map]; omega)
    have b : key < (l.map AFile.name).getD (place (l.map AFile.name) key) [] := lt_of_not a fun e => hm (by rw [← e]; exact mem_getD _ _ (by rw [List.length_map]; omega))
    by_cases e : place (l.map AFile.name) key = j
    · rw [← nm, ← e]; exact b
    · have := rises_lt hr (i := place (l.map AFile.name) key) (j := j) (by omega) (by rw [List.length_map]; omega)
      rw [nm l j] at this
      exact List.lt_trans b this
  generalize place (l.map AFile.name) key = p at *
  rw [goodD_iff] at h ⊢
  refine ⟨by rw [ins_len _ _ _ hp]; omega, fun k hk => ?_⟩
  rw [ins_len _ _ _ hp] at hk
  rcases Nat.lt_trichotomy k p with hkp | hkp | hkp
  · obtain ⟨a, b⟩ := h.2 k (by omega)
    refine ⟨?_, fun h0 => ?_⟩
    · rw [ins_get_lt _ _ _ _ _ hp hkp]; exact a
    · rw [ins_get_lt _ _ _ _ _ hp hkp, ins_get_lt _ _ _ _ _ hp (by omega)]; exact b h0
  · subst hkp
    refine ⟨?_, fun h0 => ?_⟩
    · rw [getD_ins _ _ _ _ hp]; exact ⟨by rw [hx]; exact hn, hs⟩
    · rw [getD_ins _ _ _ _ hp, ins_get_lt _ _ _ _ _ hp (by omega), hx]; exact lo _ (by omega)
  · obtain ⟨a, b⟩ := h.2 (k - 1) (by omega)
    refine ⟨?_, fun h0 => ?_⟩
    · rw [ins_get_gt _ _ _ _ _ hp hkp]; exact a
    · rw [ins_get_gt _ _ _ _ _ hp hkp]
      by_cases e : k - 1 = p
      · rw [e, getD_ins _ _ _ _ hp, hx]; exact hi _ (Nat.le_refl _) (by omega)
      · rw [ins_get_gt _ _ _ _ _ hp (by omega)]; exact b (by omega)
end Go.Proofs.YtmpfhalheaeibaaDoor
namespace Go.Proofs.YtmpfhalheaeibaaDoor
set_option linter.unusedVariables false
set_option linter.unusedSimpArgs false
open Go Go.RowKit
set_option maxRecDepth 100000
def recoverD (l : List AFile) : List ATxn × ADisk × Int :=
  if (readD l logN).2 = 7 then (if (writeD l logN []).2 = 0 then ([], (writeD l logN []).1, 0) else ([], default, (writeD l logN []).2))
  else if (readD l logN).2 = 0 then ((scanT (readD l logN).1).1, (changeD l logN (cutF (scanT (readD l logN).1).2)).1, 0)
  else ([], default, (readD l logN).2)
theorem read_len {l : List AFile} (key : List UInt8) : (readD l key).1.length ≤ 1048576 := by
  unfold readD
  split
  · decide
  · rename_i hg
    split
    · rename_i hm
      have hg' : goodD l = true := by simpa using hg
      have hp := place_lt hg' hm
      have := ((goodD_iff.1 hg').2 _ hp).1.2
      simp only [List.length_append]; exact this
    · decide
theorem read_zero {l : List AFile} {key : List UInt8} (h : (readD l key).2 = 0) : goodD l = true ∧ key ∈ l.map AFile.name ∧ (readD l key).1 = (l.getD (place (l.map AFile.name) key) default).safe ++ (l.getD (place (l.map AFile.name) key) default).tail := by
  unfold readD at h ⊢
  split at h
  · cases h
  · rename_i hg
    split at h
    · rename_i hm
      rw [if_neg hg, if_pos hm]
      exact ⟨by simpa using hg, hm, rfl⟩
    · cases h
theorem read_seven {l : List AFile} {key : List UInt8} (h : (readD l key).2 = 7) : goodD l = true ∧ ¬ key ∈ l.map AFile.name := by
  unfold readD at h
  split at h
  · cases h
  · rename_i hg
    split at h
    · cases h
    · rename_i hm; exact ⟨by simpa using hg, hm⟩
theorem cut_ok {l : List AFile} {key : List UInt8} {n : Nat} (hg : goodD l = true) (hm : key ∈ l.map AFile.name) (hn : n ≤ ((l.getD (place (l.map AFile.name) key) default).safe ++ (l.getD (place (l.map AFile.name) key) default).tail).length) :
    changeD l key (cutF n) = (⟨l.set (place (l.map AFile.name) key) ⟨key, ((l.getD (place (l.map AFile.name) key) default).safe ++ (l.getD (place (l.map AFile.name) key) default).tail).take n, []⟩⟩, 0) := by
  have e : cutF n (l.getD (place (l.map AFile.name) key) default) = (⟨(l.getD (place (l.map AFile.name) key) default).name, ((l.getD (place (l.map AFile.name) key) default).safe ++ (l.getD (place (l.map AFile.name) key) default).tail).take n, []⟩, 0) := by
    rw [List.length_append] at hn
    unfold cutF; rw [if_neg (by omega), Int.toNat_natCast]
  rw [change_ok hg hm (by rw [e]), e]
  have := (place_found (goodD_rises hg) hm).2
  rw [nm] at this
  simp only [this]
theorem cut_scan {l : List AFile} (h : (readD l logN).2 = 0) : (changeD l logN (cutF (scanT (readD l logN).1).2)) = (⟨l.set (place (l.map AFile.name) logN) ⟨logN, encs (scanT (readD l logN).1).1, []⟩⟩, 0) := by
  obtain ⟨a, b, c⟩ := read_zero h
  obtain ⟨d1, d2, d3⟩ := scanT_ok (readD l logN).1
  rw [cut_ok a b (by rw [← c]; exact d3), ← c, ← d2]
theorem logN_named : namedP logN = true := by decide
theorem set_getD {α : Type} (l : List α) (p : Nat) (x z : α) (h : p < l.length) : (l.set p x).getD p z = x := by
  rw [List.getD_eq_getElem?_getD, List.getElem?_set_self h]; rfl
theorem set_map_name {l : List AFile} {p : Nat} {x : AFile} (h : x.name = (l.getD p default).name) : (l.set p x).map AFile.name = l.map AFile.name := by
  apply List.ext_getElem?
  intro j
  rw [List.getElem?_map, List.getElem?_map, List.getElem?_set]
  split
  · rename_i e; subst e
    split
    · rename_i h2; rw [List.getD_eq_getElem?_getD, List.getElem?_eq_getElem h2] at h; rw [List.getElem?_eq_getElem h2]; simp [h]
    · rename_i h2; rw [List.getElem?_eq_none (by omega)]
  · rfl
structure RecOk (l : List AFile) (r : List AFile) (L : List ATxn) : Prop where
  good : goodD r = true
  mem : logN ∈ r.map AFile.name
  file : r.getD (place (r.map AFile.name) logN) default = ⟨logN, encs L, []⟩
  ok : logOk L
  len : (encs L).length ≤ 1048576
  cnt : L.length ≤ 1048577
  wf : (∀ f, f ∈ l → f.wf) → ∀ f, f ∈ r → f.wf
theorem good_small {l : List AFile} (h : goodD l = true) : l.length * 48 ≤ 140737488351232 := by have := good_len h; omega
theorem recover_ok {l : List AFile} (h : (recoverD l).2.2 = 0) : RecOk l (recoverD l).2.1.files (recoverD l).1 := by
  unfold recoverD at h ⊢
  by_cases h7 : (readD l logN).2 = 7
  · rw [if_pos h7] at h ⊢
    by_cases hw : (writeD l logN []).2 = 0
    · rw [if_pos hw]
      obtain ⟨a, b⟩ := read_seven h7
      have hwf := fun h0 => write_files_wf (l := l) (s := []) logN_ok h0
      unfold writeD at hw ⊢ hwf
      rw [if_neg (by simp [a]), if_neg (by simp [logN_named]), if_neg b] at hw ⊢ hwf
      split at hw
      · cases hw
      rename_i h16
      rw [if_neg h16, if_neg (by decide)] at hwf ⊢
      have hpl := place_le' (l := l) (key := logN)
      have hg := goodD_ins (x := ⟨logN, [], []⟩) a rfl b logN_named (by omega) (by decide)
      have hnm : ((l.insertIdx (place (l.map AFile.name) logN) (⟨logN, [], []⟩ : AFile)).map AFile.name).getD (place (l.map AFile.name) logN) [] = logN := by
        rw [nm, getD_ins _ _ _ _ hpl]
      have hlt : place (l.map AFile.name) logN < ((l.insertIdx (place (l.map AFile.name) logN) (⟨logN, [], []⟩ : AFile)).map AFile.name).length := by
        rw [List.length_map, ins_len _ _ _ hpl]; omega
      have hpe := place_at (goodD_rises hg) hlt
      rw [hnm] at hpe
      refine ⟨hg, ?_, ?_, logOk_nil, (Nat.zero_le 1048576), (Nat.zero_le 1048577), hwf⟩
      · have := mem_getD _ [] hlt
        rw [hnm] at this; exact this
      · show (l.insertIdx _ _).getD (place ((l.insertIdx _ _).map AFile.name) logN) default = _
        rw [hpe, getD_ins _ _ _ _ hpl]; rfl
    · rw [if_neg hw] at h; exact absurd h hw
  · rw [if_neg h7] at h ⊢
    by_cases h0 : (readD l logN).2 = 0
    · rw [if_pos h0] at h ⊢
      rw [cut_scan h0]
      obtain ⟨a, b, c⟩ := read_zero h0
      obtain ⟨d1, d2, d3⟩ := scanT_ok (readD l logN).1
      have hlen := read_len (l := l) logN
      have he : (encs (scanT (readD l logN).1).1).length ≤ 1048576 := by rw [d2, List.length_take]; omega
      have hp := place_lt a b
      have hn := (place_found (goodD_rises a) b).2
      rw [nm] at hn
      have hmn : (l.set (place (l.map AFile.name) logN) (⟨logN, encs (scanT (readD l logN).1).1, []⟩ : AFile)).map AFile.name = l.map AFile.name := set_map_name hn.symm
      refine ⟨goodD_set a hn.symm (by simpa using he), ?_, ?_, d1, he, by have := scanT_len (readD l logN).1; show (scanT _).1.length ≤ _; omega, fun hwf f hf => ?_⟩
      · show logN ∈ (l.set _ _).map AFile.name
        rw [hmn]; exact b
      · show (l.set _ _).getD (place ((l.set _ _).map AFile.name) logN) default = _
        rw [hmn, set_getD _ _ _ _ hp]
      · rcases List.mem_or_eq_of_mem_set hf with h1 | h1
        · exact hwf f h1
        · subst h1; exact ⟨logN_ok, by show okS (encs (scanT (readD l logN).1).1); unfold okS; omega, by show okS []; unfold okS; decide⟩
    · rw [if_neg h0] at h; exact absurd h h0
theorem recover_wf {l : List AFile} : (recoverD l).2.1.files.length * 48 ≤ 140737488351232 := by
  unfold recoverD
  split
  · split
    · exact write_wf
    · exact (by decide : ([] : List AFile).length * 48 ≤ 140737488351232)
  · split
    · rename_i h0
      rw [cut_scan h0]
      have := good_small (read_zero h0).1
      show (l.set _ _).length * 48 ≤ _
      rw [List.length_set]; exact this
    · exact (by decide : ([] : List AFile).length * 48 ≤ 140737488351232)
theorem recover_cnt (l : List AFile) : (recoverD l).1.length * 72 ≤ 140737488351232 := by
  unfold recoverD
  split
  · split <;> exact (by decide : ([] : List ATxn).length * 72 ≤ 140737488351232)
  · split
    · have a := scanT_len (readD l logN).1
      have b := read_len (l := l) logN
      simp only; omega
    · exact (by decide : ([] : List ATxn).length * 72 ≤ 140737488351232)
theorem rec_a {l : List AFile} (h : (readD l logN).2 = 7) (h2 : ¬ (writeD l logN []).2 = 0) : recoverD l = ([], default, (writeD l logN []).2) := by unfold recoverD; rw [if_pos h, if_neg h2]
theorem rec_b {l : List AFile} (h : (readD l logN).2 = 7) (h2 : (writeD l logN []).2 = 0) : recoverD l = ([], (writeD l logN []).1, 0) := by unfold recoverD; rw [if_pos h, if_pos h2]
theorem rec_c {l : List AFile} (h : ¬ (readD l logN).2 = 7) (h2 : ¬ (readD l logN).2 = 0) : recoverD l = ([], default, (readD l logN).2) := by unfold recoverD; rw [if_neg h, if_neg h2]
theorem rec_d {l : List AFile} (h : ¬ (readD l logN).2 = 7) (h2 : (readD l logN).2 = 0) : recoverD l = ((scanT (readD l logN).1).1, (changeD l logN (cutF (scanT (readD l logN).1).2)).1, 0) := by unfold recoverD; rw [if_neg h, if_pos h2]
set_option maxHeartbeats 2000000 in
theorem recover_c (d : ADisk) (h : d.files.length * 48 ≤ 140737488351232) (hw : ∀ f, f ∈ d.files → f.wf) : acall Tryd.prog [] 21 [d.av] (ret (.tup [.d (.sl 7 ((recoverD d.files).1.map ATxn.row)), (recoverD d.files).2.1.av, I (recoverD d.files).2.2])) := by
  have hr := read_c d logN h hw
  have hs := scan_c _ (read_len (l := d.files) logN)
  have hcut := cut_c d logN (scanT (readD d.files logN).1).2 h hw
  have hwr := write_c d logN [] (by unfold okS; decide) logN_ok h hw
  refine acall_of tabOk Tryd.func21 rfl (by kernel_rfl) (by simp [Tryd.ntmps21]) ?_; simp only [Tryd.ntmps21, Tryd.results21, List.toList_toArray, apar, List.length_nil, List.length_cons, Nat.reduceAdd]
  repeat' first
    | (with_reducible first | refine AWP.seq ?_ | refine thenA_n ?_ | refine thenA_r ?_ | refine thenA_e ?_ | refine blkA_n ?_ | refine blkA_r ?_ | refine blkA_e ?_ | refine blkA_x (by decide) ?_ | refine AWP.skip ?_ | refine AWP.ret ?_ | refine AWP.exit ?_ | refine AWP.block ?_)
    | (with_reducible refine AWP.cond rfl ?_ ?_ <;> intro hc <;> (try simp only [hcs, beq_iff_eq, ge_iff_le, gt_iff_lt] at hc))
    | ((first
      | (with_reducible first | refine AWP.region tabOk ?_ | refine AWP.quietC mixed tabOk (by decide +kernel) ?_ | refine AWP.draw mixed tabOk (by decide +kernel) ?_ | refine AWP.drawE mixed tabOk (by decide +kernel) ?_ | refine AWP.drawG mixed tabOk (by decide +kernel) ?_); intro K hK
      | ((first | refine acallH_sc (hr) rfl rfl ?_ ?_ ?_ | refine acallQ_sc (hr) rfl rfl ?_ ?_ ?_ | refine acallH_sc (hwr) rfl rfl ?_ ?_ ?_ | refine acallQ_sc (hwr) rfl rfl ?_ ?_ ?_ | refine acallH_sc (hs) rfl rfl ?_ ?_ ?_ | refine acallQ_sc (hs) rfl rfl ?_ ?_ ?_ | refine acallH_sc (hcut) rfl rfl ?_ ?_ ?_ | refine acallQ_sc (hcut) rfl rfl ?_ ?_ ?_); iterate 2 (focus ((try simp (disch := omega) only [go_sem, wrap_n, logN]) <;> (try omega) <;> fail)))
      | ((first | refine acallH_anyr (hr) rfl ?_ ?_ | refine acallH_anyr (hwr) rfl ?_ ?_ | refine acallH_anyr (hs) rfl ?_ ?_ | refine acallH_anyr (hcut) rfl ?_ ?_); (focus ((try simp (disch := omega) only [go_sem, wrap_n, logN]) <;> (try omega) <;> fail)))
      | ((first | refine acallH_scx (hr) rfl ?_ ?_ | refine acallQ_scx (hr) rfl ?_ ?_ | refine acallH_anyx (hr) ?_ ?_); (focus ((try simp (disch := omega) only [go_sem, wrap_n, logN]) <;> (try omega) <;> fail)))
      | ((first | refine acallH_scx (hwr) rfl ?_ ?_ | refine acallQ_scx (hwr) rfl ?_ ?_ | refine acallH_anyx (hwr) ?_ ?_); (focus ((try simp (disch := omega) only [go_sem, wrap_n, logN]) <;> (try omega) <;> fail)))
      | ((first | refine acallH_scx (hs) rfl ?_ ?_ | refine acallQ_scx (hs) rfl ?_ ?_ | refine acallH_anyx (hs) ?_ ?_); (focus ((try simp (disch := omega) only [go_sem, wrap_n, logN]) <;> (try omega) <;> fail)))
      | ((first | refine acallH_scx (hcut) rfl ?_ ?_ | refine acallQ_scx (hcut) rfl ?_ ?_ | refine acallH_anyx (hcut) ?_ ?_); (focus ((try simp (disch := omega) only [go_sem, wrap_n, logN]) <;> (try omega) <;> fail)))); ((try simp (disch := omega) only [go_sem, wrap_n, logN]) <;> (repeat' with_reducible refine And.intro ?_ ?_) <;> (try (with_reducible refine hK _ ?_; clear hK K))))
    | ((first | (with_reducible refine aunder_i ?_ ?_ <;> intro hg) | with_reducible intro hg) <;> (first | (exfalso; simp at hg; done) | (have hg' := hg; (try simp only [hcs, beq_iff_eq, ge_iff_le, gt_iff_lt] at hg'); ((try simp (disch := omega) only [hg, go_sem, wrap_n, logN]) <;> (repeat' with_reducible refine And.intro ?_ ?_) <;> (try (with_reducible refine hK _ ?_; clear hK K))))))
                                                            | omega
  · rw [rec_a (by assumption) (by assumption)]; (refine aend_retc ?_ rfl ?_ ?_ ?_ ?_; (focus (first | exact .inl rfl | exact .inr rfl)); (iterate 3 (focus ((try simp (disch := omega) only [go_sem, wrap_n, logN, default]) <;> (try omega) <;> fail))); (try simp (disch := omega) only [go_sem, wrap_n, logN, default, I, B, S, inj, List.cons.injEq, and_true, true_and, and_self]))
  · rw [rec_b (by assumption) (by assumption)]; (refine aend_retc ?_ rfl ?_ ?_ ?_ ?_; (focus (first | exact .inl rfl | exact .inr rfl)); (iterate 3 (focus ((try simp (disch := omega) only [go_sem, wrap_n, logN, default]) <;> (try omega) <;> fail))); (try simp (disch := omega) only [go_sem, wrap_n, logN, default, I, B, S, inj, List.cons.injEq, and_true, true_and, and_self]))
  · rw [rec_c (by assumption) (by assumption)]; (refine aend_retc ?_ rfl ?_ ?_ ?_ ?_; (focus (first | exact .inl rfl | exact .inr rfl)); (iterate 3 (focus ((try simp (disch := omega) only [go_sem, wrap_n, logN, default]) <;> (try omega) <;> fail))); (try simp (disch := omega) only [go_sem, wrap_n, logN, default, I, B, S, inj, List.cons.injEq, and_true, true_and, and_self]))
  · have e := cut_scan (l := d.files) (by assumption)
    exact absurd (congrArg Prod.snd e) hc
  · rw [rec_d (by assumption) (by assumption)]; (refine aend_retc ?_ rfl ?_ ?_ ?_ ?_; (focus (first | exact .inl rfl | exact .inr rfl)); (iterate 3 (focus ((try simp (disch := omega) only [go_sem, wrap_n, logN]) <;> (try omega) <;> fail))); (try simp (disch := omega) only [go_sem, wrap_n, logN, I, B, S, inj, List.cons.injEq, and_true, true_and, and_self]))
set_option maxHeartbeats 2000000 in
theorem ref_recover_c (d : ADisk) (h : d.files.length * 48 ≤ 140737488351232) (hw : ∀ f, f ∈ d.files → f.wf) : acall Tryd.prog [] 22 [d.av] (ret (.tup [.d (.sl 7 ((recoverD d.files).1.map ATxn.row)), (recoverD d.files).2.1.av, I (recoverD d.files).2.2])) := by
  have hr := ref_read_c d logN h hw
  have hs := ref_scan_c _ (read_len (l := d.files) logN)
  have hcut := ref_cut_c d logN (scanT (readD d.files logN).1).2 h hw
  have hwr := ref_write_c d logN [] (by unfold okS; decide) logN_ok h hw
  refine acall_of tabOk Tryd.func22 rfl (by kernel_rfl) (by simp [Tryd.ntmps22]) ?_; simp only [Tryd.ntmps22, Tryd.results22, List.toList_toArray, apar, List.length_nil, List.length_cons, Nat.reduceAdd]
  repeat' first
    | (with_reducible first | refine AWP.seq ?_ | refine thenA_n ?_ | refine thenA_r ?_ | refine thenA_e ?_ | refine blkA_n ?_ | refine blkA_r ?_ | refine blkA_e ?_ | refine blkA_x (by decide) ?_ | refine AWP.skip ?_ | refine AWP.ret ?_ | refine AWP.exit ?_ | refine AWP.block ?_)
    | (with_reducible refine AWP.cond rfl ?_ ?_ <;> intro hc <;> (try simp only [hcs, beq_iff_eq, ge_iff_le, gt_iff_lt] at hc))
    | ((first
      | (with_reducible first | refine AWP.region tabOk ?_ | refine AWP.quietC mixed tabOk (by decide +kernel) ?_ | refine AWP.draw mixed tabOk (by decide +kernel) ?_ | refine AWP.drawE mixed tabOk (by decide +kernel) ?_ | refine AWP.drawG mixed tabOk (by decide +kernel) ?_); intro K hK
      | ((first | refine acallH_sc (hr) rfl rfl ?_ ?_ ?_ | refine acallQ_sc (hr) rfl rfl ?_ ?_ ?_ | refine acallH_sc (hwr) rfl rfl ?_ ?_ ?_ | refine acallQ_sc (hwr) rfl rfl ?_ ?_ ?_ | refine acallH_sc (hs) rfl rfl ?_ ?_ ?_ | refine acallQ_sc (hs) rfl rfl ?_ ?_ ?_ | refine acallH_sc (hcut) rfl rfl ?_ ?_ ?_ | refine acallQ_sc (hcut) rfl rfl ?_ ?_ ?_); iterate 2 (focus ((try simp (disch := omega) only [go_sem, wrap_n, logN]) <;> (try omega) <;> fail)))
      | ((first | refine acallH_anyr (hr) rfl ?_ ?_ | refine acallH_anyr (hwr) rfl ?_ ?_ | refine acallH_anyr (hs) rfl ?_ ?_ | refine acallH_anyr (hcut) rfl ?_ ?_); (focus ((try simp (disch := omega) only [go_sem, wrap_n, logN]) <;> (try omega) <;> fail)))
      | ((first | refine acallH_scx (hr) rfl ?_ ?_ | refine acallQ_scx (hr) rfl ?_ ?_ | refine acallH_anyx (hr) ?_ ?_); (focus ((try simp (disch := omega) only [go_sem, wrap_n, logN]) <;> (try omega) <;> fail)))
      | ((first | refine acallH_scx (hwr) rfl ?_ ?_ | refine acallQ_scx (hwr) rfl ?_ ?_ | refine acallH_anyx (hwr) ?_ ?_); (focus ((try simp (disch := omega) only [go_sem, wrap_n, logN]) <;> (try omega) <;> fail)))
      | ((first | refine acallH_scx (hs) rfl ?_ ?_ | refine acallQ_scx (hs) rfl ?_ ?_ | refine acallH_anyx (hs) ?_ ?_); (focus ((try simp (disch := omega) only [go_sem, wrap_n, logN]) <;> (try omega) <;> fail)))
      | ((first | refine acallH_scx (hcut) rfl ?_ ?_ | refine acallQ_scx (hcut) rfl ?_ ?_ | refine acallH_anyx (hcut) ?_ ?_); (focus ((try simp (disch := omega) only [go_sem, wrap_n, logN]) <;> (try omega) <;> fail)))); ((try simp (disch := omega) only [go_sem, wrap_n, logN]) <;> (repeat' with_reducible refine And.intro ?_ ?_) <;> (try (with_reducible refine hK _ ?_; clear hK K))))
    | ((first | (with_reducible refine aunder_i ?_ ?_ <;> intro hg) | with_reducible intro hg) <;> (first | (exfalso; simp at hg; done) | (have hg' := hg; (try simp only [hcs, beq_iff_eq, ge_iff_le, gt_iff_lt] at hg'); ((try simp (disch := omega) only [hg, go_sem, wrap_n, logN]) <;> (repeat' with_reducible refine And.intro ?_ ?_) <;> (try (with_reducible refine hK _ ?_; clear hK K))))))
                                                            | omega
  · rw [rec_a (by assumption) (by assumption)]; (refine aend_retc ?_ rfl ?_ ?_ ?_ ?_; (focus (first | exact .inl rfl | exact .inr rfl)); (iterate 3 (focus ((try simp (disch := omega) only [go_sem, wrap_n, logN, default]) <;> (try omega) <;> fail))); (try simp (disch := omega) only [go_sem, wrap_n, logN, default, I, B, S, inj, List.cons.injEq, and_true, true_and, and_self]))
  · rw [rec_b (by assumption) (by assumption)]; (refine aend_retc ?_ rfl ?_ ?_ ?_ ?_; (focus (first | exact .inl rfl | exact .inr rfl)); (iterate 3 (focus ((try simp (disch := omega) only [go_sem, wrap_n, logN, default]) <;> (try omega) <;> fail))); (try simp (disch := omega) only [go_sem, wrap_n, logN, default, I, B, S, inj, List.cons.injEq, and_true, true_and, and_self]))
  · rw [rec_c (by assumption) (by assumption)]; (refine aend_retc ?_ rfl ?_ ?_ ?_ ?_; (focus (first | exact .inl rfl | exact .inr rfl)); (iterate 3 (focus ((try simp (disch := omega) only [go_sem, wrap_n, logN, default]) <;> (try omega) <;> fail))); (try simp (disch := omega) only [go_sem, wrap_n, logN, default, I, B, S, inj, List.cons.injEq, and_true, true_and, and_self]))
  · rw [rec_d (by assumption) (by assumption)]
    have e := congrArg Prod.snd (cut_scan (l := d.files) (by assumption))
    have e' : (changeD d.files [108, 111, 103] (cutF (scanT (readD d.files [108, 111, 103]).1).2)).2 = 0 := e
    (refine aend_retc ?_ rfl ?_ ?_ ?_ ?_; (focus (first | exact .inl rfl | exact .inr rfl)); (iterate 3 (focus ((try simp (disch := omega) only [go_sem, wrap_n, logN, e']) <;> (try omega) <;> fail))); (try simp (disch := omega) only [go_sem, wrap_n, logN, e', I, B, S, inj, List.cons.injEq, and_true, true_and, and_self]))
def keepD (l : List AFile) (z : Int) : ADisk × Int :=
  if (recoverD l).2.2 = 0 then (⟨(recoverD l).2.1.files.set (place ((recoverD l).2.1.files.map AFile.name) logN) ⟨logN, encs (keepL (recoverD l).1 z), []⟩⟩, 0) else (default, (recoverD l).2.2)
theorem keep_no {l : List AFile} {z : Int} (h : ¬ (recoverD l).2.2 = 0) : keepD l z = (default, (recoverD l).2.2) := by unfold keepD; rw [if_neg h]
theorem keep_yes {l : List AFile} {z : Int} (h : (recoverD l).2.2 = 0) : keepD l z = (⟨(recoverD l).2.1.files.set (place ((recoverD l).2.1.files.map AFile.name) logN) ⟨logN, encs (keepL (recoverD l).1 z), []⟩⟩, 0) := by unfold keepD; rw [if_pos h]
theorem keep_wf {l : List AFile} {z : Int} : (keepD l z).1.files.length * 48 ≤ 140737488351232 := by
  unfold keepD
  split
  · have := recover_wf (l := l)
    show (List.set _ _ _).length * 48 ≤ _
    rw [List.length_set]; exact this
  · exact (by decide : ([] : List AFile).length * 48 ≤ 140737488351232)
theorem encs_len_take (l : List ATxn) (k : Nat) : (encs (l.take k)).length ≤ (encs l).length := by
  have : encs l = encs (l.take k) ++ encs (l.drop k) := by unfold encs; rw [← List.flatten_append, ← List.map_append, List.take_append_drop]
  rw [this, List.length_append]; omega
theorem encs_filter (p : ATxn → Bool) : ∀ l : List ATxn, (encs (l.filter p)).length ≤ (encs l).length
  | [] => Nat.le_refl _
  | t :: l => by
    have ih := encs_filter p l
    have e (x : ATxn) (r : List ATxn) : (encs (x :: r)).length = (encT x).1.length + (encs r).length := by unfold encs; simp
    by_cases h : p t = true
    · rw [List.filter_cons_of_pos h, e, e]; omega
    · rw [List.filter_cons_of_neg h, e]; omega
theorem keepL_len (L : List ATxn) (z : Int) (k : Nat) : (encs (keepL (L.take k) z)).length ≤ (encs L).length :=
  Nat.le_trans (encs_filter _ _) (encs_len_take L k)
theorem keep_cut {l : List AFile} {z : Int} {k : Nat} (h : (recoverD l).2.2 = 0) (hk : k ≤ (recoverD l).1.length) (h1 : ∀ j, j < k → ((recoverD l).1.getD j default).zxid ≤ z) (h2 : k < (recoverD l).1.length → z < ((recoverD l).1.getD k default).zxid) :
    changeD (recoverD l).2.1.files logN (cutF (encs ((recoverD l).1.take k)).length) = keepD l z := by
  have o := recover_ok h
  have hl := encs_len_take (recoverD l).1 k
  rw [keep_yes h, cut_ok o.good o.mem (by rw [o.file]; simpa using hl), o.file, keepL_take o.ok hk h1 h2]
  simp only [List.append_nil]
  rw [← encs_pre]
theorem txn_get {l : List AFile} (h : (recoverD l).2.2 = 0) {k : Nat} (hk : k < (recoverD l).1.length) : goodT ((recoverD l).1.getD k default) = 0 := (recover_ok h).ok.2 _ (getD_mem _ _ hk)
set_option maxHeartbeats 2000000 in
theorem keep_c (d : ADisk) (z : Int) (h : d.files.length * 48 ≤ 140737488351232) (hw : ∀ f, f ∈ d.files → f.wf) : acall Tryd.prog [] 23 [d.av, I z] (ret (.tup [(keepD d.files z).1.av, I (keepD d.files z).2])) := by
  by_cases h0 : (recoverD d.files).2.2 = 0
  case neg =>
    rw [keep_no h0]
    refine acall_of tabOk Tryd.func23 rfl (by kernel_rfl) (by simp [Tryd.ntmps23]) ?_; simp only [Tryd.ntmps23, Tryd.results23, List.toList_toArray, apar, List.length_nil, List.length_cons, Nat.reduceAdd]
    repeat' first
      | (with_reducible first | refine AWP.seq ?_ | refine thenA_n ?_ | refine thenA_r ?_ | refine thenA_e ?_ | refine blkA_n ?_ | refine blkA_r ?_ | refine blkA_e ?_ | refine blkA_x (by decide) ?_ | refine AWP.skip ?_ | refine AWP.ret ?_ | refine AWP.exit ?_ | refine AWP.block ?_)
      | (with_reducible refine AWP.cond rfl ?_ ?_ <;> intro hc <;> (try simp only [hcs, beq_iff_eq, ge_iff_le, gt_iff_lt] at hc))
      | ((first
        | (with_reducible first | refine AWP.region tabOk ?_ | refine AWP.quietC mixed tabOk (by decide +kernel) ?_ | refine AWP.draw mixed tabOk (by decide +kernel) ?_ | refine AWP.drawE mixed tabOk (by decide +kernel) ?_ | refine AWP.drawG mixed tabOk (by decide +kernel) ?_); intro K hK
        | ((first | refine acallH_sc (recover_c d h hw) rfl rfl ?_ ?_ ?_ | refine acallQ_sc (recover_c d h hw) rfl rfl ?_ ?_ ?_); iterate 2 (focus ((try simp (disch := omega) only [go_sem, wrap_n]) <;> (try omega) <;> fail)))
        | ((first | refine acallH_anyr (recover_c d h hw) rfl ?_ ?_); (focus ((try simp (disch := omega) only [go_sem, wrap_n]) <;> (try omega) <;> fail)))
        | ((first | refine acallH_scx (recover_c d h hw) rfl ?_ ?_ | refine acallQ_scx (recover_c d h hw) rfl ?_ ?_ | refine acallH_anyx (recover_c d h hw) ?_ ?_); (focus ((try simp (disch := omega) only [go_sem, wrap_n]) <;> (try omega) <;> fail)))); ((try simp (disch := omega) only [go_sem, wrap_n]) <;> (repeat' with_reducible refine And.intro ?_ ?_) <;> (try (with_reducible refine hK _ ?_; clear hK K))))
      | ((first | (with_reducible refine aunder_i ?_ ?_ <;> intro hg) | with_reducible intro hg) <;> (first | (exfalso; simp at hg; done) | (have hg' := hg; (try simp only [hcs, beq_iff_eq, ge_iff_le, gt_iff_lt] at hg'); ((try simp (disch := omega) only [hg, go_sem, wrap_n]) <;> (repeat' with_reducible refine And.intro ?_ ?_) <;> (try (with_reducible refine hK _ ?_; clear hK K))))))
                                                              | omega
    all_goals first | (exfalso; omega) | skip
    (refine aend_retc ?_ rfl ?_ ?_ ?_ ?_; (focus (first | exact .inl rfl | exact .inr rfl)); (iterate 3 (focus ((try simp (disch := omega) only [go_sem, wrap_n, default]) <;> (try omega) <;> fail))); (try simp (disch := omega) only [go_sem, wrap_n, default, I, B, S, inj, List.cons.injEq, and_true, true_and, and_self]))
  have o := recover_ok h0
  have hrc := recover_c d h hw
  rw [h0] at hrc
  have hcnt := recover_cnt d.files
  have hcuts (n : Nat) := cut_c (recoverD d.files).2.1 logN n recover_wf (o.wf hw)
  have htx (k : Nat) (hk : k < (recoverD d.files).1.length) := txn_get h0 hk
  have hkc (k : Nat) (hk : k ≤ (recoverD d.files).1.length) := keep_cut (z := z) h0 hk
  have hlen := o.len
  generalize hR : (recoverD d.files).2.1 = R at hrc hcuts hkc
  generalize hL : (recoverD d.files).1 = L at hrc hcnt htx hkc hlen
  refine acall_of tabOk Tryd.func23 rfl (by kernel_rfl) (by simp [Tryd.ntmps23]) ?_; simp only [Tryd.ntmps23, Tryd.results23, List.toList_toArray, apar, List.length_nil, List.length_cons, Nat.reduceAdd]
  repeat' first
    | (with_reducible first | refine AWP.seq ?_ | refine thenA_n ?_ | refine thenA_r ?_ | refine thenA_e ?_ | refine blkA_n ?_ | refine blkA_r ?_ | refine blkA_e ?_ | refine blkA_x (by decide) ?_ | refine AWP.skip ?_ | refine AWP.ret ?_ | refine AWP.exit ?_ | refine AWP.block ?_)
    | (with_reducible refine AWP.cond rfl ?_ ?_ <;> intro hc <;> (try simp only [hcs, beq_iff_eq, ge_iff_le, gt_iff_lt] at hc))
    | ((first
      | (with_reducible first | refine AWP.region tabOk ?_ | refine AWP.quietC mixed tabOk (by decide +kernel) ?_ | refine AWP.draw mixed tabOk (by decide +kernel) ?_ | refine AWP.drawE mixed tabOk (by decide +kernel) ?_ | refine AWP.drawG mixed tabOk (by decide +kernel) ?_); intro K hK
      | ((first | refine acallH_sc (hrc) rfl rfl ?_ ?_ ?_ | refine acallQ_sc (hrc) rfl rfl ?_ ?_ ?_); iterate 2 (focus ((try simp (disch := omega) only [go_sem, wrap_n]) <;> (try omega) <;> fail)))
      | ((first | refine acallH_anyr (hrc) rfl ?_ ?_); (focus ((try simp (disch := omega) only [go_sem, wrap_n]) <;> (try omega) <;> fail)))
      | ((first | refine acallH_scx (hrc) rfl ?_ ?_ | refine acallQ_scx (hrc) rfl ?_ ?_ | refine acallH_anyx (hrc) ?_ ?_); (focus ((try simp (disch := omega) only [go_sem, wrap_n]) <;> (try omega) <;> fail)))); ((try simp (disch := omega) only [go_sem, wrap_n]) <;> (repeat' with_reducible refine And.intro ?_ ?_) <;> (try (with_reducible refine hK _ ?_; clear hK K))))
    | ((first | (with_reducible refine aunder_i ?_ ?_ <;> intro hg) | with_reducible intro hg) <;> (first | (exfalso; simp at hg; done) | (have hg' := hg; (try simp only [hcs, beq_iff_eq, ge_iff_le, gt_iff_lt] at hg'); ((try simp (disch := omega) only [hg, go_sem, wrap_n]) <;> (repeat' with_reducible refine And.intro ?_ ?_) <;> (try (with_reducible refine hK _ ?_; clear hK K))))))
                                                            | omega
  refine AWP.loopB (ι := Nat) (fun k => k ≤ L.length ∧ ∀ j, j < k → (L.getD j default).zxid ≤ z) (fun k => L.length - k) [1, 2, 4, 23, 24] (fun k => [(25, I k), (8, I (encs (L.take k)).length)]) (fun k => [.cells [.d (.sl 3 (R.files.map AFile.row))], .cells [.d (.sc (.slice none 0 0))]]) 0 ?_ ?_ ?_
  · exact ⟨by omega, fun j hj => by omega⟩
  · simp only [go_sem, List.take_zero, encs_nil]; (refine SImp.same ?_; simp (disch := omega) only [go_sem, wrap_n, Int.natCast_add])
  intro k ⟨hk, hk2⟩
  simp only [go_sem]
  by_cases hkl : k < L.length
  · have hg := htx k hkl
    obtain ⟨s1, s2⟩ := goodT_small hg
    obtain ⟨e1, e2⟩ := encT_ok hg
    have he := encode_c (L.getD k default) (by unfold okS; omega) (by unfold okS; omega)
    have hlt := encs_len_take L (k + 1)
    rw [encs_take L k hkl, List.length_append] at hlt
    rw [e2] at he
    repeat' first
      | (with_reducible first | refine AWP.seq ?_ | refine thenA_n ?_ | refine thenA_r ?_ | refine thenA_e ?_ | refine blkA_n ?_ | refine blkA_r ?_ | refine blkA_e ?_ | refine blkA_x (by decide) ?_ | refine AWP.skip ?_ | refine AWP.ret ?_ | refine AWP.exit ?_ | refine AWP.block ?_)
      | (with_reducible refine AWP.cond rfl ?_ ?_ <;> intro hc <;> (try simp only [hcs, beq_iff_eq, ge_iff_le, gt_iff_lt] at hc))
      | ((first
        | (with_reducible first | refine AWP.region tabOk ?_ | refine AWP.quietC mixed tabOk (by decide +kernel) ?_ | refine AWP.draw mixed tabOk (by decide +kernel) ?_ | refine AWP.drawE mixed tabOk (by decide +kernel) ?_ | refine AWP.drawG mixed tabOk (by decide +kernel) ?_); intro K hK
        | ((first | refine acallH_sc (he) rfl rfl ?_ ?_ ?_ | refine acallQ_sc (he) rfl rfl ?_ ?_ ?_ | refine acallH_sc (hcuts (encs (L.take k)).length) rfl rfl ?_ ?_ ?_ | refine acallQ_sc (hcuts (encs (L.take k)).length) rfl rfl ?_ ?_ ?_); iterate 2 (focus ((try simp (disch := omega) only [go_sem, wrap_n, logN]) <;> (try omega) <;> fail)))
        | ((first | refine acallH_anyr (he) rfl ?_ ?_ | refine acallH_anyr (hcuts (encs (L.take k)).length) rfl ?_ ?_); (focus ((try simp (disch := omega) only [go_sem, wrap_n, logN]) <;> (try omega) <;> fail)))
        | ((first | refine acallH_scx (he) rfl ?_ ?_ | refine acallQ_scx (he) rfl ?_ ?_ | refine acallH_anyx (he) ?_ ?_); (focus ((try simp (disch := omega) only [go_sem, wrap_n, logN]) <;> (try omega) <;> fail)))
        | ((first | refine acallH_scx (hcuts (encs (L.take k)).length) rfl ?_ ?_ | refine acallQ_scx (hcuts (encs (L.take k)).length) rfl ?_ ?_ | refine acallH_anyx (hcuts (encs (L.take k)).length) ?_ ?_); (focus ((try simp (disch := omega) only [go_sem, wrap_n, logN]) <;> (try omega) <;> fail)))); ((try simp (disch := omega) only [go_sem, wrap_n, logN]) <;> (repeat' with_reducible refine And.intro ?_ ?_) <;> (try (with_reducible refine hK _ ?_; clear hK K))))
      | ((first | (with_reducible refine aunder_i ?_ ?_ <;> intro hg) | with_reducible intro hg) <;> (first | (exfalso; simp at hg; done) | (have hg' := hg; (try simp only [hcs, beq_iff_eq, ge_iff_le, gt_iff_lt] at hg'); ((try simp (disch := omega) only [hg, go_sem, wrap_n, logN]) <;> (repeat' with_reducible refine And.intro ?_ ?_) <;> (try (with_reducible refine hK _ ?_; clear hK K))))))
                                                              | omega
    · have e : changeD R.files [108, 111, 103] (cutF (encs (L.take k)).length) = keepD d.files z := hkc k hk hk2 (fun _ => hc)
      (refine aend_retc ?_ rfl ?_ ?_ ?_ ?_; (focus (first | exact .inl rfl | exact .inr rfl)); (iterate 3 (focus ((try simp (disch := omega) only [go_sem, wrap_n, e]) <;> (try omega) <;> fail))); (try simp (disch := omega) only [go_sem, wrap_n, e, I, B, S, inj, List.cons.injEq, and_true, true_and, and_self]))
    · refine ⟨k + 1, ⟨by omega, fun j hj => ?_⟩, by omega, ?_⟩
      · by_cases ej : j = k
        · subst ej; exact hc
        · exact hk2 j (by omega)
      rw [encs_take L k hkl, List.length_append]
      (refine SImp.frame [0, 1] rfl (by intro k hk; first | (simp at hk <;> (simp; omega)) | (simp only [List.mem_cons, List.not_mem_nil, or_false] at hk; simp only [List.length_cons, List.length_nil]; omega)) (by decide) (fun k hk => by first | omega | (rcases k with _ | _ | _ | _ | k <;> first | rfl | omega)) ?_ ?_ <;> simp (disch := omega) only [go_sem, wrap_n, Int.natCast_add, Int.natCast_add] <;> (try rfl))
  · repeat' first
      | (with_reducible first | refine AWP.seq ?_ | refine thenA_n ?_ | refine thenA_r ?_ | refine thenA_e ?_ | refine blkA_n ?_ | refine blkA_r ?_ | refine blkA_e ?_ | refine blkA_x (by decide) ?_ | refine AWP.skip ?_ | refine AWP.ret ?_ | refine AWP.exit ?_ | refine AWP.block ?_)
      | (with_reducible refine AWP.cond rfl ?_ ?_ <;> intro hc <;> (try simp only [hcs, beq_iff_eq, ge_iff_le, gt_iff_lt] at hc))
      | ((first
        | (with_reducible first | refine AWP.region tabOk ?_ | refine AWP.quietC mixed tabOk (by decide +kernel) ?_ | refine AWP.draw mixed tabOk (by decide +kernel) ?_ | refine AWP.drawE mixed tabOk (by decide +kernel) ?_ | refine AWP.drawG mixed tabOk (by decide +kernel) ?_); intro K hK
        | ((first | refine acallH_sc (hcuts (encs (L.take k)).length) rfl rfl ?_ ?_ ?_ | refine acallQ_sc (hcuts (encs (L.take k)).length) rfl rfl ?_ ?_ ?_); iterate 2 (focus ((try simp (disch := omega) only [go_sem, wrap_n, logN]) <;> (try omega) <;> fail)))
        | ((first | refine acallH_anyr (hcuts (encs (L.take k)).length) rfl ?_ ?_); (focus ((try simp (disch := omega) only [go_sem, wrap_n, logN]) <;> (try omega) <;> fail)))
        | ((first | refine acallH_scx (hcuts (encs (L.take k)).length) rfl ?_ ?_ | refine acallQ_scx (hcuts (encs (L.take k)).length) rfl ?_ ?_ | refine acallH_anyx (hcuts (encs (L.take k)).length) ?_ ?_); (focus ((try simp (disch := omega) only [go_sem, wrap_n, logN]) <;> (try omega) <;> fail)))); ((try simp (disch := omega) only [go_sem, wrap_n, logN]) <;> (repeat' with_reducible refine And.intro ?_ ?_) <;> (try (with_reducible refine hK _ ?_; clear hK K))))
      | ((first | (with_reducible refine aunder_i ?_ ?_ <;> intro hg) | with_reducible intro hg) <;> (first | (exfalso; simp at hg; done) | (have hg' := hg; (try simp only [hcs, beq_iff_eq, ge_iff_le, gt_iff_lt] at hg'); ((try simp (disch := omega) only [hg, go_sem, wrap_n, logN]) <;> (repeat' with_reducible refine And.intro ?_ ?_) <;> (try (with_reducible refine hK _ ?_; clear hK K))))))
                                                              | omega
    have e : changeD R.files [108, 111, 103] (cutF (encs (L.take k)).length) = keepD d.files z := hkc k hk hk2 (fun h => by omega)
    (refine aend_retc ?_ rfl ?_ ?_ ?_ ?_; (focus (first | exact .inl rfl | exact .inr rfl)); (iterate 3 (focus ((try simp (disch := omega) only [go_sem, wrap_n, e]) <;> (try omega) <;> fail))); (try simp (disch := omega) only [go_sem, wrap_n, e, I, B, S, inj, List.cons.injEq, and_true, true_and, and_self]))
theorem goodT_okI {t : ATxn} (h : goodT t = 0) : okI t.zxid := by
  by_cases h1 : t.op < 1 ∨ 5 < t.op
  · rw [goodT_op h1] at h; cases h
  by_cases h2 : numsB t = true
  · have := ((numsB_iff t).1 h2).1
    unfold goodZ at this; unfold okI; omega
  · rw [goodT_num (by omega) h2] at h; cases h
set_option maxHeartbeats 2000000 in
theorem ref_keep_c (d : ADisk) (z : Int) (h : d.files.length * 48 ≤ 140737488351232) (hw : ∀ f, f ∈ d.files → f.wf) : acall Tryd.prog [] 24 [d.av, I z] (ret (.tup [(keepD d.files z).1.av, I (keepD d.files z).2])) := by
  by_cases h0 : (recoverD d.files).2.2 = 0
  case neg =>
    rw [keep_no h0]
    refine acall_of tabOk Tryd.func24 rfl (by kernel_rfl) (by simp [Tryd.ntmps24]) ?_; simp only [Tryd.ntmps24, Tryd.results24, List.toList_toArray, apar, List.length_nil, List.length_cons, Nat.reduceAdd]
    repeat' first
      | (with_reducible first | refine AWP.seq ?_ | refine thenA_n ?_ | refine thenA_r ?_ | refine thenA_e ?_ | refine blkA_n ?_ | refine blkA_r ?_ | refine blkA_e ?_ | refine blkA_x (by decide) ?_ | refine AWP.skip ?_ | refine AWP.ret ?_ | refine AWP.exit ?_ | refine AWP.block ?_)
      | (with_reducible refine AWP.cond rfl ?_ ?_ <;> intro hc <;> (try simp only [hcs, beq_iff_eq, ge_iff_le, gt_iff_lt] at hc))
      | ((first
        | (with_reducible first | refine AWP.region tabOk ?_ | refine AWP.quietC mixed tabOk (by decide +kernel) ?_ | refine AWP.draw mixed tabOk (by decide +kernel) ?_ | refine AWP.drawE mixed tabOk (by decide +kernel) ?_ | refine AWP.drawG mixed tabOk (by decide +kernel) ?_); intro K hK
        | ((first | refine acallH_sc (ref_recover_c d h hw) rfl rfl ?_ ?_ ?_ | refine acallQ_sc (ref_recover_c d h hw) rfl rfl ?_ ?_ ?_); iterate 2 (focus ((try simp (disch := omega) only [go_sem, wrap_n]) <;> (try omega) <;> fail)))
        | ((first | refine acallH_anyr (ref_recover_c d h hw) rfl ?_ ?_); (focus ((try simp (disch := omega) only [go_sem, wrap_n]) <;> (try omega) <;> fail)))
        | ((first | refine acallH_scx (ref_recover_c d h hw) rfl ?_ ?_ | refine acallQ_scx (ref_recover_c d h hw) rfl ?_ ?_ | refine acallH_anyx (ref_recover_c d h hw) ?_ ?_); (focus ((try simp (disch := omega) only [go_sem, wrap_n]) <;> (try omega) <;> fail)))); ((try simp (disch := omega) only [go_sem, wrap_n]) <;> (repeat' with_reducible refine And.intro ?_ ?_) <;> (try (with_reducible refine hK _ ?_; clear hK K))))
      | ((first | (with_reducible refine aunder_i ?_ ?_ <;> intro hg) | with_reducible intro hg) <;> (first | (exfalso; simp at hg; done) | (have hg' := hg; (try simp only [hcs, beq_iff_eq, ge_iff_le, gt_iff_lt] at hg'); ((try simp (disch := omega) only [hg, go_sem, wrap_n]) <;> (repeat' with_reducible refine And.intro ?_ ?_) <;> (try (with_reducible refine hK _ ?_; clear hK K))))))
                                                              | omega
    all_goals first | (exfalso; omega) | skip
    (refine aend_retc ?_ rfl ?_ ?_ ?_ ?_; (focus (first | exact .inl rfl | exact .inr rfl)); (iterate 3 (focus ((try simp (disch := omega) only [go_sem, wrap_n, default]) <;> (try omega) <;> fail))); (try simp (disch := omega) only [go_sem, wrap_n, default, I, B, S, inj, List.cons.injEq, and_true, true_and, and_self]))
  have o := recover_ok h0
  have hrc := ref_recover_c d h hw
  rw [h0] at hrc
  have hcnt := recover_cnt d.files
  have htx (k : Nat) (hk : k < (recoverD d.files).1.length) := txn_get h0 hk
  have hlen := o.len
  have hfile := (file_c (recoverD d.files).2.1 logN recover_wf o.good).re (by rw [fileI_yes o.mem])
  have hcopy := ref_copied_o_c (recoverD d.files).2.1 recover_wf
  have hky := keep_yes (z := z) h0
  have hplt := place_lt o.good o.mem
  generalize hR : (recoverD d.files).2.1 = R at hrc hfile hcopy hky hplt
  generalize hL : (recoverD d.files).1 = L at hrc hcnt htx hlen hky
  rw [hky]
  have hkl (k : Nat) (hk : k ≤ L.length) : (encs (keepL (L.take k) z)).length ≤ 1048576 := Nat.le_trans (keepL_len L z k) hlen
  refine acall_of tabOk Tryd.func24 rfl (by kernel_rfl) (by simp [Tryd.ntmps24]) ?_; simp only [Tryd.ntmps24, Tryd.results24, List.toList_toArray, apar, List.length_nil, List.length_cons, Nat.reduceAdd]
  repeat' first
    | (with_reducible first | refine AWP.seq ?_ | refine thenA_n ?_ | refine thenA_r ?_ | refine thenA_e ?_ | refine blkA_n ?_ | refine blkA_r ?_ | refine blkA_e ?_ | refine blkA_x (by decide) ?_ | refine AWP.skip ?_ | refine AWP.ret ?_ | refine AWP.exit ?_ | refine AWP.block ?_)
    | (with_reducible refine AWP.cond rfl ?_ ?_ <;> intro hc <;> (try simp only [hcs, beq_iff_eq, ge_iff_le, gt_iff_lt] at hc))
    | ((first
      | (with_reducible first | refine AWP.region tabOk ?_ | refine AWP.quietC mixed tabOk (by decide +kernel) ?_ | refine AWP.draw mixed tabOk (by decide +kernel) ?_ | refine AWP.drawE mixed tabOk (by decide +kernel) ?_ | refine AWP.drawG mixed tabOk (by decide +kernel) ?_); intro K hK
      | ((first | refine acallH_sc (hrc) rfl rfl ?_ ?_ ?_ | refine acallQ_sc (hrc) rfl rfl ?_ ?_ ?_); iterate 2 (focus ((try simp (disch := omega) only [go_sem, wrap_n]) <;> (try omega) <;> fail)))
      | ((first | refine acallH_anyr (hrc) rfl ?_ ?_); (focus ((try simp (disch := omega) only [go_sem, wrap_n]) <;> (try omega) <;> fail)))
      | ((first | refine acallH_scx (hrc) rfl ?_ ?_ | refine acallQ_scx (hrc) rfl ?_ ?_ | refine acallH_anyx (hrc) ?_ ?_); (focus ((try simp (disch := omega) only [go_sem, wrap_n]) <;> (try omega) <;> fail)))); ((try simp (disch := omega) only [go_sem, wrap_n]) <;> (repeat' with_reducible refine And.intro ?_ ?_) <;> (try (with_reducible refine hK _ ?_; clear hK K))))
    | ((first | (with_reducible refine aunder_i ?_ ?_ <;> intro hg) | with_reducible intro hg) <;> (first | (exfalso; simp at hg; done) | (have hg' := hg; (try simp only [hcs, beq_iff_eq, ge_iff_le, gt_iff_lt] at hg'); ((try simp (disch := omega) only [hg, go_sem, wrap_n]) <;> (repeat' with_reducible refine And.intro ?_ ?_) <;> (try (with_reducible refine hK _ ?_; clear hK K))))))
                                                            | omega
  refine AWP.loopB (ι := Nat) (fun k => k ≤ L.length) (fun k => L.length - k) [1, 2, 4, 24, 25] (fun k => [(26, I k), (8, S (encs (keepL (L.take k) z)))]) (fun k => [.cells [.d (.sl 3 (R.files.map AFile.row))], .cells [.d (.sc (.slice none 0 0))]]) 0 ?_ ?_ ?_
  · omega
  · simp only [go_sem, List.take_zero, keepL, List.filter_nil, encs_nil]; (refine SImp.same ?_; simp (disch := omega) only [go_sem, wrap_n, Int.natCast_add])
  intro k hk
  have hb := hkl k hk
  simp only [go_sem]
  by_cases hkl : k < L.length
  · have hg := htx k hkl
    obtain ⟨s1, s2⟩ := goodT_small hg
    obtain ⟨e1, e2⟩ := encT_ok hg
    have he := ref_encode_c (L.getD k default) (goodT_okI hg) (by omega) (by unfold okS; omega)
    unfold okS at e1
    rw [e2] at he
    repeat' first
      | (with_reducible first | refine AWP.seq ?_ | refine thenA_n ?_ | refine thenA_r ?_ | refine thenA_e ?_ | refine blkA_n ?_ | refine blkA_r ?_ | refine blkA_e ?_ | refine blkA_x (by decide) ?_ | refine AWP.skip ?_ | refine AWP.ret ?_ | refine AWP.exit ?_ | refine AWP.block ?_)
      | (with_reducible refine AWP.cond rfl ?_ ?_ <;> intro hc <;> (try simp only [hcs, beq_iff_eq, ge_iff_le, gt_iff_lt] at hc))
      | ((first
        | (with_reducible first | refine AWP.region tabOk ?_ | refine AWP.quietC mixed tabOk (by decide +kernel) ?_ | refine AWP.draw mixed tabOk (by decide +kernel) ?_ | refine AWP.drawE mixed tabOk (by decide +kernel) ?_ | refine AWP.drawG mixed tabOk (by decide +kernel) ?_); intro K hK
        | ((first | refine acallH_sc (he) rfl rfl ?_ ?_ ?_ | refine acallQ_sc (he) rfl rfl ?_ ?_ ?_); iterate 2 (focus ((try simp (disch := omega) only [go_sem, wrap_n, logN]) <;> (try omega) <;> fail)))
        | ((first | refine acallH_anyr (he) rfl ?_ ?_); (focus ((try simp (disch := omega) only [go_sem, wrap_n, logN]) <;> (try omega) <;> fail)))
        | ((first | refine acallH_scx (he) rfl ?_ ?_ | refine acallQ_scx (he) rfl ?_ ?_ | refine acallH_anyx (he) ?_ ?_); (focus ((try simp (disch := omega) only [go_sem, wrap_n, logN]) <;> (try omega) <;> fail)))); ((try simp (disch := omega) only [go_sem, wrap_n, logN]) <;> (repeat' with_reducible refine And.intro ?_ ?_) <;> (try (with_reducible refine hK _ ?_; clear hK K))))
      | ((first | (with_reducible refine aunder_i ?_ ?_ <;> intro hg) | with_reducible intro hg) <;> (first | (exfalso; simp at hg; done) | (have hg' := hg; (try simp only [hcs, beq_iff_eq, ge_iff_le, gt_iff_lt] at hg'); ((try simp (disch := omega) only [hg, go_sem, wrap_n, logN]) <;> (repeat' with_reducible refine And.intro ?_ ?_) <;> (try (with_reducible refine hK _ ?_; clear hK K))))))
                                                              | omega
    · refine ⟨k + 1, by omega, by omega, ?_⟩
      rw [keepL_snoc L z k hkl, if_pos hc, encs_snoc]
      (refine SImp.frame [0, 1] rfl (by intro k hk; first | (simp at hk <;> (simp; omega)) | (simp only [List.mem_cons, List.not_mem_nil, or_false] at hk; simp only [List.length_cons, List.length_nil]; omega)) (by decide) (fun k hk => by first | omega | (rcases k with _ | _ | _ | _ | k <;> first | rfl | omega)) ?_ ?_ <;> simp (disch := omega) only [go_sem, wrap_n, Int.natCast_add, true_and] <;> (try rfl))
    · refine ⟨k + 1, by omega, by omega, ?_⟩
      rw [keepL_snoc L z k hkl, if_neg (by omega)]
      (refine SImp.frame [0, 1] rfl (by intro k hk; first | (simp at hk <;> (simp; omega)) | (simp only [List.mem_cons, List.not_mem_nil, or_false] at hk; simp only [List.length_cons, List.length_nil]; omega)) (by decide) (fun k hk => by first | omega | (rcases k with _ | _ | _ | _ | k <;> first | rfl | omega)) ?_ ?_ <;> simp (disch := omega) only [go_sem, wrap_n, Int.natCast_add, true_and] <;> (try rfl))
  · have ek : k = L.length := by omega
    subst ek
    rw [List.take_length] at *
    repeat' first
      | (with_reducible first | refine AWP.seq ?_ | refine thenA_n ?_ | refine thenA_r ?_ | refine thenA_e ?_ | refine blkA_n ?_ | refine blkA_r ?_ | refine blkA_e ?_ | refine blkA_x (by decide) ?_ | refine AWP.skip ?_ | refine AWP.ret ?_ | refine AWP.exit ?_ | refine AWP.block ?_)
      | (with_reducible refine AWP.cond rfl ?_ ?_ <;> intro hc <;> (try simp only [hcs, beq_iff_eq, ge_iff_le, gt_iff_lt] at hc))
      | ((first
        | (with_reducible first | refine AWP.region tabOk ?_ | refine AWP.quietC mixed tabOk (by decide +kernel) ?_ | refine AWP.draw mixed tabOk (by decide +kernel) ?_ | refine AWP.drawE mixed tabOk (by decide +kernel) ?_ | refine AWP.drawG mixed tabOk (by decide +kernel) ?_); intro K hK
        | ((first | refine acallH_sc (hfile) rfl rfl ?_ ?_ ?_ | refine acallQ_sc (hfile) rfl rfl ?_ ?_ ?_ | refine acallH_sc (hcopy) rfl rfl ?_ ?_ ?_ | refine acallQ_sc (hcopy) rfl rfl ?_ ?_ ?_); iterate 2 (focus ((try simp (disch := omega) only [go_sem, wrap_n, logN, AFile.rgetD, getD_set, AFile.rset, getD_mapset, List.set_set]) <;> (try omega) <;> fail)))
        | ((first | refine acallH_anyr (hfile) rfl ?_ ?_ | refine acallH_anyr (hcopy) rfl ?_ ?_); (focus ((try simp (disch := omega) only [go_sem, wrap_n, logN, AFile.rgetD, getD_set, AFile.rset, getD_mapset, List.set_set]) <;> (try omega) <;> fail)))
        | ((first | refine acallH_scx (hfile) rfl ?_ ?_ | refine acallQ_scx (hfile) rfl ?_ ?_ | refine acallH_anyx (hfile) ?_ ?_); (focus ((try simp (disch := omega) only [go_sem, wrap_n, logN, AFile.rgetD, getD_set, AFile.rset, getD_mapset, List.set_set]) <;> (try omega) <;> fail)))
        | ((first | refine acallH_scx (hcopy) rfl ?_ ?_ | refine acallQ_scx (hcopy) rfl ?_ ?_ | refine acallH_anyx (hcopy) ?_ ?_); (focus ((try simp (disch := omega) only [go_sem, wrap_n, logN, AFile.rgetD, getD_set, AFile.rset, getD_mapset, List.set_set]) <;> (try omega) <;> fail)))); ((try simp (disch := omega) only [go_sem, wrap_n, logN, AFile.rgetD, getD_set, AFile.rset, getD_mapset, List.set_set]) <;> (repeat' with_reducible refine And.intro ?_ ?_) <;> (try (with_reducible refine hK _ ?_; clear hK K))))
      | ((first | (with_reducible refine aunder_i ?_ ?_ <;> intro hg) | with_reducible intro hg) <;> (first | (exfalso; simp at hg; done) | (have hg' := hg; (try simp only [hcs, beq_iff_eq, ge_iff_le, gt_iff_lt] at hg'); ((try simp (disch := omega) only [hg, go_sem, wrap_n, logN, AFile.rgetD, getD_set, AFile.rset, getD_mapset, List.set_set]) <;> (repeat' with_reducible refine And.intro ?_ ?_) <;> (try (with_reducible refine hK _ ?_; clear hK K))))))
                                                              | omega
    · exact Int.ofNat_lt.2 hplt
    · exact hplt
    (refine aend_retc ?_ rfl ?_ ?_ ?_ ?_; (focus (first | exact .inl rfl | exact .inr rfl)); (iterate 3 (focus ((try simp (disch := omega) only [go_sem, wrap_n, logN, take_map_set]) <;> (try omega) <;> fail))); (try simp (disch := omega) only [go_sem, wrap_n, logN, take_map_set, I, B, S, inj, List.cons.injEq, and_true, true_and, and_self]))
set_option maxHeartbeats 4000000 in
theorem walRecovers_w (d : ADisk) (z : Int) (h : d.files.length * 48 ≤ 140737488351232) (hw : ∀ f, f ∈ d.files → f.wf) : acall Tryd.prog [] 4 [d.av, I z] (ret (B true)) := by
  have hlast : acall Tryd.prog [] 18 [.d (.sl 7 [[.int .i64 1, .int .i64 1, .int .i64 1, .str [], .str [], .int .i64 0, .int .i64 0]])] (ret (I 1)) := last_c [t1] (by decide)
  refine acall_of tabOk Tryd.func4 rfl (by kernel_rfl) (by simp [Tryd.ntmps4]) ?_; simp only [Tryd.ntmps4, Tryd.results4, List.toList_toArray, apar, List.length_nil, List.length_cons, Nat.reduceAdd]
  repeat' first
    | (with_reducible first | refine AWP.seq ?_ | refine thenA_n ?_ | refine thenA_r ?_ | refine thenA_e ?_ | refine blkA_n ?_ | refine blkA_r ?_ | refine blkA_e ?_ | refine blkA_x (by decide) ?_ | refine AWP.skip ?_ | refine AWP.ret ?_ | refine AWP.exit ?_ | refine AWP.block ?_)
    | (with_reducible refine AWP.cond rfl ?_ ?_ <;> intro hc <;> (try simp only [hcs, beq_iff_eq, ge_iff_le, gt_iff_lt] at hc))
    | ((first
      | (with_reducible first | refine AWP.region tabOk ?_ | refine AWP.quietC mixed tabOk (by decide +kernel) ?_ | refine AWP.draw mixed tabOk (by decide +kernel) ?_ | refine AWP.drawE mixed tabOk (by decide +kernel) ?_ | refine AWP.drawG mixed tabOk (by decide +kernel) ?_); intro K hK
      | ((first | refine acallH_sc (ref_copied_d_c d h) rfl rfl ?_ ?_ ?_ | refine acallQ_sc (ref_copied_d_c d h) rfl rfl ?_ ?_ ?_ | refine acallH_sc (recover_c d h hw) rfl rfl ?_ ?_ ?_ | refine acallQ_sc (recover_c d h hw) rfl rfl ?_ ?_ ?_ | refine acallH_sc (ref_recover_c d h hw) rfl rfl ?_ ?_ ?_ | refine acallQ_sc (ref_recover_c d h hw) rfl rfl ?_ ?_ ?_ | refine acallH_sc (keep_c d z h hw) rfl rfl ?_ ?_ ?_ | refine acallQ_sc (keep_c d z h hw) rfl rfl ?_ ?_ ?_ | refine acallH_sc (ref_keep_c d z h hw) rfl rfl ?_ ?_ ?_ | refine acallQ_sc (ref_keep_c d z h hw) rfl rfl ?_ ?_ ?_ | refine acallH_sc (sameLog_c _ _ (recover_cnt d.files) (recover_cnt d.files)) rfl rfl ?_ ?_ ?_ | refine acallQ_sc (sameLog_c _ _ (recover_cnt d.files) (recover_cnt d.files)) rfl rfl ?_ ?_ ?_ | refine acallH_sc (same_disk_c _ _ recover_wf recover_wf) rfl rfl ?_ ?_ ?_ | refine acallQ_sc (same_disk_c _ _ recover_wf recover_wf) rfl rfl ?_ ?_ ?_ | refine acallH_sc (same_disk_c _ _ keep_wf keep_wf) rfl rfl ?_ ?_ ?_ | refine acallQ_sc (same_disk_c _ _ keep_wf keep_wf) rfl rfl ?_ ?_ ?_ | refine acallH_sc (opened_c) rfl rfl ?_ ?_ ?_ | refine acallQ_sc (opened_c) rfl rfl ?_ ?_ ?_ | refine acallH_sc (hlast) rfl rfl ?_ ?_ ?_ | refine acallQ_sc (hlast) rfl rfl ?_ ?_ ?_); iterate 2 (focus ((try simp (disch := omega) only [go_sem, wrap_n]) <;> (try omega) <;> fail)))
      | ((first | refine acallH_anyr (ref_copied_d_c d h) rfl ?_ ?_ | refine acallH_anyr (recover_c d h hw) rfl ?_ ?_ | refine acallH_anyr (ref_recover_c d h hw) rfl ?_ ?_ | refine acallH_anyr (keep_c d z h hw) rfl ?_ ?_ | refine acallH_anyr (ref_keep_c d z h hw) rfl ?_ ?_ | refine acallH_anyr (sameLog_c _ _ (recover_cnt d.files) (recover_cnt d.files)) rfl ?_ ?_ | refine acallH_anyr (same_disk_c _ _ recover_wf recover_wf) rfl ?_ ?_ | refine acallH_anyr (same_disk_c _ _ keep_wf keep_wf) rfl ?_ ?_ | refine acallH_anyr (opened_c) rfl ?_ ?_ | refine acallH_anyr (hlast) rfl ?_ ?_); (focus ((try simp (disch := omega) only [go_sem, wrap_n]) <;> (try omega) <;> fail)))
      | ((first | refine acallH_scx (ref_copied_d_c d h) rfl ?_ ?_ | refine acallQ_scx (ref_copied_d_c d h) rfl ?_ ?_ | refine acallH_anyx (ref_copied_d_c d h) ?_ ?_); (focus ((try simp (disch := omega) only [go_sem, wrap_n]) <;> (try omega) <;> fail)))
      | ((first | refine acallH_scx (recover_c d h hw) rfl ?_ ?_ | refine acallQ_scx (recover_c d h hw) rfl ?_ ?_ | refine acallH_anyx (recover_c d h hw) ?_ ?_); (focus ((try simp (disch := omega) only [go_sem, wrap_n]) <;> (try omega) <;> fail)))
      | ((first | refine acallH_scx (ref_recover_c d h hw) rfl ?_ ?_ | refine acallQ_scx (ref_recover_c d h hw) rfl ?_ ?_ | refine acallH_anyx (ref_recover_c d h hw) ?_ ?_); (focus ((try simp (disch := omega) only [go_sem, wrap_n]) <;> (try omega) <;> fail)))
      | ((first | refine acallH_scx (keep_c d z h hw) rfl ?_ ?_ | refine acallQ_scx (keep_c d z h hw) rfl ?_ ?_ | refine acallH_anyx (keep_c d z h hw) ?_ ?_); (focus ((try simp (disch := omega) only [go_sem, wrap_n]) <;> (try omega) <;> fail)))
      | ((first | refine acallH_scx (ref_keep_c d z h hw) rfl ?_ ?_ | refine acallQ_scx (ref_keep_c d z h hw) rfl ?_ ?_ | refine acallH_anyx (ref_keep_c d z h hw) ?_ ?_); (focus ((try simp (disch := omega) only [go_sem, wrap_n]) <;> (try omega) <;> fail)))
      | ((first | refine acallH_scx (sameLog_c _ _ (recover_cnt d.files) (recover_cnt d.files)) rfl ?_ ?_ | refine acallQ_scx (sameLog_c _ _ (recover_cnt d.files) (recover_cnt d.files)) rfl ?_ ?_ | refine acallH_anyx (sameLog_c _ _ (recover_cnt d.files) (recover_cnt d.files)) ?_ ?_); (focus ((try simp (disch := omega) only [go_sem, wrap_n]) <;> (try omega) <;> fail)))
      | ((first | refine acallH_scx (same_disk_c _ _ recover_wf recover_wf) rfl ?_ ?_ | refine acallQ_scx (same_disk_c _ _ recover_wf recover_wf) rfl ?_ ?_ | refine acallH_anyx (same_disk_c _ _ recover_wf recover_wf) ?_ ?_); (focus ((try simp (disch := omega) only [go_sem, wrap_n]) <;> (try omega) <;> fail)))
      | ((first | refine acallH_scx (same_disk_c _ _ keep_wf keep_wf) rfl ?_ ?_ | refine acallQ_scx (same_disk_c _ _ keep_wf keep_wf) rfl ?_ ?_ | refine acallH_anyx (same_disk_c _ _ keep_wf keep_wf) ?_ ?_); (focus ((try simp (disch := omega) only [go_sem, wrap_n]) <;> (try omega) <;> fail)))
      | ((first | refine acallH_scx (opened_c) rfl ?_ ?_ | refine acallQ_scx (opened_c) rfl ?_ ?_ | refine acallH_anyx (opened_c) ?_ ?_); (focus ((try simp (disch := omega) only [go_sem, wrap_n]) <;> (try omega) <;> fail)))
      | ((first | refine acallH_scx (hlast) rfl ?_ ?_ | refine acallQ_scx (hlast) rfl ?_ ?_ | refine acallH_anyx (hlast) ?_ ?_); (focus ((try simp (disch := omega) only [go_sem, wrap_n]) <;> (try omega) <;> fail)))); ((try simp (disch := omega) only [go_sem, wrap_n]) <;> (repeat' with_reducible refine And.intro ?_ ?_) <;> (try (with_reducible refine hK _ ?_; clear hK K))))
    | ((first | (with_reducible refine aunder_i ?_ ?_ <;> intro hg) | with_reducible intro hg) <;> (first | (exfalso; simp at hg; done) | (have hg' := hg; (try simp only [hcs, beq_iff_eq, ge_iff_le, gt_iff_lt] at hg'); ((try simp (disch := omega) only [hg, go_sem, wrap_n]) <;> (repeat' with_reducible refine And.intro ?_ ?_) <;> (try (with_reducible refine hK _ ?_; clear hK K))))))
                                                            | omega
  all_goals (refine aend_retc ?_ rfl ?_ ?_ ?_ ?_; (focus (first | exact .inl rfl | exact .inr rfl)); (iterate 3 (focus ((try simp (disch := omega) only [go_sem, wrap_n]) <;> (try omega) <;> fail))); (try simp (disch := omega) only [go_sem, wrap_n, I, B, S, inj, List.cons.injEq, and_true, true_and, and_self]))
theorem walRecovers_c (dss : List (List DV)) (h : typeds T 6 Tryd.f4.params.toList dss) : acall Tryd.prog [] 4 (aargs T Tryd.f4.params.toList dss) (fun v _ => v = B true) := by
  rw [Tryd.params4] at h ⊢
  simp only [List.toList_toArray, typeds] at h
  obtain ⟨c0, d0, rfl, h0, c1, d1, rfl, h1, rfl⟩ := h
  obtain ⟨d, rfl, w_d⟩ := ADisk_typed (m := 2) h0
  obtain ⟨z, rfl, w_z⟩ := ty_int (m := 5) (by simp only [T_3, ty3]) h1
  simp only [List.toList_toArray, aargs, aarg, TI.agg_mk, T_3, ty3, T_24, ty24]
  exact (walRecovers_w d z w_d.1 w_d.2).mono fun _ _ h => h.1
end Go.Proofs.YtmpfhalheaeibaaDoor
