/- Contracts of wal.Append and its reference. No condition. -/
import Derived.Test.YtmpfhalheaeibaaDoorWe
import Derived.Test.YtmpfhalheaeibaaDoorSc
import Derived.Test.YtmpfhalheaeibaaDoorDw
namespace Go.Proofs.YtmpfhalheaeibaaDoor
set_option linter.unusedVariables false
set_option linter.unusedSimpArgs false
open Go Go.RowKit
set_option maxRecDepth 100000

def logN : List UInt8 := [108, 111, 103]
theorem logN_ok : okS logN := by unfold okS; decide
theorem write_files_wf {l : List AFile} {key s : List UInt8} (hk : okS key) (hw : ∀ f, f ∈ l → f.wf) : ∀ f, f ∈ (writeD l key s).1.files → f.wf := by
  intro f hf
  unfold writeD at hf
  split at hf
  · cases hf
  · split at hf
    · cases hf
    · split at hf
      · split at hf
        · cases hf
        · obtain ⟨g1, g2, g3, g4⟩ := file_wf hw (place (l.map AFile.name) key)
          rcases List.mem_or_eq_of_mem_set hf with h | h
          · exact hw f h
          · subst h
            exact ⟨g1, g3, by show okS _; unfold okS; rw [List.length_append]; omega⟩
      · split at hf
        · cases hf
        · split at hf
          · cases hf
          · rename_i h1
            have hf' : f ∈ l.insertIdx (place (l.map AFile.name) key) ⟨key, [], s⟩ := hf
            rw [List.mem_insertIdx place_le'] at hf'
            rcases hf' with h | h
            · subst h; exact ⟨hk, by show okS []; unfold okS; decide, by show okS s; unfold okS; omega⟩
            · exact hw f h
def appendD (l : List AFile) (t : ATxn) (safe : Bool) : ADisk × Int :=
  if goodT t ≠ 0 then (default, goodT t)
  else if (writeD l logN (encT t).1).2 ≠ 0 ∨ safe = false then writeD l logN (encT t).1 else changeD (writeD l logN (encT t).1).1.files logN syncF
theorem append_wf {l : List AFile} {t : ATxn} {safe : Bool} : (appendD l t safe).1.files.length * 48 ≤ 140737488351232 := by
  unfold appendD; split
  · exact (by decide : ([] : List AFile).length * 48 ≤ 140737488351232)
  · split
    · exact write_wf
    · exact change_wf write_wf
theorem encT_ok {t : ATxn} (h : goodT t = 0) : okS (encT t).1 ∧ (encT t).2 = 0 := by
  obtain ⟨s1, s2⟩ := goodT_small h
  unfold encT; rw [if_pos h]
  refine ⟨?_, rfl⟩
  unfold okS encB
  simp only [List.length_append, headB_len, beB_len]; omega
theorem encT_no {t : ATxn} (h : goodT t ≠ 0) : encT t = ([], goodT t) := by unfold encT; rw [if_neg h]
theorem append_c (d : ADisk) (t : ATxn) (safe : Bool) (h : d.files.length * 48 ≤ 140737488351232) (hw : ∀ f, f ∈ d.files → f.wf) (hp : okS t.path) (hd : okS t.data) : acall Tryd.prog [] 14 [d.av, t.av, B safe] (ret (.tup [(appendD d.files t safe).1.av, I (appendD d.files t safe).2])) := by
  by_cases hg : goodT t = 0
  case neg =>
    have he := encode_c t hp hd
    rw [encT_no hg] at he
    unfold appendD
    rw [if_pos hg]
    refine acall_of tabOk Tryd.func14 rfl (by kernel_rfl) (by simp [Tryd.ntmps14]) ?_; simp only [Tryd.ntmps14, Tryd.results14, List.toList_toArray, apar, List.length_nil, List.length_cons, Nat.reduceAdd]
    repeat' first
      | (with_reducible first | refine AWP.seq ?_ | refine thenA_n ?_ | refine thenA_r ?_ | refine thenA_e ?_ | refine blkA_n ?_ | refine blkA_r ?_ | refine blkA_e ?_ | refine blkA_x (by decide) ?_ | refine AWP.skip ?_ | refine AWP.ret ?_ | refine AWP.exit ?_ | refine AWP.block ?_)
      | (with_reducible refine AWP.cond rfl ?_ ?_ <;> intro hc <;> (try simp only [hcs, beq_iff_eq, ge_iff_le, gt_iff_lt] at hc))
      | ((first
        | (with_reducible first | refine AWP.region tabOk ?_ | refine AWP.quietC mixed tabOk (by decide +kernel) ?_ | refine AWP.draw mixed tabOk (by decide +kernel) ?_ | refine AWP.drawE mixed tabOk (by decide +kernel) ?_ | refine AWP.drawG mixed tabOk (by decide +kernel) ?_); intro K hK
        | ((first | refine acallH_sc (he) rfl rfl ?_ ?_ ?_ | refine acallQ_sc (he) rfl rfl ?_ ?_ ?_); iterate 2 (focus ((try simp (disch := omega) only [go_sem, wrap_n]) <;> (try omega) <;> fail)))
        | ((first | refine acallH_anyr (he) rfl ?_ ?_); (focus ((try simp (disch := omega) only [go_sem, wrap_n]) <;> (try omega) <;> fail)))
        | ((first | refine acallH_scx (he) rfl ?_ ?_ | refine acallQ_scx (he) rfl ?_ ?_ | refine acallH_anyx (he) ?_ ?_); (focus ((try simp (disch := omega) only [go_sem, wrap_n]) <;> (try omega) <;> fail)))); ((try simp (disch := omega) only [go_sem, wrap_n]) <;> (repeat' with_reducible refine And.intro ?_ ?_) <;> (try (with_reducible refine hK _ ?_; clear hK K))))
      | ((first | (with_reducible refine aunder_i ?_ ?_ <;> intro hg) | with_reducible intro hg) <;> (first | (exfalso; simp at hg; done) | (have hg' := hg; (try simp only [hcs, beq_iff_eq, ge_iff_le, gt_iff_lt] at hg'); ((try simp (disch := omega) only [hg, go_sem, wrap_n]) <;> (repeat' with_reducible refine And.intro ?_ ?_) <;> (try (with_reducible refine hK _ ?_; clear hK K))))))
                                                              | omega
    all_goals first | (exfalso; omega) | skip
    (refine aend_retc ?_ rfl ?_ ?_ ?_ ?_; (focus (first | exact .inl rfl | exact .inr rfl)); (iterate 3 (focus ((try simp (disch := omega) only [go_sem, wrap_n, default]) <;> (try omega) <;> fail))); (try simp (disch := omega) only [go_sem, wrap_n, default, I, B, S, inj, List.cons.injEq, and_true, true_and, and_self]))
  obtain ⟨e1, e2⟩ := encT_ok hg
  have he := encode_c t hp hd
  rw [e2] at he
  unfold appendD
  rw [if_neg (fun h => h hg)]
  have hs := sync_c (writeD d.files logN (encT t).1).1 logN write_wf (write_files_wf logN_ok hw)
  refine acall_of tabOk Tryd.func14 rfl (by kernel_rfl) (by simp [Tryd.ntmps14]) ?_; simp only [Tryd.ntmps14, Tryd.results14, List.toList_toArray, apar, List.length_nil, List.length_cons, Nat.reduceAdd]
  repeat' first
    | (with_reducible first | refine AWP.seq ?_ | refine thenA_n ?_ | refine thenA_r ?_ | refine thenA_e ?_ | refine blkA_n ?_ | refine blkA_r ?_ | refine blkA_e ?_ | refine blkA_x (by decide) ?_ | refine AWP.skip ?_ | refine AWP.ret ?_ | refine AWP.exit ?_ | refine AWP.block ?_)
    | (with_reducible refine AWP.cond rfl ?_ ?_ <;> intro hc <;> (try simp only [hcs, beq_iff_eq, ge_iff_le, gt_iff_lt] at hc))
    | ((first
      | (with_reducible first | refine AWP.region tabOk ?_ | refine AWP.quietC mixed tabOk (by decide +kernel) ?_ | refine AWP.draw mixed tabOk (by decide +kernel) ?_ | refine AWP.drawE mixed tabOk (by decide +kernel) ?_ | refine AWP.drawG mixed tabOk (by decide +kernel) ?_); intro K hK
      | ((first | refine acallH_sc (he) rfl rfl ?_ ?_ ?_ | refine acallQ_sc (he) rfl rfl ?_ ?_ ?_ | refine acallH_sc (write_c d logN (encT t).1 e1 logN_ok h hw) rfl rfl ?_ ?_ ?_ | refine acallQ_sc (write_c d logN (encT t).1 e1 logN_ok h hw) rfl rfl ?_ ?_ ?_ | refine acallH_sc (hs) rfl rfl ?_ ?_ ?_ | refine acallQ_sc (hs) rfl rfl ?_ ?_ ?_); iterate 2 (focus ((try simp (disch := omega) only [go_sem, wrap_n, logN]) <;> (try omega) <;> fail)))
      | ((first | refine acallH_anyr (he) rfl ?_ ?_ | refine acallH_anyr (write_c d logN (encT t).1 e1 logN_ok h hw) rfl ?_ ?_ | refine acallH_anyr (hs) rfl ?_ ?_); (focus ((try simp (disch := omega) only [go_sem, wrap_n, logN]) <;> (try omega) <;> fail)))
      | ((first | refine acallH_scx (he) rfl ?_ ?_ | refine acallQ_scx (he) rfl ?_ ?_ | refine acallH_anyx (he) ?_ ?_); (focus ((try simp (disch := omega) only [go_sem, wrap_n, logN]) <;> (try omega) <;> fail)))
      | ((first | refine acallH_scx (write_c d logN (encT t).1 e1 logN_ok h hw) rfl ?_ ?_ | refine acallQ_scx (write_c d logN (encT t).1 e1 logN_ok h hw) rfl ?_ ?_ | refine acallH_anyx (write_c d logN (encT t).1 e1 logN_ok h hw) ?_ ?_); (focus ((try simp (disch := omega) only [go_sem, wrap_n, logN]) <;> (try omega) <;> fail)))
      | ((first | refine acallH_scx (hs) rfl ?_ ?_ | refine acallQ_scx (hs) rfl ?_ ?_ | refine acallH_anyx (hs) ?_ ?_); (focus ((try simp (disch := omega) only [go_sem, wrap_n, logN]) <;> (try omega) <;> fail)))); ((try simp (disch := omega) only [go_sem, wrap_n, logN]) <;> (repeat' with_reducible refine And.intro ?_ ?_) <;> (try (with_reducible refine hK _ ?_; clear hK K))))
    | ((first | (with_reducible refine aunder_i ?_ ?_ <;> intro hg) | with_reducible intro hg) <;> (first | (exfalso; simp at hg; done) | (have hg' := hg; (try simp only [hcs, beq_iff_eq, ge_iff_le, gt_iff_lt] at hg'); ((try simp (disch := omega) only [hg, go_sem, wrap_n, logN]) <;> (repeat' with_reducible refine And.intro ?_ ?_) <;> (try (with_reducible refine hK _ ?_; clear hK K))))))
                                                            | omega
  · have hc' : (writeD d.files logN (encT t).1).2 ≠ 0 ∨ safe = false := hc
    rw [if_pos hc']; (refine aend_retc ?_ rfl ?_ ?_ ?_ ?_; (focus (first | exact .inl rfl | exact .inr rfl)); (iterate 3 (focus ((try simp (disch := omega) only [go_sem, wrap_n, logN]) <;> (try omega) <;> fail))); (try simp (disch := omega) only [go_sem, wrap_n, logN, I, B, S, inj, List.cons.injEq, and_true, true_and, and_self]))
  · have hc' : ¬ ((writeD d.files logN (encT t).1).2 ≠ 0 ∨ safe = false) := fun h => by rcases h with h | h; exact h hc.1; rw [hc.2] at h; cases h
    rw [if_neg hc']; (refine aend_retc ?_ rfl ?_ ?_ ?_ ?_; (focus (first | exact .inl rfl | exact .inr rfl)); (iterate 3 (focus ((try simp (disch := omega) only [go_sem, wrap_n, logN]) <;> (try omega) <;> fail))); (try simp (disch := omega) only [go_sem, wrap_n, logN, I, B, S, inj, List.cons.injEq, and_true, true_and, and_self]))
theorem ref_append_c (d : ADisk) (t : ATxn) (safe : Bool) (h : d.files.length * 48 ≤ 140737488351232) (hw : ∀ f, f ∈ d.files → f.wf) (hz : okI t.zxid) (hp : t.path.length ≤ 1048576) (hd : okS t.data) : acall Tryd.prog [] 16 [d.av, t.av, B safe] (ret (.tup [(appendD d.files t safe).1.av, I (appendD d.files t safe).2])) := by
  by_cases hg : goodT t = 0
  case neg =>
    have he := ref_encode_c t hz hp hd
    rw [encT_no hg] at he
    unfold appendD
    rw [if_pos hg]
    refine acall_of tabOk Tryd.func16 rfl (by kernel_rfl) (by simp [Tryd.ntmps16]) ?_; simp only [Tryd.ntmps16, Tryd.results16, List.toList_toArray, apar, List.length_nil, List.length_cons, Nat.reduceAdd]
    repeat' first
      | (with_reducible first | refine AWP.seq ?_ | refine thenA_n ?_ | refine thenA_r ?_ | refine thenA_e ?_ | refine blkA_n ?_ | refine blkA_r ?_ | refine blkA_e ?_ | refine blkA_x (by decide) ?_ | refine AWP.skip ?_ | refine AWP.ret ?_ | refine AWP.exit ?_ | refine AWP.block ?_)
      | (with_reducible refine AWP.cond rfl ?_ ?_ <;> intro hc <;> (try simp only [hcs, beq_iff_eq, ge_iff_le, gt_iff_lt] at hc))
      | ((first
        | (with_reducible first | refine AWP.region tabOk ?_ | refine AWP.quietC mixed tabOk (by decide +kernel) ?_ | refine AWP.draw mixed tabOk (by decide +kernel) ?_ | refine AWP.drawE mixed tabOk (by decide +kernel) ?_ | refine AWP.drawG mixed tabOk (by decide +kernel) ?_); intro K hK
        | ((first | refine acallH_sc (he) rfl rfl ?_ ?_ ?_ | refine acallQ_sc (he) rfl rfl ?_ ?_ ?_); iterate 2 (focus ((try simp (disch := omega) only [go_sem, wrap_n]) <;> (try omega) <;> fail)))
        | ((first | refine acallH_anyr (he) rfl ?_ ?_); (focus ((try simp (disch := omega) only [go_sem, wrap_n]) <;> (try omega) <;> fail)))
        | ((first | refine acallH_scx (he) rfl ?_ ?_ | refine acallQ_scx (he) rfl ?_ ?_ | refine acallH_anyx (he) ?_ ?_); (focus ((try simp (disch := omega) only [go_sem, wrap_n]) <;> (try omega) <;> fail)))); ((try simp (disch := omega) only [go_sem, wrap_n]) <;> (repeat' with_reducible refine And.intro ?_ ?_) <;> (try (with_reducible refine hK _ ?_; clear hK K))))
      | ((first | (with_reducible refine aunder_i ?_ ?_ <;> intro hg) | with_reducible intro hg) <;> (first | (exfalso; simp at hg; done) | (have hg' := hg; (try simp only [hcs, beq_iff_eq, ge_iff_le, gt_iff_lt] at hg'); ((try simp (disch := omega) only [hg, go_sem, wrap_n]) <;> (repeat' with_reducible refine And.intro ?_ ?_) <;> (try (with_reducible refine hK _ ?_; clear hK K))))))
                                                              | omega
    all_goals first | (exfalso; omega) | skip
    (refine aend_retc ?_ rfl ?_ ?_ ?_ ?_; (focus (first | exact .inl rfl | exact .inr rfl)); (iterate 3 (focus ((try simp (disch := omega) only [go_sem, wrap_n, default]) <;> (try omega) <;> fail))); (try simp (disch := omega) only [go_sem, wrap_n, default, I, B, S, inj, List.cons.injEq, and_true, true_and, and_self]))
  obtain ⟨e1, e2⟩ := encT_ok hg
  have he := ref_encode_c t hz hp hd
  rw [e2] at he
  unfold appendD
  rw [if_neg (fun h => h hg)]
  have hs := ref_sync_c (writeD d.files logN (encT t).1).1 logN write_wf (write_files_wf logN_ok hw)
  refine acall_of tabOk Tryd.func16 rfl (by kernel_rfl) (by simp [Tryd.ntmps16]) ?_; simp only [Tryd.ntmps16, Tryd.results16, List.toList_toArray, apar, List.length_nil, List.length_cons, Nat.reduceAdd]
  repeat' first
    | (with_reducible first | refine AWP.seq ?_ | refine thenA_n ?_ | refine thenA_r ?_ | refine thenA_e ?_ | refine blkA_n ?_ | refine blkA_r ?_ | refine blkA_e ?_ | refine blkA_x (by decide) ?_ | refine AWP.skip ?_ | refine AWP.ret ?_ | refine AWP.exit ?_ | refine AWP.block ?_)
    | (with_reducible refine AWP.cond rfl ?_ ?_ <;> intro hc <;> (try simp only [hcs, beq_iff_eq, ge_iff_le, gt_iff_lt] at hc))
    | ((first
      | (with_reducible first | refine AWP.region tabOk ?_ | refine AWP.quietC mixed tabOk (by decide +kernel) ?_ | refine AWP.draw mixed tabOk (by decide +kernel) ?_ | refine AWP.drawE mixed tabOk (by decide +kernel) ?_ | refine AWP.drawG mixed tabOk (by decide +kernel) ?_); intro K hK
      | ((first | refine acallH_sc (he) rfl rfl ?_ ?_ ?_ | refine acallQ_sc (he) rfl rfl ?_ ?_ ?_ | refine acallH_sc (ref_write_c d logN (encT t).1 e1 logN_ok h hw) rfl rfl ?_ ?_ ?_ | refine acallQ_sc (ref_write_c d logN (encT t).1 e1 logN_ok h hw) rfl rfl ?_ ?_ ?_ | refine acallH_sc (hs) rfl rfl ?_ ?_ ?_ | refine acallQ_sc (hs) rfl rfl ?_ ?_ ?_); iterate 2 (focus ((try simp (disch := omega) only [go_sem, wrap_n, logN]) <;> (try omega) <;> fail)))
      | ((first | refine acallH_anyr (he) rfl ?_ ?_ | refine acallH_anyr (ref_write_c d logN (encT t).1 e1 logN_ok h hw) rfl ?_ ?_ | refine acallH_anyr (hs) rfl ?_ ?_); (focus ((try simp (disch := omega) only [go_sem, wrap_n, logN]) <;> (try omega) <;> fail)))
      | ((first | refine acallH_scx (he) rfl ?_ ?_ | refine acallQ_scx (he) rfl ?_ ?_ | refine acallH_anyx (he) ?_ ?_); (focus ((try simp (disch := omega) only [go_sem, wrap_n, logN]) <;> (try omega) <;> fail)))
      | ((first | refine acallH_scx (ref_write_c d logN (encT t).1 e1 logN_ok h hw) rfl ?_ ?_ | refine acallQ_scx (ref_write_c d logN (encT t).1 e1 logN_ok h hw) rfl ?_ ?_ | refine acallH_anyx (ref_write_c d logN (encT t).1 e1 logN_ok h hw) ?_ ?_); (focus ((try simp (disch := omega) only [go_sem, wrap_n, logN]) <;> (try omega) <;> fail)))
      | ((first | refine acallH_scx (hs) rfl ?_ ?_ | refine acallQ_scx (hs) rfl ?_ ?_ | refine acallH_anyx (hs) ?_ ?_); (focus ((try simp (disch := omega) only [go_sem, wrap_n, logN]) <;> (try omega) <;> fail)))); ((try simp (disch := omega) only [go_sem, wrap_n, logN]) <;> (repeat' with_reducible refine And.intro ?_ ?_) <;> (try (with_reducible refine hK _ ?_; clear hK K))))
    | ((first | (with_reducible refine aunder_i ?_ ?_ <;> intro hg) | with_reducible intro hg) <;> (first | (exfalso; simp at hg; done) | (have hg' := hg; (try simp only [hcs, beq_iff_eq, ge_iff_le, gt_iff_lt] at hg'); ((try simp (disch := omega) only [hg, go_sem, wrap_n, logN]) <;> (repeat' with_reducible refine And.intro ?_ ?_) <;> (try (with_reducible refine hK _ ?_; clear hK K))))))
                                                            | omega
  · have hc' : (writeD d.files logN (encT t).1).2 ≠ 0 ∨ safe = false := hc
    rw [if_pos hc']; (refine aend_retc ?_ rfl ?_ ?_ ?_ ?_; (focus (first | exact .inl rfl | exact .inr rfl)); (iterate 3 (focus ((try simp (disch := omega) only [go_sem, wrap_n, logN]) <;> (try omega) <;> fail))); (try simp (disch := omega) only [go_sem, wrap_n, logN, I, B, S, inj, List.cons.injEq, and_true, true_and, and_self]))
  · have hc' : ¬ ((writeD d.files logN (encT t).1).2 ≠ 0 ∨ safe = false) := fun h => by rcases h with h | h; exact h hc.1; rw [hc.2] at h; cases h
    rw [if_neg hc']; (refine aend_retc ?_ rfl ?_ ?_ ?_ ?_; (focus (first | exact .inl rfl | exact .inr rfl)); (iterate 3 (focus ((try simp (disch := omega) only [go_sem, wrap_n, logN]) <;> (try omega) <;> fail))); (try simp (disch := omega) only [go_sem, wrap_n, logN, I, B, S, inj, List.cons.injEq, and_true, true_and, and_self]))
set_option maxHeartbeats 4000000 in
theorem walAppends_w (d : ADisk) (t : ATxn) (safe : Bool) (l : List ATxn) (h : d.files.length * 48 ≤ 140737488351232) (hw : ∀ f, f ∈ d.files → f.wf) (hz : okI t.zxid) (hp : t.path.length ≤ 1048576) (hd : okS t.data) (hl : l.length * 72 ≤ 140737488351232) : acall Tryd.prog [] 3 [d.av, t.av, B safe, .d (.sl 7 (l.map ATxn.row))] (ret (B true)) := by
  have hp' : okS t.path := by unfold okS; omega
  have hlast : acall Tryd.prog [] 18 [.d (.sl 7 [[.int .i64 1, .int .i64 1, .int .i64 1, .str [], .str [], .int .i64 0, .int .i64 0]])] (ret (I 1)) := last_c [t1] (by decide)
  refine acall_of tabOk Tryd.func3 rfl (by kernel_rfl) (by simp [Tryd.ntmps3]) ?_; simp only [Tryd.ntmps3, Tryd.results3, List.toList_toArray, apar, List.length_nil, List.length_cons, Nat.reduceAdd]
  repeat' first
    | (with_reducible first | refine AWP.seq ?_ | refine thenA_n ?_ | refine thenA_r ?_ | refine thenA_e ?_ | refine blkA_n ?_ | refine blkA_r ?_ | refine blkA_e ?_ | refine blkA_x (by decide) ?_ | refine AWP.skip ?_ | refine AWP.ret ?_ | refine AWP.exit ?_ | refine AWP.block ?_)
    | (with_reducible refine AWP.cond rfl ?_ ?_ <;> intro hc <;> (try simp only [hcs, beq_iff_eq, ge_iff_le, gt_iff_lt] at hc))
    | ((first
      | (refine AWP.plan ((Plan.takes [3] (.forks 0 (.forks 1 (.fork 2 (.fork 4 (Plan.takes [5, 6, 7, 8, 9, 10] .done) 8 (Plan.takes [4, 5, 6, 7, 9, 10] .done)) 8 (Plan.takes [2, 4, 5, 6, 7, 9, 10] .done)) 2 (.fork 1 (.fork 4 (Plan.takes [5, 6, 7, 8, 9, 10] .done) 8 (Plan.takes [4, 5, 6, 7, 9, 10] .done)) 8 (Plan.takes [1, 4, 5, 6, 7, 9, 10] .done)) 8 (.fork 1 (Plan.takes [2, 4, 5, 6, 7, 9, 10] .done) 2 (Plan.takes [1, 4, 5, 6, 7, 9, 10] .done))) 2 (.fork 0 (.fork 1 (.fork 4 (Plan.takes [5, 6, 7, 8, 9, 10] .done) 8 (Plan.takes [4, 5, 6, 7, 9, 10] .done)) 8 (Plan.takes [1, 4, 5, 6, 7, 9, 10] .done)) 8 (Plan.takes [0, 1, 4, 5, 6, 7, 9, 10] .done)) 8 (Plan.takes [0] (.fork 1 (Plan.takes [2, 4, 5, 6, 7, 9, 10] .done) 2 (Plan.takes [1, 4, 5, 6, 7, 9, 10] .done)))))) mixed tabOk (by decide +kernel) ?_; intro K hK)
      | (with_reducible first | refine AWP.region tabOk ?_ | refine AWP.quietC mixed tabOk (by decide +kernel) ?_ | refine AWP.draw mixed tabOk (by decide +kernel) ?_ | refine AWP.drawE mixed tabOk (by decide +kernel) ?_ | refine AWP.drawG mixed tabOk (by decide +kernel) ?_); intro K hK
      | ((first | refine acallH_sc (ref_copied_d_c d h) rfl rfl ?_ ?_ ?_ | refine acallQ_sc (ref_copied_d_c d h) rfl rfl ?_ ?_ ?_ | refine acallH_sc (append_c d t safe h hw hp' hd) rfl rfl ?_ ?_ ?_ | refine acallQ_sc (append_c d t safe h hw hp' hd) rfl rfl ?_ ?_ ?_ | refine acallH_sc (ref_append_c d t safe h hw hz hp hd) rfl rfl ?_ ?_ ?_ | refine acallQ_sc (ref_append_c d t safe h hw hz hp hd) rfl rfl ?_ ?_ ?_ | refine acallH_sc (same_disk_c _ _ append_wf append_wf) rfl rfl ?_ ?_ ?_ | refine acallQ_sc (same_disk_c _ _ append_wf append_wf) rfl rfl ?_ ?_ ?_ | refine acallH_sc (last_c l hl) rfl rfl ?_ ?_ ?_ | refine acallQ_sc (last_c l hl) rfl rfl ?_ ?_ ?_ | refine acallH_sc (ref_last_c l hl) rfl rfl ?_ ?_ ?_ | refine acallQ_sc (ref_last_c l hl) rfl rfl ?_ ?_ ?_ | refine acallH_sc (opened_c) rfl rfl ?_ ?_ ?_ | refine acallQ_sc (opened_c) rfl rfl ?_ ?_ ?_ | refine acallH_sc (hlast) rfl rfl ?_ ?_ ?_ | refine acallQ_sc (hlast) rfl rfl ?_ ?_ ?_); iterate 2 (focus ((try simp (disch := omega) only [go_sem, wrap_n]) <;> (try omega) <;> fail)))
      | ((first | refine acallH_anyr (ref_copied_d_c d h) rfl ?_ ?_ | refine acallH_anyr (append_c d t safe h hw hp' hd) rfl ?_ ?_ | refine acallH_anyr (ref_append_c d t safe h hw hz hp hd) rfl ?_ ?_ | refine acallH_anyr (same_disk_c _ _ append_wf append_wf) rfl ?_ ?_ | refine acallH_anyr (last_c l hl) rfl ?_ ?_ | refine acallH_anyr (ref_last_c l hl) rfl ?_ ?_ | refine acallH_anyr (opened_c) rfl ?_ ?_ | refine acallH_anyr (hlast) rfl ?_ ?_); (focus ((try simp (disch := omega) only [go_sem, wrap_n]) <;> (try omega) <;> fail)))
      | ((first | refine acallH_scx (ref_copied_d_c d h) rfl ?_ ?_ | refine acallQ_scx (ref_copied_d_c d h) rfl ?_ ?_ | refine acallH_anyx (ref_copied_d_c d h) ?_ ?_); (focus ((try simp (disch := omega) only [go_sem, wrap_n]) <;> (try omega) <;> fail)))
      | ((first | refine acallH_scx (append_c d t safe h hw hp' hd) rfl ?_ ?_ | refine acallQ_scx (append_c d t safe h hw hp' hd) rfl ?_ ?_ | refine acallH_anyx (append_c d t safe h hw hp' hd) ?_ ?_); (focus ((try simp (disch := omega) only [go_sem, wrap_n]) <;> (try omega) <;> fail)))
      | ((first | refine acallH_scx (ref_append_c d t safe h hw hz hp hd) rfl ?_ ?_ | refine acallQ_scx (ref_append_c d t safe h hw hz hp hd) rfl ?_ ?_ | refine acallH_anyx (ref_append_c d t safe h hw hz hp hd) ?_ ?_); (focus ((try simp (disch := omega) only [go_sem, wrap_n]) <;> (try omega) <;> fail)))
      | ((first | refine acallH_scx (same_disk_c _ _ append_wf append_wf) rfl ?_ ?_ | refine acallQ_scx (same_disk_c _ _ append_wf append_wf) rfl ?_ ?_ | refine acallH_anyx (same_disk_c _ _ append_wf append_wf) ?_ ?_); (focus ((try simp (disch := omega) only [go_sem, wrap_n]) <;> (try omega) <;> fail)))
      | ((first | refine acallH_scx (last_c l hl) rfl ?_ ?_ | refine acallQ_scx (last_c l hl) rfl ?_ ?_ | refine acallH_anyx (last_c l hl) ?_ ?_); (focus ((try simp (disch := omega) only [go_sem, wrap_n]) <;> (try omega) <;> fail)))
      | ((first | refine acallH_scx (ref_last_c l hl) rfl ?_ ?_ | refine acallQ_scx (ref_last_c l hl) rfl ?_ ?_ | refine acallH_anyx (ref_last_c l hl) ?_ ?_); (focus ((try simp (disch := omega) only [go_sem, wrap_n]) <;> (try omega) <;> fail)))
      | ((first | refine acallH_scx (opened_c) rfl ?_ ?_ | refine acallQ_scx (opened_c) rfl ?_ ?_ | refine acallH_anyx (opened_c) ?_ ?_); (focus ((try simp (disch := omega) only [go_sem, wrap_n]) <;> (try omega) <;> fail)))
      | ((first | refine acallH_scx (hlast) rfl ?_ ?_ | refine acallQ_scx (hlast) rfl ?_ ?_ | refine acallH_anyx (hlast) ?_ ?_); (focus ((try simp (disch := omega) only [go_sem, wrap_n]) <;> (try omega) <;> fail)))); ((try simp (disch := omega) only [go_sem, wrap_n]) <;> (repeat' with_reducible refine And.intro ?_ ?_) <;> (try (with_reducible refine hK _ ?_; clear hK K))))
    | ((first | (with_reducible refine aunder_i ?_ ?_ <;> intro hg) | with_reducible intro hg) <;> (first | (exfalso; simp at hg; done) | (have hg' := hg; (try simp only [hcs, beq_iff_eq, ge_iff_le, gt_iff_lt] at hg'); ((try simp (disch := omega) only [hg, go_sem, wrap_n]) <;> (repeat' with_reducible refine And.intro ?_ ?_) <;> (try (with_reducible refine hK _ ?_; clear hK K))))))
                                                            | omega
  all_goals (refine aend_retc ?_ rfl ?_ ?_ ?_ ?_; (focus (first | exact .inl rfl | exact .inr rfl)); (iterate 3 (focus ((try simp (disch := omega) only [go_sem, wrap_n]) <;> (try omega) <;> fail))); (try simp (disch := omega) only [go_sem, wrap_n, I, B, S, inj, List.cons.injEq, and_true, true_and, and_self]))
theorem walAppends_u (dss : List (List DV)) (h : typeds T 6 Tryd.f3.params.toList dss) (hs : ∀ cs, cs ∈ dss → ∀ c, c ∈ cs → SmallD 1048576 c) : acall Tryd.prog [] 3 (aargs T Tryd.f3.params.toList dss) (fun v _ => v = B true) := by
  rw [Tryd.params3] at h ⊢
  simp only [List.toList_toArray, typeds] at h
  obtain ⟨c0, d0, rfl, h0, c1, d1, rfl, h1, c2, d2, rfl, h2, c3, d3, rfl, h3, rfl⟩ := h
  have s0 := hs c0 (by simp)
  have s1 := hs c1 (by simp)
  have s2 := hs c2 (by simp)
  have s3 := hs c3 (by simp)
  obtain ⟨d, rfl, w_d⟩ := ADisk_typed (m := 2) h0
  obtain ⟨t, rfl, w_t⟩ := ATxn_typed (m := 4) h1
  obtain ⟨safe, rfl⟩ := ty_bool (m := 5) (by simp only [T_4, ty4]) h2
  obtain ⟨l, rfl, v_l, w_l⟩ := ty_sl (m := 5) (e := 26) (sz := 7) (by_ := 72) (f := ATxn.row) (wf := ATxn.wf) (by simp only [T_27, ty27]) (by simp only [T_26, ty26]) (by simp only [T_26, ty26]) (fun r hr => ATxn_typed (m := 3) hr) h3
  have u_d := s0
  have u_t := s1
  have u_safe := s2
  have u_l := s3
  simp only [List.toList_toArray, aargs, aarg, TI.agg_mk, T_4, ty4, T_24, ty24, T_26, ty26, T_27, ty27]
  exact (walAppends_w d t safe l w_d.1 w_d.2 w_t.1 (u_t (DV.str t.path) (by simp [ATxn.row])).len w_t.2.2.2.2.1 v_l).mono fun _ _ h => h.1
end Go.Proofs.YtmpfhalheaeibaaDoor
