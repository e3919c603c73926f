/- A part of what TreePlays leans on: texts of this claim, one behind the other. No condition. -/
import Derived.Test.YtmpfhalheaeibaaDoorTreePlaysK9
namespace Go.Proofs.YtmpfhalheaeibaaDoor
set_option linter.unusedVariables false
set_option linter.unusedSimpArgs false
open Go Go.RowKit
set_option maxRecDepth 100000
set_option linter.unusedSimpArgs false
theorem kids_none {t : ATree} {p : List UInt8} {n : Nat} (h : kidsN t p n = 0) {j : Nat} (hj : j < n) : dirT t j ≠ p := by
  unfold kidsN at h
  rw [List.length_eq_zero_iff, List.filter_eq_nil_iff] at h
  have := h j (List.mem_range.2 hj)
  simpa using this
structure CloseOk (t : ATree) (s : Int) (k : Nat) (ns : List ANode) (es : List AEvent) : Prop where
  rises : Rises (pathsN ns)
  rest : ∀ j, k ≤ j → j < t.nodes.length → (nd t j).path ∈ pathsN ns
  dirs : ∀ j, j < t.nodes.length → (nd t j).stat.owner = s → dirP (nd t j).path ∈ pathsN ns
  len : ns.length ≤ t.nodes.length
  elen : es.length ≤ 2 * k
theorem close_one {t : ATree} {s z : Int} (hg : goodTr t = true) (hs : 1 ≤ s) {k : Nat} (hk : k < t.nodes.length) (ho : (nd t k).stat.owner = s) : goodP (nd t k).path = true ∧ dirP (nd t k).path ∈ pathsT t ∧ dirP (nd t k).path ≠ (nd t k).path ∧ ∀ j, j < t.nodes.length → dirP (nd t j).path ≠ (nd t k).path := by
  obtain ⟨hh, _, hA, hB⟩ := goodTr_iff.1 hg
  have hmem : (nd t k).path ∈ pathsT t := by rw [← pathsT_get]; exact mem_getD _ _ (by rw [pathsT_len]; exact hk)
  have hnr : (nd t k).path ≠ [47] := fun e => by
    have h0 : k = 0 := by
      apply Classical.byContradiction; intro hk0
      have := first_lt (t := t) (i := k) (fun j hj => hA j (by omega)) (by omega)
      rw [hh.2.2.1, e] at this; exact List.lt_irrefl _ this
    subst h0; rw [hh.2.2.2.1] at ho; omega
  obtain ⟨a, b⟩ := dir_mem hg hmem hnr
  refine ⟨(hA k hk).1, a, b, fun j hj => ?_⟩
  obtain ⟨_, c, _, d⟩ := hB k hk
  have hz := (c (by omega)).2
  rw [hz] at d
  exact kids_none (by omega) hj
theorem close_ok {t : ATree} {s z : Int} (hg : goodTr t = true) (hs : 1 ≤ s) : ∀ k, k ≤ t.nodes.length → CloseOk t s k (closeN t s z k).1 (closeN t s z k).2
  | 0, _ => ⟨good_rises hg, fun j _ hj => by show (nd t j).path ∈ pathsT t; rw [← pathsT_get]; exact mem_getD _ _ (by rw [pathsT_len]; exact hj), fun j hj ho => (close_one (z := z) hg hs hj ho).2.1, Nat.le_refl _, Nat.le_refl _⟩
  | k + 1, h => by
    have ih := close_ok (z := z) hg hs k (by omega)
    unfold closeN
    by_cases ho : (t.nodes.getD k default).stat.owner = s
    · rw [if_pos ho]
      have hm := ih.rest k (Nat.le_refl _) (by omega)
      have hpf := place_found ih.rises hm
      obtain ⟨_, _, _, hne⟩ := close_one (z := z) hg hs (k := k) (by omega) ho
      have hp : pathsN (delN (closeN t s z k).1 (t.nodes.getD k default).path z) = (pathsN (closeN t s z k).1).eraseIdx (place (pathsN (closeN t s z k).1) (nd t k).path) := by
        unfold delN; rw [pathsN_kid, pathsN_erase]; rfl
      refine ⟨by rw [hp]; exact rises_erase ih.rises _, fun j hj hj2 => ?_, fun j hj hjo => ?_, ?_, ?_⟩
      · rw [hp]
        refine mem_erase (ih.rest j (by omega) hj2) ?_
        rw [hpf.2]
        have := rises_lt (good_rises hg) (i := k) (j := j) (by omega) (by rw [pathsT_len]; exact hj2)
        rw [pathsT_get, pathsT_get] at this
        intro e; rw [e] at this; exact List.lt_irrefl _ this
      · rw [hp]
        refine mem_erase (ih.dirs j hj hjo) ?_
        rw [hpf.2]; exact (hne j hj).symm
      · have hl := hpf.1
        rw [pathsN_len] at hl
        show (delN _ _ _).length ≤ _
        unfold delN
        rw [kidN_len]
        have := erase_len _ _ hl
        unfold nd at this
        rw [this]
        have := ih.len; omega
      · show ((closeN t s z k).2 ++ goneE _).length ≤ _
        rw [List.length_append]; have := ih.elen
        unfold goneE; simp only [List.length_cons, List.length_nil]; omega
    · rw [if_neg ho]
      exact ⟨ih.rises, fun j hj hj2 => ih.rest j (by omega) hj2, ih.dirs, ih.len, by have := ih.elen; omega⟩
set_option maxHeartbeats 8000000 in
theorem apply2_c (t : ATree) (x : ATxn) (hw : t.wf) (hp : okS x.path) (hd : okS x.data) (h0 : wrongT t x = 0) (o2 : x.op = 2) : acall Tryd.prog [] 51 [t.av, x.av] (ret (.tup [(applyT t x).1.av, .d (.sl 2 ((applyT t x).2.1.map AEvent.row)), I (applyT t x).2.2])) := by
  have hwc := wrong_c t x hw hp hd
  obtain ⟨g1, g2, g3, g4, g5, g6, g7, g8⟩ := wrong_ok h0
  obtain ⟨h1, h2⟩ : t.nodes.length * 88 ≤ 140737488351232 ∧ t.sessions.length * 8 ≤ 140737488351232 := ⟨hw.2.1.1, hw.2.2.1⟩
  have hcp := copiedT_c t h1 h2
  have h400 : t.nodes.length ≤ 400 := (good_root g1).2.1
  rw [h0] at hwc
  have hri : RisesI t.sessions := good_sess g1
  have ms := g5 (by omega)
  have hb1 := (bsInt_c t.sessions x.session h2 hri).re (by rw [decide_eq_true ms])
  have hpl : placeI t.sessions x.session < (t.sessions.map irow).length := by rw [List.length_map]; exact placeI_lt hri ms
  have hpl2 : placeI t.sessions x.session < t.sessions.length := by rw [List.length_map] at hpl; exact hpl
  have hdone : (doneT t x) = (⟨x.zxid, (closeN t x.session x.zxid t.nodes.length).1, t.sessions.eraseIdx (placeI t.sessions x.session)⟩, (closeN t x.session x.zxid t.nodes.length).2) := by unfold doneT; rw [if_neg (by omega), if_pos o2]
  generalize hN : t.sessions.eraseIdx (placeI t.sessions x.session) = ss1 at hdone
  have hl1 : ss1.length = t.sessions.length - 1 := by rw [← hN, erase_len _ _ hpl2]
  refine acall_of tabOk Tryd.func51 rfl (by kernel_rfl) (by simp [Tryd.ntmps51]) ?_; simp only [Tryd.ntmps51, Tryd.results51, List.toList_toArray, apar, List.length_nil, List.length_cons, Nat.reduceAdd]
  repeat' first
    | (with_reducible first | refine AWP.seq ?_ | refine thenA_n ?_ | refine thenA_r ?_ | refine thenA_e ?_ | refine blkA_n ?_ | refine blkA_r ?_ | refine blkA_e ?_ | refine blkA_x (by decide) ?_ | refine AWP.skip ?_ | refine AWP.ret ?_ | refine AWP.exit ?_ | refine AWP.block ?_)
    | (with_reducible refine AWP.cond rfl ?_ ?_ <;> intro hc <;> (try simp only [hcs, beq_iff_eq, ge_iff_le, gt_iff_lt] at hc))
    | ((first
      | (with_reducible first | refine AWP.region tabOk ?_ | refine AWP.quietC mixed tabOk (by decide +kernel) ?_ | refine AWP.draw mixed tabOk (by decide +kernel) ?_ | refine AWP.drawE mixed tabOk (by decide +kernel) ?_ | refine AWP.drawG mixed tabOk (by decide +kernel) ?_); intro K hK
      | ((first | refine acallH_sc (hwc) rfl rfl ?_ ?_ ?_ | refine acallQ_sc (hwc) rfl rfl ?_ ?_ ?_ | refine acallH_sc (hcp) rfl rfl ?_ ?_ ?_ | refine acallQ_sc (hcp) rfl rfl ?_ ?_ ?_ | refine acallH_sc (hb1) rfl rfl ?_ ?_ ?_ | refine acallQ_sc (hb1) rfl rfl ?_ ?_ ?_); iterate 2 (focus ((try simp (disch := omega) only [go_sem, wrap_n, o2, erase_map, hN, hl1]) <;> (try omega) <;> fail)))
      | ((first | refine acallH_anyr (hwc) rfl ?_ ?_ | refine acallH_anyr (hcp) rfl ?_ ?_ | refine acallH_anyr (hb1) rfl ?_ ?_); (focus ((try simp (disch := omega) only [go_sem, wrap_n, o2, erase_map, hN, hl1]) <;> (try omega) <;> fail)))
      | ((first | refine acallH_scx (hwc) rfl ?_ ?_ | refine acallQ_scx (hwc) rfl ?_ ?_ | refine acallH_anyx (hwc) ?_ ?_); (focus ((try simp (disch := omega) only [go_sem, wrap_n, o2, erase_map, hN, hl1]) <;> (try omega) <;> fail)))
      | ((first | refine acallH_scx (hcp) rfl ?_ ?_ | refine acallQ_scx (hcp) rfl ?_ ?_ | refine acallH_anyx (hcp) ?_ ?_); (focus ((try simp (disch := omega) only [go_sem, wrap_n, o2, erase_map, hN, hl1]) <;> (try omega) <;> fail)))
      | ((first | refine acallH_scx (hb1) rfl ?_ ?_ | refine acallQ_scx (hb1) rfl ?_ ?_ | refine acallH_anyx (hb1) ?_ ?_); (focus ((try simp (disch := omega) only [go_sem, wrap_n, o2, erase_map, hN, hl1]) <;> (try omega) <;> fail)))
      | (refine acallH_own (delInt_c (t.sessions.map irow) (placeI t.sessions x.session) hpl (by rw [List.length_map]; omega)) ?_ ?_ ?_; (focus ((try simp (disch := omega) only [inj, List.cons.injEq, and_self, List.nodup_cons, List.not_mem_nil, List.mem_cons, not_false_eq_true, List.nodup_nil, go_sem, wrap_n, o2, erase_map, hN, hl1]) <;> (try omega) <;> fail)); (focus ((try simp (disch := omega) only [inj, List.cons.injEq, and_self, List.nodup_cons, List.not_mem_nil, List.mem_cons, not_false_eq_true, List.nodup_nil, go_sem, wrap_n, o2, erase_map, hN, hl1]) <;> (try omega) <;> (try decide) <;> fail)))); ((try simp (disch := omega) only [go_sem, wrap_n, o2, erase_map, hN, hl1]) <;> (repeat' with_reducible refine And.intro ?_ ?_) <;> (try (with_reducible refine hK _ ?_; clear hK K))))
    | ((first | (with_reducible refine aunder_i ?_ ?_ <;> intro hg) | with_reducible intro hg) <;> (first | (exfalso; simp at hg; done) | (have hg' := hg; (try simp only [hcs, beq_iff_eq, ge_iff_le, gt_iff_lt] at hg'); ((try simp (disch := omega) only [hg, go_sem, wrap_n, o2, erase_map, hN, hl1]) <;> (repeat' with_reducible refine And.intro ?_ ?_) <;> (try (with_reducible refine hK _ ?_; clear hK K))))))
                                                            | omega
  refine AWP.weaken (SImp.nilOwnC 5 3 2 rfl rfl) ?_
  simp only [go_sem]
  refine AWP.loopB (ι := Nat) (fun k => k ≤ t.nodes.length) (fun k => t.nodes.length - k) [3, 4, 8, 90, 91] (fun k => [(92, I k)]) (fun k => [.cells [.d (.int .i64 t.zxid), .d (.sl 9 (t.nodes.map ANode.row)), .d (.sl 1 (t.sessions.map irow))], .cells [I x.zxid, I 2, I x.session, S x.path, S x.data, I x.version, I x.owner], .cells [I 0, .d (.sc (.slice none 0 0)), .d (.sc (.slice none 0 0))], .rows 9 ((closeN t x.session x.zxid k).1.map ANode.row), .dead, .cells [I x.zxid, .osl 3 9 0 (closeN t x.session x.zxid k).1.length, .osl 6 1 0 (t.sessions.length - 1), .osl 7 2 0 (closeN t x.session x.zxid k).2.length], .rows 1 (ss1.map irow), .rows 2 ((closeN t x.session x.zxid k).2.map AEvent.row)]) 0 ?_ ?_ ?_
  · omega
  · simp only [go_sem, closeN]; (refine SImp.same ?_; simp (disch := omega) only [go_sem, wrap_n, Int.natCast_add])
  intro k hk
  have ci := close_ok (z := x.zxid) g1 (goodT_nums g2).2.2.1 k hk
  have hnext : closeN t x.session x.zxid (k + 1) = if (t.nodes.getD k default).stat.owner = x.session then (delN (closeN t x.session x.zxid k).1 (t.nodes.getD k default).path x.zxid, (closeN t x.session x.zxid k).2 ++ goneE (t.nodes.getD k default).path) else closeN t x.session x.zxid k := rfl
  simp only [go_sem]
  by_cases hkk : k < t.nodes.length
  case neg =>
    obtain rfl : k = t.nodes.length := by omega
    generalize closeN t x.session x.zxid t.nodes.length = cl at ci hdone
    obtain ⟨ns, es⟩ := cl
    have hcc := contains_c ns (by have := ci.len; simp only at this; omega)
    have tks : List.take (t.sessions.length - 1) (ss1.map irow) = ss1.map irow := List.take_of_length_le (by rw [List.length_map]; omega)
    repeat' first
      | (with_reducible first | refine AWP.seq ?_ | refine thenA_n ?_ | refine thenA_r ?_ | refine thenA_e ?_ | refine blkA_n ?_ | refine blkA_r ?_ | refine blkA_e ?_ | refine blkA_x (by decide) ?_ | refine AWP.skip ?_ | refine AWP.ret ?_ | refine AWP.exit ?_ | refine AWP.block ?_)
      | (with_reducible refine AWP.cond rfl ?_ ?_ <;> intro hc <;> (try simp only [hcs, beq_iff_eq, ge_iff_le, gt_iff_lt] at hc))
      | ((first
        | (refine AWP.plan ((Plan.takes [0, 1, 2, 3, 4, 5, 6] (.fork 7 (Plan.takes [8, 9, 10] .done) 8 (Plan.takes [7, 9, 10] .done)))) mixed tabOk (by decide +kernel) ?_; intro K hK)
        | (with_reducible first | refine AWP.region tabOk ?_ | refine AWP.quietC mixed tabOk (by decide +kernel) ?_ | refine AWP.draw mixed tabOk (by decide +kernel) ?_ | refine AWP.drawE mixed tabOk (by decide +kernel) ?_ | refine AWP.drawG mixed tabOk (by decide +kernel) ?_); intro K hK
        | ((first | refine acallH_sc (hcc) rfl rfl ?_ ?_ ?_ | refine acallQ_sc (hcc) rfl rfl ?_ ?_ ?_); iterate 2 (focus ((try simp (disch := omega) only [go_sem, wrap_n]) <;> (try omega) <;> fail)))
        | ((first | refine acallH_anyr (hcc) rfl ?_ ?_); (focus ((try simp (disch := omega) only [go_sem, wrap_n]) <;> (try omega) <;> fail)))
        | ((first | refine acallH_scx (hcc) rfl ?_ ?_ | refine acallQ_scx (hcc) rfl ?_ ?_ | refine acallH_anyx (hcc) ?_ ?_); (focus ((try simp (disch := omega) only [go_sem, wrap_n]) <;> (try omega) <;> fail)))); ((try simp (disch := omega) only [go_sem, wrap_n]) <;> (repeat' with_reducible refine And.intro ?_ ?_) <;> (try (with_reducible refine hK _ ?_; clear hK K))))
      | ((first | (with_reducible refine aunder_i ?_ ?_ <;> intro hg) | with_reducible intro hg) <;> (first | (exfalso; simp at hg; done) | (have hg' := hg; (try simp only [hcs, beq_iff_eq, ge_iff_le, gt_iff_lt] at hg'); ((try simp (disch := omega) only [hg, go_sem, wrap_n]) <;> (repeat' with_reducible refine And.intro ?_ ?_) <;> (try (with_reducible refine hK _ ?_; clear hK K))))))
                                                              | omega
    all_goals first
      | (rw [apply_full h0 (by rw [hdone]; exact hc)]; (refine aend_retc ?_ rfl ?_ ?_ ?_ ?_; (focus (first | exact .inl rfl | exact .inr rfl)); (iterate 3 (focus ((try simp (disch := omega) only [go_sem, wrap_n, default]) <;> (try omega) <;> fail))); (try simp (disch := omega) only [go_sem, wrap_n, default, I, B, S, inj, List.cons.injEq, and_true, true_and, and_self])); done)
      | (rw [apply_ok h0 (by rw [hdone]; exact hc), hdone]; (refine aend_retc ?_ rfl ?_ ?_ ?_ ?_; (focus (first | exact .inl rfl | exact .inr rfl)); (iterate 3 (focus ((try simp (disch := omega) only [go_sem, wrap_n, tks, I, S]) <;> (try omega) <;> fail))); (try simp (disch := omega) only [go_sem, wrap_n, tks, I, S, I, B, S, inj, List.cons.injEq, and_true, true_and, and_self])); done)
  by_cases how : (t.nodes.getD k default).stat.owner = x.session
  · rw [if_pos how] at hnext
    have hone := close_one (z := x.zxid) g1 (goodT_nums g2).2.2.1 hkk how
    have hokp := (node_okS hw k).1
    have hm := ci.rest k (Nat.le_refl _) hkk
    have hdir := ci.dirs k hkk how
    have hr := ci.rises
    have hlen := ci.len
    have helen := ci.elen
    clear ci
    unfold nd at hone hm hdir
    generalize closeN t x.session x.zxid k = cl at hnext hm hdir hr hlen helen
    obtain ⟨ns, es⟩ := cl
    simp only at hnext hm hdir hr hlen helen
    generalize hpp : (t.nodes.getD k default).path = p at hnext hm hdir hone hokp
    have hf1 := (findN_c x.zxid ns ss1 p (by omega) hr).re (by rw [decide_eq_true hm])
    have hpf := place_found hr hm
    have hdpl : place (pathsN ns) p < (ns.map ANode.row).length := by have := hpf.1; rw [List.length_map]; rwa [pathsN_len] at this
    have hdpl2 : place (pathsN ns) p < ns.length := by rw [List.length_map] at hdpl; exact hdpl
    generalize hM : ns.eraseIdx (place (pathsN ns) p) = ns1
    have hlm : ns1.length = ns.length - 1 := by rw [← hM, erase_len _ _ hdpl2]
    have hp1 : pathsN ns1 = (pathsN ns).eraseIdx (place (pathsN ns) p) := by rw [← hM, pathsN_erase]
    have hr1 : Rises (pathsN ns1) := by rw [hp1]; exact rises_erase hr _
    have hm1 : dirP p ∈ pathsN ns1 := by rw [hp1]; exact mem_erase hdir (by rw [hpf.2]; exact hone.2.2.1.symm)
    have hq := (place_found hr1 hm1).1
    rw [pathsN_len] at hq
    have hadd : delN ns p x.zxid = ns1.set (place (pathsN ns1) (dirP p)) (kidF (-1) x.zxid (ns1.getD (place (pathsN ns1) (dirP p)) default)) := by unfold delN kidN; rw [hM, if_pos hm1]
    have hf2 := (findN_c x.zxid ns1 ss1 (dirP p) (by omega) hr1).re (by rw [decide_eq_true hm1])
    rw [hadd] at hnext
    generalize hn2 : ns1.set (place (pathsN ns1) (dirP p)) (kidF (-1) x.zxid (ns1.getD (place (pathsN ns1) (dirP p)) default)) = ns2 at hnext
    have hl2 : ns2.length = ns.length - 1 := by rw [← hn2, List.length_set, hlm]
    unfold kidF at hn2
    have e1 : (splitP p).1.1 = dirP p := rfl
    have tk1 : List.take (ns.length - 1) (ns1.map ANode.row) = ns1.map ANode.row := List.take_of_length_le (by rw [List.length_map]; omega)
    have tks : List.take (t.sessions.length - 1) (ss1.map irow) = ss1.map irow := List.take_of_length_le (by rw [List.length_map]; omega)
    repeat' first
      | (with_reducible first | refine AWP.seq ?_ | refine thenA_n ?_ | refine thenA_r ?_ | refine thenA_e ?_ | refine blkA_n ?_ | refine blkA_r ?_ | refine blkA_e ?_ | refine blkA_x (by decide) ?_ | refine AWP.skip ?_ | refine AWP.ret ?_ | refine AWP.exit ?_ | refine AWP.block ?_)
      | (with_reducible refine AWP.cond rfl ?_ ?_ <;> intro hc <;> (try simp only [hcs, beq_iff_eq, ge_iff_le, gt_iff_lt] at hc))
      | ((first
        | (with_reducible first | refine AWP.region tabOk ?_ | refine AWP.quietC mixed tabOk (by decide +kernel) ?_ | refine AWP.draw mixed tabOk (by decide +kernel) ?_ | refine AWP.drawE mixed tabOk (by decide +kernel) ?_ | refine AWP.drawG mixed tabOk (by decide +kernel) ?_); intro K hK
        | ((first | refine acallH_sc (hf1) rfl rfl ?_ ?_ ?_ | refine acallQ_sc (hf1) rfl rfl ?_ ?_ ?_ | refine acallH_sc (hf2) rfl rfl ?_ ?_ ?_ | refine acallQ_sc (hf2) rfl rfl ?_ ?_ ?_ | refine acallH_sc (split_c p hokp) rfl rfl ?_ ?_ ?_ | refine acallQ_sc (split_c p hokp) rfl rfl ?_ ?_ ?_); iterate 2 (focus ((try simp (disch := omega) only [go_sem, wrap_n, how, hpp, erase_map, hM, hlm, e1, hn2, hl2, tk1, tks, ANode.rgetD, getD_set, ANode.rset, getD_mapset, List.set_set, AEvent.rsnoc, take_map_len, take_map_snoc]) <;> (try omega) <;> fail)))
        | ((first | refine acallH_anyr (hf1) rfl ?_ ?_ | refine acallH_anyr (hf2) rfl ?_ ?_ | refine acallH_anyr (split_c p hokp) rfl ?_ ?_); (focus ((try simp (disch := omega) only [go_sem, wrap_n, how, hpp, erase_map, hM, hlm, e1, hn2, hl2, tk1, tks, ANode.rgetD, getD_set, ANode.rset, getD_mapset, List.set_set, AEvent.rsnoc, take_map_len, take_map_snoc]) <;> (try omega) <;> fail)))
        | ((first | refine acallH_scx (hf1) rfl ?_ ?_ | refine acallQ_scx (hf1) rfl ?_ ?_ | refine acallH_anyx (hf1) ?_ ?_); (focus ((try simp (disch := omega) only [go_sem, wrap_n, how, hpp, erase_map, hM, hlm, e1, hn2, hl2, tk1, tks, ANode.rgetD, getD_set, ANode.rset, getD_mapset, List.set_set, AEvent.rsnoc, take_map_len, take_map_snoc]) <;> (try omega) <;> fail)))
        | ((first | refine acallH_scx (hf2) rfl ?_ ?_ | refine acallQ_scx (hf2) rfl ?_ ?_ | refine acallH_anyx (hf2) ?_ ?_); (focus ((try simp (disch := omega) only [go_sem, wrap_n, how, hpp, erase_map, hM, hlm, e1, hn2, hl2, tk1, tks, ANode.rgetD, getD_set, ANode.rset, getD_mapset, List.set_set, AEvent.rsnoc, take_map_len, take_map_snoc]) <;> (try omega) <;> fail)))
        | ((first | refine acallH_scx (split_c p hokp) rfl ?_ ?_ | refine acallQ_scx (split_c p hokp) rfl ?_ ?_ | refine acallH_anyx (split_c p hokp) ?_ ?_); (focus ((try simp (disch := omega) only [go_sem, wrap_n, how, hpp, erase_map, hM, hlm, e1, hn2, hl2, tk1, tks, ANode.rgetD, getD_set, ANode.rset, getD_mapset, List.set_set, AEvent.rsnoc, take_map_len, take_map_snoc]) <;> (try omega) <;> fail)))
        | (refine acallH_own (delNode_c (ns.map ANode.row) (place (pathsN ns) p) hdpl (by rw [List.length_map]; omega)) ?_ ?_ ?_; (focus ((try simp (disch := omega) only [inj, List.cons.injEq, and_self, List.nodup_cons, List.not_mem_nil, List.mem_cons, not_false_eq_true, List.nodup_nil, go_sem, wrap_n, how, hpp, erase_map, hM, hlm, e1, hn2, hl2, tk1, tks, ANode.rgetD, getD_set, ANode.rset, getD_mapset, List.set_set, AEvent.rsnoc, take_map_len, take_map_snoc]) <;> (try omega) <;> fail)); (focus ((try simp (disch := omega) only [inj, List.cons.injEq, and_self, List.nodup_cons, List.not_mem_nil, List.mem_cons, not_false_eq_true, List.nodup_nil, go_sem, wrap_n, how, hpp, erase_map, hM, hlm, e1, hn2, hl2, tk1, tks, ANode.rgetD, getD_set, ANode.rset, getD_mapset, List.set_set, AEvent.rsnoc, take_map_len, take_map_snoc]) <;> (try omega) <;> (try decide) <;> fail)))); ((try simp (disch := omega) only [go_sem, wrap_n, how, hpp, erase_map, hM, hlm, e1, hn2, hl2, tk1, tks, ANode.rgetD, getD_set, ANode.rset, getD_mapset, List.set_set, AEvent.rsnoc, take_map_len, take_map_snoc]) <;> (repeat' with_reducible refine And.intro ?_ ?_) <;> (try (with_reducible refine hK _ ?_; clear hK K))))
      | (refine acallHK_in fun Kk hKk => (acall_of tabOk Tryd.func107 rfl (by kernel_rfl) (by simp [Tryd.ntmps107]) ?_); simp only [Tryd.ntmps107, Tryd.results107, List.toList_toArray, apar, List.length_nil, List.length_cons, Nat.reduceAdd, List.length_append, List.length_set, go_sem])
      | (refine acallHK_in fun Kk hKk => (acall_of tabOk Tryd.func154 rfl (by kernel_rfl) (by simp [Tryd.ntmps154]) ?_); simp only [Tryd.ntmps154, Tryd.results154, List.toList_toArray, apar, List.length_nil, List.length_cons, Nat.reduceAdd, List.length_append, List.length_set, go_sem])
      | (refine aend_in (v := ?_) hKk (by first | exact .inl rfl | exact .inr rfl) ?_ ?_ ?_; rotate_left; (focus ((try simp (disch := omega) only [go_sem, wrap_n, how, hpp, erase_map, hM, hlm, e1, hn2, hl2, tk1, tks, ANode.rgetD, getD_set, ANode.rset, getD_mapset, List.set_set, AEvent.rsnoc, take_map_len, take_map_snoc]) <;> (try omega) <;> fail)); (focus ((try simp (disch := omega) only [go_sem, wrap_n, how, hpp, erase_map, hM, hlm, e1, hn2, hl2, tk1, tks, ANode.rgetD, getD_set, ANode.rset, getD_mapset, List.set_set, AEvent.rsnoc, take_map_len, take_map_snoc]) <;> (first | done | exact rfl))); clear hKk Kk; ((try simp (disch := omega) only [go_sem, wrap_n, how, hpp, erase_map, hM, hlm, e1, hn2, hl2, tk1, tks, ANode.rgetD, getD_set, ANode.rset, getD_mapset, List.set_set, AEvent.rsnoc, take_map_len, take_map_snoc]) <;> (repeat' with_reducible refine And.intro ?_ ?_) <;> (try (with_reducible refine hK _ ?_; clear hK K))))
      | ((first | (with_reducible refine aunder_i ?_ ?_ <;> intro hg) | with_reducible intro hg) <;> (first | (exfalso; simp at hg; done) | (have hg' := hg; (try simp only [hcs, beq_iff_eq, ge_iff_le, gt_iff_lt] at hg'); ((try simp (disch := omega) only [hg, go_sem, wrap_n, how, hpp, erase_map, hM, hlm, e1, hn2, hl2, tk1, tks, ANode.rgetD, getD_set, ANode.rset, getD_mapset, List.set_set, AEvent.rsnoc, take_map_len, take_map_snoc]) <;> (repeat' with_reducible refine And.intro ?_ ?_) <;> (try (with_reducible refine hK _ ?_; clear hK K))))))
                                                              | omega
    refine ⟨k + 1, by omega, by omega, ?_⟩
    rw [hnext]
    (refine SImp.frame [0, 1, 2, 9, 4, 5, 6, 13] rfl (by intro k hk; first | (simp at hk <;> (simp; omega)) | (simp only [List.mem_cons, List.not_mem_nil, or_false] at hk; simp only [List.length_cons, List.length_nil]; omega)) (by decide) (fun k hk => by first | omega | (rcases k with _ | _ | _ | _ | k <;> first | rfl | omega)) ?_ ?_ <;> simp (disch := omega) only [go_sem, wrap_n, Int.natCast_add, goneE, List.length_append, List.append_assoc, List.cons_append, List.nil_append, hl2, tks, Nat.add_assoc, I, S] <;> (try rfl))
  · rw [if_neg how] at hnext
    repeat' first
      | (with_reducible first | refine AWP.seq ?_ | refine thenA_n ?_ | refine thenA_r ?_ | refine thenA_e ?_ | refine blkA_n ?_ | refine blkA_r ?_ | refine blkA_e ?_ | refine blkA_x (by decide) ?_ | refine AWP.skip ?_ | refine AWP.ret ?_ | refine AWP.exit ?_ | refine AWP.block ?_)
      | (with_reducible refine AWP.cond rfl ?_ ?_ <;> intro hc <;> (try simp only [hcs, beq_iff_eq, ge_iff_le, gt_iff_lt] at hc))
      | ((first
        | (with_reducible first | refine AWP.region tabOk ?_ | refine AWP.quietC mixed tabOk (by decide +kernel) ?_ | refine AWP.draw mixed tabOk (by decide +kernel) ?_ | refine AWP.drawE mixed tabOk (by decide +kernel) ?_ | refine AWP.drawG mixed tabOk (by decide +kernel) ?_); intro K hK); ((try simp (disch := omega) only [go_sem, wrap_n]) <;> (repeat' with_reducible refine And.intro ?_ ?_) <;> (try (with_reducible refine hK _ ?_; clear hK K))))
      | ((first | (with_reducible refine aunder_i ?_ ?_ <;> intro hg) | with_reducible intro hg) <;> (first | (exfalso; simp at hg; done) | (have hg' := hg; (try simp only [hcs, beq_iff_eq, ge_iff_le, gt_iff_lt] at hg'); ((try simp (disch := omega) only [hg, go_sem, wrap_n]) <;> (repeat' with_reducible refine And.intro ?_ ?_) <;> (try (with_reducible refine hK _ ?_; clear hK K))))))
                                                              | omega
    refine ⟨k + 1, by omega, by omega, ?_⟩
    rw [hnext]
    (refine SImp.frame [0, 1, 2, 3, 4, 5, 6, 7] rfl (by intro k hk; first | (simp at hk <;> (simp; omega)) | (simp only [List.mem_cons, List.not_mem_nil, or_false] at hk; simp only [List.length_cons, List.length_nil]; omega)) (by decide) (fun k hk => by first | omega | (rcases k with _ | _ | _ | _ | k <;> first | rfl | omega)) ?_ ?_ <;> simp (disch := omega) only [go_sem, wrap_n, Int.natCast_add, true_and] <;> (try rfl))
theorem apply_c (t : ATree) (x : ATxn) (hw : t.wf) (hp : okS x.path) (hd : okS x.data) : acall Tryd.prog [] 51 [t.av, x.av] (ret (.tup [(applyT t x).1.av, .d (.sl 2 ((applyT t x).2.1.map AEvent.row)), I (applyT t x).2.2])) := by
  by_cases h0 : wrongT t x = 0
  case neg =>
    have hwc := wrong_c t x hw hp hd
    rw [apply_no h0]
    refine acall_of tabOk Tryd.func51 rfl (by kernel_rfl) (by simp [Tryd.ntmps51]) ?_; simp only [Tryd.ntmps51, Tryd.results51, List.toList_toArray, apar, List.length_nil, List.length_cons, Nat.reduceAdd]
    repeat' first
      | (with_reducible first | refine AWP.seq ?_ | refine thenA_n ?_ | refine thenA_r ?_ | refine thenA_e ?_ | refine blkA_n ?_ | refine blkA_r ?_ | refine blkA_e ?_ | refine blkA_x (by decide) ?_ | refine AWP.skip ?_ | refine AWP.ret ?_ | refine AWP.exit ?_ | refine AWP.block ?_)
      | (with_reducible refine AWP.cond rfl ?_ ?_ <;> intro hc <;> (try simp only [hcs, beq_iff_eq, ge_iff_le, gt_iff_lt] at hc))
      | ((first
        | (with_reducible first | refine AWP.region tabOk ?_ | refine AWP.quietC mixed tabOk (by decide +kernel) ?_ | refine AWP.draw mixed tabOk (by decide +kernel) ?_ | refine AWP.drawE mixed tabOk (by decide +kernel) ?_ | refine AWP.drawG mixed tabOk (by decide +kernel) ?_); intro K hK
        | ((first | refine acallH_sc (hwc) rfl rfl ?_ ?_ ?_ | refine acallQ_sc (hwc) rfl rfl ?_ ?_ ?_); iterate 2 (focus ((try simp (disch := omega) only [go_sem, wrap_n]) <;> (try omega) <;> fail)))
        | ((first | refine acallH_anyr (hwc) rfl ?_ ?_); (focus ((try simp (disch := omega) only [go_sem, wrap_n]) <;> (try omega) <;> fail)))
        | ((first | refine acallH_scx (hwc) rfl ?_ ?_ | refine acallQ_scx (hwc) rfl ?_ ?_ | refine acallH_anyx (hwc) ?_ ?_); (focus ((try simp (disch := omega) only [go_sem, wrap_n]) <;> (try omega) <;> fail)))); ((try simp (disch := omega) only [go_sem, wrap_n]) <;> (repeat' with_reducible refine And.intro ?_ ?_) <;> (try (with_reducible refine hK _ ?_; clear hK K))))
      | ((first | (with_reducible refine aunder_i ?_ ?_ <;> intro hg) | with_reducible intro hg) <;> (first | (exfalso; simp at hg; done) | (have hg' := hg; (try simp only [hcs, beq_iff_eq, ge_iff_le, gt_iff_lt] at hg'); ((try simp (disch := omega) only [hg, go_sem, wrap_n]) <;> (repeat' with_reducible refine And.intro ?_ ?_) <;> (try (with_reducible refine hK _ ?_; clear hK K))))))
                                                              | omega
    all_goals first | (exfalso; omega) | skip
    (refine aend_retc ?_ rfl ?_ ?_ ?_ ?_; (focus (first | exact .inl rfl | exact .inr rfl)); (iterate 3 (focus ((try simp (disch := omega) only [go_sem, wrap_n, default]) <;> (try omega) <;> fail))); (try simp (disch := omega) only [go_sem, wrap_n, default, I, B, S, inj, List.cons.injEq, and_true, true_and, and_self]))
  obtain ⟨o1, o2, _, _⟩ := goodT_nums (wrong_ok h0).2.1
  rcases (by omega : x.op = 1 ∨ x.op = 2 ∨ x.op = 3 ∨ x.op = 4 ∨ x.op = 5) with o | o | o | o | o
  · exact apply1_c t x hw hp hd h0 o
  · exact apply2_c t x hw hp hd h0 o
  · exact apply3_c t x hw hp hd h0 o
  · exact apply4_c t x hw hp hd h0 o
  · exact apply5_c t x hw hp hd h0 o
end Go.Proofs.YtmpfhalheaeibaaDoor
namespace Go.Proofs.YtmpfhalheaeibaaDoor
set_option linter.unusedVariables false
set_option linter.unusedSimpArgs false
open Go Go.RowKit
set_option maxRecDepth 100000
set_option linter.unusedSimpArgs false
theorem nodeM_c (z : Int) (ns : List ANode) (ss : List Int) (key : List UInt8) (h : ns.length * 88 ≤ 140737488351232) (hr : Rises (pathsN ns)) (hm : key ∈ pathsN ns) : acall Tryd.prog [] 93 [.agg [I z, .d (.sl 9 (ns.map ANode.row)), .d (.sl 1 (ss.map irow))], S key] (ret (I (place (pathsN ns) key : Nat))) :=
  (nodeI_c ⟨z, ns, ss⟩ key h hr).re (congrArg I (nodeI_yes hm))
theorem copyTO_c (t : ATree) (h : t.nodes.length * 88 ≤ 140737488351232) (h2 : t.sessions.length * 8 ≤ 140737488351232) : acall Tryd.prog [] 27 [t.av] (outs (.agg [I t.zxid, .osl 0 9 0 t.nodes.length, .osl 1 1 0 t.sessions.length]) [.rows 9 (t.nodes.map ANode.row), .rows 1 (t.sessions.map irow)]) := by
  refine acall_of tabOk Tryd.func27 rfl (by kernel_rfl) (by simp [Tryd.ntmps27]) ?_; simp only [Tryd.ntmps27, Tryd.results27, List.toList_toArray, apar, List.length_nil, List.length_cons, Nat.reduceAdd]
  repeat' first
    | (with_reducible first | refine AWP.seq ?_ | refine thenA_n ?_ | refine thenA_r ?_ | refine thenA_e ?_ | refine blkA_n ?_ | refine blkA_r ?_ | refine blkA_e ?_ | refine blkA_x (by decide) ?_ | refine AWP.skip ?_ | refine AWP.ret ?_ | refine AWP.exit ?_ | refine AWP.block ?_)
    | (with_reducible refine AWP.cond rfl ?_ ?_ <;> intro hc <;> (try simp only [hcs, beq_iff_eq, ge_iff_le, gt_iff_lt] at hc))
    | ((first
      | (with_reducible first | refine AWP.region tabOk ?_ | refine AWP.quietC mixed tabOk (by decide +kernel) ?_ | refine AWP.draw mixed tabOk (by decide +kernel) ?_ | refine AWP.drawE mixed tabOk (by decide +kernel) ?_ | refine AWP.drawG mixed tabOk (by decide +kernel) ?_); intro K hK); ((try simp (disch := omega) only [go_sem, wrap_n]) <;> (repeat' with_reducible refine And.intro ?_ ?_) <;> (try (with_reducible refine hK _ ?_; clear hK K))))
    | ((first | (with_reducible refine aunder_i ?_ ?_ <;> intro hg) | with_reducible intro hg) <;> (first | (exfalso; simp at hg; done) | (have hg' := hg; (try simp only [hcs, beq_iff_eq, ge_iff_le, gt_iff_lt] at hg'); ((try simp (disch := omega) only [hg, go_sem, wrap_n]) <;> (repeat' with_reducible refine And.intro ?_ ?_) <;> (try (with_reducible refine hK _ ?_; clear hK K))))))
                                                            | omega
  all_goals (refine aend_out (by first | exact .inl rfl | exact .inr rfl) ?_ ?_; (focus ((try simp (disch := omega) only [go_sem, wrap_n]) <;> fail)); simp (disch := omega) only [go_sem, wrap_n, true_and]; refine AOut.of_simp ?_ (AOut.same ⟨rfl, rfl⟩); refine SImp.frame [2, 3] rfl (by intro k hk; first | (simp at hk <;> (simp; omega)) | (simp only [List.mem_cons, List.not_mem_nil, or_false] at hk; simp only [List.length_cons, List.length_nil]; omega)) (by decide) (fun k hk => by first | omega | (rcases k with _ | _ | _ | _ | _ | _ | _ | _ | k <;> first | rfl | omega)) ?_ ?_ <;> simp (disch := omega) only [go_sem, wrap_n, true_or, or_true, true_and])
def othersN (l : List ANode) (key : List UInt8) : List ANode := l.filter fun f => decide (f.path ≠ key)
theorem othersN_snoc (l : List ANode) (key : List UInt8) (k : Nat) (h : k < l.length) : othersN (l.take (k + 1)) key = if (l.getD k default).path ≠ key then othersN (l.take k) key ++ [l.getD k default] else othersN (l.take k) key := by
  unfold othersN
  rw [take_snoc l k h, List.filter_append]
  by_cases e : (l.getD k default).path ≠ key
  · rw [if_pos e, List.filter_cons_of_pos (by simpa using e)]; rfl
  · rw [if_neg e, List.filter_cons_of_neg (by simpa using e), List.filter_nil, List.append_nil]
theorem othersN_erase {l : List ANode} {key : List UInt8} (hr : Rises (pathsN l)) (h : key ∈ pathsN l) : othersN l key = l.eraseIdx (place (pathsN l) key) := by
  have hp := place_found hr h
  generalize place (pathsN l) key = p at *
  have hpl : p < l.length := by have := hp.1; rwa [pathsN_len] at this
  have gd (j : Nat) : (pathsN l).getD j [] = (l.getD j default).path := getD_map ANode.path l j default
  have hne : ∀ j, j < l.length → j ≠ p → (l.getD j default).path ≠ key := fun j hj hjp e => by
    have e1 : (pathsN l).getD j [] = key := by rw [gd]; exact e
    rcases Nat.lt_or_gt_of_ne hjp with h1 | h1
    · have := rises_lt hr h1 (by rw [pathsN_len]; exact hpl); rw [e1, hp.2] at this; exact List.lt_irrefl _ this
    · have := rises_lt hr h1 (by rw [pathsN_len]; exact hj); rw [e1, hp.2] at this; exact List.lt_irrefl _ this
  have hpk : (l.getD p default).path = key := by have := hp.2; rwa [gd] at this
  have hs : l = l.take p ++ l.getD p default :: l.drop (p + 1) := by
    rw [List.getD_eq_getElem?_getD, List.getElem?_eq_getElem hpl]
    simp
  have h1 : (l.take p).filter (fun f => decide (f.path ≠ key)) = l.take p := by
    rw [List.filter_eq_self]
    intro f hf
    obtain ⟨j, hj, rfl⟩ := List.mem_take_iff_getElem.1 hf
    have := hne j (by omega) (by omega)
    rw [List.getD_eq_getElem?_getD, List.getElem?_eq_getElem (by omega)] at this
    simpa using this
  have h2 : (l.drop (p + 1)).filter (fun f => decide (f.path ≠ key)) = l.drop (p + 1) := by
    rw [List.filter_eq_self]
    intro f hf
    obtain ⟨j, hj, rfl⟩ := List.mem_drop_iff_getElem.1 hf
    have := hne (p + 1 + j) (by omega) (by omega)
    rw [List.getD_eq_getElem?_getD, List.getElem?_eq_getElem (by omega)] at this
    simpa using this
  rw [erase_eq]
  unfold othersN
  conv => lhs; rw [hs]
  rw [List.filter_append, List.filter_cons_of_neg (by simp only [hpk]; simp), h1, h2]
set_option maxHeartbeats 8000000 in
theorem gone_c (z : Int) (ns : List ANode) (ss : List Int) (es : List AEvent) (x : ATxn) (p : List UInt8) (hl : ns.length ≤ 400) (hss : ss.length * 8 ≤ 140737488351232) (hes : es.length ≤ 100000) (hp : p.length ≤ 1048576) (hr : Rises (pathsN ns)) (hm : p ∈ pathsN ns) (hdir : dirP p ∈ pathsN ns) (hne : dirP p ≠ p) :
    acall Tryd.prog [.cells [I z, .osl 1 9 0 ns.length, .osl 2 1 0 ss.length], .rows 9 (ns.map ANode.row), .rows 1 (ss.map irow), .cells [.osl 4 2 0 es.length], .rows 2 (es.map AEvent.row), .cells [.clo 113 [] [.ptr 0 0, .ptr 6 0, .ptr 3 0]], .cells [I x.zxid, I x.op, I x.session, S x.path, S x.data, I x.version, I x.owner]]
      114 [S p, .ptr 0 0, .ptr 3 0, .ptr 5 0]
      (outs (.tup []) [.cells [I z, .osl 7 9 0 (delN ns p x.zxid).length, .osl 2 1 0 ss.length], .dead, .rows 1 (ss.map irow), .cells [.osl 8 2 0 (es ++ goneE p).length], .dead, .cells [.clo 113 [] [.ptr 0 0, .ptr 6 0, .ptr 3 0]], .cells [I x.zxid, I x.op, I x.session, S x.path, S x.data, I x.version, I x.owner], .rows 9 ((delN ns p x.zxid).map ANode.row), .rows 2 ((es ++ goneE p).map AEvent.row)]) := by
  refine acall_of tabOk Tryd.func114 rfl (by kernel_rfl) (by simp [Tryd.ntmps114]) ?_; simp only [Tryd.ntmps114, Tryd.results114, List.toList_toArray, apar, List.length_nil, List.length_cons, Nat.reduceAdd]
  repeat' first
    | (with_reducible first | refine AWP.seq ?_ | refine thenA_n ?_ | refine thenA_r ?_ | refine thenA_e ?_ | refine blkA_n ?_ | refine blkA_r ?_ | refine blkA_e ?_ | refine blkA_x (by decide) ?_ | refine AWP.skip ?_ | refine AWP.ret ?_ | refine AWP.exit ?_ | refine AWP.block ?_)
    | (with_reducible refine AWP.cond rfl ?_ ?_ <;> intro hc <;> (try simp only [hcs, beq_iff_eq, ge_iff_le, gt_iff_lt] at hc))
    | ((first
      | (with_reducible first | refine AWP.region tabOk ?_ | refine AWP.quietC mixed tabOk (by decide +kernel) ?_ | refine AWP.draw mixed tabOk (by decide +kernel) ?_ | refine AWP.drawE mixed tabOk (by decide +kernel) ?_ | refine AWP.drawG mixed tabOk (by decide +kernel) ?_); intro K hK); ((try simp (disch := omega) only [go_sem, wrap_n]) <;> (repeat' with_reducible refine And.intro ?_ ?_) <;> (try (with_reducible refine hK _ ?_; clear hK K))))
    | ((first | (with_reducible refine aunder_i ?_ ?_ <;> intro hg) | with_reducible intro hg) <;> (first | (exfalso; simp at hg; done) | (have hg' := hg; (try simp only [hcs, beq_iff_eq, ge_iff_le, gt_iff_lt] at hg'); ((try simp (disch := omega) only [hg, go_sem, wrap_n]) <;> (repeat' with_reducible refine And.intro ?_ ?_) <;> (try (with_reducible refine hK _ ?_; clear hK K))))))
                                                            | omega
  refine AWP.weaken (SImp.nilOwn 5 9 rfl) ?_
  simp only [go_sem]
  refine AWP.loopB (ι := Nat) (fun k => k ≤ ns.length) (fun k => ns.length - k) [0, 1, 2, 3, 9, 10] (fun k => [(11, I k), (5, .osl 7 9 0 (othersN (ns.take k) p).length)]) (fun k => [.cells [I z, .osl 1 9 0 ns.length, .osl 2 1 0 ss.length], .rows 9 (ns.map ANode.row), .rows 1 (ss.map irow), .cells [.osl 4 2 0 es.length], .rows 2 (es.map AEvent.row), .cells [.clo 113 [] [.ptr 0 0, .ptr 6 0, .ptr 3 0]], .cells [I x.zxid, I x.op, I x.session, S x.path, S x.data, I x.version, I x.owner], .rows 9 ((othersN (ns.take k) p).map ANode.row)]) 0 ?_ ?_ ?_
  · omega
  · simp only [go_sem, othersN, List.filter_nil]; (refine SImp.same ?_; simp (disch := omega) only [go_sem, wrap_n, Int.natCast_add])
  intro k hk
  have hol : (othersN (ns.take k) p).length ≤ k := Nat.le_trans (List.length_filter_le _ _) (List.length_take_le _ _)
  simp only [go_sem]
  by_cases hkk : k < ns.length
  · repeat' first
      | (with_reducible first | refine AWP.seq ?_ | refine thenA_n ?_ | refine thenA_r ?_ | refine thenA_e ?_ | refine blkA_n ?_ | refine blkA_r ?_ | refine blkA_e ?_ | refine blkA_x (by decide) ?_ | refine AWP.skip ?_ | refine AWP.ret ?_ | refine AWP.exit ?_ | refine AWP.block ?_)
      | (with_reducible refine AWP.cond rfl ?_ ?_ <;> intro hc <;> (try simp only [hcs, beq_iff_eq, ge_iff_le, gt_iff_lt] at hc))
      | ((first
        | (with_reducible first | refine AWP.region tabOk ?_ | refine AWP.quietC mixed tabOk (by decide +kernel) ?_ | refine AWP.draw mixed tabOk (by decide +kernel) ?_ | refine AWP.drawE mixed tabOk (by decide +kernel) ?_ | refine AWP.drawG mixed tabOk (by decide +kernel) ?_); intro K hK); ((try simp (disch := omega) only [go_sem, wrap_n, ANode.rgetD, ANode.rsnoc, take_map_len]) <;> (repeat' with_reducible refine And.intro ?_ ?_) <;> (try (with_reducible refine hK _ ?_; clear hK K))))
      | ((first | (with_reducible refine aunder_i ?_ ?_ <;> intro hg) | with_reducible intro hg) <;> (first | (exfalso; simp at hg; done) | (have hg' := hg; (try simp only [hcs, beq_iff_eq, ge_iff_le, gt_iff_lt] at hg'); ((try simp (disch := omega) only [hg, go_sem, wrap_n, ANode.rgetD, ANode.rsnoc, take_map_len]) <;> (repeat' with_reducible refine And.intro ?_ ?_) <;> (try (with_reducible refine hK _ ?_; clear hK K))))))
                                                              | omega
    · refine ⟨k + 1, by omega, by omega, ?_⟩
      rw [othersN_snoc _ _ _ hkk, if_pos hc]
      (refine SImp.frame [0, 1, 2, 3, 4, 5, 6, 10] rfl (by intro k hk; first | (simp at hk <;> (simp; omega)) | (simp only [List.mem_cons, List.not_mem_nil, or_false] at hk; simp only [List.length_cons, List.length_nil]; omega)) (by decide) (fun k hk => by first | omega | (rcases k with _ | _ | _ | _ | _ | _ | _ | _ | k <;> first | rfl | omega)) ?_ ?_ <;> simp (disch := omega) only [go_sem, wrap_n, Int.natCast_add, List.length_append] <;> (try rfl))
    · refine ⟨k + 1, by omega, by omega, ?_⟩
      rw [othersN_snoc _ _ _ hkk, if_neg (by simpa using hc)]
      (refine SImp.frame [0, 1, 2, 3, 4, 5, 6, 7] rfl (by intro k hk; first | (simp at hk <;> (simp; omega)) | (simp only [List.mem_cons, List.not_mem_nil, or_false] at hk; simp only [List.length_cons, List.length_nil]; omega)) (by decide) (fun k hk => by first | omega | (rcases k with _ | _ | _ | _ | _ | _ | _ | _ | k <;> first | rfl | omega)) ?_ ?_ <;> simp (disch := omega) only [go_sem, wrap_n, Int.natCast_add, true_and] <;> (try rfl))
  obtain rfl : k = ns.length := by omega
  clear hol hk
  rw [List.take_length, othersN_erase hr hm]
  have hpf := place_found hr hm
  have hdpl2 : place (pathsN ns) p < ns.length := by have := hpf.1; rwa [pathsN_len] at this
  have hadd0 : delN ns p x.zxid = kidN (ns.eraseIdx (place (pathsN ns) p)) p (-1) x.zxid := rfl
  rw [hadd0]
  have hlm0 := erase_len _ _ hdpl2
  have hr10 := rises_erase hr (place (pathsN ns) p)
  have hm10 : dirP p ∈ (pathsN ns).eraseIdx (place (pathsN ns) p) := mem_erase hdir (by rw [hpf.2]; exact hne.symm)
  rw [← pathsN_erase] at hr10 hm10
  generalize ns.eraseIdx (place (pathsN ns) p) = ns1 at hlm0 hr10 hm10 ⊢
  have hq := (place_found hr10 hm10).1
  rw [pathsN_len] at hq
  have hadd : kidN ns1 p (-1) x.zxid = ns1.set (place (pathsN ns1) (dirP p)) (kidF (-1) x.zxid (ns1.getD (place (pathsN ns1) (dirP p)) default)) := by unfold kidN; rw [if_pos hm10]
  rw [hadd]
  have hf2 := nodeM_c z ns1 ss (dirP p) (by omega) hr10 hm10
  generalize hn2 : ns1.set (place (pathsN ns1) (dirP p)) (kidF (-1) x.zxid (ns1.getD (place (pathsN ns1) (dirP p)) default)) = ns2
  have hl2 : ns2.length = ns1.length := by rw [← hn2, List.length_set]
  unfold kidF at hn2
  have e1 : (splitP p).1.1 = dirP p := rfl
  have tk2 : List.take ns1.length (ns2.map ANode.row) = ns2.map ANode.row := List.take_of_length_le (by rw [List.length_map]; omega)
  repeat' first
    | (with_reducible first | refine AWP.seq ?_ | refine thenA_n ?_ | refine thenA_r ?_ | refine thenA_e ?_ | refine blkA_n ?_ | refine blkA_r ?_ | refine blkA_e ?_ | refine blkA_x (by decide) ?_ | refine AWP.skip ?_ | refine AWP.ret ?_ | refine AWP.exit ?_ | refine AWP.block ?_)
    | (with_reducible refine AWP.cond rfl ?_ ?_ <;> intro hc <;> (try simp only [hcs, beq_iff_eq, ge_iff_le, gt_iff_lt] at hc))
    | ((first
      | (refine AWP.plan ((Plan.takes [0, 2, 3] (.fork 1 (Plan.takes [4, 5, 6, 7] .done) 4 (Plan.takes [1, 5, 6, 7] .done)))) mixed tabOk (by decide +kernel) ?_; intro K hK)
      | (refine AWP.plan ((Plan.takes [0, 1, 2, 3, 4, 5, 6, 7, 8, 9, 10, 11, 12, 13, 14, 16, 17] (.fork 15 (Plan.takes [18, 19, 20, 21, 22, 23, 24] .done) 18 (Plan.takes [19, 20] (.fork 15 (Plan.takes [21, 22, 23, 24] .done) 21 (Plan.takes [15, 22, 23, 24] .done)))))) mixed tabOk (by decide +kernel) ?_; intro K hK)
      | (with_reducible first | refine AWP.region tabOk ?_ | refine AWP.quietC mixed tabOk (by decide +kernel) ?_ | refine AWP.draw mixed tabOk (by decide +kernel) ?_ | refine AWP.drawE mixed tabOk (by decide +kernel) ?_ | refine AWP.drawG mixed tabOk (by decide +kernel) ?_); intro K hK
      | ((first | refine acallH_sc (ref_split_c p hp) rfl rfl ?_ ?_ ?_ | refine acallQ_sc (ref_split_c p hp) rfl rfl ?_ ?_ ?_ | refine acallH_sc (hf2) rfl rfl ?_ ?_ ?_ | refine acallQ_sc (hf2) rfl rfl ?_ ?_ ?_); iterate 2 (focus ((try simp (disch := omega) only [go_sem, wrap_n, e1, hn2, hl2, tk2, ANode.rgetD, getD_set, ANode.rset, getD_mapset, List.set_set, AEvent.rsnoc, take_map_len, take_map_snoc]) <;> (try omega) <;> fail)))
      | ((first | refine acallH_anyr (ref_split_c p hp) rfl ?_ ?_ | refine acallH_anyr (hf2) rfl ?_ ?_); (focus ((try simp (disch := omega) only [go_sem, wrap_n, e1, hn2, hl2, tk2, ANode.rgetD, getD_set, ANode.rset, getD_mapset, List.set_set, AEvent.rsnoc, take_map_len, take_map_snoc]) <;> (try omega) <;> fail)))
      | ((first | refine acallH_scx (ref_split_c p hp) rfl ?_ ?_ | refine acallQ_scx (ref_split_c p hp) rfl ?_ ?_ | refine acallH_anyx (ref_split_c p hp) ?_ ?_); (focus ((try simp (disch := omega) only [go_sem, wrap_n, e1, hn2, hl2, tk2, ANode.rgetD, getD_set, ANode.rset, getD_mapset, List.set_set, AEvent.rsnoc, take_map_len, take_map_snoc]) <;> (try omega) <;> fail)))
      | ((first | refine acallH_scx (hf2) rfl ?_ ?_ | refine acallQ_scx (hf2) rfl ?_ ?_ | refine acallH_anyx (hf2) ?_ ?_); (focus ((try simp (disch := omega) only [go_sem, wrap_n, e1, hn2, hl2, tk2, ANode.rgetD, getD_set, ANode.rset, getD_mapset, List.set_set, AEvent.rsnoc, take_map_len, take_map_snoc]) <;> (try omega) <;> fail)))); ((try simp (disch := omega) only [go_sem, wrap_n, e1, hn2, hl2, tk2, ANode.rgetD, getD_set, ANode.rset, getD_mapset, List.set_set, AEvent.rsnoc, take_map_len, take_map_snoc]) <;> (repeat' with_reducible refine And.intro ?_ ?_) <;> (try (with_reducible refine hK _ ?_; clear hK K))))
    | (refine acallHK_in fun Kk hKk => (acall_of tabOk Tryd.func113 rfl (by kernel_rfl) (by simp [Tryd.ntmps113]) ?_); simp only [Tryd.ntmps113, Tryd.results113, List.toList_toArray, apar, List.length_nil, List.length_cons, Nat.reduceAdd, List.length_append, List.length_set, go_sem])
    | (refine aend_in (v := ?_) hKk (by first | exact .inl rfl | exact .inr rfl) ?_ ?_ ?_; rotate_left; (focus ((try simp (disch := omega) only [go_sem, wrap_n, e1, hn2, hl2, tk2, ANode.rgetD, getD_set, ANode.rset, getD_mapset, List.set_set, AEvent.rsnoc, take_map_len, take_map_snoc]) <;> (try omega) <;> fail)); (focus ((try simp (disch := omega) only [go_sem, wrap_n, e1, hn2, hl2, tk2, ANode.rgetD, getD_set, ANode.rset, getD_mapset, List.set_set, AEvent.rsnoc, take_map_len, take_map_snoc]) <;> (first | done | exact rfl))); clear hKk Kk; ((try simp (disch := omega) only [go_sem, wrap_n, e1, hn2, hl2, tk2, ANode.rgetD, getD_set, ANode.rset, getD_mapset, List.set_set, AEvent.rsnoc, take_map_len, take_map_snoc]) <;> (repeat' with_reducible refine And.intro ?_ ?_) <;> (try (with_reducible refine hK _ ?_; clear hK K))))
    | ((first | (with_reducible refine aunder_i ?_ ?_ <;> intro hg) | with_reducible intro hg) <;> (first | (exfalso; simp at hg; done) | (have hg' := hg; (try simp only [hcs, beq_iff_eq, ge_iff_le, gt_iff_lt] at hg'); ((try simp (disch := omega) only [hg, go_sem, wrap_n, e1, hn2, hl2, tk2, ANode.rgetD, getD_set, ANode.rset, getD_mapset, List.set_set, AEvent.rsnoc, take_map_len, take_map_snoc]) <;> (repeat' with_reducible refine And.intro ?_ ?_) <;> (try (with_reducible refine hK _ ?_; clear hK K))))))
                                                            | omega
  all_goals (refine aend_out (by first | exact .inl rfl | exact .inr rfl) ?_ ?_; (focus ((try simp (disch := omega) only [go_sem, wrap_n]) <;> fail)); simp (disch := omega) only [go_sem, wrap_n, goneE, List.append_assoc, List.cons_append, List.nil_append, hl2, List.length_append, List.length_cons, List.length_nil, Nat.add_assoc]; refine AOut.of_simp ?_ (AOut.same ⟨rfl, rfl⟩); refine SImp.frame [0, 1, 2, 3, 4, 5, 6, 7, 11] rfl (by intro k hk; first | (simp at hk <;> (simp; omega)) | (simp only [List.mem_cons, List.not_mem_nil, or_false] at hk; simp only [List.length_cons, List.length_nil]; omega)) (by decide) (fun k hk => by first | omega | (rcases k with _ | _ | _ | _ | _ | _ | _ | _ | k <;> first | rfl | omega)) ?_ ?_ <;> simp (disch := omega) only [go_sem, wrap_n, true_or, or_true, goneE, List.append_assoc, List.cons_append, List.nil_append, hl2, List.length_append, List.length_cons, List.length_nil, Nat.add_assoc])
set_option maxHeartbeats 8000000 in
theorem gone0_c (z : Int) (ns : List ANode) (ss : List Int) (x : ATxn) (p : List UInt8) (hl : ns.length ≤ 400) (hss : ss.length * 8 ≤ 140737488351232) (hp : p.length ≤ 1048576) (hr : Rises (pathsN ns)) (hm : p ∈ pathsN ns) (hdir : dirP p ∈ pathsN ns) (hne : dirP p ≠ p) :
    acall Tryd.prog [.cells [I z, .osl 1 9 0 ns.length, .osl 2 1 0 ss.length], .rows 9 (ns.map ANode.row), .rows 1 (ss.map irow), .cells [.d (.sc (.slice none 0 0))], .cells [.clo 113 [] [.ptr 0 0, .ptr 5 0, .ptr 3 0]], .cells [I x.zxid, I x.op, I x.session, S x.path, S x.data, I x.version, I x.owner]]
      114 [S p, .ptr 0 0, .ptr 3 0, .ptr 4 0]
      (outs (.tup []) [.cells [I z, .osl 6 9 0 (delN ns p x.zxid).length, .osl 2 1 0 ss.length], .dead, .rows 1 (ss.map irow), .cells [.osl 7 2 0 (goneE p).length], .cells [.clo 113 [] [.ptr 0 0, .ptr 5 0, .ptr 3 0]], .cells [I x.zxid, I x.op, I x.session, S x.path, S x.data, I x.version, I x.owner], .rows 9 ((delN ns p x.zxid).map ANode.row), .rows 2 ((goneE p).map AEvent.row)]) := by
  refine acall_of tabOk Tryd.func114 rfl (by kernel_rfl) (by simp [Tryd.ntmps114]) ?_; simp only [Tryd.ntmps114, Tryd.results114, List.toList_toArray, apar, List.length_nil, List.length_cons, Nat.reduceAdd]
  repeat' first
    | (with_reducible first | refine AWP.seq ?_ | refine thenA_n ?_ | refine thenA_r ?_ | refine thenA_e ?_ | refine blkA_n ?_ | refine blkA_r ?_ | refine blkA_e ?_ | refine blkA_x (by decide) ?_ | refine AWP.skip ?_ | refine AWP.ret ?_ | refine AWP.exit ?_ | refine AWP.block ?_)
    | (with_reducible refine AWP.cond rfl ?_ ?_ <;> intro hc <;> (try simp only [hcs, beq_iff_eq, ge_iff_le, gt_iff_lt] at hc))
    | ((first
      | (with_reducible first | refine AWP.region tabOk ?_ | refine AWP.quietC mixed tabOk (by decide +kernel) ?_ | refine AWP.draw mixed tabOk (by decide +kernel) ?_ | refine AWP.drawE mixed tabOk (by decide +kernel) ?_ | refine AWP.drawG mixed tabOk (by decide +kernel) ?_); intro K hK); ((try simp (disch := omega) only [go_sem, wrap_n]) <;> (repeat' with_reducible refine And.intro ?_ ?_) <;> (try (with_reducible refine hK _ ?_; clear hK K))))
    | ((first | (with_reducible refine aunder_i ?_ ?_ <;> intro hg) | with_reducible intro hg) <;> (first | (exfalso; simp at hg; done) | (have hg' := hg; (try simp only [hcs, beq_iff_eq, ge_iff_le, gt_iff_lt] at hg'); ((try simp (disch := omega) only [hg, go_sem, wrap_n]) <;> (repeat' with_reducible refine And.intro ?_ ?_) <;> (try (with_reducible refine hK _ ?_; clear hK K))))))
                                                            | omega
  refine AWP.weaken (SImp.nilOwnC 3 0 2 rfl rfl) ?_
  simp only [go_sem]
  refine AWP.weaken (SImp.nilOwn 5 9 rfl) ?_
  simp only [go_sem]
  refine AWP.loopB (ι := Nat) (fun k => k ≤ ns.length) (fun k => ns.length - k) [0, 1, 2, 3, 9, 10] (fun k => [(11, I k), (5, .osl 7 9 0 (othersN (ns.take k) p).length)]) (fun k => [.cells [I z, .osl 1 9 0 ns.length, .osl 2 1 0 ss.length], .rows 9 (ns.map ANode.row), .rows 1 (ss.map irow), .cells [.osl 6 2 0 0], .cells [.clo 113 [] [.ptr 0 0, .ptr 5 0, .ptr 3 0]], .cells [I x.zxid, I x.op, I x.session, S x.path, S x.data, I x.version, I x.owner], .rows 2 [], .rows 9 ((othersN (ns.take k) p).map ANode.row)]) 0 ?_ ?_ ?_
  · omega
  · simp only [go_sem, othersN, List.filter_nil]; (refine SImp.same ?_; simp (disch := omega) only [go_sem, wrap_n, Int.natCast_add])
  intro k hk
  have hol : (othersN (ns.take k) p).length ≤ k := Nat.le_trans (List.length_filter_le _ _) (List.length_take_le _ _)
  simp only [go_sem]
  by_cases hkk : k < ns.length
  · repeat' first
      | (with_reducible first | refine AWP.seq ?_ | refine thenA_n ?_ | refine thenA_r ?_ | refine thenA_e ?_ | refine blkA_n ?_ | refine blkA_r ?_ | refine blkA_e ?_ | refine blkA_x (by decide) ?_ | refine AWP.skip ?_ | refine AWP.ret ?_ | refine AWP.exit ?_ | refine AWP.block ?_)
      | (with_reducible refine AWP.cond rfl ?_ ?_ <;> intro hc <;> (try simp only [hcs, beq_iff_eq, ge_iff_le, gt_iff_lt] at hc))
      | ((first
        | (with_reducible first | refine AWP.region tabOk ?_ | refine AWP.quietC mixed tabOk (by decide +kernel) ?_ | refine AWP.draw mixed tabOk (by decide +kernel) ?_ | refine AWP.drawE mixed tabOk (by decide +kernel) ?_ | refine AWP.drawG mixed tabOk (by decide +kernel) ?_); intro K hK); ((try simp (disch := omega) only [go_sem, wrap_n, ANode.rgetD, ANode.rsnoc, take_map_len]) <;> (repeat' with_reducible refine And.intro ?_ ?_) <;> (try (with_reducible refine hK _ ?_; clear hK K))))
      | ((first | (with_reducible refine aunder_i ?_ ?_ <;> intro hg) | with_reducible intro hg) <;> (first | (exfalso; simp at hg; done) | (have hg' := hg; (try simp only [hcs, beq_iff_eq, ge_iff_le, gt_iff_lt] at hg'); ((try simp (disch := omega) only [hg, go_sem, wrap_n, ANode.rgetD, ANode.rsnoc, take_map_len]) <;> (repeat' with_reducible refine And.intro ?_ ?_) <;> (try (with_reducible refine hK _ ?_; clear hK K))))))
                                                              | omega
    · refine ⟨k + 1, by omega, by omega, ?_⟩
      rw [othersN_snoc _ _ _ hkk, if_pos hc]
      (refine SImp.frame [0, 1, 2, 3, 4, 5, 6, 10] rfl (by intro k hk; first | (simp at hk <;> (simp; omega)) | (simp only [List.mem_cons, List.not_mem_nil, or_false] at hk; simp only [List.length_cons, List.length_nil]; omega)) (by decide) (fun k hk => by first | omega | (rcases k with _ | _ | _ | _ | _ | _ | _ | _ | k <;> first | rfl | omega)) ?_ ?_ <;> simp (disch := omega) only [go_sem, wrap_n, Int.natCast_add, List.length_append] <;> (try rfl))
    · refine ⟨k + 1, by omega, by omega, ?_⟩
      rw [othersN_snoc _ _ _ hkk, if_neg (by simpa using hc)]
      (refine SImp.frame [0, 1, 2, 3, 4, 5, 6, 7] rfl (by intro k hk; first | (simp at hk <;> (simp; omega)) | (simp only [List.mem_cons, List.not_mem_nil, or_false] at hk; simp only [List.length_cons, List.length_nil]; omega)) (by decide) (fun k hk => by first | omega | (rcases k with _ | _ | _ | _ | _ | _ | _ | _ | k <;> first | rfl | omega)) ?_ ?_ <;> simp (disch := omega) only [go_sem, wrap_n, Int.natCast_add, true_and] <;> (try rfl))
  obtain rfl : k = ns.length := by omega
  clear hol hk
  rw [List.take_length, othersN_erase hr hm]
  have hpf := place_found hr hm
  have hdpl2 : place (pathsN ns) p < ns.length := by have := hpf.1; rwa [pathsN_len] at this
  have hadd0 : delN ns p x.zxid = kidN (ns.eraseIdx (place (pathsN ns) p)) p (-1) x.zxid := rfl
  rw [hadd0]
  have hlm0 := erase_len _ _ hdpl2
  have hr10 := rises_erase hr (place (pathsN ns) p)
  have hm10 : dirP p ∈ (pathsN ns).eraseIdx (place (pathsN ns) p) := mem_erase hdir (by rw [hpf.2]; exact hne.symm)
  rw [← pathsN_erase] at hr10 hm10
  generalize ns.eraseIdx (place (pathsN ns) p) = ns1 at hlm0 hr10 hm10 ⊢
  have hq := (place_found hr10 hm10).1
  rw [pathsN_len] at hq
  have hadd : kidN ns1 p (-1) x.zxid = ns1.set (place (pathsN ns1) (dirP p)) (kidF (-1) x.zxid (ns1.getD (place (pathsN ns1) (dirP p)) default)) := by unfold kidN; rw [if_pos hm10]
  rw [hadd]
  have hf2 := nodeM_c z ns1 ss (dirP p) (by omega) hr10 hm10
  generalize hn2 : ns1.set (place (pathsN ns1) (dirP p)) (kidF (-1) x.zxid (ns1.getD (place (pathsN ns1) (dirP p)) default)) = ns2
  have hl2 : ns2.length = ns1.length := by rw [← hn2, List.length_set]
  unfold kidF at hn2
  have e1 : (splitP p).1.1 = dirP p := rfl
  have hev1 : ([[.int .i64 2, .str p]] : List (List DV)) ++ [[.int .i64 4, .str (dirP p)]] = (goneE p).map AEvent.row := rfl
  have hev2 : ([.int .i64 2, .str p] : List DV) :: [[.int .i64 4, .str (dirP p)]] = (goneE p).map AEvent.row := rfl
  have tk2 : List.take ns1.length (ns2.map ANode.row) = ns2.map ANode.row := List.take_of_length_le (by rw [List.length_map]; omega)
  repeat' first
    | (with_reducible first | refine AWP.seq ?_ | refine thenA_n ?_ | refine thenA_r ?_ | refine thenA_e ?_ | refine blkA_n ?_ | refine blkA_r ?_ | refine blkA_e ?_ | refine blkA_x (by decide) ?_ | refine AWP.skip ?_ | refine AWP.ret ?_ | refine AWP.exit ?_ | refine AWP.block ?_)
    | (with_reducible refine AWP.cond rfl ?_ ?_ <;> intro hc <;> (try simp only [hcs, beq_iff_eq, ge_iff_le, gt_iff_lt] at hc))
    | ((first
      | (refine AWP.plan ((Plan.takes [0, 2, 3] (.fork 1 (Plan.takes [4, 5, 6, 7] .done) 4 (Plan.takes [1, 5, 6, 7] .done)))) mixed tabOk (by decide +kernel) ?_; intro K hK)
      | (refine AWP.plan ((Plan.takes [0, 1, 2, 3, 4, 5, 6, 7, 8, 9, 10, 11, 12, 13, 14, 16, 17] (.fork 15 (Plan.takes [18, 19, 20, 21, 22, 23, 24] .done) 18 (Plan.takes [19, 20] (.fork 15 (Plan.takes [21, 22, 23, 24] .done) 21 (Plan.takes [15, 22, 23, 24] .done)))))) mixed tabOk (by decide +kernel) ?_; intro K hK)
      | (with_reducible first | refine AWP.region tabOk ?_ | refine AWP.quietC mixed tabOk (by decide +kernel) ?_ | refine AWP.draw mixed tabOk (by decide +kernel) ?_ | refine AWP.drawE mixed tabOk (by decide +kernel) ?_ | refine AWP.drawG mixed tabOk (by decide +kernel) ?_); intro K hK
      | ((first | refine acallH_sc (ref_split_c p hp) rfl rfl ?_ ?_ ?_ | refine acallQ_sc (ref_split_c p hp) rfl rfl ?_ ?_ ?_ | refine acallH_sc (hf2) rfl rfl ?_ ?_ ?_ | refine acallQ_sc (hf2) rfl rfl ?_ ?_ ?_); iterate 2 (focus ((try simp (disch := omega) only [go_sem, wrap_n, e1, hn2, hl2, tk2, ANode.rgetD, getD_set, ANode.rset, getD_mapset, List.set_set, hev1, hev2, take_map_len]) <;> (try omega) <;> fail)))
      | ((first | refine acallH_anyr (ref_split_c p hp) rfl ?_ ?_ | refine acallH_anyr (hf2) rfl ?_ ?_); (focus ((try simp (disch := omega) only [go_sem, wrap_n, e1, hn2, hl2, tk2, ANode.rgetD, getD_set, ANode.rset, getD_mapset, List.set_set, hev1, hev2, take_map_len]) <;> (try omega) <;> fail)))
      | ((first | refine acallH_scx (ref_split_c p hp) rfl ?_ ?_ | refine acallQ_scx (ref_split_c p hp) rfl ?_ ?_ | refine acallH_anyx (ref_split_c p hp) ?_ ?_); (focus ((try simp (disch := omega) only [go_sem, wrap_n, e1, hn2, hl2, tk2, ANode.rgetD, getD_set, ANode.rset, getD_mapset, List.set_set, hev1, hev2, take_map_len]) <;> (try omega) <;> fail)))
      | ((first | refine acallH_scx (hf2) rfl ?_ ?_ | refine acallQ_scx (hf2) rfl ?_ ?_ | refine acallH_anyx (hf2) ?_ ?_); (focus ((try simp (disch := omega) only [go_sem, wrap_n, e1, hn2, hl2, tk2, ANode.rgetD, getD_set, ANode.rset, getD_mapset, List.set_set, hev1, hev2, take_map_len]) <;> (try omega) <;> fail)))); ((try simp (disch := omega) only [go_sem, wrap_n, e1, hn2, hl2, tk2, ANode.rgetD, getD_set, ANode.rset, getD_mapset, List.set_set, hev1, hev2, take_map_len]) <;> (repeat' with_reducible refine And.intro ?_ ?_) <;> (try (with_reducible refine hK _ ?_; clear hK K))))
    | (refine acallHK_in fun Kk hKk => (acall_of tabOk Tryd.func113 rfl (by kernel_rfl) (by simp [Tryd.ntmps113]) ?_); simp only [Tryd.ntmps113, Tryd.results113, List.toList_toArray, apar, List.length_nil, List.length_cons, Nat.reduceAdd, List.length_append, List.length_set, go_sem])
    | (refine aend_in (v := ?_) hKk (by first | exact .inl rfl | exact .inr rfl) ?_ ?_ ?_; rotate_left; (focus ((try simp (disch := omega) only [go_sem, wrap_n, e1, hn2, hl2, tk2, ANode.rgetD, getD_set, ANode.rset, getD_mapset, List.set_set, hev1, hev2, take_map_len]) <;> (try omega) <;> fail)); (focus ((try simp (disch := omega) only [go_sem, wrap_n, e1, hn2, hl2, tk2, ANode.rgetD, getD_set, ANode.rset, getD_mapset, List.set_set, hev1, hev2, take_map_len]) <;> (first | done | exact rfl))); clear hKk Kk; ((try simp (disch := omega) only [go_sem, wrap_n, e1, hn2, hl2, tk2, ANode.rgetD, getD_set, ANode.rset, getD_mapset, List.set_set, hev1, hev2, take_map_len]) <;> (repeat' with_reducible refine And.intro ?_ ?_) <;> (try (with_reducible refine hK _ ?_; clear hK K))))
    | ((first | (with_reducible refine aunder_i ?_ ?_ <;> intro hg) | with_reducible intro hg) <;> (first | (exfalso; simp at hg; done) | (have hg' := hg; (try simp only [hcs, beq_iff_eq, ge_iff_le, gt_iff_lt] at hg'); ((try simp (disch := omega) only [hg, go_sem, wrap_n, e1, hn2, hl2, tk2, ANode.rgetD, getD_set, ANode.rset, getD_mapset, List.set_set, hev1, hev2, take_map_len]) <;> (repeat' with_reducible refine And.intro ?_ ?_) <;> (try (with_reducible refine hK _ ?_; clear hK K))))))
                                                            | omega
  all_goals (refine aend_out (by first | exact .inl rfl | exact .inr rfl) ?_ ?_; (focus ((try simp (disch := omega) only [go_sem, wrap_n]) <;> fail)); simp (disch := omega) only [go_sem, wrap_n, hl2, goneE, List.length_cons, List.length_nil]; refine AOut.of_simp ?_ (AOut.same ⟨rfl, rfl⟩); refine SImp.frame [0, 1, 2, 3, 4, 5, 7, 11] rfl (by intro k hk; first | (simp at hk <;> (simp; omega)) | (simp only [List.mem_cons, List.not_mem_nil, or_false] at hk; simp only [List.length_cons, List.length_nil]; omega)) (by decide) (fun k hk => by first | omega | (rcases k with _ | _ | _ | _ | _ | _ | _ | _ | k <;> first | rfl | omega)) ?_ ?_ <;> simp (disch := omega) only [go_sem, wrap_n, true_or, or_true, hl2, goneE, List.length_cons, List.length_nil])
end Go.Proofs.YtmpfhalheaeibaaDoor
