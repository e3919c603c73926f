/- A part of what TreePlays leans on: texts of this claim, one behind the other. No condition. -/
import Derived.Laws.BitsAllLaws
import Derived.Test.YtmpfhalheaeibaaDoorTreePlaysK10
namespace Go.Proofs.YtmpfhalheaeibaaDoor
set_option linter.unusedVariables false
set_option linter.unusedSimpArgs false
open Go Go.RowKit
set_option maxRecDepth 100000
set_option linter.unusedSimpArgs false
def lessN (l : List ANode) (key : List UInt8) : List ANode := l.filter fun f => decide (f.path < key)
def moreN (l : List ANode) (key : List UInt8) : List ANode := l.filter fun f => decide (key < f.path)
theorem lessN_snoc (l : List ANode) (key : List UInt8) (k : Nat) (h : k < l.length) : lessN (l.take (k + 1)) key = if (l.getD k default).path < key then lessN (l.take k) key ++ [l.getD k default] else lessN (l.take k) key := by
  unfold lessN
  rw [take_snoc l k h, List.filter_append]
  by_cases e : (l.getD k default).path < key
  · rw [if_pos e, List.filter_cons_of_pos (by simpa using e)]; rfl
  · rw [if_neg e, List.filter_cons_of_neg (by simpa using e), List.filter_nil, List.append_nil]
theorem moreN_snoc (l : List ANode) (key : List UInt8) (k : Nat) (h : k < l.length) : moreN (l.take (k + 1)) key = if key < (l.getD k default).path then moreN (l.take k) key ++ [l.getD k default] else moreN (l.take k) key := by
  unfold moreN
  rw [take_snoc l k h, List.filter_append]
  by_cases e : key < (l.getD k default).path
  · rw [if_pos e, List.filter_cons_of_pos (by simpa using e)]; rfl
  · rw [if_neg e, List.filter_cons_of_neg (by simpa using e), List.filter_nil, List.append_nil]
theorem less_more {l : List ANode} {key : List UInt8} (hr : Rises (pathsN l)) (h : ¬ key ∈ pathsN l) (n : ANode) : lessN l key ++ n :: moreN l key = l.insertIdx (place (pathsN l) key) n := by
  have hp := place_le (pathsN l) key
  have lo : ∀ j, j < place (pathsN l) key → (l.getD j default).path < key := fun j hj => by
    have := List.not_of_lt_findIdx (p := fun x => !decide (x < key)) (xs := pathsN l) hj
    rw [← getD_map ANode.path l j default]
    show (pathsN l).getD j [] < key
    rw [List.getD_eq_getElem?_getD, List.getElem?_eq_getElem (by omega)]
    simpa using this
  have hi : ∀ j, place (pathsN l) key ≤ j → j < l.length → key < (l.getD j default).path := fun j h1 h2 => by
    have a : ¬ (pathsN l).getD (place (pathsN l) key) [] < key := by
      have := List.findIdx_getElem (p := fun x => !decide (x < key)) (xs := pathsN l) (w := (by rw [pathsN_len]; unfold place at h1; omega))
      rw [Bool.not_eq_true', decide_eq_false_iff_not] at this
      rw [List.getD_eq_getElem?_getD, List.getElem?_eq_getElem (by rw [pathsN_len]; omega)]
      exact this
    have b : key < (pathsN l).getD (place (pathsN l) key) [] := lt_of_not a fun e => h (by rw [← e]; exact mem_getD _ _ (by rw [pathsN_len]; omega))
    rw [← getD_map ANode.path l j default]
    show key < (pathsN l).getD j []
    by_cases e : place (pathsN l) key = j
    · rw [← e]; exact b
    · exact List.lt_trans b (rises_lt hr (by omega) (by rw [pathsN_len]; exact h2))
  rw [pathsN_len] at hp
  generalize place (pathsN l) key = p at *
  have gd (j : Nat) (hj : j < l.length) : l.getD j default = l[j] := by rw [List.getD_eq_getElem?_getD, List.getElem?_eq_getElem hj]; rfl
  have e1 : lessN l key = l.take p := by
    unfold lessN
    conv => lhs; rw [← List.take_append_drop p l]
    rw [List.filter_append]
    have a1 : (l.take p).filter (fun f => decide (f.path < key)) = l.take p := by
      rw [List.filter_eq_self]
      intro f hf
      obtain ⟨j, hj, rfl⟩ := List.mem_take_iff_getElem.1 hf
      have := lo j (by omega)
      rw [gd j (by omega)] at this; simpa using this
    have a2 : (l.drop p).filter (fun f => decide (f.path < key)) = [] := by
      rw [List.filter_eq_nil_iff]
      intro f hf
      obtain ⟨j, hj, rfl⟩ := List.mem_drop_iff_getElem.1 hf
      have := hi (p + j) (by omega) (by omega)
      rw [gd _ (by omega)] at this
      rw [decide_eq_true_eq]
      exact fun h2 => List.lt_irrefl _ (List.lt_trans this h2)
    rw [a1, a2, List.append_nil]
  have e2 : moreN l key = l.drop p := by
    unfold moreN
    conv => lhs; rw [← List.take_append_drop p l]
    rw [List.filter_append]
    have a1 : (l.drop p).filter (fun f => decide (key < f.path)) = l.drop p := by
      rw [List.filter_eq_self]
      intro f hf
      obtain ⟨j, hj, rfl⟩ := List.mem_drop_iff_getElem.1 hf
      have := hi (p + j) (by omega) (by omega)
      rw [gd _ (by omega)] at this; simpa using this
    have a2 : (l.take p).filter (fun f => decide (key < f.path)) = [] := by
      rw [List.filter_eq_nil_iff]
      intro f hf
      obtain ⟨j, hj, rfl⟩ := List.mem_take_iff_getElem.1 hf
      have := lo j (by omega)
      rw [gd _ (by omega)] at this
      rw [decide_eq_true_eq]
      exact fun h2 => List.lt_irrefl _ (List.lt_trans this h2)
    rw [a1, a2, List.nil_append]
  rw [e1, e2, ins_eq _ _ _ hp]
theorem lacks_ok {t : ATree} {x : ATxn} (h : wrongT t x = 0) (o : x.op = 3) : (t.nodes.getD (place (pathsN t.nodes) (dirP x.path)) default).stat.owner = 0 ∧ (x.owner = 0 ∨ x.owner = x.session) := by
  obtain ⟨g1, g2, g3, g4, g5, g6, g7, g8⟩ := wrong_ok h
  obtain ⟨m1, m2, m3⟩ := g6 o
  unfold wrongT at h
  rw [if_neg (by simp [g1]), if_neg (fun h => h g2), if_neg (by omega), if_neg (by omega), if_neg (fun h => h (g5 (by omega))), if_pos o] at h
  unfold lacksT at h
  rw [if_neg (fun h => m1 (getT_zero.1 h)), if_neg (fun h => h (getT_zero.2 m2))] at h
  have e : (getT t (splitP x.path).1.1).1 = t.nodes.getD (place (pathsN t.nodes) (dirP x.path)) default := by show (getT t (dirP x.path)).1 = _; unfold getT; rw [if_pos m2]; rfl
  rw [e] at h
  split at h
  · cases h
  · rename_i q1
    split at h
    · cases h
    · rename_i q2; exact ⟨by omega, by omega⟩
set_option maxHeartbeats 8000000 in
theorem ref_apply3_c (t : ATree) (x : ATxn) (hw : t.wf) (hps : ∀ n, n ∈ t.nodes → n.path.length ≤ 1048576) (hz : okI x.zxid) (hp : x.path.length ≤ 1048576) (hd : okS x.data) (h0 : wrongT t x = 0) (o3 : x.op = 3) : acall Tryd.prog [] 52 [t.av, x.av] (ret (.tup [(applyT t x).1.av, .d (.sl 2 ((applyT t x).2.1.map AEvent.row)), I (applyT t x).2.2])) := by
  obtain ⟨g1, g2, g3, g4, g5, g6, g7, g8⟩ := wrong_ok h0
  obtain ⟨h1, h2⟩ : t.nodes.length * 88 ≤ 140737488351232 ∧ t.sessions.length * 8 ≤ 140737488351232 := ⟨hw.2.1.1, hw.2.2.1⟩
  have hgc := (ref_tgood_c t hw hps).re (congrArg B g1)
  have hxc := (ref_wgood_c x hz hp hd).re (congrArg I g2)
  have hcp := copyTO_c t h1 h2
  have h400 : t.nodes.length ≤ 400 := (good_root g1).2.1
  have hr : Rises (pathsN t.nodes) := good_rises g1
  have hsp := ref_split_c x.path hp
  have e1 : (splitP x.path).1.1 = dirP x.path := rfl
  have g3' : ¬ x.zxid ≤ t.zxid := by omega
  have hoc := (isOpen_c t x.session h2).re (congrArg B (decide_eq_true (g5 (by omega))))
  obtain ⟨m1, m2, hlt⟩ := g6 o3
  have hn1 := nodeO_c t.zxid t.nodes t.sessions x.path h1 hr m1
  have hn2 := nodeM_c t.zxid t.nodes t.sessions (dirP x.path) h1 hr m2
  have hq0 := (place_found hr m2).1
  rw [pathsN_len] at hq0
  have hlk := lacks_ok h0 o3
  obtain ⟨k1, k2⟩ := hlk
  refine acall_of tabOk Tryd.func52 rfl (by kernel_rfl) (by simp [Tryd.ntmps52]) ?_; simp only [Tryd.ntmps52, Tryd.results52, List.toList_toArray, apar, List.length_nil, List.length_cons, Nat.reduceAdd]
  (repeat' first
| (with_reducible refine AR.f ?_)
| refine blkA_x (by decide) ?_
| (with_reducible refine AWP.cond rfl ?_ ?_ <;> intro hc <;> (try simp only [hcs, beq_iff_eq, ge_iff_le, gt_iff_lt] at hc))
| (refine acallHK_in fun Kk hKk => (acall_of tabOk Tryd.func111 rfl (by kernel_rfl) (by simp [Tryd.ntmps111]) ?_); simp only [Tryd.ntmps111, Tryd.results111, List.toList_toArray, apar, List.length_nil, List.length_cons, Nat.reduceAdd, List.length_append, List.length_set, go_sem])
| ((first | ((first | (with_reducible first | refine zR ?_ | refine zQ (by decide +kernel) ?_ | refine zD (by decide +kernel) ?_ | refine zE (by decide +kernel) ?_ | refine zG (by decide +kernel) ?_)); intro K hK) | ((first | refine zA hgc ?_ ?_ ?_ ?_ ?_ | refine zA hxc ?_ ?_ ?_ ?_ ?_ | refine zA hoc ?_ ?_ ?_ ?_ ?_ | refine zA hn1 ?_ ?_ ?_ ?_ ?_ | refine zA hn2 ?_ ?_ ?_ ?_ ?_ | refine zA hsp ?_ ?_ ?_ ?_ ?_ | refine zA hcp ?_ ?_ ?_ ?_ ?_); (focus exact rfl); (focus exact rfl); iterate 2 (focus ((try simp (disch := omega) only [go_sem, wrap_n, o3, e1, g3']) <;> (try omega) <;> fail))) | ((first | refine zN hgc rfl ?_ ?_ | refine zN hxc rfl ?_ ?_ | refine zN hoc rfl ?_ ?_ | refine zN hn1 rfl ?_ ?_ | refine zN hn2 rfl ?_ ?_ | refine zN hsp rfl ?_ ?_ | refine zN hcp rfl ?_ ?_); (focus ((try simp (disch := omega) only [go_sem, wrap_n, o3, e1, g3']) <;> (try omega) <;> fail))) | (first | ((first | refine zX hgc rfl ?_ ?_ | refine acallH_anyx hgc ?_ ?_); (focus ((try simp (disch := omega) only [go_sem, wrap_n, o3, e1, g3']) <;> (try omega) <;> fail))) | ((first | refine zX hxc rfl ?_ ?_ | refine acallH_anyx hxc ?_ ?_); (focus ((try simp (disch := omega) only [go_sem, wrap_n, o3, e1, g3']) <;> (try omega) <;> fail))) | ((first | refine zX hoc rfl ?_ ?_ | refine acallH_anyx hoc ?_ ?_); (focus ((try simp (disch := omega) only [go_sem, wrap_n, o3, e1, g3']) <;> (try omega) <;> fail))) | ((first | refine zX hn1 rfl ?_ ?_ | refine acallH_anyx hn1 ?_ ?_); (focus ((try simp (disch := omega) only [go_sem, wrap_n, o3, e1, g3']) <;> (try omega) <;> fail))) | ((first | refine zX hn2 rfl ?_ ?_ | refine acallH_anyx hn2 ?_ ?_); (focus ((try simp (disch := omega) only [go_sem, wrap_n, o3, e1, g3']) <;> (try omega) <;> fail))) | ((first | refine zX hsp rfl ?_ ?_ | refine acallH_anyx hsp ?_ ?_); (focus ((try simp (disch := omega) only [go_sem, wrap_n, o3, e1, g3']) <;> (try omega) <;> fail))) | ((first | refine zX hcp rfl ?_ ?_ | refine acallH_anyx hcp ?_ ?_); (focus ((try simp (disch := omega) only [go_sem, wrap_n, o3, e1, g3']) <;> (try omega) <;> fail)))) | (refine aend_in (v := ?_) hKk (by first | exact .inl rfl | exact .inr rfl) ?_ ?_ ?_; rotate_left; (focus ((try simp (disch := omega) only [go_sem, wrap_n, o3, e1, g3']) <;> (try omega) <;> fail)); (focus ((try simp (disch := omega) only [go_sem, wrap_n, o3, e1, g3']) <;> (first | done | exact rfl))); clear hKk Kk) | ((first | (with_reducible refine aunder_i ?_ ?_ <;> intro hg) | with_reducible intro hg) <;> (first | (exfalso; simp at hg; done) | (have hg' := hg; (try simp only [hcs, beq_iff_eq, ge_iff_le, gt_iff_lt] at hg'); (try simp only [hg]))))) <;> (try simp (disch := omega) only [go_sem, wrap_n, o3, e1, g3']) <;> (repeat' with_reducible refine And.intro ?_ ?_) <;> (try (with_reducible refine hK _ ?_; clear hK K)))
| omega)
  refine AWP.weaken (SImp.nilOwn 30 9 rfl) ?_
  simp only [go_sem]
  refine AWP.loopB (ι := Nat) (fun k => k ≤ t.nodes.length) (fun k => t.nodes.length - k) [3, 4, 7, 15, 16, 17, 29, 319, 320] (fun k => [(321, I k), (30, .osl 9 9 0 (lessN (t.nodes.take k) x.path).length)]) (fun k => [.cells [.d (.int .i64 t.zxid), .d (.sl 9 (t.nodes.map ANode.row)), .d (.sl 1 (t.sessions.map irow))], .cells [I x.zxid, I 3, I x.session, S x.path, S x.data, I x.version, I x.owner], .cells [I 0, .d (.sc (.slice none 0 0)), .d (.sc (.slice none 0 0))], .rows 9 (t.nodes.map ANode.row), .rows 1 (t.sessions.map irow), .cells [I x.zxid, .osl 3 9 0 t.nodes.length, .osl 4 1 0 t.sessions.length], .cells [.d (.sc (.slice none 0 0))], .cells [.clo 113 [] [.ptr 5 0, .ptr 1 0, .ptr 6 0]], .cells [S x.path, S x.data, I x.zxid, I x.zxid, I x.zxid, I 0, I 0, I x.owner, I 0], .rows 9 ((lessN (t.nodes.take k) x.path).map ANode.row)]) 0 ?_ ?_ ?_
  · omega
  · simp only [go_sem, lessN, List.filter_nil]; (refine SImp.same ?_; simp (disch := omega) only [go_sem, wrap_n, Int.natCast_add])
  intro k hk
  have hol : (lessN (t.nodes.take k) x.path).length ≤ k := Nat.le_trans (List.length_filter_le _ _) (List.length_take_le _ _)
  simp only [go_sem]
  by_cases hkk : k < t.nodes.length
  · (repeat' first
  | (with_reducible refine AR.f ?_)
  | refine blkA_x (by decide) ?_
  | (with_reducible refine AWP.cond rfl ?_ ?_ <;> intro hc <;> (try simp only [hcs, beq_iff_eq, ge_iff_le, gt_iff_lt] at hc))
  | ((first | ((first | (with_reducible first | refine zR ?_ | refine zQ (by decide +kernel) ?_ | refine zD (by decide +kernel) ?_ | refine zE (by decide +kernel) ?_ | refine zG (by decide +kernel) ?_)); intro K hK) | ((first | (with_reducible refine aunder_i ?_ ?_ <;> intro hg) | with_reducible intro hg) <;> (first | (exfalso; simp at hg; done) | (have hg' := hg; (try simp only [hcs, beq_iff_eq, ge_iff_le, gt_iff_lt] at hg'); (try simp only [hg]))))) <;> (try simp (disch := omega) only [go_sem, wrap_n, ANode.rgetD, ANode.rsnoc, take_map_len, strLt_eq]) <;> (repeat' with_reducible refine And.intro ?_ ?_) <;> (try (with_reducible refine hK _ ?_; clear hK K)))
  | omega)
    · refine ⟨k + 1, by omega, by omega, ?_⟩
      rw [lessN_snoc _ _ _ hkk, if_pos hc]
      (refine SImp.frame [0, 1, 2, 3, 4, 5, 6, 7, 8, 12] rfl (by intro k hk; first | (simp at hk <;> (simp; omega)) | (simp only [List.mem_cons, List.not_mem_nil, or_false] at hk; simp only [List.length_cons, List.length_nil]; omega)) (by decide) (fun k hk => by first | omega | (rcases k with _ | _ | _ | _ | _ | _ | _ | _ | k <;> first | rfl | omega)) ?_ ?_ <;> simp (disch := omega) only [go_sem, wrap_n, Int.natCast_add, List.length_append] <;> (try rfl))
    · refine ⟨k + 1, by omega, by omega, ?_⟩
      rw [lessN_snoc _ _ _ hkk, if_neg (by simpa using hc)]
      (refine SImp.frame [0, 1, 2, 3, 4, 5, 6, 7, 8, 9] rfl (by intro k hk; first | (simp at hk <;> (simp; omega)) | (simp only [List.mem_cons, List.not_mem_nil, or_false] at hk; simp only [List.length_cons, List.length_nil]; omega)) (by decide) (fun k hk => by first | omega | (rcases k with _ | _ | _ | _ | _ | _ | _ | _ | k <;> first | rfl | omega)) ?_ ?_ <;> simp (disch := omega) only [go_sem, wrap_n, Int.natCast_add, true_and] <;> (try rfl))
  obtain rfl : k = t.nodes.length := by omega
  rw [List.take_length] at hol ⊢
  have hlm := less_more hr m1 (mkN x)
  generalize lessN t.nodes x.path = l1 at hol hlm ⊢
  (repeat' first
| (with_reducible refine AR.f ?_)
| refine blkA_x (by decide) ?_
| (with_reducible refine AWP.cond rfl ?_ ?_ <;> intro hc <;> (try simp only [hcs, beq_iff_eq, ge_iff_le, gt_iff_lt] at hc))
| ((first | ((first | (with_reducible first | refine zR ?_ | refine zQ (by decide +kernel) ?_ | refine zD (by decide +kernel) ?_ | refine zE (by decide +kernel) ?_ | refine zG (by decide +kernel) ?_)); intro K hK) | ((first | (with_reducible refine aunder_i ?_ ?_ <;> intro hg) | with_reducible intro hg) <;> (first | (exfalso; simp at hg; done) | (have hg' := hg; (try simp only [hcs, beq_iff_eq, ge_iff_le, gt_iff_lt] at hg'); (try simp only [hg]))))) <;> (try simp (disch := omega) only [go_sem, wrap_n, ANode.rsnoc, take_map_len]) <;> (repeat' with_reducible refine And.intro ?_ ?_) <;> (try (with_reducible refine hK _ ?_; clear hK K)))
| omega)
  refine AWP.loopB (ι := Nat) (fun k => k ≤ t.nodes.length) (fun k => t.nodes.length - k) [3, 4, 7, 15, 16, 17, 340, 341] (fun k => [(342, I k), (30, .osl 11 9 0 (l1 ++ (⟨x.path, x.data, ⟨x.zxid, x.zxid, x.zxid, 0, 0, x.owner, 0⟩⟩ : ANode) :: moreN (t.nodes.take k) x.path).length)]) (fun k => [.cells [.d (.int .i64 t.zxid), .d (.sl 9 (t.nodes.map ANode.row)), .d (.sl 1 (t.sessions.map irow))], .cells [I x.zxid, I 3, I x.session, S x.path, S x.data, I x.version, I x.owner], .cells [I 0, .d (.sc (.slice none 0 0)), .d (.sc (.slice none 0 0))], .rows 9 (t.nodes.map ANode.row), .rows 1 (t.sessions.map irow), .cells [I x.zxid, .osl 3 9 0 t.nodes.length, .osl 4 1 0 t.sessions.length], .cells [.d (.sc (.slice none 0 0))], .cells [.clo 113 [] [.ptr 5 0, .ptr 1 0, .ptr 6 0]], .cells [S x.path, S x.data, I x.zxid, I x.zxid, I x.zxid, I 0, I 0, I x.owner, I 0], .dead, .rows 9 [[.str x.path, .str x.data, .int .i64 x.zxid, .int .i64 x.zxid, .int .i64 x.zxid, .int .i64 0, .int .i64 0, .int .i64 x.owner, .int .i64 0]], .rows 9 ((l1 ++ (⟨x.path, x.data, ⟨x.zxid, x.zxid, x.zxid, 0, 0, x.owner, 0⟩⟩ : ANode) :: moreN (t.nodes.take k) x.path).map ANode.row)]) 0 ?_ ?_ ?_
  · omega
  · simp only [go_sem, moreN, List.filter_nil, List.length_append, List.length_cons, List.length_nil]; (refine SImp.same ?_; simp (disch := omega) only [go_sem, wrap_n, Int.natCast_add])
  intro k hk
  have hol2 : (moreN (t.nodes.take k) x.path).length ≤ k := Nat.le_trans (List.length_filter_le _ _) (List.length_take_le _ _)
  have hLl : (l1 ++ (⟨x.path, x.data, ⟨x.zxid, x.zxid, x.zxid, 0, 0, x.owner, 0⟩⟩ : ANode) :: moreN (t.nodes.take k) x.path).length ≤ 1000 := by rw [List.length_append, List.length_cons]; omega
  generalize hL : (l1 ++ (⟨x.path, x.data, ⟨x.zxid, x.zxid, x.zxid, 0, 0, x.owner, 0⟩⟩ : ANode) :: moreN (t.nodes.take k) x.path) = L at hLl ⊢
  simp only [go_sem]
  by_cases hkk : k < t.nodes.length
  · (repeat' first
  | (with_reducible refine AR.f ?_)
  | refine blkA_x (by decide) ?_
  | (with_reducible refine AWP.cond rfl ?_ ?_ <;> intro hc <;> (try simp only [hcs, beq_iff_eq, ge_iff_le, gt_iff_lt] at hc))
  | ((first | ((first | (with_reducible first | refine zR ?_ | refine zQ (by decide +kernel) ?_ | refine zD (by decide +kernel) ?_ | refine zE (by decide +kernel) ?_ | refine zG (by decide +kernel) ?_)); intro K hK) | ((first | (with_reducible refine aunder_i ?_ ?_ <;> intro hg) | with_reducible intro hg) <;> (first | (exfalso; simp at hg; done) | (have hg' := hg; (try simp only [hcs, beq_iff_eq, ge_iff_le, gt_iff_lt] at hg'); (try simp only [hg]))))) <;> (try simp (disch := omega) only [go_sem, wrap_n, ANode.rgetD, ANode.rsnoc, take_map_len, strLt_eq]) <;> (repeat' with_reducible refine And.intro ?_ ?_) <;> (try (with_reducible refine hK _ ?_; clear hK K)))
  | omega)
    · refine ⟨k + 1, by omega, by omega, ?_⟩
      have hn : l1 ++ (⟨x.path, x.data, ⟨x.zxid, x.zxid, x.zxid, 0, 0, x.owner, 0⟩⟩ : ANode) :: moreN (t.nodes.take (k + 1)) x.path = L ++ [t.nodes.getD k default] := by rw [moreN_snoc _ _ _ hkk, if_pos (lt_of_not hc.1 hc.2), ← hL]; simp
      have hnl : l1.length + ((moreN (t.nodes.take (k + 1)) x.path).length + 1) = L.length + 1 := by have := congrArg List.length hn; simpa using this
      rw [hn]
      (refine SImp.frame [0, 1, 2, 3, 4, 5, 6, 7, 8, 9, 10, 14] rfl (by intro k hk; first | (simp at hk <;> (simp; omega)) | (simp only [List.mem_cons, List.not_mem_nil, or_false] at hk; simp only [List.length_cons, List.length_nil]; omega)) (by decide) (fun k hk => by first | omega | (rcases k with _ | _ | _ | _ | _ | _ | _ | _ | k <;> first | rfl | omega)) ?_ ?_ <;> simp (disch := omega) only [go_sem, wrap_n, Int.natCast_add, List.length_append, hnl] <;> (try rfl))
    · refine ⟨k + 1, by omega, by omega, ?_⟩
      have hnc : ¬ x.path < (t.nodes.getD k default).path := fun h => by
        rcases hc with h2 | h2
        · exact List.lt_irrefl _ (List.lt_trans h h2)
        · rw [h2] at h; exact List.lt_irrefl _ h
      rw [moreN_snoc _ _ _ hkk, if_neg hnc, hL]
      have hnl : l1.length + ((moreN (t.nodes.take k) x.path).length + 1) = L.length := by have := congrArg List.length hL; simpa using this
      (refine SImp.frame [0, 1, 2, 3, 4, 5, 6, 7, 8, 9, 10, 11] rfl (by intro k hk; first | (simp at hk <;> (simp; omega)) | (simp only [List.mem_cons, List.not_mem_nil, or_false] at hk; simp only [List.length_cons, List.length_nil]; omega)) (by decide) (fun k hk => by first | omega | (rcases k with _ | _ | _ | _ | _ | _ | _ | _ | k <;> first | rfl | omega)) ?_ ?_ <;> simp (disch := omega) only [go_sem, wrap_n, Int.natCast_add, hnl] <;> (try rfl))
  obtain rfl : k = t.nodes.length := by omega
  rw [List.take_length] at hL hol2
  have hLi : t.nodes.insertIdx (place (pathsN t.nodes) x.path) (mkN x) = L := by rw [← hL, ← hlm]; rfl
  clear hL hlm
  have hpl2 : place (pathsN t.nodes) x.path ≤ t.nodes.length := by have := place_le (pathsN t.nodes) x.path; rwa [pathsN_len] at this
  have hdone : (doneT t x) = (⟨x.zxid, addN t.nodes x, t.sessions⟩, [⟨1, x.path⟩, ⟨4, dirP x.path⟩]) := by unfold doneT; rw [if_neg (by omega), if_neg (by omega), if_pos o3]
  have hl1 : L.length = t.nodes.length + 1 := by rw [← hLi, ins_len _ _ _ hpl2]
  have hp1 : pathsN L = (pathsN t.nodes).insertIdx (place (pathsN t.nodes) x.path) x.path := by rw [← hLi, pathsN_ins]; rfl
  have hr1 : Rises (pathsN L) := by rw [hp1]; exact rises_ins hr m1
  have hm1 : dirP x.path ∈ pathsN L := by rw [hp1, mem_ins (by rw [pathsN_len]; exact hpl2)]; exact .inr m2
  have hq := (place_found hr1 hm1).1
  rw [pathsN_len] at hq
  have hadd : addN t.nodes x = L.set (place (pathsN L) (dirP x.path)) (kidF 1 x.zxid (L.getD (place (pathsN L) (dirP x.path)) default)) := by unfold addN kidN; rw [hLi, if_pos hm1]
  have hf2 := nodeM_c x.zxid L t.sessions (dirP x.path) (by omega) hr1 hm1
  rw [hadd] at hdone
  generalize hn2' : L.set (place (pathsN L) (dirP x.path)) (kidF 1 x.zxid (L.getD (place (pathsN L) (dirP x.path)) default)) = ns2 at hdone
  have hl2 : ns2.length = L.length := by rw [← hn2', List.length_set]
  unfold kidF at hn2'
  have tk2 : List.take L.length (ns2.map ANode.row) = ns2.map ANode.row := List.take_of_length_le (by rw [List.length_map]; omega)
  (repeat' first
| (with_reducible refine AR.f ?_)
| refine blkA_x (by decide) ?_
| (with_reducible refine AWP.cond rfl ?_ ?_ <;> intro hc <;> (try simp only [hcs, beq_iff_eq, ge_iff_le, gt_iff_lt] at hc))
| (refine acallHK_in fun Kk hKk => (acall_of tabOk Tryd.func113 rfl (by kernel_rfl) (by simp [Tryd.ntmps113]) ?_); simp only [Tryd.ntmps113, Tryd.results113, List.toList_toArray, apar, List.length_nil, List.length_cons, Nat.reduceAdd, List.length_append, List.length_set, go_sem])
| ((first | ((first | refine zP ((Plan.takes [0, 2, 3] (.fork 1 (Plan.takes [4, 5, 6, 7] .done) 4 (Plan.takes [1, 5, 6, 7] .done)))) (by decide +kernel) ?_ | refine zP ((Plan.takes [0, 1, 2, 3, 4, 5, 6, 7, 8, 9, 10, 11, 12, 13, 14, 16, 17] (.fork 15 (Plan.takes [18, 19, 20, 21, 22, 23, 24] .done) 18 (Plan.takes [19, 20] (.fork 15 (Plan.takes [21, 22, 23, 24] .done) 21 (Plan.takes [15, 22, 23, 24] .done)))))) (by decide +kernel) ?_ | (with_reducible first | refine zR ?_ | refine zQ (by decide +kernel) ?_ | refine zD (by decide +kernel) ?_ | refine zE (by decide +kernel) ?_ | refine zG (by decide +kernel) ?_)); intro K hK) | ((first | refine zA hsp ?_ ?_ ?_ ?_ ?_ | refine zA hf2 ?_ ?_ ?_ ?_ ?_); (focus exact rfl); (focus exact rfl); iterate 2 (focus ((try simp (disch := omega) only [go_sem, wrap_n, e1, hn2', hl2, tk2, ANode.rgetD, getD_set, ANode.rset, getD_mapset, List.set_set, take_map_len]) <;> (try omega) <;> fail))) | ((first | refine zN hsp rfl ?_ ?_ | refine zN hf2 rfl ?_ ?_); (focus ((try simp (disch := omega) only [go_sem, wrap_n, e1, hn2', hl2, tk2, ANode.rgetD, getD_set, ANode.rset, getD_mapset, List.set_set, take_map_len]) <;> (try omega) <;> fail))) | (first | ((first | refine zX hsp rfl ?_ ?_ | refine acallH_anyx hsp ?_ ?_); (focus ((try simp (disch := omega) only [go_sem, wrap_n, e1, hn2', hl2, tk2, ANode.rgetD, getD_set, ANode.rset, getD_mapset, List.set_set, take_map_len]) <;> (try omega) <;> fail))) | ((first | refine zX hf2 rfl ?_ ?_ | refine acallH_anyx hf2 ?_ ?_); (focus ((try simp (disch := omega) only [go_sem, wrap_n, e1, hn2', hl2, tk2, ANode.rgetD, getD_set, ANode.rset, getD_mapset, List.set_set, take_map_len]) <;> (try omega) <;> fail)))) | (refine aend_in (v := ?_) hKk (by first | exact .inl rfl | exact .inr rfl) ?_ ?_ ?_; rotate_left; (focus ((try simp (disch := omega) only [go_sem, wrap_n, e1, hn2', hl2, tk2, ANode.rgetD, getD_set, ANode.rset, getD_mapset, List.set_set, take_map_len]) <;> (try omega) <;> fail)); (focus ((try simp (disch := omega) only [go_sem, wrap_n, e1, hn2', hl2, tk2, ANode.rgetD, getD_set, ANode.rset, getD_mapset, List.set_set, take_map_len]) <;> (first | done | exact rfl))); clear hKk Kk) | ((first | (with_reducible refine aunder_i ?_ ?_ <;> intro hg) | with_reducible intro hg) <;> (first | (exfalso; simp at hg; done) | (have hg' := hg; (try simp only [hcs, beq_iff_eq, ge_iff_le, gt_iff_lt] at hg'); (try simp only [hg]))))) <;> (try simp (disch := omega) only [go_sem, wrap_n, e1, hn2', hl2, tk2, ANode.rgetD, getD_set, ANode.rset, getD_mapset, List.set_set, take_map_len]) <;> (repeat' with_reducible refine And.intro ?_ ?_) <;> (try (with_reducible refine hK _ ?_; clear hK K)))
| omega)
  all_goals
    refine AWP.loopB (ι := Nat) (fun k => k ≤ L.length ∧ ∀ j, j < k → bigN (ns2.getD j default) = false) (fun k => L.length - k) [4, 7, 15, 16, 404, 405] (fun k => [(406, I k)]) (fun k => [.cells [.d (.int .i64 t.zxid), .d (.sl 9 (t.nodes.map ANode.row)), .d (.sl 1 (t.sessions.map irow))], .cells [I x.zxid, I 3, I x.session, S x.path, S x.data, I x.version, I x.owner], .cells [I 0, .d (.sc (.slice none 0 0)), .d (.sc (.slice none 0 0))], .rows 9 (t.nodes.map ANode.row), .rows 1 (t.sessions.map irow), .cells [I x.zxid, .osl 11 9 0 L.length, .osl 4 1 0 t.sessions.length], .cells [.osl 15 2 0 2], .cells [.clo 113 [] [.ptr 5 0, .ptr 1 0, .ptr 6 0]], .cells [S x.path, S x.data, I x.zxid, I x.zxid, I x.zxid, I 0, I 0, I x.owner, I 0], .dead, .rows 9 [[.str x.path, .str x.data, .int .i64 x.zxid, .int .i64 x.zxid, .int .i64 x.zxid, .int .i64 0, .int .i64 0, .int .i64 x.owner, .int .i64 0]], .rows 9 (ns2.map ANode.row), .rows 2 [[.int .i64 1, .str x.path]], .dead, .rows 2 [[.int .i64 4, .str (dirP x.path)]], .rows 2 [[.int .i64 1, .str x.path], [.int .i64 4, .str (dirP x.path)]]]) 0 ?_ ?_ ?_
    · exact ⟨by omega, fun j hj => by omega⟩
    · simp only [go_sem]; (refine SImp.same ?_; simp (disch := omega) only [go_sem, wrap_n, Int.natCast_add])
    intro k ⟨hk, hk2⟩
    simp only [go_sem]
    (repeat' first
  | (with_reducible refine AR.f ?_)
  | refine blkA_x (by decide) ?_
  | (with_reducible refine AWP.cond rfl ?_ ?_ <;> intro hc <;> (try simp only [hcs, beq_iff_eq, ge_iff_le, gt_iff_lt] at hc))
  | (refine acallHK_in fun Kk hKk => (acall_of tabOk Tryd.func111 rfl (by kernel_rfl) (by simp [Tryd.ntmps111]) ?_); simp only [Tryd.ntmps111, Tryd.results111, List.toList_toArray, apar, List.length_nil, List.length_cons, Nat.reduceAdd, List.length_append, List.length_set, go_sem])
  | ((first | ((first | refine zP ((Plan.takes [0] (.fork 1 (Plan.takes [2, 3, 4] .done) 2 (Plan.takes [1, 3, 4] .done)))) (by decide +kernel) ?_ | (with_reducible first | refine zR ?_ | refine zQ (by decide +kernel) ?_ | refine zD (by decide +kernel) ?_ | refine zE (by decide +kernel) ?_ | refine zG (by decide +kernel) ?_)); intro K hK) | (refine aend_in (v := ?_) hKk (by first | exact .inl rfl | exact .inr rfl) ?_ ?_ ?_; rotate_left; (focus ((try simp (disch := omega) only [go_sem, wrap_n, ANode.rgetD]) <;> (try omega) <;> fail)); (focus ((try simp (disch := omega) only [go_sem, wrap_n, ANode.rgetD]) <;> (first | done | exact rfl))); clear hKk Kk) | ((first | (with_reducible refine aunder_i ?_ ?_ <;> intro hg) | with_reducible intro hg) <;> (first | (exfalso; simp at hg; done) | (have hg' := hg; (try simp only [hcs, beq_iff_eq, ge_iff_le, gt_iff_lt] at hg'); (try simp only [hg]))))) <;> (try simp (disch := omega) only [go_sem, wrap_n, ANode.rgetD]) <;> (repeat' with_reducible refine And.intro ?_ ?_) <;> (try (with_reducible refine hK _ ?_; clear hK K)))
  | omega)
    · have hbig : ns2.any bigN = true := List.any_eq_true.2 ⟨_, getD_mem ns2 k (by omega), by unfold bigN; rw [decide_eq_true_eq]; omega⟩
      rw [apply_full h0 (by rw [hdone]; exact hbig)]
      (refine zF rfl ?_ ?_ ?_ ?_; (iterate 3 (focus ((try simp (disch := omega) only [go_sem, wrap_n, default]) <;> (try omega) <;> fail))); (try simp (disch := omega) only [go_sem, wrap_n, default, I, B, S, inj, List.cons.injEq, and_true, true_and, and_self]))
    · refine ⟨k + 1, ⟨by omega, fun j hj => ?_⟩, by omega, ?_⟩
      · by_cases e : j = k
        · subst e; unfold bigN; rw [decide_eq_false_iff_not]; omega
        · exact hk2 j (by omega)
      (refine SImp.frame [0, 1, 2, 3, 4, 5, 6, 7, 8, 9, 10, 11, 12, 13, 14, 15] rfl (by intro k hk; first | (simp at hk <;> (simp; omega)) | (simp only [List.mem_cons, List.not_mem_nil, or_false] at hk; simp only [List.length_cons, List.length_nil]; omega)) (by decide) (fun k hk => by first | omega | (rcases k with _ | _ | _ | _ | _ | _ | _ | _ | k <;> first | rfl | omega)) ?_ ?_ <;> simp (disch := omega) only [go_sem, wrap_n, Int.natCast_add, true_and] <;> (try rfl))
    all_goals
      have hbig := (bigI_no (l := ns2) (fun j hj => hk2 j (by omega))).1
      rw [apply_ok h0 (by rw [hdone]; exact hbig), hdone]
      (refine zF rfl ?_ ?_ ?_ ?_; (iterate 3 (focus ((try simp (disch := omega) only [go_sem, wrap_n, I, S, tk2]) <;> (try omega) <;> fail))); (try simp (disch := omega) only [go_sem, wrap_n, I, S, tk2, I, B, S, inj, List.cons.injEq, and_true, true_and, and_self]))
end Go.Proofs.YtmpfhalheaeibaaDoor
namespace Go.Proofs.YtmpfhalheaeibaaDoor
set_option linter.unusedVariables false
set_option linter.unusedSimpArgs false
open Go Go.RowKit
set_option maxRecDepth 100000
set_option linter.unusedSimpArgs false
theorem ver_ok {t : ATree} {x : ATxn} (h : wrongT t x = 0) (o : x.op = 5) : x.version = (getT t x.path).1.stat.version + 1 := by
  obtain ⟨g1, g2, g3, g4, g5, g6, g7, g8⟩ := wrong_ok h
  unfold wrongT at h
  rw [if_neg (by simp [g1]), if_neg (fun h => h g2), if_neg (by omega), if_neg (by omega), if_neg (fun h => h (g5 (by omega))), if_neg (by omega), if_neg (by omega), if_pos o] at h
  split at h
  · cases h
  · rename_i q
    exact Classical.byContradiction fun e => q ⟨h, e⟩
set_option maxHeartbeats 8000000 in
theorem ref_apply5_c (t : ATree) (x : ATxn) (hw : t.wf) (hps : ∀ n, n ∈ t.nodes → n.path.length ≤ 1048576) (hz : okI x.zxid) (hp : x.path.length ≤ 1048576) (hd : okS x.data) (h0 : wrongT t x = 0) (o5 : x.op = 5) : acall Tryd.prog [] 52 [t.av, x.av] (ret (.tup [(applyT t x).1.av, .d (.sl 2 ((applyT t x).2.1.map AEvent.row)), I (applyT t x).2.2])) := by
  obtain ⟨g1, g2, g3, g4, g5, g6, g7, g8⟩ := wrong_ok h0
  obtain ⟨h1, h2⟩ : t.nodes.length * 88 ≤ 140737488351232 ∧ t.sessions.length * 8 ≤ 140737488351232 := ⟨hw.2.1.1, hw.2.2.1⟩
  have hgc := (ref_tgood_c t hw hps).re (congrArg B g1)
  have hxc := (ref_wgood_c x hz hp hd).re (congrArg I g2)
  have hcp := copyTO_c t h1 h2
  have h400 : t.nodes.length ≤ 400 := (good_root g1).2.1
  have hr : Rises (pathsN t.nodes) := good_rises g1
  have hsp := ref_split_c x.path hp
  have e1 : (splitP x.path).1.1 = dirP x.path := rfl
  have g3' : ¬ x.zxid ≤ t.zxid := by omega
  have hoc := (isOpen_c t x.session h2).re (congrArg B (decide_eq_true (g5 (by omega))))
  have m1 := g8 o5
  have hn1 := nodeM_c t.zxid t.nodes t.sessions x.path h1 hr m1
  have hn2 := nodeN_c t.zxid t.nodes t.sessions (dirP x.path) h1 hr
  have hq := (place_found hr m1).1
  rw [pathsN_len] at hq
  have hv : x.version = (t.nodes.getD (place (pathsN t.nodes) x.path) default).stat.version + 1 := by have := ver_ok h0 o5; unfold getT at this; rw [if_pos m1] at this; exact this
  have hvb := ((goodTr_iff.1 g1).2.2.2 _ hq).1
  unfold nd at hvb
  obtain ⟨v1, v2, _⟩ := hvb
  have hdone : (doneT t x) = (⟨x.zxid, setN t.nodes x, t.sessions⟩, [⟨3, x.path⟩]) := by unfold doneT; rw [if_neg (by omega), if_neg (by omega), if_neg (by omega), if_neg (by omega)]
  have hadd : setN t.nodes x = t.nodes.set (place (pathsN t.nodes) x.path) (setF x (t.nodes.getD (place (pathsN t.nodes) x.path) default)) := rfl
  rw [hadd] at hdone
  generalize hn2' : t.nodes.set (place (pathsN t.nodes) x.path) (setF x (t.nodes.getD (place (pathsN t.nodes) x.path) default)) = ns2 at hdone
  have hl2 : ns2.length = t.nodes.length := by rw [← hn2', List.length_set]
  unfold setF at hn2'
  have tk2 : List.take t.nodes.length (ns2.map ANode.row) = ns2.map ANode.row := List.take_of_length_le (by rw [List.length_map]; omega)
  refine acall_of tabOk Tryd.func52 rfl (by kernel_rfl) (by simp [Tryd.ntmps52]) ?_; simp only [Tryd.ntmps52, Tryd.results52, List.toList_toArray, apar, List.length_nil, List.length_cons, Nat.reduceAdd]
  (repeat' first
| (with_reducible refine AR.f ?_)
| refine blkA_x (by decide) ?_
| (with_reducible refine AWP.cond rfl ?_ ?_ <;> intro hc <;> (try simp only [hcs, beq_iff_eq, ge_iff_le, gt_iff_lt] at hc))
| (refine acallHK_in fun Kk hKk => (acall_of tabOk Tryd.func111 rfl (by kernel_rfl) (by simp [Tryd.ntmps111]) ?_); simp only [Tryd.ntmps111, Tryd.results111, List.toList_toArray, apar, List.length_nil, List.length_cons, Nat.reduceAdd, List.length_append, List.length_set, go_sem])
| ((first | ((first | refine zP ((Plan.takes [0, 1, 2, 3, 4, 5, 7, 9, 10] (.forks 6 (.fork 8 (Plan.takes [11, 12, 13, 14, 15, 16, 17, 18, 19] .done) 11 (Plan.takes [12, 13, 14] (.fork 8 (Plan.takes [15, 16, 17, 18, 19] .done) 15 (Plan.takes [8, 16, 17, 18, 19] .done)))) 8 (.fork 6 (Plan.takes [11, 12, 13, 14, 15, 16, 17, 18, 19] .done) 11 (Plan.takes [6, 12, 13, 14, 15, 16, 17, 18, 19] .done)) 11 (Plan.takes [6, 12, 13, 14] (.fork 8 (Plan.takes [15, 16, 17, 18, 19] .done) 15 (Plan.takes [8, 16, 17, 18, 19] .done)))))) (by decide +kernel) ?_ | (with_reducible first | refine zR ?_ | refine zQ (by decide +kernel) ?_ | refine zD (by decide +kernel) ?_ | refine zE (by decide +kernel) ?_ | refine zG (by decide +kernel) ?_)); intro K hK) | ((first | refine zA hgc ?_ ?_ ?_ ?_ ?_ | refine zA hxc ?_ ?_ ?_ ?_ ?_ | refine zA hoc ?_ ?_ ?_ ?_ ?_ | refine zA hn1 ?_ ?_ ?_ ?_ ?_ | refine zA hn2 ?_ ?_ ?_ ?_ ?_ | refine zA hsp ?_ ?_ ?_ ?_ ?_ | refine zA hcp ?_ ?_ ?_ ?_ ?_); (focus exact rfl); (focus exact rfl); iterate 2 (focus ((try simp (disch := omega) only [go_sem, wrap_n, o5, e1, g3', hn2', hl2, tk2, ANode.rgetD, getD_set, ANode.rset, getD_mapset, List.set_set]) <;> (try omega) <;> fail))) | ((first | refine zN hgc rfl ?_ ?_ | refine zN hxc rfl ?_ ?_ | refine zN hoc rfl ?_ ?_ | refine zN hn1 rfl ?_ ?_ | refine zN hn2 rfl ?_ ?_ | refine zN hsp rfl ?_ ?_ | refine zN hcp rfl ?_ ?_); (focus ((try simp (disch := omega) only [go_sem, wrap_n, o5, e1, g3', hn2', hl2, tk2, ANode.rgetD, getD_set, ANode.rset, getD_mapset, List.set_set]) <;> (try omega) <;> fail))) | (first | ((first | refine zX hgc rfl ?_ ?_ | refine acallH_anyx hgc ?_ ?_); (focus ((try simp (disch := omega) only [go_sem, wrap_n, o5, e1, g3', hn2', hl2, tk2, ANode.rgetD, getD_set, ANode.rset, getD_mapset, List.set_set]) <;> (try omega) <;> fail))) | ((first | refine zX hxc rfl ?_ ?_ | refine acallH_anyx hxc ?_ ?_); (focus ((try simp (disch := omega) only [go_sem, wrap_n, o5, e1, g3', hn2', hl2, tk2, ANode.rgetD, getD_set, ANode.rset, getD_mapset, List.set_set]) <;> (try omega) <;> fail))) | ((first | refine zX hoc rfl ?_ ?_ | refine acallH_anyx hoc ?_ ?_); (focus ((try simp (disch := omega) only [go_sem, wrap_n, o5, e1, g3', hn2', hl2, tk2, ANode.rgetD, getD_set, ANode.rset, getD_mapset, List.set_set]) <;> (try omega) <;> fail))) | ((first | refine zX hn1 rfl ?_ ?_ | refine acallH_anyx hn1 ?_ ?_); (focus ((try simp (disch := omega) only [go_sem, wrap_n, o5, e1, g3', hn2', hl2, tk2, ANode.rgetD, getD_set, ANode.rset, getD_mapset, List.set_set]) <;> (try omega) <;> fail))) | ((first | refine zX hn2 rfl ?_ ?_ | refine acallH_anyx hn2 ?_ ?_); (focus ((try simp (disch := omega) only [go_sem, wrap_n, o5, e1, g3', hn2', hl2, tk2, ANode.rgetD, getD_set, ANode.rset, getD_mapset, List.set_set]) <;> (try omega) <;> fail))) | ((first | refine zX hsp rfl ?_ ?_ | refine acallH_anyx hsp ?_ ?_); (focus ((try simp (disch := omega) only [go_sem, wrap_n, o5, e1, g3', hn2', hl2, tk2, ANode.rgetD, getD_set, ANode.rset, getD_mapset, List.set_set]) <;> (try omega) <;> fail))) | ((first | refine zX hcp rfl ?_ ?_ | refine acallH_anyx hcp ?_ ?_); (focus ((try simp (disch := omega) only [go_sem, wrap_n, o5, e1, g3', hn2', hl2, tk2, ANode.rgetD, getD_set, ANode.rset, getD_mapset, List.set_set]) <;> (try omega) <;> fail)))) | (refine aend_in (v := ?_) hKk (by first | exact .inl rfl | exact .inr rfl) ?_ ?_ ?_; rotate_left; (focus ((try simp (disch := omega) only [go_sem, wrap_n, o5, e1, g3', hn2', hl2, tk2, ANode.rgetD, getD_set, ANode.rset, getD_mapset, List.set_set]) <;> (try omega) <;> fail)); (focus ((try simp (disch := omega) only [go_sem, wrap_n, o5, e1, g3', hn2', hl2, tk2, ANode.rgetD, getD_set, ANode.rset, getD_mapset, List.set_set]) <;> (first | done | exact rfl))); clear hKk Kk) | ((first | (with_reducible refine aunder_i ?_ ?_ <;> intro hg) | with_reducible intro hg) <;> (first | (exfalso; simp at hg; done) | (have hg' := hg; (try simp only [hcs, beq_iff_eq, ge_iff_le, gt_iff_lt] at hg'); (try simp only [hg]))))) <;> (try simp (disch := omega) only [go_sem, wrap_n, o5, e1, g3', hn2', hl2, tk2, ANode.rgetD, getD_set, ANode.rset, getD_mapset, List.set_set]) <;> (repeat' with_reducible refine And.intro ?_ ?_) <;> (try (with_reducible refine hK _ ?_; clear hK K)))
| omega)
  all_goals
    refine AWP.loopB (ι := Nat) (fun k => k ≤ t.nodes.length ∧ ∀ j, j < k → bigN (ns2.getD j default) = false) (fun k => t.nodes.length - k) [4, 7, 15, 16, 404, 405] (fun k => [(406, I k)]) (fun k => [.cells [.d (.int .i64 t.zxid), .d (.sl 9 (t.nodes.map ANode.row)), .d (.sl 1 (t.sessions.map irow))], .cells [I x.zxid, I 5, I x.session, S x.path, S x.data, I x.version, I x.owner], .cells [I 0, .d (.sc (.slice none 0 0)), .d (.sc (.slice none 0 0))], .rows 9 (ns2.map ANode.row), .rows 1 (t.sessions.map irow), .cells [I x.zxid, .osl 3 9 0 t.nodes.length, .osl 4 1 0 t.sessions.length], .cells [.osl 9 2 0 1], .cells [.clo 113 [] [.ptr 5 0, .ptr 1 0, .ptr 6 0]], .rows 2 [[.int .i64 3, .str x.path]], .rows 2 [[.int .i64 3, .str x.path]]]) 0 ?_ ?_ ?_
    · exact ⟨by omega, fun j hj => by omega⟩
    · simp only [go_sem]; (refine SImp.same ?_; simp (disch := omega) only [go_sem, wrap_n, Int.natCast_add])
    intro k ⟨hk, hk2⟩
    simp only [go_sem]
    (repeat' first
  | (with_reducible refine AR.f ?_)
  | refine blkA_x (by decide) ?_
  | (with_reducible refine AWP.cond rfl ?_ ?_ <;> intro hc <;> (try simp only [hcs, beq_iff_eq, ge_iff_le, gt_iff_lt] at hc))
  | (refine acallHK_in fun Kk hKk => (acall_of tabOk Tryd.func111 rfl (by kernel_rfl) (by simp [Tryd.ntmps111]) ?_); simp only [Tryd.ntmps111, Tryd.results111, List.toList_toArray, apar, List.length_nil, List.length_cons, Nat.reduceAdd, List.length_append, List.length_set, go_sem])
  | ((first | ((first | refine zP ((Plan.takes [0] (.fork 1 (Plan.takes [2, 3, 4] .done) 2 (Plan.takes [1, 3, 4] .done)))) (by decide +kernel) ?_ | (with_reducible first | refine zR ?_ | refine zQ (by decide +kernel) ?_ | refine zD (by decide +kernel) ?_ | refine zE (by decide +kernel) ?_ | refine zG (by decide +kernel) ?_)); intro K hK) | (refine aend_in (v := ?_) hKk (by first | exact .inl rfl | exact .inr rfl) ?_ ?_ ?_; rotate_left; (focus ((try simp (disch := omega) only [go_sem, wrap_n, ANode.rgetD]) <;> (try omega) <;> fail)); (focus ((try simp (disch := omega) only [go_sem, wrap_n, ANode.rgetD]) <;> (first | done | exact rfl))); clear hKk Kk) | ((first | (with_reducible refine aunder_i ?_ ?_ <;> intro hg) | with_reducible intro hg) <;> (first | (exfalso; simp at hg; done) | (have hg' := hg; (try simp only [hcs, beq_iff_eq, ge_iff_le, gt_iff_lt] at hg'); (try simp only [hg]))))) <;> (try simp (disch := omega) only [go_sem, wrap_n, ANode.rgetD]) <;> (repeat' with_reducible refine And.intro ?_ ?_) <;> (try (with_reducible refine hK _ ?_; clear hK K)))
  | omega)
    · have hbig : ns2.any bigN = true := List.any_eq_true.2 ⟨_, getD_mem ns2 k (by omega), by unfold bigN; rw [decide_eq_true_eq]; omega⟩
      rw [apply_full h0 (by rw [hdone]; exact hbig)]
      (refine zF rfl ?_ ?_ ?_ ?_; (iterate 3 (focus ((try simp (disch := omega) only [go_sem, wrap_n, default]) <;> (try omega) <;> fail))); (try simp (disch := omega) only [go_sem, wrap_n, default, I, B, S, inj, List.cons.injEq, and_true, true_and, and_self]))
    · refine ⟨k + 1, ⟨by omega, fun j hj => ?_⟩, by omega, ?_⟩
      · by_cases e : j = k
        · subst e; unfold bigN; rw [decide_eq_false_iff_not]; omega
        · exact hk2 j (by omega)
      (refine SImp.frame [0, 1, 2, 3, 4, 5, 6, 7, 8, 9] rfl (by intro k hk; first | (simp at hk <;> (simp; omega)) | (simp only [List.mem_cons, List.not_mem_nil, or_false] at hk; simp only [List.length_cons, List.length_nil]; omega)) (by decide) (fun k hk => by first | omega | (rcases k with _ | _ | _ | _ | _ | _ | _ | _ | k <;> first | rfl | omega)) ?_ ?_ <;> simp (disch := omega) only [go_sem, wrap_n, Int.natCast_add, true_and] <;> (try rfl))
    all_goals
      have hbig := (bigI_no (l := ns2) (fun j hj => hk2 j (by omega))).1
      rw [apply_ok h0 (by rw [hdone]; exact hbig), hdone]
      (refine zF rfl ?_ ?_ ?_ ?_; (iterate 3 (focus ((try simp (disch := omega) only [go_sem, wrap_n, I, S, tk2]) <;> (try omega) <;> fail))); (try simp (disch := omega) only [go_sem, wrap_n, I, S, tk2, I, B, S, inj, List.cons.injEq, and_true, true_and, and_self]))
end Go.Proofs.YtmpfhalheaeibaaDoor
namespace Go.Proofs.YtmpfhalheaeibaaDoor
set_option linter.unusedVariables false
set_option linter.unusedSimpArgs false
open Go Go.RowKit
set_option maxRecDepth 100000
set_option linter.unusedSimpArgs false
def stepN (c : Nat) : Nat := (c / 2) ^^^ (if c % 2 = 1 then 3988292384 else 0)
def stepsN : Nat → Nat → Nat
  | 0, c => c
  | k + 1, c => stepN (stepsN k c)
def byteN (c : Nat) (b : UInt8) : Nat := stepsN 8 (c ^^^ b.toNat)
def crcN (s : List UInt8) : Nat := s.foldl byteN 4294967295
def sumN (s : List UInt8) : Nat := 4294967295 - crcN s
def cl (l : List Nat) : List AV := l.map fun n : Nat => AV.d (.int .i64 (n : Int))
end Go.Proofs.YtmpfhalheaeibaaDoor
namespace Go.Proofs.YtmpfhalheaeibaaDoor
set_option linter.unusedVariables false
set_option linter.unusedSimpArgs false
open Go Go.RowKit
set_option maxRecDepth 100000
structure Cur where
  t : List UInt8
  s : List UInt8
  bad : Bool
def curT (s : List UInt8) (b : Bool) (n : Nat) : Cur := if b = true ∨ s.length < n then ⟨[], s, true⟩ else ⟨s.take n, s.drop n, false⟩
def numN (l : List UInt8) : Nat := l.foldl (fun v x => v * 256 + x.toNat) 0
def bP (b : List UInt8) : Nat := (b.getD 21 0).toNat
def bD (b : List UInt8) : Nat := numN ((b.drop (22 + bP b)).take 2)
def bodyOk (b : List UInt8) : Prop := b.length = 24 + bP b + bD b
def sN (s : List UInt8) : Nat := numN ((s.drop 1).take 2)
instance (b : List UInt8) : Decidable (bodyOk b) := inferInstanceAs (Decidable (_ = _))
def noHead (s : List UInt8) : Prop := s.length < 3 ∨ s.getD 0 0 ≠ 84
def noRoom (s : List UInt8) : Prop := 1024 < sN s ∨ s.length < sN s + 7
def noSum (s : List UInt8) : Prop := numN ((s.drop (sN s + 3)).take 4) ≠ sumN (s.take (sN s + 3))
instance (s : List UInt8) : Decidable (noHead s) := inferInstanceAs (Decidable (_ ∨ _))
instance (s : List UInt8) : Decidable (noRoom s) := inferInstanceAs (Decidable (_ ∨ _))
instance (s : List UInt8) : Decidable (noSum s) := inferInstanceAs (Decidable (_ ≠ _))
end Go.Proofs.YtmpfhalheaeibaaDoor
namespace Go.Proofs.YtmpfhalheaeibaaDoor
set_option linter.unusedVariables false
set_option linter.unusedSimpArgs false
open Go Go.RowKit
set_option maxRecDepth 100000
theorem curT_len (s : List UInt8) (b : Bool) (n : Nat) : (curT s b n).s.length ≤ s.length ∧ (curT s b n).t.length ≤ s.length ∧ (curT s b n).t.length ≤ n := by
  unfold curT; split <;> simp <;> omega
theorem curT_good {s : List UInt8} {b : Bool} {n : Nat} (h : (curT s b n).bad = false) : b = false ∧ n ≤ s.length ∧ (curT s b n).t = s.take n ∧ (curT s b n).s = s.drop n := by
  unfold curT at *
  split at h
  · cases h
  · rename_i hn
    rw [if_neg hn]
    exact ⟨by cases b <;> simp_all, by omega, rfl, rfl⟩
structure Dec where
  k1 : Cur
  k2 : Cur
  k3 : Cur
  k4 : Cur
  j1 : Cur
  j2 : Cur
  j3 : Cur
  j4 : Cur
  j5 : Cur
  j6 : Cur
  j7 : Cur
  j8 : Cur
  j9 : Cur
structure Reads (s : List UInt8) (d : Dec) : Prop where
  k1 : curT s false 1 = d.k1
  k2 : curT d.k1.s d.k1.bad 2 = d.k2
  k3 : curT d.k2.s d.k2.bad (numN d.k2.t) = d.k3
  k4 : curT d.k3.s d.k3.bad 4 = d.k4
  j1 : curT d.k3.t false 8 = d.j1
  j2 : curT d.j1.s d.j1.bad 1 = d.j2
  j3 : curT d.j2.s d.j2.bad 4 = d.j3
  j4 : curT d.j3.s d.j3.bad 4 = d.j4
  j5 : curT d.j4.s d.j4.bad 4 = d.j5
  j6 : curT d.j5.s d.j5.bad 1 = d.j6
  j7 : curT d.j6.s d.j6.bad (numN d.j6.t) = d.j7
  j8 : curT d.j7.s d.j7.bad 2 = d.j8
  j9 : curT d.j8.s d.j8.bad (numN d.j8.t) = d.j9
theorem reads (s : List UInt8) : ∃ d, Reads s d := by
  let k1 := curT s false 1
  let k2 := curT k1.s k1.bad 2
  let k3 := curT k2.s k2.bad (numN k2.t)
  let k4 := curT k3.s k3.bad 4
  let j1 := curT k3.t false 8
  let j2 := curT j1.s j1.bad 1
  let j3 := curT j2.s j2.bad 4
  let j4 := curT j3.s j3.bad 4
  let j5 := curT j4.s j4.bad 4
  let j6 := curT j5.s j5.bad 1
  let j7 := curT j6.s j6.bad (numN j6.t)
  let j8 := curT j7.s j7.bad 2
  let j9 := curT j8.s j8.bad (numN j8.t)
  exact ⟨⟨k1, k2, k3, k4, j1, j2, j3, j4, j5, j6, j7, j8, j9⟩, ⟨rfl, rfl, rfl, rfl, rfl, rfl, rfl, rfl, rfl, rfl, rfl, rfl, rfl⟩⟩
theorem gd {s : List UInt8} {b : Bool} {n : Nat} {k : Cur} (e : curT s b n = k) (h : k.bad = false) : b = false ∧ n ≤ s.length ∧ k.t = s.take n ∧ k.s = s.drop n := by
  subst e; exact curT_good h
theorem ln {s : List UInt8} {b : Bool} {n m : Nat} {k : Cur} (e : curT s b n = k) (h : s.length ≤ m) : k.s.length ≤ m ∧ k.t.length ≤ m ∧ k.t.length ≤ n := by
  subst e; have := curT_len s b n; omega
end Go.Proofs.YtmpfhalheaeibaaDoor
namespace Go.Proofs.YtmpfhalheaeibaaDoor
set_option linter.unusedVariables false
set_option linter.unusedSimpArgs false
open Go Go.RowKit
set_option maxRecDepth 100000
set_option linter.unusedSimpArgs false
def byteAt (k : Nat) (v : Int) : UInt8 := UInt8.ofNat ((v / 2 ^ (8 * k)) % 256).toNat
def beB : Nat → Int → List UInt8
  | 0, _ => []
  | n + 1, v => byteAt n v :: beB n v
def b5 (t : ATxn) : List UInt8 := (beB 8 t.zxid ++ [byteAt 0 t.op]) ++ beB 4 t.session
def b6 (t : ATxn) : List UInt8 := (b5 t ++ beB 4 t.version) ++ beB 4 t.owner
def b7 (t : ATxn) : List UInt8 := (b6 t ++ [byteAt 0 t.path.length]) ++ t.path
end Go.Proofs.YtmpfhalheaeibaaDoor
namespace Go.Proofs.YtmpfhalheaeibaaDoor
set_option linter.unusedVariables false
set_option linter.unusedSimpArgs false
open Go Go.RowKit
set_option maxRecDepth 100000
def t1 : ATxn := ⟨1, 1, 1, [], [], 0, 0⟩
end Go.Proofs.YtmpfhalheaeibaaDoor
namespace Go.Proofs.YtmpfhalheaeibaaDoor
set_option linter.unusedVariables false
set_option linter.unusedSimpArgs false
open Go Go.RowKit
set_option maxRecDepth 100000
set_option linter.unusedSimpArgs false
theorem ref_apply_c (t : ATree) (x : ATxn) (hw : t.wf) (hps : ∀ n, n ∈ t.nodes → n.path.length ≤ 1048576) (hz : okI x.zxid) (hp : x.path.length ≤ 1048576) (hd : okS x.data) : acall Tryd.prog [] 52 [t.av, x.av] (ret (.tup [(applyT t x).1.av, .d (.sl 2 ((applyT t x).2.1.map AEvent.row)), I (applyT t x).2.2])) := by
  by_cases h0 : wrongT t x = 0
  case neg =>
    rw [apply_no h0]
    exact ref_apply_no t x hw hps hz hp hd h0
  obtain ⟨o1, o2, _, _⟩ := goodT_nums (wrong_ok h0).2.1
  rcases (by omega : x.op = 1 ∨ x.op = 2 ∨ x.op = 3 ∨ x.op = 4 ∨ x.op = 5) with o | o | o | o | o
  · exact ref_apply1_c t x hw hps hz hp hd h0 o
  · exact ref_apply2_c t x hw hps hz hp hd h0 o
  · exact ref_apply3_c t x hw hps hz hp hd h0 o
  · exact ref_apply4_c t x hw hps hz hp hd h0 o
  · exact ref_apply5_c t x hw hps hz hp hd h0 o
theorem sameEvents_c (a b : List AEvent) (h : a.length * 24 ≤ 140737488351232) (h2 : b.length * 24 ≤ 140737488351232) : acall Tryd.prog [] 53 [.d (.sl 2 (a.map AEvent.row)), .d (.sl 2 (b.map AEvent.row))] (ret (B (decide (a = b)))) := by
  refine acall_of tabOk Tryd.func53 rfl (by kernel_rfl) (by simp [Tryd.ntmps53]) ?_; simp only [Tryd.ntmps53, Tryd.results53, List.toList_toArray, apar, List.length_nil, List.length_cons, Nat.reduceAdd]
  (repeat' first
| (with_reducible refine AR.f ?_)
| refine blkA_x (by decide) ?_
| (with_reducible refine AWP.cond rfl ?_ ?_ <;> intro hc <;> (try simp only [hcs, beq_iff_eq, ge_iff_le, gt_iff_lt] at hc))
| ((first | ((first | (with_reducible first | refine zR ?_ | refine zQ (by decide +kernel) ?_ | refine zD (by decide +kernel) ?_ | refine zE (by decide +kernel) ?_ | refine zG (by decide +kernel) ?_)); intro K hK) | ((first | (with_reducible refine aunder_i ?_ ?_ <;> intro hg) | with_reducible intro hg) <;> (first | (exfalso; simp at hg; done) | (have hg' := hg; (try simp only [hcs, beq_iff_eq, ge_iff_le, gt_iff_lt] at hg'); (try simp only [hg]))))) <;> (try simp (disch := omega) only [go_sem, wrap_n]) <;> (repeat' with_reducible refine And.intro ?_ ?_) <;> (try (with_reducible refine hK _ ?_; clear hK K)))
| omega)
  · (refine zF rfl ?_ ?_ ?_ ?_; (iterate 3 (focus ((try simp (disch := omega) only [go_sem, wrap_n]) <;> (try omega) <;> fail))); (try simp (disch := omega) only [go_sem, wrap_n, I, B, S, inj, List.cons.injEq, and_true, true_and, and_self]))
    symm; rw [decide_eq_false_iff_not]; intro e; subst e; simp at hc
  have h3 := hc
  refine AWP.loopS (ι := Nat) (fun k => k ≤ a.length ∧ ∀ j, j < k → a.getD j default = b.getD j default) (fun k => a.length - k) [0, 1, 12] (fun k => [(13, I k)]) 0 ?_ (by simp (disch := omega) only [go_sem, wrap_n, true_and]) ?_
  · exact ⟨by omega, by omega⟩
  intro k ⟨hk, hk2⟩
  simp only [go_sem]
  (repeat' first
| (with_reducible refine AR.f ?_)
| refine blkA_x (by decide) ?_
| (with_reducible refine AWP.cond rfl ?_ ?_ <;> intro hc <;> (try simp only [hcs, beq_iff_eq, ge_iff_le, gt_iff_lt] at hc))
| ((first | ((first | (with_reducible first | refine zR ?_ | refine zQ (by decide +kernel) ?_ | refine zD (by decide +kernel) ?_ | refine zE (by decide +kernel) ?_ | refine zG (by decide +kernel) ?_)); intro K hK) | ((first | (with_reducible refine aunder_i ?_ ?_ <;> intro hg) | with_reducible intro hg) <;> (first | (exfalso; simp at hg; done) | (have hg' := hg; (try simp only [hcs, beq_iff_eq, ge_iff_le, gt_iff_lt] at hg'); (try simp only [hg]))))) <;> (try simp (disch := omega) only [go_sem, wrap_n, AEvent.rgetD]) <;> (repeat' with_reducible refine And.intro ?_ ?_) <;> (try (with_reducible refine hK _ ?_; clear hK K)))
| omega)
  · (refine zF rfl ?_ ?_ ?_ ?_; (iterate 3 (focus ((try simp (disch := omega) only [go_sem, wrap_n]) <;> (try omega) <;> fail))); (try simp (disch := omega) only [go_sem, wrap_n, I, B, S, inj, List.cons.injEq, and_true, true_and, and_self]))
    symm; rw [decide_eq_false_iff_not]; intro e; subst e; simp at hc
  · refine ⟨k + 1, ⟨by omega, fun j hj => ?_⟩, by omega, ?_⟩
    · by_cases e : j = k
      · subst e; exact hc
      · exact hk2 j (by omega)
    (refine SImp.same ?_; simp (disch := omega) only [go_sem, wrap_n, Int.natCast_add])
  · (refine zF rfl ?_ ?_ ?_ ?_; (iterate 3 (focus ((try simp (disch := omega) only [go_sem, wrap_n]) <;> (try omega) <;> fail))); (try simp (disch := omega) only [go_sem, wrap_n, I, B, S, inj, List.cons.injEq, and_true, true_and, and_self]))
    symm; rw [decide_eq_true_eq]
    exact eq_of_getD (by omega) fun j hj => hk2 j (by omega)
/-! ### What Apply keeps -/
def okN (n : ANode) : Prop := n.wf ∧ n.path.length ≤ 1048576
def okT (t : ATree) : Prop := t.wf ∧ ∀ n, n ∈ t.nodes → n.path.length ≤ 1048576
theorem okI_wrap (z : Int) : okI (IntKind.i64.wrap z) := by rw [IntKind.wrap_i64]; unfold okI; omega
theorem kidN_ok {ns : List ANode} {p : List UInt8} {m z : Int} (h : ∀ n, n ∈ ns → okN n) (hz : okI z) : ∀ n, n ∈ kidN ns p m z → okN n := by
  unfold kidN
  split
  · rename_i hm
    intro n hn
    rcases List.mem_or_eq_of_mem_set hn with a | rfl
    · exact h n a
    · by_cases hl : place (pathsN ns) (dirP p) < ns.length
      · obtain ⟨⟨a1, a2, b1, b2, b3, b4, b5, b6, b7⟩, c⟩ := h _ (mem_getD ns default hl)
        exact ⟨⟨a1, a2, b1, b2, hz, b4, okI_wrap _, b6, okI_wrap _⟩, c⟩
      · rw [List.set_eq_of_length_le (by omega)] at hn
        exact h _ hn
  · exact h
theorem delN_ok {ns : List ANode} {p : List UInt8} {z : Int} (h : ∀ n, n ∈ ns → okN n) (hz : okI z) : ∀ n, n ∈ delN ns p z → okN n :=
  kidN_ok (fun n hn => h n (List.mem_of_mem_eraseIdx hn)) hz
theorem closeN_ok {t : ATree} {s z : Int} (h : ∀ n, n ∈ t.nodes → okN n) (hz : okI z) : ∀ k n, n ∈ (closeN t s z k).1 → okN n
  | 0 => h
  | k + 1 => by
    unfold closeN
    split
    · exact delN_ok (closeN_ok h hz k) hz
    · exact closeN_ok h hz k
theorem mem_insN {α : Type} {l : List α} {i : Nat} {x y : α} (h : i ≤ l.length) (hy : y ∈ l.insertIdx i x) : y = x ∨ y ∈ l := (List.mem_insertIdx h).1 hy
theorem len_ins {α : Type} (l : List α) (i : Nat) (x : α) (h : i ≤ l.length) : (l.insertIdx i x).length = l.length + 1 := by rw [List.length_insertIdx, if_pos h]
theorem done_ok {t : ATree} {x : ATxn} (h : okT t) (hx : x.wf) (hp : x.path.length ≤ 1048576) (h0 : wrongT t x = 0) : okT (doneT t x).1 := by
  obtain ⟨g1, g2, g3, g4, g5, g6, g7, g8⟩ := wrong_ok h0
  obtain ⟨⟨w1, ⟨w2, w3⟩, w4, w5⟩, hb⟩ := h
  obtain ⟨x1, x2, x3, x4, x5, x6, x7⟩ := hx
  have hN : ∀ n, n ∈ t.nodes → okN n := fun n hn => ⟨w3 n hn, hb n hn⟩
  have h400 : t.nodes.length ≤ 400 := (good_root g1).2.1
  have hss := sess_len g1
  have fin : ∀ ns : List ANode, ∀ ss : List Int, ns.length ≤ 401 → ss.length ≤ 2147483648 → (∀ n, n ∈ ns → okN n) → (∀ s, s ∈ ss → okI s) → okT ⟨x.zxid, ns, ss⟩ := fun ns ss a b c d =>
    ⟨⟨x1, ⟨by show ns.length * 88 ≤ _; omega, fun n hn => (c n hn).1⟩, by show ss.length * 8 ≤ _; omega, d⟩, fun n hn => (c n hn).2⟩
  unfold doneT
  split
  · exact fin _ _ (by omega) (by rw [len_ins _ _ _ (show placeI t.sessions x.session ≤ _ from List.findIdx_le_length)]; omega) hN (fun s hs => by
      rcases mem_insN List.findIdx_le_length hs with rfl | a
      · exact x3
      · exact w5 _ a)
  split
  · exact fin _ _ (Nat.le_trans (close_ok (z := x.zxid) g1 (goodT_nums g2).2.2.1 _ (Nat.le_refl _)).len (by omega)) (Nat.le_trans (List.length_eraseIdx_le _ _) (by omega)) (closeN_ok hN x1 _) (fun s hs => w5 s (List.mem_of_mem_eraseIdx hs))
  split
  · rename_i o3
    have hpl : place (pathsN t.nodes) x.path ≤ t.nodes.length := by have := place_le (pathsN t.nodes) x.path; rwa [pathsN_len] at this
    refine fin _ _ ?_ (by omega) ?_ w5
    · unfold addN; rw [kidN_len, len_ins _ _ _ hpl]; have := (g6 o3).2.2; omega
    · refine kidN_ok (fun n hn => ?_) x1
      rcases mem_insN hpl hn with rfl | a
      · exact ⟨⟨x4, x5, x1, x1, x1, ⟨by show (_ : Int) ≤ 0; decide, by show (0 : Int) ≤ _; decide⟩, ⟨by show (_ : Int) ≤ 0; decide, by show (0 : Int) ≤ _; decide⟩, x7, ⟨by show (_ : Int) ≤ 0; decide, by show (0 : Int) ≤ _; decide⟩⟩, hp⟩
      · exact hN n a
  split
  · refine fin _ _ ?_ (by omega) (delN_ok hN x1) w5
    unfold delN; rw [kidN_len]; exact Nat.le_trans (List.length_eraseIdx_le _ _) (by omega)
  · obtain ⟨o1, o2, _, _⟩ := goodT_nums g2
    have hq := (place_found (good_rises g1) (g8 (by omega))).1
    rw [pathsT_len] at hq
    refine fin _ _ (by unfold setN; rw [List.length_set]; omega) (by omega) (fun n hn => ?_) w5
    rcases List.mem_or_eq_of_mem_set hn with a | rfl
    · exact hN n a
    · obtain ⟨⟨a1, a2, b1, b2, b3, b4, b5, b6, b7⟩, c⟩ := hN _ (mem_getD t.nodes default (k := place (pathsN t.nodes) x.path) hq)
      exact ⟨⟨a1, x5, b1, x1, b3, x6, b5, b6, b7⟩, c⟩
theorem apply_okT {t : ATree} {x : ATxn} (h : okT t) (hx : x.wf) (hp : x.path.length ≤ 1048576) : okT (applyT t x).1 := by
  have hd : okT (default : ATree) := ⟨⟨by unfold okI; decide, ⟨by decide, fun _ h => by cases h⟩, by decide, fun _ h => by cases h⟩, fun _ h => by cases h⟩
  unfold applyT
  split
  · exact hd
  · rename_i h0
    split
    · exact hd
    · exact done_ok h hx hp (Classical.not_not.1 h0)
theorem apply_ev {t : ATree} {x : ATxn} : (applyT t x).2.1.length ≤ 1000 := by
  unfold applyT
  split
  · exact Nat.zero_le _
  · rename_i h0
    have h0 := Classical.not_not.1 h0
    obtain ⟨g1, g2, g3, g4, g5, g6, g7, g8⟩ := wrong_ok h0
    have h400 : t.nodes.length ≤ 400 := (good_root g1).2.1
    split
    · exact Nat.zero_le _
    · show (doneT t x).2.length ≤ _
      unfold doneT
      split
      · exact Nat.zero_le _
      split
      · have := (close_ok (z := x.zxid) g1 (goodT_nums g2).2.2.1 _ (Nat.le_refl _)).elen
        simp only; omega
      split
      · show 2 ≤ _; omega
      split
      · show 2 ≤ _; omega
      · show 1 ≤ _; omega
end Go.Proofs.YtmpfhalheaeibaaDoor
namespace Go.Proofs.YtmpfhalheaeibaaDoor
set_option linter.unusedVariables false
set_option linter.unusedSimpArgs false
open Go Go.RowKit
set_option maxRecDepth 100000
set_option linter.unusedSimpArgs false
theorem t00_okT : okT t00 := ⟨t00_wf, fun y hy => by rw [List.mem_singleton.1 hy]; decide⟩
set_option maxHeartbeats 8000000 in
theorem treePlays_w (l : List ATxn) (hl : l.length * 72 ≤ 140737488351232) (hx : ∀ x, x ∈ l → x.wf) (hp : ∀ x, x ∈ l → x.path.length ≤ 1048576) : acall Tryd.prog [] 11 [.d (.sl 7 (l.map ATxn.row))] (ret (B true)) := by
  refine acall_of tabOk Tryd.func11 rfl (by kernel_rfl) (by simp [Tryd.ntmps11]) ?_; simp only [Tryd.ntmps11, Tryd.results11, List.toList_toArray, apar, List.length_nil, List.length_cons, Nat.reduceAdd]
  (repeat' first
| (with_reducible refine AR.f ?_)
| refine blkA_x (by decide) ?_
| (with_reducible refine AWP.cond rfl ?_ ?_ <;> intro hc <;> (try simp only [hcs, beq_iff_eq, ge_iff_le, gt_iff_lt] at hc))
| ((first | ((first | (with_reducible first | refine zR ?_ | refine zQ (by decide +kernel) ?_ | refine zD (by decide +kernel) ?_ | refine zE (by decide +kernel) ?_ | refine zG (by decide +kernel) ?_)); intro K hK) | ((first | refine zA new_c ?_ ?_ ?_ ?_ ?_ | refine zA ref_new_c ?_ ?_ ?_ ?_ ?_); (focus exact rfl); (focus exact rfl); iterate 2 (focus ((try simp (disch := omega) only [go_sem, wrap_n]) <;> (try omega) <;> fail))) | ((first | refine zN new_c rfl ?_ ?_ | refine zN ref_new_c rfl ?_ ?_); (focus ((try simp (disch := omega) only [go_sem, wrap_n]) <;> (try omega) <;> fail))) | (first | ((first | refine zX new_c rfl ?_ ?_ | refine acallH_anyx new_c ?_ ?_); (focus ((try simp (disch := omega) only [go_sem, wrap_n]) <;> (try omega) <;> fail))) | ((first | refine zX ref_new_c rfl ?_ ?_ | refine acallH_anyx ref_new_c ?_ ?_); (focus ((try simp (disch := omega) only [go_sem, wrap_n]) <;> (try omega) <;> fail)))) | ((first | (with_reducible refine aunder_i ?_ ?_ <;> intro hg) | with_reducible intro hg) <;> (first | (exfalso; simp at hg; done) | (have hg' := hg; (try simp only [hcs, beq_iff_eq, ge_iff_le, gt_iff_lt] at hg'); (try simp only [hg]))))) <;> (try simp (disch := omega) only [go_sem, wrap_n]) <;> (repeat' with_reducible refine And.intro ?_ ?_) <;> (try (with_reducible refine hK _ ?_; clear hK K)))
| omega)
  refine AWP.loopB (ι := Nat × ATree) (fun v => v.1 ≤ l.length ∧ okT v.2) (fun v => l.length - v.1) [0, 3, 4] (fun v => [(5, I v.1)]) (fun v => [.cells [.d (.int .i64 v.2.zxid), .d (.sl 9 (v.2.nodes.map ANode.row)), .d (.sl 1 (v.2.sessions.map irow))], .cells [.d (.int .i64 v.2.zxid), .d (.sl 9 (v.2.nodes.map ANode.row)), .d (.sl 1 (v.2.sessions.map irow))]]) (0, t00) ?_ ?_ ?_
  · exact ⟨by omega, t00_okT⟩
  · simp only [go_sem]; (refine SImp.same ?_; simp (disch := omega) only [go_sem, wrap_n, Int.natCast_add])
  intro ⟨k, tr⟩ ⟨hk, hok⟩
  simp only at hk hok
  simp only [go_sem]
  by_cases hkk : k < l.length
  case neg =>
    (repeat' first
  | (with_reducible refine AR.f ?_)
  | refine blkA_x (by decide) ?_
  | (with_reducible refine AWP.cond rfl ?_ ?_ <;> intro hc <;> (try simp only [hcs, beq_iff_eq, ge_iff_le, gt_iff_lt] at hc))
  | ((first | ((first | (with_reducible first | refine zR ?_ | refine zQ (by decide +kernel) ?_ | refine zD (by decide +kernel) ?_ | refine zE (by decide +kernel) ?_ | refine zG (by decide +kernel) ?_)); intro K hK) | ((first | refine zA (sameTree_c tr tr hok.1 hok.1) ?_ ?_ ?_ ?_ ?_); (focus exact rfl); (focus exact rfl); iterate 2 (focus ((try simp (disch := omega) only [go_sem, wrap_n]) <;> (try omega) <;> fail))) | ((first | refine zN (sameTree_c tr tr hok.1 hok.1) rfl ?_ ?_); (focus ((try simp (disch := omega) only [go_sem, wrap_n]) <;> (try omega) <;> fail))) | (first | ((first | refine zX (sameTree_c tr tr hok.1 hok.1) rfl ?_ ?_ | refine acallH_anyx (sameTree_c tr tr hok.1 hok.1) ?_ ?_); (focus ((try simp (disch := omega) only [go_sem, wrap_n]) <;> (try omega) <;> fail)))) | ((first | (with_reducible refine aunder_i ?_ ?_ <;> intro hg) | with_reducible intro hg) <;> (first | (exfalso; simp at hg; done) | (have hg' := hg; (try simp only [hcs, beq_iff_eq, ge_iff_le, gt_iff_lt] at hg'); (try simp only [hg]))))) <;> (try simp (disch := omega) only [go_sem, wrap_n]) <;> (repeat' with_reducible refine And.intro ?_ ?_) <;> (try (with_reducible refine hK _ ?_; clear hK K)))
  | omega)
    all_goals (refine zF rfl ?_ ?_ ?_ ?_; (iterate 3 (focus ((try simp (disch := omega) only [go_sem, wrap_n]) <;> (try omega) <;> fail))); (try simp (disch := omega) only [go_sem, wrap_n, I, B, S, inj, List.cons.injEq, and_true, true_and, and_self]))
  have hxm := getD_mem l k hkk
  have hxw := hx _ hxm
  have hxp := hp _ hxm
  have hok2 := apply_okT hok hxw hxp
  have hev := apply_ev (t := tr) (x := l.getD k default)
  have ha := apply_c tr (l.getD k default) hok.1 hxw.2.2.2.1 hxw.2.2.2.2.1
  have hr := ref_apply_c tr (l.getD k default) hok.1 hok.2 hxw.1 hxp hxw.2.2.2.2.1
  have hsame := sameTree_c _ _ hok2.1 hok2.1
  have hse := sameEvents_c _ _ (Nat.le_trans (Nat.mul_le_mul_right 24 hev) (by decide)) (Nat.le_trans (Nat.mul_le_mul_right 24 hev) (by decide))
  generalize applyT tr (l.getD k default) = r at hok2 hev ha hr hsame hse
  obtain ⟨a, es, e⟩ := r
  simp only at hok2 hev ha hr hsame hse
  (repeat' first
| (with_reducible refine AR.f ?_)
| refine blkA_x (by decide) ?_
| (with_reducible refine AWP.cond rfl ?_ ?_ <;> intro hc <;> (try simp only [hcs, beq_iff_eq, ge_iff_le, gt_iff_lt] at hc))
| ((first | ((first | refine zP ((Plan.takes [1, 2, 3] (.forks 0 (.fork 4 (.fork 5 (Plan.takes [6, 7, 8, 9, 10, 11, 12, 13] .done) 10 (Plan.takes [5, 6, 7, 8, 9, 11, 12, 13] .done)) 10 (Plan.takes [4, 5, 6, 7, 8, 9, 11, 12, 13] .done)) 4 (.fork 0 (.fork 5 (Plan.takes [6, 7, 8, 9, 10, 11, 12, 13] .done) 10 (Plan.takes [5, 6, 7, 8, 9, 11, 12, 13] .done)) 10 (Plan.takes [0, 5, 6, 7, 8, 9, 11, 12, 13] .done)) 10 (Plan.takes [0, 4, 5, 6, 7, 8, 9, 11, 12, 13] .done)))) (by decide +kernel) ?_ | refine zP ((Plan.takes [0] (.fork 1 (Plan.takes [2, 3] .done) 2 (Plan.takes [1, 3] .done)))) (by decide +kernel) ?_ | (with_reducible first | refine zR ?_ | refine zQ (by decide +kernel) ?_ | refine zD (by decide +kernel) ?_ | refine zE (by decide +kernel) ?_ | refine zG (by decide +kernel) ?_)); intro K hK) | ((first | refine zA ha ?_ ?_ ?_ ?_ ?_ | refine zA hr ?_ ?_ ?_ ?_ ?_ | refine zA hsame ?_ ?_ ?_ ?_ ?_ | refine zA hse ?_ ?_ ?_ ?_ ?_ | refine zA (sameTree_c tr tr hok.1 hok.1) ?_ ?_ ?_ ?_ ?_); (focus exact rfl); (focus exact rfl); iterate 2 (focus ((try simp (disch := omega) only [go_sem, wrap_n, ATxn.rgetD]) <;> (try omega) <;> fail))) | ((first | refine zN ha rfl ?_ ?_ | refine zN hr rfl ?_ ?_ | refine zN hsame rfl ?_ ?_ | refine zN hse rfl ?_ ?_ | refine zN (sameTree_c tr tr hok.1 hok.1) rfl ?_ ?_); (focus ((try simp (disch := omega) only [go_sem, wrap_n, ATxn.rgetD]) <;> (try omega) <;> fail))) | (first | ((first | refine zX ha rfl ?_ ?_ | refine acallH_anyx ha ?_ ?_); (focus ((try simp (disch := omega) only [go_sem, wrap_n, ATxn.rgetD]) <;> (try omega) <;> fail))) | ((first | refine zX hr rfl ?_ ?_ | refine acallH_anyx hr ?_ ?_); (focus ((try simp (disch := omega) only [go_sem, wrap_n, ATxn.rgetD]) <;> (try omega) <;> fail))) | ((first | refine zX hsame rfl ?_ ?_ | refine acallH_anyx hsame ?_ ?_); (focus ((try simp (disch := omega) only [go_sem, wrap_n, ATxn.rgetD]) <;> (try omega) <;> fail))) | ((first | refine zX hse rfl ?_ ?_ | refine acallH_anyx hse ?_ ?_); (focus ((try simp (disch := omega) only [go_sem, wrap_n, ATxn.rgetD]) <;> (try omega) <;> fail))) | ((first | refine zX (sameTree_c tr tr hok.1 hok.1) rfl ?_ ?_ | refine acallH_anyx (sameTree_c tr tr hok.1 hok.1) ?_ ?_); (focus ((try simp (disch := omega) only [go_sem, wrap_n, ATxn.rgetD]) <;> (try omega) <;> fail)))) | ((first | (with_reducible refine aunder_i ?_ ?_ <;> intro hg) | with_reducible intro hg) <;> (first | (exfalso; simp at hg; done) | (have hg' := hg; (try simp only [hcs, beq_iff_eq, ge_iff_le, gt_iff_lt] at hg'); (try simp only [hg]))))) <;> (try simp (disch := omega) only [go_sem, wrap_n, ATxn.rgetD]) <;> (repeat' with_reducible refine And.intro ?_ ?_) <;> (try (with_reducible refine hK _ ?_; clear hK K)))
| omega)
  all_goals first
    | (refine ⟨(k + 1, a), ⟨by simp only; omega, hok2⟩, by simp only; omega, ?_⟩; (refine SImp.frame [0, 1] rfl (by intro k hk; first | (simp at hk <;> (simp; omega)) | (simp only [List.mem_cons, List.not_mem_nil, or_false] at hk; simp only [List.length_cons, List.length_nil]; omega)) (by decide) (fun k hk => by first | omega | (rcases k with _ | _ | _ | _ | _ | _ | _ | _ | k <;> first | rfl | omega)) ?_ ?_ <;> simp (disch := omega) only [go_sem, wrap_n, Int.natCast_add, true_and] <;> (try rfl)); done)
    | (refine ⟨(k + 1, tr), ⟨by simp only; omega, hok⟩, by simp only; omega, ?_⟩; (refine SImp.frame [0, 1] rfl (by intro k hk; first | (simp at hk <;> (simp; omega)) | (simp only [List.mem_cons, List.not_mem_nil, or_false] at hk; simp only [List.length_cons, List.length_nil]; omega)) (by decide) (fun k hk => by first | omega | (rcases k with _ | _ | _ | _ | _ | _ | _ | _ | k <;> first | rfl | omega)) ?_ ?_ <;> simp (disch := omega) only [go_sem, wrap_n, Int.natCast_add, true_and] <;> (try rfl)); done)
    | ((refine zF rfl ?_ ?_ ?_ ?_; (iterate 3 (focus ((try simp (disch := omega) only [go_sem, wrap_n]) <;> (try omega) <;> fail))); (try simp (disch := omega) only [go_sem, wrap_n, I, B, S, inj, List.cons.injEq, and_true, true_and, and_self])); done)
theorem treePlays_u (dss : List (List DV)) (h : typeds T 6 Tryd.f11.params.toList dss) (hs : ∀ cs, cs ∈ dss → ∀ c, c ∈ cs → SmallD 1048576 c) : acall Tryd.prog [] 11 (aargs T Tryd.f11.params.toList dss) (fun v _ => v = B true) := by
  rw [Tryd.params11] at h ⊢
  simp only [List.toList_toArray, typeds] at h
  obtain ⟨c0, d0, rfl, h0, rfl⟩ := h
  have s0 := hs c0 (by simp)
  obtain ⟨l, rfl, v_l, w_l⟩ := ty_sl (m := 5) (e := 26) (sz := 7) (by_ := 72) (f := ATxn.row) (wf := ATxn.wf) (by simp only [T_27, ty27]) (by simp only [T_26, ty26]) (by simp only [T_26, ty26]) (fun r hr => ATxn_typed (m := 3) hr) h0
  have u_l := s0
  simp only [List.toList_toArray, aargs, aarg, TI.agg_mk, T_27, ty27]
  exact (treePlays_w l v_l w_l (fun x hx => ((u_l (DV.sl 7 (l.map ATxn.row)) (by simp)).rows.2 _ (List.mem_map_of_mem hx) (DV.str x.path) (by simp [ATxn.row])).len)).mono fun _ _ h => h.1
end Go.Proofs.YtmpfhalheaeibaaDoor
