/- A part of what StoreCommits leans on: texts of this claim, one behind the other. No condition. -/
import Derived.Test.YtmpfhalheaeibaaGreatDoorStoreCommitsK11
namespace Go.Proofs.YtmpfhalheaeibaaGreatDoor
set_option linter.unusedVariables false
set_option linter.unusedSimpArgs false
open Go Go.RowKit
set_option maxRecDepth 100000
set_option linter.unusedSimpArgs false
def lessN (l : List ANode) (key : List UInt8) : List ANode := l.filter fun f => decide (f.path < key)
def moreN (l : List ANode) (key : List UInt8) : List ANode := l.filter fun f => decide (key < f.path)
theorem lessN_snoc (l : List ANode) (key : List UInt8) (k : Nat) (h : k < l.length) : lessN (l.take (k + 1)) key = if (l.getD k default).path < key then lessN (l.take k) key ++ [l.getD k default] else lessN (l.take k) key := by
  unfold lessN
  rw [take_snoc l k h, List.filter_append]
  by_cases e : (l.getD k default).path < key
  · rw [if_pos e, List.filter_cons_of_pos (by simpa using e)]; rfl
  · rw [if_neg e, List.filter_cons_of_neg (by simpa using e), List.filter_nil, List.append_nil]
theorem moreN_snoc (l : List ANode) (key : List UInt8) (k : Nat) (h : k < l.length) : moreN (l.take (k + 1)) key = if key < (l.getD k default).path then moreN (l.take k) key ++ [l.getD k default] else moreN (l.take k) key := by
  unfold moreN
  rw [take_snoc l k h, List.filter_append]
  by_cases e : key < (l.getD k default).path
  · rw [if_pos e, List.filter_cons_of_pos (by simpa using e)]; rfl
  · rw [if_neg e, List.filter_cons_of_neg (by simpa using e), List.filter_nil, List.append_nil]
theorem less_more {l : List ANode} {key : List UInt8} (hr : Rises (pathsN l)) (h : ¬ key ∈ pathsN l) (n : ANode) : lessN l key ++ n :: moreN l key = l.insertIdx (place (pathsN l) key) n := by
  have hp := place_le (pathsN l) key
  have lo : ∀ j, j < place (pathsN l) key → (l.getD j default).path < key := fun j hj => by
    have := List.not_of_lt_findIdx (p := fun x => !decide (x < key)) (xs := pathsN l) hj
    rw [← getD_map ANode.path l j default]
    show (pathsN l).getD j [] < key
    rw [List.getD_eq_getElem?_getD, List.getElem?_eq_getElem (by omega)]
    simpa using this
  have hi : ∀ j, place (pathsN l) key ≤ j → j < l.length → key < (l.getD j default).path := fun j h1 h2 => by
    have a : ¬ (pathsN l).getD (place (pathsN l) key) [] < key := by
      have := List.findIdx_getElem (p := fun x => !decide (x < key)) (xs := pathsN l) (w := (by rw [pathsN_len]; unfold place at h1; omega))
      rw [Bool.not_eq_true', decide_eq_false_iff_not] at this
      rw [List.getD_eq_getElem?_getD, List.getElem?_eq_getElem (by rw [pathsN_len]; omega)]
      exact this
    have b : key < (pathsN l).getD (place (pathsN l) key) [] := lt_of_not a fun e => h (by rw [← e]; exact mem_getD _ _ (by rw [pathsN_len]; omega))
    rw [← getD_map ANode.path l j default]
    show key < (pathsN l).getD j []
    by_cases e : place (pathsN l) key = j
    · rw [← e]; exact b
    · exact List.lt_trans b (rises_lt hr (by omega) (by rw [pathsN_len]; exact h2))
  rw [pathsN_len] at hp
  generalize place (pathsN l) key = p at *
  have gd (j : Nat) (hj : j < l.length) : l.getD j default = l[j] := by rw [List.getD_eq_getElem?_getD, List.getElem?_eq_getElem hj]; rfl
  have e1 : lessN l key = l.take p := by
    unfold lessN
    conv => lhs; rw [← List.take_append_drop p l]
    rw [List.filter_append]
    have a1 : (l.take p).filter (fun f => decide (f.path < key)) = l.take p := by
      rw [List.filter_eq_self]
      intro f hf
      obtain ⟨j, hj, rfl⟩ := List.mem_take_iff_getElem.1 hf
      have := lo j (by omega)
      rw [gd j (by omega)] at this; simpa using this
    have a2 : (l.drop p).filter (fun f => decide (f.path < key)) = [] := by
      rw [List.filter_eq_nil_iff]
      intro f hf
      obtain ⟨j, hj, rfl⟩ := List.mem_drop_iff_getElem.1 hf
      have := hi (p + j) (by omega) (by omega)
      rw [gd _ (by omega)] at this
      rw [decide_eq_true_eq]
      exact fun h2 => List.lt_irrefl _ (List.lt_trans this h2)
    rw [a1, a2, List.append_nil]
  have e2 : moreN l key = l.drop p := by
    unfold moreN
    conv => lhs; rw [← List.take_append_drop p l]
    rw [List.filter_append]
    have a1 : (l.drop p).filter (fun f => decide (key < f.path)) = l.drop p := by
      rw [List.filter_eq_self]
      intro f hf
      obtain ⟨j, hj, rfl⟩ := List.mem_drop_iff_getElem.1 hf
      have := hi (p + j) (by omega) (by omega)
      rw [gd _ (by omega)] at this; simpa using this
    have a2 : (l.take p).filter (fun f => decide (key < f.path)) = [] := by
      rw [List.filter_eq_nil_iff]
      intro f hf
      obtain ⟨j, hj, rfl⟩ := List.mem_take_iff_getElem.1 hf
      have := lo j (by omega)
      rw [gd _ (by omega)] at this
      rw [decide_eq_true_eq]
      exact fun h2 => List.lt_irrefl _ (List.lt_trans this h2)
    rw [a1, a2, List.nil_append]
  rw [e1, e2, ins_eq _ _ _ hp]
theorem lacks_ok {t : ATree} {x : ATxn} (h : wrongT t x = 0) (o : x.op = 3) : (t.nodes.getD (place (pathsN t.nodes) (dirP x.path)) default).stat.owner = 0 ∧ (x.owner = 0 ∨ x.owner = x.session) := by
  obtain ⟨g1, g2, g3, g4, g5, g6, g7, g8⟩ := wrong_ok h
  obtain ⟨m1, m2, m3⟩ := g6 o
  unfold wrongT at h
  rw [if_neg (by simp [g1]), if_neg (fun h => h g2), if_neg (by omega), if_neg (by omega), if_neg (fun h => h (g5 (by omega))), if_pos o] at h
  unfold lacksT at h
  rw [if_neg (fun h => m1 (getT_zero.1 h)), if_neg (fun h => h (getT_zero.2 m2))] at h
  have e : (getT t (splitP x.path).1.1).1 = t.nodes.getD (place (pathsN t.nodes) (dirP x.path)) default := by show (getT t (dirP x.path)).1 = _; unfold getT; rw [if_pos m2]; rfl
  rw [e] at h
  split at h
  · cases h
  · rename_i q1
    split at h
    · cases h
    · rename_i q2; exact ⟨by omega, by omega⟩
set_option maxHeartbeats 8000000 in
theorem ref_apply3_c (t : ATree) (x : ATxn) (hw : t.wf) (hps : ∀ n, n ∈ t.nodes → n.path.length ≤ 1048576) (hz : okI x.zxid) (hp : x.path.length ≤ 1048576) (hd : okS x.data) (h0 : wrongT t x = 0) (o3 : x.op = 3) : acall Tryz.prog [] 15 [t.av, x.av] (ret (.tup [(applyT t x).1.av, .d (.sl 2 ((applyT t x).2.1.map AEvent.row)), I (applyT t x).2.2])) := by
  obtain ⟨g1, g2, g3, g4, g5, g6, g7, g8⟩ := wrong_ok h0
  obtain ⟨h1, h2⟩ : t.nodes.length * 88 ≤ 140737488351232 ∧ t.sessions.length * 8 ≤ 140737488351232 := ⟨hw.2.1.1, hw.2.2.1⟩
  have hgc := (ref_tgood_c t hw hps).re (congrArg B g1)
  have hxc := (ref_wgood_c x hz hp hd).re (congrArg I g2)
  have hcp := copyTO_c t h1 h2
  have h400 : t.nodes.length ≤ 400 := (good_root g1).2.1
  have hr : Rises (pathsN t.nodes) := good_rises g1
  have hsp := ref_split_c x.path hp
  have e1 : (splitP x.path).1.1 = dirP x.path := rfl
  have g3' : ¬ x.zxid ≤ t.zxid := by omega
  have hoc := (isOpen_c t x.session h2).re (congrArg B (decide_eq_true (g5 (by omega))))
  obtain ⟨m1, m2, hlt⟩ := g6 o3
  have hn1 := nodeO_c t.zxid t.nodes t.sessions x.path h1 hr m1
  have hn2 := nodeM_c t.zxid t.nodes t.sessions (dirP x.path) h1 hr m2
  have hq0 := (zc hr m2).1
  rw [pathsN_len] at hq0
  have hlk := lacks_ok h0 o3
  obtain ⟨k1, k2⟩ := hlk
  refine zi tabOk Tryz.func15 rfl (by kernel_rfl) (by simp [Tryz.ntmps15]) ?_; simp only [Tryz.ntmps15, Tryz.results15, List.toList_toArray, apar, List.length_nil, List.length_cons, Nat.reduceAdd]
  (repeat' first
| (with_reducible refine AR.f ?_)
| refine zb (by decide) ?_
| (with_reducible refine AWP.cond rfl ?_ ?_ <;> intro hc <;> (try simp only [hcs, beq_iff_eq, ge_iff_le, gt_iff_lt] at hc))
| (refine zh fun Kk hKk => (zi tabOk Tryz.func38 rfl (by kernel_rfl) (by simp [Tryz.ntmps38]) ?_); simp only [Tryz.ntmps38, Tryz.results38, List.toList_toArray, apar, List.length_nil, List.length_cons, Nat.reduceAdd, List.length_append, List.length_set, go_sem])
| ((first | ((first | (with_reducible first | refine zR ?_ | refine zQ (by decide +kernel) ?_ | refine zD (by decide +kernel) ?_ | refine zE (by decide +kernel) ?_ | refine zG (by decide +kernel) ?_)); intro K hK) | ((first | refine zA hgc ?_ ?_ ?_ ?_ ?_ | refine zA hxc ?_ ?_ ?_ ?_ ?_ | refine zA hoc ?_ ?_ ?_ ?_ ?_ | refine zA hn1 ?_ ?_ ?_ ?_ ?_ | refine zA hn2 ?_ ?_ ?_ ?_ ?_ | refine zA hsp ?_ ?_ ?_ ?_ ?_ | refine zA hcp ?_ ?_ ?_ ?_ ?_); (focus exact rfl); (focus exact rfl); iterate 2 (focus ((try simp (disch := omega) only [go_sem, wn, o3, e1, g3']) <;> (try omega) <;> fail))) | ((first | refine zN hgc rfl ?_ ?_ | refine zN hxc rfl ?_ ?_ | refine zN hoc rfl ?_ ?_ | refine zN hn1 rfl ?_ ?_ | refine zN hn2 rfl ?_ ?_ | refine zN hsp rfl ?_ ?_ | refine zN hcp rfl ?_ ?_); (focus ((try simp (disch := omega) only [go_sem, wn, o3, e1, g3']) <;> (try omega) <;> fail))) | (first | ((first | refine zX hgc rfl ?_ ?_ | refine zy hgc ?_ ?_); (focus ((try simp (disch := omega) only [go_sem, wn, o3, e1, g3']) <;> (try omega) <;> fail))) | ((first | refine zX hxc rfl ?_ ?_ | refine zy hxc ?_ ?_); (focus ((try simp (disch := omega) only [go_sem, wn, o3, e1, g3']) <;> (try omega) <;> fail))) | ((first | refine zX hoc rfl ?_ ?_ | refine zy hoc ?_ ?_); (focus ((try simp (disch := omega) only [go_sem, wn, o3, e1, g3']) <;> (try omega) <;> fail))) | ((first | refine zX hn1 rfl ?_ ?_ | refine zy hn1 ?_ ?_); (focus ((try simp (disch := omega) only [go_sem, wn, o3, e1, g3']) <;> (try omega) <;> fail))) | ((first | refine zX hn2 rfl ?_ ?_ | refine zy hn2 ?_ ?_); (focus ((try simp (disch := omega) only [go_sem, wn, o3, e1, g3']) <;> (try omega) <;> fail))) | ((first | refine zX hsp rfl ?_ ?_ | refine zy hsp ?_ ?_); (focus ((try simp (disch := omega) only [go_sem, wn, o3, e1, g3']) <;> (try omega) <;> fail))) | ((first | refine zX hcp rfl ?_ ?_ | refine zy hcp ?_ ?_); (focus ((try simp (disch := omega) only [go_sem, wn, o3, e1, g3']) <;> (try omega) <;> fail)))) | (refine zw (v := ?_) hKk (by first | exact .inl rfl | exact .inr rfl) ?_ ?_ ?_; rotate_left; (focus ((try simp (disch := omega) only [go_sem, wn, o3, e1, g3']) <;> (try omega) <;> fail)); (focus ((try simp (disch := omega) only [go_sem, wn, o3, e1, g3']) <;> (first | done | exact rfl))); clear hKk Kk) | ((first | (with_reducible refine zu ?_ ?_ <;> intro hg) | with_reducible intro hg) <;> (first | (exfalso; simp at hg; done) | (have hg' := hg; (try simp only [hcs, beq_iff_eq, ge_iff_le, gt_iff_lt] at hg'); (try simp only [hg]))))) <;> (try simp (disch := omega) only [go_sem, wn, o3, e1, g3']) <;> (repeat' with_reducible refine And.intro ?_ ?_) <;> (try (with_reducible refine hK _ ?_; clear hK K)))
| omega)
  refine AWP.weaken (SImp.nilOwn 30 9 rfl) ?_
  simp only [go_sem]
  refine AWP.loopB (ι := Nat) (fun k => k ≤ t.nodes.length) (fun k => t.nodes.length - k) [3, 4, 7, 15, 16, 17, 29, 319, 320] (fun k => [(321, I k), (30, .osl 9 9 0 (lessN (t.nodes.take k) x.path).length)]) (fun k => [.cells [.d (.int .i64 t.zxid), .d (.sl 9 (t.nodes.map ANode.row)), .d (.sl 1 (t.sessions.map irow))], .cells [I x.zxid, I 3, I x.session, S x.path, S x.data, I x.version, I x.owner], .cells [I 0, .d (.sc (.slice none 0 0)), .d (.sc (.slice none 0 0))], .rows 9 (t.nodes.map ANode.row), .rows 1 (t.sessions.map irow), .cells [I x.zxid, .osl 3 9 0 t.nodes.length, .osl 4 1 0 t.sessions.length], .cells [.d (.sc (.slice none 0 0))], .cells [.clo 44 [] [.ptr 5 0, .ptr 1 0, .ptr 6 0]], .cells [S x.path, S x.data, I x.zxid, I x.zxid, I x.zxid, I 0, I 0, I x.owner, I 0], .rows 9 ((lessN (t.nodes.take k) x.path).map ANode.row)]) 0 ?_ ?_ ?_
  · omega
  · simp only [go_sem, lessN, List.filter_nil]; (refine SImp.same ?_; simp (disch := omega) only [go_sem, wn, Int.natCast_add])
  intro k hk
  have hol : (lessN (t.nodes.take k) x.path).length ≤ k := Nat.le_trans (List.length_filter_le _ _) (List.length_take_le _ _)
  simp only [go_sem]
  by_cases hkk : k < t.nodes.length
  · (repeat' first
  | (with_reducible refine AR.f ?_)
  | refine zb (by decide) ?_
  | (with_reducible refine AWP.cond rfl ?_ ?_ <;> intro hc <;> (try simp only [hcs, beq_iff_eq, ge_iff_le, gt_iff_lt] at hc))
  | ((first | ((first | (with_reducible first | refine zR ?_ | refine zQ (by decide +kernel) ?_ | refine zD (by decide +kernel) ?_ | refine zE (by decide +kernel) ?_ | refine zG (by decide +kernel) ?_)); intro K hK) | ((first | (with_reducible refine zu ?_ ?_ <;> intro hg) | with_reducible intro hg) <;> (first | (exfalso; simp at hg; done) | (have hg' := hg; (try simp only [hcs, beq_iff_eq, ge_iff_le, gt_iff_lt] at hg'); (try simp only [hg]))))) <;> (try simp (disch := omega) only [go_sem, wn, ANode.rgetD, ANode.rsnoc, zl, strLt_eq]) <;> (repeat' with_reducible refine And.intro ?_ ?_) <;> (try (with_reducible refine hK _ ?_; clear hK K)))
  | omega)
    · refine ⟨k + 1, by omega, by omega, ?_⟩
      rw [lessN_snoc _ _ _ hkk, if_pos hc]
      (refine SImp.frame [0, 1, 2, 3, 4, 5, 6, 7, 8, 12] rfl (by intro k hk; first | (simp at hk <;> (simp; omega)) | (simp only [List.mem_cons, List.not_mem_nil, or_false] at hk; simp only [List.length_cons, List.length_nil]; omega)) (by decide) (fun k hk => by first | omega | (rcases k with _ | _ | _ | _ | _ | _ | _ | _ | k <;> first | rfl | omega)) ?_ ?_ <;> simp (disch := omega) only [go_sem, wn, Int.natCast_add, List.length_append] <;> (try rfl))
    · refine ⟨k + 1, by omega, by omega, ?_⟩
      rw [lessN_snoc _ _ _ hkk, if_neg (by simpa using hc)]
      (refine SImp.frame [0, 1, 2, 3, 4, 5, 6, 7, 8, 9] rfl (by intro k hk; first | (simp at hk <;> (simp; omega)) | (simp only [List.mem_cons, List.not_mem_nil, or_false] at hk; simp only [List.length_cons, List.length_nil]; omega)) (by decide) (fun k hk => by first | omega | (rcases k with _ | _ | _ | _ | _ | _ | _ | _ | k <;> first | rfl | omega)) ?_ ?_ <;> simp (disch := omega) only [go_sem, wn, Int.natCast_add, true_and] <;> (try rfl))
  obtain rfl : k = t.nodes.length := by omega
  rw [List.take_length] at hol ⊢
  have hlm := less_more hr m1 (mkN x)
  generalize lessN t.nodes x.path = l1 at hol hlm ⊢
  (repeat' first
| (with_reducible refine AR.f ?_)
| refine zb (by decide) ?_
| (with_reducible refine AWP.cond rfl ?_ ?_ <;> intro hc <;> (try simp only [hcs, beq_iff_eq, ge_iff_le, gt_iff_lt] at hc))
| ((first | ((first | (with_reducible first | refine zR ?_ | refine zQ (by decide +kernel) ?_ | refine zD (by decide +kernel) ?_ | refine zE (by decide +kernel) ?_ | refine zG (by decide +kernel) ?_)); intro K hK) | ((first | (with_reducible refine zu ?_ ?_ <;> intro hg) | with_reducible intro hg) <;> (first | (exfalso; simp at hg; done) | (have hg' := hg; (try simp only [hcs, beq_iff_eq, ge_iff_le, gt_iff_lt] at hg'); (try simp only [hg]))))) <;> (try simp (disch := omega) only [go_sem, wn, ANode.rsnoc, zl]) <;> (repeat' with_reducible refine And.intro ?_ ?_) <;> (try (with_reducible refine hK _ ?_; clear hK K)))
| omega)
  refine AWP.loopB (ι := Nat) (fun k => k ≤ t.nodes.length) (fun k => t.nodes.length - k) [3, 4, 7, 15, 16, 17, 340, 341] (fun k => [(342, I k), (30, .osl 11 9 0 (l1 ++ (⟨x.path, x.data, ⟨x.zxid, x.zxid, x.zxid, 0, 0, x.owner, 0⟩⟩ : ANode) :: moreN (t.nodes.take k) x.path).length)]) (fun k => [.cells [.d (.int .i64 t.zxid), .d (.sl 9 (t.nodes.map ANode.row)), .d (.sl 1 (t.sessions.map irow))], .cells [I x.zxid, I 3, I x.session, S x.path, S x.data, I x.version, I x.owner], .cells [I 0, .d (.sc (.slice none 0 0)), .d (.sc (.slice none 0 0))], .rows 9 (t.nodes.map ANode.row), .rows 1 (t.sessions.map irow), .cells [I x.zxid, .osl 3 9 0 t.nodes.length, .osl 4 1 0 t.sessions.length], .cells [.d (.sc (.slice none 0 0))], .cells [.clo 44 [] [.ptr 5 0, .ptr 1 0, .ptr 6 0]], .cells [S x.path, S x.data, I x.zxid, I x.zxid, I x.zxid, I 0, I 0, I x.owner, I 0], .dead, .rows 9 [[.str x.path, .str x.data, .int .i64 x.zxid, .int .i64 x.zxid, .int .i64 x.zxid, .int .i64 0, .int .i64 0, .int .i64 x.owner, .int .i64 0]], .rows 9 ((l1 ++ (⟨x.path, x.data, ⟨x.zxid, x.zxid, x.zxid, 0, 0, x.owner, 0⟩⟩ : ANode) :: moreN (t.nodes.take k) x.path).map ANode.row)]) 0 ?_ ?_ ?_
  · omega
  · simp only [go_sem, moreN, List.filter_nil, List.length_append, List.length_cons, List.length_nil]; (refine SImp.same ?_; simp (disch := omega) only [go_sem, wn, Int.natCast_add])
  intro k hk
  have hol2 : (moreN (t.nodes.take k) x.path).length ≤ k := Nat.le_trans (List.length_filter_le _ _) (List.length_take_le _ _)
  have hLl : (l1 ++ (⟨x.path, x.data, ⟨x.zxid, x.zxid, x.zxid, 0, 0, x.owner, 0⟩⟩ : ANode) :: moreN (t.nodes.take k) x.path).length ≤ 1000 := by rw [List.length_append, List.length_cons]; omega
  generalize hL : (l1 ++ (⟨x.path, x.data, ⟨x.zxid, x.zxid, x.zxid, 0, 0, x.owner, 0⟩⟩ : ANode) :: moreN (t.nodes.take k) x.path) = L at hLl ⊢
  simp only [go_sem]
  by_cases hkk : k < t.nodes.length
  · (repeat' first
  | (with_reducible refine AR.f ?_)
  | refine zb (by decide) ?_
  | (with_reducible refine AWP.cond rfl ?_ ?_ <;> intro hc <;> (try simp only [hcs, beq_iff_eq, ge_iff_le, gt_iff_lt] at hc))
  | ((first | ((first | (with_reducible first | refine zR ?_ | refine zQ (by decide +kernel) ?_ | refine zD (by decide +kernel) ?_ | refine zE (by decide +kernel) ?_ | refine zG (by decide +kernel) ?_)); intro K hK) | ((first | (with_reducible refine zu ?_ ?_ <;> intro hg) | with_reducible intro hg) <;> (first | (exfalso; simp at hg; done) | (have hg' := hg; (try simp only [hcs, beq_iff_eq, ge_iff_le, gt_iff_lt] at hg'); (try simp only [hg]))))) <;> (try simp (disch := omega) only [go_sem, wn, ANode.rgetD, ANode.rsnoc, zl, strLt_eq]) <;> (repeat' with_reducible refine And.intro ?_ ?_) <;> (try (with_reducible refine hK _ ?_; clear hK K)))
  | omega)
    · refine ⟨k + 1, by omega, by omega, ?_⟩
      have hn : l1 ++ (⟨x.path, x.data, ⟨x.zxid, x.zxid, x.zxid, 0, 0, x.owner, 0⟩⟩ : ANode) :: moreN (t.nodes.take (k + 1)) x.path = L ++ [t.nodes.getD k default] := by rw [moreN_snoc _ _ _ hkk, if_pos (lt_of_not hc.1 hc.2), ← hL]; simp
      have hnl : l1.length + ((moreN (t.nodes.take (k + 1)) x.path).length + 1) = L.length + 1 := by have := congrArg List.length hn; simpa using this
      rw [hn]
      (refine SImp.frame [0, 1, 2, 3, 4, 5, 6, 7, 8, 9, 10, 14] rfl (by intro k hk; first | (simp at hk <;> (simp; omega)) | (simp only [List.mem_cons, List.not_mem_nil, or_false] at hk; simp only [List.length_cons, List.length_nil]; omega)) (by decide) (fun k hk => by first | omega | (rcases k with _ | _ | _ | _ | _ | _ | _ | _ | k <;> first | rfl | omega)) ?_ ?_ <;> simp (disch := omega) only [go_sem, wn, Int.natCast_add, List.length_append, hnl] <;> (try rfl))
    · refine ⟨k + 1, by omega, by omega, ?_⟩
      have hnc : ¬ x.path < (t.nodes.getD k default).path := fun h => by
        rcases hc with h2 | h2
        · exact List.lt_irrefl _ (List.lt_trans h h2)
        · rw [h2] at h; exact List.lt_irrefl _ h
      rw [moreN_snoc _ _ _ hkk, if_neg hnc, hL]
      have hnl : l1.length + ((moreN (t.nodes.take k) x.path).length + 1) = L.length := by have := congrArg List.length hL; simpa using this
      (refine SImp.frame [0, 1, 2, 3, 4, 5, 6, 7, 8, 9, 10, 11] rfl (by intro k hk; first | (simp at hk <;> (simp; omega)) | (simp only [List.mem_cons, List.not_mem_nil, or_false] at hk; simp only [List.length_cons, List.length_nil]; omega)) (by decide) (fun k hk => by first | omega | (rcases k with _ | _ | _ | _ | _ | _ | _ | _ | k <;> first | rfl | omega)) ?_ ?_ <;> simp (disch := omega) only [go_sem, wn, Int.natCast_add, hnl] <;> (try rfl))
  obtain rfl : k = t.nodes.length := by omega
  rw [List.take_length] at hL hol2
  have hLi : t.nodes.insertIdx (place (pathsN t.nodes) x.path) (mkN x) = L := by rw [← hL, ← hlm]; rfl
  clear hL hlm
  have hpl2 : place (pathsN t.nodes) x.path ≤ t.nodes.length := by have := place_le (pathsN t.nodes) x.path; rwa [pathsN_len] at this
  have hdone : (doneT t x) = (⟨x.zxid, addN t.nodes x, t.sessions⟩, [⟨1, x.path⟩, ⟨4, dirP x.path⟩]) := by unfold doneT; rw [if_neg (by omega), if_neg (by omega), if_pos o3]
  have hl1 : L.length = t.nodes.length + 1 := by rw [← hLi, ins_len _ _ _ hpl2]
  have hp1 : pathsN L = (pathsN t.nodes).insertIdx (place (pathsN t.nodes) x.path) x.path := by rw [← hLi, pathsN_ins]; rfl
  have hr1 : Rises (pathsN L) := by rw [hp1]; exact rises_ins hr m1
  have hm1 : dirP x.path ∈ pathsN L := by rw [hp1, mem_ins (by rw [pathsN_len]; exact hpl2)]; exact .inr m2
  have hq := (zc hr1 hm1).1
  rw [pathsN_len] at hq
  have hadd : addN t.nodes x = L.set (place (pathsN L) (dirP x.path)) (kidF 1 x.zxid (L.getD (place (pathsN L) (dirP x.path)) default)) := by unfold addN kidN; rw [hLi, if_pos hm1]
  have hf2 := nodeM_c x.zxid L t.sessions (dirP x.path) (by omega) hr1 hm1
  rw [hadd] at hdone
  generalize hn2' : L.set (place (pathsN L) (dirP x.path)) (kidF 1 x.zxid (L.getD (place (pathsN L) (dirP x.path)) default)) = ns2 at hdone
  have hl2 : ns2.length = L.length := by rw [← hn2', List.length_set]
  unfold kidF at hn2'
  have tk2 : List.take L.length (ns2.map ANode.row) = ns2.map ANode.row := List.take_of_length_le (by rw [List.length_map]; omega)
  (repeat' first
| (with_reducible refine AR.f ?_)
| refine zb (by decide) ?_
| (with_reducible refine AWP.cond rfl ?_ ?_ <;> intro hc <;> (try simp only [hcs, beq_iff_eq, ge_iff_le, gt_iff_lt] at hc))
| (refine zh fun Kk hKk => (zi tabOk Tryz.func44 rfl (by kernel_rfl) (by simp [Tryz.ntmps44]) ?_); simp only [Tryz.ntmps44, Tryz.results44, List.toList_toArray, apar, List.length_nil, List.length_cons, Nat.reduceAdd, List.length_append, List.length_set, go_sem])
| ((first | ((first | refine zP ((Plan.takes [0, 2, 3] (.fork 1 (Plan.takes [4, 5, 6, 7] .done) 4 (Plan.takes [1, 5, 6, 7] .done)))) (by decide +kernel) ?_ | refine zP ((Plan.takes [0, 1, 2, 3, 4, 5, 6, 7, 8, 9, 10, 11, 12, 13, 14, 16, 17] (.fork 15 (Plan.takes [18, 19, 20, 21, 22, 23, 24] .done) 18 (Plan.takes [19, 20] (.fork 15 (Plan.takes [21, 22, 23, 24] .done) 21 (Plan.takes [15, 22, 23, 24] .done)))))) (by decide +kernel) ?_ | (with_reducible first | refine zR ?_ | refine zQ (by decide +kernel) ?_ | refine zD (by decide +kernel) ?_ | refine zE (by decide +kernel) ?_ | refine zG (by decide +kernel) ?_)); intro K hK) | ((first | refine zA hsp ?_ ?_ ?_ ?_ ?_ | refine zA hf2 ?_ ?_ ?_ ?_ ?_); (focus exact rfl); (focus exact rfl); iterate 2 (focus ((try simp (disch := omega) only [go_sem, wn, e1, hn2', hl2, tk2, ANode.rgetD, zg, ANode.rset, zm, List.set_set, zl]) <;> (try omega) <;> fail))) | ((first | refine zN hsp rfl ?_ ?_ | refine zN hf2 rfl ?_ ?_); (focus ((try simp (disch := omega) only [go_sem, wn, e1, hn2', hl2, tk2, ANode.rgetD, zg, ANode.rset, zm, List.set_set, zl]) <;> (try omega) <;> fail))) | (first | ((first | refine zX hsp rfl ?_ ?_ | refine zy hsp ?_ ?_); (focus ((try simp (disch := omega) only [go_sem, wn, e1, hn2', hl2, tk2, ANode.rgetD, zg, ANode.rset, zm, List.set_set, zl]) <;> (try omega) <;> fail))) | ((first | refine zX hf2 rfl ?_ ?_ | refine zy hf2 ?_ ?_); (focus ((try simp (disch := omega) only [go_sem, wn, e1, hn2', hl2, tk2, ANode.rgetD, zg, ANode.rset, zm, List.set_set, zl]) <;> (try omega) <;> fail)))) | (refine zw (v := ?_) hKk (by first | exact .inl rfl | exact .inr rfl) ?_ ?_ ?_; rotate_left; (focus ((try simp (disch := omega) only [go_sem, wn, e1, hn2', hl2, tk2, ANode.rgetD, zg, ANode.rset, zm, List.set_set, zl]) <;> (try omega) <;> fail)); (focus ((try simp (disch := omega) only [go_sem, wn, e1, hn2', hl2, tk2, ANode.rgetD, zg, ANode.rset, zm, List.set_set, zl]) <;> (first | done | exact rfl))); clear hKk Kk) | ((first | (with_reducible refine zu ?_ ?_ <;> intro hg) | with_reducible intro hg) <;> (first | (exfalso; simp at hg; done) | (have hg' := hg; (try simp only [hcs, beq_iff_eq, ge_iff_le, gt_iff_lt] at hg'); (try simp only [hg]))))) <;> (try simp (disch := omega) only [go_sem, wn, e1, hn2', hl2, tk2, ANode.rgetD, zg, ANode.rset, zm, List.set_set, zl]) <;> (repeat' with_reducible refine And.intro ?_ ?_) <;> (try (with_reducible refine hK _ ?_; clear hK K)))
| omega)
  all_goals
    refine AWP.loopB (ι := Nat) (fun k => k ≤ L.length ∧ ∀ j, j < k → bigN (ns2.getD j default) = false) (fun k => L.length - k) [4, 7, 15, 16, 404, 405] (fun k => [(406, I k)]) (fun k => [.cells [.d (.int .i64 t.zxid), .d (.sl 9 (t.nodes.map ANode.row)), .d (.sl 1 (t.sessions.map irow))], .cells [I x.zxid, I 3, I x.session, S x.path, S x.data, I x.version, I x.owner], .cells [I 0, .d (.sc (.slice none 0 0)), .d (.sc (.slice none 0 0))], .rows 9 (t.nodes.map ANode.row), .rows 1 (t.sessions.map irow), .cells [I x.zxid, .osl 11 9 0 L.length, .osl 4 1 0 t.sessions.length], .cells [.osl 15 2 0 2], .cells [.clo 44 [] [.ptr 5 0, .ptr 1 0, .ptr 6 0]], .cells [S x.path, S x.data, I x.zxid, I x.zxid, I x.zxid, I 0, I 0, I x.owner, I 0], .dead, .rows 9 [[.str x.path, .str x.data, .int .i64 x.zxid, .int .i64 x.zxid, .int .i64 x.zxid, .int .i64 0, .int .i64 0, .int .i64 x.owner, .int .i64 0]], .rows 9 (ns2.map ANode.row), .rows 2 [[.int .i64 1, .str x.path]], .dead, .rows 2 [[.int .i64 4, .str (dirP x.path)]], .rows 2 [[.int .i64 1, .str x.path], [.int .i64 4, .str (dirP x.path)]]]) 0 ?_ ?_ ?_
    · exact ⟨by omega, fun j hj => by omega⟩
    · simp only [go_sem]; (refine SImp.same ?_; simp (disch := omega) only [go_sem, wn, Int.natCast_add])
    intro k ⟨hk, hk2⟩
    simp only [go_sem]
    (repeat' first
  | (with_reducible refine AR.f ?_)
  | refine zb (by decide) ?_
  | (with_reducible refine AWP.cond rfl ?_ ?_ <;> intro hc <;> (try simp only [hcs, beq_iff_eq, ge_iff_le, gt_iff_lt] at hc))
  | (refine zh fun Kk hKk => (zi tabOk Tryz.func38 rfl (by kernel_rfl) (by simp [Tryz.ntmps38]) ?_); simp only [Tryz.ntmps38, Tryz.results38, List.toList_toArray, apar, List.length_nil, List.length_cons, Nat.reduceAdd, List.length_append, List.length_set, go_sem])
  | ((first | ((first | refine zP ((Plan.takes [0] (.fork 1 (Plan.takes [2, 3, 4] .done) 2 (Plan.takes [1, 3, 4] .done)))) (by decide +kernel) ?_ | (with_reducible first | refine zR ?_ | refine zQ (by decide +kernel) ?_ | refine zD (by decide +kernel) ?_ | refine zE (by decide +kernel) ?_ | refine zG (by decide +kernel) ?_)); intro K hK) | (refine zw (v := ?_) hKk (by first | exact .inl rfl | exact .inr rfl) ?_ ?_ ?_; rotate_left; (focus ((try simp (disch := omega) only [go_sem, wn, ANode.rgetD]) <;> (try omega) <;> fail)); (focus ((try simp (disch := omega) only [go_sem, wn, ANode.rgetD]) <;> (first | done | exact rfl))); clear hKk Kk) | ((first | (with_reducible refine zu ?_ ?_ <;> intro hg) | with_reducible intro hg) <;> (first | (exfalso; simp at hg; done) | (have hg' := hg; (try simp only [hcs, beq_iff_eq, ge_iff_le, gt_iff_lt] at hg'); (try simp only [hg]))))) <;> (try simp (disch := omega) only [go_sem, wn, ANode.rgetD]) <;> (repeat' with_reducible refine And.intro ?_ ?_) <;> (try (with_reducible refine hK _ ?_; clear hK K)))
  | omega)
    · have hbig : ns2.any bigN = true := List.any_eq_true.2 ⟨_, getD_mem ns2 k (by omega), by unfold bigN; rw [decide_eq_true_eq]; omega⟩
      rw [apply_full h0 (by rw [hdone]; exact hbig)]
      (refine zF rfl ?_ ?_ ?_ ?_; (iterate 3 (focus ((try simp (disch := omega) only [go_sem, wn, default]) <;> (try omega) <;> fail))); (try simp (disch := omega) only [go_sem, wn, default, I, B, S, inj, List.cons.injEq, and_true, true_and, and_self]))
    · refine ⟨k + 1, ⟨by omega, fun j hj => ?_⟩, by omega, ?_⟩
      · by_cases e : j = k
        · subst e; unfold bigN; rw [decide_eq_false_iff_not]; omega
        · exact hk2 j (by omega)
      (refine SImp.frame [0, 1, 2, 3, 4, 5, 6, 7, 8, 9, 10, 11, 12, 13, 14, 15] rfl (by intro k hk; first | (simp at hk <;> (simp; omega)) | (simp only [List.mem_cons, List.not_mem_nil, or_false] at hk; simp only [List.length_cons, List.length_nil]; omega)) (by decide) (fun k hk => by first | omega | (rcases k with _ | _ | _ | _ | _ | _ | _ | _ | k <;> first | rfl | omega)) ?_ ?_ <;> simp (disch := omega) only [go_sem, wn, Int.natCast_add, true_and] <;> (try rfl))
    all_goals
      have hbig := (bigI_no (l := ns2) (fun j hj => hk2 j (by omega))).1
      rw [apply_ok h0 (by rw [hdone]; exact hbig), hdone]
      (refine zF rfl ?_ ?_ ?_ ?_; (iterate 3 (focus ((try simp (disch := omega) only [go_sem, wn, I, S, tk2]) <;> (try omega) <;> fail))); (try simp (disch := omega) only [go_sem, wn, I, S, tk2, I, B, S, inj, List.cons.injEq, and_true, true_and, and_self]))
end Go.Proofs.YtmpfhalheaeibaaGreatDoor
namespace Go.Proofs.YtmpfhalheaeibaaGreatDoor
set_option linter.unusedVariables false
set_option linter.unusedSimpArgs false
open Go Go.RowKit
set_option maxRecDepth 100000
set_option linter.unusedSimpArgs false
theorem ver_ok {t : ATree} {x : ATxn} (h : wrongT t x = 0) (o : x.op = 5) : x.version = (getT t x.path).1.stat.version + 1 := by
  obtain ⟨g1, g2, g3, g4, g5, g6, g7, g8⟩ := wrong_ok h
  unfold wrongT at h
  rw [if_neg (by simp [g1]), if_neg (fun h => h g2), if_neg (by omega), if_neg (by omega), if_neg (fun h => h (g5 (by omega))), if_neg (by omega), if_neg (by omega), if_pos o] at h
  split at h
  · cases h
  · rename_i q
    exact Classical.byContradiction fun e => q ⟨h, e⟩
set_option maxHeartbeats 8000000 in
theorem ref_apply5_c (t : ATree) (x : ATxn) (hw : t.wf) (hps : ∀ n, n ∈ t.nodes → n.path.length ≤ 1048576) (hz : okI x.zxid) (hp : x.path.length ≤ 1048576) (hd : okS x.data) (h0 : wrongT t x = 0) (o5 : x.op = 5) : acall Tryz.prog [] 15 [t.av, x.av] (ret (.tup [(applyT t x).1.av, .d (.sl 2 ((applyT t x).2.1.map AEvent.row)), I (applyT t x).2.2])) := by
  obtain ⟨g1, g2, g3, g4, g5, g6, g7, g8⟩ := wrong_ok h0
  obtain ⟨h1, h2⟩ : t.nodes.length * 88 ≤ 140737488351232 ∧ t.sessions.length * 8 ≤ 140737488351232 := ⟨hw.2.1.1, hw.2.2.1⟩
  have hgc := (ref_tgood_c t hw hps).re (congrArg B g1)
  have hxc := (ref_wgood_c x hz hp hd).re (congrArg I g2)
  have hcp := copyTO_c t h1 h2
  have h400 : t.nodes.length ≤ 400 := (good_root g1).2.1
  have hr : Rises (pathsN t.nodes) := good_rises g1
  have hsp := ref_split_c x.path hp
  have e1 : (splitP x.path).1.1 = dirP x.path := rfl
  have g3' : ¬ x.zxid ≤ t.zxid := by omega
  have hoc := (isOpen_c t x.session h2).re (congrArg B (decide_eq_true (g5 (by omega))))
  have m1 := g8 o5
  have hn1 := nodeM_c t.zxid t.nodes t.sessions x.path h1 hr m1
  have hn2 := nodeN_c t.zxid t.nodes t.sessions (dirP x.path) h1 hr
  have hq := (zc hr m1).1
  rw [pathsN_len] at hq
  have hv : x.version = (t.nodes.getD (place (pathsN t.nodes) x.path) default).stat.version + 1 := by have := ver_ok h0 o5; unfold getT at this; rw [if_pos m1] at this; exact this
  have hvb := ((goodTr_iff.1 g1).2.2.2 _ hq).1
  unfold nd at hvb
  obtain ⟨v1, v2, _⟩ := hvb
  have hdone : (doneT t x) = (⟨x.zxid, setN t.nodes x, t.sessions⟩, [⟨3, x.path⟩]) := by unfold doneT; rw [if_neg (by omega), if_neg (by omega), if_neg (by omega), if_neg (by omega)]
  have hadd : setN t.nodes x = t.nodes.set (place (pathsN t.nodes) x.path) (setF x (t.nodes.getD (place (pathsN t.nodes) x.path) default)) := rfl
  rw [hadd] at hdone
  generalize hn2' : t.nodes.set (place (pathsN t.nodes) x.path) (setF x (t.nodes.getD (place (pathsN t.nodes) x.path) default)) = ns2 at hdone
  have hl2 : ns2.length = t.nodes.length := by rw [← hn2', List.length_set]
  unfold setF at hn2'
  have tk2 : List.take t.nodes.length (ns2.map ANode.row) = ns2.map ANode.row := List.take_of_length_le (by rw [List.length_map]; omega)
  refine zi tabOk Tryz.func15 rfl (by kernel_rfl) (by simp [Tryz.ntmps15]) ?_; simp only [Tryz.ntmps15, Tryz.results15, List.toList_toArray, apar, List.length_nil, List.length_cons, Nat.reduceAdd]
  (repeat' first
| (with_reducible refine AR.f ?_)
| refine zb (by decide) ?_
| (with_reducible refine AWP.cond rfl ?_ ?_ <;> intro hc <;> (try simp only [hcs, beq_iff_eq, ge_iff_le, gt_iff_lt] at hc))
| (refine zh fun Kk hKk => (zi tabOk Tryz.func38 rfl (by kernel_rfl) (by simp [Tryz.ntmps38]) ?_); simp only [Tryz.ntmps38, Tryz.results38, List.toList_toArray, apar, List.length_nil, List.length_cons, Nat.reduceAdd, List.length_append, List.length_set, go_sem])
| ((first | ((first | refine zP ((Plan.takes [0, 1, 2, 3, 4, 5, 7, 9, 10] (.forks 6 (.fork 8 (Plan.takes [11, 12, 13, 14, 15, 16, 17, 18, 19] .done) 11 (Plan.takes [12, 13, 14] (.fork 8 (Plan.takes [15, 16, 17, 18, 19] .done) 15 (Plan.takes [8, 16, 17, 18, 19] .done)))) 8 (.fork 6 (Plan.takes [11, 12, 13, 14, 15, 16, 17, 18, 19] .done) 11 (Plan.takes [6, 12, 13, 14, 15, 16, 17, 18, 19] .done)) 11 (Plan.takes [6, 12, 13, 14] (.fork 8 (Plan.takes [15, 16, 17, 18, 19] .done) 15 (Plan.takes [8, 16, 17, 18, 19] .done)))))) (by decide +kernel) ?_ | (with_reducible first | refine zR ?_ | refine zQ (by decide +kernel) ?_ | refine zD (by decide +kernel) ?_ | refine zE (by decide +kernel) ?_ | refine zG (by decide +kernel) ?_)); intro K hK) | ((first | refine zA hgc ?_ ?_ ?_ ?_ ?_ | refine zA hxc ?_ ?_ ?_ ?_ ?_ | refine zA hoc ?_ ?_ ?_ ?_ ?_ | refine zA hn1 ?_ ?_ ?_ ?_ ?_ | refine zA hn2 ?_ ?_ ?_ ?_ ?_ | refine zA hsp ?_ ?_ ?_ ?_ ?_ | refine zA hcp ?_ ?_ ?_ ?_ ?_); (focus exact rfl); (focus exact rfl); iterate 2 (focus ((try simp (disch := omega) only [go_sem, wn, o5, e1, g3', hn2', hl2, tk2, ANode.rgetD, zg, ANode.rset, zm, List.set_set]) <;> (try omega) <;> fail))) | ((first | refine zN hgc rfl ?_ ?_ | refine zN hxc rfl ?_ ?_ | refine zN hoc rfl ?_ ?_ | refine zN hn1 rfl ?_ ?_ | refine zN hn2 rfl ?_ ?_ | refine zN hsp rfl ?_ ?_ | refine zN hcp rfl ?_ ?_); (focus ((try simp (disch := omega) only [go_sem, wn, o5, e1, g3', hn2', hl2, tk2, ANode.rgetD, zg, ANode.rset, zm, List.set_set]) <;> (try omega) <;> fail))) | (first | ((first | refine zX hgc rfl ?_ ?_ | refine zy hgc ?_ ?_); (focus ((try simp (disch := omega) only [go_sem, wn, o5, e1, g3', hn2', hl2, tk2, ANode.rgetD, zg, ANode.rset, zm, List.set_set]) <;> (try omega) <;> fail))) | ((first | refine zX hxc rfl ?_ ?_ | refine zy hxc ?_ ?_); (focus ((try simp (disch := omega) only [go_sem, wn, o5, e1, g3', hn2', hl2, tk2, ANode.rgetD, zg, ANode.rset, zm, List.set_set]) <;> (try omega) <;> fail))) | ((first | refine zX hoc rfl ?_ ?_ | refine zy hoc ?_ ?_); (focus ((try simp (disch := omega) only [go_sem, wn, o5, e1, g3', hn2', hl2, tk2, ANode.rgetD, zg, ANode.rset, zm, List.set_set]) <;> (try omega) <;> fail))) | ((first | refine zX hn1 rfl ?_ ?_ | refine zy hn1 ?_ ?_); (focus ((try simp (disch := omega) only [go_sem, wn, o5, e1, g3', hn2', hl2, tk2, ANode.rgetD, zg, ANode.rset, zm, List.set_set]) <;> (try omega) <;> fail))) | ((first | refine zX hn2 rfl ?_ ?_ | refine zy hn2 ?_ ?_); (focus ((try simp (disch := omega) only [go_sem, wn, o5, e1, g3', hn2', hl2, tk2, ANode.rgetD, zg, ANode.rset, zm, List.set_set]) <;> (try omega) <;> fail))) | ((first | refine zX hsp rfl ?_ ?_ | refine zy hsp ?_ ?_); (focus ((try simp (disch := omega) only [go_sem, wn, o5, e1, g3', hn2', hl2, tk2, ANode.rgetD, zg, ANode.rset, zm, List.set_set]) <;> (try omega) <;> fail))) | ((first | refine zX hcp rfl ?_ ?_ | refine zy hcp ?_ ?_); (focus ((try simp (disch := omega) only [go_sem, wn, o5, e1, g3', hn2', hl2, tk2, ANode.rgetD, zg, ANode.rset, zm, List.set_set]) <;> (try omega) <;> fail)))) | (refine zw (v := ?_) hKk (by first | exact .inl rfl | exact .inr rfl) ?_ ?_ ?_; rotate_left; (focus ((try simp (disch := omega) only [go_sem, wn, o5, e1, g3', hn2', hl2, tk2, ANode.rgetD, zg, ANode.rset, zm, List.set_set]) <;> (try omega) <;> fail)); (focus ((try simp (disch := omega) only [go_sem, wn, o5, e1, g3', hn2', hl2, tk2, ANode.rgetD, zg, ANode.rset, zm, List.set_set]) <;> (first | done | exact rfl))); clear hKk Kk) | ((first | (with_reducible refine zu ?_ ?_ <;> intro hg) | with_reducible intro hg) <;> (first | (exfalso; simp at hg; done) | (have hg' := hg; (try simp only [hcs, beq_iff_eq, ge_iff_le, gt_iff_lt] at hg'); (try simp only [hg]))))) <;> (try simp (disch := omega) only [go_sem, wn, o5, e1, g3', hn2', hl2, tk2, ANode.rgetD, zg, ANode.rset, zm, List.set_set]) <;> (repeat' with_reducible refine And.intro ?_ ?_) <;> (try (with_reducible refine hK _ ?_; clear hK K)))
| omega)
  all_goals
    refine AWP.loopB (ι := Nat) (fun k => k ≤ t.nodes.length ∧ ∀ j, j < k → bigN (ns2.getD j default) = false) (fun k => t.nodes.length - k) [4, 7, 15, 16, 404, 405] (fun k => [(406, I k)]) (fun k => [.cells [.d (.int .i64 t.zxid), .d (.sl 9 (t.nodes.map ANode.row)), .d (.sl 1 (t.sessions.map irow))], .cells [I x.zxid, I 5, I x.session, S x.path, S x.data, I x.version, I x.owner], .cells [I 0, .d (.sc (.slice none 0 0)), .d (.sc (.slice none 0 0))], .rows 9 (ns2.map ANode.row), .rows 1 (t.sessions.map irow), .cells [I x.zxid, .osl 3 9 0 t.nodes.length, .osl 4 1 0 t.sessions.length], .cells [.osl 9 2 0 1], .cells [.clo 44 [] [.ptr 5 0, .ptr 1 0, .ptr 6 0]], .rows 2 [[.int .i64 3, .str x.path]], .rows 2 [[.int .i64 3, .str x.path]]]) 0 ?_ ?_ ?_
    · exact ⟨by omega, fun j hj => by omega⟩
    · simp only [go_sem]; (refine SImp.same ?_; simp (disch := omega) only [go_sem, wn, Int.natCast_add])
    intro k ⟨hk, hk2⟩
    simp only [go_sem]
    (repeat' first
  | (with_reducible refine AR.f ?_)
  | refine zb (by decide) ?_
  | (with_reducible refine AWP.cond rfl ?_ ?_ <;> intro hc <;> (try simp only [hcs, beq_iff_eq, ge_iff_le, gt_iff_lt] at hc))
  | (refine zh fun Kk hKk => (zi tabOk Tryz.func38 rfl (by kernel_rfl) (by simp [Tryz.ntmps38]) ?_); simp only [Tryz.ntmps38, Tryz.results38, List.toList_toArray, apar, List.length_nil, List.length_cons, Nat.reduceAdd, List.length_append, List.length_set, go_sem])
  | ((first | ((first | refine zP ((Plan.takes [0] (.fork 1 (Plan.takes [2, 3, 4] .done) 2 (Plan.takes [1, 3, 4] .done)))) (by decide +kernel) ?_ | (with_reducible first | refine zR ?_ | refine zQ (by decide +kernel) ?_ | refine zD (by decide +kernel) ?_ | refine zE (by decide +kernel) ?_ | refine zG (by decide +kernel) ?_)); intro K hK) | (refine zw (v := ?_) hKk (by first | exact .inl rfl | exact .inr rfl) ?_ ?_ ?_; rotate_left; (focus ((try simp (disch := omega) only [go_sem, wn, ANode.rgetD]) <;> (try omega) <;> fail)); (focus ((try simp (disch := omega) only [go_sem, wn, ANode.rgetD]) <;> (first | done | exact rfl))); clear hKk Kk) | ((first | (with_reducible refine zu ?_ ?_ <;> intro hg) | with_reducible intro hg) <;> (first | (exfalso; simp at hg; done) | (have hg' := hg; (try simp only [hcs, beq_iff_eq, ge_iff_le, gt_iff_lt] at hg'); (try simp only [hg]))))) <;> (try simp (disch := omega) only [go_sem, wn, ANode.rgetD]) <;> (repeat' with_reducible refine And.intro ?_ ?_) <;> (try (with_reducible refine hK _ ?_; clear hK K)))
  | omega)
    · have hbig : ns2.any bigN = true := List.any_eq_true.2 ⟨_, getD_mem ns2 k (by omega), by unfold bigN; rw [decide_eq_true_eq]; omega⟩
      rw [apply_full h0 (by rw [hdone]; exact hbig)]
      (refine zF rfl ?_ ?_ ?_ ?_; (iterate 3 (focus ((try simp (disch := omega) only [go_sem, wn, default]) <;> (try omega) <;> fail))); (try simp (disch := omega) only [go_sem, wn, default, I, B, S, inj, List.cons.injEq, and_true, true_and, and_self]))
    · refine ⟨k + 1, ⟨by omega, fun j hj => ?_⟩, by omega, ?_⟩
      · by_cases e : j = k
        · subst e; unfold bigN; rw [decide_eq_false_iff_not]; omega
        · exact hk2 j (by omega)
      (refine SImp.frame [0, 1, 2, 3, 4, 5, 6, 7, 8, 9] rfl (by intro k hk; first | (simp at hk <;> (simp; omega)) | (simp only [List.mem_cons, List.not_mem_nil, or_false] at hk; simp only [List.length_cons, List.length_nil]; omega)) (by decide) (fun k hk => by first | omega | (rcases k with _ | _ | _ | _ | _ | _ | _ | _ | k <;> first | rfl | omega)) ?_ ?_ <;> simp (disch := omega) only [go_sem, wn, Int.natCast_add, true_and] <;> (try rfl))
    all_goals
      have hbig := (bigI_no (l := ns2) (fun j hj => hk2 j (by omega))).1
      rw [apply_ok h0 (by rw [hdone]; exact hbig), hdone]
      (refine zF rfl ?_ ?_ ?_ ?_; (iterate 3 (focus ((try simp (disch := omega) only [go_sem, wn, I, S, tk2]) <;> (try omega) <;> fail))); (try simp (disch := omega) only [go_sem, wn, I, S, tk2, I, B, S, inj, List.cons.injEq, and_true, true_and, and_self]))
end Go.Proofs.YtmpfhalheaeibaaGreatDoor
namespace Go.Proofs.YtmpfhalheaeibaaGreatDoor
set_option linter.unusedVariables false
set_option linter.unusedSimpArgs false
open Go Go.RowKit
set_option maxRecDepth 100000
set_option linter.unusedSimpArgs false
theorem ref_apply_c (t : ATree) (x : ATxn) (hw : t.wf) (hps : ∀ n, n ∈ t.nodes → n.path.length ≤ 1048576) (hz : okI x.zxid) (hp : x.path.length ≤ 1048576) (hd : okS x.data) : acall Tryz.prog [] 15 [t.av, x.av] (ret (.tup [(applyT t x).1.av, .d (.sl 2 ((applyT t x).2.1.map AEvent.row)), I (applyT t x).2.2])) := by
  by_cases h0 : wrongT t x = 0
  case neg =>
    rw [apply_no h0]
    exact ref_apply_no t x hw hps hz hp hd h0
  obtain ⟨o1, o2, _, _⟩ := goodT_nums (wrong_ok h0).2.1
  rcases (by omega : x.op = 1 ∨ x.op = 2 ∨ x.op = 3 ∨ x.op = 4 ∨ x.op = 5) with o | o | o | o | o
  · exact ref_apply1_c t x hw hps hz hp hd h0 o
  · exact ref_apply2_c t x hw hps hz hp hd h0 o
  · exact ref_apply3_c t x hw hps hz hp hd h0 o
  · exact ref_apply4_c t x hw hps hz hp hd h0 o
  · exact ref_apply5_c t x hw hps hz hp hd h0 o
def okN (n : ANode) : Prop := n.wf ∧ n.path.length ≤ 1048576
def okT (t : ATree) : Prop := t.wf ∧ ∀ n, n ∈ t.nodes → n.path.length ≤ 1048576
theorem okI_wrap (z : Int) : okI (IntKind.i64.wrap z) := by rw [IntKind.wrap_i64]; unfold okI; omega
theorem kidN_ok {ns : List ANode} {p : List UInt8} {m z : Int} (h : ∀ n, n ∈ ns → okN n) (hz : okI z) : ∀ n, n ∈ kidN ns p m z → okN n := by
  unfold kidN
  split
  · rename_i hm
    intro n hn
    rcases List.mem_or_eq_of_mem_set hn with a | rfl
    · exact h n a
    · by_cases hl : place (pathsN ns) (dirP p) < ns.length
      · obtain ⟨⟨a1, a2, b1, b2, b3, b4, b5, b6, b7⟩, c⟩ := h _ (mem_getD ns default hl)
        exact ⟨⟨a1, a2, b1, b2, hz, b4, okI_wrap _, b6, okI_wrap _⟩, c⟩
      · rw [List.set_eq_of_length_le (by omega)] at hn
        exact h _ hn
  · exact h
theorem delN_ok {ns : List ANode} {p : List UInt8} {z : Int} (h : ∀ n, n ∈ ns → okN n) (hz : okI z) : ∀ n, n ∈ delN ns p z → okN n :=
  kidN_ok (fun n hn => h n (List.mem_of_mem_eraseIdx hn)) hz
theorem closeN_ok {t : ATree} {s z : Int} (h : ∀ n, n ∈ t.nodes → okN n) (hz : okI z) : ∀ k n, n ∈ (closeN t s z k).1 → okN n
  | 0 => h
  | k + 1 => by
    unfold closeN
    split
    · exact delN_ok (closeN_ok h hz k) hz
    · exact closeN_ok h hz k
theorem mem_insN {α : Type} {l : List α} {i : Nat} {x y : α} (h : i ≤ l.length) (hy : y ∈ l.insertIdx i x) : y = x ∨ y ∈ l := (List.mem_insertIdx h).1 hy
theorem len_ins {α : Type} (l : List α) (i : Nat) (x : α) (h : i ≤ l.length) : (l.insertIdx i x).length = l.length + 1 := by rw [List.length_insertIdx, if_pos h]
theorem done_ok {t : ATree} {x : ATxn} (h : okT t) (hx : x.wf) (hp : x.path.length ≤ 1048576) (h0 : wrongT t x = 0) : okT (doneT t x).1 := by
  obtain ⟨g1, g2, g3, g4, g5, g6, g7, g8⟩ := wrong_ok h0
  obtain ⟨⟨w1, ⟨w2, w3⟩, w4, w5⟩, hb⟩ := h
  obtain ⟨x1, x2, x3, x4, x5, x6, x7⟩ := hx
  have hN : ∀ n, n ∈ t.nodes → okN n := fun n hn => ⟨w3 n hn, hb n hn⟩
  have h400 : t.nodes.length ≤ 400 := (good_root g1).2.1
  have hss := sess_len g1
  have fin : ∀ ns : List ANode, ∀ ss : List Int, ns.length ≤ 401 → ss.length ≤ 2147483648 → (∀ n, n ∈ ns → okN n) → (∀ s, s ∈ ss → okI s) → okT ⟨x.zxid, ns, ss⟩ := fun ns ss a b c d =>
    ⟨⟨x1, ⟨by show ns.length * 88 ≤ _; omega, fun n hn => (c n hn).1⟩, by show ss.length * 8 ≤ _; omega, d⟩, fun n hn => (c n hn).2⟩
  unfold doneT
  split
  · exact fin _ _ (by omega) (by rw [len_ins _ _ _ (show placeI t.sessions x.session ≤ _ from List.findIdx_le_length)]; omega) hN (fun s hs => by
      rcases mem_insN List.findIdx_le_length hs with rfl | a
      · exact x3
      · exact w5 _ a)
  split
  · exact fin _ _ (Nat.le_trans (close_ok (z := x.zxid) g1 (goodT_nums g2).2.2.1 _ (Nat.le_refl _)).len (by omega)) (Nat.le_trans (List.length_eraseIdx_le _ _) (by omega)) (closeN_ok hN x1 _) (fun s hs => w5 s (List.mem_of_mem_eraseIdx hs))
  split
  · rename_i o3
    have hpl : place (pathsN t.nodes) x.path ≤ t.nodes.length := by have := place_le (pathsN t.nodes) x.path; rwa [pathsN_len] at this
    refine fin _ _ ?_ (by omega) ?_ w5
    · unfold addN; rw [kidN_len, len_ins _ _ _ hpl]; have := (g6 o3).2.2; omega
    · refine kidN_ok (fun n hn => ?_) x1
      rcases mem_insN hpl hn with rfl | a
      · exact ⟨⟨x4, x5, x1, x1, x1, ⟨by show (_ : Int) ≤ 0; decide, by show (0 : Int) ≤ _; decide⟩, ⟨by show (_ : Int) ≤ 0; decide, by show (0 : Int) ≤ _; decide⟩, x7, ⟨by show (_ : Int) ≤ 0; decide, by show (0 : Int) ≤ _; decide⟩⟩, hp⟩
      · exact hN n a
  split
  · refine fin _ _ ?_ (by omega) (delN_ok hN x1) w5
    unfold delN; rw [kidN_len]; exact Nat.le_trans (List.length_eraseIdx_le _ _) (by omega)
  · obtain ⟨o1, o2, _, _⟩ := goodT_nums g2
    have hq := (zc (good_rises g1) (g8 (by omega))).1
    rw [pathsT_len] at hq
    refine fin _ _ (by unfold setN; rw [List.length_set]; omega) (by omega) (fun n hn => ?_) w5
    rcases List.mem_or_eq_of_mem_set hn with a | rfl
    · exact hN n a
    · obtain ⟨⟨a1, a2, b1, b2, b3, b4, b5, b6, b7⟩, c⟩ := hN _ (mem_getD t.nodes default (k := place (pathsN t.nodes) x.path) hq)
      exact ⟨⟨a1, x5, b1, x1, b3, x6, b5, b6, b7⟩, c⟩
theorem apply_okT {t : ATree} {x : ATxn} (h : okT t) (hx : x.wf) (hp : x.path.length ≤ 1048576) : okT (applyT t x).1 := by
  have hd : okT (default : ATree) := ⟨⟨by unfold okI; decide, ⟨by decide, fun _ h => by cases h⟩, by decide, fun _ h => by cases h⟩, fun _ h => by cases h⟩
  unfold applyT
  split
  · exact hd
  · rename_i h0
    split
    · exact hd
    · exact done_ok h hx hp (Classical.not_not.1 h0)
theorem apply_ev {t : ATree} {x : ATxn} : (applyT t x).2.1.length ≤ 1000 := by
  unfold applyT
  split
  · exact Nat.zero_le _
  · rename_i h0
    have h0 := Classical.not_not.1 h0
    obtain ⟨g1, g2, g3, g4, g5, g6, g7, g8⟩ := wrong_ok h0
    have h400 : t.nodes.length ≤ 400 := (good_root g1).2.1
    split
    · exact Nat.zero_le _
    · show (doneT t x).2.length ≤ _
      unfold doneT
      split
      · exact Nat.zero_le _
      split
      · have := (close_ok (z := x.zxid) g1 (goodT_nums g2).2.2.1 _ (Nat.le_refl _)).elen
        simp only; omega
      split
      · show 2 ≤ _; omega
      split
      · show 2 ≤ _; omega
      · show 1 ≤ _; omega
end Go.Proofs.YtmpfhalheaeibaaGreatDoor
namespace Go.Proofs.YtmpfhalheaeibaaGreatDoor
set_option linter.unusedVariables false
set_option linter.unusedSimpArgs false
open Go
theorem SImp.tail (k n : Nat) {np nt : Nat} {env : List (Nat × AV)} {hp : List ABlk} {sz : Nat} {rs : List (List DV)} (hk : hp[k]? = some (.rows sz rs)) :
    SImp { np := np, nt := nt, env := env, hp := hp } { np := np, nt := nt, env := env, hp := hp.set k (.rows sz (rs.take n)) } := by
  intro E ρ a w h
  have hl := h.heap.len
  simp only at hl
  have hkl : k < hp.length := (List.getElem?_eq_some_iff.1 hk).1
  obtain ⟨p, hkp⟩ : ∃ p, ρ[k]? = some p := ⟨ρ[k]'(by omega), List.getElem?_eq_getElem (by omega)⟩
  cases p with
  | none =>
    rcases h.heap.nil k _ hk hkp with e | ⟨sz', e⟩
    · cases e
    · injection e with e1 e2
      subst e2
      have e3 : hp.set k (.rows sz (List.take n [])) = hp := by
        apply List.ext_getElem?
        intro j
        rw [List.getElem?_set]
        split
        · rename_i e; subst e; rw [hk]; first | rfl | simp | (rw [if_pos hkl]; simp)
        · rfl
      rw [e3]
      exact ⟨ρ, h⟩
  | some bm =>
    obtain ⟨b, m⟩ := bm
    have hst := HStep.redo (x' := .rows sz (rs.take n)) h.heap hk (by simp) (by simp) hkp (by simp) fun us ty fz hw hm ⟨h1, h2, h3, h4⟩ => by
      refine ⟨h1, fun r hr => h2 r (List.mem_of_mem_take hr), Nat.le_trans (Nat.mul_le_mul_right _ (by rw [List.length_take]; omega)) h3, fun i r hi j c u hj hu => ?_⟩
      rw [List.getElem?_take] at hi
      split at hi
      · exact h4 i r hi j c u hj hu
      · cases hi
    exact ⟨_, h.step hst⟩
theorem SImp.frz1 (t k : Nat) {np nt : Nat} {env : List (Nat × AV)} {hp : List ABlk} {sz off n : Nat} {rs : List (List DV)} (h0 : np = 0) (ht : aget env t = .osl k sz off n) (hk : hp[k]? = some (.rows sz rs)) (hn : off + n ≤ rs.length) :
    SImp { np := np, nt := nt, env := env, hp := hp } { np := np, nt := nt, env := (t, .d (.sl sz ((rs.drop off).take n))) :: env, hp := hp.set k .dead } := by
  intro E ρ a w h
  have h00 : E.ρ0 = [] := List.eq_nil_of_length_eq_zero (by rw [h.np]; exact h0)
  have hst : HStep E ρ hp w ρ (hp.set k .dead) w := HStep.killIds h.heap [k]
  have hr := h.step hst
  have hv := h.env t
  simp only [ht] at hv
  have hf : frzOk hp (.osl k sz off n) := by rw [frzOk_osl, hk]; exact ⟨rfl, hn⟩
  have he : frzV hp (.osl k sz off n) = .d (.sl sz ((rs.drop off).take n)) := by rw [frzV_osl, hk]
  have hz := frz_step h.heap h00 (ks := [k]) hv (fun j hj => hj) hf (by rw [he]; trivial)
  rw [he] at hz
  refine ⟨ρ, hr.np, hr.nodef, hr.nt, fun t' => ?_, hr.heap, hr.pre⟩
  simp only [aget]
  by_cases e : t = t'
  · subst e; simp only [if_true]; exact hz
  · simp only [e, if_false]; exact hr.env t'
end Go.Proofs.YtmpfhalheaeibaaGreatDoor
namespace Go.Proofs.YtmpfhalheaeibaaGreatDoor
set_option linter.unusedVariables false
set_option linter.unusedSimpArgs false
open Go Go.RowKit
set_option maxRecDepth 100000
set_option linter.unusedSimpArgs false
theorem take_snocD {α : Type} (l : List α) (i : Nat) (d : α) (h : i < l.length) : l.take (i + 1) = l.take i ++ [l.getD i d] := by
  rw [List.take_add_one, List.getElem?_eq_getElem h]; simp [List.getD_eq_getElem?_getD, h]
def touW (e : AEvent) (w : AWatch) : Bool := if w.path = e.path then (if w.kind = 2 then (decide (e.kind = 4) || decide (e.kind = 2)) else (decide (e.kind = 1) || decide (e.kind = 2) || decide (e.kind = 3))) else false
def keptW (e : AEvent) (l : List AWatch) : List AWatch := l.filter fun w => !touW e w
def toldW (e : AEvent) (l : List AWatch) : List ANote := (l.filter (touW e)).map fun w => ⟨w.session, e⟩
def stepF (p : List ANote × List AWatch) (e : AEvent) : List ANote × List AWatch := (p.1 ++ toldW e p.2, keptW e p.2)
def fireW (l : List AWatch) (es : List AEvent) : List ANote × List AWatch := es.foldl stepF ([], l)
theorem fire_snoc (l : List AWatch) (es : List AEvent) (k : Nat) (h : k < es.length) : fireW l (es.take (k + 1)) = stepF (fireW l (es.take k)) (es.getD k default) := by
  have : es.take (k + 1) = es.take k ++ [es.getD k default] := take_snoc es k h
  unfold fireW; rw [this, List.foldl_append]; rfl
theorem kept_snoc (e : AEvent) (l : List AWatch) (k : Nat) (h : k < l.length) : keptW e (l.take (k + 1)) = if touW e (l.getD k default) = true then keptW e (l.take k) else keptW e (l.take k) ++ [l.getD k default] := by
  have : l.take (k + 1) = l.take k ++ [l.getD k default] := take_snoc l k h
  unfold keptW; rw [this, List.filter_append]
  generalize l.getD k default = x
  split <;> rename_i hh <;> simp [hh]
theorem told_snoc (e : AEvent) (l : List AWatch) (k : Nat) (h : k < l.length) : toldW e (l.take (k + 1)) = if touW e (l.getD k default) = true then toldW e (l.take k) ++ [⟨(l.getD k default).session, e⟩] else toldW e (l.take k) := by
  have : l.take (k + 1) = l.take k ++ [l.getD k default] := take_snoc l k h
  unfold toldW; rw [this, List.filter_append]
  generalize l.getD k default = x
  split <;> rename_i hh <;> simp [hh]
theorem kept_told (e : AEvent) (l : List AWatch) : (toldW e l).length + (keptW e l).length = l.length := by
  induction l with
  | nil => rfl
  | cons x l ih =>
    unfold toldW keptW at *
    cases hx : touW e x <;> simp [hx] at * <;> omega
theorem fire_len (l : List AWatch) : ∀ (es : List AEvent), (fireW l es).1.length + (fireW l es).2.length = l.length := by
  have key : ∀ (es : List AEvent) (p : List ANote × List AWatch), (es.foldl stepF p).1.length + (es.foldl stepF p).2.length = p.1.length + p.2.length := by
    intro es
    induction es with
    | nil => intro p; rfl
    | cons e es ih =>
      intro p
      have := kept_told e p.2
      rw [List.foldl_cons, ih]; unfold stepF; simp only [List.length_append]; omega
  intro es; have := key es ([], l); simpa [fireW] using this
theorem touches_c (w : AWatch) (e : AEvent) : acall Tryz.prog [] 36 [w.av, e.av] (ret (B (touW e w))) := by
  unfold touW
  refine zi tabOk Tryz.func36 rfl (by kernel_rfl) (by simp [Tryz.ntmps36]) ?_; simp only [Tryz.ntmps36, Tryz.results36, List.toList_toArray, apar, List.length_nil, List.length_cons, Nat.reduceAdd]
  (repeat' first
| (with_reducible refine AR.f ?_)
| refine zb (by decide) ?_
| (with_reducible refine AWP.cond rfl ?_ ?_ <;> intro hc <;> (try simp only [hcs, beq_iff_eq, ge_iff_le, gt_iff_lt] at hc))
| ((first | ((first | (with_reducible first | refine zR ?_ | refine zQ (by decide +kernel) ?_ | refine zD (by decide +kernel) ?_ | refine zE (by decide +kernel) ?_ | refine zG (by decide +kernel) ?_)); intro K hK) | ((first | (with_reducible refine zu ?_ ?_ <;> intro hg) | with_reducible intro hg) <;> (first | (exfalso; simp at hg; done) | (have hg' := hg; (try simp only [hcs, beq_iff_eq, ge_iff_le, gt_iff_lt] at hg'); (try simp only [hg]))))) <;> (try simp (disch := omega) only [go_sem, wn]) <;> (repeat' with_reducible refine And.intro ?_ ?_) <;> (try (with_reducible refine hK _ ?_; clear hK K)))
| omega)
  all_goals first
    | (rw [if_neg hc]; (refine zF rfl ?_ ?_ ?_ ?_; (iterate 3 (focus ((try simp (disch := omega) only [go_sem, wn]) <;> (try omega) <;> fail))); (try simp (disch := omega) only [go_sem, wn, I, B, S, inj, List.cons.injEq, and_true, true_and, and_self])); done)
    | (rw [if_pos (by assumption), if_pos (by assumption)]; (refine zF rfl ?_ ?_ ?_ ?_; (iterate 3 (focus ((try simp (disch := omega) only [go_sem, wn]) <;> (try omega) <;> fail))); (try simp (disch := omega) only [go_sem, wn, I, B, S, inj, List.cons.injEq, and_true, true_and, and_self])); done)
    | (rw [if_pos (by assumption), if_neg (by assumption)]; (refine zF rfl ?_ ?_ ?_ ?_; (iterate 3 (focus ((try simp (disch := omega) only [go_sem, wn]) <;> (try omega) <;> fail))); (try simp (disch := omega) only [go_sem, wn, I, B, S, inj, List.cons.injEq, and_true, true_and, and_self])); done)
theorem cloneWatch_c (l : List AWatch) (h : l.length * 32 ≤ 140737488351232) : acall Tryz.prog [] 33 [.d (.sl 3 (l.map AWatch.row))] (own 3 (l.map AWatch.row)) := by
  refine zi tabOk Tryz.func33 rfl (by kernel_rfl) (by simp [Tryz.ntmps33]) ?_; simp only [Tryz.ntmps33, Tryz.results33, List.toList_toArray, apar, List.length_nil, List.length_cons, Nat.reduceAdd]
  (repeat' first
| (with_reducible refine AR.f ?_)
| refine zb (by decide) ?_
| (with_reducible refine AWP.cond rfl ?_ ?_ <;> intro hc <;> (try simp only [hcs, beq_iff_eq, ge_iff_le, gt_iff_lt] at hc))
| ((first | ((first | (with_reducible first | refine zR ?_ | refine zQ (by decide +kernel) ?_ | refine zD (by decide +kernel) ?_ | refine zE (by decide +kernel) ?_ | refine zG (by decide +kernel) ?_)); intro K hK) | ((first | (with_reducible refine zu ?_ ?_ <;> intro hg) | with_reducible intro hg) <;> (first | (exfalso; simp at hg; done) | (have hg' := hg; (try simp only [hcs, beq_iff_eq, ge_iff_le, gt_iff_lt] at hg'); (try simp only [hg]))))) <;> (try simp (disch := omega) only [go_sem, wn]) <;> (repeat' with_reducible refine And.intro ?_ ?_) <;> (try (with_reducible refine hK _ ?_; clear hK K)))
| omega)
  · have e : l.length = 0 := by
      rcases Nat.eq_zero_or_pos l.length with h0 | h0
      · exact h0
      · rw [hg h0] at hc; simp at hc
    rw [nil_of_len e]
    (refine aend_nil (by first | exact .inl rfl | exact .inr rfl) rfl ?_ ?_ <;> simp (disch := omega) only [go_sem, wn])
  · (refine aend_own 1 (by first | exact .inl rfl | exact .inr rfl) rfl ?_ rfl rfl ?_ <;> (try simp (disch := omega) only [go_sem, wn, List.length_map]))
theorem kept_none (e : AEvent) (l : List AWatch) (i : Nat) (h : ∀ j, j < i → touW e (l.getD j default) = false) (hi : i ≤ l.length) : keptW e (l.take i) = l.take i ∧ toldW e (l.take i) = [] := by
  have hf : ∀ x, x ∈ l.take i → touW e x = false := fun x hx => by
    obtain ⟨j, hj, rfl⟩ := List.getElem_of_mem hx
    rw [List.length_take] at hj
    have := h j (by omega)
    rw [List.getD_eq_getElem?_getD, List.getElem?_eq_getElem (by omega)] at this
    rw [List.getElem_take]; exact this
  constructor
  · unfold keptW; exact List.filter_eq_self.2 fun x hx => by rw [hf x hx]; rfl
  · unfold toldW; rw [List.filter_eq_nil_iff.2 fun x hx => by rw [hf x hx]; decide]; rfl
theorem clipW_c (l : List AWatch) (h : l.length * 32 ≤ 140737488351232) : acall Tryz.prog [] 37 [.d (.sl 3 (l.map AWatch.row))] (ret (.d (.sl 3 (l.map AWatch.row)))) := by
  have t2 : List.take l.length (l.map AWatch.row) = l.map AWatch.row := List.take_of_length_le (by simp)
  rcases Nat.eq_zero_or_pos l.length with h0 | h0
  · rw [nil_of_len h0]
    refine zi tabOk Tryz.func37 rfl (by kernel_rfl) (by simp [Tryz.ntmps37]) ?_; simp only [Tryz.ntmps37, Tryz.results37, List.toList_toArray, apar, List.length_nil, List.length_cons, Nat.reduceAdd]
    (repeat' first
  | (with_reducible refine AR.f ?_)
  | refine zb (by decide) ?_
  | (with_reducible refine AWP.cond rfl ?_ ?_ <;> intro hc <;> (try simp only [hcs, beq_iff_eq, ge_iff_le, gt_iff_lt] at hc))
  | ((first | ((first | (with_reducible first | refine zR ?_ | refine zQ (by decide +kernel) ?_ | refine zD (by decide +kernel) ?_ | refine zE (by decide +kernel) ?_ | refine zG (by decide +kernel) ?_)); intro K hK) | ((first | (with_reducible refine zu ?_ ?_ <;> intro hg) | with_reducible intro hg) <;> (first | (exfalso; simp at hg; done) | (have hg' := hg; (try simp only [hcs, beq_iff_eq, ge_iff_le, gt_iff_lt] at hg'); (try simp only [hg]))))) <;> (try simp (disch := omega) only [go_sem, wn]) <;> (repeat' with_reducible refine And.intro ?_ ?_) <;> (try (with_reducible refine hK _ ?_; clear hK K)))
  | omega)
    all_goals (refine zF rfl ?_ ?_ ?_ ?_; (iterate 3 (focus ((try simp (disch := omega) only [go_sem, wn]) <;> (try omega) <;> fail))); (try simp (disch := omega) only [go_sem, wn, I, B, S, inj, List.cons.injEq, and_true, true_and, and_self]))
  have e0 : ¬ ((l.length : Nat) : Int) = 0 := by omega
  refine zi tabOk Tryz.func37 rfl (by kernel_rfl) (by simp [Tryz.ntmps37]) ?_; simp only [Tryz.ntmps37, Tryz.results37, List.toList_toArray, apar, List.length_nil, List.length_cons, Nat.reduceAdd]
  (repeat' first
| (with_reducible refine AR.f ?_)
| refine zb (by decide) ?_
| (with_reducible refine AWP.cond rfl ?_ ?_ <;> intro hc <;> (try simp only [hcs, beq_iff_eq, ge_iff_le, gt_iff_lt] at hc))
| ((first | ((first | (with_reducible first | refine zR ?_ | refine zQ (by decide +kernel) ?_ | refine zD (by decide +kernel) ?_ | refine zE (by decide +kernel) ?_ | refine zG (by decide +kernel) ?_)); intro K hK) | ((first | (with_reducible refine zu ?_ ?_ <;> intro hg) | with_reducible intro hg) <;> (first | (exfalso; simp at hg; done) | (have hg' := hg; (try simp only [hcs, beq_iff_eq, ge_iff_le, gt_iff_lt] at hg'); (try simp only [hg]))))) <;> (try simp (disch := omega) only [go_sem, wn, t2, Nat.sub_zero, e0]) <;> (repeat' with_reducible refine And.intro ?_ ?_) <;> (try (with_reducible refine hK _ ?_; clear hK K)))
| omega)
  all_goals (refine zF rfl ?_ ?_ ?_ ?_; (iterate 3 (focus ((try simp (disch := omega) only [go_sem, wn, t2, Nat.sub_zero, e0]) <;> (try omega) <;> fail))); (try simp (disch := omega) only [go_sem, wn, t2, Nat.sub_zero, e0, I, B, S, inj, List.cons.injEq, and_true, true_and, and_self]))
set_option maxHeartbeats 8000000 in
theorem fire_c (l : List AWatch) (es : List AEvent) (h : l.length * 32 ≤ 140737488351232) (he : es.length * 24 ≤ 140737488351232) : acall Tryz.prog [] 11 [.d (.sl 3 (l.map AWatch.row)), .d (.sl 2 (es.map AEvent.row))]
    (ret (.tup [.d (.sl 3 ((fireW l es).1.map ANote.row)), .d (.sl 3 ((fireW l es).2.map AWatch.row))])) := by
  refine zi tabOk Tryz.func11 rfl (by kernel_rfl) (by simp [Tryz.ntmps11]) ?_; simp only [Tryz.ntmps11, Tryz.results11, List.toList_toArray, apar, List.length_nil, List.length_cons, Nat.reduceAdd]
  (repeat' first
| (with_reducible refine AR.f ?_)
| refine zb (by decide) ?_
| (with_reducible refine AWP.cond rfl ?_ ?_ <;> intro hc <;> (try simp only [hcs, beq_iff_eq, ge_iff_le, gt_iff_lt] at hc))
| ((first | ((first | (with_reducible first | refine zR ?_ | refine zQ (by decide +kernel) ?_ | refine zD (by decide +kernel) ?_ | refine zE (by decide +kernel) ?_ | refine zG (by decide +kernel) ?_)); intro K hK) | ((first | refine zA (cloneWatch_c l h) ?_ ?_ ?_ ?_ ?_); (focus exact rfl); (focus exact rfl); iterate 2 (focus ((try simp (disch := omega) only [go_sem, wn]) <;> (try omega) <;> fail))) | ((first | refine zN (cloneWatch_c l h) rfl ?_ ?_); (focus ((try simp (disch := omega) only [go_sem, wn]) <;> (try omega) <;> fail))) | (first | ((first | refine zX (cloneWatch_c l h) rfl ?_ ?_ | refine zy (cloneWatch_c l h) ?_ ?_); (focus ((try simp (disch := omega) only [go_sem, wn]) <;> (try omega) <;> fail)))) | ((first | (with_reducible refine zu ?_ ?_ <;> intro hg) | with_reducible intro hg) <;> (first | (exfalso; simp at hg; done) | (have hg' := hg; (try simp only [hcs, beq_iff_eq, ge_iff_le, gt_iff_lt] at hg'); (try simp only [hg]))))) <;> (try simp (disch := omega) only [go_sem, wn]) <;> (repeat' with_reducible refine And.intro ?_ ?_) <;> (try (with_reducible refine hK _ ?_; clear hK K)))
| omega)
  refine AWP.weaken (SImp.nilOwnC 1 0 3 rfl rfl) ?_
  simp only [go_sem]
  refine AWP.loopB (ι := Nat) (fun k => k ≤ es.length) (fun k => es.length - k) [12, 13] (fun k => [(6, .osl 0 3 0 (fireW l (es.take k)).2.length), (7, .ptr 1 0), (14, I k)]) (fun k => [.rows 3 ((fireW l (es.take k)).2.map AWatch.row), .cells [.osl 2 3 0 (fireW l (es.take k)).1.length], .rows 3 ((fireW l (es.take k)).1.map ANote.row)]) 0 ?_ ?_ ?_
  · omega
  · simp only [go_sem]; (refine SImp.same ?_; simp (disch := omega) only [go_sem, wn, Int.natCast_add, fireW, List.foldl_nil])
  intro k hk
  simp only [go_sem]
  by_cases hk2 : k < es.length
  case neg =>
    have hke : k = es.length := by omega
    subst hke
    rw [List.take_length]
    generalize hpe : fireW l es = p
    obtain ⟨ns, ws⟩ := p
    have t1 : List.take ns.length (ns.map ANote.row) = ns.map ANote.row := List.take_of_length_le (by simp)
    have t2 : List.take ws.length (ws.map AWatch.row) = ws.map AWatch.row := List.take_of_length_le (by simp)
    have hcl := clipW_c ws (by have := fire_len l es; rw [hpe] at this; simp only at this; omega)
    (repeat' first
  | (with_reducible refine AR.f ?_)
  | refine zb (by decide) ?_
  | (with_reducible refine AWP.cond rfl ?_ ?_ <;> intro hc <;> (try simp only [hcs, beq_iff_eq, ge_iff_le, gt_iff_lt] at hc))
  | ((first | ((first | refine zP ((Plan.takes [1] (.fork 0 (Plan.takes [2, 3, 4] .done) 2 (Plan.takes [0, 3, 4] .done)))) (by decide +kernel) ?_ | (with_reducible first | refine zR ?_ | refine zQ (by decide +kernel) ?_ | refine zD (by decide +kernel) ?_ | refine zE (by decide +kernel) ?_ | refine zG (by decide +kernel) ?_)); intro K hK) | ((first | refine zA hcl ?_ ?_ ?_ ?_ ?_); (focus exact rfl); (focus exact rfl); iterate 2 (focus ((try simp (disch := omega) only [go_sem, wn, t1, t2]) <;> (try omega) <;> fail))) | ((first | refine zN hcl rfl ?_ ?_); (focus ((try simp (disch := omega) only [go_sem, wn, t1, t2]) <;> (try omega) <;> fail))) | (first | ((first | refine zX hcl rfl ?_ ?_ | refine zy hcl ?_ ?_); (focus ((try simp (disch := omega) only [go_sem, wn, t1, t2]) <;> (try omega) <;> fail)))) | ((first | (with_reducible refine zu ?_ ?_ <;> intro hg) | with_reducible intro hg) <;> (first | (exfalso; simp at hg; done) | (have hg' := hg; (try simp only [hcs, beq_iff_eq, ge_iff_le, gt_iff_lt] at hg'); (try simp only [hg]))))) <;> (try simp (disch := omega) only [go_sem, wn, t1, t2]) <;> (repeat' with_reducible refine And.intro ?_ ?_) <;> (try (with_reducible refine hK _ ?_; clear hK K)))
  | omega)
    all_goals (refine zF rfl ?_ ?_ ?_ ?_; (iterate 3 (focus ((try simp (disch := omega) only [go_sem, wn, t1, t2]) <;> (try omega) <;> fail))); (try simp (disch := omega) only [go_sem, wn, t1, t2, I, B, S, inj, List.cons.injEq, and_true, true_and, and_self]))
  have hs := fire_snoc l es k hk2
  have hl := fire_len l (es.take k)
  generalize fireW l (es.take k) = p at hs hl ⊢
  obtain ⟨ns, ws⟩ := p
  simp only at hl ⊢
  (repeat' first
| (with_reducible refine AR.f ?_)
| refine zb (by decide) ?_
| (with_reducible refine AWP.cond rfl ?_ ?_ <;> intro hc <;> (try simp only [hcs, beq_iff_eq, ge_iff_le, gt_iff_lt] at hc))
| (refine zh fun Kk hKk => (zi tabOk Tryz.func34 rfl (by kernel_rfl) (by simp [Tryz.ntmps34]) ?_); simp only [Tryz.ntmps34, Tryz.results34, List.toList_toArray, apar, List.length_nil, List.length_cons, Nat.reduceAdd, List.length_append, List.length_set, go_sem])
| (refine zh fun Kk hKk => (zi tabOk Tryz.func68 rfl (by kernel_rfl) (by simp [Tryz.ntmps68]) ?_); simp only [Tryz.ntmps68, Tryz.results68, List.toList_toArray, apar, List.length_nil, List.length_cons, Nat.reduceAdd, List.length_append, List.length_set, go_sem])
| ((first | ((first | (with_reducible first | refine zR ?_ | refine zQ (by decide +kernel) ?_ | refine zD (by decide +kernel) ?_ | refine zE (by decide +kernel) ?_ | refine zG (by decide +kernel) ?_)); intro K hK) | (refine zw (v := ?_) hKk (by first | exact .inl rfl | exact .inr rfl) ?_ ?_ ?_; rotate_left; (focus ((try simp (disch := omega) only [go_sem, wn]) <;> (try omega) <;> fail)); (focus ((try simp (disch := omega) only [go_sem, wn]) <;> (first | done | exact rfl))); clear hKk Kk) | ((first | (with_reducible refine zu ?_ ?_ <;> intro hg) | with_reducible intro hg) <;> (first | (exfalso; simp at hg; done) | (have hg' := hg; (try simp only [hcs, beq_iff_eq, ge_iff_le, gt_iff_lt] at hg'); (try simp only [hg]))))) <;> (try simp (disch := omega) only [go_sem, wn]) <;> (repeat' with_reducible refine And.intro ?_ ?_) <;> (try (with_reducible refine hK _ ?_; clear hK K)))
| omega)
  generalize es.getD k default = e at hs ⊢
  refine AWP.loopB (ι := Nat) (fun i => i ≤ ws.length ∧ ∀ j, j < i → touW e (ws.getD j default) = false) (fun i => ws.length - i) [0, 1, 7] (fun i => [(8, I i)]) (fun i => [.rows 3 (ws.map AWatch.row), .cells [.osl 2 3 0 ns.length], .rows 3 (ns.map ANote.row), .cells [I e.kind, S e.path]]) 0 ?_ ?_ ?_
  · exact ⟨by omega, fun j hj => by omega⟩
  · simp only [go_sem]; (refine SImp.same ?_; simp (disch := omega) only [go_sem, wn, Int.natCast_add])
  intro i ⟨hi, hi2⟩
  simp only [go_sem]
  by_cases hi3 : i < ws.length
  case neg =>
    have hie : i = ws.length := by omega
    subst hie
    obtain ⟨q1, q2⟩ := kept_none e ws ws.length hi2 (Nat.le_refl _)
    rw [List.take_length] at q1 q2
    (repeat' first
  | (with_reducible refine AR.f ?_)
  | refine zb (by decide) ?_
  | (with_reducible refine AWP.cond rfl ?_ ?_ <;> intro hc <;> (try simp only [hcs, beq_iff_eq, ge_iff_le, gt_iff_lt] at hc))
  | (refine zh fun Kk hKk => (zi tabOk Tryz.func35 rfl (by kernel_rfl) (by simp [Tryz.ntmps35]) ?_); simp only [Tryz.ntmps35, Tryz.results35, List.toList_toArray, apar, List.length_nil, List.length_cons, Nat.reduceAdd, List.length_append, List.length_set, go_sem])
  | ((first | ((first | (with_reducible first | refine zR ?_ | refine zQ (by decide +kernel) ?_ | refine zD (by decide +kernel) ?_ | refine zE (by decide +kernel) ?_ | refine zG (by decide +kernel) ?_)); intro K hK) | (refine zw (v := ?_) hKk (by first | exact .inl rfl | exact .inr rfl) ?_ ?_ ?_; rotate_left; (focus ((try simp (disch := omega) only [go_sem, wn]) <;> (try omega) <;> fail)); (focus ((try simp (disch := omega) only [go_sem, wn]) <;> (first | done | exact rfl))); clear hKk Kk) | ((first | (with_reducible refine zu ?_ ?_ <;> intro hg) | with_reducible intro hg) <;> (first | (exfalso; simp at hg; done) | (have hg' := hg; (try simp only [hcs, beq_iff_eq, ge_iff_le, gt_iff_lt] at hg'); (try simp only [hg]))))) <;> (try simp (disch := omega) only [go_sem, wn]) <;> (repeat' with_reducible refine And.intro ?_ ?_) <;> (try (with_reducible refine hK _ ?_; clear hK K)))
  | omega)
    refine ⟨k + 1, by omega, by omega, ?_⟩
    rw [hs]
    simp only [stepF, q1, q2, List.append_nil]
    (refine SImp.frame [0, 1, 2] rfl (by intro k hk; first | (simp at hk <;> (simp; omega)) | (simp only [List.mem_cons, List.not_mem_nil, or_false] at hk; simp only [List.length_cons, List.length_nil]; omega)) (by decide) (fun k hk => by first | omega | (rcases k with _ | _ | _ | _ | _ | _ | _ | _ | k <;> first | rfl | omega)) ?_ ?_ <;> simp (disch := omega) only [go_sem, wn, Int.natCast_add, true_and] <;> (try rfl))
  have hrw : ∀ z, List.getD (List.map AWatch.row ws) i z = (ws.getD i default).row := fun z => AWatch.rgetD ws i z hi3
  by_cases hh : touW e (ws.getD i default) = true
  case neg =>
    have ht := (touches_c (ws.getD i default) e).re (congrArg B (eq_false_of_ne_true hh))
    (repeat' first
  | (with_reducible refine AR.f ?_)
  | refine zb (by decide) ?_
  | (with_reducible refine AWP.cond rfl ?_ ?_ <;> intro hc <;> (try simp only [hcs, beq_iff_eq, ge_iff_le, gt_iff_lt] at hc))
  | (refine zh fun Kk hKk => (zi tabOk Tryz.func35 rfl (by kernel_rfl) (by simp [Tryz.ntmps35]) ?_); simp only [Tryz.ntmps35, Tryz.results35, List.toList_toArray, apar, List.length_nil, List.length_cons, Nat.reduceAdd, List.length_append, List.length_set, go_sem])
  | ((first | ((first | (with_reducible first | refine zR ?_ | refine zQ (by decide +kernel) ?_ | refine zD (by decide +kernel) ?_ | refine zE (by decide +kernel) ?_ | refine zG (by decide +kernel) ?_)); intro K hK) | ((first | refine zA ht ?_ ?_ ?_ ?_ ?_); (focus exact rfl); (focus exact rfl); iterate 2 (focus ((try simp (disch := omega) only [go_sem, wn, hrw, AWatch.row]) <;> (try omega) <;> fail))) | ((first | refine zN ht rfl ?_ ?_); (focus ((try simp (disch := omega) only [go_sem, wn, hrw, AWatch.row]) <;> (try omega) <;> fail))) | (first | ((first | refine zX ht rfl ?_ ?_ | refine zy ht ?_ ?_); (focus ((try simp (disch := omega) only [go_sem, wn, hrw, AWatch.row]) <;> (try omega) <;> fail)))) | (refine zw (v := ?_) hKk (by first | exact .inl rfl | exact .inr rfl) ?_ ?_ ?_; rotate_left; (focus ((try simp (disch := omega) only [go_sem, wn, hrw, AWatch.row]) <;> (try omega) <;> fail)); (focus ((try simp (disch := omega) only [go_sem, wn, hrw, AWatch.row]) <;> (first | done | exact rfl))); clear hKk Kk) | ((first | (with_reducible refine zu ?_ ?_ <;> intro hg) | with_reducible intro hg) <;> (first | (exfalso; simp at hg; done) | (have hg' := hg; (try simp only [hcs, beq_iff_eq, ge_iff_le, gt_iff_lt] at hg'); (try simp only [hg]))))) <;> (try simp (disch := omega) only [go_sem, wn, hrw, AWatch.row]) <;> (repeat' with_reducible refine And.intro ?_ ?_) <;> (try (with_reducible refine hK _ ?_; clear hK K)))
  | omega)
    refine ⟨i + 1, ⟨by omega, fun j hj => ?_⟩, by omega, ?_⟩
    · by_cases ej : j = i
      · subst ej; exact eq_false_of_ne_true hh
      · exact hi2 j (by omega)
    (refine SImp.frame [0, 1, 2, 3] rfl (by intro k hk; first | (simp at hk <;> (simp; omega)) | (simp only [List.mem_cons, List.not_mem_nil, or_false] at hk; simp only [List.length_cons, List.length_nil]; omega)) (by decide) (fun k hk => by first | omega | (rcases k with _ | _ | _ | _ | _ | _ | _ | _ | k <;> first | rfl | omega)) ?_ ?_ <;> simp (disch := omega) only [go_sem, wn, Int.natCast_add, true_and] <;> (try rfl))
  have ht := (touches_c (ws.getD i default) e).re (congrArg B hh)
  obtain ⟨q1, q2⟩ := kept_none e ws i hi2 hi
  have hk0 : keptW e (ws.take (i + 1)) = ws.take i := by rw [kept_snoc e ws i hi3, if_pos hh, q1]
  have ht0 : toldW e (ws.take (i + 1)) = [⟨(ws.getD i default).session, e⟩] := by rw [told_snoc e ws i hi3, if_pos hh, q2]; rfl
  have hmin : (ws.take i).length = i := by rw [List.length_take]; omega
  (repeat' first
| (with_reducible refine AR.f ?_)
| refine zb (by decide) ?_
| (with_reducible refine AWP.cond rfl ?_ ?_ <;> intro hc <;> (try simp only [hcs, beq_iff_eq, ge_iff_le, gt_iff_lt] at hc))
| (refine zh fun Kk hKk => (zi tabOk Tryz.func35 rfl (by kernel_rfl) (by simp [Tryz.ntmps35]) ?_); simp only [Tryz.ntmps35, Tryz.results35, List.toList_toArray, apar, List.length_nil, List.length_cons, Nat.reduceAdd, List.length_append, List.length_set, go_sem])
| ((first | ((first | (with_reducible first | refine zR ?_ | refine zQ (by decide +kernel) ?_ | refine zD (by decide +kernel) ?_ | refine zE (by decide +kernel) ?_ | refine zG (by decide +kernel) ?_)); intro K hK) | ((first | refine zA ht ?_ ?_ ?_ ?_ ?_); (focus exact rfl); (focus exact rfl); iterate 2 (focus ((try simp (disch := omega) only [go_sem, wn, hrw, AWatch.row]) <;> (try omega) <;> fail))) | ((first | refine zN ht rfl ?_ ?_); (focus ((try simp (disch := omega) only [go_sem, wn, hrw, AWatch.row]) <;> (try omega) <;> fail))) | (first | ((first | refine zX ht rfl ?_ ?_ | refine zy ht ?_ ?_); (focus ((try simp (disch := omega) only [go_sem, wn, hrw, AWatch.row]) <;> (try omega) <;> fail)))) | (refine zw (v := ?_) hKk (by first | exact .inl rfl | exact .inr rfl) ?_ ?_ ?_; rotate_left; (focus ((try simp (disch := omega) only [go_sem, wn, hrw, AWatch.row]) <;> (try omega) <;> fail)); (focus ((try simp (disch := omega) only [go_sem, wn, hrw, AWatch.row]) <;> (first | done | exact rfl))); clear hKk Kk) | ((first | (with_reducible refine zu ?_ ?_ <;> intro hg) | with_reducible intro hg) <;> (first | (exfalso; simp at hg; done) | (have hg' := hg; (try simp only [hcs, beq_iff_eq, ge_iff_le, gt_iff_lt] at hg'); (try simp only [hg]))))) <;> (try simp (disch := omega) only [go_sem, wn, hrw, AWatch.row]) <;> (repeat' with_reducible refine And.intro ?_ ?_) <;> (try (with_reducible refine hK _ ?_; clear hK K)))
| omega)
  refine AWP.loopB (ι := Nat × List AWatch) (fun v => i < v.1 ∧ v.1 ≤ ws.length ∧ v.2.length = ws.length ∧ v.2.take (keptW e (ws.take v.1)).length = keptW e (ws.take v.1) ∧ v.2.drop v.1 = ws.drop v.1 ∧ (keptW e (ws.take v.1)).length < v.1) (fun v => ws.length - v.1) [0, 1] (fun v => [(5, I (keptW e (ws.take v.1)).length), (6, I v.1)]) (fun v => [.rows 3 (v.2.map AWatch.row), .cells [.osl 4 3 0 (ns ++ toldW e (ws.take v.1)).length], .dead, .cells [I e.kind, S e.path], .rows 3 ((ns ++ toldW e (ws.take v.1)).map ANote.row)]) (i + 1, ws) ?_ ?_ ?_
  · simp only [hk0, hmin]
    exact ⟨by omega, by omega, trivial, trivial, trivial, by omega⟩
  · simp only [go_sem, hk0, ht0, hmin]; (refine SImp.frame [0, 1, 2, 3, 6] rfl (by intro k hk; first | (simp at hk <;> (simp; omega)) | (simp only [List.mem_cons, List.not_mem_nil, or_false] at hk; simp only [List.length_cons, List.length_nil]; omega)) (by decide) (fun k hk => by first | omega | (rcases k with _ | _ | _ | _ | _ | _ | _ | _ | k <;> first | rfl | omega)) ?_ ?_ <;> simp (disch := omega) only [go_sem, wn, Int.natCast_add, ANote.row, List.map_append, List.map_cons, List.map_nil] <;> (try rfl))
  intro ⟨j, R⟩ ⟨j1, j2, r1, r2, r3, r4⟩
  simp only at j1 j2 r1 r2 r3 r4
  simp only [go_sem]
  by_cases hj3 : j < ws.length
  · have hRj : ∀ z, List.getD (List.map AWatch.row R) j z = (ws.getD j default).row := fun z => by
      rw [AWatch.rgetD R j z (by omega)]
      have : (R.drop j).getD 0 default = (ws.drop j).getD 0 default := by rw [r3]
      rw [List.getD_eq_getElem?_getD, List.getD_eq_getElem?_getD, List.getElem?_drop, List.getElem?_drop, Nat.add_zero] at this
      rw [List.getD_eq_getElem?_getD, List.getD_eq_getElem?_getD, this]
    have hks := kept_snoc e ws j hj3
    have hts := told_snoc e ws j hj3
    have hkl := kept_told e (ws.take j)
    have htn : List.take (ns.length + (toldW e (ws.take j)).length) (List.map ANote.row (ns ++ toldW e (ws.take j))) = List.map ANote.row (ns ++ toldW e (ws.take j)) := List.take_of_length_le (by simp)
    rw [List.length_take] at hkl
    by_cases hh2 : touW e (ws.getD j default) = true
    · have ht2 := (touches_c (ws.getD j default) e).re (congrArg B hh2)
      rw [if_pos hh2] at hks hts
      (repeat' first
    | (with_reducible refine AR.f ?_)
    | refine zb (by decide) ?_
    | (with_reducible refine AWP.cond rfl ?_ ?_ <;> intro hc <;> (try simp only [hcs, beq_iff_eq, ge_iff_le, gt_iff_lt] at hc))
    | (refine zh fun Kk hKk => (zi tabOk Tryz.func35 rfl (by kernel_rfl) (by simp [Tryz.ntmps35]) ?_); simp only [Tryz.ntmps35, Tryz.results35, List.toList_toArray, apar, List.length_nil, List.length_cons, Nat.reduceAdd, List.length_append, List.length_set, go_sem])
    | ((first | ((first | (with_reducible first | refine zR ?_ | refine zQ (by decide +kernel) ?_ | refine zD (by decide +kernel) ?_ | refine zE (by decide +kernel) ?_ | refine zG (by decide +kernel) ?_)); intro K hK) | ((first | refine zA ht2 ?_ ?_ ?_ ?_ ?_); (focus exact rfl); (focus exact rfl); iterate 2 (focus ((try simp (disch := omega) only [go_sem, wn, hRj, AWatch.row, r1, htn]) <;> (try omega) <;> fail))) | ((first | refine zN ht2 rfl ?_ ?_); (focus ((try simp (disch := omega) only [go_sem, wn, hRj, AWatch.row, r1, htn]) <;> (try omega) <;> fail))) | (first | ((first | refine zX ht2 rfl ?_ ?_ | refine zy ht2 ?_ ?_); (focus ((try simp (disch := omega) only [go_sem, wn, hRj, AWatch.row, r1, htn]) <;> (try omega) <;> fail)))) | (refine zw (v := ?_) hKk (by first | exact .inl rfl | exact .inr rfl) ?_ ?_ ?_; rotate_left; (focus ((try simp (disch := omega) only [go_sem, wn, hRj, AWatch.row, r1, htn]) <;> (try omega) <;> fail)); (focus ((try simp (disch := omega) only [go_sem, wn, hRj, AWatch.row, r1, htn]) <;> (first | done | exact rfl))); clear hKk Kk) | ((first | (with_reducible refine zu ?_ ?_ <;> intro hg) | with_reducible intro hg) <;> (first | (exfalso; simp at hg; done) | (have hg' := hg; (try simp only [hcs, beq_iff_eq, ge_iff_le, gt_iff_lt] at hg'); (try simp only [hg]))))) <;> (try simp (disch := omega) only [go_sem, wn, hRj, AWatch.row, r1, htn]) <;> (repeat' with_reducible refine And.intro ?_ ?_) <;> (try (with_reducible refine hK _ ?_; clear hK K)))
    | omega)
      refine ⟨(j + 1, R), ⟨by omega, by omega, r1, by simp only [hks]; exact r2, ?_, by simp only [hks]; omega⟩, by simp only; omega, ?_⟩
      · simp only; rw [← List.drop_drop, ← List.drop_drop, r3]
      simp only [hks, hts]
      (refine SImp.frame [0, 1, 2, 3, 8] rfl (by intro k hk; first | (simp at hk <;> (simp; omega)) | (simp only [List.mem_cons, List.not_mem_nil, or_false] at hk; simp only [List.length_cons, List.length_nil]; omega)) (by decide) (fun k hk => by first | omega | (rcases k with _ | _ | _ | _ | _ | _ | _ | _ | k <;> first | rfl | omega)) ?_ ?_ <;> simp (disch := omega) only [go_sem, wn, Int.natCast_add, ANote.row, List.map_append, List.map_cons, List.map_nil, List.append_assoc, Nat.add_assoc] <;> (try rfl))
    have ht2 := (touches_c (ws.getD j default) e).re (congrArg B (eq_false_of_ne_true hh2))
    rw [if_neg hh2] at hks hts
    have hcl : (keptW e (ws.take j)).length < R.length := by omega
    (repeat' first
  | (with_reducible refine AR.f ?_)
  | refine zb (by decide) ?_
  | (with_reducible refine AWP.cond rfl ?_ ?_ <;> intro hc <;> (try simp only [hcs, beq_iff_eq, ge_iff_le, gt_iff_lt] at hc))
  | (refine zh fun Kk hKk => (zi tabOk Tryz.func35 rfl (by kernel_rfl) (by simp [Tryz.ntmps35]) ?_); simp only [Tryz.ntmps35, Tryz.results35, List.toList_toArray, apar, List.length_nil, List.length_cons, Nat.reduceAdd, List.length_append, List.length_set, go_sem])
  | ((first | ((first | (with_reducible first | refine zR ?_ | refine zQ (by decide +kernel) ?_ | refine zD (by decide +kernel) ?_ | refine zE (by decide +kernel) ?_ | refine zG (by decide +kernel) ?_)); intro K hK) | ((first | refine zA ht2 ?_ ?_ ?_ ?_ ?_); (focus exact rfl); (focus exact rfl); iterate 2 (focus ((try simp (disch := omega) only [go_sem, wn, hRj, AWatch.row, r1]) <;> (try omega) <;> fail))) | ((first | refine zN ht2 rfl ?_ ?_); (focus ((try simp (disch := omega) only [go_sem, wn, hRj, AWatch.row, r1]) <;> (try omega) <;> fail))) | (first | ((first | refine zX ht2 rfl ?_ ?_ | refine zy ht2 ?_ ?_); (focus ((try simp (disch := omega) only [go_sem, wn, hRj, AWatch.row, r1]) <;> (try omega) <;> fail)))) | (refine zw (v := ?_) hKk (by first | exact .inl rfl | exact .inr rfl) ?_ ?_ ?_; rotate_left; (focus ((try simp (disch := omega) only [go_sem, wn, hRj, AWatch.row, r1]) <;> (try omega) <;> fail)); (focus ((try simp (disch := omega) only [go_sem, wn, hRj, AWatch.row, r1]) <;> (first | done | exact rfl))); clear hKk Kk) | ((first | (with_reducible refine zu ?_ ?_ <;> intro hg) | with_reducible intro hg) <;> (first | (exfalso; simp at hg; done) | (have hg' := hg; (try simp only [hcs, beq_iff_eq, ge_iff_le, gt_iff_lt] at hg'); (try simp only [hg]))))) <;> (try simp (disch := omega) only [go_sem, wn, hRj, AWatch.row, r1]) <;> (repeat' with_reducible refine And.intro ?_ ?_) <;> (try (with_reducible refine hK _ ?_; clear hK K)))
  | omega)
    refine ⟨(j + 1, R.set (keptW e (ws.take j)).length (ws.getD j default)), ⟨by omega, by omega, by simp only [List.length_set]; exact r1, ?_, ?_, by simp only [hks, List.length_append, List.length_singleton]; omega⟩, by simp only; omega, ?_⟩
    · simp only [hks, List.length_append, List.length_singleton]
      rw [take_snocD _ _ default (by rw [List.length_set]; exact hcl), List.take_set_of_le (Nat.le_refl _), r2]
      congr 1
      rw [List.getD_eq_getElem?_getD, List.getElem?_set_self hcl]; rfl
    · simp only
      rw [List.drop_set_of_lt (by omega), ← List.drop_drop, ← List.drop_drop, r3]
    simp only [hks, hts]
    (refine SImp.frame [0, 1, 2, 3, 4] rfl (by intro k hk; first | (simp at hk <;> (simp; omega)) | (simp only [List.mem_cons, List.not_mem_nil, or_false] at hk; simp only [List.length_cons, List.length_nil]; omega)) (by decide) (fun k hk => by first | omega | (rcases k with _ | _ | _ | _ | _ | _ | _ | _ | k <;> first | rfl | omega)) ?_ ?_ <;> simp (disch := omega) only [go_sem, wn, Int.natCast_add, AWatch.row, List.map_set, List.length_append] <;> (try rfl))
  have hje : j = ws.length := by omega
  subst hje
  rw [List.take_length] at r2 r4 ⊢
  (repeat' first
| (with_reducible refine AR.f ?_)
| refine zb (by decide) ?_
| (with_reducible refine AWP.cond rfl ?_ ?_ <;> intro hc <;> (try simp only [hcs, beq_iff_eq, ge_iff_le, gt_iff_lt] at hc))
| (refine zh fun Kk hKk => (zi tabOk Tryz.func35 rfl (by kernel_rfl) (by simp [Tryz.ntmps35]) ?_); simp only [Tryz.ntmps35, Tryz.results35, List.toList_toArray, apar, List.length_nil, List.length_cons, Nat.reduceAdd, List.length_append, List.length_set, go_sem])
| ((first | ((first | (with_reducible first | refine zR ?_ | refine zQ (by decide +kernel) ?_ | refine zD (by decide +kernel) ?_ | refine zE (by decide +kernel) ?_ | refine zG (by decide +kernel) ?_)); intro K hK) | (refine zw (v := ?_) hKk (by first | exact .inl rfl | exact .inr rfl) ?_ ?_ ?_; rotate_left; (focus ((try simp (disch := omega) only [go_sem, wn, r1, r4]) <;> (try omega) <;> fail)); (focus ((try simp (disch := omega) only [go_sem, wn, r1, r4]) <;> (first | done | exact rfl))); clear hKk Kk) | ((first | (with_reducible refine zu ?_ ?_ <;> intro hg) | with_reducible intro hg) <;> (first | (exfalso; simp at hg; done) | (have hg' := hg; (try simp only [hcs, beq_iff_eq, ge_iff_le, gt_iff_lt] at hg'); (try simp only [hg]))))) <;> (try simp (disch := omega) only [go_sem, wn, r1, r4]) <;> (repeat' with_reducible refine And.intro ?_ ?_) <;> (try (with_reducible refine hK _ ?_; clear hK K)))
| omega)
  have htk : ∀ X : List (List DV), List.take (keptW e ws).length (List.take (keptW e ws).length (List.map AWatch.row R) ++ X) = List.map AWatch.row (keptW e ws) := fun X => by
    rw [List.take_append_of_le_length (by rw [List.length_take, List.length_map]; omega), List.take_take, Nat.min_self, ← List.map_take, r2]
  refine ⟨k + 1, by omega, by omega, SImp.trans (SImp.tail 0 (keptW e ws).length rfl) ?_⟩
  rw [hs]
  simp only [stepF, List.append_assoc]
  (refine SImp.frame [0, 1, 4] rfl (by intro k hk; first | (simp at hk <;> (simp; omega)) | (simp only [List.mem_cons, List.not_mem_nil, or_false] at hk; simp only [List.length_cons, List.length_nil]; omega)) (by decide) (fun k hk => by first | omega | (rcases k with _ | _ | _ | _ | _ | _ | _ | _ | k <;> first | rfl | omega)) ?_ ?_ <;> simp (disch := omega) only [go_sem, wn, Int.natCast_add, htk] <;> (try rfl))
set_option maxHeartbeats 8000000 in
theorem ref_fire_c (l : List AWatch) (es : List AEvent) (h : l.length * 32 ≤ 140737488351232) (he : es.length * 24 ≤ 140737488351232) : acall Tryz.prog [] 16 [.d (.sl 3 (l.map AWatch.row)), .d (.sl 2 (es.map AEvent.row))]
    (ret (.tup [.d (.sl 3 ((fireW l es).1.map ANote.row)), .d (.sl 3 ((fireW l es).2.map AWatch.row))])) := by
  refine zi tabOk Tryz.func16 rfl (by kernel_rfl) (by simp [Tryz.ntmps16]) ?_; simp only [Tryz.ntmps16, Tryz.results16, List.toList_toArray, apar, List.length_nil, List.length_cons, Nat.reduceAdd]
  (repeat' first
| (with_reducible refine AR.f ?_)
| refine zb (by decide) ?_
| (with_reducible refine AWP.cond rfl ?_ ?_ <;> intro hc <;> (try simp only [hcs, beq_iff_eq, ge_iff_le, gt_iff_lt] at hc))
| ((first | ((first | (with_reducible first | refine zR ?_ | refine zQ (by decide +kernel) ?_ | refine zD (by decide +kernel) ?_ | refine zE (by decide +kernel) ?_ | refine zG (by decide +kernel) ?_)); intro K hK) | ((first | (with_reducible refine zu ?_ ?_ <;> intro hg) | with_reducible intro hg) <;> (first | (exfalso; simp at hg; done) | (have hg' := hg; (try simp only [hcs, beq_iff_eq, ge_iff_le, gt_iff_lt] at hg'); (try simp only [hg]))))) <;> (try simp (disch := omega) only [go_sem, wn]) <;> (repeat' with_reducible refine And.intro ?_ ?_) <;> (try (with_reducible refine hK _ ?_; clear hK K)))
| omega)
  refine AWP.weaken (SImp.nilOwn 6 3 rfl) ?_
  simp only [go_sem]
  refine AWP.loopB (ι := Nat) (fun k => k ≤ es.length) (fun k => es.length - k) [14, 15] (fun k => [(0, .d (.sl 3 ((fireW l (es.take k)).2.map AWatch.row))), (6, .osl 0 3 0 (fireW l (es.take k)).1.length), (16, I k)]) (fun k => [.rows 3 ((fireW l (es.take k)).1.map ANote.row)]) 0 ?_ ?_ ?_
  · omega
  · simp only [go_sem]; (refine SImp.same ?_; simp (disch := omega) only [go_sem, wn, Int.natCast_add, fireW, List.foldl_nil])
  intro k hk
  simp only [go_sem]
  by_cases hk2 : k < es.length
  case neg =>
    have hke : k = es.length := by omega
    subst hke
    rw [List.take_length]
    generalize hpe : fireW l es = p
    obtain ⟨ns, ws⟩ := p
    have t1 : List.take ns.length (ns.map ANote.row) = ns.map ANote.row := List.take_of_length_le (by simp)
    have t2 : List.take ws.length (ws.map AWatch.row) = ws.map AWatch.row := List.take_of_length_le (by simp)
    have hwl : ws.length * 32 ≤ 140737488351232 := by have := fire_len l es; rw [hpe] at this; simp only at this; omega
    (repeat' first
  | (with_reducible refine AR.f ?_)
  | refine zb (by decide) ?_
  | (with_reducible refine AWP.cond rfl ?_ ?_ <;> intro hc <;> (try simp only [hcs, beq_iff_eq, ge_iff_le, gt_iff_lt] at hc))
  | ((first | ((first | (with_reducible first | refine zR ?_ | refine zQ (by decide +kernel) ?_ | refine zD (by decide +kernel) ?_ | refine zE (by decide +kernel) ?_ | refine zG (by decide +kernel) ?_)); intro K hK) | ((first | (with_reducible refine zu ?_ ?_ <;> intro hg) | with_reducible intro hg) <;> (first | (exfalso; simp at hg; done) | (have hg' := hg; (try simp only [hcs, beq_iff_eq, ge_iff_le, gt_iff_lt] at hg'); (try simp only [hg]))))) <;> (try simp (disch := omega) only [go_sem, wn, t1, t2]) <;> (repeat' with_reducible refine And.intro ?_ ?_) <;> (try (with_reducible refine hK _ ?_; clear hK K)))
  | omega)
    all_goals (refine zF rfl ?_ ?_ ?_ ?_; (iterate 3 (focus ((try simp (disch := omega) only [go_sem, wn, t1, t2]) <;> (try omega) <;> fail))); (try simp (disch := omega) only [go_sem, wn, t1, t2, I, B, S, inj, List.cons.injEq, and_true, true_and, and_self]))
  have hs := fire_snoc l es k hk2
  have hl := fire_len l (es.take k)
  generalize fireW l (es.take k) = p at hs hl ⊢
  obtain ⟨ns, ws⟩ := p
  simp only at hl ⊢
  (repeat' first
| (with_reducible refine AR.f ?_)
| refine zb (by decide) ?_
| (with_reducible refine AWP.cond rfl ?_ ?_ <;> intro hc <;> (try simp only [hcs, beq_iff_eq, ge_iff_le, gt_iff_lt] at hc))
| ((first | ((first | (with_reducible first | refine zR ?_ | refine zQ (by decide +kernel) ?_ | refine zD (by decide +kernel) ?_ | refine zE (by decide +kernel) ?_ | refine zG (by decide +kernel) ?_)); intro K hK) | ((first | (with_reducible refine zu ?_ ?_ <;> intro hg) | with_reducible intro hg) <;> (first | (exfalso; simp at hg; done) | (have hg' := hg; (try simp only [hcs, beq_iff_eq, ge_iff_le, gt_iff_lt] at hg'); (try simp only [hg]))))) <;> (try simp (disch := omega) only [go_sem, wn]) <;> (repeat' with_reducible refine And.intro ?_ ?_) <;> (try (with_reducible refine hK _ ?_; clear hK K)))
| omega)
  generalize es.getD k default = e at hs ⊢
  refine AWP.weaken (SImp.nilOwn 9 3 rfl) ?_
  simp only [go_sem]
  refine AWP.loopB (ι := Nat) (fun j => j ≤ ws.length) (fun j => ws.length - j) [14, 15, 16, 20, 21] (fun j => [(6, .osl 0 3 0 (ns ++ toldW e (ws.take j)).length), (8, .ptr 1 0), (9, .osl 2 3 0 (keptW e (ws.take j)).length), (22, I j)]) (fun j => [.rows 3 ((ns ++ toldW e (ws.take j)).map ANote.row), .cells [I e.kind, S e.path], .rows 3 ((keptW e (ws.take j)).map AWatch.row)]) 0 ?_ ?_ ?_
  · omega
  · simp only [go_sem, toldW, keptW, List.take_zero, List.filter_nil, List.map_nil, List.append_nil]; (refine SImp.same ?_; simp (disch := omega) only [go_sem, wn, Int.natCast_add])
  intro j hj
  simp only [go_sem]
  by_cases hj3 : j < ws.length
  case neg =>
    have hje : j = ws.length := by omega
    subst hje
    rw [List.take_length]
    (repeat' first
  | (with_reducible refine AR.f ?_)
  | refine zb (by decide) ?_
  | (with_reducible refine AWP.cond rfl ?_ ?_ <;> intro hc <;> (try simp only [hcs, beq_iff_eq, ge_iff_le, gt_iff_lt] at hc))
  | ((first | ((first | (with_reducible first | refine zR ?_ | refine zQ (by decide +kernel) ?_ | refine zD (by decide +kernel) ?_ | refine zE (by decide +kernel) ?_ | refine zG (by decide +kernel) ?_)); intro K hK) | ((first | (with_reducible refine zu ?_ ?_ <;> intro hg) | with_reducible intro hg) <;> (first | (exfalso; simp at hg; done) | (have hg' := hg; (try simp only [hcs, beq_iff_eq, ge_iff_le, gt_iff_lt] at hg'); (try simp only [hg]))))) <;> (try simp (disch := omega) only [go_sem, wn]) <;> (repeat' with_reducible refine And.intro ?_ ?_) <;> (try (with_reducible refine hK _ ?_; clear hK K)))
  | omega)
    refine ⟨k + 1, by omega, by omega, SImp.trans (SImp.frz1 0 2 rfl rfl rfl (by simp)) ?_⟩
    rw [hs]
    have t2 : List.take (keptW e ws).length ((keptW e ws).map AWatch.row) = (keptW e ws).map AWatch.row := List.take_of_length_le (by simp)
    simp only [stepF]
    (refine SImp.frame [0] rfl (by intro k hk; first | (simp at hk <;> (simp; omega)) | (simp only [List.mem_cons, List.not_mem_nil, or_false] at hk; simp only [List.length_cons, List.length_nil]; omega)) (by decide) (fun k hk => by first | omega | (rcases k with _ | _ | _ | _ | _ | _ | _ | _ | k <;> first | rfl | omega)) ?_ ?_ <;> simp (disch := omega) only [go_sem, wn, Int.natCast_add, t2] <;> (try rfl))
  have hRj : ∀ z, List.getD (List.map AWatch.row ws) j z = (ws.getD j default).row := fun z => AWatch.rgetD ws j z hj3
  have hks := kept_snoc e ws j hj3
  have hts := told_snoc e ws j hj3
  have hkl := kept_told e (ws.take j)
  rw [List.length_take] at hkl
  have htn : List.take (ns.length + (toldW e (ws.take j)).length) (List.map ANote.row (ns ++ toldW e (ws.take j))) = List.map ANote.row (ns ++ toldW e (ws.take j)) := List.take_of_length_le (by simp)
  have hkn : List.take (keptW e (ws.take j)).length (List.map AWatch.row (keptW e (ws.take j))) = List.map AWatch.row (keptW e (ws.take j)) := List.take_of_length_le (by simp)
  generalize hw : ws.getD j default = w at hRj hks hts
  (repeat' first
| (with_reducible refine AR.f ?_)
| refine zb (by decide) ?_
| (with_reducible refine AWP.cond rfl ?_ ?_ <;> intro hc <;> (try simp only [hcs, beq_iff_eq, ge_iff_le, gt_iff_lt] at hc))
| ((first | ((first | (with_reducible first | refine zR ?_ | refine zQ (by decide +kernel) ?_ | refine zD (by decide +kernel) ?_ | refine zE (by decide +kernel) ?_ | refine zG (by decide +kernel) ?_)); intro K hK) | ((first | (with_reducible refine zu ?_ ?_ <;> intro hg) | with_reducible intro hg) <;> (first | (exfalso; simp at hg; done) | (have hg' := hg; (try simp only [hcs, beq_iff_eq, ge_iff_le, gt_iff_lt] at hg'); (try simp only [hg]))))) <;> (try simp (disch := omega) only [go_sem, wn, hRj, AWatch.row, htn, hkn]) <;> (repeat' with_reducible refine And.intro ?_ ?_) <;> (try (with_reducible refine hK _ ?_; clear hK K)))
| omega)
  · have hh : touW e w = true := by
      unfold touW; rw [if_pos hc.1]
      by_cases e2 : w.kind = 2
      · rw [if_pos e2]; rcases hc.2 with h | h
        · exact absurd e2 h.1
        · simpa using h.2
      · rw [if_neg e2]; rcases hc.2 with h | h
        · have := h.2; simp only [Bool.or_eq_true, decide_eq_true_eq]; omega
        · exact absurd h.1 e2
    rw [if_pos hh] at hks hts
    refine ⟨j + 1, by omega, by omega, ?_⟩
    rw [hks, hts]
    (refine SImp.frame [5, 1, 2] rfl (by intro k hk; first | (simp at hk <;> (simp; omega)) | (simp only [List.mem_cons, List.not_mem_nil, or_false] at hk; simp only [List.length_cons, List.length_nil]; omega)) (by decide) (fun k hk => by first | omega | (rcases k with _ | _ | _ | _ | _ | _ | _ | _ | k <;> first | rfl | omega)) ?_ ?_ <;> simp (disch := omega) only [go_sem, wn, Int.natCast_add, ANote.row, List.map_append, List.map_cons, List.map_nil, List.append_assoc, Nat.add_assoc] <;> (try rfl))
  · have hh : ¬ touW e w = true := by
      unfold touW
      by_cases e1 : w.path = e.path
      · rw [if_pos e1]
        have hc2 := hc.resolve_left (fun h => h e1)
        by_cases e2 : w.kind = 2
        · rw [if_pos e2]; have := hc2.2; simp only [Bool.or_eq_true, decide_eq_true_eq]; omega
        · rw [if_neg e2]; have := hc2.1; simp only [Bool.or_eq_true, decide_eq_true_eq]; omega
      · rw [if_neg e1]; decide
    rw [if_neg hh] at hks hts
    refine ⟨j + 1, by omega, by omega, ?_⟩
    rw [hks, hts]
    (refine SImp.frame [0, 1, 5] rfl (by intro k hk; first | (simp at hk <;> (simp; omega)) | (simp only [List.mem_cons, List.not_mem_nil, or_false] at hk; simp only [List.length_cons, List.length_nil]; omega)) (by decide) (fun k hk => by first | omega | (rcases k with _ | _ | _ | _ | _ | _ | _ | _ | k <;> first | rfl | omega)) ?_ ?_ <;> simp (disch := omega) only [go_sem, wn, Int.natCast_add, AWatch.row, List.map_append, List.map_cons, List.map_nil, List.length_append] <;> (try rfl))
theorem same_notes_c (a b : List ANote) (h : a.length * 32 ≤ 140737488351232) (h2 : b.length * 32 ≤ 140737488351232) : acall Tryz.prog [] 8 [.d (.sl 3 (a.map ANote.row)), .d (.sl 3 (b.map ANote.row))] (ret (B (decide (a = b)))) := by
  refine zi tabOk Tryz.func8 rfl (by kernel_rfl) (by simp [Tryz.ntmps8]) ?_; simp only [Tryz.ntmps8, Tryz.results8, List.toList_toArray, apar, List.length_nil, List.length_cons, Nat.reduceAdd]
  (repeat' first
| (with_reducible refine AR.f ?_)
| refine zb (by decide) ?_
| (with_reducible refine AWP.cond rfl ?_ ?_ <;> intro hc <;> (try simp only [hcs, beq_iff_eq, ge_iff_le, gt_iff_lt] at hc))
| ((first | ((first | (with_reducible first | refine zR ?_ | refine zQ (by decide +kernel) ?_ | refine zD (by decide +kernel) ?_ | refine zE (by decide +kernel) ?_ | refine zG (by decide +kernel) ?_)); intro K hK) | ((first | (with_reducible refine zu ?_ ?_ <;> intro hg) | with_reducible intro hg) <;> (first | (exfalso; simp at hg; done) | (have hg' := hg; (try simp only [hcs, beq_iff_eq, ge_iff_le, gt_iff_lt] at hg'); (try simp only [hg]))))) <;> (try simp (disch := omega) only [go_sem, wn]) <;> (repeat' with_reducible refine And.intro ?_ ?_) <;> (try (with_reducible refine hK _ ?_; clear hK K)))
| omega)
  · (refine zF rfl ?_ ?_ ?_ ?_; (iterate 3 (focus ((try simp (disch := omega) only [go_sem, wn]) <;> (try omega) <;> fail))); (try simp (disch := omega) only [go_sem, wn, I, B, S, inj, List.cons.injEq, and_true, true_and, and_self]))
    symm; rw [decide_eq_false_iff_not]; intro e; subst e; simp at hc
  have h3 := hc
  refine AWP.loopS (ι := Nat) (fun k => k ≤ a.length ∧ ∀ j, j < k → a.getD j default = b.getD j default) (fun k => a.length - k) [0, 1, 12] (fun k => [(13, I k)]) 0 ?_ (by simp (disch := omega) only [go_sem, wn, true_and]) ?_
  · exact ⟨by omega, by omega⟩
  intro k ⟨hk, hk2⟩
  simp only [go_sem]
  (repeat' first
| (with_reducible refine AR.f ?_)
| refine zb (by decide) ?_
| (with_reducible refine AWP.cond rfl ?_ ?_ <;> intro hc <;> (try simp only [hcs, beq_iff_eq, ge_iff_le, gt_iff_lt] at hc))
| ((first | ((first | (with_reducible first | refine zR ?_ | refine zQ (by decide +kernel) ?_ | refine zD (by decide +kernel) ?_ | refine zE (by decide +kernel) ?_ | refine zG (by decide +kernel) ?_)); intro K hK) | ((first | (with_reducible refine zu ?_ ?_ <;> intro hg) | with_reducible intro hg) <;> (first | (exfalso; simp at hg; done) | (have hg' := hg; (try simp only [hcs, beq_iff_eq, ge_iff_le, gt_iff_lt] at hg'); (try simp only [hg]))))) <;> (try simp (disch := omega) only [go_sem, wn, ANote.rgetD]) <;> (repeat' with_reducible refine And.intro ?_ ?_) <;> (try (with_reducible refine hK _ ?_; clear hK K)))
| omega)
  · (refine zF rfl ?_ ?_ ?_ ?_; (iterate 3 (focus ((try simp (disch := omega) only [go_sem, wn]) <;> (try omega) <;> fail))); (try simp (disch := omega) only [go_sem, wn, I, B, S, inj, List.cons.injEq, and_true, true_and, and_self]))
    symm; rw [decide_eq_false_iff_not]; intro e; subst e; simp at hc
  · refine ⟨k + 1, ⟨by omega, fun j hj => ?_⟩, by omega, ?_⟩
    · by_cases e : j = k
      · subst e; first | exact hc | exact (ANote.ext_iff _ _).2 hc | (rw [ANote.ext_iff, AEvent.ext_iff]; simp_all)
      · exact hk2 j (by omega)
    (refine SImp.same ?_; simp (disch := omega) only [go_sem, wn, Int.natCast_add])
  · (refine zF rfl ?_ ?_ ?_ ?_; (iterate 3 (focus ((try simp (disch := omega) only [go_sem, wn]) <;> (try omega) <;> fail))); (try simp (disch := omega) only [go_sem, wn, I, B, S, inj, List.cons.injEq, and_true, true_and, and_self]))
    symm; rw [decide_eq_true_eq]
    exact eq_of_getD (by omega) fun j hj => hk2 j (by omega)
end Go.Proofs.YtmpfhalheaeibaaGreatDoor
namespace Go.Proofs.YtmpfhalheaeibaaGreatDoor
set_option linter.unusedVariables false
set_option linter.unusedSimpArgs false
open Go Go.RowKit
set_option maxRecDepth 100000
set_option linter.unusedSimpArgs false
structure CSt where
  t : ATree
  w : List AWatch
  n : List ANote
def nextC (q : ATree × List AEvent × Int) (p : CSt) (x : ATxn) : CSt := ⟨q.1, if x.op = 2 then dropW (fireW p.w q.2.1).2 x.session else (fireW p.w q.2.1).2, p.n ++ (fireW p.w q.2.1).1⟩
def runC : List ATxn → CSt → CSt × Int
  | [], p => (p, 0)
  | x :: r, p => if (applyT p.t x).2.2 = 0 then runC r (nextC (applyT p.t x) p x) else (p, (applyT p.t x).2.2)
def commitS (s : AServer) (n : Int) : AServer × List ANote × Int :=
  if s.peer.done < 0 ∨ n < s.peer.done ∨ s.peer.log.length < n then (default, [], 3) else
  let q := runC ((s.peer.log.drop s.peer.done.toNat).take (n.toNat - s.peer.done.toNat)) ⟨s.tree, s.watches, []⟩
  if q.2 = 0 then (⟨s.up, s.disk, ⟨s.peer.id, s.peer.epoch, s.peer.log, n⟩, q.1.t, q.1.w⟩, q.1.n, 0) else (default, [], q.2)
theorem runC_cons {x : ATxn} {r : List ATxn} {p : CSt} (h : (applyT p.t x).2.2 = 0) : runC (x :: r) p = runC r (nextC (applyT p.t x) p x) := by rw [runC, if_pos h]
theorem runC_stop {x : ATxn} {r : List ATxn} {p : CSt} (h : ¬ (applyT p.t x).2.2 = 0) : runC (x :: r) p = (p, (applyT p.t x).2.2) := by rw [runC, if_neg h]
theorem drop_len (l : List AWatch) (s : Int) : (dropW l s).length ≤ l.length := List.length_filter_le _ _
theorem nextC_len (q : ATree × List AEvent × Int) (p : CSt) (x : ATxn) : (nextC q p x).n.length + (nextC q p x).w.length ≤ p.n.length + p.w.length := by
  have h := fire_len p.w q.2.1
  unfold nextC
  simp only [List.length_append]
  split
  · have := drop_len (fireW p.w q.2.1).2 x.session; omega
  · omega
theorem drop_cons (l : List ATxn) (k : Nat) (h : k < l.length) : l.drop k = l.getD k default :: l.drop (k + 1) := by
  rw [List.drop_eq_getElem_cons h, List.getD_eq_getElem?_getD, List.getElem?_eq_getElem h]; rfl
theorem nextC_ok {p : CSt} {x : ATxn} (h : okT p.t) (hx : x.wf) (hp : x.path.length ≤ 1048576) : okT (nextC (applyT p.t x) p x).t := apply_okT h hx hp
set_option maxHeartbeats 8000000 in
theorem commit_c (s : AServer) (n : Int) (hw : s.wf) (ht : okT s.tree) (hx : ∀ x, x ∈ s.peer.log → x.path.length ≤ 1048576) : acall Tryz.prog [] 4 [s.av, I n] (ret (.tup [(commitS s n).1.av, .d (.sl 3 ((commitS s n).2.1.map ANote.row)), I (commitS s n).2.2])) := by
  obtain ⟨_, h1, h2, h3, h4⟩ := hw
  have hl7 := h2.2.2.1.1
  by_cases hb : s.peer.done < 0 ∨ n < s.peer.done ∨ s.peer.log.length < n
  · unfold commitS; rw [if_pos hb]
    refine zi tabOk Tryz.func4 rfl (by kernel_rfl) (by simp [Tryz.ntmps4]) ?_; simp only [Tryz.ntmps4, Tryz.results4, List.toList_toArray, apar, List.length_nil, List.length_cons, Nat.reduceAdd]
    (repeat' first
  | (with_reducible refine AR.f ?_)
  | refine zb (by decide) ?_
  | (with_reducible refine AWP.cond rfl ?_ ?_ <;> intro hc <;> (try simp only [hcs, beq_iff_eq, ge_iff_le, gt_iff_lt] at hc))
  | ((first | ((first | (with_reducible first | refine zR ?_ | refine zQ (by decide +kernel) ?_ | refine zD (by decide +kernel) ?_ | refine zE (by decide +kernel) ?_ | refine zG (by decide +kernel) ?_)); intro K hK) | ((first | (with_reducible refine zu ?_ ?_ <;> intro hg) | with_reducible intro hg) <;> (first | (exfalso; simp at hg; done) | (have hg' := hg; (try simp only [hcs, beq_iff_eq, ge_iff_le, gt_iff_lt] at hg'); (try simp only [hg]))))) <;> (try simp (disch := omega) only [go_sem, wn]) <;> (repeat' with_reducible refine And.intro ?_ ?_) <;> (try (with_reducible refine hK _ ?_; clear hK K)))
  | omega)
    all_goals first | (exfalso; omega) | skip
    all_goals (refine zF rfl ?_ ?_ ?_ ?_; (iterate 3 (focus ((try simp (disch := omega) only [go_sem, wn, default]) <;> (try omega) <;> fail))); (try simp (disch := omega) only [go_sem, wn, default, I, B, S, inj, List.cons.injEq, and_true, true_and, and_self]))
  unfold commitS; rw [if_neg hb]
  have hd0 : 0 ≤ s.peer.done := by omega
  have q1 : (s.peer.done : Int) = ((s.peer.done.toNat : Nat) : Int) := by omega
  have q2 : n = ((n.toNat : Nat) : Int) := by omega
  have q3 : s.peer.done.toNat ≤ n.toNat := by omega
  have q4 : n.toNat ≤ s.peer.log.length := by omega
  have hX : ∀ x, x ∈ (s.peer.log.drop s.peer.done.toNat).take (n.toNat - s.peer.done.toNat) → x.wf ∧ x.path.length ≤ 1048576 := fun x hm => by
    have hm2 := List.mem_of_mem_drop (List.mem_of_mem_take hm)
    exact ⟨h2.2.2.1.2 x hm2, hx x hm2⟩
  have hXl : ((s.peer.log.drop s.peer.done.toNat).take (n.toNat - s.peer.done.toNat)).length = n.toNat - s.peer.done.toNat := by rw [List.length_take, List.length_drop]; omega
  have hXe : List.take (n.toNat - s.peer.done.toNat) (List.drop s.peer.done.toNat (s.peer.log.map ATxn.row)) = ((s.peer.log.drop s.peer.done.toNat).take (n.toNat - s.peer.done.toNat)).map ATxn.row := by rw [List.map_take, List.map_drop]
  generalize (s.peer.log.drop s.peer.done.toNat).take (n.toNat - s.peer.done.toNat) = X at hX hXl hXe ⊢
  generalize hF : runC X ⟨s.tree, s.watches, []⟩ = F
  simp only
  refine zi tabOk Tryz.func4 rfl (by kernel_rfl) (by simp [Tryz.ntmps4]) ?_; simp only [Tryz.ntmps4, Tryz.results4, List.toList_toArray, apar, List.length_nil, List.length_cons, Nat.reduceAdd]
  (repeat' first
| (with_reducible refine AR.f ?_)
| refine zb (by decide) ?_
| (with_reducible refine AWP.cond rfl ?_ ?_ <;> intro hc <;> (try simp only [hcs, beq_iff_eq, ge_iff_le, gt_iff_lt] at hc))
| ((first | ((first | (with_reducible first | refine zR ?_ | refine zQ (by decide +kernel) ?_ | refine zD (by decide +kernel) ?_ | refine zE (by decide +kernel) ?_ | refine zG (by decide +kernel) ?_)); intro K hK) | ((first | (with_reducible refine zu ?_ ?_ <;> intro hg) | with_reducible intro hg) <;> (first | (exfalso; simp at hg; done) | (have hg' := hg; (try simp only [hcs, beq_iff_eq, ge_iff_le, gt_iff_lt] at hg'); (try simp only [hg]))))) <;> (try simp (disch := omega) only [go_sem, wn, hXe]) <;> (repeat' with_reducible refine And.intro ?_ ?_) <;> (try (with_reducible refine hK _ ?_; clear hK K)))
| omega)
  all_goals first | (exfalso; omega) | skip
  refine AWP.weaken (SImp.nilOwn 7 3 rfl) ?_
  simp only [go_sem]
  refine AWP.loopB (ι := Nat × CSt) (fun v => v.1 ≤ X.length ∧ runC (X.drop v.1) v.2 = F ∧ okT v.2.t ∧ v.2.n.length + v.2.w.length ≤ s.watches.length) (fun v => X.length - v.1) [1, 42, 43] (fun v => [(2, .ptr 0 0), (4, .ptr 1 0), (7, .osl 2 3 0 v.2.n.length), (44, I v.1)]) (fun v => [.cells [B s.up, .d (.sl 3 (s.disk.files.map AFile.row)), I s.peer.id, I s.peer.epoch, .d (.sl 7 (s.peer.log.map ATxn.row)), I s.peer.done, I v.2.t.zxid, .d (.sl 9 (v.2.t.nodes.map ANode.row)), .d (.sl 1 (v.2.t.sessions.map irow)), .d (.sl 3 (v.2.w.map AWatch.row))], .cells [B false, .d (.sc (.slice none 0 0)), I 0, I 0, .d (.sc (.slice none 0 0)), I 0, I 0, .d (.sc (.slice none 0 0)), .d (.sc (.slice none 0 0)), .d (.sc (.slice none 0 0))], .rows 3 (v.2.n.map ANote.row)]) (0, ⟨s.tree, s.watches, []⟩) ?_ ?_ ?_
  · exact ⟨Nat.zero_le _, hF, ht, by simp⟩
  · simp only [go_sem]; (refine SImp.same ?_; simp (disch := omega) only [go_sem, wn, Int.natCast_add])
  intro ⟨k, p⟩ ⟨hk, hr, hok, hlen⟩
  simp only at hk hr hok hlen
  simp only [go_sem]
  by_cases hk2 : k < X.length
  case neg =>
    have hke : k = X.length := by omega
    subst hke
    rw [List.drop_length] at hr
    subst hr
    simp only [runC, if_true]
    have t1 : List.take p.n.length (p.n.map ANote.row) = p.n.map ANote.row := List.take_of_length_le (by simp)
    (repeat' first
  | (with_reducible refine AR.f ?_)
  | refine zb (by decide) ?_
  | (with_reducible refine AWP.cond rfl ?_ ?_ <;> intro hc <;> (try simp only [hcs, beq_iff_eq, ge_iff_le, gt_iff_lt] at hc))
  | ((first | ((first | (with_reducible first | refine zR ?_ | refine zQ (by decide +kernel) ?_ | refine zD (by decide +kernel) ?_ | refine zE (by decide +kernel) ?_ | refine zG (by decide +kernel) ?_)); intro K hK) | ((first | (with_reducible refine zu ?_ ?_ <;> intro hg) | with_reducible intro hg) <;> (first | (exfalso; simp at hg; done) | (have hg' := hg; (try simp only [hcs, beq_iff_eq, ge_iff_le, gt_iff_lt] at hg'); (try simp only [hg]))))) <;> (try simp (disch := omega) only [go_sem, wn, t1]) <;> (repeat' with_reducible refine And.intro ?_ ?_) <;> (try (with_reducible refine hK _ ?_; clear hK K)))
  | omega)
    all_goals (refine zF rfl ?_ ?_ ?_ ?_; (iterate 3 (focus ((try simp (disch := omega) only [go_sem, wn, t1]) <;> (try omega) <;> fail))); (try simp (disch := omega) only [go_sem, wn, t1, I, B, S, inj, List.cons.injEq, and_true, true_and, and_self]))
  obtain ⟨x1, x2⟩ := hX _ (mem_getD X default hk2)
  rw [drop_cons X k hk2] at hr
  have hrow : ∀ z, List.getD (List.map ATxn.row X) k z = (X.getD k default).row := fun z => ATxn.rgetD X k z hk2
  generalize X.getD k default = x at hr x1 x2 hrow
  have hok2 := nextC_ok hok x1 x2
  have hev := apply_ev (t := p.t) (x := x)
  have ha := apply_c p.t x hok.1 x1.2.2.2.1 x1.2.2.2.2.1
  have hwl : p.w.length * 32 ≤ 140737488351232 := by have := h4.1; omega
  by_cases he : (applyT p.t x).2.2 = 0
  case neg =>
    rw [runC_stop he] at hr
    subst hr
    generalize applyT p.t x = q at he ha
    obtain ⟨a, es, e⟩ := q
    simp only at he ha
    simp only [if_neg he]
    (repeat' first
  | (with_reducible refine AR.f ?_)
  | refine zb (by decide) ?_
  | (with_reducible refine AWP.cond rfl ?_ ?_ <;> intro hc <;> (try simp only [hcs, beq_iff_eq, ge_iff_le, gt_iff_lt] at hc))
  | ((first | ((first | (with_reducible first | refine zR ?_ | refine zQ (by decide +kernel) ?_ | refine zD (by decide +kernel) ?_ | refine zE (by decide +kernel) ?_ | refine zG (by decide +kernel) ?_)); intro K hK) | ((first | refine zA ha ?_ ?_ ?_ ?_ ?_); (focus exact rfl); (focus exact rfl); iterate 2 (focus ((try simp (disch := omega) only [go_sem, wn, hrow, ATxn.row]) <;> (try omega) <;> fail))) | ((first | refine zN ha rfl ?_ ?_); (focus ((try simp (disch := omega) only [go_sem, wn, hrow, ATxn.row]) <;> (try omega) <;> fail))) | (first | ((first | refine zX ha rfl ?_ ?_ | refine zy ha ?_ ?_); (focus ((try simp (disch := omega) only [go_sem, wn, hrow, ATxn.row]) <;> (try omega) <;> fail)))) | ((first | (with_reducible refine zu ?_ ?_ <;> intro hg) | with_reducible intro hg) <;> (first | (exfalso; simp at hg; done) | (have hg' := hg; (try simp only [hcs, beq_iff_eq, ge_iff_le, gt_iff_lt] at hg'); (try simp only [hg]))))) <;> (try simp (disch := omega) only [go_sem, wn, hrow, ATxn.row]) <;> (repeat' with_reducible refine And.intro ?_ ?_) <;> (try (with_reducible refine hK _ ?_; clear hK K)))
  | omega)
    all_goals first | exact absurd hc he | skip
    all_goals (refine zF rfl ?_ ?_ ?_ ?_; (iterate 3 (focus ((try simp (disch := omega) only [go_sem, wn, default]) <;> (try omega) <;> fail))); (try simp (disch := omega) only [go_sem, wn, default, I, B, S, inj, List.cons.injEq, and_true, true_and, and_self]))
  rw [runC_cons he] at hr
  generalize applyT p.t x = q at he ha hr hok2 hev
  obtain ⟨a, es, e⟩ := q
  simp only at he ha hev
  subst he
  have hnl := nextC_len (a, es, 0) p x
  have hf := fire_c p.w es hwl (by omega)
  have hfl := fire_len p.w es
  have hdr := drop_c (fireW p.w es).2 x.session (by omega)
  have hnx : nextC (a, es, 0) p x = ⟨a, if x.op = 2 then dropW (fireW p.w es).2 x.session else (fireW p.w es).2, p.n ++ (fireW p.w es).1⟩ := rfl
  generalize fireW p.w es = f at hf hfl hdr hnx
  obtain ⟨fn, fl⟩ := f
  simp only at hf hfl hdr hnx
  have t1 : List.take p.n.length (p.n.map ANote.row) = p.n.map ANote.row := List.take_of_length_le (by simp)
  (repeat' first
| (with_reducible refine AR.f ?_)
| refine zb (by decide) ?_
| (with_reducible refine AWP.cond rfl ?_ ?_ <;> intro hc <;> (try simp only [hcs, beq_iff_eq, ge_iff_le, gt_iff_lt] at hc))
| ((first | ((first | (with_reducible first | refine zR ?_ | refine zQ (by decide +kernel) ?_ | refine zD (by decide +kernel) ?_ | refine zE (by decide +kernel) ?_ | refine zG (by decide +kernel) ?_)); intro K hK) | ((first | refine zA ha ?_ ?_ ?_ ?_ ?_ | refine zA hf ?_ ?_ ?_ ?_ ?_ | refine zA hdr ?_ ?_ ?_ ?_ ?_); (focus exact rfl); (focus exact rfl); iterate 2 (focus ((try simp (disch := omega) only [go_sem, wn, hrow, ATxn.row, t1]) <;> (try omega) <;> fail))) | ((first | refine zN ha rfl ?_ ?_ | refine zN hf rfl ?_ ?_ | refine zN hdr rfl ?_ ?_); (focus ((try simp (disch := omega) only [go_sem, wn, hrow, ATxn.row, t1]) <;> (try omega) <;> fail))) | (first | ((first | refine zX ha rfl ?_ ?_ | refine zy ha ?_ ?_); (focus ((try simp (disch := omega) only [go_sem, wn, hrow, ATxn.row, t1]) <;> (try omega) <;> fail))) | ((first | refine zX hf rfl ?_ ?_ | refine zy hf ?_ ?_); (focus ((try simp (disch := omega) only [go_sem, wn, hrow, ATxn.row, t1]) <;> (try omega) <;> fail))) | ((first | refine zX hdr rfl ?_ ?_ | refine zy hdr ?_ ?_); (focus ((try simp (disch := omega) only [go_sem, wn, hrow, ATxn.row, t1]) <;> (try omega) <;> fail)))) | ((first | (with_reducible refine zu ?_ ?_ <;> intro hg) | with_reducible intro hg) <;> (first | (exfalso; simp at hg; done) | (have hg' := hg; (try simp only [hcs, beq_iff_eq, ge_iff_le, gt_iff_lt] at hg'); (try simp only [hg]))))) <;> (try simp (disch := omega) only [go_sem, wn, hrow, ATxn.row, t1]) <;> (repeat' with_reducible refine And.intro ?_ ?_) <;> (try (with_reducible refine hK _ ?_; clear hK K)))
| omega)
  · refine ⟨(k + 1, nextC (a, es, 0) p x), ⟨by simp only; omega, hr, hok2, by simp only; omega⟩, by simp only; omega, ?_⟩
    rw [hnx]
    simp only [if_pos hc]
    (refine SImp.frame [0, 1, 5] rfl (by intro k hk; first | (simp at hk <;> (simp; omega)) | (simp only [List.mem_cons, List.not_mem_nil, or_false] at hk; simp only [List.length_cons, List.length_nil]; omega)) (by decide) (fun k hk => by first | omega | (rcases k with _ | _ | _ | _ | _ | _ | _ | _ | k <;> first | rfl | omega)) ?_ ?_ <;> simp (disch := omega) only [go_sem, wn, Int.natCast_add, t1, List.map_append, List.length_append] <;> (try rfl))
  · refine ⟨(k + 1, nextC (a, es, 0) p x), ⟨by simp only; omega, hr, hok2, by simp only; omega⟩, by simp only; omega, ?_⟩
    rw [hnx]
    simp only [if_neg hc]
    (refine SImp.frame [0, 1, 5] rfl (by intro k hk; first | (simp at hk <;> (simp; omega)) | (simp only [List.mem_cons, List.not_mem_nil, or_false] at hk; simp only [List.length_cons, List.length_nil]; omega)) (by decide) (fun k hk => by first | omega | (rcases k with _ | _ | _ | _ | _ | _ | _ | _ | k <;> first | rfl | omega)) ?_ ?_ <;> simp (disch := omega) only [go_sem, wn, Int.natCast_add, t1, List.map_append, List.length_append] <;> (try rfl))
set_option maxHeartbeats 8000000 in
theorem ref_commit_c (s : AServer) (n : Int) (hw : s.wf) (ht : okT s.tree) (hx : ∀ x, x ∈ s.peer.log → x.path.length ≤ 1048576) : acall Tryz.prog [] 6 [s.av, I n] (ret (.tup [(commitS s n).1.av, .d (.sl 3 ((commitS s n).2.1.map ANote.row)), I (commitS s n).2.2])) := by
  have hcp := copyServer_c s hw
  obtain ⟨_, h1, h2, h3, h4⟩ := hw
  have hl7 := h2.2.2.1.1
  by_cases hb : s.peer.done < 0 ∨ n < s.peer.done ∨ s.peer.log.length < n
  · unfold commitS; rw [if_pos hb]
    refine zi tabOk Tryz.func6 rfl (by kernel_rfl) (by simp [Tryz.ntmps6]) ?_; simp only [Tryz.ntmps6, Tryz.results6, List.toList_toArray, apar, List.length_nil, List.length_cons, Nat.reduceAdd]
    (repeat' first
  | (with_reducible refine AR.f ?_)
  | refine zb (by decide) ?_
  | (with_reducible refine AWP.cond rfl ?_ ?_ <;> intro hc <;> (try simp only [hcs, beq_iff_eq, ge_iff_le, gt_iff_lt] at hc))
  | ((first | ((first | (with_reducible first | refine zR ?_ | refine zQ (by decide +kernel) ?_ | refine zD (by decide +kernel) ?_ | refine zE (by decide +kernel) ?_ | refine zG (by decide +kernel) ?_)); intro K hK) | ((first | (with_reducible refine zu ?_ ?_ <;> intro hg) | with_reducible intro hg) <;> (first | (exfalso; simp at hg; done) | (have hg' := hg; (try simp only [hcs, beq_iff_eq, ge_iff_le, gt_iff_lt] at hg'); (try simp only [hg]))))) <;> (try simp (disch := omega) only [go_sem, wn]) <;> (repeat' with_reducible refine And.intro ?_ ?_) <;> (try (with_reducible refine hK _ ?_; clear hK K)))
  | omega)
    all_goals first | (exfalso; omega) | skip
    all_goals (refine zF rfl ?_ ?_ ?_ ?_; (iterate 3 (focus ((try simp (disch := omega) only [go_sem, wn, default]) <;> (try omega) <;> fail))); (try simp (disch := omega) only [go_sem, wn, default, I, B, S, inj, List.cons.injEq, and_true, true_and, and_self]))
  unfold commitS; rw [if_neg hb]
  have hd0 : 0 ≤ s.peer.done := by omega
  have q3 : s.peer.done.toNat ≤ n.toNat := by omega
  have q4 : n.toNat ≤ s.peer.log.length := by omega
  have hX : ∀ x, x ∈ (s.peer.log.drop s.peer.done.toNat).take (n.toNat - s.peer.done.toNat) → x.wf ∧ x.path.length ≤ 1048576 := fun x hm => by
    have hm2 := List.mem_of_mem_drop (List.mem_of_mem_take hm)
    exact ⟨h2.2.2.1.2 x hm2, hx x hm2⟩
  have hXl : ((s.peer.log.drop s.peer.done.toNat).take (n.toNat - s.peer.done.toNat)).length = n.toNat - s.peer.done.toNat := by rw [List.length_take, List.length_drop]; omega
  have hXg : ∀ k, k < n.toNat - s.peer.done.toNat → s.peer.log.getD (s.peer.done.toNat + k) default = ((s.peer.log.drop s.peer.done.toNat).take (n.toNat - s.peer.done.toNat)).getD k default := fun k hk => by
    rw [List.getD_eq_getElem?_getD, List.getD_eq_getElem?_getD, List.getElem?_take, if_pos hk, List.getElem?_drop]
  generalize (s.peer.log.drop s.peer.done.toNat).take (n.toNat - s.peer.done.toNat) = X at hX hXl hXg ⊢
  generalize hF : runC X ⟨s.tree, s.watches, []⟩ = F
  simp only
  refine zi tabOk Tryz.func6 rfl (by kernel_rfl) (by simp [Tryz.ntmps6]) ?_; simp only [Tryz.ntmps6, Tryz.results6, List.toList_toArray, apar, List.length_nil, List.length_cons, Nat.reduceAdd]
  (repeat' first
| (with_reducible refine AR.f ?_)
| refine zb (by decide) ?_
| (with_reducible refine AWP.cond rfl ?_ ?_ <;> intro hc <;> (try simp only [hcs, beq_iff_eq, ge_iff_le, gt_iff_lt] at hc))
| ((first | ((first | (with_reducible first | refine zR ?_ | refine zQ (by decide +kernel) ?_ | refine zD (by decide +kernel) ?_ | refine zE (by decide +kernel) ?_ | refine zG (by decide +kernel) ?_)); intro K hK) | ((first | refine zA hcp ?_ ?_ ?_ ?_ ?_); (focus exact rfl); (focus exact rfl); iterate 2 (focus ((try simp (disch := omega) only [go_sem, wn]) <;> (try omega) <;> fail))) | ((first | refine zN hcp rfl ?_ ?_); (focus ((try simp (disch := omega) only [go_sem, wn]) <;> (try omega) <;> fail))) | (first | ((first | refine zX hcp rfl ?_ ?_ | refine zy hcp ?_ ?_); (focus ((try simp (disch := omega) only [go_sem, wn]) <;> (try omega) <;> fail)))) | ((first | (with_reducible refine zu ?_ ?_ <;> intro hg) | with_reducible intro hg) <;> (first | (exfalso; simp at hg; done) | (have hg' := hg; (try simp only [hcs, beq_iff_eq, ge_iff_le, gt_iff_lt] at hg'); (try simp only [hg]))))) <;> (try simp (disch := omega) only [go_sem, wn]) <;> (repeat' with_reducible refine And.intro ?_ ?_) <;> (try (with_reducible refine hK _ ?_; clear hK K)))
| omega)
  all_goals first | (exfalso; omega) | skip
  refine AWP.weaken (SImp.nilOwn 7 3 rfl) ?_
  simp only [go_sem]
  refine AWP.loopB (ι := Nat × CSt) (fun v => v.1 ≤ X.length ∧ runC (X.drop v.1) v.2 = F ∧ okT v.2.t ∧ v.2.n.length + v.2.w.length ≤ s.watches.length) (fun v => X.length - v.1) [1] (fun v => [(2, .ptr 0 0), (4, .ptr 1 0), (7, .osl 2 3 0 v.2.n.length)]) (fun v => [.cells [B s.up, .d (.sl 3 (s.disk.files.map AFile.row)), I s.peer.id, I s.peer.epoch, .d (.sl 7 (s.peer.log.map ATxn.row)), I (s.peer.done + v.1), I v.2.t.zxid, .d (.sl 9 (v.2.t.nodes.map ANode.row)), .d (.sl 1 (v.2.t.sessions.map irow)), .d (.sl 3 (v.2.w.map AWatch.row))], .cells [B false, .d (.sc (.slice none 0 0)), I 0, I 0, .d (.sc (.slice none 0 0)), I 0, I 0, .d (.sc (.slice none 0 0)), .d (.sc (.slice none 0 0)), .d (.sc (.slice none 0 0))], .rows 3 (v.2.n.map ANote.row)]) (0, ⟨s.tree, s.watches, []⟩) ?_ ?_ ?_
  · exact ⟨Nat.zero_le _, hF, ht, by simp⟩
  · simp only [go_sem, Int.natCast_zero, Int.add_zero]; (refine SImp.same ?_; simp (disch := omega) only [go_sem, wn, Int.natCast_add])
  intro ⟨k, p⟩ ⟨hk, hr, hok, hlen⟩
  simp only at hk hr hok hlen
  simp only [go_sem]
  by_cases hk2 : k < X.length
  case neg =>
    have hke : k = X.length := by omega
    subst hke
    rw [List.drop_length] at hr
    subst hr
    simp only [runC, if_true]
    have t1 : List.take p.n.length (p.n.map ANote.row) = p.n.map ANote.row := List.take_of_length_le (by simp)
    have hdn : s.peer.done + (X.length : Int) = n := by omega
    rw [hdn]
    (repeat' first
  | (with_reducible refine AR.f ?_)
  | refine zb (by decide) ?_
  | (with_reducible refine AWP.cond rfl ?_ ?_ <;> intro hc <;> (try simp only [hcs, beq_iff_eq, ge_iff_le, gt_iff_lt] at hc))
  | ((first | ((first | (with_reducible first | refine zR ?_ | refine zQ (by decide +kernel) ?_ | refine zD (by decide +kernel) ?_ | refine zE (by decide +kernel) ?_ | refine zG (by decide +kernel) ?_)); intro K hK) | ((first | (with_reducible refine zu ?_ ?_ <;> intro hg) | with_reducible intro hg) <;> (first | (exfalso; simp at hg; done) | (have hg' := hg; (try simp only [hcs, beq_iff_eq, ge_iff_le, gt_iff_lt] at hg'); (try simp only [hg]))))) <;> (try simp (disch := omega) only [go_sem, wn, t1]) <;> (repeat' with_reducible refine And.intro ?_ ?_) <;> (try (with_reducible refine hK _ ?_; clear hK K)))
  | omega)
    all_goals first | (exfalso; omega) | skip
    all_goals (refine zF rfl ?_ ?_ ?_ ?_; (iterate 3 (focus ((try simp (disch := omega) only [go_sem, wn, t1]) <;> (try omega) <;> fail))); (try simp (disch := omega) only [go_sem, wn, t1, I, B, S, inj, List.cons.injEq, and_true, true_and, and_self]))
  have hxg := hXg k (by omega)
  obtain ⟨x1, x2⟩ := hX _ (mem_getD X default hk2)
  rw [drop_cons X k hk2] at hr
  have hrow : ∀ z, List.getD (List.map ATxn.row s.peer.log) (s.peer.done.toNat + k) z = (X.getD k default).row := fun z => by rw [ATxn.rgetD s.peer.log (s.peer.done.toNat + k) z (by omega), hxg]
  have hnat : (s.peer.done + (k : Int)).toNat = s.peer.done.toNat + k := by omega
  generalize X.getD k default = x at hr x1 x2 hrow
  have hok2 := nextC_ok hok x1 x2
  have hev := apply_ev (t := p.t) (x := x)
  have ha := ref_apply_c p.t x hok.1 hok.2 x1.1 x2 x1.2.2.2.2.1
  have hwl : p.w.length * 32 ≤ 140737488351232 := by have := h4.1; omega
  by_cases he : (applyT p.t x).2.2 = 0
  case neg =>
    rw [runC_stop he] at hr
    subst hr
    generalize applyT p.t x = q at he ha
    obtain ⟨a, es, e⟩ := q
    simp only at he ha
    simp only [if_neg he]
    (repeat' first
  | (with_reducible refine AR.f ?_)
  | refine zb (by decide) ?_
  | (with_reducible refine AWP.cond rfl ?_ ?_ <;> intro hc <;> (try simp only [hcs, beq_iff_eq, ge_iff_le, gt_iff_lt] at hc))
  | ((first | ((first | (with_reducible first | refine zR ?_ | refine zQ (by decide +kernel) ?_ | refine zD (by decide +kernel) ?_ | refine zE (by decide +kernel) ?_ | refine zG (by decide +kernel) ?_)); intro K hK) | ((first | refine zA ha ?_ ?_ ?_ ?_ ?_); (focus exact rfl); (focus exact rfl); iterate 2 (focus ((try simp (disch := omega) only [go_sem, wn, hnat, hrow, ATxn.row]) <;> (try omega) <;> fail))) | ((first | refine zN ha rfl ?_ ?_); (focus ((try simp (disch := omega) only [go_sem, wn, hnat, hrow, ATxn.row]) <;> (try omega) <;> fail))) | (first | ((first | refine zX ha rfl ?_ ?_ | refine zy ha ?_ ?_); (focus ((try simp (disch := omega) only [go_sem, wn, hnat, hrow, ATxn.row]) <;> (try omega) <;> fail)))) | ((first | (with_reducible refine zu ?_ ?_ <;> intro hg) | with_reducible intro hg) <;> (first | (exfalso; simp at hg; done) | (have hg' := hg; (try simp only [hcs, beq_iff_eq, ge_iff_le, gt_iff_lt] at hg'); (try simp only [hg]))))) <;> (try simp (disch := omega) only [go_sem, wn, hnat, hrow, ATxn.row]) <;> (repeat' with_reducible refine And.intro ?_ ?_) <;> (try (with_reducible refine hK _ ?_; clear hK K)))
  | omega)
    all_goals first | exact absurd hc he | (exfalso; omega) | skip
    all_goals (refine zF rfl ?_ ?_ ?_ ?_; (iterate 3 (focus ((try simp (disch := omega) only [go_sem, wn, default]) <;> (try omega) <;> fail))); (try simp (disch := omega) only [go_sem, wn, default, I, B, S, inj, List.cons.injEq, and_true, true_and, and_self]))
  rw [runC_cons he] at hr
  generalize applyT p.t x = q at he ha hr hok2 hev
  obtain ⟨a, es, e⟩ := q
  simp only at he ha hev
  subst he
  have hnl := nextC_len (a, es, 0) p x
  have hf := ref_fire_c p.w es hwl (by omega)
  have hfl := fire_len p.w es
  have hdr := ref_drop_c (fireW p.w es).2 x.session (by omega)
  have hnx : nextC (a, es, 0) p x = ⟨a, if x.op = 2 then dropW (fireW p.w es).2 x.session else (fireW p.w es).2, p.n ++ (fireW p.w es).1⟩ := rfl
  generalize fireW p.w es = f at hf hfl hdr hnx
  obtain ⟨fn, fl⟩ := f
  simp only at hf hfl hdr hnx
  have t1 : List.take p.n.length (p.n.map ANote.row) = p.n.map ANote.row := List.take_of_length_le (by simp)
  (repeat' first
| (with_reducible refine AR.f ?_)
| refine zb (by decide) ?_
| (with_reducible refine AWP.cond rfl ?_ ?_ <;> intro hc <;> (try simp only [hcs, beq_iff_eq, ge_iff_le, gt_iff_lt] at hc))
| ((first | ((first | (with_reducible first | refine zR ?_ | refine zQ (by decide +kernel) ?_ | refine zD (by decide +kernel) ?_ | refine zE (by decide +kernel) ?_ | refine zG (by decide +kernel) ?_)); intro K hK) | ((first | refine zA ha ?_ ?_ ?_ ?_ ?_ | refine zA hf ?_ ?_ ?_ ?_ ?_ | refine zA hdr ?_ ?_ ?_ ?_ ?_); (focus exact rfl); (focus exact rfl); iterate 2 (focus ((try simp (disch := omega) only [go_sem, wn, hnat, hrow, ATxn.row, t1]) <;> (try omega) <;> fail))) | ((first | refine zN ha rfl ?_ ?_ | refine zN hf rfl ?_ ?_ | refine zN hdr rfl ?_ ?_); (focus ((try simp (disch := omega) only [go_sem, wn, hnat, hrow, ATxn.row, t1]) <;> (try omega) <;> fail))) | (first | ((first | refine zX ha rfl ?_ ?_ | refine zy ha ?_ ?_); (focus ((try simp (disch := omega) only [go_sem, wn, hnat, hrow, ATxn.row, t1]) <;> (try omega) <;> fail))) | ((first | refine zX hf rfl ?_ ?_ | refine zy hf ?_ ?_); (focus ((try simp (disch := omega) only [go_sem, wn, hnat, hrow, ATxn.row, t1]) <;> (try omega) <;> fail))) | ((first | refine zX hdr rfl ?_ ?_ | refine zy hdr ?_ ?_); (focus ((try simp (disch := omega) only [go_sem, wn, hnat, hrow, ATxn.row, t1]) <;> (try omega) <;> fail)))) | ((first | (with_reducible refine zu ?_ ?_ <;> intro hg) | with_reducible intro hg) <;> (first | (exfalso; simp at hg; done) | (have hg' := hg; (try simp only [hcs, beq_iff_eq, ge_iff_le, gt_iff_lt] at hg'); (try simp only [hg]))))) <;> (try simp (disch := omega) only [go_sem, wn, hnat, hrow, ATxn.row, t1]) <;> (repeat' with_reducible refine And.intro ?_ ?_) <;> (try (with_reducible refine hK _ ?_; clear hK K)))
| omega)
  all_goals first | (exfalso; omega) | skip
  · refine ⟨(k + 1, nextC (a, es, 0) p x), ⟨by simp only; omega, hr, hok2, by simp only; omega⟩, by simp only; omega, ?_⟩
    rw [hnx]
    simp only [if_pos hc]
    (refine SImp.frame [0, 1, 5] rfl (by intro k hk; first | (simp at hk <;> (simp; omega)) | (simp only [List.mem_cons, List.not_mem_nil, or_false] at hk; simp only [List.length_cons, List.length_nil]; omega)) (by decide) (fun k hk => by first | omega | (rcases k with _ | _ | _ | _ | _ | _ | _ | _ | k <;> first | rfl | omega)) ?_ ?_ <;> simp (disch := omega) only [go_sem, wn, Int.natCast_add, t1, List.map_append, List.length_append, Int.add_assoc] <;> (try rfl))
  · refine ⟨(k + 1, nextC (a, es, 0) p x), ⟨by simp only; omega, hr, hok2, by simp only; omega⟩, by simp only; omega, ?_⟩
    rw [hnx]
    simp only [if_neg hc]
    (refine SImp.frame [0, 1, 5] rfl (by intro k hk; first | (simp at hk <;> (simp; omega)) | (simp only [List.mem_cons, List.not_mem_nil, or_false] at hk; simp only [List.length_cons, List.length_nil]; omega)) (by decide) (fun k hk => by first | omega | (rcases k with _ | _ | _ | _ | _ | _ | _ | _ | k <;> first | rfl | omega)) ?_ ?_ <;> simp (disch := omega) only [go_sem, wn, Int.natCast_add, t1, List.map_append, List.length_append, Int.add_assoc] <;> (try rfl))
end Go.Proofs.YtmpfhalheaeibaaGreatDoor
