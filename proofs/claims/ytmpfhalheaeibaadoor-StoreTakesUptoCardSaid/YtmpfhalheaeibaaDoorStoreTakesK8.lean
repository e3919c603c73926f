/- A part of what StoreTakes leans on: texts of this claim, one behind the other. No condition. -/
import Derived.Test.YtmpfhalheaeibaaDoorStoreTakesK7
namespace Go.Proofs.YtmpfhalheaeibaaDoor
set_option linter.unusedVariables false
set_option linter.unusedSimpArgs false
open Go Go.RowKit
set_option maxRecDepth 100000
set_option linter.unusedSimpArgs false
def byteAt (k : Nat) (v : Int) : UInt8 := UInt8.ofNat ((v / 2 ^ (8 * k)) % 256).toNat
def beB : Nat → Int → List UInt8
  | 0, _ => []
  | n + 1, v => byteAt n v :: beB n v
theorem beB_len (v : Int) : ∀ n, (beB n v).length = n
  | 0 => rfl
  | n + 1 => by rw [beB, List.length_cons, beB_len v n]
theorem beB_snoc (v : Int) : ∀ (n j : Nat), j < n → (beB n v).take (n - j) = (beB n v).take (n - (j + 1)) ++ [byteAt j v]
  | 0, j, h => by omega
  | n + 1, j, h => by
    by_cases e : j = n
    · subst e
      rw [show j + 1 - j = 1 from by omega, Nat.sub_self]; rfl
    · rw [beB, show n + 1 - j = (n - j) + 1 from by omega, show n + 1 - (j + 1) = (n - (j + 1)) + 1 from by omega, List.take_succ_cons, List.take_succ_cons, beB_snoc v n j (by omega)]; rfl
theorem u8_wrap (x : Int) : IntKind.u8.wrap x = ((UInt8.ofNat (x % 256).toNat).toNat : Int) := by
  rw [UInt8.toNat_ofNat']
  simp [IntKind.wrap, IntKind.bits, IntKind.signed]; omega
theorem u8_byte (j : Nat) (v : Int) : IntKind.u8.wrap (v / 2 ^ (8 * j)) = ((byteAt j v).toNat : Int) := u8_wrap _
theorem put_own_c (l : List UInt8) (v : Int) (n : Nat) (hn : n ≤ 8) (hl : l.length ≤ 1048576) : acall Tryd.prog [.rows 1 (l.map u8row)] 124 [.osl 0 1 0 l.length, I v, I n] (outs (.osl 1 1 0 (l.length + n)) [.dead, .rows 1 ((l ++ beB n v).map u8row)]) := by
  refine acall_of tabOk Tryd.func124 rfl (by kernel_rfl) (by simp [Tryd.ntmps124]) ?_; simp only [Tryd.ntmps124, Tryd.results124, List.toList_toArray, apar, List.length_nil, List.length_cons, Nat.reduceAdd]
  refine AWP.weaken (SImp.moveOwn 0 rfl rfl (by simp)) ?_
  simp only [go_sem]
  (repeat' first
| (with_reducible refine AR.f ?_)
| refine blkA_x (by decide) ?_
| (with_reducible refine AWP.cond rfl ?_ ?_ <;> intro hc <;> (try simp only [hcs, beq_iff_eq, ge_iff_le, gt_iff_lt] at hc))
| ((first | ((first | (with_reducible first | refine zR ?_ | refine zQ (by decide +kernel) ?_ | refine zD (by decide +kernel) ?_ | refine zE (by decide +kernel) ?_ | refine zG (by decide +kernel) ?_)); intro K hK) | ((first | (with_reducible refine aunder_i ?_ ?_ <;> intro hg) | with_reducible intro hg) <;> (first | (exfalso; simp at hg; done) | (have hg' := hg; (try simp only [hcs, beq_iff_eq, ge_iff_le, gt_iff_lt] at hg'); (try simp only [hg]))))) <;> (try simp (disch := omega) only [go_sem, wrap_n]) <;> (repeat' with_reducible refine And.intro ?_ ?_) <;> (try (with_reducible refine hK _ ?_; clear hK K)))
| omega)
  refine AWP.loopB (ι := Nat) (fun j => j ≤ n) (fun j => j) [1] (fun j => [(0, .osl 1 1 0 (l.length + (n - j))), (7, I ((j : Int) - 1))]) (fun j => [.dead, .rows 1 ((l ++ (beB n v).take (n - j)).map u8row)]) n ?_ ?_ ?_
  · omega
  · simp only [go_sem, Nat.sub_self, List.take_zero, List.append_nil, Nat.add_zero]; (refine SImp.same ?_; simp (disch := omega) only [go_sem, wrap_n, Int.natCast_add])
  intro j hj
  rcases j with _ | j
  · simp only [go_sem]
    (repeat' first
  | (with_reducible refine AR.f ?_)
  | refine blkA_x (by decide) ?_
  | (with_reducible refine AWP.cond rfl ?_ ?_ <;> intro hc <;> (try simp only [hcs, beq_iff_eq, ge_iff_le, gt_iff_lt] at hc))
  | ((first | ((first | (with_reducible first | refine zR ?_ | refine zQ (by decide +kernel) ?_ | refine zD (by decide +kernel) ?_ | refine zE (by decide +kernel) ?_ | refine zG (by decide +kernel) ?_)); intro K hK) | ((first | (with_reducible refine aunder_i ?_ ?_ <;> intro hg) | with_reducible intro hg) <;> (first | (exfalso; simp at hg; done) | (have hg' := hg; (try simp only [hcs, beq_iff_eq, ge_iff_le, gt_iff_lt] at hg'); (try simp only [hg]))))) <;> (try simp (disch := omega) only [go_sem, wrap_n]) <;> (repeat' with_reducible refine And.intro ?_ ?_) <;> (try (with_reducible refine hK _ ?_; clear hK K)))
  | omega)
    rw [Nat.sub_zero, List.take_of_length_le (by rw [beB_len]; omega)]
    (refine aend_out (by first | exact .inl rfl | exact .inr rfl) ?_ ?_; (focus ((try simp (disch := omega) only [go_sem, wrap_n]) <;> fail)); simp (disch := omega) only [go_sem, wrap_n, true_and]; refine AOut.of_simp ?_ (AOut.same ⟨rfl, rfl⟩); refine SImp.frame [0, 1] rfl (by intro k hk; first | (simp at hk <;> (simp; omega)) | (simp only [List.mem_cons, List.not_mem_nil, or_false] at hk; simp only [List.length_cons, List.length_nil]; omega)) (by decide) (fun k hk => by first | omega | (rcases k with _ | _ | _ | _ | _ | _ | _ | _ | k <;> first | rfl | omega)) ?_ ?_ <;> simp (disch := omega) only [go_sem, wrap_n, true_or, or_true, true_and])
  rw [show ((j + 1 : Nat) : Int) - 1 = j from by omega]
  simp only [go_sem]
  have hw : IntKind.u64.wrap (8 * (j : Int)) = 8 * j := by simp [IntKind.wrap, IntKind.bits, IntKind.signed]; omega
  have hw2 : (8 * (j : Int)).toNat = 8 * j := by omega
  have hle : (l ++ (beB n v).take (n - (j + 1))).length = l.length + (n - (j + 1)) := by rw [List.length_append, List.length_take, beB_len]; omega
  have hk : List.take (l.length + (n - (j + 1))) ((l ++ (beB n v).take (n - (j + 1))).map u8row) = (l ++ (beB n v).take (n - (j + 1))).map u8row := List.take_of_length_le (by rw [List.length_map]; omega)
  (repeat' first
| (with_reducible refine AR.f ?_)
| refine blkA_x (by decide) ?_
| (with_reducible refine AWP.cond rfl ?_ ?_ <;> intro hc <;> (try simp only [hcs, beq_iff_eq, ge_iff_le, gt_iff_lt] at hc))
| ((first | ((first | (with_reducible first | refine zR ?_ | refine zQ (by decide +kernel) ?_ | refine zD (by decide +kernel) ?_ | refine zE (by decide +kernel) ?_ | refine zG (by decide +kernel) ?_)); intro K hK) | ((first | (with_reducible refine aunder_i ?_ ?_ <;> intro hg) | with_reducible intro hg) <;> (first | (exfalso; simp at hg; done) | (have hg' := hg; (try simp only [hcs, beq_iff_eq, ge_iff_le, gt_iff_lt] at hg'); (try simp only [hg]))))) <;> (try simp (disch := omega) only [go_sem, wrap_n, hw, hw2, hk]) <;> (repeat' with_reducible refine And.intro ?_ ?_) <;> (try (with_reducible refine hK _ ?_; clear hK K)))
| omega)
  · simp [beB_len]
  refine ⟨j, by omega, by omega, ?_⟩
  rw [beB_snoc v n j (by omega), ← List.append_assoc, List.map_append (l₁ := l ++ _), show n - j = n - (j + 1) + 1 from by omega]
  (refine SImp.frame [0, 3] rfl (by intro k hk; first | (simp at hk <;> (simp; omega)) | (simp only [List.mem_cons, List.not_mem_nil, or_false] at hk; simp only [List.length_cons, List.length_nil]; omega)) (by decide) (fun k hk => by first | omega | (rcases k with _ | _ | _ | _ | _ | _ | _ | _ | k <;> first | rfl | omega)) ?_ ?_ <;> simp (disch := omega) only [go_sem, wrap_n, Int.natCast_add, hw, hw2, hk, u8_byte, List.map_cons, List.map_nil, u8row, Nat.add_assoc] <;> (try rfl))
theorem put_nil_c (v : Int) (n : Nat) (hn : n ≤ 8) : acall Tryd.prog [] 124 [.d (.sc (.slice none 0 0)), I v, I n] (outs (.osl 0 1 0 n) [.rows 1 ((beB n v).map u8row)]) := by
  refine acall_of tabOk Tryd.func124 rfl (by kernel_rfl) (by simp [Tryd.ntmps124]) ?_; simp only [Tryd.ntmps124, Tryd.results124, List.toList_toArray, apar, List.length_nil, List.length_cons, Nat.reduceAdd]
  refine AWP.weaken (SImp.nilOwn 0 1 rfl) ?_
  simp only [go_sem]
  (repeat' first
| (with_reducible refine AR.f ?_)
| refine blkA_x (by decide) ?_
| (with_reducible refine AWP.cond rfl ?_ ?_ <;> intro hc <;> (try simp only [hcs, beq_iff_eq, ge_iff_le, gt_iff_lt] at hc))
| ((first | ((first | (with_reducible first | refine zR ?_ | refine zQ (by decide +kernel) ?_ | refine zD (by decide +kernel) ?_ | refine zE (by decide +kernel) ?_ | refine zG (by decide +kernel) ?_)); intro K hK) | ((first | (with_reducible refine aunder_i ?_ ?_ <;> intro hg) | with_reducible intro hg) <;> (first | (exfalso; simp at hg; done) | (have hg' := hg; (try simp only [hcs, beq_iff_eq, ge_iff_le, gt_iff_lt] at hg'); (try simp only [hg]))))) <;> (try simp (disch := omega) only [go_sem, wrap_n]) <;> (repeat' with_reducible refine And.intro ?_ ?_) <;> (try (with_reducible refine hK _ ?_; clear hK K)))
| omega)
  refine AWP.loopB (ι := Nat) (fun j => j ≤ n) (fun j => j) [1] (fun j => [(0, .osl 0 1 0 (n - j)), (7, I ((j : Int) - 1))]) (fun j => [.rows 1 (((beB n v).take (n - j)).map u8row)]) n ?_ ?_ ?_
  · omega
  · simp only [go_sem, Nat.sub_self, List.take_zero, List.map_nil]; (refine SImp.same ?_; simp (disch := omega) only [go_sem, wrap_n, Int.natCast_add])
  intro j hj
  rcases j with _ | j
  · simp only [go_sem]
    (repeat' first
  | (with_reducible refine AR.f ?_)
  | refine blkA_x (by decide) ?_
  | (with_reducible refine AWP.cond rfl ?_ ?_ <;> intro hc <;> (try simp only [hcs, beq_iff_eq, ge_iff_le, gt_iff_lt] at hc))
  | ((first | ((first | (with_reducible first | refine zR ?_ | refine zQ (by decide +kernel) ?_ | refine zD (by decide +kernel) ?_ | refine zE (by decide +kernel) ?_ | refine zG (by decide +kernel) ?_)); intro K hK) | ((first | (with_reducible refine aunder_i ?_ ?_ <;> intro hg) | with_reducible intro hg) <;> (first | (exfalso; simp at hg; done) | (have hg' := hg; (try simp only [hcs, beq_iff_eq, ge_iff_le, gt_iff_lt] at hg'); (try simp only [hg]))))) <;> (try simp (disch := omega) only [go_sem, wrap_n]) <;> (repeat' with_reducible refine And.intro ?_ ?_) <;> (try (with_reducible refine hK _ ?_; clear hK K)))
  | omega)
    rw [Nat.sub_zero, List.take_of_length_le (by rw [beB_len]; omega)]
    (refine aend_out (by first | exact .inl rfl | exact .inr rfl) ?_ ?_; (focus ((try simp (disch := omega) only [go_sem, wrap_n]) <;> fail)); simp (disch := omega) only [go_sem, wrap_n, true_and]; refine AOut.of_simp ?_ (AOut.same ⟨rfl, rfl⟩); refine SImp.frame [0] rfl (by intro k hk; first | (simp at hk <;> (simp; omega)) | (simp only [List.mem_cons, List.not_mem_nil, or_false] at hk; simp only [List.length_cons, List.length_nil]; omega)) (by decide) (fun k hk => by first | omega | (rcases k with _ | _ | _ | _ | _ | _ | _ | _ | k <;> first | rfl | omega)) ?_ ?_ <;> simp (disch := omega) only [go_sem, wrap_n, true_or, or_true, true_and])
  rw [show ((j + 1 : Nat) : Int) - 1 = j from by omega]
  simp only [go_sem]
  have hw : IntKind.u64.wrap (8 * (j : Int)) = 8 * j := by simp [IntKind.wrap, IntKind.bits, IntKind.signed]; omega
  have hw2 : (8 * (j : Int)).toNat = 8 * j := by omega
  have hk : List.take (n - (j + 1)) (((beB n v).take (n - (j + 1))).map u8row) = ((beB n v).take (n - (j + 1))).map u8row := List.take_of_length_le (by rw [List.length_map, List.length_take]; omega)
  (repeat' first
| (with_reducible refine AR.f ?_)
| refine blkA_x (by decide) ?_
| (with_reducible refine AWP.cond rfl ?_ ?_ <;> intro hc <;> (try simp only [hcs, beq_iff_eq, ge_iff_le, gt_iff_lt] at hc))
| ((first | ((first | (with_reducible first | refine zR ?_ | refine zQ (by decide +kernel) ?_ | refine zD (by decide +kernel) ?_ | refine zE (by decide +kernel) ?_ | refine zG (by decide +kernel) ?_)); intro K hK) | ((first | (with_reducible refine aunder_i ?_ ?_ <;> intro hg) | with_reducible intro hg) <;> (first | (exfalso; simp at hg; done) | (have hg' := hg; (try simp only [hcs, beq_iff_eq, ge_iff_le, gt_iff_lt] at hg'); (try simp only [hg]))))) <;> (try simp (disch := omega) only [go_sem, wrap_n, hw, hw2, hk]) <;> (repeat' with_reducible refine And.intro ?_ ?_) <;> (try (with_reducible refine hK _ ?_; clear hK K)))
| omega)
  · simp [beB_len]
  refine ⟨j, by omega, by omega, ?_⟩
  rw [beB_snoc v n j (by omega), List.map_append, show n - j = n - (j + 1) + 1 from by omega]
  (refine SImp.frame [2] rfl (by intro k hk; first | (simp at hk <;> (simp; omega)) | (simp only [List.mem_cons, List.not_mem_nil, or_false] at hk; simp only [List.length_cons, List.length_nil]; omega)) (by decide) (fun k hk => by first | omega | (rcases k with _ | _ | _ | _ | _ | _ | _ | _ | k <;> first | rfl | omega)) ?_ ?_ <;> simp (disch := omega) only [go_sem, wrap_n, Int.natCast_add, hw, hw2, hk, u8_byte, List.map_cons, List.map_nil, u8row, Nat.add_assoc] <;> (try rfl))
theorem put_own_at (l : List UInt8) (v : Int) (n m k : Nat) (ni : Int) (hn : n ≤ 8) (hl : l.length ≤ 1048576) (hm : l.length = m) (hk : m + n = k) (hi : ni = n) : acall Tryd.prog [.rows 1 (l.map u8row)] 124 [.osl 0 1 0 m, I v, I ni] (outs (.osl 1 1 0 k) [.dead, .rows 1 ((l ++ beB n v).map u8row)]) := by
  subst hm; subst hk; subst hi; exact put_own_c l v n hn hl
theorem u8_op (v : Int) : IntKind.u8.wrap v = ((byteAt 0 v).toNat : Int) := by rw [← u8_byte 0 v]; simp
def b5 (t : ATxn) : List UInt8 := (beB 8 t.zxid ++ [byteAt 0 t.op]) ++ beB 4 t.session
def b6 (t : ATxn) : List UInt8 := (b5 t ++ beB 4 t.version) ++ beB 4 t.owner
def b7 (t : ATxn) : List UInt8 := (b6 t ++ [byteAt 0 t.path.length]) ++ t.path
def bodyB (t : ATxn) : List UInt8 := (b7 t ++ beB 2 t.data.length) ++ t.data
theorem b5_len (t : ATxn) : (b5 t).length = 13 := by simp [b5, beB_len]
theorem b6_len (t : ATxn) : (b6 t).length = 21 := by simp [b6, b5_len, beB_len]
theorem b7_len (t : ATxn) : (b7 t).length = 22 + t.path.length := by simp [b7, b6_len]; omega
theorem bodyB_len (t : ATxn) : (bodyB t).length = 24 + t.path.length + t.data.length := by simp [bodyB, b7_len, beB_len]; omega
def headB (t : ATxn) : List UInt8 := ([84] ++ beB 2 (bodyB t).length) ++ bodyB t
theorem headB_len (t : ATxn) : (headB t).length = 27 + t.path.length + t.data.length := by unfold headB; simp only [List.length_append, bodyB_len, beB_len, List.length_cons, List.length_nil]; omega
def encB (t : ATxn) : List UInt8 := headB t ++ beB 4 (sumN (headB t))
theorem goodT_small {t : ATxn} (h : goodT t = 0) : t.path.length ≤ 200 ∧ t.data.length ≤ 256 := by
  unfold goodT at h
  split at h
  · cases h
  split at h
  · cases h
  split at h
  · cases h
  split at h
  · cases h
  rename_i h1 h2 h3 h4
  refine ⟨?_, by omega⟩
  unfold badT at h4
  by_cases e2 : t.op ≤ 2
  · rw [if_pos e2] at h4; simp at h4; rw [h4.1]; simp
  rw [if_neg e2] at h4
  have : goodP t.path = true := by
    split at h4 <;> (try split at h4) <;> simp at h4 <;> exact h4.1
  exact goodP_len this
def encT (t : ATxn) : List UInt8 × Int := if goodT t = 0 then (encB t, 0) else ([], goodT t)
set_option maxHeartbeats 2000000 in
theorem encode_c (t : ATxn) (hp : okS t.path) (hd : okS t.data) : acall Tryd.prog [] 63 [t.av] (ret (.tup [S (encT t).1, I (encT t).2])) := by
  refine acall_of tabOk Tryd.func63 rfl (by kernel_rfl) (by simp [Tryd.ntmps63]) ?_; simp only [Tryd.ntmps63, Tryd.results63, List.toList_toArray, apar, List.length_nil, List.length_cons, Nat.reduceAdd]
  by_cases g : goodT t = 0
  case neg =>
    unfold encT
    rw [if_neg g]
    (repeat' first
  | (with_reducible refine AR.f ?_)
  | refine blkA_x (by decide) ?_
  | (with_reducible refine AWP.cond rfl ?_ ?_ <;> intro hc <;> (try simp only [hcs, beq_iff_eq, ge_iff_le, gt_iff_lt] at hc))
  | ((first | ((first | (with_reducible first | refine zR ?_ | refine zQ (by decide +kernel) ?_ | refine zD (by decide +kernel) ?_ | refine zE (by decide +kernel) ?_ | refine zG (by decide +kernel) ?_)); intro K hK) | ((first | refine zA (wgood_c t hp hd) ?_ ?_ ?_ ?_ ?_); (focus exact rfl); (focus exact rfl); iterate 2 (focus ((try simp (disch := omega) only [go_sem, wrap_n]) <;> (try omega) <;> fail))) | ((first | refine zN (wgood_c t hp hd) rfl ?_ ?_); (focus ((try simp (disch := omega) only [go_sem, wrap_n]) <;> (try omega) <;> fail))) | (first | ((first | refine zX (wgood_c t hp hd) rfl ?_ ?_ | refine acallH_anyx (wgood_c t hp hd) ?_ ?_); (focus ((try simp (disch := omega) only [go_sem, wrap_n]) <;> (try omega) <;> fail)))) | ((first | (with_reducible refine aunder_i ?_ ?_ <;> intro hg) | with_reducible intro hg) <;> (first | (exfalso; simp at hg; done) | (have hg' := hg; (try simp only [hcs, beq_iff_eq, ge_iff_le, gt_iff_lt] at hg'); (try simp only [hg]))))) <;> (try simp (disch := omega) only [go_sem, wrap_n]) <;> (repeat' with_reducible refine And.intro ?_ ?_) <;> (try (with_reducible refine hK _ ?_; clear hK K)))
  | omega)
    all_goals first | omega | skip
    all_goals (refine zF rfl ?_ ?_ ?_ ?_; (iterate 3 (focus ((try simp (disch := omega) only [go_sem, wrap_n]) <;> (try omega) <;> fail))); (try simp (disch := omega) only [go_sem, wrap_n, I, B, S, inj, List.cons.injEq, and_true, true_and, and_self]))
  unfold encT
  rw [if_pos g]
  (repeat' first
| (with_reducible refine AR.f ?_)
| refine blkA_x (by decide) ?_
| (with_reducible refine AWP.cond rfl ?_ ?_ <;> intro hc <;> (try simp only [hcs, beq_iff_eq, ge_iff_le, gt_iff_lt] at hc))
| ((first | ((first | (with_reducible first | refine zR ?_ | refine zQ (by decide +kernel) ?_ | refine zD (by decide +kernel) ?_ | refine zE (by decide +kernel) ?_ | refine zG (by decide +kernel) ?_)); intro K hK) | ((first | refine zA ((wgood_c t hp hd).re (congrArg I g)) ?_ ?_ ?_ ?_ ?_ | refine zA (put_nil_c t.zxid 8 (by decide)) ?_ ?_ ?_ ?_ ?_); (focus exact rfl); (focus exact rfl); iterate 2 (focus ((try simp (disch := omega) only [go_sem, wrap_n]) <;> (try omega) <;> fail))) | ((first | refine zN ((wgood_c t hp hd).re (congrArg I g)) rfl ?_ ?_ | refine zN (put_nil_c t.zxid 8 (by decide)) rfl ?_ ?_); (focus ((try simp (disch := omega) only [go_sem, wrap_n]) <;> (try omega) <;> fail))) | (first | ((first | refine zX ((wgood_c t hp hd).re (congrArg I g)) rfl ?_ ?_ | refine acallH_anyx ((wgood_c t hp hd).re (congrArg I g)) ?_ ?_); (focus ((try simp (disch := omega) only [go_sem, wrap_n]) <;> (try omega) <;> fail))) | ((first | refine zX (put_nil_c t.zxid 8 (by decide)) rfl ?_ ?_ | refine acallH_anyx (put_nil_c t.zxid 8 (by decide)) ?_ ?_); (focus ((try simp (disch := omega) only [go_sem, wrap_n]) <;> (try omega) <;> fail)))) | ((first | (with_reducible refine aunder_i ?_ ?_ <;> intro hg) | with_reducible intro hg) <;> (first | (exfalso; simp at hg; done) | (have hg' := hg; (try simp only [hcs, beq_iff_eq, ge_iff_le, gt_iff_lt] at hg'); (try simp only [hg]))))) <;> (try simp (disch := omega) only [go_sem, wrap_n]) <;> (repeat' with_reducible refine And.intro ?_ ?_) <;> (try (with_reducible refine hK _ ?_; clear hK K)))
| omega)
  obtain ⟨s1, s2⟩ := goodT_small g
  have l8 := beB_len t.zxid 8
  have hh : okS (headB t) := by unfold okS headB; simp only [List.length_append, bodyB_len, beB_len, List.length_cons, List.length_nil]; omega
  have tk24 : List.take (24 + t.path.length) (List.map u8row (b7 t ++ beB 2 (t.data.length : Int))) = List.map u8row (b7 t ++ beB 2 (t.data.length : Int)) := List.take_of_length_le (by rw [List.length_map, List.length_append, b7_len, beB_len]; omega)
  have hbr : List.map u8row (bodyB t) = List.map u8row (b7 t ++ beB 2 (t.data.length : Int)) ++ List.map u8row t.data := by unfold bodyB; rw [List.map_append]
  have h84 : (((84 : UInt8).toNat : Nat) : Int) = 84 := rfl
  have tk22 : List.take 22 (List.map u8row (b6 t) ++ [[DV.int IntKind.u8 ((byteAt 0 (t.path.length : Int)).toNat : Int)]]) = List.map u8row (b6 t) ++ [[DV.int IntKind.u8 ((byteAt 0 (t.path.length : Int)).toNat : Int)]] := List.take_of_length_le (by simp [b6_len])
  have tk (l : List UInt8) (n : Nat) (h : l.length = n) : List.take n (l.map u8row) = l.map u8row := List.take_of_length_le (by rw [List.length_map]; omega)
  refine AWP.meetB [1] [(5, .osl 1 1 0 13)] [.cells [I t.zxid, I t.op, I t.session, S t.path, S t.data, I t.version, I t.owner], .rows 1 ((b5 t).map u8row)] ?_ ?_
  · (repeat' first
  | (with_reducible refine AR.f ?_)
  | refine blkA_x (by decide) ?_
  | (with_reducible refine AWP.cond rfl ?_ ?_ <;> intro hc <;> (try simp only [hcs, beq_iff_eq, ge_iff_le, gt_iff_lt] at hc))
  | ((first | ((first | refine zP ((Plan.takes [0, 1, 2, 6] (.fork 3 (.fork 4 (.fork 5 (Plan.takes [7, 8, 9] .done) 7 (Plan.takes [5, 8, 9] .done)) 7 (Plan.takes [4, 5, 8, 9] .done)) 7 (Plan.takes [3, 4, 5, 8, 9] .done)))) (by decide +kernel) ?_ | (with_reducible first | refine zR ?_ | refine zQ (by decide +kernel) ?_ | refine zD (by decide +kernel) ?_ | refine zE (by decide +kernel) ?_ | refine zG (by decide +kernel) ?_)); intro K hK) | (refine acallH_own (put_own_at (beB 8 t.zxid ++ [byteAt 0 t.op]) t.session 4 9 13 4 (by decide) (by simp [beB_len]) (by simp [beB_len]) rfl rfl) ?_ ?_ ?_; (focus ((try simp (disch := omega) only [inj, List.cons.injEq, and_self, List.nodup_cons, List.not_mem_nil, List.mem_cons, not_false_eq_true, List.nodup_nil, go_sem, wrap_n, tk _ _ l8, List.map_append, List.map_cons, List.map_nil, u8_op, u8row]) <;> (try omega) <;> fail)); (focus ((try simp (disch := omega) only [inj, List.cons.injEq, and_self, List.nodup_cons, List.not_mem_nil, List.mem_cons, not_false_eq_true, List.nodup_nil, go_sem, wrap_n, tk _ _ l8, List.map_append, List.map_cons, List.map_nil, u8_op, u8row]) <;> (try omega) <;> (try decide) <;> fail))) | ((first | (with_reducible refine aunder_i ?_ ?_ <;> intro hg) | with_reducible intro hg) <;> (first | (exfalso; simp at hg; done) | (have hg' := hg; (try simp only [hcs, beq_iff_eq, ge_iff_le, gt_iff_lt] at hg'); (try simp only [hg]))))) <;> (try simp (disch := omega) only [go_sem, wrap_n, tk _ _ l8, List.map_append, List.map_cons, List.map_nil, u8_op, u8row]) <;> (repeat' with_reducible refine And.intro ?_ ?_) <;> (try (with_reducible refine hK _ ?_; clear hK K)))
  | omega)
    all_goals (refine SImp.frame [0, 4] rfl (by intro k hk; first | (simp at hk <;> (simp; omega)) | (simp only [List.mem_cons, List.not_mem_nil, or_false] at hk; simp only [List.length_cons, List.length_nil]; omega)) (by decide) (fun k hk => by first | omega | (rcases k with _ | _ | _ | _ | _ | _ | _ | _ | k <;> first | rfl | omega)) ?_ ?_ <;> simp (disch := omega) only [go_sem, wrap_n, Int.natCast_add, b5, List.map_append, List.map_cons, List.map_nil, u8row] <;> (try rfl))
  simp only [go_sem]
  refine AWP.seq (AWP.meetB [1] [(5, .osl 1 1 0 21)] [.cells [I t.zxid, I t.op, I t.session, S t.path, S t.data, I t.version, I t.owner], .rows 1 ((b6 t).map u8row)] ?_ ?_)
  · (repeat' first
  | (with_reducible refine AR.f ?_)
  | refine blkA_x (by decide) ?_
  | (with_reducible refine AWP.cond rfl ?_ ?_ <;> intro hc <;> (try simp only [hcs, beq_iff_eq, ge_iff_le, gt_iff_lt] at hc))
  | ((first | ((first | refine zP ((Plan.takes [0, 1, 2, 4] (.fork 3 (Plan.takes [5, 6, 7] .done) 5 (Plan.takes [3, 6, 7] .done)))) (by decide +kernel) ?_ | (with_reducible first | refine zR ?_ | refine zQ (by decide +kernel) ?_ | refine zD (by decide +kernel) ?_ | refine zE (by decide +kernel) ?_ | refine zG (by decide +kernel) ?_)); intro K hK) | (refine acallH_own (put_own_at (b5 t) t.version 4 13 17 4 (by decide) (by simp [b5_len]) (b5_len t) rfl rfl) ?_ ?_ ?_; (focus ((try simp (disch := omega) only [inj, List.cons.injEq, and_self, List.nodup_cons, List.not_mem_nil, List.mem_cons, not_false_eq_true, List.nodup_nil, go_sem, wrap_n]) <;> (try omega) <;> fail)); (focus ((try simp (disch := omega) only [inj, List.cons.injEq, and_self, List.nodup_cons, List.not_mem_nil, List.mem_cons, not_false_eq_true, List.nodup_nil, go_sem, wrap_n]) <;> (try omega) <;> (try decide) <;> fail))) | (refine acallH_own (put_own_at (b5 t ++ beB 4 t.version) t.owner 4 17 21 4 (by decide) (by simp [b5_len, beB_len]) (by simp [b5_len, beB_len]) rfl rfl) ?_ ?_ ?_; (focus ((try simp (disch := omega) only [inj, List.cons.injEq, and_self, List.nodup_cons, List.not_mem_nil, List.mem_cons, not_false_eq_true, List.nodup_nil, go_sem, wrap_n]) <;> (try omega) <;> fail)); (focus ((try simp (disch := omega) only [inj, List.cons.injEq, and_self, List.nodup_cons, List.not_mem_nil, List.mem_cons, not_false_eq_true, List.nodup_nil, go_sem, wrap_n]) <;> (try omega) <;> (try decide) <;> fail))) | ((first | (with_reducible refine aunder_i ?_ ?_ <;> intro hg) | with_reducible intro hg) <;> (first | (exfalso; simp at hg; done) | (have hg' := hg; (try simp only [hcs, beq_iff_eq, ge_iff_le, gt_iff_lt] at hg'); (try simp only [hg]))))) <;> (try simp (disch := omega) only [go_sem, wrap_n]) <;> (repeat' with_reducible refine And.intro ?_ ?_) <;> (try (with_reducible refine hK _ ?_; clear hK K)))
  | omega)
    all_goals (refine SImp.frame [0, 3] rfl (by intro k hk; first | (simp at hk <;> (simp; omega)) | (simp only [List.mem_cons, List.not_mem_nil, or_false] at hk; simp only [List.length_cons, List.length_nil]; omega)) (by decide) (fun k hk => by first | omega | (rcases k with _ | _ | _ | _ | _ | _ | _ | _ | k <;> first | rfl | omega)) ?_ ?_ <;> simp (disch := omega) only [go_sem, wrap_n, Int.natCast_add, b6] <;> (try rfl))
  simp only [go_sem]
  refine AWP.seq (AWP.meetB [1] [(5, .osl 1 1 0 (22 + t.path.length))] [.cells [I t.zxid, I t.op, I t.session, S t.path, S t.data, I t.version, I t.owner], .rows 1 ((b7 t).map u8row)] ?_ ?_)
  · (repeat' first
  | (with_reducible refine AR.f ?_)
  | refine blkA_x (by decide) ?_
  | (with_reducible refine AWP.cond rfl ?_ ?_ <;> intro hc <;> (try simp only [hcs, beq_iff_eq, ge_iff_le, gt_iff_lt] at hc))
  | ((first | ((first | refine zP ((Plan.takes [0, 1, 2, 3, 7] (.fork 4 (.fork 5 (.fork 6 (Plan.takes [8, 9, 10] .done) 8 (Plan.takes [6, 9, 10] .done)) 8 (Plan.takes [5, 6, 9, 10] .done)) 8 (Plan.takes [4, 5, 6, 9, 10] .done)))) (by decide +kernel) ?_ | (with_reducible first | refine zR ?_ | refine zQ (by decide +kernel) ?_ | refine zD (by decide +kernel) ?_ | refine zE (by decide +kernel) ?_ | refine zG (by decide +kernel) ?_)); intro K hK) | ((first | (with_reducible refine aunder_i ?_ ?_ <;> intro hg) | with_reducible intro hg) <;> (first | (exfalso; simp at hg; done) | (have hg' := hg; (try simp only [hcs, beq_iff_eq, ge_iff_le, gt_iff_lt] at hg'); (try simp only [hg]))))) <;> (try simp (disch := omega) only [go_sem, wrap_n, tk _ _ (b6_len t), u8_op]) <;> (repeat' with_reducible refine And.intro ?_ ?_) <;> (try (with_reducible refine hK _ ?_; clear hK K)))
  | omega)
    all_goals first | exact Nat.le_of_eq (b6_len t).symm | omega | skip
    all_goals (refine SImp.frame [0, 4] rfl (by intro k hk; first | (simp at hk <;> (simp; omega)) | (simp only [List.mem_cons, List.not_mem_nil, or_false] at hk; simp only [List.length_cons, List.length_nil]; omega)) (by decide) (fun k hk => by first | omega | (rcases k with _ | _ | _ | _ | _ | _ | _ | _ | k <;> first | rfl | omega)) ?_ ?_ <;> simp (disch := omega) only [go_sem, wrap_n, Int.natCast_add, b7, tk22, List.map_append, List.map_cons, List.map_nil, u8row] <;> (try rfl))
  simp only [go_sem]
  refine AWP.seq (AWP.meetB [1] [(5, .osl 1 1 0 (bodyB t).length)] [.cells [I t.zxid, I t.op, I t.session, S t.path, S t.data, I t.version, I t.owner], .rows 1 ((bodyB t).map u8row)] ?_ ?_)
  · (repeat' first
  | (with_reducible refine AR.f ?_)
  | refine blkA_x (by decide) ?_
  | (with_reducible refine AWP.cond rfl ?_ ?_ <;> intro hc <;> (try simp only [hcs, beq_iff_eq, ge_iff_le, gt_iff_lt] at hc))
  | ((first | ((first | refine zP ((Plan.takes [0, 1, 2, 3, 5] (.fork 4 (Plan.takes [6, 7, 8] .done) 6 (Plan.takes [4, 7, 8] .done)))) (by decide +kernel) ?_ | (with_reducible first | refine zR ?_ | refine zQ (by decide +kernel) ?_ | refine zD (by decide +kernel) ?_ | refine zE (by decide +kernel) ?_ | refine zG (by decide +kernel) ?_)); intro K hK) | (refine acallH_own (put_own_at (b7 t) t.data.length 2 (22 + t.path.length) (24 + t.path.length) 2 (by decide) (by rw [b7_len]; omega) (b7_len t) (by omega) rfl) ?_ ?_ ?_; (focus ((try simp (disch := omega) only [inj, List.cons.injEq, and_self, List.nodup_cons, List.not_mem_nil, List.mem_cons, not_false_eq_true, List.nodup_nil, go_sem, wrap_n, bodyB_len]) <;> (try omega) <;> fail)); (focus ((try simp (disch := omega) only [inj, List.cons.injEq, and_self, List.nodup_cons, List.not_mem_nil, List.mem_cons, not_false_eq_true, List.nodup_nil, go_sem, wrap_n, bodyB_len]) <;> (try omega) <;> (try decide) <;> fail))) | ((first | (with_reducible refine aunder_i ?_ ?_ <;> intro hg) | with_reducible intro hg) <;> (first | (exfalso; simp at hg; done) | (have hg' := hg; (try simp only [hcs, beq_iff_eq, ge_iff_le, gt_iff_lt] at hg'); (try simp only [hg]))))) <;> (try simp (disch := omega) only [go_sem, wrap_n, bodyB_len]) <;> (repeat' with_reducible refine And.intro ?_ ?_) <;> (try (with_reducible refine hK _ ?_; clear hK K)))
  | omega)
    all_goals first | exact Nat.le_of_eq (by rw [b7_len, beB_len]; omega) | skip
    all_goals (refine SImp.frame [0, 3] rfl (by intro k hk; first | (simp at hk <;> (simp; omega)) | (simp only [List.mem_cons, List.not_mem_nil, or_false] at hk; simp only [List.length_cons, List.length_nil]; omega)) (by decide) (fun k hk => by first | omega | (rcases k with _ | _ | _ | _ | _ | _ | _ | _ | k <;> first | rfl | omega)) ?_ ?_ <;> simp (disch := omega) only [go_sem, wrap_n, Int.natCast_add, bodyB_len, hbr, tk24] <;> (try rfl))
  simp only [go_sem]
  have hB := bodyB_len t
  have tk2 : List.take 2 (List.map u8row (beB 2 ((bodyB t).length : Int))) = List.map u8row (beB 2 ((bodyB t).length : Int)) := List.take_of_length_le (by rw [List.length_map, beB_len]; decide)
  have hH : [DV.int IntKind.u8 84] :: (List.map u8row (beB 2 ((bodyB t).length : Int)) ++ List.map u8row (bodyB t)) = List.map u8row (headB t) := by unfold headB; rw [List.map_append, List.map_append]; rfl
  have tkH : List.take (3 + (bodyB t).length) (List.map u8row (headB t)) = List.map u8row (headB t) := List.take_of_length_le (by rw [List.length_map, headB, List.length_append, List.length_append, beB_len]; simp)
  have tk4 (v : Int) : List.take 4 (List.map u8row (beB 4 v)) = List.map u8row (beB 4 v) := List.take_of_length_le (by rw [List.length_map, beB_len]; decide)
  (repeat' first
| (with_reducible refine AR.f ?_)
| refine blkA_x (by decide) ?_
| (with_reducible refine AWP.cond rfl ?_ ?_ <;> intro hc <;> (try simp only [hcs, beq_iff_eq, ge_iff_le, gt_iff_lt] at hc))
| ((first | ((first | (with_reducible first | refine zR ?_ | refine zQ (by decide +kernel) ?_ | refine zD (by decide +kernel) ?_ | refine zE (by decide +kernel) ?_ | refine zG (by decide +kernel) ?_)); intro K hK) | ((first | refine zA (sum_c (headB t) hh) ?_ ?_ ?_ ?_ ?_ | refine zA (put_nil_c (sumN (headB t)) 4 (by decide)) ?_ ?_ ?_ ?_ ?_); (focus exact rfl); (focus exact rfl); iterate 2 (focus ((try simp (disch := omega) only [go_sem, wrap_n, List.map_cons, List.map_nil, h84, tk2, hH, tkH, tk4]) <;> (try omega) <;> fail))) | ((first | refine zN (sum_c (headB t) hh) rfl ?_ ?_ | refine zN (put_nil_c (sumN (headB t)) 4 (by decide)) rfl ?_ ?_); (focus ((try simp (disch := omega) only [go_sem, wrap_n, List.map_cons, List.map_nil, h84, tk2, hH, tkH, tk4]) <;> (try omega) <;> fail))) | (first | ((first | refine zX (sum_c (headB t) hh) rfl ?_ ?_ | refine acallH_anyx (sum_c (headB t) hh) ?_ ?_); (focus ((try simp (disch := omega) only [go_sem, wrap_n, List.map_cons, List.map_nil, h84, tk2, hH, tkH, tk4]) <;> (try omega) <;> fail))) | ((first | refine zX (put_nil_c (sumN (headB t)) 4 (by decide)) rfl ?_ ?_ | refine acallH_anyx (put_nil_c (sumN (headB t)) 4 (by decide)) ?_ ?_); (focus ((try simp (disch := omega) only [go_sem, wrap_n, List.map_cons, List.map_nil, h84, tk2, hH, tkH, tk4]) <;> (try omega) <;> fail)))) | (refine acallH_own (put_own_at [84] (bodyB t).length 2 1 3 2 (by decide) (by decide) rfl rfl rfl) ?_ ?_ ?_; (focus ((try simp (disch := omega) only [inj, List.cons.injEq, and_self, List.nodup_cons, List.not_mem_nil, List.mem_cons, not_false_eq_true, List.nodup_nil, go_sem, wrap_n, List.map_cons, List.map_nil, h84, tk2, hH, tkH, tk4]) <;> (try omega) <;> fail)); (focus ((try simp (disch := omega) only [inj, List.cons.injEq, and_self, List.nodup_cons, List.not_mem_nil, List.mem_cons, not_false_eq_true, List.nodup_nil, go_sem, wrap_n, List.map_cons, List.map_nil, h84, tk2, hH, tkH, tk4]) <;> (try omega) <;> (try decide) <;> fail))) | ((first | (with_reducible refine aunder_i ?_ ?_ <;> intro hg) | with_reducible intro hg) <;> (first | (exfalso; simp at hg; done) | (have hg' := hg; (try simp only [hcs, beq_iff_eq, ge_iff_le, gt_iff_lt] at hg'); (try simp only [hg]))))) <;> (try simp (disch := omega) only [go_sem, wrap_n, List.map_cons, List.map_nil, h84, tk2, hH, tkH, tk4]) <;> (repeat' with_reducible refine And.intro ?_ ?_) <;> (try (with_reducible refine hK _ ?_; clear hK K)))
| omega)
  · exact Nat.le_of_eq (beB_len _ _).symm
  · exact Nat.le_of_eq (by rw [headB_len]; omega)
  · exact Nat.le_of_eq (beB_len _ _).symm
  · rw [headB_len, beB_len]; omega
  · (refine zF rfl ?_ ?_ ?_ ?_; (iterate 3 (focus ((try simp (disch := omega) only [go_sem, wrap_n, encB]) <;> (try omega) <;> fail))); (try simp (disch := omega) only [go_sem, wrap_n, encB, I, B, S, inj, List.cons.injEq, and_true, true_and, and_self]))
theorem bytesOf_c (v : Int) (n : Nat) (hn : n ≤ 8) : acall Tryd.prog [] 79 [I v, I n] (ret (S (beB n v))) := by
  refine acall_of tabOk Tryd.func79 rfl (by kernel_rfl) (by simp [Tryd.ntmps79]) ?_; simp only [Tryd.ntmps79, Tryd.results79, List.toList_toArray, apar, List.length_nil, List.length_cons, Nat.reduceAdd]
  (repeat' first
| (with_reducible refine AR.f ?_)
| refine blkA_x (by decide) ?_
| (with_reducible refine AWP.cond rfl ?_ ?_ <;> intro hc <;> (try simp only [hcs, beq_iff_eq, ge_iff_le, gt_iff_lt] at hc))
| ((first | ((first | (with_reducible first | refine zR ?_ | refine zQ (by decide +kernel) ?_ | refine zD (by decide +kernel) ?_ | refine zE (by decide +kernel) ?_ | refine zG (by decide +kernel) ?_)); intro K hK) | ((first | (with_reducible refine aunder_i ?_ ?_ <;> intro hg) | with_reducible intro hg) <;> (first | (exfalso; simp at hg; done) | (have hg' := hg; (try simp only [hcs, beq_iff_eq, ge_iff_le, gt_iff_lt] at hg'); (try simp only [hg]))))) <;> (try simp (disch := omega) only [go_sem, wrap_n]) <;> (repeat' with_reducible refine And.intro ?_ ?_) <;> (try (with_reducible refine hK _ ?_; clear hK K)))
| omega)
  refine AWP.loopB (ι := Nat) (fun j => j ≤ n) (fun j => n - j) [] (fun j => [(0, I (v / 2 ^ (8 * j))), (1, I ((n - j : Nat) : Int)), (5, S (beB j v))]) (fun j => []) 0 ?_ ?_ ?_
  · omega
  · simp only [go_sem, Nat.mul_zero, Nat.sub_zero, beB, Int.pow_zero, Int.ediv_one]; (refine SImp.same ?_; simp (disch := omega) only [go_sem, wrap_n, Int.natCast_add])
  intro j hj
  have hu : [DV.int IntKind.u8 ((byteAt j v).toNat : Int)] = u8row (byteAt j v) := rfl
  have ok1 : okU8s [[DV.int IntKind.u8 ((byteAt j v).toNat : Int)]] := okU8s_rows [byteAt j v]
  have hdiv : v / 2 ^ (8 * j) / 256 = v / 2 ^ (8 * (j + 1)) := by
    rw [Int.ediv_ediv_of_nonneg (Int.pow_nonneg (by decide)), show (8 * (j + 1)) = 8 * j + 8 from by omega, Int.pow_add]; rfl
  simp only [go_sem]
  (repeat' first
| (with_reducible refine AR.f ?_)
| refine blkA_x (by decide) ?_
| (with_reducible refine AWP.cond rfl ?_ ?_ <;> intro hc <;> (try simp only [hcs, beq_iff_eq, ge_iff_le, gt_iff_lt] at hc))
| ((first | ((first | (with_reducible first | refine zR ?_ | refine zQ (by decide +kernel) ?_ | refine zD (by decide +kernel) ?_ | refine zE (by decide +kernel) ?_ | refine zG (by decide +kernel) ?_)); intro K hK) | ((first | (with_reducible refine aunder_i ?_ ?_ <;> intro hg) | with_reducible intro hg) <;> (first | (exfalso; simp at hg; done) | (have hg' := hg; (try simp only [hcs, beq_iff_eq, ge_iff_le, gt_iff_lt] at hg'); (try simp only [hg]))))) <;> (try simp (disch := omega) only [go_sem, wrap_n, u8_byte, ok1, Int.toNat_natCast, UInt8.ofNat_toNat, hdiv]) <;> (repeat' with_reducible refine And.intro ?_ ?_) <;> (try (with_reducible refine hK _ ?_; clear hK K)))
| omega)
  · rw [beB_len]; omega
  · refine ⟨j + 1, by omega, by omega, ?_⟩
    have hs : ((n - j : Nat) : Int) - 1 = ((n - (j + 1) : Nat) : Int) := by omega
    (refine SImp.frame [] rfl (by intro k hk; first | (simp at hk <;> (simp; omega)) | (simp only [List.mem_cons, List.not_mem_nil, or_false] at hk; simp only [List.length_cons, List.length_nil]; omega)) (by decide) (fun k hk => by first | omega | (rcases k with _ | _ | _ | _ | _ | _ | _ | _ | k <;> first | rfl | omega)) ?_ ?_ <;> simp (disch := omega) only [go_sem, wrap_n, Int.natCast_add, u8_byte, hdiv, beB, hs] <;> (try rfl))
  · rw [show j = n from by omega]
    (refine zF rfl ?_ ?_ ?_ ?_; (iterate 3 (focus ((try simp (disch := omega) only [go_sem, wrap_n]) <;> (try omega) <;> fail))); (try simp (disch := omega) only [go_sem, wrap_n, I, B, S, inj, List.cons.injEq, and_true, true_and, and_self]))
theorem bytesOf_at (v : Int) (n : Nat) (hn : n ≤ 8) (ni : Int) (hi : ni = n) : acall Tryd.prog [] 79 [I v, I ni] (ret (S (beB n v))) := by
  subst hi; exact bytesOf_c v n hn
set_option maxHeartbeats 4000000 in
theorem ref_encode_c (t : ATxn) (hz : okI t.zxid) (hp : t.path.length ≤ 1048576) (hd : okS t.data) : acall Tryd.prog [] 66 [t.av] (ret (.tup [S (encT t).1, I (encT t).2])) := by
  refine acall_of tabOk Tryd.func66 rfl (by kernel_rfl) (by simp [Tryd.ntmps66]) ?_; simp only [Tryd.ntmps66, Tryd.results66, List.toList_toArray, apar, List.length_nil, List.length_cons, Nat.reduceAdd]
  by_cases g : goodT t = 0
  case neg =>
    unfold encT
    rw [if_neg g]
    (repeat' first
  | (with_reducible refine AR.f ?_)
  | refine blkA_x (by decide) ?_
  | (with_reducible refine AWP.cond rfl ?_ ?_ <;> intro hc <;> (try simp only [hcs, beq_iff_eq, ge_iff_le, gt_iff_lt] at hc))
  | ((first | ((first | (with_reducible first | refine zR ?_ | refine zQ (by decide +kernel) ?_ | refine zD (by decide +kernel) ?_ | refine zE (by decide +kernel) ?_ | refine zG (by decide +kernel) ?_)); intro K hK) | ((first | refine zA (ref_wgood_c t hz hp hd) ?_ ?_ ?_ ?_ ?_); (focus exact rfl); (focus exact rfl); iterate 2 (focus ((try simp (disch := omega) only [go_sem, wrap_n]) <;> (try omega) <;> fail))) | ((first | refine zN (ref_wgood_c t hz hp hd) rfl ?_ ?_); (focus ((try simp (disch := omega) only [go_sem, wrap_n]) <;> (try omega) <;> fail))) | (first | ((first | refine zX (ref_wgood_c t hz hp hd) rfl ?_ ?_ | refine acallH_anyx (ref_wgood_c t hz hp hd) ?_ ?_); (focus ((try simp (disch := omega) only [go_sem, wrap_n]) <;> (try omega) <;> fail)))) | ((first | (with_reducible refine aunder_i ?_ ?_ <;> intro hg) | with_reducible intro hg) <;> (first | (exfalso; simp at hg; done) | (have hg' := hg; (try simp only [hcs, beq_iff_eq, ge_iff_le, gt_iff_lt] at hg'); (try simp only [hg]))))) <;> (try simp (disch := omega) only [go_sem, wrap_n]) <;> (repeat' with_reducible refine And.intro ?_ ?_) <;> (try (with_reducible refine hK _ ?_; clear hK K)))
  | omega)
    all_goals first | omega | skip
    all_goals (refine zF rfl ?_ ?_ ?_ ?_; (iterate 3 (focus ((try simp (disch := omega) only [go_sem, wrap_n]) <;> (try omega) <;> fail))); (try simp (disch := omega) only [go_sem, wrap_n, I, B, S, inj, List.cons.injEq, and_true, true_and, and_self]))
  unfold encT
  rw [if_pos g]
  obtain ⟨s1, s2⟩ := goodT_small g
  have hh : okS (headB t) := by unfold okS; rw [headB_len]; omega
  have hbody : beB 8 t.zxid ++ beB 1 t.op ++ beB 4 t.session ++ beB 4 t.version ++ beB 4 t.owner ++ beB 1 (t.path.length : Int) ++ t.path ++ beB 2 (t.data.length : Int) ++ t.data = bodyB t := rfl
  have hhead : [84] ++ beB 2 ((bodyB t).length : Int) ++ bodyB t = headB t := rfl
  have hhead2 : 84 :: (beB 2 ((bodyB t).length : Int) ++ bodyB t) = headB t := rfl
  (repeat' first
| (with_reducible refine AR.f ?_)
| refine blkA_x (by decide) ?_
| (with_reducible refine AWP.cond rfl ?_ ?_ <;> intro hc <;> (try simp only [hcs, beq_iff_eq, ge_iff_le, gt_iff_lt] at hc))
| ((first | ((first | (with_reducible first | refine zR ?_ | refine zQ (by decide +kernel) ?_ | refine zD (by decide +kernel) ?_ | refine zE (by decide +kernel) ?_ | refine zG (by decide +kernel) ?_)); intro K hK) | ((first | refine zA ((ref_wgood_c t hz hp hd).re (congrArg I g)) ?_ ?_ ?_ ?_ ?_ | refine zA (bytesOf_at t.zxid 8 (by decide) 8 rfl) ?_ ?_ ?_ ?_ ?_ | refine zA (bytesOf_at t.op 1 (by decide) 1 rfl) ?_ ?_ ?_ ?_ ?_ | refine zA (bytesOf_at t.session 4 (by decide) 4 rfl) ?_ ?_ ?_ ?_ ?_ | refine zA (bytesOf_at t.version 4 (by decide) 4 rfl) ?_ ?_ ?_ ?_ ?_ | refine zA (bytesOf_at t.owner 4 (by decide) 4 rfl) ?_ ?_ ?_ ?_ ?_ | refine zA (bytesOf_at t.path.length 1 (by decide) 1 rfl) ?_ ?_ ?_ ?_ ?_ | refine zA (bytesOf_at t.data.length 2 (by decide) 2 rfl) ?_ ?_ ?_ ?_ ?_ | refine zA (bytesOf_at (bodyB t).length 2 (by decide) 2 rfl) ?_ ?_ ?_ ?_ ?_ | refine zA (ref_sum_c (headB t) hh) ?_ ?_ ?_ ?_ ?_ | refine zA (bytesOf_at (sumN (headB t)) 4 (by decide) 4 rfl) ?_ ?_ ?_ ?_ ?_); (focus exact rfl); (focus exact rfl); iterate 2 (focus ((try simp (disch := omega) only [go_sem, wrap_n, hbody, hhead, hhead2]) <;> (try omega) <;> fail))) | ((first | refine zN ((ref_wgood_c t hz hp hd).re (congrArg I g)) rfl ?_ ?_ | refine zN (bytesOf_at t.zxid 8 (by decide) 8 rfl) rfl ?_ ?_ | refine zN (bytesOf_at t.op 1 (by decide) 1 rfl) rfl ?_ ?_ | refine zN (bytesOf_at t.session 4 (by decide) 4 rfl) rfl ?_ ?_ | refine zN (bytesOf_at t.version 4 (by decide) 4 rfl) rfl ?_ ?_ | refine zN (bytesOf_at t.owner 4 (by decide) 4 rfl) rfl ?_ ?_ | refine zN (bytesOf_at t.path.length 1 (by decide) 1 rfl) rfl ?_ ?_ | refine zN (bytesOf_at t.data.length 2 (by decide) 2 rfl) rfl ?_ ?_ | refine zN (bytesOf_at (bodyB t).length 2 (by decide) 2 rfl) rfl ?_ ?_ | refine zN (ref_sum_c (headB t) hh) rfl ?_ ?_ | refine zN (bytesOf_at (sumN (headB t)) 4 (by decide) 4 rfl) rfl ?_ ?_); (focus ((try simp (disch := omega) only [go_sem, wrap_n, hbody, hhead, hhead2]) <;> (try omega) <;> fail))) | (first | ((first | refine zX ((ref_wgood_c t hz hp hd).re (congrArg I g)) rfl ?_ ?_ | refine acallH_anyx ((ref_wgood_c t hz hp hd).re (congrArg I g)) ?_ ?_); (focus ((try simp (disch := omega) only [go_sem, wrap_n, hbody, hhead, hhead2]) <;> (try omega) <;> fail))) | ((first | refine zX (bytesOf_at t.zxid 8 (by decide) 8 rfl) rfl ?_ ?_ | refine acallH_anyx (bytesOf_at t.zxid 8 (by decide) 8 rfl) ?_ ?_); (focus ((try simp (disch := omega) only [go_sem, wrap_n, hbody, hhead, hhead2]) <;> (try omega) <;> fail))) | ((first | refine zX (bytesOf_at t.op 1 (by decide) 1 rfl) rfl ?_ ?_ | refine acallH_anyx (bytesOf_at t.op 1 (by decide) 1 rfl) ?_ ?_); (focus ((try simp (disch := omega) only [go_sem, wrap_n, hbody, hhead, hhead2]) <;> (try omega) <;> fail))) | ((first | refine zX (bytesOf_at t.session 4 (by decide) 4 rfl) rfl ?_ ?_ | refine acallH_anyx (bytesOf_at t.session 4 (by decide) 4 rfl) ?_ ?_); (focus ((try simp (disch := omega) only [go_sem, wrap_n, hbody, hhead, hhead2]) <;> (try omega) <;> fail))) | ((first | refine zX (bytesOf_at t.version 4 (by decide) 4 rfl) rfl ?_ ?_ | refine acallH_anyx (bytesOf_at t.version 4 (by decide) 4 rfl) ?_ ?_); (focus ((try simp (disch := omega) only [go_sem, wrap_n, hbody, hhead, hhead2]) <;> (try omega) <;> fail))) | ((first | refine zX (bytesOf_at t.owner 4 (by decide) 4 rfl) rfl ?_ ?_ | refine acallH_anyx (bytesOf_at t.owner 4 (by decide) 4 rfl) ?_ ?_); (focus ((try simp (disch := omega) only [go_sem, wrap_n, hbody, hhead, hhead2]) <;> (try omega) <;> fail))) | ((first | refine zX (bytesOf_at t.path.length 1 (by decide) 1 rfl) rfl ?_ ?_ | refine acallH_anyx (bytesOf_at t.path.length 1 (by decide) 1 rfl) ?_ ?_); (focus ((try simp (disch := omega) only [go_sem, wrap_n, hbody, hhead, hhead2]) <;> (try omega) <;> fail))) | ((first | refine zX (bytesOf_at t.data.length 2 (by decide) 2 rfl) rfl ?_ ?_ | refine acallH_anyx (bytesOf_at t.data.length 2 (by decide) 2 rfl) ?_ ?_); (focus ((try simp (disch := omega) only [go_sem, wrap_n, hbody, hhead, hhead2]) <;> (try omega) <;> fail))) | ((first | refine zX (bytesOf_at (bodyB t).length 2 (by decide) 2 rfl) rfl ?_ ?_ | refine acallH_anyx (bytesOf_at (bodyB t).length 2 (by decide) 2 rfl) ?_ ?_); (focus ((try simp (disch := omega) only [go_sem, wrap_n, hbody, hhead, hhead2]) <;> (try omega) <;> fail))) | ((first | refine zX (ref_sum_c (headB t) hh) rfl ?_ ?_ | refine acallH_anyx (ref_sum_c (headB t) hh) ?_ ?_); (focus ((try simp (disch := omega) only [go_sem, wrap_n, hbody, hhead, hhead2]) <;> (try omega) <;> fail))) | ((first | refine zX (bytesOf_at (sumN (headB t)) 4 (by decide) 4 rfl) rfl ?_ ?_ | refine acallH_anyx (bytesOf_at (sumN (headB t)) 4 (by decide) 4 rfl) ?_ ?_); (focus ((try simp (disch := omega) only [go_sem, wrap_n, hbody, hhead, hhead2]) <;> (try omega) <;> fail)))) | ((first | (with_reducible refine aunder_i ?_ ?_ <;> intro hg) | with_reducible intro hg) <;> (first | (exfalso; simp at hg; done) | (have hg' := hg; (try simp only [hcs, beq_iff_eq, ge_iff_le, gt_iff_lt] at hg'); (try simp only [hg]))))) <;> (try simp (disch := omega) only [go_sem, wrap_n, hbody, hhead, hhead2]) <;> (repeat' with_reducible refine And.intro ?_ ?_) <;> (try (with_reducible refine hK _ ?_; clear hK K)))
| omega)
  all_goals first | (with_reducible refine Nat.le_trans (m := 1000) ?_ (by decide); simp only [beB_len, bodyB_len, headB_len]; omega) | skip
  (refine zF rfl ?_ ?_ ?_ ?_; (iterate 3 (focus ((try simp (disch := omega) only [go_sem, wrap_n, encB]) <;> (try omega) <;> fail))); (try simp (disch := omega) only [go_sem, wrap_n, encB, I, B, S, inj, List.cons.injEq, and_true, true_and, and_self]))
end Go.Proofs.YtmpfhalheaeibaaDoor
namespace Go.Proofs.YtmpfhalheaeibaaDoor
set_option linter.unusedVariables false
set_option linter.unusedSimpArgs false
open Go Go.RowKit
set_option maxRecDepth 100000
structure Cur where
  t : List UInt8
  s : List UInt8
  bad : Bool
def curT (s : List UInt8) (b : Bool) (n : Nat) : Cur := if b = true ∨ s.length < n then ⟨[], s, true⟩ else ⟨s.take n, s.drop n, false⟩
theorem curT_bad {s : List UInt8} {b : Bool} {n : Nat} (h : b = true ∨ s.length < n) : curT s b n = ⟨[], s, true⟩ := if_pos h
theorem curT_ok {s : List UInt8} {n : Nat} (h : n ≤ s.length) : curT s false n = ⟨s.take n, s.drop n, false⟩ := if_neg (by simp; omega)
theorem text_c (s : List UInt8) (b : Bool) (n : Nat) (hs : okS s) (ni : Int) (hi : ni = n) : acall Tryd.prog [.cells [S s, B b]] 166 [.ptr 0 0, I ni] (outs (S (curT s b n).t) [.cells [S (curT s b n).s, B (curT s b n).bad]]) := by
  subst hi
  unfold okS at hs
  by_cases h : b = true ∨ s.length < n
  · rw [curT_bad h]
    refine acall_of tabOk Tryd.func166 rfl (by kernel_rfl) (by simp [Tryd.ntmps166]) ?_; simp only [Tryd.ntmps166, Tryd.results166, List.toList_toArray, apar, List.length_nil, List.length_cons, Nat.reduceAdd]
    (repeat' first
  | (with_reducible refine AR.f ?_)
  | refine blkA_x (by decide) ?_
  | (with_reducible refine AWP.cond rfl ?_ ?_ <;> intro hc <;> (try simp only [hcs, beq_iff_eq, ge_iff_le, gt_iff_lt] at hc))
  | ((first | ((first | (with_reducible first | refine zR ?_ | refine zQ (by decide +kernel) ?_ | refine zD (by decide +kernel) ?_ | refine zE (by decide +kernel) ?_ | refine zG (by decide +kernel) ?_)); intro K hK) | ((first | (with_reducible refine aunder_i ?_ ?_ <;> intro hg) | with_reducible intro hg) <;> (first | (exfalso; simp at hg; done) | (have hg' := hg; (try simp only [hcs, beq_iff_eq, ge_iff_le, gt_iff_lt] at hg'); (try simp only [hg]))))) <;> (try simp (disch := omega) only [go_sem, wrap_n]) <;> (repeat' with_reducible refine And.intro ?_ ?_) <;> (try (with_reducible refine hK _ ?_; clear hK K)))
  | omega)
    · (refine aend_out (by first | exact .inl rfl | exact .inr rfl) ?_ ?_; (focus ((try simp (disch := omega) only [go_sem, wrap_n]) <;> fail)); simp (disch := omega) only [go_sem, wrap_n, true_and]; refine AOut.of_simp ?_ (AOut.same ⟨rfl, rfl⟩); refine SImp.frame [0] rfl (by intro k hk; first | (simp at hk <;> (simp; omega)) | (simp only [List.mem_cons, List.not_mem_nil, or_false] at hk; simp only [List.length_cons, List.length_nil]; omega)) (by decide) (fun k hk => by first | omega | (rcases k with _ | _ | _ | _ | _ | _ | _ | _ | k <;> first | rfl | omega)) ?_ ?_ <;> simp (disch := omega) only [go_sem, wrap_n, true_or, or_true, true_and])
    exfalso; rcases h with h | h
    · rw [h] at hc; exact absurd hc.1 (by decide)
    · omega
  · rw [show b = false from by cases b <;> simp_all] at *
    rw [curT_ok (by omega)]
    refine acall_of tabOk Tryd.func166 rfl (by kernel_rfl) (by simp [Tryd.ntmps166]) ?_; simp only [Tryd.ntmps166, Tryd.results166, List.toList_toArray, apar, List.length_nil, List.length_cons, Nat.reduceAdd]
    have e : List.take (s.length - n) (List.drop n s) = List.drop n s := List.take_of_length_le (by rw [List.length_drop]; omega)
    (repeat' first
  | (with_reducible refine AR.f ?_)
  | refine blkA_x (by decide) ?_
  | (with_reducible refine AWP.cond rfl ?_ ?_ <;> intro hc <;> (try simp only [hcs, beq_iff_eq, ge_iff_le, gt_iff_lt] at hc))
  | ((first | ((first | (with_reducible first | refine zR ?_ | refine zQ (by decide +kernel) ?_ | refine zD (by decide +kernel) ?_ | refine zE (by decide +kernel) ?_ | refine zG (by decide +kernel) ?_)); intro K hK) | ((first | (with_reducible refine aunder_i ?_ ?_ <;> intro hg) | with_reducible intro hg) <;> (first | (exfalso; simp at hg; done) | (have hg' := hg; (try simp only [hcs, beq_iff_eq, ge_iff_le, gt_iff_lt] at hg'); (try simp only [hg]))))) <;> (try simp (disch := omega) only [go_sem, wrap_n]) <;> (repeat' with_reducible refine And.intro ?_ ?_) <;> (try (with_reducible refine hK _ ?_; clear hK K)))
  | omega)
    (refine aend_out (by first | exact .inl rfl | exact .inr rfl) ?_ ?_; (focus ((try simp (disch := omega) only [go_sem, wrap_n]) <;> fail)); simp (disch := omega) only [go_sem, wrap_n, Nat.sub_zero, e]; refine AOut.of_simp ?_ (AOut.same ⟨rfl, rfl⟩); refine SImp.frame [0] rfl (by intro k hk; first | (simp at hk <;> (simp; omega)) | (simp only [List.mem_cons, List.not_mem_nil, or_false] at hk; simp only [List.length_cons, List.length_nil]; omega)) (by decide) (fun k hk => by first | omega | (rcases k with _ | _ | _ | _ | _ | _ | _ | _ | k <;> first | rfl | omega)) ?_ ?_ <;> simp (disch := omega) only [go_sem, wrap_n, true_or, or_true, Nat.sub_zero, e])
def numW (l : List UInt8) : Int := l.foldl (fun v x => IntKind.i64.wrap (v * 256 + x.toNat)) 0
theorem wrap_i64e (n : Int) : IntKind.i64.wrap n = (n + 9223372036854775808) % 18446744073709551616 - 9223372036854775808 := by simp [IntKind.wrap, IntKind.bits, IntKind.signed]; omega
theorem or_byte (n : Int) (c : UInt8) : bits .or .i64 (IntKind.i64.wrap (n * 256)) (c.toNat : Int) = IntKind.i64.wrap (n * 256 + c.toNat) := by
  have hc := c.toNat_lt
  show IntKind.i64.wrap ((BitVec.ofInt 64 (IntKind.i64.wrap (n * 256)) ||| BitVec.ofInt 64 (c.toNat : Int)).toNat : Int) = _
  have e1 : (BitVec.ofInt 64 (IntKind.i64.wrap (n * 256))).toNat = ((n * 256) % 18446744073709551616).toNat := by
    rw [BitVec.toNat_ofInt, wrap_i64e]; congr 1; omega
  rw [BitVec.toNat_or, ofInt_u64 c.toNat (by omega), e1, nat_join 8 _ _ (by omega) (by omega), wrap_i64e, wrap_i64e]
  omega
theorem numW_snoc (t : List UInt8) (k : Nat) (h : k < t.length) : numW (t.take (k + 1)) = IntKind.i64.wrap (numW (t.take k) * 256 + (t.getD k 0).toNat) := by
  unfold numW
  have : t.take (k + 1) = t.take k ++ [t.getD k 0] := take_snoc t k h
  rw [this, List.foldl_append]; rfl
theorem wrap_byte (b : UInt8) : IntKind.i64.wrap (b.toNat : Int) = (b.toNat : Int) := by
  have := b.toNat_lt
  rw [wrap_i64e]; omega
theorem number_c (s : List UInt8) (b : Bool) (n : Nat) (hs : okS s) (ni : Int) (hi : ni = n) (hn : n ≤ 8) : acall Tryd.prog [.cells [S s, B b]] 167 [.ptr 0 0, I ni] (outs (I (numW (curT s b n).t)) [.cells [S (curT s b n).s, B (curT s b n).bad]]) := by
  have hl : (curT s b n).t.length ≤ 8 := by unfold curT; split <;> simp; omega
  generalize hk : curT s b n = k at hl
  refine acall_of tabOk Tryd.func167 rfl (by kernel_rfl) (by simp [Tryd.ntmps167]) ?_; simp only [Tryd.ntmps167, Tryd.results167, List.toList_toArray, apar, List.length_nil, List.length_cons, Nat.reduceAdd]
  have ct : acall Tryd.prog [.cells [S s, B b]] 166 [.ptr 0 0, I ni] (outs (S k.t) [.cells [S k.s, B k.bad]]) := hk ▸ text_c s b n hs ni hi
  (repeat' first
| (with_reducible refine AR.f ?_)
| refine blkA_x (by decide) ?_
| (with_reducible refine AWP.cond rfl ?_ ?_ <;> intro hc <;> (try simp only [hcs, beq_iff_eq, ge_iff_le, gt_iff_lt] at hc))
| ((first | ((first | (with_reducible first | refine zR ?_ | refine zQ (by decide +kernel) ?_ | refine zD (by decide +kernel) ?_ | refine zE (by decide +kernel) ?_ | refine zG (by decide +kernel) ?_)); intro K hK) | (refine acallH_at [0] (ct) ?_ ?_ ?_; (focus ((try simp (disch := omega) only [inj, List.cons.injEq, and_self, List.nodup_cons, List.not_mem_nil, List.mem_cons, not_false_eq_true, List.nodup_nil, go_sem, wrap_n]) <;> (try omega) <;> fail)); (focus ((try simp (disch := omega) only [inj, List.cons.injEq, and_self, List.nodup_cons, List.not_mem_nil, List.mem_cons, not_false_eq_true, List.nodup_nil, go_sem, wrap_n]) <;> (try omega) <;> (try decide) <;> fail))) | ((first | (with_reducible refine aunder_i ?_ ?_ <;> intro hg) | with_reducible intro hg) <;> (first | (exfalso; simp at hg; done) | (have hg' := hg; (try simp only [hcs, beq_iff_eq, ge_iff_le, gt_iff_lt] at hg'); (try simp only [hg]))))) <;> (try simp (disch := omega) only [go_sem, wrap_n]) <;> (repeat' with_reducible refine And.intro ?_ ?_) <;> (try (with_reducible refine hK _ ?_; clear hK K)))
| omega)
  refine AWP.loopB (ι := Nat) (fun j => j ≤ k.t.length) (fun j => k.t.length - j) [11, 12] (fun j => [(5, I (numW (k.t.take j))), (13, I j)]) (fun j => [.cells [S k.s, B k.bad], .bytes k.t]) 0 ?_ ?_ ?_
  · omega
  · simp only [go_sem, numW, List.foldl_nil]; (refine SImp.same ?_; simp (disch := omega) only [go_sem, wrap_n, Int.natCast_add])
  intro j hj
  simp only [go_sem]
  (repeat' first
| (with_reducible refine AR.f ?_)
| refine blkA_x (by decide) ?_
| (with_reducible refine AWP.cond rfl ?_ ?_ <;> intro hc <;> (try simp only [hcs, beq_iff_eq, ge_iff_le, gt_iff_lt] at hc))
| ((first | ((first | (with_reducible first | refine zR ?_ | refine zQ (by decide +kernel) ?_ | refine zD (by decide +kernel) ?_ | refine zE (by decide +kernel) ?_ | refine zG (by decide +kernel) ?_)); intro K hK) | ((first | (with_reducible refine aunder_i ?_ ?_ <;> intro hg) | with_reducible intro hg) <;> (first | (exfalso; simp at hg; done) | (have hg' := hg; (try simp only [hcs, beq_iff_eq, ge_iff_le, gt_iff_lt] at hg'); (try simp only [hg]))))) <;> (try simp (disch := omega) only [go_sem, wrap_n, u8g, or_byte, wrap_byte]) <;> (repeat' with_reducible refine And.intro ?_ ?_) <;> (try (with_reducible refine hK _ ?_; clear hK K)))
| omega)
  · refine ⟨j + 1, by omega, by omega, ?_⟩
    rw [numW_snoc _ _ (by assumption)]
    (refine SImp.same ?_; simp (disch := omega) only [go_sem, wrap_n, Int.natCast_add, or_byte, wrap_byte, u8g])
  rw [show j = k.t.length from by omega, List.take_length]
  (refine aend_out (by first | exact .inl rfl | exact .inr rfl) ?_ ?_; (focus ((try simp (disch := omega) only [go_sem, wrap_n]) <;> fail)); simp (disch := omega) only [go_sem, wrap_n, true_and]; refine AOut.of_simp ?_ (AOut.same ⟨rfl, rfl⟩); refine SImp.frame [0] rfl (by intro k hk; first | (simp at hk <;> (simp; omega)) | (simp only [List.mem_cons, List.not_mem_nil, or_false] at hk; simp only [List.length_cons, List.length_nil]; omega)) (by decide) (fun k hk => by first | omega | (rcases k with _ | _ | _ | _ | _ | _ | _ | _ | k <;> first | rfl | omega)) ?_ ?_ <;> simp (disch := omega) only [go_sem, wrap_n, true_or, or_true, true_and])
def numN (l : List UInt8) : Nat := l.foldl (fun v x => v * 256 + x.toNat) 0
theorem numN_snoc (t : List UInt8) (k : Nat) (h : k < t.length) : numN (t.take (k + 1)) = numN (t.take k) * 256 + (t.getD k 0).toNat := by
  unfold numN
  have : t.take (k + 1) = t.take k ++ [t.getD k 0] := take_snoc t k h
  rw [this, List.foldl_append]; rfl
theorem numN_take (t : List UInt8) : ∀ k, k ≤ t.length → k ≤ 7 → numN (t.take k) < 256 ^ k ∧ numW (t.take k) = ((numN (t.take k) : Nat) : Int)
  | 0, _, _ => ⟨by simp [numN], rfl⟩
  | k + 1, h, h7 => by
    obtain ⟨h1, h2⟩ := numN_take t k (by omega) (by omega)
    have hb := (t.getD k 0).toNat_lt
    have hp : 256 ^ k ≤ 256 ^ 6 := Nat.pow_le_pow_right (by decide) (by omega)
    have hq : 256 ^ (k + 1) = 256 ^ k * 256 := Nat.pow_succ ..
    rw [numN_snoc t k (by omega), numW_snoc t k (by omega), h2, wrap_i64e]
    omega
theorem numN_lt {t : List UInt8} {k : Nat} (h : t.length ≤ k) (h7 : k ≤ 7) : numN t < 256 ^ k := by
  have := (numN_take t t.length (Nat.le_refl _) (by omega)).1
  rw [List.take_length] at this
  exact Nat.lt_of_lt_of_le this (Nat.pow_le_pow_right (by decide) h)
theorem numW_small {t : List UInt8} (h : t.length ≤ 7) : numW t = ((numN t : Nat) : Int) := by
  have := (numN_take t t.length (Nat.le_refl _) h).2
  rwa [List.take_length] at this
theorem numN_one (b : UInt8) : numN [b] = b.toNat := by simp [numN]
def tz : ATxn := ⟨0, 0, 0, [], [], 0, 0⟩
def bP (b : List UInt8) : Nat := (b.getD 21 0).toNat
def bD (b : List UInt8) : Nat := numN ((b.drop (22 + bP b)).take 2)
def bodyT (b : List UInt8) : ATxn := ⟨numW (b.take 8), (b.getD 8 0).toNat, (numN ((b.drop 9).take 4) : Nat), (b.drop 22).take (bP b), b.drop (24 + bP b), (numN ((b.drop 13).take 4) : Nat), (numN ((b.drop 17).take 4) : Nat)⟩
def bodyOk (b : List UInt8) : Prop := b.length = 24 + bP b + bD b
def sN (s : List UInt8) : Nat := numN ((s.drop 1).take 2)
def sB (s : List UInt8) : List UInt8 := (s.drop 3).take (sN s)
instance (b : List UInt8) : Decidable (bodyOk b) := inferInstanceAs (Decidable (_ = _))
def noHead (s : List UInt8) : Prop := s.length < 3 ∨ s.getD 0 0 ≠ 84
def noRoom (s : List UInt8) : Prop := 1024 < sN s ∨ s.length < sN s + 7
def noSum (s : List UInt8) : Prop := numN ((s.drop (sN s + 3)).take 4) ≠ sumN (s.take (sN s + 3))
instance (s : List UInt8) : Decidable (noHead s) := inferInstanceAs (Decidable (_ ∨ _))
instance (s : List UInt8) : Decidable (noRoom s) := inferInstanceAs (Decidable (_ ∨ _))
instance (s : List UInt8) : Decidable (noSum s) := inferInstanceAs (Decidable (_ ≠ _))
def decT (s : List UInt8) : ATxn × Int × Int :=
  if noHead s then (tz, 0, 2)
  else if noRoom s then (tz, 0, 2)
  else if noSum s then (tz, 0, 5)
  else if ¬ bodyOk (sB s) then (tz, 0, 2)
  else if goodT (bodyT (sB s)) ≠ 0 then (tz, 0, goodT (bodyT (sB s)))
  else (bodyT (sB s), (sN s + 7 : Nat), 0)
theorem decT_a {s : List UInt8} (h : noHead s) : decT s = (tz, 0, 2) := by unfold decT; rw [if_pos h]
theorem decT_b {s : List UInt8} (h1 : ¬ noHead s) (h : noRoom s) : decT s = (tz, 0, 2) := by unfold decT; rw [if_neg h1, if_pos h]
theorem decT_c {s : List UInt8} (h1 : ¬ noHead s) (h2 : ¬ noRoom s) (h : noSum s) : decT s = (tz, 0, 5) := by unfold decT; rw [if_neg h1, if_neg h2, if_pos h]
theorem decT_d {s : List UInt8} (h1 : ¬ noHead s) (h2 : ¬ noRoom s) (h3 : ¬ noSum s) (h : ¬ bodyOk (sB s)) : decT s = (tz, 0, 2) := by unfold decT; rw [if_neg h1, if_neg h2, if_neg h3, if_pos h]
theorem decT_e {s : List UInt8} (h1 : ¬ noHead s) (h2 : ¬ noRoom s) (h3 : ¬ noSum s) (h4 : bodyOk (sB s)) (h : goodT (bodyT (sB s)) ≠ 0) : decT s = (tz, 0, goodT (bodyT (sB s))) := by
  unfold decT; rw [if_neg h1, if_neg h2, if_neg h3, if_neg (fun h => h h4), if_pos h]
theorem decT_f {s : List UInt8} (h1 : ¬ noHead s) (h2 : ¬ noRoom s) (h3 : ¬ noSum s) (h4 : bodyOk (sB s)) (h : goodT (bodyT (sB s)) = 0) : decT s = (bodyT (sB s), ((sN s + 7 : Nat) : Int), 0) := by
  unfold decT; rw [if_neg h1, if_neg h2, if_neg h3, if_neg (fun h => h h4), if_neg (fun h' => h' h)]
end Go.Proofs.YtmpfhalheaeibaaDoor
namespace Go.Proofs.YtmpfhalheaeibaaDoor
set_option linter.unusedVariables false
set_option linter.unusedSimpArgs false
open Go Go.RowKit
set_option maxRecDepth 100000
theorem number_s (s : List UInt8) (b : Bool) (n : Nat) (hs : okS s) (ni : Int) (hi : ni = n) (hn : n ≤ 7) : acall Tryd.prog [.cells [S s, B b]] 167 [.ptr 0 0, I ni] (outs (I (numN (curT s b n).t : Nat)) [.cells [S (curT s b n).s, B (curT s b n).bad]]) := by
  have hl : (curT s b n).t.length ≤ 7 := by unfold curT; split <;> simp; omega
  rw [← numW_small hl]; exact number_c s b n hs ni hi (by omega)
theorem curT_len (s : List UInt8) (b : Bool) (n : Nat) : (curT s b n).s.length ≤ s.length ∧ (curT s b n).t.length ≤ s.length ∧ (curT s b n).t.length ≤ n := by
  unfold curT; split <;> simp <;> omega
theorem curT_good {s : List UInt8} {b : Bool} {n : Nat} (h : (curT s b n).bad = false) : b = false ∧ n ≤ s.length ∧ (curT s b n).t = s.take n ∧ (curT s b n).s = s.drop n := by
  unfold curT at *
  split at h
  · cases h
  · rename_i hn
    rw [if_neg hn]
    exact ⟨by cases b <;> simp_all, by omega, rfl, rfl⟩
theorem curT_no {s : List UInt8} {n : Nat} (h : (curT s false n).bad = true) : s.length < n := by
  rcases Nat.lt_or_ge s.length n with h' | h'
  · exact h'
  · rw [curT_ok h'] at h; cases h
structure Dec where
  k1 : Cur
  k2 : Cur
  k3 : Cur
  k4 : Cur
  j1 : Cur
  j2 : Cur
  j3 : Cur
  j4 : Cur
  j5 : Cur
  j6 : Cur
  j7 : Cur
  j8 : Cur
  j9 : Cur
structure Reads (s : List UInt8) (d : Dec) : Prop where
  k1 : curT s false 1 = d.k1
  k2 : curT d.k1.s d.k1.bad 2 = d.k2
  k3 : curT d.k2.s d.k2.bad (numN d.k2.t) = d.k3
  k4 : curT d.k3.s d.k3.bad 4 = d.k4
  j1 : curT d.k3.t false 8 = d.j1
  j2 : curT d.j1.s d.j1.bad 1 = d.j2
  j3 : curT d.j2.s d.j2.bad 4 = d.j3
  j4 : curT d.j3.s d.j3.bad 4 = d.j4
  j5 : curT d.j4.s d.j4.bad 4 = d.j5
  j6 : curT d.j5.s d.j5.bad 1 = d.j6
  j7 : curT d.j6.s d.j6.bad (numN d.j6.t) = d.j7
  j8 : curT d.j7.s d.j7.bad 2 = d.j8
  j9 : curT d.j8.s d.j8.bad (numN d.j8.t) = d.j9
theorem reads (s : List UInt8) : ∃ d, Reads s d := by
  let k1 := curT s false 1
  let k2 := curT k1.s k1.bad 2
  let k3 := curT k2.s k2.bad (numN k2.t)
  let k4 := curT k3.s k3.bad 4
  let j1 := curT k3.t false 8
  let j2 := curT j1.s j1.bad 1
  let j3 := curT j2.s j2.bad 4
  let j4 := curT j3.s j3.bad 4
  let j5 := curT j4.s j4.bad 4
  let j6 := curT j5.s j5.bad 1
  let j7 := curT j6.s j6.bad (numN j6.t)
  let j8 := curT j7.s j7.bad 2
  let j9 := curT j8.s j8.bad (numN j8.t)
  exact ⟨⟨k1, k2, k3, k4, j1, j2, j3, j4, j5, j6, j7, j8, j9⟩, ⟨rfl, rfl, rfl, rfl, rfl, rfl, rfl, rfl, rfl, rfl, rfl, rfl, rfl⟩⟩
theorem gd {s : List UInt8} {b : Bool} {n : Nat} {k : Cur} (e : curT s b n = k) (h : k.bad = false) : b = false ∧ n ≤ s.length ∧ k.t = s.take n ∧ k.s = s.drop n := by
  subst e; exact curT_good h
theorem no {s : List UInt8} {n : Nat} {k : Cur} (e : curT s false n = k) (h : k.bad = true) : s.length < n := by subst e; exact curT_no h
theorem ln {s : List UInt8} {b : Bool} {n m : Nat} {k : Cur} (e : curT s b n = k) (h : s.length ≤ m) : k.s.length ≤ m ∧ k.t.length ≤ m ∧ k.t.length ≤ n := by
  subst e; have := curT_len s b n; omega
def decV (d : Dec) : ATxn := ⟨numW d.j1.t, (numN d.j2.t : Nat), (numN d.j3.t : Nat), d.j7.t, d.j9.t, (numN d.j4.t : Nat), (numN d.j5.t : Nat)⟩
theorem dec_head {s : List UInt8} {d : Dec} (r : Reads s d) (h : d.k1.t ≠ [84]) : noHead s := by
  unfold noHead
  rcases Nat.lt_or_ge s.length 1 with h0 | h0
  · left; omega
  right; intro e; apply h
  have := r.k1
  rw [curT_ok h0] at this
  rw [← this]
  match s, h0, e with
  | x :: s, _, e => simp at e; simp [e]
theorem dec_one {s : List UInt8} {d : Dec} (r : Reads s d) (h : d.k1.t = [84]) : d.k1.bad = false ∧ d.k1.s = s.drop 1 ∧ 1 ≤ s.length ∧ s.getD 0 0 = 84 := by
  have h1 := r.k1
  rcases Nat.lt_or_ge s.length 1 with h0 | h0
  · rw [curT_bad (.inr h0)] at h1; rw [← h1] at h; cases h
  rw [curT_ok h0] at h1
  rw [← h1] at h
  refine ⟨by rw [← h1], by rw [← h1], h0, ?_⟩
  match s, h0, h with
  | x :: s, _, h => simp at h; simp [h]
theorem dec_two {s : List UInt8} {d : Dec} (r : Reads s d) (h : d.k1.t = [84]) (h2 : d.k2.bad = true) : noHead s := by
  obtain ⟨a1, a2, a3, _⟩ := dec_one r h
  have h3 := r.k2
  rw [a1, a2] at h3
  have := no h3 h2
  rw [List.length_drop] at this
  left; omega
theorem dec_n {s : List UInt8} {d : Dec} (r : Reads s d) (h : d.k1.t = [84]) (h2 : d.k2.bad = false) : ¬ noHead s ∧ numN d.k2.t = sN s ∧ d.k2.s = s.drop 3 := by
  obtain ⟨a1, a2, a3, a4⟩ := dec_one r h
  obtain ⟨_, b2, b3, b4⟩ := gd r.k2 h2
  rw [a2] at b2 b3 b4
  rw [List.length_drop] at b2
  refine ⟨fun hh => ?_, by rw [b3]; rfl, by rw [b4, List.drop_drop]⟩
  rcases hh with hh | hh
  · omega
  · exact hh a4
theorem dec_room {s : List UInt8} {d : Dec} (r : Reads s d) (h : d.k1.t = [84]) (h2 : d.k2.bad = false) (h4 : d.k4.bad = true) : s.length < sN s + 7 := by
  obtain ⟨a1, a2, a3⟩ := dec_n r h h2
  rcases Nat.lt_or_ge s.length (sN s + 7) with h' | h'
  · exact h'
  have r3 := r.k3
  rw [h2, a2, a3, curT_ok (by rw [List.length_drop]; omega)] at r3
  have r4 := r.k4
  rw [← r3] at r4
  have := no r4 h4
  simp at this; omega
theorem dec_body {s : List UInt8} {d : Dec} (r : Reads s d) (h : d.k1.t = [84]) (h2 : d.k2.bad = false) (h4 : d.k4.bad = false) : sN s + 7 ≤ s.length ∧ d.k3.t = sB s ∧ d.k4.t = (s.drop (sN s + 3)).take 4 := by
  obtain ⟨a1, a2, a3⟩ := dec_n r h h2
  obtain ⟨b1, b2, b3, b4⟩ := gd r.k4 h4
  obtain ⟨c1, c2, c3, c4⟩ := gd r.k3 b1
  rw [a2, a3] at c2 c3 c4
  rw [List.length_drop] at c2
  rw [c4] at b2 b3
  rw [List.drop_drop] at b2 b3
  rw [List.length_drop] at b2
  exact ⟨by omega, c3, by rw [b3, Nat.add_comm 3]⟩
theorem dec_all {s : List UInt8} {d : Dec} (r : Reads s d) {b : List UInt8} (hb : d.k3.t = b) (h9 : d.j9.bad = false) (hs : d.j9.s = []) : bodyOk b ∧ decV d = bodyT b := by
  obtain ⟨i9, l9, t9, s9⟩ := gd r.j9 h9
  obtain ⟨i8, l8, t8, s8⟩ := gd r.j8 i9
  obtain ⟨i7, l7, t7, s7⟩ := gd r.j7 i8
  obtain ⟨i6, l6, t6, s6⟩ := gd r.j6 i7
  obtain ⟨i5, l5, t5, s5⟩ := gd r.j5 i6
  obtain ⟨i4, l4, t4, s4⟩ := gd r.j4 i5
  obtain ⟨i3, l3, t3, s3⟩ := gd r.j3 i4
  obtain ⟨i2, l2, t2, s2⟩ := gd r.j2 i3
  obtain ⟨i1, l1, t1, s1⟩ := gd r.j1 i2
  rw [hb] at t1 s1 l1
  rw [s1] at t2 s2 l2
  rw [s2, List.drop_drop] at t3 s3 l3
  rw [s3, List.drop_drop] at t4 s4 l4
  rw [s4, List.drop_drop] at t5 s5 l5
  rw [s5, List.drop_drop] at t6 s6 l6
  rw [s6, List.drop_drop] at t7 s7 l7
  rw [s7, List.drop_drop] at t8 s8 l8
  rw [s8, List.drop_drop] at t9 s9 l9
  simp only [Nat.reduceAdd, List.length_drop] at *
  have e1 : ∀ k, k < b.length → (b.drop k).take 1 = [b.getD k 0] := fun k hk => by
    rw [List.drop_eq_getElem_cons hk, List.take_succ_cons, List.take_zero]; simp [hk]
  have n6 : numN d.j6.t = bP b := by rw [t6, e1 21 (by omega), numN_one]; rfl
  rw [n6] at t7 s7 l7 t8 s8 l8 t9 s9 l9
  have n8 : numN d.j8.t = bD b := by rw [t8, show 8 + (14 + bP b) = 22 + bP b from by omega]; rfl
  rw [n8] at t9 s9 l9
  have hz : d.j9.s.length = 0 := by rw [hs]; rfl
  rw [s9] at hz
  simp only [List.length_drop] at hz
  have hok : b.length = 24 + bP b + bD b := by omega
  refine ⟨hok, ?_⟩
  unfold decV bodyT
  rw [t1, t2, t3, t4, t5, t7, t9, e1 8 (by omega), numN_one]
  congr 1
  · rw [show 8 + (14 + bP b + 2) = 24 + bP b from by omega]
    exact List.take_of_length_le (by rw [List.length_drop]; omega)
theorem dec_back {s : List UInt8} {d : Dec} (r : Reads s d) {b : List UInt8} (hb : d.k3.t = b) (h : bodyOk b) : d.j9.bad = false ∧ d.j9.s = [] := by
  unfold bodyOk at h
  have e1 : ∀ k, k < b.length → (b.drop k).take 1 = [b.getD k 0] := fun k hk => by
    rw [List.drop_eq_getElem_cons hk, List.take_succ_cons, List.take_zero]; simp [hk]
  have r1 := r.j1
  rw [hb, curT_ok (by omega)] at r1
  have r2 := r.j2
  rw [← r1, curT_ok (by simp only [List.length_drop]; omega), List.drop_drop] at r2
  have r3 := r.j3
  rw [← r2, curT_ok (by simp only [List.length_drop]; omega), List.drop_drop] at r3
  have r4 := r.j4
  rw [← r3, curT_ok (by simp only [List.length_drop]; omega), List.drop_drop] at r4
  have r5 := r.j5
  rw [← r4, curT_ok (by simp only [List.length_drop]; omega), List.drop_drop] at r5
  have r6 := r.j6
  rw [← r5, curT_ok (by simp only [List.length_drop]; omega), List.drop_drop, e1 _ (by omega)] at r6
  have n6 : numN d.j6.t = bP b := by rw [← r6, numN_one]; rfl
  have r7 := r.j7
  rw [n6, ← r6, curT_ok (by simp only [List.length_drop]; omega), List.drop_drop] at r7
  have r8 := r.j8
  rw [← r7, curT_ok (by simp only [List.length_drop]; omega), List.drop_drop] at r8
  have n8 : numN d.j8.t = bD b := by rw [← r8]; rfl
  have r9 := r.j9
  rw [n8, ← r8, curT_ok (by simp only [List.length_drop]; omega), List.drop_drop] at r9
  exact ⟨by rw [← r9], by rw [← r9]; exact List.drop_eq_nil_of_le (by omega)⟩
set_option maxHeartbeats 4000000 in
theorem decode_c (s : List UInt8) (hs : s.length ≤ 1048576) : acall Tryd.prog [] 134 [S s] (ret (.tup [(decT s).1.av, I (decT s).2.1, I (decT s).2.2])) := by
  obtain ⟨d, r⟩ := reads s
  have e1 := ln r.k1 hs
  have e2 := ln r.k2 e1.1
  have e3 := ln r.k3 e2.1
  have e4 := ln r.k4 e3.1
  have f1 := ln r.j1 e3.2.1
  have f2 := ln r.j2 f1.1
  have f3 := ln r.j3 f2.1
  have f4 := ln r.j4 f3.1
  have f5 := ln r.j5 f4.1
  have f6 := ln r.j6 f5.1
  have f7 := ln r.j7 f6.1
  have f8 := ln r.j8 f7.1
  have f9 := ln r.j9 f8.1
  have hn : numN d.k2.t < 65536 := numN_lt (k := 2) e2.2.2 (by decide)
  have ok {t : List UInt8} (h : t.length ≤ 1048576) : okS t := by unfold okS; omega
  have c1 := text_c s false 1 (ok hs) 1 rfl
  have c2 := number_s d.k1.s d.k1.bad 2 (ok e1.1) 2 rfl (by decide)
  have c3 := text_c d.k2.s d.k2.bad (numN d.k2.t) (ok e2.1) (numN d.k2.t : Nat) rfl
  have c4 := number_s d.k3.s d.k3.bad 4 (ok e3.1) 4 rfl (by decide)
  have b1 := number_c d.k3.t false 8 (ok e3.2.1) 8 rfl (by decide)
  have b2 := number_s d.j1.s d.j1.bad 1 (ok f1.1) 1 rfl (by decide)
  have b3 := number_s d.j2.s d.j2.bad 4 (ok f2.1) 4 rfl (by decide)
  have b4 := number_s d.j3.s d.j3.bad 4 (ok f3.1) 4 rfl (by decide)
  have b5 := number_s d.j4.s d.j4.bad 4 (ok f4.1) 4 rfl (by decide)
  have b6 := number_s d.j5.s d.j5.bad 1 (ok f5.1) 1 rfl (by decide)
  have b7 := text_c d.j6.s d.j6.bad (numN d.j6.t) (ok f6.1) (numN d.j6.t : Nat) rfl
  have b8 := number_s d.j7.s d.j7.bad 2 (ok f7.1) 2 rfl (by decide)
  have b9 := text_c d.j8.s d.j8.bad (numN d.j8.t) (ok f8.1) (numN d.j8.t : Nat) rfl
  rw [r.k1] at c1
  rw [r.k2] at c2
  rw [r.k3] at c3
  rw [r.k4] at c4
  rw [r.j1] at b1
  rw [r.j2] at b2
  rw [r.j3] at b3
  rw [r.j4] at b4
  rw [r.j5] at b5
  rw [r.j6] at b6
  rw [r.j7] at b7
  rw [r.j8] at b8
  rw [r.j9] at b9
  have q3 : (3 + (numN d.k2.t : Int)).toNat = 3 + numN d.k2.t := by omega
  have cs := sum_c (s.take (3 + numN d.k2.t)) (ok (by simp; omega))
  have cg : acall Tryd.prog [] 123 [(decV d).av] (ret (I (goodT (decV d)))) := wgood_c (decV d) (ok f7.2.1) (ok f9.2.1)
  unfold ATxn.av decV at cg
  refine acall_of tabOk Tryd.func134 rfl (by kernel_rfl) (by simp [Tryd.ntmps134]) ?_; simp only [Tryd.ntmps134, Tryd.results134, List.toList_toArray, apar, List.length_nil, List.length_cons, Nat.reduceAdd]
  (repeat' first
| (with_reducible refine AR.f ?_)
| refine blkA_x (by decide) ?_
| (with_reducible refine AWP.cond rfl ?_ ?_ <;> intro hc <;> (try simp only [hcs, beq_iff_eq, ge_iff_le, gt_iff_lt] at hc))
| ((first | ((first | (with_reducible first | refine zR ?_ | refine zQ (by decide +kernel) ?_ | refine zD (by decide +kernel) ?_ | refine zE (by decide +kernel) ?_ | refine zG (by decide +kernel) ?_)); intro K hK) | ((first | refine zA cs ?_ ?_ ?_ ?_ ?_ | refine zA cg ?_ ?_ ?_ ?_ ?_); (focus exact rfl); (focus exact rfl); iterate 2 (focus ((try simp (disch := omega) only [go_sem, wrap_n, q3, Nat.sub_zero]) <;> (try omega) <;> fail))) | ((first | refine zN cs rfl ?_ ?_ | refine zN cg rfl ?_ ?_); (focus ((try simp (disch := omega) only [go_sem, wrap_n, q3, Nat.sub_zero]) <;> (try omega) <;> fail))) | (first | ((first | refine zX cs rfl ?_ ?_ | refine acallH_anyx cs ?_ ?_); (focus ((try simp (disch := omega) only [go_sem, wrap_n, q3, Nat.sub_zero]) <;> (try omega) <;> fail))) | ((first | refine zX cg rfl ?_ ?_ | refine acallH_anyx cg ?_ ?_); (focus ((try simp (disch := omega) only [go_sem, wrap_n, q3, Nat.sub_zero]) <;> (try omega) <;> fail)))) | (refine acallH_at [1] (c1) ?_ ?_ ?_; (focus ((try simp (disch := omega) only [inj, List.cons.injEq, and_self, List.nodup_cons, List.not_mem_nil, List.mem_cons, not_false_eq_true, List.nodup_nil, go_sem, wrap_n, q3, Nat.sub_zero]) <;> (try omega) <;> fail)); (focus ((try simp (disch := omega) only [inj, List.cons.injEq, and_self, List.nodup_cons, List.not_mem_nil, List.mem_cons, not_false_eq_true, List.nodup_nil, go_sem, wrap_n, q3, Nat.sub_zero]) <;> (try omega) <;> (try decide) <;> fail))) | (refine acallH_at [1] (c2) ?_ ?_ ?_; (focus ((try simp (disch := omega) only [inj, List.cons.injEq, and_self, List.nodup_cons, List.not_mem_nil, List.mem_cons, not_false_eq_true, List.nodup_nil, go_sem, wrap_n, q3, Nat.sub_zero]) <;> (try omega) <;> fail)); (focus ((try simp (disch := omega) only [inj, List.cons.injEq, and_self, List.nodup_cons, List.not_mem_nil, List.mem_cons, not_false_eq_true, List.nodup_nil, go_sem, wrap_n, q3, Nat.sub_zero]) <;> (try omega) <;> (try decide) <;> fail))) | (refine acallH_at [1] (c3) ?_ ?_ ?_; (focus ((try simp (disch := omega) only [inj, List.cons.injEq, and_self, List.nodup_cons, List.not_mem_nil, List.mem_cons, not_false_eq_true, List.nodup_nil, go_sem, wrap_n, q3, Nat.sub_zero]) <;> (try omega) <;> fail)); (focus ((try simp (disch := omega) only [inj, List.cons.injEq, and_self, List.nodup_cons, List.not_mem_nil, List.mem_cons, not_false_eq_true, List.nodup_nil, go_sem, wrap_n, q3, Nat.sub_zero]) <;> (try omega) <;> (try decide) <;> fail))) | (refine acallH_at [1] (c4) ?_ ?_ ?_; (focus ((try simp (disch := omega) only [inj, List.cons.injEq, and_self, List.nodup_cons, List.not_mem_nil, List.mem_cons, not_false_eq_true, List.nodup_nil, go_sem, wrap_n, q3, Nat.sub_zero]) <;> (try omega) <;> fail)); (focus ((try simp (disch := omega) only [inj, List.cons.injEq, and_self, List.nodup_cons, List.not_mem_nil, List.mem_cons, not_false_eq_true, List.nodup_nil, go_sem, wrap_n, q3, Nat.sub_zero]) <;> (try omega) <;> (try decide) <;> fail))) | (refine acallH_at [2] (b1) ?_ ?_ ?_; (focus ((try simp (disch := omega) only [inj, List.cons.injEq, and_self, List.nodup_cons, List.not_mem_nil, List.mem_cons, not_false_eq_true, List.nodup_nil, go_sem, wrap_n, q3, Nat.sub_zero]) <;> (try omega) <;> fail)); (focus ((try simp (disch := omega) only [inj, List.cons.injEq, and_self, List.nodup_cons, List.not_mem_nil, List.mem_cons, not_false_eq_true, List.nodup_nil, go_sem, wrap_n, q3, Nat.sub_zero]) <;> (try omega) <;> (try decide) <;> fail))) | (refine acallH_at [2] (b2) ?_ ?_ ?_; (focus ((try simp (disch := omega) only [inj, List.cons.injEq, and_self, List.nodup_cons, List.not_mem_nil, List.mem_cons, not_false_eq_true, List.nodup_nil, go_sem, wrap_n, q3, Nat.sub_zero]) <;> (try omega) <;> fail)); (focus ((try simp (disch := omega) only [inj, List.cons.injEq, and_self, List.nodup_cons, List.not_mem_nil, List.mem_cons, not_false_eq_true, List.nodup_nil, go_sem, wrap_n, q3, Nat.sub_zero]) <;> (try omega) <;> (try decide) <;> fail))) | (refine acallH_at [2] (b3) ?_ ?_ ?_; (focus ((try simp (disch := omega) only [inj, List.cons.injEq, and_self, List.nodup_cons, List.not_mem_nil, List.mem_cons, not_false_eq_true, List.nodup_nil, go_sem, wrap_n, q3, Nat.sub_zero]) <;> (try omega) <;> fail)); (focus ((try simp (disch := omega) only [inj, List.cons.injEq, and_self, List.nodup_cons, List.not_mem_nil, List.mem_cons, not_false_eq_true, List.nodup_nil, go_sem, wrap_n, q3, Nat.sub_zero]) <;> (try omega) <;> (try decide) <;> fail))) | (refine acallH_at [2] (b4) ?_ ?_ ?_; (focus ((try simp (disch := omega) only [inj, List.cons.injEq, and_self, List.nodup_cons, List.not_mem_nil, List.mem_cons, not_false_eq_true, List.nodup_nil, go_sem, wrap_n, q3, Nat.sub_zero]) <;> (try omega) <;> fail)); (focus ((try simp (disch := omega) only [inj, List.cons.injEq, and_self, List.nodup_cons, List.not_mem_nil, List.mem_cons, not_false_eq_true, List.nodup_nil, go_sem, wrap_n, q3, Nat.sub_zero]) <;> (try omega) <;> (try decide) <;> fail))) | (refine acallH_at [2] (b5) ?_ ?_ ?_; (focus ((try simp (disch := omega) only [inj, List.cons.injEq, and_self, List.nodup_cons, List.not_mem_nil, List.mem_cons, not_false_eq_true, List.nodup_nil, go_sem, wrap_n, q3, Nat.sub_zero]) <;> (try omega) <;> fail)); (focus ((try simp (disch := omega) only [inj, List.cons.injEq, and_self, List.nodup_cons, List.not_mem_nil, List.mem_cons, not_false_eq_true, List.nodup_nil, go_sem, wrap_n, q3, Nat.sub_zero]) <;> (try omega) <;> (try decide) <;> fail))) | (refine acallH_at [2] (b6) ?_ ?_ ?_; (focus ((try simp (disch := omega) only [inj, List.cons.injEq, and_self, List.nodup_cons, List.not_mem_nil, List.mem_cons, not_false_eq_true, List.nodup_nil, go_sem, wrap_n, q3, Nat.sub_zero]) <;> (try omega) <;> fail)); (focus ((try simp (disch := omega) only [inj, List.cons.injEq, and_self, List.nodup_cons, List.not_mem_nil, List.mem_cons, not_false_eq_true, List.nodup_nil, go_sem, wrap_n, q3, Nat.sub_zero]) <;> (try omega) <;> (try decide) <;> fail))) | (refine acallH_at [2] (b7) ?_ ?_ ?_; (focus ((try simp (disch := omega) only [inj, List.cons.injEq, and_self, List.nodup_cons, List.not_mem_nil, List.mem_cons, not_false_eq_true, List.nodup_nil, go_sem, wrap_n, q3, Nat.sub_zero]) <;> (try omega) <;> fail)); (focus ((try simp (disch := omega) only [inj, List.cons.injEq, and_self, List.nodup_cons, List.not_mem_nil, List.mem_cons, not_false_eq_true, List.nodup_nil, go_sem, wrap_n, q3, Nat.sub_zero]) <;> (try omega) <;> (try decide) <;> fail))) | (refine acallH_at [2] (b8) ?_ ?_ ?_; (focus ((try simp (disch := omega) only [inj, List.cons.injEq, and_self, List.nodup_cons, List.not_mem_nil, List.mem_cons, not_false_eq_true, List.nodup_nil, go_sem, wrap_n, q3, Nat.sub_zero]) <;> (try omega) <;> fail)); (focus ((try simp (disch := omega) only [inj, List.cons.injEq, and_self, List.nodup_cons, List.not_mem_nil, List.mem_cons, not_false_eq_true, List.nodup_nil, go_sem, wrap_n, q3, Nat.sub_zero]) <;> (try omega) <;> (try decide) <;> fail))) | (refine acallH_at [2] (b9) ?_ ?_ ?_; (focus ((try simp (disch := omega) only [inj, List.cons.injEq, and_self, List.nodup_cons, List.not_mem_nil, List.mem_cons, not_false_eq_true, List.nodup_nil, go_sem, wrap_n, q3, Nat.sub_zero]) <;> (try omega) <;> fail)); (focus ((try simp (disch := omega) only [inj, List.cons.injEq, and_self, List.nodup_cons, List.not_mem_nil, List.mem_cons, not_false_eq_true, List.nodup_nil, go_sem, wrap_n, q3, Nat.sub_zero]) <;> (try omega) <;> (try decide) <;> fail))) | ((first | (with_reducible refine aunder_i ?_ ?_ <;> intro hg) | with_reducible intro hg) <;> (first | (exfalso; simp at hg; done) | (have hg' := hg; (try simp only [hcs, beq_iff_eq, ge_iff_le, gt_iff_lt] at hg'); (try simp only [hg]))))) <;> (try simp (disch := omega) only [go_sem, wrap_n, q3, Nat.sub_zero]) <;> (repeat' with_reducible refine And.intro ?_ ?_) <;> (try (with_reducible refine hK _ ?_; clear hK K)))
| omega)
  · rw [decT_a (dec_head r hc)]; (refine zF rfl ?_ ?_ ?_ ?_; (iterate 3 (focus ((try simp (disch := omega) only [go_sem, wrap_n, tz]) <;> (try omega) <;> fail))); (try simp (disch := omega) only [go_sem, wrap_n, tz, I, B, S, inj, List.cons.injEq, and_true, true_and, and_self]))
  all_goals (have hk : d.k1.t = [84] := by assumption)
  · cases hb : d.k2.bad with
    | true => rw [decT_a (dec_two r hk hb)]; (refine zF rfl ?_ ?_ ?_ ?_; (iterate 3 (focus ((try simp (disch := omega) only [go_sem, wrap_n, tz]) <;> (try omega) <;> fail))); (try simp (disch := omega) only [go_sem, wrap_n, tz, I, B, S, inj, List.cons.injEq, and_true, true_and, and_self]))
    | false =>
      obtain ⟨a1, a2, a3⟩ := dec_n r hk hb
      rw [decT_b a1 (.inl (by rw [hb] at hc; rw [← a2]; rcases hc with hc | hc; cases hc; omega))]; (refine zF rfl ?_ ?_ ?_ ?_; (iterate 3 (focus ((try simp (disch := omega) only [go_sem, wrap_n, tz]) <;> (try omega) <;> fail))); (try simp (disch := omega) only [go_sem, wrap_n, tz, I, B, S, inj, List.cons.injEq, and_true, true_and, and_self]))
  all_goals (have hb : d.k2.bad = false ∧ (numN d.k2.t : Int) ≤ 1024 := by assumption)
  all_goals obtain ⟨a1, a2, a3⟩ := dec_n r hk hb.1
  · rw [decT_b a1 (.inr (dec_room r hk hb.1 hc))]; (refine zF rfl ?_ ?_ ?_ ?_; (iterate 3 (focus ((try simp (disch := omega) only [go_sem, wrap_n, tz]) <;> (try omega) <;> fail))); (try simp (disch := omega) only [go_sem, wrap_n, tz, I, B, S, inj, List.cons.injEq, and_true, true_and, and_self]))
  all_goals (have h4 : d.k4.bad = false := by assumption)
  all_goals obtain ⟨x1, x2, x3⟩ := dec_body r hk hb.1 h4
  · omega
  all_goals (have a4 : ¬ noRoom s := fun h => by unfold noRoom at h; omega)
  all_goals (have ee1 : sumN (List.take (3 + numN d.k2.t) s) = sumN (List.take (sN s + 3) s) := by rw [a2, Nat.add_comm])
  all_goals (have ee2 : numN d.k4.t = numN (List.take 4 (List.drop (sN s + 3) s)) := by rw [x3])
  · rw [decT_c a1 a4 (by unfold noSum; omega)]; (refine zF rfl ?_ ?_ ?_ ?_; (iterate 3 (focus ((try simp (disch := omega) only [go_sem, wrap_n, tz]) <;> (try omega) <;> fail))); (try simp (disch := omega) only [go_sem, wrap_n, tz, I, B, S, inj, List.cons.injEq, and_true, true_and, and_self]))
  all_goals (have a5 : ¬ noSum s := fun h => by unfold noSum at h; omega)
  · have hno : ¬ bodyOk (sB s) := fun h => by
      obtain ⟨u1, u2⟩ := dec_back r x2 h
      rcases hc with hc | hc
      · rw [u1] at hc; cases hc
      · exact hc u2
    rw [decT_d a1 a4 a5 hno]; (refine zF rfl ?_ ?_ ?_ ?_; (iterate 3 (focus ((try simp (disch := omega) only [go_sem, wrap_n, tz]) <;> (try omega) <;> fail))); (try simp (disch := omega) only [go_sem, wrap_n, tz, I, B, S, inj, List.cons.injEq, and_true, true_and, and_self]))
  all_goals (have h9 : d.j9.bad = false ∧ d.j9.s = [] := by assumption)
  all_goals obtain ⟨y1, y2⟩ := dec_all r x2 h9.1 h9.2
  · have hg2 : goodT (bodyT (sB s)) ≠ 0 := y2 ▸ hc
    rw [decT_e a1 a4 a5 y1 hg2, ← y2]; (refine zF rfl ?_ ?_ ?_ ?_; (iterate 3 (focus ((try simp (disch := omega) only [go_sem, wrap_n, tz, decV]) <;> (try omega) <;> fail))); (try simp (disch := omega) only [go_sem, wrap_n, tz, decV, I, B, S, inj, List.cons.injEq, and_true, true_and, and_self]))
  · have hg2 : goodT (bodyT (sB s)) = 0 := y2 ▸ hc
    rw [decT_f a1 a4 a5 y1 hg2, ← y2]; (refine zF rfl ?_ ?_ ?_ ?_; (iterate 3 (focus ((try simp (disch := omega) only [go_sem, wrap_n, decV, Int.natCast_add, a2]) <;> (try omega) <;> fail))); (try simp (disch := omega) only [go_sem, wrap_n, decV, Int.natCast_add, a2, I, B, S, inj, List.cons.injEq, and_true, true_and, and_self]))
end Go.Proofs.YtmpfhalheaeibaaDoor
namespace Go.Proofs.YtmpfhalheaeibaaDoor
set_option linter.unusedVariables false
set_option linter.unusedSimpArgs false
open Go Go.RowKit
set_option maxRecDepth 100000
def lastZ (l : List ATxn) : Int := if l = [] then 0 else (l.getD (l.length - 1) default).zxid
theorem lastZ_nil : lastZ [] = 0 := rfl
theorem lastZ_pos {l : List ATxn} (h : 0 < l.length) : lastZ l = (l.getD (l.length - 1) default).zxid := by
  unfold lastZ; rw [if_neg (fun e => by rw [e] at h; exact absurd h (by decide))]
theorem lastZ_snoc (l : List ATxn) (t : ATxn) : lastZ (l ++ [t]) = t.zxid := by
  rw [lastZ_pos (by simp)]; simp
theorem last_c (l : List ATxn) (h : l.length * 72 ≤ 140737488351232) : acall Tryd.prog [] 18 [.d (.sl 7 (l.map ATxn.row))] (ret (I (lastZ l))) := by
  refine acall_of tabOk Tryd.func18 rfl (by kernel_rfl) (by simp [Tryd.ntmps18]) ?_; simp only [Tryd.ntmps18, Tryd.results18, List.toList_toArray, apar, List.length_nil, List.length_cons, Nat.reduceAdd]
  (repeat' first
| (with_reducible refine AR.f ?_)
| refine blkA_x (by decide) ?_
| (with_reducible refine AWP.cond rfl ?_ ?_ <;> intro hc <;> (try simp only [hcs, beq_iff_eq, ge_iff_le, gt_iff_lt] at hc))
| ((first | ((first | (with_reducible first | refine zR ?_ | refine zQ (by decide +kernel) ?_ | refine zD (by decide +kernel) ?_ | refine zE (by decide +kernel) ?_ | refine zG (by decide +kernel) ?_)); intro K hK) | ((first | (with_reducible refine aunder_i ?_ ?_ <;> intro hg) | with_reducible intro hg) <;> (first | (exfalso; simp at hg; done) | (have hg' := hg; (try simp only [hcs, beq_iff_eq, ge_iff_le, gt_iff_lt] at hg'); (try simp only [hg]))))) <;> (try simp (disch := omega) only [go_sem, wrap_n, ATxn.rgetD]) <;> (repeat' with_reducible refine And.intro ?_ ?_) <;> (try (with_reducible refine hK _ ?_; clear hK K)))
| omega)
  · have e : l = [] := List.eq_nil_of_length_eq_zero (by omega)
    rw [e, lastZ_nil]; (refine zF rfl ?_ ?_ ?_ ?_; (iterate 3 (focus ((try simp (disch := omega) only [go_sem, wrap_n]) <;> (try omega) <;> fail))); (try simp (disch := omega) only [go_sem, wrap_n, I, B, S, inj, List.cons.injEq, and_true, true_and, and_self]))
  all_goals first | omega | skip
  rw [lastZ_pos (by omega)]
  have e : (((l.length : Int) - 1).toNat) = l.length - 1 := by omega
  (refine zF rfl ?_ ?_ ?_ ?_; (iterate 3 (focus ((try simp (disch := omega) only [go_sem, wrap_n, ATxn.rgetD, e]) <;> (try omega) <;> fail))); (try simp (disch := omega) only [go_sem, wrap_n, ATxn.rgetD, e, I, B, S, inj, List.cons.injEq, and_true, true_and, and_self]))
  all_goals trace_state
theorem ref_last_c (l : List ATxn) (h : l.length * 72 ≤ 140737488351232) : acall Tryd.prog [] 19 [.d (.sl 7 (l.map ATxn.row))] (ret (I (lastZ l))) := by
  refine acall_of tabOk Tryd.func19 rfl (by kernel_rfl) (by simp [Tryd.ntmps19]) ?_; simp only [Tryd.ntmps19, Tryd.results19, List.toList_toArray, apar, List.length_nil, List.length_cons, Nat.reduceAdd]
  (repeat' first
| (with_reducible refine AR.f ?_)
| refine blkA_x (by decide) ?_
| (with_reducible refine AWP.cond rfl ?_ ?_ <;> intro hc <;> (try simp only [hcs, beq_iff_eq, ge_iff_le, gt_iff_lt] at hc))
| ((first | ((first | (with_reducible first | refine zR ?_ | refine zQ (by decide +kernel) ?_ | refine zD (by decide +kernel) ?_ | refine zE (by decide +kernel) ?_ | refine zG (by decide +kernel) ?_)); intro K hK) | ((first | (with_reducible refine aunder_i ?_ ?_ <;> intro hg) | with_reducible intro hg) <;> (first | (exfalso; simp at hg; done) | (have hg' := hg; (try simp only [hcs, beq_iff_eq, ge_iff_le, gt_iff_lt] at hg'); (try simp only [hg]))))) <;> (try simp (disch := omega) only [go_sem, wrap_n]) <;> (repeat' with_reducible refine And.intro ?_ ?_) <;> (try (with_reducible refine hK _ ?_; clear hK K)))
| omega)
  refine AWP.loopB (ι := Nat) (fun k => k ≤ l.length) (fun k => l.length - k) [6, 7] (fun k => [(8, I k), (3, I (lastZ (l.take k)))]) (fun k => []) 0 ?_ ?_ ?_
  · omega
  · simp only [go_sem, lastZ_nil]; (refine SImp.same ?_; simp (disch := omega) only [go_sem, wrap_n, Int.natCast_add])
  intro k hk
  simp only [go_sem]
  (repeat' first
| (with_reducible refine AR.f ?_)
| refine blkA_x (by decide) ?_
| (with_reducible refine AWP.cond rfl ?_ ?_ <;> intro hc <;> (try simp only [hcs, beq_iff_eq, ge_iff_le, gt_iff_lt] at hc))
| ((first | ((first | (with_reducible first | refine zR ?_ | refine zQ (by decide +kernel) ?_ | refine zD (by decide +kernel) ?_ | refine zE (by decide +kernel) ?_ | refine zG (by decide +kernel) ?_)); intro K hK) | ((first | (with_reducible refine aunder_i ?_ ?_ <;> intro hg) | with_reducible intro hg) <;> (first | (exfalso; simp at hg; done) | (have hg' := hg; (try simp only [hcs, beq_iff_eq, ge_iff_le, gt_iff_lt] at hg'); (try simp only [hg]))))) <;> (try simp (disch := omega) only [go_sem, wrap_n, ATxn.rgetD]) <;> (repeat' with_reducible refine And.intro ?_ ?_) <;> (try (with_reducible refine hK _ ?_; clear hK K)))
| omega)
  · refine ⟨k + 1, by omega, by omega, ?_⟩
    have e : l.take (k + 1) = l.take k ++ [l.getD k default] := take_snoc l k (by assumption)
    rw [e, lastZ_snoc]
    (refine SImp.frame [] rfl (by intro k hk; first | (simp at hk <;> (simp; omega)) | (simp only [List.mem_cons, List.not_mem_nil, or_false] at hk; simp only [List.length_cons, List.length_nil]; omega)) (by decide) (fun k hk => by first | omega | (rcases k with _ | _ | _ | _ | _ | _ | _ | _ | k <;> first | rfl | omega)) ?_ ?_ <;> simp (disch := omega) only [go_sem, wrap_n, Int.natCast_add, true_and] <;> (try rfl))
  · rw [show k = l.length from by omega, List.take_length]; (refine zF rfl ?_ ?_ ?_ ?_; (iterate 3 (focus ((try simp (disch := omega) only [go_sem, wrap_n]) <;> (try omega) <;> fail))); (try simp (disch := omega) only [go_sem, wrap_n, I, B, S, inj, List.cons.injEq, and_true, true_and, and_self]))
theorem sameLog_c (a b : List ATxn) (h : a.length * 72 ≤ 140737488351232) (h2 : b.length * 72 ≤ 140737488351232) : acall Tryd.prog [] 25 [.d (.sl 7 (a.map ATxn.row)), .d (.sl 7 (b.map ATxn.row))] (ret (B (decide (a = b)))) := by
  refine acall_of tabOk Tryd.func25 rfl (by kernel_rfl) (by simp [Tryd.ntmps25]) ?_; simp only [Tryd.ntmps25, Tryd.results25, List.toList_toArray, apar, List.length_nil, List.length_cons, Nat.reduceAdd]
  (repeat' first
| (with_reducible refine AR.f ?_)
| refine blkA_x (by decide) ?_
| (with_reducible refine AWP.cond rfl ?_ ?_ <;> intro hc <;> (try simp only [hcs, beq_iff_eq, ge_iff_le, gt_iff_lt] at hc))
| ((first | ((first | (with_reducible first | refine zR ?_ | refine zQ (by decide +kernel) ?_ | refine zD (by decide +kernel) ?_ | refine zE (by decide +kernel) ?_ | refine zG (by decide +kernel) ?_)); intro K hK) | ((first | (with_reducible refine aunder_i ?_ ?_ <;> intro hg) | with_reducible intro hg) <;> (first | (exfalso; simp at hg; done) | (have hg' := hg; (try simp only [hcs, beq_iff_eq, ge_iff_le, gt_iff_lt] at hg'); (try simp only [hg]))))) <;> (try simp (disch := omega) only [go_sem, wrap_n]) <;> (repeat' with_reducible refine And.intro ?_ ?_) <;> (try (with_reducible refine hK _ ?_; clear hK K)))
| omega)
  · (refine zF rfl ?_ ?_ ?_ ?_; (iterate 3 (focus ((try simp (disch := omega) only [go_sem, wrap_n]) <;> (try omega) <;> fail))); (try simp (disch := omega) only [go_sem, wrap_n, I, B, S, inj, List.cons.injEq, and_true, true_and, and_self]))
    symm; rw [decide_eq_false_iff_not]; intro e; subst e; simp at hc
  have h3 := hc
  refine AWP.loopS (ι := Nat) (fun k => k ≤ a.length ∧ ∀ j, j < k → a.getD j default = b.getD j default) (fun k => a.length - k) [0, 1, 12] (fun k => [(13, I k)]) 0 ?_ (by simp (disch := omega) only [go_sem, wrap_n, true_and]) ?_
  · exact ⟨by omega, by omega⟩
  intro k ⟨hk, hk2⟩
  simp only [go_sem]
  (repeat' first
| (with_reducible refine AR.f ?_)
| refine blkA_x (by decide) ?_
| (with_reducible refine AWP.cond rfl ?_ ?_ <;> intro hc <;> (try simp only [hcs, beq_iff_eq, ge_iff_le, gt_iff_lt] at hc))
| ((first | ((first | (with_reducible first | refine zR ?_ | refine zQ (by decide +kernel) ?_ | refine zD (by decide +kernel) ?_ | refine zE (by decide +kernel) ?_ | refine zG (by decide +kernel) ?_)); intro K hK) | ((first | (with_reducible refine aunder_i ?_ ?_ <;> intro hg) | with_reducible intro hg) <;> (first | (exfalso; simp at hg; done) | (have hg' := hg; (try simp only [hcs, beq_iff_eq, ge_iff_le, gt_iff_lt] at hg'); (try simp only [hg]))))) <;> (try simp (disch := omega) only [go_sem, wrap_n, ATxn.rgetD]) <;> (repeat' with_reducible refine And.intro ?_ ?_) <;> (try (with_reducible refine hK _ ?_; clear hK K)))
| omega)
  · (refine zF rfl ?_ ?_ ?_ ?_; (iterate 3 (focus ((try simp (disch := omega) only [go_sem, wrap_n]) <;> (try omega) <;> fail))); (try simp (disch := omega) only [go_sem, wrap_n, I, B, S, inj, List.cons.injEq, and_true, true_and, and_self]))
    symm; rw [decide_eq_false_iff_not]; intro e; subst e; simp at hc
  · refine ⟨k + 1, ⟨by omega, fun j hj => ?_⟩, by omega, ?_⟩
    · by_cases e : j = k
      · subst e; exact hc
      · exact hk2 j (by omega)
    (refine SImp.same ?_; simp (disch := omega) only [go_sem, wrap_n, Int.natCast_add])
  · (refine zF rfl ?_ ?_ ?_ ?_; (iterate 3 (focus ((try simp (disch := omega) only [go_sem, wrap_n]) <;> (try omega) <;> fail))); (try simp (disch := omega) only [go_sem, wrap_n, I, B, S, inj, List.cons.injEq, and_true, true_and, and_self]))
    symm; rw [decide_eq_true_eq]
    exact eq_of_getD (by omega) fun j hj => hk2 j (by omega)
def scanG (s : List UInt8) : Nat → Nat → List ATxn → List ATxn × Nat
  | 0, at_, l => (l, at_)
  | f + 1, at_, l => if (decT (s.drop at_)).2.2 ≠ 0 ∨ (0 < l.length ∧ (decT (s.drop at_)).1.zxid ≤ lastZ l) then (l, at_) else scanG s f (at_ + (decT (s.drop at_)).2.1.toNat) (l ++ [(decT (s.drop at_)).1])
def scanT (s : List UInt8) : List ATxn × Nat := scanG s (s.length + 1) 0 []
theorem decT_cases (s : List UInt8) : ((decT s).2.2 ≠ 0 ∧ (decT s).2.1 = 0) ∨ ((decT s).2.2 = 0 ∧ (decT s).2.1 = ((sN s + 7 : Nat) : Int) ∧ sN s + 7 ≤ s.length ∧ sN s ≤ 1024 ∧ goodT (decT s).1 = 0) := by
  by_cases h1 : noHead s
  · rw [decT_a h1]; left; simp
  by_cases h2 : noRoom s
  · rw [decT_b h1 h2]; left; simp
  by_cases h3 : noSum s
  · rw [decT_c h1 h2 h3]; left; simp
  by_cases h4 : bodyOk (sB s)
  case neg => rw [decT_d h1 h2 h3 h4]; left; simp
  by_cases h5 : goodT (bodyT (sB s)) = 0
  · rw [decT_f h1 h2 h3 h4 h5]; right
    unfold noRoom at h2
    exact ⟨rfl, rfl, by omega, by omega, h5⟩
  · rw [decT_e h1 h2 h3 h4 h5]; left; exact ⟨h5, rfl⟩
theorem scanG_stop {s : List UInt8} {f at_ : Nat} {l : List ATxn} (h : (decT (s.drop at_)).2.2 ≠ 0 ∨ (0 < l.length ∧ (decT (s.drop at_)).1.zxid ≤ lastZ l)) : scanG s f at_ l = (l, at_) := by
  cases f with
  | zero => rfl
  | succ f => rw [scanG, if_pos h]
theorem scanG_end {s : List UInt8} {f at_ : Nat} {l : List ATxn} (h : s.length ≤ at_) : scanG s f at_ l = (l, at_) :=
  scanG_stop (.inl (by rw [decT_a (.inl (by rw [List.length_drop]; omega))]; decide))
theorem scanG_next {s : List UInt8} {f at_ n : Nat} {l : List ATxn} (h1 : (decT (s.drop at_)).2.2 = 0) (h2 : ¬ (0 < l.length ∧ (decT (s.drop at_)).1.zxid ≤ lastZ l)) (hn : (decT (s.drop at_)).2.1 = (n : Int)) : scanG s (f + 1) at_ l = scanG s f (at_ + n) (l ++ [(decT (s.drop at_)).1]) := by
  rw [scanG, if_neg (by rintro (h | h); exact h h1; exact h2 h), hn]; rfl
theorem scan_c (s : List UInt8) (hs : s.length ≤ 1048576) : acall Tryd.prog [] 70 [S s] (ret (.tup [.d (.sl 7 ((scanT s).1.map ATxn.row)), I (scanT s).2])) := by
  refine acall_of tabOk Tryd.func70 rfl (by kernel_rfl) (by simp [Tryd.ntmps70]) ?_; simp only [Tryd.ntmps70, Tryd.results70, List.toList_toArray, apar, List.length_nil, List.length_cons, Nat.reduceAdd]
  (repeat' first
| (with_reducible refine AR.f ?_)
| refine blkA_x (by decide) ?_
| (with_reducible refine AWP.cond rfl ?_ ?_ <;> intro hc <;> (try simp only [hcs, beq_iff_eq, ge_iff_le, gt_iff_lt] at hc))
| ((first | ((first | (with_reducible first | refine zR ?_ | refine zQ (by decide +kernel) ?_ | refine zD (by decide +kernel) ?_ | refine zE (by decide +kernel) ?_ | refine zG (by decide +kernel) ?_)); intro K hK) | ((first | (with_reducible refine aunder_i ?_ ?_ <;> intro hg) | with_reducible intro hg) <;> (first | (exfalso; simp at hg; done) | (have hg' := hg; (try simp only [hcs, beq_iff_eq, ge_iff_le, gt_iff_lt] at hg'); (try simp only [hg]))))) <;> (try simp (disch := omega) only [go_sem, wrap_n]) <;> (repeat' with_reducible refine And.intro ?_ ?_) <;> (try (with_reducible refine hK _ ?_; clear hK K)))
| omega)
  refine AWP.weaken (SImp.nilOwn 4 7 rfl) ?_
  simp only [go_sem]
  refine AWP.loopB (ι := Nat × Nat × List ATxn) (fun v => v.2.1 ≤ s.length ∧ s.length < v.2.1 + v.1 ∧ v.2.2.length ≤ v.2.1 ∧ scanG s v.1 v.2.1 v.2.2 = scanT s) (fun v => v.1) [0] (fun v => [(5, I v.2.1), (4, .osl 0 7 0 v.2.2.length)]) (fun v => [.rows 7 (v.2.2.map ATxn.row)]) (s.length + 1, 0, []) ?_ ?_ ?_
  · exact ⟨by simp, by simp, by simp, rfl⟩
  · simp only [go_sem]; (refine SImp.same ?_; simp (disch := omega) only [go_sem, wrap_n, Int.natCast_add])
  intro ⟨f, k, l⟩ ⟨h1, h2, h3, h4⟩
  simp only at h1 h2 h3 h4
  simp only [go_sem]
  have ed : List.take (s.length - k) (List.drop k s) = List.drop k s := List.take_of_length_le (by rw [List.length_drop]; omega)
  (repeat' first
| (with_reducible refine AR.f ?_)
| refine blkA_x (by decide) ?_
| (with_reducible refine AWP.cond rfl ?_ ?_ <;> intro hc <;> (try simp only [hcs, beq_iff_eq, ge_iff_le, gt_iff_lt] at hc))
| ((first | ((first | (with_reducible first | refine zR ?_ | refine zQ (by decide +kernel) ?_ | refine zD (by decide +kernel) ?_ | refine zE (by decide +kernel) ?_ | refine zG (by decide +kernel) ?_)); intro K hK) | ((first | refine zA (decode_c (s.drop k) (by rw [List.length_drop]; omega)) ?_ ?_ ?_ ?_ ?_ | refine zA (last_c l (by omega)) ?_ ?_ ?_ ?_ ?_); (focus exact rfl); (focus exact rfl); iterate 2 (focus ((try simp (disch := omega) only [go_sem, wrap_n, ed, take_map_len, ATxn.rsnoc]) <;> (try omega) <;> fail))) | ((first | refine zN (decode_c (s.drop k) (by rw [List.length_drop]; omega)) rfl ?_ ?_ | refine zN (last_c l (by omega)) rfl ?_ ?_); (focus ((try simp (disch := omega) only [go_sem, wrap_n, ed, take_map_len, ATxn.rsnoc]) <;> (try omega) <;> fail))) | (first | ((first | refine zX (decode_c (s.drop k) (by rw [List.length_drop]; omega)) rfl ?_ ?_ | refine acallH_anyx (decode_c (s.drop k) (by rw [List.length_drop]; omega)) ?_ ?_); (focus ((try simp (disch := omega) only [go_sem, wrap_n, ed, take_map_len, ATxn.rsnoc]) <;> (try omega) <;> fail))) | ((first | refine zX (last_c l (by omega)) rfl ?_ ?_ | refine acallH_anyx (last_c l (by omega)) ?_ ?_); (focus ((try simp (disch := omega) only [go_sem, wrap_n, ed, take_map_len, ATxn.rsnoc]) <;> (try omega) <;> fail)))) | ((first | (with_reducible refine aunder_i ?_ ?_ <;> intro hg) | with_reducible intro hg) <;> (first | (exfalso; simp at hg; done) | (have hg' := hg; (try simp only [hcs, beq_iff_eq, ge_iff_le, gt_iff_lt] at hg'); (try simp only [hg]))))) <;> (try simp (disch := omega) only [go_sem, wrap_n, ed, take_map_len, ATxn.rsnoc]) <;> (repeat' with_reducible refine And.intro ?_ ?_) <;> (try (with_reducible refine hK _ ?_; clear hK K)))
| omega)
  · rw [← h4, scanG_stop (hc.imp id fun h => ⟨by omega, h.2⟩)]; (refine zF rfl ?_ ?_ ?_ ?_; (iterate 3 (focus ((try simp (disch := omega) only [go_sem, wrap_n]) <;> (try omega) <;> fail))); (try simp (disch := omega) only [go_sem, wrap_n, I, B, S, inj, List.cons.injEq, and_true, true_and, and_self]))
  · rcases decT_cases (s.drop k) with ⟨q, _⟩ | ⟨q1, q2, q3, q4, _⟩
    · exact absurd hc.1 q
    rw [List.length_drop] at q3
    have q5 := scanG_next (s := s) (f := f - 1) (at_ := k) (n := sN (s.drop k) + 7) (l := l) q1 (fun h => by omega) q2
    rw [show f - 1 + 1 = f from by omega] at q5
    refine ⟨(f - 1, k + (sN (s.drop k) + 7), l ++ [(decT (s.drop k)).1]), ⟨by simp only; omega, by simp only; omega, by simp; omega, q5.symm.trans h4⟩, by simp only; omega, ?_⟩
    (refine SImp.frame [3] rfl (by intro k hk; first | (simp at hk <;> (simp; omega)) | (simp only [List.mem_cons, List.not_mem_nil, or_false] at hk; simp only [List.length_cons, List.length_nil]; omega)) (by decide) (fun k hk => by first | omega | (rcases k with _ | _ | _ | _ | _ | _ | _ | _ | k <;> first | rfl | omega)) ?_ ?_ <;> simp (disch := omega) only [go_sem, wrap_n, Int.natCast_add, q2, List.length_append, ATxn.rsnoc] <;> (try rfl))
  · have hx : (decT (s.drop k)).2.2 ≠ 0 ∨ (0 < l.length ∧ (decT (s.drop k)).1.zxid ≤ lastZ l) := by
      by_cases e : (decT (s.drop k)).2.2 = 0
      · rcases hc with h | h
        · exact .inl h
        · rw [e] at hg; simp at hg; omega
      · exact .inl e
    rw [← h4, scanG_stop hx]; (refine zF rfl ?_ ?_ ?_ ?_; (iterate 3 (focus ((try simp (disch := omega) only [go_sem, wrap_n]) <;> (try omega) <;> fail))); (try simp (disch := omega) only [go_sem, wrap_n, I, B, S, inj, List.cons.injEq, and_true, true_and, and_self]))
  · rcases decT_cases (s.drop k) with ⟨q, _⟩ | ⟨q1, q2, q3, q4, _⟩
    · exact absurd hc.1 q
    have hl0 : l.length = 0 := by rw [q1] at hg; simp at hg; rw [hg]; rfl
    rw [List.length_drop] at q3
    have q5 := scanG_next (s := s) (f := f - 1) (at_ := k) (n := sN (s.drop k) + 7) (l := l) q1 (fun h => by omega) q2
    rw [show f - 1 + 1 = f from by omega] at q5
    refine ⟨(f - 1, k + (sN (s.drop k) + 7), l ++ [(decT (s.drop k)).1]), ⟨by simp only; omega, by simp only; omega, by simp; omega, q5.symm.trans h4⟩, by simp only; omega, ?_⟩
    (refine SImp.frame [3] rfl (by intro k hk; first | (simp at hk <;> (simp; omega)) | (simp only [List.mem_cons, List.not_mem_nil, or_false] at hk; simp only [List.length_cons, List.length_nil]; omega)) (by decide) (fun k hk => by first | omega | (rcases k with _ | _ | _ | _ | _ | _ | _ | _ | k <;> first | rfl | omega)) ?_ ?_ <;> simp (disch := omega) only [go_sem, wrap_n, Int.natCast_add, q2, List.length_append, ATxn.rsnoc] <;> (try rfl))
  · rw [← h4, scanG_end (by omega)]; (refine zF rfl ?_ ?_ ?_ ?_; (iterate 3 (focus ((try simp (disch := omega) only [go_sem, wrap_n]) <;> (try omega) <;> fail))); (try simp (disch := omega) only [go_sem, wrap_n, I, B, S, inj, List.cons.injEq, and_true, true_and, and_self]))
  all_goals trace_state
def t1 : ATxn := ⟨1, 1, 1, [], [], 0, 0⟩
end Go.Proofs.YtmpfhalheaeibaaDoor
namespace Go.Proofs.YtmpfhalheaeibaaDoor
set_option linter.unusedVariables false
set_option linter.unusedSimpArgs false
open Go Go.RowKit
set_option maxRecDepth 100000
set_option linter.unusedSimpArgs false
theorem halfw (i j : Nat) (h : i + j < 9223372036854775808) : IntKind.i64.wrap (IntKind.u64.wrap ((i : Int) + j) / 2) = (((i + j) / 2 : Nat) : Int) := by
  have e : IntKind.u64.wrap ((i : Int) + j) = ((i + j : Nat) : Int) := by simp [IntKind.wrap, IntKind.bits, IntKind.signed]; omega
  rw [e]
  have e2 : (((i + j : Nat) : Int) / 2) = (((i + j) / 2 : Nat) : Int) := by omega
  rw [e2]; simp [IntKind.wrap, IntKind.bits, IntKind.signed]; omega
theorem diskCmp_c (f : AFile) (n : List UInt8) : acall Tryd.prog [] 162 [f.av, S n] (ret (I (cmpB f.name n))) := by
  refine acall_of tabOk Tryd.func162 rfl (by kernel_rfl) (by simp [Tryd.ntmps162]) ?_; simp only [Tryd.ntmps162, Tryd.results162, List.toList_toArray, apar, List.length_nil, List.length_cons, Nat.reduceAdd]
  (repeat' first
| (with_reducible refine AR.f ?_)
| refine blkA_x (by decide) ?_
| (with_reducible refine AWP.cond rfl ?_ ?_ <;> intro hc <;> (try simp only [hcs, beq_iff_eq, ge_iff_le, gt_iff_lt] at hc))
| ((first | ((first | (with_reducible first | refine zR ?_ | refine zQ (by decide +kernel) ?_ | refine zD (by decide +kernel) ?_ | refine zE (by decide +kernel) ?_ | refine zG (by decide +kernel) ?_)); intro K hK) | ((first | refine acallH_sc (compare_c _ _) rfl rfl ?_ ?_ ?_ | refine acallQ_sc (compare_c _ _) rfl rfl ?_ ?_ ?_); iterate 2 (focus ((try simp (disch := omega) only [go_sem, wrap_n]) <;> (try omega) <;> fail))) | ((first | refine zN (compare_c _ _) rfl ?_ ?_); (focus ((try simp (disch := omega) only [go_sem, wrap_n]) <;> (try omega) <;> fail))) | (first | ((first | refine zX (compare_c _ _) rfl ?_ ?_ | refine acallH_anyx (compare_c _ _) ?_ ?_); (focus ((try simp (disch := omega) only [go_sem, wrap_n]) <;> (try omega) <;> fail)))) | ((first | (with_reducible refine aunder_i ?_ ?_ <;> intro hg) | with_reducible intro hg) <;> (first | (exfalso; simp at hg; done) | (have hg' := hg; (try simp only [hcs, beq_iff_eq, ge_iff_le, gt_iff_lt] at hg'); (try simp only [hg]))))) <;> (try simp (disch := omega) only [go_sem, wrap_n]) <;> (repeat' with_reducible refine And.intro ?_ ?_) <;> (try (with_reducible refine hK _ ?_; clear hK K)))
| omega)
  (refine zF rfl ?_ ?_ ?_ ?_; (iterate 3 (focus ((try simp (disch := omega) only [go_sem, wrap_n, cmpB]) <;> (try omega) <;> fail))); (try simp (disch := omega) only [go_sem, wrap_n, cmpB, I, B, S, inj, List.cons.injEq, and_true, true_and, and_self]))
theorem bsFile_c (l : List AFile) (key : List UInt8) (h : l.length * 48 ≤ 140737488351232) (hr : Rises (l.map AFile.name)) :
    acall Tryd.prog [] 161 [.d (.sl 3 (l.map AFile.row)), S key, .d (.sc (.func (.func 162) #[] #[]))]
      (ret (.tup [I (place (l.map AFile.name) key), B (decide (key ∈ l.map AFile.name))])) := by
  have hn : ∀ k, (l.map AFile.name).getD k [] = (l.getD k default).name := fun k => getD_map AFile.name l k default
  refine acall_of tabOk Tryd.func161 rfl (by kernel_rfl) (by simp [Tryd.ntmps161]) ?_; simp only [Tryd.ntmps161, Tryd.results161, List.toList_toArray, apar, List.length_nil, List.length_cons, Nat.reduceAdd]
  (repeat' first
| (with_reducible refine AR.f ?_)
| refine blkA_x (by decide) ?_
| (with_reducible refine AWP.cond rfl ?_ ?_ <;> intro hc <;> (try simp only [hcs, beq_iff_eq, ge_iff_le, gt_iff_lt] at hc))
| ((first | ((first | (with_reducible first | refine zR ?_ | refine zQ (by decide +kernel) ?_ | refine zD (by decide +kernel) ?_ | refine zE (by decide +kernel) ?_ | refine zG (by decide +kernel) ?_)); intro K hK) | ((first | (with_reducible refine aunder_i ?_ ?_ <;> intro hg) | with_reducible intro hg) <;> (first | (exfalso; simp at hg; done) | (have hg' := hg; (try simp only [hcs, beq_iff_eq, ge_iff_le, gt_iff_lt] at hg'); (try simp only [hg]))))) <;> (try simp (disch := omega) only [go_sem, wrap_n]) <;> (repeat' with_reducible refine And.intro ?_ ?_) <;> (try (with_reducible refine hK _ ?_; clear hK K)))
| omega)
  refine AWP.loopS (ι := Nat × Nat) (fun v => v.1 ≤ v.2 ∧ v.2 ≤ l.length ∧ (∀ k, k < v.1 → (l.map AFile.name).getD k [] < key) ∧ (v.2 < l.length → ¬ (l.map AFile.name).getD v.2 [] < key)) (fun v => v.2 - v.1) [0, 1, 2, 8] (fun v => [(9, I v.1), (10, I v.2)]) (0, l.length) ?_ (by simp (disch := omega) only [go_sem, wrap_n, true_and]) ?_
  · exact ⟨by simp, by simp, fun k hk => by simp at hk, fun k => by simp at k⟩
  intro ⟨i, j⟩ ⟨h1, h2, h3, h4⟩
  simp only at h1 h2 h3 h4
  simp only [go_sem]
  (repeat' first
| (with_reducible refine AR.f ?_)
| refine blkA_x (by decide) ?_
| (with_reducible refine AWP.cond rfl ?_ ?_ <;> intro hc <;> (try simp only [hcs, beq_iff_eq, ge_iff_le, gt_iff_lt] at hc))
| ((first | ((first | (with_reducible first | refine zR ?_ | refine zQ (by decide +kernel) ?_ | refine zD (by decide +kernel) ?_ | refine zE (by decide +kernel) ?_ | refine zG (by decide +kernel) ?_)); intro K hK) | ((first | refine acallH_sc (diskCmp_c _ _) rfl rfl ?_ ?_ ?_ | refine acallQ_sc (diskCmp_c _ _) rfl rfl ?_ ?_ ?_); iterate 2 (focus ((try simp (disch := omega) only [go_sem, wrap_n, halfw]) <;> (try omega) <;> fail))) | ((first | refine zN (diskCmp_c _ _) rfl ?_ ?_); (focus ((try simp (disch := omega) only [go_sem, wrap_n, halfw]) <;> (try omega) <;> fail))) | (first | ((first | refine zX (diskCmp_c _ _) rfl ?_ ?_ | refine acallH_anyx (diskCmp_c _ _) ?_ ?_); (focus ((try simp (disch := omega) only [go_sem, wrap_n, halfw]) <;> (try omega) <;> fail)))) | ((first | (with_reducible refine aunder_i ?_ ?_ <;> intro hg) | with_reducible intro hg) <;> (first | (exfalso; simp at hg; done) | (have hg' := hg; (try simp only [hcs, beq_iff_eq, ge_iff_le, gt_iff_lt] at hg'); (try simp only [hg]))))) <;> (try simp (disch := omega) only [go_sem, wrap_n, halfw]) <;> (repeat' with_reducible refine And.intro ?_ ?_) <;> (try (with_reducible refine hK _ ?_; clear hK K)))
| omega)
  · rw [cmpB_neg] at hc
    refine ⟨((i + j) / 2 + 1, j), ⟨by simp only; omega, h2, fun k hk => ?_, h4⟩, by simp only; omega, ?_⟩
    · by_cases e : k = (i + j) / 2
      · rw [e, hn]; exact hc
      · refine List.lt_trans (rises_lt (j := (i + j) / 2) hr (by simp only at hk; omega) (by simp; omega)) ?_
        rw [hn]; exact hc
    (refine SImp.same ?_; simp (disch := omega) only [go_sem, wrap_n, Int.natCast_add])
  · have hc2 : ¬ cmpB (l.getD ((i + j) / 2) default).name key < 0 := by omega
    rw [cmpB_neg, ← hn] at hc2
    refine ⟨(i, (i + j) / 2), ⟨by simp only; omega, by simp only; omega, h3, fun _ => hc2⟩, by simp only; omega, ?_⟩
    (refine SImp.same ?_; simp (disch := omega) only [go_sem, wrap_n, Int.natCast_add])
  · have e0 : i = j := by omega
    subst e0
    have e1 : place (l.map AFile.name) key = i := place_eq (by simp; omega) h3 (fun h => h4 (by simpa using h))
    have e2 : key ∈ l.map AFile.name ↔ i < (l.map AFile.name).length ∧ (l.map AFile.name).getD i [] = key := found_iff hr h3 (fun h => h4 (by simpa using h))
    (refine zF rfl ?_ ?_ ?_ ?_; (iterate 3 (focus ((try simp (disch := omega) only [go_sem, wrap_n, e1]) <;> (try omega) <;> fail))); (try simp (disch := omega) only [go_sem, wrap_n, e1, I, B, S, inj, List.cons.injEq, and_true, true_and, and_self]))
    simp only [cmpB_eq, e2, hn, List.length_map]
    simp at hg; simp [hg]
  · have e0 : i = j := by omega
    subst e0
    have e1 : place (l.map AFile.name) key = i := place_eq (by simp; omega) h3 (fun h => h4 (by simpa using h))
    have e2 : key ∈ l.map AFile.name ↔ i < (l.map AFile.name).length ∧ (l.map AFile.name).getD i [] = key := found_iff hr h3 (fun h => h4 (by simpa using h))
    (refine zF rfl ?_ ?_ ?_ ?_; (iterate 3 (focus ((try simp (disch := omega) only [go_sem, wrap_n, e1]) <;> (try omega) <;> fail))); (try simp (disch := omega) only [go_sem, wrap_n, e1, I, B, S, inj, List.cons.injEq, and_true, true_and, and_self]))
    simp only [e2, List.length_map]
    simp at hg; simp; omega
end Go.Proofs.YtmpfhalheaeibaaDoor
namespace Go.Proofs.YtmpfhalheaeibaaDoor
set_option linter.unusedVariables false
set_option linter.unusedSimpArgs false
open Go Go.RowKit
set_option maxRecDepth 100000
set_option linter.unusedSimpArgs false
theorem arith1 (i : Nat) : ((i : Int) + 1).toNat = i + 1 := by omega
theorem arith2 (i n : Nat) (h : i ≤ n) : ((n : Int) - i).toNat = n - i := by omega
theorem arith3 (i n : Nat) (h : i ≤ n + 1) : ((n : Int) + 1 - i).toNat = n + 1 - i := by omega
theorem arith4 (i n : Nat) (h : i ≤ n + 1) : ((n : Int) + 1 - i) = ((n + 1 - i : Nat) : Int) := by omega
theorem ins_eq {α : Type} (R : List α) (i : Nat) (x : α) (h : i ≤ R.length) : R.insertIdx i x = R.take i ++ x :: R.drop i := by
  induction R generalizing i with
  | nil => have : i = 0 := by simpa using h
           subst this; rfl
  | cons a R ih =>
    cases i with
    | zero => rfl
    | succ i => simp only [List.insertIdx_succ_cons, List.take_succ_cons, List.drop_succ_cons, List.cons_append]; rw [ih i (by simpa using h)]
theorem getD_ins {α : Type} (l : List α) (i : Nat) (x z : α) (h : i ≤ l.length) : (l.insertIdx i x).getD i z = x := by
  rw [ins_eq _ _ _ h, List.getD_eq_getElem?_getD, List.getElem?_append_right (by rw [List.length_take]; omega)]
  have : i - (l.take i).length = 0 := by rw [List.length_take]; omega
  rw [this]; rfl
theorem getD_insmap {α β : Type} (f : α → β) (l : List α) (i : Nat) (x : α) (z : β) (h : i ≤ l.length) : ((l.insertIdx i x).map f).getD i z = f x := by
  rw [← ins_map]; exact getD_ins _ _ _ _ (by simpa using h)
theorem set_ins {α : Type} (l : List α) (i : Nat) (x y : α) (h : i ≤ l.length) : (l.insertIdx i x).set i y = l.insertIdx i y := by
  rw [ins_eq _ _ _ h, ins_eq _ _ _ h]
  have e : (l.take i).length = i := by simp; omega
  rw [List.set_append_right _ _ (by omega), e, Nat.sub_self]; rfl
theorem ins_len {α : Type} (l : List α) (i : Nat) (x : α) (h : i ≤ l.length) : (l.insertIdx i x).length = l.length + 1 := by rw [ins_eq _ _ _ h]; simp; omega
theorem take_map_ins {α β : Type} (f : α → β) (l : List α) (i : Nat) (x : α) (h : i ≤ l.length) : ((l.insertIdx i x).map f).take (l.length + 1) = (l.insertIdx i x).map f := List.take_of_length_le (by rw [List.length_map, ins_len _ _ _ h]; omega)
theorem ins_get_lt {α : Type} (l : List α) (i k : Nat) (x z : α) (h : i ≤ l.length) (hk : k < i) : (l.insertIdx i x).getD k z = l.getD k z := by
  rw [ins_eq _ _ _ h, List.getD_eq_getElem?_getD, List.getElem?_append_left (by rw [List.length_take]; omega), List.getElem?_take_of_lt hk, List.getD_eq_getElem?_getD]
theorem ins_swap {α : Type} (l : List α) (k : Nat) (x z : α) (h : k ≤ l.length) (h0 : 0 < k) : ((l.insertIdx k x).set (k - 1) x).set k (l.getD (k - 1) z) = l.insertIdx (k - 1) x := by
  rw [ins_eq _ _ _ h, ins_eq _ _ _ (Nat.le_trans (Nat.sub_le _ _) h)]
  have e1 : l.take k = l.take (k - 1) ++ [l.getD (k - 1) z] := by
    have : k = (k - 1) + 1 := by omega
    conv => lhs; rw [this]
    rw [List.take_add_one, List.getElem?_eq_getElem (by omega), List.getD_eq_getElem?_getD, List.getElem?_eq_getElem (by omega)]; rfl
  have e2 : l.drop (k - 1) = l.getD (k - 1) z :: l.drop k := by
    rw [List.drop_eq_getElem_cons (by omega), List.getD_eq_getElem?_getD, List.getElem?_eq_getElem (by omega), show k - 1 + 1 = k from by omega]; rfl
  have e3 : (l.take (k - 1)).length = k - 1 := by rw [List.length_take]; omega
  rw [e1, e2]
  generalize l.getD (k - 1) z = y
  generalize hA : l.take (k - 1) = A at *
  generalize l.drop k = B
  have hk : k = A.length + 1 := by omega
  subst hk
  rw [Nat.add_sub_cancel]
  simp [List.set_append_right]
theorem ins_end {α : Type} (l : List α) (x : α) : l.insertIdx l.length x = l ++ [x] := by rw [ins_eq _ _ _ (Nat.le_refl _), List.take_length, List.drop_length]
theorem take_exact {α : Type} {A B : List α} {n : Nat} (h : n = A.length) : (A ++ B).take n = A := by subst h; simp
theorem drop_exact {α : Type} {A B : List α} {n : Nat} (h : n = A.length) : (A ++ B).drop n = B := by subst h; simp
theorem mid_rows {α : Type} {R J : List α} {i a b : Nat} (h : i ≤ R.length) (ha : a = R.length - i) (hb : R.length - i ≤ b) : List.take a (List.take b (List.drop i (R ++ J))) = R.drop i := by
  rw [List.take_take, Nat.min_eq_left (by omega), List.drop_append_of_le_length h]
  exact take_exact (by simp; omega)
theorem ins_in {α : Type} {R J X : List α} {r : α} {i a b c d : Nat} (h : i < R.length) (ha : a = R.length - i) (hb : R.length - i ≤ b) (hc : 1 ≤ c) (hd : d = 1) :
    List.take (R.length + 1) (List.take i (List.take (i + 1) (R ++ J) ++ List.take a (List.take b (List.drop i (R ++ J))) ++ X) ++ List.take c [r] ++ List.drop (i + d) (List.take (i + 1) (R ++ J) ++ List.take a (List.take b (List.drop i (R ++ J))) ++ X)) = R.insertIdx i r := by
  subst hd
  have e1 : List.take (i + 1) (R ++ J) = R.take (i + 1) := List.take_append_of_le_length (by omega)
  have e2 : (R.take (i + 1)).length = i + 1 := by simp; omega
  have e3 : List.take c [r] = [r] := List.take_of_length_le (by simpa using hc)
  rw [mid_rows (by omega) ha hb, e1, e3, List.append_assoc (List.take (i + 1) R), drop_exact (n := i + 1) e2.symm, ins_eq _ _ _ (by omega)]
  have e4 : List.take i (List.take (i + 1) R ++ (List.drop i R ++ X)) = R.take i := by
    rw [List.take_append_of_le_length (by rw [e2]; omega), List.take_take, Nat.min_eq_left (by omega)]
  rw [e4]
  have : List.take i R ++ [r] ++ (List.drop i R ++ X) = (List.take i R ++ r :: List.drop i R) ++ X := by simp
  rw [this]
  exact take_exact (by simp; omega)
theorem ins_grow {α : Type} {R J : List α} {r z : α} {i m c d e f g : Nat} (h : i < R.length) (hm : m = R.length + 1 - i) (hc : 1 ≤ c) (hd : d = 1) (he : e = R.length - i) (hf : R.length - i ≤ f) (hg : g = R.length + 1) :
    List.take (i + 1) (List.take i (List.take i (R ++ J) ++ List.replicate m z) ++ List.take c [r] ++ List.drop (i + d) (List.take i (R ++ J) ++ List.replicate m z)) ++ List.take e (List.take f (List.drop i (R ++ J))) ++
      List.drop g (List.take i (List.take i (R ++ J) ++ List.replicate m z) ++ List.take c [r] ++ List.drop (i + d) (List.take i (R ++ J) ++ List.replicate m z)) = R.insertIdx i r := by
  subst hd; subst hm; subst hg
  have e1 : List.take i (R ++ J) = R.take i := List.take_append_of_le_length (by omega)
  have e2 : (R.take i).length = i := by simp; omega
  have e3 : List.take c [r] = [r] := List.take_of_length_le (by simpa using hc)
  rw [mid_rows (by omega) he hf, e1, e3, take_exact (n := i) e2.symm, ins_eq _ _ _ (by omega)]
  have e4 : (List.take i R ++ [r]).length = i + 1 := by simp; omega
  have e5 : List.drop (R.length + 1) (List.take i R ++ [r] ++ List.drop (i + 1) (List.take i R ++ List.replicate (R.length + 1 - i) z)) = [] := List.drop_eq_nil_of_le (by simp; omega)
  rw [e5, take_exact e4.symm, List.append_nil, List.append_assoc]; rfl
set_option maxHeartbeats 1000000 in
theorem insFile_c (rs : List (List DV)) (r : List DV) (i : Nat) (hi : i ≤ rs.length) (hb : (rs.length + 1) * 48 ≤ 140737488351232) :
    acall Tryd.prog [.rows 3 rs, .rows 3 [r]] 128 [.osl 0 3 0 rs.length, I i, .osl 1 3 0 1] (outs (.osl 2 3 0 (rs.length + 1)) [.dead, .dead, .rows 3 (rs.insertIdx i r)]) := by
  refine acall_of tabOk Tryd.func128 rfl (by kernel_rfl) (by simp [Tryd.ntmps128]) ?_; simp only [Tryd.ntmps128, Tryd.results128, List.toList_toArray, apar, List.length_nil, List.length_cons, Nat.reduceAdd]
  by_cases hin : i = rs.length
  · subst hin
    (repeat' first
  | (with_reducible refine AR.f ?_)
  | refine blkA_x (by decide) ?_
  | (with_reducible refine AWP.cond rfl ?_ ?_ <;> intro hc <;> (try simp only [hcs, beq_iff_eq, ge_iff_le, gt_iff_lt] at hc))
  | ((first | ((first | (with_reducible first | refine zR ?_ | refine zQ (by decide +kernel) ?_ | refine zD (by decide +kernel) ?_ | refine zE (by decide +kernel) ?_ | refine zG (by decide +kernel) ?_)); intro K hK) | ((first | (with_reducible refine aunder_i ?_ ?_ <;> intro hg) | with_reducible intro hg) <;> (first | (exfalso; simp at hg; done) | (have hg' := hg; (try simp only [hcs, beq_iff_eq, ge_iff_le, gt_iff_lt] at hg'); (try simp only [hg]))))) <;> (try simp (disch := omega) only [go_sem, wrap_n, if_pos, if_neg, arith1, arith2]) <;> (repeat' with_reducible refine And.intro ?_ ?_) <;> (try (with_reducible refine hK _ ?_; clear hK K)))
  | omega)
    refine aend_out (by first | exact .inl rfl | exact .inr rfl) (by simp (disch := omega) only [go_sem]) ?_
    simp (disch := omega) only [go_sem]
    refine AOut.framed [0, 1, 2] rfl (by simp) (by decide) (by intro k hk; match k, hk with | 0, _ => rfl | 1, _ => rfl) ⟨rfl, by simp [inV]⟩ ?_ (AOut.done (hp := [.dead, .dead, .rows 3 (List.take rs.length rs ++ [r])]) rfl ?_)
    · simp only [go_sem]
    · rw [ins_eq _ _ _ (Nat.le_refl _), List.drop_length]
  refine AWP.reveal 0 (k := 0) (sz := 3) (off := 0) (n := rs.length) rfl (by omega) rfl (by decide) fun junk hj hjl => ?_
  simp only [go_sem, Nat.zero_add] at hjl ⊢
  by_cases hN : rs.length + 1 ≤ rs.length + junk.length
  · (repeat' first
  | (with_reducible refine AR.f ?_)
  | refine blkA_x (by decide) ?_
  | (with_reducible refine AWP.cond rfl ?_ ?_ <;> intro hc <;> (try simp only [hcs, beq_iff_eq, ge_iff_le, gt_iff_lt] at hc))
  | ((first | ((first | (with_reducible first | refine zR ?_ | refine zQ (by decide +kernel) ?_ | refine zD (by decide +kernel) ?_ | refine zE (by decide +kernel) ?_ | refine zG (by decide +kernel) ?_)); intro K hK) | refine acallHK_ext (ext_overlaps Tryd.func164 (by kernel_rfl) (by kernel_rfl) (by kernel_rfl) (tS := 22) (tR := 4) (e := 100) (by kernel_rfl) tabOk (by simp only [T_22, ty22]) (by simp [T_100, ty100]) (k := 1) (k' := 0) rfl (.inl ⟨rfl, rfl⟩) rfl (.inr ⟨rfl, rfl⟩) (by decide) (by omega) (by omega) (by decide)) ?_ | ((first | (with_reducible refine aunder_i ?_ ?_ <;> intro hg) | with_reducible intro hg) <;> (first | (exfalso; simp at hg; done) | (have hg' := hg; (try simp only [hcs, beq_iff_eq, ge_iff_le, gt_iff_lt] at hg'); (try simp only [hg]))))) <;> (try simp (disch := omega) only [go_sem, wrap_n, if_pos, if_neg, arith1, arith2, List.length_take, List.length_drop, Nat.min_eq_left]) <;> (repeat' with_reducible refine And.intro ?_ ?_) <;> (try (with_reducible refine hK _ ?_; clear hK K)))
  | omega)
    refine aend_out (by first | exact .inl rfl | exact .inr rfl) (by simp (disch := omega) only [go_sem]) ?_
    simp (disch := omega) only [go_sem]
    refine AOut.moved rfl ?_
    refine AOut.framed [0, 1, 2] rfl (by simp) (by decide) (by intro k hk; match k, hk with | 0, _ => rfl | 1, _ => rfl) ⟨rfl, by simp [inV]⟩ ?_ (AOut.done (hp := [.dead, .dead, .rows 3 (rs.insertIdx i r)]) rfl rfl)
    rw [ins_in (by omega) (by omega) (by omega) (by omega) (by omega)]
    simp only [go_sem]
  · (repeat' first
  | (with_reducible refine AR.f ?_)
  | refine blkA_x (by decide) ?_
  | (with_reducible refine AWP.cond rfl ?_ ?_ <;> intro hc <;> (try simp only [hcs, beq_iff_eq, ge_iff_le, gt_iff_lt] at hc))
  | ((first | ((first | (with_reducible first | refine zR ?_ | refine zQ (by decide +kernel) ?_ | refine zD (by decide +kernel) ?_ | refine zE (by decide +kernel) ?_ | refine zG (by decide +kernel) ?_)); intro K hK) | ((first | (with_reducible refine aunder_i ?_ ?_ <;> intro hg) | with_reducible intro hg) <;> (first | (exfalso; simp at hg; done) | (have hg' := hg; (try simp only [hcs, beq_iff_eq, ge_iff_le, gt_iff_lt] at hg'); (try simp only [hg]))))) <;> (try simp (disch := omega) only [go_sem, wrap_n, if_pos, if_neg, arith1, arith2, arith3, arith4, List.length_take, List.length_drop, Nat.min_eq_left]) <;> (repeat' with_reducible refine And.intro ?_ ?_) <;> (try (with_reducible refine hK _ ?_; clear hK K)))
  | omega)
    refine aend_out (by first | exact .inl rfl | exact .inr rfl) (by simp (disch := omega) only [go_sem]) ?_
    simp (disch := omega) only [go_sem]
    rw [ins_grow (by omega) rfl (by omega) (by omega) (by omega) (by omega) (by omega), show i + (rs.length + 1 - i) = rs.length + 1 from by omega]
    refine AOut.framed [0, 1, 2] rfl (by simp) (by decide) (by intro k hk; match k, hk with | 0, _ => rfl | 1, _ => rfl) ⟨rfl, by simp [inV]⟩ ?_ (AOut.done (hp := [.dead, .dead, .rows 3 (rs.insertIdx i r)]) rfl rfl)
    simp only [go_sem]
end Go.Proofs.YtmpfhalheaeibaaDoor
