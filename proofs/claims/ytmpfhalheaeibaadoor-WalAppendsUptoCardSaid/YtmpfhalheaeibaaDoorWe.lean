/- Contracts of wire.Encode and its reference: a transaction's bytes. No condition. -/
import Derived.Test.YtmpfhalheaeibaaDoorTx
import Derived.Test.YtmpfhalheaeibaaDoorWs
import Derived.Test.YtmpfhalheaeibaaDoorPj
namespace Go.Proofs.YtmpfhalheaeibaaDoor
set_option linter.unusedVariables false
set_option linter.unusedSimpArgs false
open Go Go.RowKit
set_option maxRecDepth 100000
set_option linter.unusedSimpArgs false

/-- A number's byte, and its lowest bytes, the highest first. -/
def byteAt (k : Nat) (v : Int) : UInt8 := UInt8.ofNat ((v / 2 ^ (8 * k)) % 256).toNat
def beB : Nat → Int → List UInt8
  | 0, _ => []
  | n + 1, v => byteAt n v :: beB n v
theorem beB_len (v : Int) : ∀ n, (beB n v).length = n
  | 0 => rfl
  | n + 1 => by rw [beB, List.length_cons, beB_len v n]
theorem beB_snoc (v : Int) : ∀ (n j : Nat), j < n → (beB n v).take (n - j) = (beB n v).take (n - (j + 1)) ++ [byteAt j v]
  | 0, j, h => by omega
  | n + 1, j, h => by
    by_cases e : j = n
    · subst e
      rw [show j + 1 - j = 1 from by omega, Nat.sub_self]; rfl
    · rw [beB, show n + 1 - j = (n - j) + 1 from by omega, show n + 1 - (j + 1) = (n - (j + 1)) + 1 from by omega, List.take_succ_cons, List.take_succ_cons, beB_snoc v n j (by omega)]; rfl
theorem u8_wrap (x : Int) : IntKind.u8.wrap x = ((UInt8.ofNat (x % 256).toNat).toNat : Int) := by
  rw [UInt8.toNat_ofNat']
  simp [IntKind.wrap, IntKind.bits, IntKind.signed]; omega
theorem u8_byte (j : Nat) (v : Int) : IntKind.u8.wrap (v / 2 ^ (8 * j)) = ((byteAt j v).toNat : Int) := u8_wrap _
theorem u64_small (n : Nat) (h : n < 18446744073709551616) : IntKind.u64.wrap (n : Int) = (n : Int) := by
  simp [IntKind.wrap, IntKind.bits, IntKind.signed]; omega
theorem put_own_c (l : List UInt8) (v : Int) (n : Nat) (hn : n ≤ 8) (hl : l.length ≤ 1048576) : acall Tryd.prog [.rows 1 (l.map u8row)] 124 [.osl 0 1 0 l.length, I v, I n] (outs (.osl 1 1 0 (l.length + n)) [.dead, .rows 1 ((l ++ beB n v).map u8row)]) := by
  refine acall_of tabOk Tryd.func124 rfl (by kernel_rfl) (by simp [Tryd.ntmps124]) ?_; simp only [Tryd.ntmps124, Tryd.results124, List.toList_toArray, apar, List.length_nil, List.length_cons, Nat.reduceAdd]
  refine AWP.weaken (SImp.moveOwn 0 rfl rfl (by simp)) ?_
  simp only [go_sem]
  repeat' first
    | (with_reducible first | refine AWP.seq ?_ | refine thenA_n ?_ | refine thenA_r ?_ | refine thenA_e ?_ | refine blkA_n ?_ | refine blkA_r ?_ | refine blkA_e ?_ | refine blkA_x (by decide) ?_ | refine AWP.skip ?_ | refine AWP.ret ?_ | refine AWP.exit ?_ | refine AWP.block ?_)
    | (with_reducible refine AWP.cond rfl ?_ ?_ <;> intro hc <;> (try simp only [hcs, beq_iff_eq, ge_iff_le, gt_iff_lt] at hc))
    | ((first
      | (with_reducible first | refine AWP.region tabOk ?_ | refine AWP.quietC mixed tabOk (by decide +kernel) ?_ | refine AWP.draw mixed tabOk (by decide +kernel) ?_ | refine AWP.drawE mixed tabOk (by decide +kernel) ?_ | refine AWP.drawG mixed tabOk (by decide +kernel) ?_); intro K hK); ((try simp (disch := omega) only [go_sem, wrap_n]) <;> (repeat' with_reducible refine And.intro ?_ ?_) <;> (try (with_reducible refine hK _ ?_; clear hK K))))
    | ((first | (with_reducible refine aunder_i ?_ ?_ <;> intro hg) | with_reducible intro hg) <;> (first | (exfalso; simp at hg; done) | (have hg' := hg; (try simp only [hcs, beq_iff_eq, ge_iff_le, gt_iff_lt] at hg'); ((try simp (disch := omega) only [hg, go_sem, wrap_n]) <;> (repeat' with_reducible refine And.intro ?_ ?_) <;> (try (with_reducible refine hK _ ?_; clear hK K))))))
                                                            | omega
  refine AWP.loopB (ι := Nat) (fun j => j ≤ n) (fun j => j) [1] (fun j => [(0, .osl 1 1 0 (l.length + (n - j))), (7, I ((j : Int) - 1))]) (fun j => [.dead, .rows 1 ((l ++ (beB n v).take (n - j)).map u8row)]) n ?_ ?_ ?_
  · omega
  · simp only [go_sem, Nat.sub_self, List.take_zero, List.append_nil, Nat.add_zero]; (refine SImp.same ?_; simp (disch := omega) only [go_sem, wrap_n, Int.natCast_add])
  intro j hj
  rcases j with _ | j
  · simp only [go_sem]
    repeat' first
      | (with_reducible first | refine AWP.seq ?_ | refine thenA_n ?_ | refine thenA_r ?_ | refine thenA_e ?_ | refine blkA_n ?_ | refine blkA_r ?_ | refine blkA_e ?_ | refine blkA_x (by decide) ?_ | refine AWP.skip ?_ | refine AWP.ret ?_ | refine AWP.exit ?_ | refine AWP.block ?_)
      | (with_reducible refine AWP.cond rfl ?_ ?_ <;> intro hc <;> (try simp only [hcs, beq_iff_eq, ge_iff_le, gt_iff_lt] at hc))
      | ((first
        | (with_reducible first | refine AWP.region tabOk ?_ | refine AWP.quietC mixed tabOk (by decide +kernel) ?_ | refine AWP.draw mixed tabOk (by decide +kernel) ?_ | refine AWP.drawE mixed tabOk (by decide +kernel) ?_ | refine AWP.drawG mixed tabOk (by decide +kernel) ?_); intro K hK); ((try simp (disch := omega) only [go_sem, wrap_n]) <;> (repeat' with_reducible refine And.intro ?_ ?_) <;> (try (with_reducible refine hK _ ?_; clear hK K))))
      | ((first | (with_reducible refine aunder_i ?_ ?_ <;> intro hg) | with_reducible intro hg) <;> (first | (exfalso; simp at hg; done) | (have hg' := hg; (try simp only [hcs, beq_iff_eq, ge_iff_le, gt_iff_lt] at hg'); ((try simp (disch := omega) only [hg, go_sem, wrap_n]) <;> (repeat' with_reducible refine And.intro ?_ ?_) <;> (try (with_reducible refine hK _ ?_; clear hK K))))))
                                                              | omega
    rw [Nat.sub_zero, List.take_of_length_le (by rw [beB_len]; omega)]
    (refine aend_out (by first | exact .inl rfl | exact .inr rfl) ?_ ?_; (focus ((try simp (disch := omega) only [go_sem, wrap_n]) <;> fail)); simp (disch := omega) only [go_sem, wrap_n, true_and]; refine AOut.of_simp ?_ (AOut.same ⟨rfl, rfl⟩); refine SImp.frame [0, 1] rfl (by intro k hk; first | (simp at hk <;> (simp; omega)) | (simp only [List.mem_cons, List.not_mem_nil, or_false] at hk; simp only [List.length_cons, List.length_nil]; omega)) (by decide) (fun k hk => by first | omega | (rcases k with _ | _ | _ | _ | k <;> first | rfl | omega)) ?_ ?_ <;> simp (disch := omega) only [go_sem, wrap_n, true_or, or_true, true_and])
  rw [show ((j + 1 : Nat) : Int) - 1 = j from by omega]
  simp only [go_sem]
  have hw : IntKind.u64.wrap (8 * (j : Int)) = 8 * j := by simp [IntKind.wrap, IntKind.bits, IntKind.signed]; omega
  have hw2 : (8 * (j : Int)).toNat = 8 * j := by omega
  have hle : (l ++ (beB n v).take (n - (j + 1))).length = l.length + (n - (j + 1)) := by rw [List.length_append, List.length_take, beB_len]; omega
  have hk : List.take (l.length + (n - (j + 1))) ((l ++ (beB n v).take (n - (j + 1))).map u8row) = (l ++ (beB n v).take (n - (j + 1))).map u8row := List.take_of_length_le (by rw [List.length_map]; omega)
  repeat' first
    | (with_reducible first | refine AWP.seq ?_ | refine thenA_n ?_ | refine thenA_r ?_ | refine thenA_e ?_ | refine blkA_n ?_ | refine blkA_r ?_ | refine blkA_e ?_ | refine blkA_x (by decide) ?_ | refine AWP.skip ?_ | refine AWP.ret ?_ | refine AWP.exit ?_ | refine AWP.block ?_)
    | (with_reducible refine AWP.cond rfl ?_ ?_ <;> intro hc <;> (try simp only [hcs, beq_iff_eq, ge_iff_le, gt_iff_lt] at hc))
    | ((first
      | (with_reducible first | refine AWP.region tabOk ?_ | refine AWP.quietC mixed tabOk (by decide +kernel) ?_ | refine AWP.draw mixed tabOk (by decide +kernel) ?_ | refine AWP.drawE mixed tabOk (by decide +kernel) ?_ | refine AWP.drawG mixed tabOk (by decide +kernel) ?_); intro K hK); ((try simp (disch := omega) only [go_sem, wrap_n, hw, hw2, hk]) <;> (repeat' with_reducible refine And.intro ?_ ?_) <;> (try (with_reducible refine hK _ ?_; clear hK K))))
    | ((first | (with_reducible refine aunder_i ?_ ?_ <;> intro hg) | with_reducible intro hg) <;> (first | (exfalso; simp at hg; done) | (have hg' := hg; (try simp only [hcs, beq_iff_eq, ge_iff_le, gt_iff_lt] at hg'); ((try simp (disch := omega) only [hg, go_sem, wrap_n, hw, hw2, hk]) <;> (repeat' with_reducible refine And.intro ?_ ?_) <;> (try (with_reducible refine hK _ ?_; clear hK K))))))
                                                            | omega
  · simp [beB_len]
  refine ⟨j, by omega, by omega, ?_⟩
  rw [beB_snoc v n j (by omega), ← List.append_assoc, List.map_append (l₁ := l ++ _), show n - j = n - (j + 1) + 1 from by omega]
  (refine SImp.frame [0, 3] rfl (by intro k hk; first | (simp at hk <;> (simp; omega)) | (simp only [List.mem_cons, List.not_mem_nil, or_false] at hk; simp only [List.length_cons, List.length_nil]; omega)) (by decide) (fun k hk => by first | omega | (rcases k with _ | _ | _ | _ | k <;> first | rfl | omega)) ?_ ?_ <;> simp (disch := omega) only [go_sem, wrap_n, Int.natCast_add, hw, hw2, hk, u8_byte, List.map_cons, List.map_nil, u8row, Nat.add_assoc] <;> (try rfl))
theorem put_nil_c (v : Int) (n : Nat) (hn : n ≤ 8) : acall Tryd.prog [] 124 [.d (.sc (.slice none 0 0)), I v, I n] (outs (.osl 0 1 0 n) [.rows 1 ((beB n v).map u8row)]) := by
  refine acall_of tabOk Tryd.func124 rfl (by kernel_rfl) (by simp [Tryd.ntmps124]) ?_; simp only [Tryd.ntmps124, Tryd.results124, List.toList_toArray, apar, List.length_nil, List.length_cons, Nat.reduceAdd]
  refine AWP.weaken (SImp.nilOwn 0 1 rfl) ?_
  simp only [go_sem]
  repeat' first
    | (with_reducible first | refine AWP.seq ?_ | refine thenA_n ?_ | refine thenA_r ?_ | refine thenA_e ?_ | refine blkA_n ?_ | refine blkA_r ?_ | refine blkA_e ?_ | refine blkA_x (by decide) ?_ | refine AWP.skip ?_ | refine AWP.ret ?_ | refine AWP.exit ?_ | refine AWP.block ?_)
    | (with_reducible refine AWP.cond rfl ?_ ?_ <;> intro hc <;> (try simp only [hcs, beq_iff_eq, ge_iff_le, gt_iff_lt] at hc))
    | ((first
      | (with_reducible first | refine AWP.region tabOk ?_ | refine AWP.quietC mixed tabOk (by decide +kernel) ?_ | refine AWP.draw mixed tabOk (by decide +kernel) ?_ | refine AWP.drawE mixed tabOk (by decide +kernel) ?_ | refine AWP.drawG mixed tabOk (by decide +kernel) ?_); intro K hK); ((try simp (disch := omega) only [go_sem, wrap_n]) <;> (repeat' with_reducible refine And.intro ?_ ?_) <;> (try (with_reducible refine hK _ ?_; clear hK K))))
    | ((first | (with_reducible refine aunder_i ?_ ?_ <;> intro hg) | with_reducible intro hg) <;> (first | (exfalso; simp at hg; done) | (have hg' := hg; (try simp only [hcs, beq_iff_eq, ge_iff_le, gt_iff_lt] at hg'); ((try simp (disch := omega) only [hg, go_sem, wrap_n]) <;> (repeat' with_reducible refine And.intro ?_ ?_) <;> (try (with_reducible refine hK _ ?_; clear hK K))))))
                                                            | omega
  refine AWP.loopB (ι := Nat) (fun j => j ≤ n) (fun j => j) [1] (fun j => [(0, .osl 0 1 0 (n - j)), (7, I ((j : Int) - 1))]) (fun j => [.rows 1 (((beB n v).take (n - j)).map u8row)]) n ?_ ?_ ?_
  · omega
  · simp only [go_sem, Nat.sub_self, List.take_zero, List.map_nil]; (refine SImp.same ?_; simp (disch := omega) only [go_sem, wrap_n, Int.natCast_add])
  intro j hj
  rcases j with _ | j
  · simp only [go_sem]
    repeat' first
      | (with_reducible first | refine AWP.seq ?_ | refine thenA_n ?_ | refine thenA_r ?_ | refine thenA_e ?_ | refine blkA_n ?_ | refine blkA_r ?_ | refine blkA_e ?_ | refine blkA_x (by decide) ?_ | refine AWP.skip ?_ | refine AWP.ret ?_ | refine AWP.exit ?_ | refine AWP.block ?_)
      | (with_reducible refine AWP.cond rfl ?_ ?_ <;> intro hc <;> (try simp only [hcs, beq_iff_eq, ge_iff_le, gt_iff_lt] at hc))
      | ((first
        | (with_reducible first | refine AWP.region tabOk ?_ | refine AWP.quietC mixed tabOk (by decide +kernel) ?_ | refine AWP.draw mixed tabOk (by decide +kernel) ?_ | refine AWP.drawE mixed tabOk (by decide +kernel) ?_ | refine AWP.drawG mixed tabOk (by decide +kernel) ?_); intro K hK); ((try simp (disch := omega) only [go_sem, wrap_n]) <;> (repeat' with_reducible refine And.intro ?_ ?_) <;> (try (with_reducible refine hK _ ?_; clear hK K))))
      | ((first | (with_reducible refine aunder_i ?_ ?_ <;> intro hg) | with_reducible intro hg) <;> (first | (exfalso; simp at hg; done) | (have hg' := hg; (try simp only [hcs, beq_iff_eq, ge_iff_le, gt_iff_lt] at hg'); ((try simp (disch := omega) only [hg, go_sem, wrap_n]) <;> (repeat' with_reducible refine And.intro ?_ ?_) <;> (try (with_reducible refine hK _ ?_; clear hK K))))))
                                                              | omega
    rw [Nat.sub_zero, List.take_of_length_le (by rw [beB_len]; omega)]
    (refine aend_out (by first | exact .inl rfl | exact .inr rfl) ?_ ?_; (focus ((try simp (disch := omega) only [go_sem, wrap_n]) <;> fail)); simp (disch := omega) only [go_sem, wrap_n, true_and]; refine AOut.of_simp ?_ (AOut.same ⟨rfl, rfl⟩); refine SImp.frame [0] rfl (by intro k hk; first | (simp at hk <;> (simp; omega)) | (simp only [List.mem_cons, List.not_mem_nil, or_false] at hk; simp only [List.length_cons, List.length_nil]; omega)) (by decide) (fun k hk => by first | omega | (rcases k with _ | _ | _ | _ | k <;> first | rfl | omega)) ?_ ?_ <;> simp (disch := omega) only [go_sem, wrap_n, true_or, or_true, true_and])
  rw [show ((j + 1 : Nat) : Int) - 1 = j from by omega]
  simp only [go_sem]
  have hw : IntKind.u64.wrap (8 * (j : Int)) = 8 * j := by simp [IntKind.wrap, IntKind.bits, IntKind.signed]; omega
  have hw2 : (8 * (j : Int)).toNat = 8 * j := by omega
  have hk : List.take (n - (j + 1)) (((beB n v).take (n - (j + 1))).map u8row) = ((beB n v).take (n - (j + 1))).map u8row := List.take_of_length_le (by rw [List.length_map, List.length_take]; omega)
  repeat' first
    | (with_reducible first | refine AWP.seq ?_ | refine thenA_n ?_ | refine thenA_r ?_ | refine thenA_e ?_ | refine blkA_n ?_ | refine blkA_r ?_ | refine blkA_e ?_ | refine blkA_x (by decide) ?_ | refine AWP.skip ?_ | refine AWP.ret ?_ | refine AWP.exit ?_ | refine AWP.block ?_)
    | (with_reducible refine AWP.cond rfl ?_ ?_ <;> intro hc <;> (try simp only [hcs, beq_iff_eq, ge_iff_le, gt_iff_lt] at hc))
    | ((first
      | (with_reducible first | refine AWP.region tabOk ?_ | refine AWP.quietC mixed tabOk (by decide +kernel) ?_ | refine AWP.draw mixed tabOk (by decide +kernel) ?_ | refine AWP.drawE mixed tabOk (by decide +kernel) ?_ | refine AWP.drawG mixed tabOk (by decide +kernel) ?_); intro K hK); ((try simp (disch := omega) only [go_sem, wrap_n, hw, hw2, hk]) <;> (repeat' with_reducible refine And.intro ?_ ?_) <;> (try (with_reducible refine hK _ ?_; clear hK K))))
    | ((first | (with_reducible refine aunder_i ?_ ?_ <;> intro hg) | with_reducible intro hg) <;> (first | (exfalso; simp at hg; done) | (have hg' := hg; (try simp only [hcs, beq_iff_eq, ge_iff_le, gt_iff_lt] at hg'); ((try simp (disch := omega) only [hg, go_sem, wrap_n, hw, hw2, hk]) <;> (repeat' with_reducible refine And.intro ?_ ?_) <;> (try (with_reducible refine hK _ ?_; clear hK K))))))
                                                            | omega
  · simp [beB_len]
  refine ⟨j, by omega, by omega, ?_⟩
  rw [beB_snoc v n j (by omega), List.map_append, show n - j = n - (j + 1) + 1 from by omega]
  (refine SImp.frame [2] rfl (by intro k hk; first | (simp at hk <;> (simp; omega)) | (simp only [List.mem_cons, List.not_mem_nil, or_false] at hk; simp only [List.length_cons, List.length_nil]; omega)) (by decide) (fun k hk => by first | omega | (rcases k with _ | _ | _ | _ | k <;> first | rfl | omega)) ?_ ?_ <;> simp (disch := omega) only [go_sem, wrap_n, Int.natCast_add, hw, hw2, hk, u8_byte, List.map_cons, List.map_nil, u8row, Nat.add_assoc] <;> (try rfl))
theorem put_own_at (l : List UInt8) (v : Int) (n m k : Nat) (ni : Int) (hn : n ≤ 8) (hl : l.length ≤ 1048576) (hm : l.length = m) (hk : m + n = k) (hi : ni = n) : acall Tryd.prog [.rows 1 (l.map u8row)] 124 [.osl 0 1 0 m, I v, I ni] (outs (.osl 1 1 0 k) [.dead, .rows 1 ((l ++ beB n v).map u8row)]) := by
  subst hm; subst hk; subst hi; exact put_own_c l v n hn hl
theorem u8_op (v : Int) : IntKind.u8.wrap v = ((byteAt 0 v).toNat : Int) := by rw [← u8_byte 0 v]; simp
def b5 (t : ATxn) : List UInt8 := (beB 8 t.zxid ++ [byteAt 0 t.op]) ++ beB 4 t.session
def b6 (t : ATxn) : List UInt8 := (b5 t ++ beB 4 t.version) ++ beB 4 t.owner
def b7 (t : ATxn) : List UInt8 := (b6 t ++ [byteAt 0 t.path.length]) ++ t.path
def bodyB (t : ATxn) : List UInt8 := (b7 t ++ beB 2 t.data.length) ++ t.data
theorem b5_len (t : ATxn) : (b5 t).length = 13 := by simp [b5, beB_len]
theorem b6_len (t : ATxn) : (b6 t).length = 21 := by simp [b6, b5_len, beB_len]
theorem b7_len (t : ATxn) : (b7 t).length = 22 + t.path.length := by simp [b7, b6_len]; omega
theorem bodyB_len (t : ATxn) : (bodyB t).length = 24 + t.path.length + t.data.length := by simp [bodyB, b7_len, beB_len]; omega
def headB (t : ATxn) : List UInt8 := ([84] ++ beB 2 (bodyB t).length) ++ bodyB t
theorem headB_len (t : ATxn) : (headB t).length = 27 + t.path.length + t.data.length := by unfold headB; simp only [List.length_append, bodyB_len, beB_len, List.length_cons, List.length_nil]; omega
def encB (t : ATxn) : List UInt8 := headB t ++ beB 4 (sumN (headB t))
theorem goodT_small {t : ATxn} (h : goodT t = 0) : t.path.length ≤ 200 ∧ t.data.length ≤ 256 := by
  unfold goodT at h
  split at h
  · cases h
  split at h
  · cases h
  split at h
  · cases h
  split at h
  · cases h
  rename_i h1 h2 h3 h4
  refine ⟨?_, by omega⟩
  unfold badT at h4
  by_cases e2 : t.op ≤ 2
  · rw [if_pos e2] at h4; simp at h4; rw [h4.1]; simp
  rw [if_neg e2] at h4
  have : goodP t.path = true := by
    split at h4 <;> (try split at h4) <;> simp at h4 <;> exact h4.1
  exact goodP_len this
def encT (t : ATxn) : List UInt8 × Int := if goodT t = 0 then (encB t, 0) else ([], goodT t)
set_option maxHeartbeats 2000000 in
theorem encode_c (t : ATxn) (hp : okS t.path) (hd : okS t.data) : acall Tryd.prog [] 63 [t.av] (ret (.tup [S (encT t).1, I (encT t).2])) := by
  refine acall_of tabOk Tryd.func63 rfl (by kernel_rfl) (by simp [Tryd.ntmps63]) ?_; simp only [Tryd.ntmps63, Tryd.results63, List.toList_toArray, apar, List.length_nil, List.length_cons, Nat.reduceAdd]
  by_cases g : goodT t = 0
  case neg =>
    unfold encT
    rw [if_neg g]
    repeat' first
      | (with_reducible first | refine AWP.seq ?_ | refine thenA_n ?_ | refine thenA_r ?_ | refine thenA_e ?_ | refine blkA_n ?_ | refine blkA_r ?_ | refine blkA_e ?_ | refine blkA_x (by decide) ?_ | refine AWP.skip ?_ | refine AWP.ret ?_ | refine AWP.exit ?_ | refine AWP.block ?_)
      | (with_reducible refine AWP.cond rfl ?_ ?_ <;> intro hc <;> (try simp only [hcs, beq_iff_eq, ge_iff_le, gt_iff_lt] at hc))
      | ((first
        | (with_reducible first | refine AWP.region tabOk ?_ | refine AWP.quietC mixed tabOk (by decide +kernel) ?_ | refine AWP.draw mixed tabOk (by decide +kernel) ?_ | refine AWP.drawE mixed tabOk (by decide +kernel) ?_ | refine AWP.drawG mixed tabOk (by decide +kernel) ?_); intro K hK
        | ((first | refine acallH_sc (wgood_c t hp hd) rfl rfl ?_ ?_ ?_ | refine acallQ_sc (wgood_c t hp hd) rfl rfl ?_ ?_ ?_); iterate 2 (focus ((try simp (disch := omega) only [go_sem, wrap_n]) <;> (try omega) <;> fail)))
        | ((first | refine acallH_anyr (wgood_c t hp hd) rfl ?_ ?_); (focus ((try simp (disch := omega) only [go_sem, wrap_n]) <;> (try omega) <;> fail)))
        | ((first | refine acallH_scx (wgood_c t hp hd) rfl ?_ ?_ | refine acallQ_scx (wgood_c t hp hd) rfl ?_ ?_ | refine acallH_anyx (wgood_c t hp hd) ?_ ?_); (focus ((try simp (disch := omega) only [go_sem, wrap_n]) <;> (try omega) <;> fail)))); ((try simp (disch := omega) only [go_sem, wrap_n]) <;> (repeat' with_reducible refine And.intro ?_ ?_) <;> (try (with_reducible refine hK _ ?_; clear hK K))))
      | ((first | (with_reducible refine aunder_i ?_ ?_ <;> intro hg) | with_reducible intro hg) <;> (first | (exfalso; simp at hg; done) | (have hg' := hg; (try simp only [hcs, beq_iff_eq, ge_iff_le, gt_iff_lt] at hg'); ((try simp (disch := omega) only [hg, go_sem, wrap_n]) <;> (repeat' with_reducible refine And.intro ?_ ?_) <;> (try (with_reducible refine hK _ ?_; clear hK K))))))
                                                              | omega
    all_goals first | omega | skip
    all_goals (refine aend_retc ?_ rfl ?_ ?_ ?_ ?_; (focus (first | exact .inl rfl | exact .inr rfl)); (iterate 3 (focus ((try simp (disch := omega) only [go_sem, wrap_n]) <;> (try omega) <;> fail))); (try simp (disch := omega) only [go_sem, wrap_n, I, B, S, inj, List.cons.injEq, and_true, true_and, and_self]))
  unfold encT
  rw [if_pos g]
  repeat' first
    | (with_reducible first | refine AWP.seq ?_ | refine thenA_n ?_ | refine thenA_r ?_ | refine thenA_e ?_ | refine blkA_n ?_ | refine blkA_r ?_ | refine blkA_e ?_ | refine blkA_x (by decide) ?_ | refine AWP.skip ?_ | refine AWP.ret ?_ | refine AWP.exit ?_ | refine AWP.block ?_)
    | (with_reducible refine AWP.cond rfl ?_ ?_ <;> intro hc <;> (try simp only [hcs, beq_iff_eq, ge_iff_le, gt_iff_lt] at hc))
    | ((first
      | (with_reducible first | refine AWP.region tabOk ?_ | refine AWP.quietC mixed tabOk (by decide +kernel) ?_ | refine AWP.draw mixed tabOk (by decide +kernel) ?_ | refine AWP.drawE mixed tabOk (by decide +kernel) ?_ | refine AWP.drawG mixed tabOk (by decide +kernel) ?_); intro K hK
      | ((first | refine acallH_sc ((wgood_c t hp hd).re (congrArg I g)) rfl rfl ?_ ?_ ?_ | refine acallQ_sc ((wgood_c t hp hd).re (congrArg I g)) rfl rfl ?_ ?_ ?_ | refine acallH_sc (put_nil_c t.zxid 8 (by decide)) rfl rfl ?_ ?_ ?_ | refine acallQ_sc (put_nil_c t.zxid 8 (by decide)) rfl rfl ?_ ?_ ?_); iterate 2 (focus ((try simp (disch := omega) only [go_sem, wrap_n]) <;> (try omega) <;> fail)))
      | ((first | refine acallH_anyr ((wgood_c t hp hd).re (congrArg I g)) rfl ?_ ?_ | refine acallH_anyr (put_nil_c t.zxid 8 (by decide)) rfl ?_ ?_); (focus ((try simp (disch := omega) only [go_sem, wrap_n]) <;> (try omega) <;> fail)))
      | ((first | refine acallH_scx ((wgood_c t hp hd).re (congrArg I g)) rfl ?_ ?_ | refine acallQ_scx ((wgood_c t hp hd).re (congrArg I g)) rfl ?_ ?_ | refine acallH_anyx ((wgood_c t hp hd).re (congrArg I g)) ?_ ?_); (focus ((try simp (disch := omega) only [go_sem, wrap_n]) <;> (try omega) <;> fail)))
      | ((first | refine acallH_scx (put_nil_c t.zxid 8 (by decide)) rfl ?_ ?_ | refine acallQ_scx (put_nil_c t.zxid 8 (by decide)) rfl ?_ ?_ | refine acallH_anyx (put_nil_c t.zxid 8 (by decide)) ?_ ?_); (focus ((try simp (disch := omega) only [go_sem, wrap_n]) <;> (try omega) <;> fail)))); ((try simp (disch := omega) only [go_sem, wrap_n]) <;> (repeat' with_reducible refine And.intro ?_ ?_) <;> (try (with_reducible refine hK _ ?_; clear hK K))))
    | ((first | (with_reducible refine aunder_i ?_ ?_ <;> intro hg) | with_reducible intro hg) <;> (first | (exfalso; simp at hg; done) | (have hg' := hg; (try simp only [hcs, beq_iff_eq, ge_iff_le, gt_iff_lt] at hg'); ((try simp (disch := omega) only [hg, go_sem, wrap_n]) <;> (repeat' with_reducible refine And.intro ?_ ?_) <;> (try (with_reducible refine hK _ ?_; clear hK K))))))
                                                            | omega
  obtain ⟨s1, s2⟩ := goodT_small g
  have l8 := beB_len t.zxid 8
  have hh : okS (headB t) := by unfold okS headB; simp only [List.length_append, bodyB_len, beB_len, List.length_cons, List.length_nil]; omega
  have tk24 : List.take (24 + t.path.length) (List.map u8row (b7 t ++ beB 2 (t.data.length : Int))) = List.map u8row (b7 t ++ beB 2 (t.data.length : Int)) := List.take_of_length_le (by rw [List.length_map, List.length_append, b7_len, beB_len]; omega)
  have hbr : List.map u8row (bodyB t) = List.map u8row (b7 t ++ beB 2 (t.data.length : Int)) ++ List.map u8row t.data := by unfold bodyB; rw [List.map_append]
  have h84 : (((84 : UInt8).toNat : Nat) : Int) = 84 := rfl
  have tk22 : List.take 22 (List.map u8row (b6 t) ++ [[DV.int IntKind.u8 ((byteAt 0 (t.path.length : Int)).toNat : Int)]]) = List.map u8row (b6 t) ++ [[DV.int IntKind.u8 ((byteAt 0 (t.path.length : Int)).toNat : Int)]] := List.take_of_length_le (by simp [b6_len])
  have tk (l : List UInt8) (n : Nat) (h : l.length = n) : List.take n (l.map u8row) = l.map u8row := List.take_of_length_le (by rw [List.length_map]; omega)
  refine AWP.meetB [1] [(5, .osl 1 1 0 13)] [.cells [I t.zxid, I t.op, I t.session, S t.path, S t.data, I t.version, I t.owner], .rows 1 ((b5 t).map u8row)] ?_ ?_
  · repeat' first
      | (with_reducible first | refine AWP.seq ?_ | refine thenA_n ?_ | refine thenA_r ?_ | refine thenA_e ?_ | refine blkA_n ?_ | refine blkA_r ?_ | refine blkA_e ?_ | refine blkA_x (by decide) ?_ | refine AWP.skip ?_ | refine AWP.ret ?_ | refine AWP.exit ?_ | refine AWP.block ?_)
      | (with_reducible refine AWP.cond rfl ?_ ?_ <;> intro hc <;> (try simp only [hcs, beq_iff_eq, ge_iff_le, gt_iff_lt] at hc))
      | ((first
        | (refine AWP.plan ((Plan.takes [0, 1, 2, 6] (.fork 3 (.fork 4 (.fork 5 (Plan.takes [7, 8, 9] .done) 7 (Plan.takes [5, 8, 9] .done)) 7 (Plan.takes [4, 5, 8, 9] .done)) 7 (Plan.takes [3, 4, 5, 8, 9] .done)))) mixed tabOk (by decide +kernel) ?_; intro K hK)
        | (with_reducible first | refine AWP.region tabOk ?_ | refine AWP.quietC mixed tabOk (by decide +kernel) ?_ | refine AWP.draw mixed tabOk (by decide +kernel) ?_ | refine AWP.drawE mixed tabOk (by decide +kernel) ?_ | refine AWP.drawG mixed tabOk (by decide +kernel) ?_); intro K hK
        | (refine acallH_own (put_own_at (beB 8 t.zxid ++ [byteAt 0 t.op]) t.session 4 9 13 4 (by decide) (by simp [beB_len]) (by simp [beB_len]) rfl rfl) ?_ ?_ ?_; (focus ((try simp (disch := omega) only [inj, List.cons.injEq, and_self, List.nodup_cons, List.not_mem_nil, List.mem_cons, not_false_eq_true, List.nodup_nil, go_sem, wrap_n, tk _ _ l8, List.map_append, List.map_cons, List.map_nil, u8_op, u8row]) <;> (try omega) <;> fail)); (focus ((try simp (disch := omega) only [inj, List.cons.injEq, and_self, List.nodup_cons, List.not_mem_nil, List.mem_cons, not_false_eq_true, List.nodup_nil, go_sem, wrap_n, tk _ _ l8, List.map_append, List.map_cons, List.map_nil, u8_op, u8row]) <;> (try omega) <;> (try decide) <;> fail)))); ((try simp (disch := omega) only [go_sem, wrap_n, tk _ _ l8, List.map_append, List.map_cons, List.map_nil, u8_op, u8row]) <;> (repeat' with_reducible refine And.intro ?_ ?_) <;> (try (with_reducible refine hK _ ?_; clear hK K))))
      | ((first | (with_reducible refine aunder_i ?_ ?_ <;> intro hg) | with_reducible intro hg) <;> (first | (exfalso; simp at hg; done) | (have hg' := hg; (try simp only [hcs, beq_iff_eq, ge_iff_le, gt_iff_lt] at hg'); ((try simp (disch := omega) only [hg, go_sem, wrap_n, tk _ _ l8, List.map_append, List.map_cons, List.map_nil, u8_op, u8row]) <;> (repeat' with_reducible refine And.intro ?_ ?_) <;> (try (with_reducible refine hK _ ?_; clear hK K))))))
                                                              | omega
    all_goals (refine SImp.frame [0, 4] rfl (by intro k hk; first | (simp at hk <;> (simp; omega)) | (simp only [List.mem_cons, List.not_mem_nil, or_false] at hk; simp only [List.length_cons, List.length_nil]; omega)) (by decide) (fun k hk => by first | omega | (rcases k with _ | _ | _ | _ | k <;> first | rfl | omega)) ?_ ?_ <;> simp (disch := omega) only [go_sem, wrap_n, Int.natCast_add, b5, List.map_append, List.map_cons, List.map_nil, u8row] <;> (try rfl))
  simp only [go_sem]
  refine AWP.seq (AWP.meetB [1] [(5, .osl 1 1 0 21)] [.cells [I t.zxid, I t.op, I t.session, S t.path, S t.data, I t.version, I t.owner], .rows 1 ((b6 t).map u8row)] ?_ ?_)
  · repeat' first
      | (with_reducible first | refine AWP.seq ?_ | refine thenA_n ?_ | refine thenA_r ?_ | refine thenA_e ?_ | refine blkA_n ?_ | refine blkA_r ?_ | refine blkA_e ?_ | refine blkA_x (by decide) ?_ | refine AWP.skip ?_ | refine AWP.ret ?_ | refine AWP.exit ?_ | refine AWP.block ?_)
      | (with_reducible refine AWP.cond rfl ?_ ?_ <;> intro hc <;> (try simp only [hcs, beq_iff_eq, ge_iff_le, gt_iff_lt] at hc))
      | ((first
        | (refine AWP.plan ((Plan.takes [0, 1, 2, 4] (.fork 3 (Plan.takes [5, 6, 7] .done) 5 (Plan.takes [3, 6, 7] .done)))) mixed tabOk (by decide +kernel) ?_; intro K hK)
        | (with_reducible first | refine AWP.region tabOk ?_ | refine AWP.quietC mixed tabOk (by decide +kernel) ?_ | refine AWP.draw mixed tabOk (by decide +kernel) ?_ | refine AWP.drawE mixed tabOk (by decide +kernel) ?_ | refine AWP.drawG mixed tabOk (by decide +kernel) ?_); intro K hK
        | (refine acallH_own (put_own_at (b5 t) t.version 4 13 17 4 (by decide) (by simp [b5_len]) (b5_len t) rfl rfl) ?_ ?_ ?_; (focus ((try simp (disch := omega) only [inj, List.cons.injEq, and_self, List.nodup_cons, List.not_mem_nil, List.mem_cons, not_false_eq_true, List.nodup_nil, go_sem, wrap_n]) <;> (try omega) <;> fail)); (focus ((try simp (disch := omega) only [inj, List.cons.injEq, and_self, List.nodup_cons, List.not_mem_nil, List.mem_cons, not_false_eq_true, List.nodup_nil, go_sem, wrap_n]) <;> (try omega) <;> (try decide) <;> fail)))
        | (refine acallH_own (put_own_at (b5 t ++ beB 4 t.version) t.owner 4 17 21 4 (by decide) (by simp [b5_len, beB_len]) (by simp [b5_len, beB_len]) rfl rfl) ?_ ?_ ?_; (focus ((try simp (disch := omega) only [inj, List.cons.injEq, and_self, List.nodup_cons, List.not_mem_nil, List.mem_cons, not_false_eq_true, List.nodup_nil, go_sem, wrap_n]) <;> (try omega) <;> fail)); (focus ((try simp (disch := omega) only [inj, List.cons.injEq, and_self, List.nodup_cons, List.not_mem_nil, List.mem_cons, not_false_eq_true, List.nodup_nil, go_sem, wrap_n]) <;> (try omega) <;> (try decide) <;> fail)))); ((try simp (disch := omega) only [go_sem, wrap_n]) <;> (repeat' with_reducible refine And.intro ?_ ?_) <;> (try (with_reducible refine hK _ ?_; clear hK K))))
      | ((first | (with_reducible refine aunder_i ?_ ?_ <;> intro hg) | with_reducible intro hg) <;> (first | (exfalso; simp at hg; done) | (have hg' := hg; (try simp only [hcs, beq_iff_eq, ge_iff_le, gt_iff_lt] at hg'); ((try simp (disch := omega) only [hg, go_sem, wrap_n]) <;> (repeat' with_reducible refine And.intro ?_ ?_) <;> (try (with_reducible refine hK _ ?_; clear hK K))))))
                                                              | omega
    all_goals (refine SImp.frame [0, 3] rfl (by intro k hk; first | (simp at hk <;> (simp; omega)) | (simp only [List.mem_cons, List.not_mem_nil, or_false] at hk; simp only [List.length_cons, List.length_nil]; omega)) (by decide) (fun k hk => by first | omega | (rcases k with _ | _ | _ | _ | k <;> first | rfl | omega)) ?_ ?_ <;> simp (disch := omega) only [go_sem, wrap_n, Int.natCast_add, b6] <;> (try rfl))
  simp only [go_sem]
  refine AWP.seq (AWP.meetB [1] [(5, .osl 1 1 0 (22 + t.path.length))] [.cells [I t.zxid, I t.op, I t.session, S t.path, S t.data, I t.version, I t.owner], .rows 1 ((b7 t).map u8row)] ?_ ?_)
  · repeat' first
      | (with_reducible first | refine AWP.seq ?_ | refine thenA_n ?_ | refine thenA_r ?_ | refine thenA_e ?_ | refine blkA_n ?_ | refine blkA_r ?_ | refine blkA_e ?_ | refine blkA_x (by decide) ?_ | refine AWP.skip ?_ | refine AWP.ret ?_ | refine AWP.exit ?_ | refine AWP.block ?_)
      | (with_reducible refine AWP.cond rfl ?_ ?_ <;> intro hc <;> (try simp only [hcs, beq_iff_eq, ge_iff_le, gt_iff_lt] at hc))
      | ((first
        | (refine AWP.plan ((Plan.takes [0, 1, 2, 3, 7] (.fork 4 (.fork 5 (.fork 6 (Plan.takes [8, 9, 10] .done) 8 (Plan.takes [6, 9, 10] .done)) 8 (Plan.takes [5, 6, 9, 10] .done)) 8 (Plan.takes [4, 5, 6, 9, 10] .done)))) mixed tabOk (by decide +kernel) ?_; intro K hK)
        | (with_reducible first | refine AWP.region tabOk ?_ | refine AWP.quietC mixed tabOk (by decide +kernel) ?_ | refine AWP.draw mixed tabOk (by decide +kernel) ?_ | refine AWP.drawE mixed tabOk (by decide +kernel) ?_ | refine AWP.drawG mixed tabOk (by decide +kernel) ?_); intro K hK); ((try simp (disch := omega) only [go_sem, wrap_n, tk _ _ (b6_len t), u8_op]) <;> (repeat' with_reducible refine And.intro ?_ ?_) <;> (try (with_reducible refine hK _ ?_; clear hK K))))
      | ((first | (with_reducible refine aunder_i ?_ ?_ <;> intro hg) | with_reducible intro hg) <;> (first | (exfalso; simp at hg; done) | (have hg' := hg; (try simp only [hcs, beq_iff_eq, ge_iff_le, gt_iff_lt] at hg'); ((try simp (disch := omega) only [hg, go_sem, wrap_n, tk _ _ (b6_len t), u8_op]) <;> (repeat' with_reducible refine And.intro ?_ ?_) <;> (try (with_reducible refine hK _ ?_; clear hK K))))))
                                                              | omega
    all_goals first | exact Nat.le_of_eq (b6_len t).symm | omega | skip
    all_goals (refine SImp.frame [0, 4] rfl (by intro k hk; first | (simp at hk <;> (simp; omega)) | (simp only [List.mem_cons, List.not_mem_nil, or_false] at hk; simp only [List.length_cons, List.length_nil]; omega)) (by decide) (fun k hk => by first | omega | (rcases k with _ | _ | _ | _ | k <;> first | rfl | omega)) ?_ ?_ <;> simp (disch := omega) only [go_sem, wrap_n, Int.natCast_add, b7, tk22, List.map_append, List.map_cons, List.map_nil, u8row] <;> (try rfl))
  simp only [go_sem]
  refine AWP.seq (AWP.meetB [1] [(5, .osl 1 1 0 (bodyB t).length)] [.cells [I t.zxid, I t.op, I t.session, S t.path, S t.data, I t.version, I t.owner], .rows 1 ((bodyB t).map u8row)] ?_ ?_)
  · repeat' first
      | (with_reducible first | refine AWP.seq ?_ | refine thenA_n ?_ | refine thenA_r ?_ | refine thenA_e ?_ | refine blkA_n ?_ | refine blkA_r ?_ | refine blkA_e ?_ | refine blkA_x (by decide) ?_ | refine AWP.skip ?_ | refine AWP.ret ?_ | refine AWP.exit ?_ | refine AWP.block ?_)
      | (with_reducible refine AWP.cond rfl ?_ ?_ <;> intro hc <;> (try simp only [hcs, beq_iff_eq, ge_iff_le, gt_iff_lt] at hc))
      | ((first
        | (refine AWP.plan ((Plan.takes [0, 1, 2, 3, 5] (.fork 4 (Plan.takes [6, 7, 8] .done) 6 (Plan.takes [4, 7, 8] .done)))) mixed tabOk (by decide +kernel) ?_; intro K hK)
        | (with_reducible first | refine AWP.region tabOk ?_ | refine AWP.quietC mixed tabOk (by decide +kernel) ?_ | refine AWP.draw mixed tabOk (by decide +kernel) ?_ | refine AWP.drawE mixed tabOk (by decide +kernel) ?_ | refine AWP.drawG mixed tabOk (by decide +kernel) ?_); intro K hK
        | (refine acallH_own (put_own_at (b7 t) t.data.length 2 (22 + t.path.length) (24 + t.path.length) 2 (by decide) (by rw [b7_len]; omega) (b7_len t) (by omega) rfl) ?_ ?_ ?_; (focus ((try simp (disch := omega) only [inj, List.cons.injEq, and_self, List.nodup_cons, List.not_mem_nil, List.mem_cons, not_false_eq_true, List.nodup_nil, go_sem, wrap_n, bodyB_len]) <;> (try omega) <;> fail)); (focus ((try simp (disch := omega) only [inj, List.cons.injEq, and_self, List.nodup_cons, List.not_mem_nil, List.mem_cons, not_false_eq_true, List.nodup_nil, go_sem, wrap_n, bodyB_len]) <;> (try omega) <;> (try decide) <;> fail)))); ((try simp (disch := omega) only [go_sem, wrap_n, bodyB_len]) <;> (repeat' with_reducible refine And.intro ?_ ?_) <;> (try (with_reducible refine hK _ ?_; clear hK K))))
      | ((first | (with_reducible refine aunder_i ?_ ?_ <;> intro hg) | with_reducible intro hg) <;> (first | (exfalso; simp at hg; done) | (have hg' := hg; (try simp only [hcs, beq_iff_eq, ge_iff_le, gt_iff_lt] at hg'); ((try simp (disch := omega) only [hg, go_sem, wrap_n, bodyB_len]) <;> (repeat' with_reducible refine And.intro ?_ ?_) <;> (try (with_reducible refine hK _ ?_; clear hK K))))))
                                                              | omega
    all_goals first | exact Nat.le_of_eq (by rw [b7_len, beB_len]; omega) | skip
    all_goals (refine SImp.frame [0, 3] rfl (by intro k hk; first | (simp at hk <;> (simp; omega)) | (simp only [List.mem_cons, List.not_mem_nil, or_false] at hk; simp only [List.length_cons, List.length_nil]; omega)) (by decide) (fun k hk => by first | omega | (rcases k with _ | _ | _ | _ | k <;> first | rfl | omega)) ?_ ?_ <;> simp (disch := omega) only [go_sem, wrap_n, Int.natCast_add, bodyB_len, hbr, tk24] <;> (try rfl))
  simp only [go_sem]
  have hB := bodyB_len t
  have tk2 : List.take 2 (List.map u8row (beB 2 ((bodyB t).length : Int))) = List.map u8row (beB 2 ((bodyB t).length : Int)) := List.take_of_length_le (by rw [List.length_map, beB_len]; decide)
  have hH : [DV.int IntKind.u8 84] :: (List.map u8row (beB 2 ((bodyB t).length : Int)) ++ List.map u8row (bodyB t)) = List.map u8row (headB t) := by unfold headB; rw [List.map_append, List.map_append]; rfl
  have tkH : List.take (3 + (bodyB t).length) (List.map u8row (headB t)) = List.map u8row (headB t) := List.take_of_length_le (by rw [List.length_map, headB, List.length_append, List.length_append, beB_len]; simp)
  have tk4 (v : Int) : List.take 4 (List.map u8row (beB 4 v)) = List.map u8row (beB 4 v) := List.take_of_length_le (by rw [List.length_map, beB_len]; decide)
  repeat' first
    | (with_reducible first | refine AWP.seq ?_ | refine thenA_n ?_ | refine thenA_r ?_ | refine thenA_e ?_ | refine blkA_n ?_ | refine blkA_r ?_ | refine blkA_e ?_ | refine blkA_x (by decide) ?_ | refine AWP.skip ?_ | refine AWP.ret ?_ | refine AWP.exit ?_ | refine AWP.block ?_)
    | (with_reducible refine AWP.cond rfl ?_ ?_ <;> intro hc <;> (try simp only [hcs, beq_iff_eq, ge_iff_le, gt_iff_lt] at hc))
    | ((first
      | (with_reducible first | refine AWP.region tabOk ?_ | refine AWP.quietC mixed tabOk (by decide +kernel) ?_ | refine AWP.draw mixed tabOk (by decide +kernel) ?_ | refine AWP.drawE mixed tabOk (by decide +kernel) ?_ | refine AWP.drawG mixed tabOk (by decide +kernel) ?_); intro K hK
      | ((first | refine acallH_sc (sum_c (headB t) hh) rfl rfl ?_ ?_ ?_ | refine acallQ_sc (sum_c (headB t) hh) rfl rfl ?_ ?_ ?_ | refine acallH_sc (put_nil_c (sumN (headB t)) 4 (by decide)) rfl rfl ?_ ?_ ?_ | refine acallQ_sc (put_nil_c (sumN (headB t)) 4 (by decide)) rfl rfl ?_ ?_ ?_); iterate 2 (focus ((try simp (disch := omega) only [go_sem, wrap_n, List.map_cons, List.map_nil, h84, tk2, hH, tkH, tk4]) <;> (try omega) <;> fail)))
      | ((first | refine acallH_anyr (sum_c (headB t) hh) rfl ?_ ?_ | refine acallH_anyr (put_nil_c (sumN (headB t)) 4 (by decide)) rfl ?_ ?_); (focus ((try simp (disch := omega) only [go_sem, wrap_n, List.map_cons, List.map_nil, h84, tk2, hH, tkH, tk4]) <;> (try omega) <;> fail)))
      | ((first | refine acallH_scx (sum_c (headB t) hh) rfl ?_ ?_ | refine acallQ_scx (sum_c (headB t) hh) rfl ?_ ?_ | refine acallH_anyx (sum_c (headB t) hh) ?_ ?_); (focus ((try simp (disch := omega) only [go_sem, wrap_n, List.map_cons, List.map_nil, h84, tk2, hH, tkH, tk4]) <;> (try omega) <;> fail)))
      | ((first | refine acallH_scx (put_nil_c (sumN (headB t)) 4 (by decide)) rfl ?_ ?_ | refine acallQ_scx (put_nil_c (sumN (headB t)) 4 (by decide)) rfl ?_ ?_ | refine acallH_anyx (put_nil_c (sumN (headB t)) 4 (by decide)) ?_ ?_); (focus ((try simp (disch := omega) only [go_sem, wrap_n, List.map_cons, List.map_nil, h84, tk2, hH, tkH, tk4]) <;> (try omega) <;> fail)))
      | (refine acallH_own (put_own_at [84] (bodyB t).length 2 1 3 2 (by decide) (by decide) rfl rfl rfl) ?_ ?_ ?_; (focus ((try simp (disch := omega) only [inj, List.cons.injEq, and_self, List.nodup_cons, List.not_mem_nil, List.mem_cons, not_false_eq_true, List.nodup_nil, go_sem, wrap_n, List.map_cons, List.map_nil, h84, tk2, hH, tkH, tk4]) <;> (try omega) <;> fail)); (focus ((try simp (disch := omega) only [inj, List.cons.injEq, and_self, List.nodup_cons, List.not_mem_nil, List.mem_cons, not_false_eq_true, List.nodup_nil, go_sem, wrap_n, List.map_cons, List.map_nil, h84, tk2, hH, tkH, tk4]) <;> (try omega) <;> (try decide) <;> fail)))); ((try simp (disch := omega) only [go_sem, wrap_n, List.map_cons, List.map_nil, h84, tk2, hH, tkH, tk4]) <;> (repeat' with_reducible refine And.intro ?_ ?_) <;> (try (with_reducible refine hK _ ?_; clear hK K))))
    | ((first | (with_reducible refine aunder_i ?_ ?_ <;> intro hg) | with_reducible intro hg) <;> (first | (exfalso; simp at hg; done) | (have hg' := hg; (try simp only [hcs, beq_iff_eq, ge_iff_le, gt_iff_lt] at hg'); ((try simp (disch := omega) only [hg, go_sem, wrap_n, List.map_cons, List.map_nil, h84, tk2, hH, tkH, tk4]) <;> (repeat' with_reducible refine And.intro ?_ ?_) <;> (try (with_reducible refine hK _ ?_; clear hK K))))))
                                                            | omega
  · exact Nat.le_of_eq (beB_len _ _).symm
  · exact Nat.le_of_eq (by rw [headB_len]; omega)
  · exact Nat.le_of_eq (beB_len _ _).symm
  · rw [headB_len, beB_len]; omega
  · (refine aend_retc ?_ rfl ?_ ?_ ?_ ?_; (focus (first | exact .inl rfl | exact .inr rfl)); (iterate 3 (focus ((try simp (disch := omega) only [go_sem, wrap_n, encB]) <;> (try omega) <;> fail))); (try simp (disch := omega) only [go_sem, wrap_n, encB, I, B, S, inj, List.cons.injEq, and_true, true_and, and_self]))
theorem bytesOf_c (v : Int) (n : Nat) (hn : n ≤ 8) : acall Tryd.prog [] 79 [I v, I n] (ret (S (beB n v))) := by
  refine acall_of tabOk Tryd.func79 rfl (by kernel_rfl) (by simp [Tryd.ntmps79]) ?_; simp only [Tryd.ntmps79, Tryd.results79, List.toList_toArray, apar, List.length_nil, List.length_cons, Nat.reduceAdd]
  repeat' first
    | (with_reducible first | refine AWP.seq ?_ | refine thenA_n ?_ | refine thenA_r ?_ | refine thenA_e ?_ | refine blkA_n ?_ | refine blkA_r ?_ | refine blkA_e ?_ | refine blkA_x (by decide) ?_ | refine AWP.skip ?_ | refine AWP.ret ?_ | refine AWP.exit ?_ | refine AWP.block ?_)
    | (with_reducible refine AWP.cond rfl ?_ ?_ <;> intro hc <;> (try simp only [hcs, beq_iff_eq, ge_iff_le, gt_iff_lt] at hc))
    | ((first
      | (with_reducible first | refine AWP.region tabOk ?_ | refine AWP.quietC mixed tabOk (by decide +kernel) ?_ | refine AWP.draw mixed tabOk (by decide +kernel) ?_ | refine AWP.drawE mixed tabOk (by decide +kernel) ?_ | refine AWP.drawG mixed tabOk (by decide +kernel) ?_); intro K hK); ((try simp (disch := omega) only [go_sem, wrap_n]) <;> (repeat' with_reducible refine And.intro ?_ ?_) <;> (try (with_reducible refine hK _ ?_; clear hK K))))
    | ((first | (with_reducible refine aunder_i ?_ ?_ <;> intro hg) | with_reducible intro hg) <;> (first | (exfalso; simp at hg; done) | (have hg' := hg; (try simp only [hcs, beq_iff_eq, ge_iff_le, gt_iff_lt] at hg'); ((try simp (disch := omega) only [hg, go_sem, wrap_n]) <;> (repeat' with_reducible refine And.intro ?_ ?_) <;> (try (with_reducible refine hK _ ?_; clear hK K))))))
                                                            | omega
  refine AWP.loopB (ι := Nat) (fun j => j ≤ n) (fun j => n - j) [] (fun j => [(0, I (v / 2 ^ (8 * j))), (1, I ((n - j : Nat) : Int)), (5, S (beB j v))]) (fun j => []) 0 ?_ ?_ ?_
  · omega
  · simp only [go_sem, Nat.mul_zero, Nat.sub_zero, beB, Int.pow_zero, Int.ediv_one]; (refine SImp.same ?_; simp (disch := omega) only [go_sem, wrap_n, Int.natCast_add])
  intro j hj
  have hu : [DV.int IntKind.u8 ((byteAt j v).toNat : Int)] = u8row (byteAt j v) := rfl
  have ok1 : okU8s [[DV.int IntKind.u8 ((byteAt j v).toNat : Int)]] := okU8s_rows [byteAt j v]
  have hdiv : v / 2 ^ (8 * j) / 256 = v / 2 ^ (8 * (j + 1)) := by
    rw [Int.ediv_ediv_of_nonneg (Int.pow_nonneg (by decide)), show (8 * (j + 1)) = 8 * j + 8 from by omega, Int.pow_add]; rfl
  simp only [go_sem]
  repeat' first
    | (with_reducible first | refine AWP.seq ?_ | refine thenA_n ?_ | refine thenA_r ?_ | refine thenA_e ?_ | refine blkA_n ?_ | refine blkA_r ?_ | refine blkA_e ?_ | refine blkA_x (by decide) ?_ | refine AWP.skip ?_ | refine AWP.ret ?_ | refine AWP.exit ?_ | refine AWP.block ?_)
    | (with_reducible refine AWP.cond rfl ?_ ?_ <;> intro hc <;> (try simp only [hcs, beq_iff_eq, ge_iff_le, gt_iff_lt] at hc))
    | ((first
      | (with_reducible first | refine AWP.region tabOk ?_ | refine AWP.quietC mixed tabOk (by decide +kernel) ?_ | refine AWP.draw mixed tabOk (by decide +kernel) ?_ | refine AWP.drawE mixed tabOk (by decide +kernel) ?_ | refine AWP.drawG mixed tabOk (by decide +kernel) ?_); intro K hK); ((try simp (disch := omega) only [go_sem, wrap_n, u8_byte, ok1, Int.toNat_natCast, UInt8.ofNat_toNat, hdiv]) <;> (repeat' with_reducible refine And.intro ?_ ?_) <;> (try (with_reducible refine hK _ ?_; clear hK K))))
    | ((first | (with_reducible refine aunder_i ?_ ?_ <;> intro hg) | with_reducible intro hg) <;> (first | (exfalso; simp at hg; done) | (have hg' := hg; (try simp only [hcs, beq_iff_eq, ge_iff_le, gt_iff_lt] at hg'); ((try simp (disch := omega) only [hg, go_sem, wrap_n, u8_byte, ok1, Int.toNat_natCast, UInt8.ofNat_toNat, hdiv]) <;> (repeat' with_reducible refine And.intro ?_ ?_) <;> (try (with_reducible refine hK _ ?_; clear hK K))))))
                                                            | omega
  · rw [beB_len]; omega
  · refine ⟨j + 1, by omega, by omega, ?_⟩
    have hs : ((n - j : Nat) : Int) - 1 = ((n - (j + 1) : Nat) : Int) := by omega
    (refine SImp.frame [] rfl (by intro k hk; first | (simp at hk <;> (simp; omega)) | (simp only [List.mem_cons, List.not_mem_nil, or_false] at hk; simp only [List.length_cons, List.length_nil]; omega)) (by decide) (fun k hk => by first | omega | (rcases k with _ | _ | _ | _ | k <;> first | rfl | omega)) ?_ ?_ <;> simp (disch := omega) only [go_sem, wrap_n, Int.natCast_add, u8_byte, hdiv, beB, hs] <;> (try rfl))
  · rw [show j = n from by omega]
    (refine aend_retc ?_ rfl ?_ ?_ ?_ ?_; (focus (first | exact .inl rfl | exact .inr rfl)); (iterate 3 (focus ((try simp (disch := omega) only [go_sem, wrap_n]) <;> (try omega) <;> fail))); (try simp (disch := omega) only [go_sem, wrap_n, I, B, S, inj, List.cons.injEq, and_true, true_and, and_self]))
theorem bytesOf_at (v : Int) (n : Nat) (hn : n ≤ 8) (ni : Int) (hi : ni = n) : acall Tryd.prog [] 79 [I v, I ni] (ret (S (beB n v))) := by
  subst hi; exact bytesOf_c v n hn
set_option maxHeartbeats 4000000 in
theorem ref_encode_c (t : ATxn) (hz : okI t.zxid) (hp : t.path.length ≤ 1048576) (hd : okS t.data) : acall Tryd.prog [] 66 [t.av] (ret (.tup [S (encT t).1, I (encT t).2])) := by
  refine acall_of tabOk Tryd.func66 rfl (by kernel_rfl) (by simp [Tryd.ntmps66]) ?_; simp only [Tryd.ntmps66, Tryd.results66, List.toList_toArray, apar, List.length_nil, List.length_cons, Nat.reduceAdd]
  by_cases g : goodT t = 0
  case neg =>
    unfold encT
    rw [if_neg g]
    repeat' first
      | (with_reducible first | refine AWP.seq ?_ | refine thenA_n ?_ | refine thenA_r ?_ | refine thenA_e ?_ | refine blkA_n ?_ | refine blkA_r ?_ | refine blkA_e ?_ | refine blkA_x (by decide) ?_ | refine AWP.skip ?_ | refine AWP.ret ?_ | refine AWP.exit ?_ | refine AWP.block ?_)
      | (with_reducible refine AWP.cond rfl ?_ ?_ <;> intro hc <;> (try simp only [hcs, beq_iff_eq, ge_iff_le, gt_iff_lt] at hc))
      | ((first
        | (with_reducible first | refine AWP.region tabOk ?_ | refine AWP.quietC mixed tabOk (by decide +kernel) ?_ | refine AWP.draw mixed tabOk (by decide +kernel) ?_ | refine AWP.drawE mixed tabOk (by decide +kernel) ?_ | refine AWP.drawG mixed tabOk (by decide +kernel) ?_); intro K hK
        | ((first | refine acallH_sc (ref_wgood_c t hz hp hd) rfl rfl ?_ ?_ ?_ | refine acallQ_sc (ref_wgood_c t hz hp hd) rfl rfl ?_ ?_ ?_); iterate 2 (focus ((try simp (disch := omega) only [go_sem, wrap_n]) <;> (try omega) <;> fail)))
        | ((first | refine acallH_anyr (ref_wgood_c t hz hp hd) rfl ?_ ?_); (focus ((try simp (disch := omega) only [go_sem, wrap_n]) <;> (try omega) <;> fail)))
        | ((first | refine acallH_scx (ref_wgood_c t hz hp hd) rfl ?_ ?_ | refine acallQ_scx (ref_wgood_c t hz hp hd) rfl ?_ ?_ | refine acallH_anyx (ref_wgood_c t hz hp hd) ?_ ?_); (focus ((try simp (disch := omega) only [go_sem, wrap_n]) <;> (try omega) <;> fail)))); ((try simp (disch := omega) only [go_sem, wrap_n]) <;> (repeat' with_reducible refine And.intro ?_ ?_) <;> (try (with_reducible refine hK _ ?_; clear hK K))))
      | ((first | (with_reducible refine aunder_i ?_ ?_ <;> intro hg) | with_reducible intro hg) <;> (first | (exfalso; simp at hg; done) | (have hg' := hg; (try simp only [hcs, beq_iff_eq, ge_iff_le, gt_iff_lt] at hg'); ((try simp (disch := omega) only [hg, go_sem, wrap_n]) <;> (repeat' with_reducible refine And.intro ?_ ?_) <;> (try (with_reducible refine hK _ ?_; clear hK K))))))
                                                              | omega
    all_goals first | omega | skip
    all_goals (refine aend_retc ?_ rfl ?_ ?_ ?_ ?_; (focus (first | exact .inl rfl | exact .inr rfl)); (iterate 3 (focus ((try simp (disch := omega) only [go_sem, wrap_n]) <;> (try omega) <;> fail))); (try simp (disch := omega) only [go_sem, wrap_n, I, B, S, inj, List.cons.injEq, and_true, true_and, and_self]))
  unfold encT
  rw [if_pos g]
  obtain ⟨s1, s2⟩ := goodT_small g
  have hh : okS (headB t) := by unfold okS; rw [headB_len]; omega
  have hbody : beB 8 t.zxid ++ beB 1 t.op ++ beB 4 t.session ++ beB 4 t.version ++ beB 4 t.owner ++ beB 1 (t.path.length : Int) ++ t.path ++ beB 2 (t.data.length : Int) ++ t.data = bodyB t := rfl
  have hhead : [84] ++ beB 2 ((bodyB t).length : Int) ++ bodyB t = headB t := rfl
  have hhead2 : 84 :: (beB 2 ((bodyB t).length : Int) ++ bodyB t) = headB t := rfl
  repeat' first
    | (with_reducible first | refine AWP.seq ?_ | refine thenA_n ?_ | refine thenA_r ?_ | refine thenA_e ?_ | refine blkA_n ?_ | refine blkA_r ?_ | refine blkA_e ?_ | refine blkA_x (by decide) ?_ | refine AWP.skip ?_ | refine AWP.ret ?_ | refine AWP.exit ?_ | refine AWP.block ?_)
    | (with_reducible refine AWP.cond rfl ?_ ?_ <;> intro hc <;> (try simp only [hcs, beq_iff_eq, ge_iff_le, gt_iff_lt] at hc))
    | ((first
      | (with_reducible first | refine AWP.region tabOk ?_ | refine AWP.quietC mixed tabOk (by decide +kernel) ?_ | refine AWP.draw mixed tabOk (by decide +kernel) ?_ | refine AWP.drawE mixed tabOk (by decide +kernel) ?_ | refine AWP.drawG mixed tabOk (by decide +kernel) ?_); intro K hK
      | ((first | refine acallH_sc ((ref_wgood_c t hz hp hd).re (congrArg I g)) rfl rfl ?_ ?_ ?_ | refine acallQ_sc ((ref_wgood_c t hz hp hd).re (congrArg I g)) rfl rfl ?_ ?_ ?_ | refine acallH_sc (bytesOf_at t.zxid 8 (by decide) 8 rfl) rfl rfl ?_ ?_ ?_ | refine acallQ_sc (bytesOf_at t.zxid 8 (by decide) 8 rfl) rfl rfl ?_ ?_ ?_ | refine acallH_sc (bytesOf_at t.op 1 (by decide) 1 rfl) rfl rfl ?_ ?_ ?_ | refine acallQ_sc (bytesOf_at t.op 1 (by decide) 1 rfl) rfl rfl ?_ ?_ ?_ | refine acallH_sc (bytesOf_at t.session 4 (by decide) 4 rfl) rfl rfl ?_ ?_ ?_ | refine acallQ_sc (bytesOf_at t.session 4 (by decide) 4 rfl) rfl rfl ?_ ?_ ?_ | refine acallH_sc (bytesOf_at t.version 4 (by decide) 4 rfl) rfl rfl ?_ ?_ ?_ | refine acallQ_sc (bytesOf_at t.version 4 (by decide) 4 rfl) rfl rfl ?_ ?_ ?_ | refine acallH_sc (bytesOf_at t.owner 4 (by decide) 4 rfl) rfl rfl ?_ ?_ ?_ | refine acallQ_sc (bytesOf_at t.owner 4 (by decide) 4 rfl) rfl rfl ?_ ?_ ?_ | refine acallH_sc (bytesOf_at t.path.length 1 (by decide) 1 rfl) rfl rfl ?_ ?_ ?_ | refine acallQ_sc (bytesOf_at t.path.length 1 (by decide) 1 rfl) rfl rfl ?_ ?_ ?_ | refine acallH_sc (bytesOf_at t.data.length 2 (by decide) 2 rfl) rfl rfl ?_ ?_ ?_ | refine acallQ_sc (bytesOf_at t.data.length 2 (by decide) 2 rfl) rfl rfl ?_ ?_ ?_ | refine acallH_sc (bytesOf_at (bodyB t).length 2 (by decide) 2 rfl) rfl rfl ?_ ?_ ?_ | refine acallQ_sc (bytesOf_at (bodyB t).length 2 (by decide) 2 rfl) rfl rfl ?_ ?_ ?_ | refine acallH_sc (ref_sum_c (headB t) hh) rfl rfl ?_ ?_ ?_ | refine acallQ_sc (ref_sum_c (headB t) hh) rfl rfl ?_ ?_ ?_ | refine acallH_sc (bytesOf_at (sumN (headB t)) 4 (by decide) 4 rfl) rfl rfl ?_ ?_ ?_ | refine acallQ_sc (bytesOf_at (sumN (headB t)) 4 (by decide) 4 rfl) rfl rfl ?_ ?_ ?_); iterate 2 (focus ((try simp (disch := omega) only [go_sem, wrap_n, hbody, hhead, hhead2]) <;> (try omega) <;> fail)))
      | ((first | refine acallH_anyr ((ref_wgood_c t hz hp hd).re (congrArg I g)) rfl ?_ ?_ | refine acallH_anyr (bytesOf_at t.zxid 8 (by decide) 8 rfl) rfl ?_ ?_ | refine acallH_anyr (bytesOf_at t.op 1 (by decide) 1 rfl) rfl ?_ ?_ | refine acallH_anyr (bytesOf_at t.session 4 (by decide) 4 rfl) rfl ?_ ?_ | refine acallH_anyr (bytesOf_at t.version 4 (by decide) 4 rfl) rfl ?_ ?_ | refine acallH_anyr (bytesOf_at t.owner 4 (by decide) 4 rfl) rfl ?_ ?_ | refine acallH_anyr (bytesOf_at t.path.length 1 (by decide) 1 rfl) rfl ?_ ?_ | refine acallH_anyr (bytesOf_at t.data.length 2 (by decide) 2 rfl) rfl ?_ ?_ | refine acallH_anyr (bytesOf_at (bodyB t).length 2 (by decide) 2 rfl) rfl ?_ ?_ | refine acallH_anyr (ref_sum_c (headB t) hh) rfl ?_ ?_ | refine acallH_anyr (bytesOf_at (sumN (headB t)) 4 (by decide) 4 rfl) rfl ?_ ?_); (focus ((try simp (disch := omega) only [go_sem, wrap_n, hbody, hhead, hhead2]) <;> (try omega) <;> fail)))
      | ((first | refine acallH_scx ((ref_wgood_c t hz hp hd).re (congrArg I g)) rfl ?_ ?_ | refine acallQ_scx ((ref_wgood_c t hz hp hd).re (congrArg I g)) rfl ?_ ?_ | refine acallH_anyx ((ref_wgood_c t hz hp hd).re (congrArg I g)) ?_ ?_); (focus ((try simp (disch := omega) only [go_sem, wrap_n, hbody, hhead, hhead2]) <;> (try omega) <;> fail)))
      | ((first | refine acallH_scx (bytesOf_at t.zxid 8 (by decide) 8 rfl) rfl ?_ ?_ | refine acallQ_scx (bytesOf_at t.zxid 8 (by decide) 8 rfl) rfl ?_ ?_ | refine acallH_anyx (bytesOf_at t.zxid 8 (by decide) 8 rfl) ?_ ?_); (focus ((try simp (disch := omega) only [go_sem, wrap_n, hbody, hhead, hhead2]) <;> (try omega) <;> fail)))
      | ((first | refine acallH_scx (bytesOf_at t.op 1 (by decide) 1 rfl) rfl ?_ ?_ | refine acallQ_scx (bytesOf_at t.op 1 (by decide) 1 rfl) rfl ?_ ?_ | refine acallH_anyx (bytesOf_at t.op 1 (by decide) 1 rfl) ?_ ?_); (focus ((try simp (disch := omega) only [go_sem, wrap_n, hbody, hhead, hhead2]) <;> (try omega) <;> fail)))
      | ((first | refine acallH_scx (bytesOf_at t.session 4 (by decide) 4 rfl) rfl ?_ ?_ | refine acallQ_scx (bytesOf_at t.session 4 (by decide) 4 rfl) rfl ?_ ?_ | refine acallH_anyx (bytesOf_at t.session 4 (by decide) 4 rfl) ?_ ?_); (focus ((try simp (disch := omega) only [go_sem, wrap_n, hbody, hhead, hhead2]) <;> (try omega) <;> fail)))
      | ((first | refine acallH_scx (bytesOf_at t.version 4 (by decide) 4 rfl) rfl ?_ ?_ | refine acallQ_scx (bytesOf_at t.version 4 (by decide) 4 rfl) rfl ?_ ?_ | refine acallH_anyx (bytesOf_at t.version 4 (by decide) 4 rfl) ?_ ?_); (focus ((try simp (disch := omega) only [go_sem, wrap_n, hbody, hhead, hhead2]) <;> (try omega) <;> fail)))
      | ((first | refine acallH_scx (bytesOf_at t.owner 4 (by decide) 4 rfl) rfl ?_ ?_ | refine acallQ_scx (bytesOf_at t.owner 4 (by decide) 4 rfl) rfl ?_ ?_ | refine acallH_anyx (bytesOf_at t.owner 4 (by decide) 4 rfl) ?_ ?_); (focus ((try simp (disch := omega) only [go_sem, wrap_n, hbody, hhead, hhead2]) <;> (try omega) <;> fail)))
      | ((first | refine acallH_scx (bytesOf_at t.path.length 1 (by decide) 1 rfl) rfl ?_ ?_ | refine acallQ_scx (bytesOf_at t.path.length 1 (by decide) 1 rfl) rfl ?_ ?_ | refine acallH_anyx (bytesOf_at t.path.length 1 (by decide) 1 rfl) ?_ ?_); (focus ((try simp (disch := omega) only [go_sem, wrap_n, hbody, hhead, hhead2]) <;> (try omega) <;> fail)))
      | ((first | refine acallH_scx (bytesOf_at t.data.length 2 (by decide) 2 rfl) rfl ?_ ?_ | refine acallQ_scx (bytesOf_at t.data.length 2 (by decide) 2 rfl) rfl ?_ ?_ | refine acallH_anyx (bytesOf_at t.data.length 2 (by decide) 2 rfl) ?_ ?_); (focus ((try simp (disch := omega) only [go_sem, wrap_n, hbody, hhead, hhead2]) <;> (try omega) <;> fail)))
      | ((first | refine acallH_scx (bytesOf_at (bodyB t).length 2 (by decide) 2 rfl) rfl ?_ ?_ | refine acallQ_scx (bytesOf_at (bodyB t).length 2 (by decide) 2 rfl) rfl ?_ ?_ | refine acallH_anyx (bytesOf_at (bodyB t).length 2 (by decide) 2 rfl) ?_ ?_); (focus ((try simp (disch := omega) only [go_sem, wrap_n, hbody, hhead, hhead2]) <;> (try omega) <;> fail)))
      | ((first | refine acallH_scx (ref_sum_c (headB t) hh) rfl ?_ ?_ | refine acallQ_scx (ref_sum_c (headB t) hh) rfl ?_ ?_ | refine acallH_anyx (ref_sum_c (headB t) hh) ?_ ?_); (focus ((try simp (disch := omega) only [go_sem, wrap_n, hbody, hhead, hhead2]) <;> (try omega) <;> fail)))
      | ((first | refine acallH_scx (bytesOf_at (sumN (headB t)) 4 (by decide) 4 rfl) rfl ?_ ?_ | refine acallQ_scx (bytesOf_at (sumN (headB t)) 4 (by decide) 4 rfl) rfl ?_ ?_ | refine acallH_anyx (bytesOf_at (sumN (headB t)) 4 (by decide) 4 rfl) ?_ ?_); (focus ((try simp (disch := omega) only [go_sem, wrap_n, hbody, hhead, hhead2]) <;> (try omega) <;> fail)))); ((try simp (disch := omega) only [go_sem, wrap_n, hbody, hhead, hhead2]) <;> (repeat' with_reducible refine And.intro ?_ ?_) <;> (try (with_reducible refine hK _ ?_; clear hK K))))
    | ((first | (with_reducible refine aunder_i ?_ ?_ <;> intro hg) | with_reducible intro hg) <;> (first | (exfalso; simp at hg; done) | (have hg' := hg; (try simp only [hcs, beq_iff_eq, ge_iff_le, gt_iff_lt] at hg'); ((try simp (disch := omega) only [hg, go_sem, wrap_n, hbody, hhead, hhead2]) <;> (repeat' with_reducible refine And.intro ?_ ?_) <;> (try (with_reducible refine hK _ ?_; clear hK K))))))
                                                            | omega
  all_goals first | (with_reducible refine Nat.le_trans (m := 1000) ?_ (by decide); simp only [beB_len, bodyB_len, headB_len]; omega) | skip
  (refine aend_retc ?_ rfl ?_ ?_ ?_ ?_; (focus (first | exact .inl rfl | exact .inr rfl)); (iterate 3 (focus ((try simp (disch := omega) only [go_sem, wrap_n, encB]) <;> (try omega) <;> fail))); (try simp (disch := omega) only [go_sem, wrap_n, encB, I, B, S, inj, List.cons.injEq, and_true, true_and, and_self]))
end Go.Proofs.YtmpfhalheaeibaaDoor
