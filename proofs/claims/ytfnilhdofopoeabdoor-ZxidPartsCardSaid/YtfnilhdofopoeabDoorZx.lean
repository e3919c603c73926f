/- Contracts of the functions of package zxid and of their references: each returns exactly what plain Lean functions on integers say. No condition. -/
-- @Wshort
import Derived.Test.YtfnilhdofopoeabDoorZz
import Derived.Test.YtfnilhdofopoeabDoorAvRet
import Derived.Laws.BitsAllLaws
import Derived.Laws.BitsLemmas
import Derived.IntWalk
namespace Go.Proofs.YtfnilhdofopoeabDoor
set_option linter.unusedVariables false
set_option linter.unusedSimpArgs false
open Go Go.RowKit
set_option maxRecDepth 100000
set_option linter.unusedSimpArgs false

def badZ (e c : Int) : Prop := e < 0 ∨ 2147483647 < e ∨ c < 0 ∨ 2147483647 < c
instance (e c : Int) : Decidable (badZ e c) := by unfold badZ; infer_instance
def mkZ (e c : Int) : Int × Int := if badZ e c then (0, 3) else (e * 2147483648 + c, 0)
def two (p : Int × Int) : AV := .tup [I p.1, I p.2]

theorem ofInt_i64 (a : Nat) (ha : a < 9223372036854775808) : (BitVec.ofInt 64 (a : Int)).toNat = a := by
  rw [BitVec.ofInt_natCast, BitVec.toNat_ofNat]; exact Nat.mod_eq_of_lt (by omega)
theorem or_shl (e c : Nat) (he : e ≤ 2147483647) (hc : c ≤ 2147483647) : bits .or .i64 ((e : Int) * 2147483648) (c : Int) = (e : Int) * 2147483648 + c := by
  have e1 : ((e : Int) * 2147483648) = ((e * 2147483648 : Nat) : Int) := by omega
  have hx : e * 2147483648 ||| c = e * 2147483648 + c := by
    have h := Nat.shiftLeft_add_eq_or_of_lt (i := 31) (b := c) (by omega : c < 2 ^ 31) e
    rw [Nat.shiftLeft_eq] at h
    exact h.symm
  rw [e1]
  show IntKind.i64.wrap ((BitVec.ofInt 64 ((e * 2147483648 : Nat) : Int) ||| BitVec.ofInt 64 (c : Int)).toNat : Int) = _
  rw [BitVec.toNat_or, ofInt_i64 _ (by omega), ofInt_i64 c (by omega), hx, IntKind.wrap_i64]
  omega


def goodZ (z : Int) : Prop := 0 ≤ z ∧ z < 4611686018427387904
instance (z : Int) : Decidable (goodZ z) := by unfold goodZ; infer_instance
def epZ (z : Int) : Int := if goodZ z then z / 2147483648 else 0
def coZ (z : Int) : Int := if goodZ z then z % 2147483648 else 0

theorem zgood_c (z : Int) : acall Tryd.prog [] 6 [I z] (ret (B (decide (goodZ z)))) := by
  refine zI Tryd.func6 rfl (by kernel_rfl) (by simp [Tryd.ntmps6]) ?_; simp only [Tryd.ntmps6, Tryd.results6, go_sem]
  repeat' first
    | with_reducible refine AWP.seq ?_
    | with_reducible refine thenA_n ?_
    | with_reducible refine thenA_r ?_
    | with_reducible refine thenA_e ?_
    | with_reducible refine blkA_n ?_
    | with_reducible refine blkA_r ?_
    | with_reducible refine blkA_e ?_
    | with_reducible refine blkA_x (by decide) ?_
    | with_reducible refine AWP.skip ?_
    | with_reducible refine AWP.ret ?_
    | with_reducible refine AWP.exit ?_
    | with_reducible refine AWP.block ?_
    | (with_reducible refine AWP.cond rfl ?_ ?_ <;> intro _)
    | (with_reducible refine AWP.region tabOk ?_; intro K hK; simp only [go_sem, true_and]; (repeat' with_reducible apply And.intro) <;> (try (with_reducible refine hK _ ?_; clear hK K)))
    | (with_reducible refine AWP.quiet mixed tabOk (by kernel_rfl) ?_; intro K hK; simp only [go_sem, true_and]; (repeat' with_reducible apply And.intro) <;> (try (with_reducible refine hK _ ?_; clear hK K)))
    | (intro hg; first | (exfalso; simp at hg; done) | ((try simp only [hg, go_sem, true_and]) <;> (repeat' with_reducible refine And.intro ?_ ?_) <;> (try (with_reducible refine hK _ ?_; clear hK K))))
    | omega
  all_goals try (refine aend_ret ?_ rfl ?_ ?_ ?_ ?_; (focus (first | exact .inl rfl | exact .inr rfl)); (focus (simp only [go_sem, two]; first | done | omega)); (focus (simp only [go_sem, two]; done)); (focus (simp only [go_sem, two]; done)); simp only [go_sem, two, I, B, S, AV.d.injEq, DV.int.injEq, DV.bool.injEq, DV.str.injEq, DV.sl.injEq, AV.tup.injEq, AV.agg.injEq, List.cons.injEq, and_true, true_and, and_self])
  unfold goodZ; exact (Bool.decide_and _ _).symm
theorem ref_zgood_c (z : Int) (hz : okI z) : acall Tryd.prog [] 7 [I z] (ret (B (decide (goodZ z)))) := by
  refine zI Tryd.func7 rfl (by kernel_rfl) (by simp [Tryd.ntmps7]) ?_; simp only [Tryd.ntmps7, Tryd.results7, go_sem]
  repeat' first
    | with_reducible refine AWP.seq ?_
    | with_reducible refine thenA_n ?_
    | with_reducible refine thenA_r ?_
    | with_reducible refine thenA_e ?_
    | with_reducible refine blkA_n ?_
    | with_reducible refine blkA_r ?_
    | with_reducible refine blkA_e ?_
    | with_reducible refine blkA_x (by decide) ?_
    | with_reducible refine AWP.skip ?_
    | with_reducible refine AWP.ret ?_
    | with_reducible refine AWP.exit ?_
    | with_reducible refine AWP.block ?_
    | (with_reducible refine AWP.cond rfl ?_ ?_ <;> intro _)
    | (with_reducible refine AWP.region tabOk ?_; intro K hK; simp only [go_sem, true_and]; (repeat' with_reducible apply And.intro) <;> (try (with_reducible refine hK _ ?_; clear hK K)))
    | (with_reducible refine AWP.quiet mixed tabOk (by kernel_rfl) ?_; intro K hK; simp only [go_sem, true_and]; (repeat' with_reducible apply And.intro) <;> (try (with_reducible refine hK _ ?_; clear hK K)))
    | (intro hg; first | (exfalso; simp at hg; done) | ((try simp only [hg, go_sem, true_and]) <;> (repeat' with_reducible refine And.intro ?_ ?_) <;> (try (with_reducible refine hK _ ?_; clear hK K))))
    | omega
  all_goals try (refine aend_ret ?_ rfl ?_ ?_ ?_ ?_; (focus (first | exact .inl rfl | exact .inr rfl)); (focus (simp only [go_sem, true_and]; first | done | omega)); (focus (simp only [go_sem, true_and]; done)); (focus (simp only [go_sem, true_and]; done)); simp only [go_sem, true_and, I, B, S, AV.d.injEq, DV.int.injEq, DV.bool.injEq, DV.str.injEq, DV.sl.injEq, AV.tup.injEq, AV.agg.injEq, List.cons.injEq, and_true, true_and, and_self])
  have e : ∀ h : 0 ≤ z, z.tdiv 2147483648 = z / 2147483648 := fun h => Int.tdiv_eq_ediv_of_nonneg h
  rw [Bool.eq_iff_iff]
  simp only [Bool.and_eq_true, decide_eq_true_eq]
  unfold goodZ
  constructor
  · intro ⟨h, h2⟩
    have e := e h
    rw [wrap_in _ ⟨by omega, by omega⟩] at h2
    omega
  · intro ⟨h, h2⟩
    have e := e h
    refine ⟨h, ?_⟩
    rw [wrap_in _ ⟨by omega, by omega⟩]
    omega
theorem epoch_c (z : Int) : acall Tryd.prog [] 8 [I z] (ret (I (epZ z))) := by
  refine zI Tryd.func8 rfl (by kernel_rfl) (by simp [Tryd.ntmps8]) ?_; simp only [Tryd.ntmps8, Tryd.results8, go_sem]
  repeat' first
    | with_reducible refine AWP.seq ?_
    | with_reducible refine thenA_n ?_
    | with_reducible refine thenA_r ?_
    | with_reducible refine thenA_e ?_
    | with_reducible refine blkA_n ?_
    | with_reducible refine blkA_r ?_
    | with_reducible refine blkA_e ?_
    | with_reducible refine blkA_x (by decide) ?_
    | with_reducible refine AWP.skip ?_
    | with_reducible refine AWP.ret ?_
    | with_reducible refine AWP.exit ?_
    | with_reducible refine AWP.block ?_
    | (with_reducible refine AWP.cond rfl ?_ ?_ <;> intro _)
    | (with_reducible refine AWP.region tabOk ?_; intro K hK; simp only [go_sem, true_and]; (repeat' with_reducible apply And.intro) <;> (try (with_reducible refine hK _ ?_; clear hK K)))
    | (with_reducible refine AWP.quiet mixed tabOk (by kernel_rfl) ?_; intro K hK; simp only [go_sem, true_and]; (repeat' with_reducible apply And.intro) <;> (try (with_reducible refine hK _ ?_; clear hK K)))
    | (refine acallH_sc (zgood_c _) rfl rfl (by simp only [go_sem, true_and]) (by simp only [go_sem, true_and]) ?_ <;> (try simp only [go_sem, true_and]) <;> (repeat' with_reducible refine And.intro ?_ ?_) <;> (try (with_reducible refine hK _ ?_; clear hK K)))
    | (refine acallQ_sc (zgood_c _) rfl rfl (by simp only [go_sem, true_and]) (by simp only [go_sem, true_and]) ?_ <;> (try simp only [go_sem, true_and]) <;> (repeat' with_reducible refine And.intro ?_ ?_) <;> (try (with_reducible refine hK _ ?_; clear hK K)))
    | (refine acallH_rt (zgood_c _) rfl (by simp only [go_sem, true_and]) (by simp only [go_sem, true_and]) (by simp only [go_sem, true_and]) ?_ <;> (try simp only [go_sem, true_and]) <;> (repeat' with_reducible refine And.intro ?_ ?_) <;> (try (with_reducible refine hK _ ?_; clear hK K)))
    | (intro hg; first | (exfalso; simp at hg; done) | ((try simp only [hg, go_sem, true_and]) <;> (repeat' with_reducible refine And.intro ?_ ?_) <;> (try (with_reducible refine hK _ ?_; clear hK K))))
    | omega
  all_goals try (refine aend_ret ?_ rfl ?_ ?_ ?_ ?_; (focus (first | exact .inl rfl | exact .inr rfl)); (focus (simp only [go_sem, true_and]; first | done | omega)); (focus (simp only [go_sem, true_and]; done)); (focus (simp only [go_sem, true_and]; done)); simp only [go_sem, true_and, I, B, S, AV.d.injEq, DV.int.injEq, DV.bool.injEq, DV.str.injEq, DV.sl.injEq, AV.tup.injEq, AV.agg.injEq, List.cons.injEq, and_true, true_and, and_self])
  all_goals (rename_i h; simp at h; simp [epZ, h])
theorem ref_epoch_c (z : Int) (hz : okI z) : acall Tryd.prog [] 9 [I z] (ret (I (epZ z))) := by
  refine zI Tryd.func9 rfl (by kernel_rfl) (by simp [Tryd.ntmps9]) ?_; simp only [Tryd.ntmps9, Tryd.results9, go_sem]
  repeat' first
    | with_reducible refine AWP.seq ?_
    | with_reducible refine thenA_n ?_
    | with_reducible refine thenA_r ?_
    | with_reducible refine thenA_e ?_
    | with_reducible refine blkA_n ?_
    | with_reducible refine blkA_r ?_
    | with_reducible refine blkA_e ?_
    | with_reducible refine blkA_x (by decide) ?_
    | with_reducible refine AWP.skip ?_
    | with_reducible refine AWP.ret ?_
    | with_reducible refine AWP.exit ?_
    | with_reducible refine AWP.block ?_
    | (with_reducible refine AWP.cond rfl ?_ ?_ <;> intro _)
    | (with_reducible refine AWP.region tabOk ?_; intro K hK; simp only [go_sem, true_and]; (repeat' with_reducible apply And.intro) <;> (try (with_reducible refine hK _ ?_; clear hK K)))
    | (with_reducible refine AWP.quiet mixed tabOk (by kernel_rfl) ?_; intro K hK; simp only [go_sem, true_and]; (repeat' with_reducible apply And.intro) <;> (try (with_reducible refine hK _ ?_; clear hK K)))
    | (refine acallH_sc (ref_zgood_c _ hz) rfl rfl (by simp only [go_sem, true_and]) (by simp only [go_sem, true_and]) ?_ <;> (try simp only [go_sem, true_and]) <;> (repeat' with_reducible refine And.intro ?_ ?_) <;> (try (with_reducible refine hK _ ?_; clear hK K)))
    | (refine acallQ_sc (ref_zgood_c _ hz) rfl rfl (by simp only [go_sem, true_and]) (by simp only [go_sem, true_and]) ?_ <;> (try simp only [go_sem, true_and]) <;> (repeat' with_reducible refine And.intro ?_ ?_) <;> (try (with_reducible refine hK _ ?_; clear hK K)))
    | (refine acallH_rt (ref_zgood_c _ hz) rfl (by simp only [go_sem, true_and]) (by simp only [go_sem, true_and]) (by simp only [go_sem, true_and]) ?_ <;> (try simp only [go_sem, true_and]) <;> (repeat' with_reducible refine And.intro ?_ ?_) <;> (try (with_reducible refine hK _ ?_; clear hK K)))
    | (intro hg; first | (exfalso; simp at hg; done) | ((try simp only [hg, go_sem, true_and]) <;> (repeat' with_reducible refine And.intro ?_ ?_) <;> (try (with_reducible refine hK _ ?_; clear hK K))))
    | omega
  all_goals try (refine aend_ret ?_ rfl ?_ ?_ ?_ ?_; (focus (first | exact .inl rfl | exact .inr rfl)); (focus (simp only [go_sem, true_and]; first | done | omega)); (focus (simp only [go_sem, true_and]; done)); (focus (simp only [go_sem, true_and]; done)); simp only [go_sem, true_and, I, B, S, AV.d.injEq, DV.int.injEq, DV.bool.injEq, DV.str.injEq, DV.sl.injEq, AV.tup.injEq, AV.agg.injEq, List.cons.injEq, and_true, true_and, and_self])
  · rename_i h
    have h := of_decide_eq_true h
    have h' := h
    unfold goodZ at h'
    rw [Int.tdiv_eq_ediv_of_nonneg h'.1, wrap_in _ ⟨by omega, by omega⟩]; simp [epZ, h]
  · rename_i h; simp at h; simp [epZ, h]
theorem and_mask (z : Int) (h : goodZ z) : bits .and .i64 z 2147483647 = z % 2147483648 := by
  unfold goodZ at h
  obtain ⟨n, rfl⟩ := Int.eq_ofNat_of_zero_le h.1
  show IntKind.i64.wrap ((BitVec.ofInt 64 (n : Int) &&& BitVec.ofInt 64 ((2147483647 : Nat) : Int)).toNat : Int) = _
  rw [BitVec.toNat_and, ofInt_i64 _ (by omega), ofInt_i64 _ (by omega), show (2147483647 : Nat) = 2 ^ 31 - 1 from rfl, Nat.and_two_pow_sub_one_eq_mod, IntKind.wrap_i64]
  omega
theorem count_c (z : Int) : acall Tryd.prog [] 10 [I z] (ret (I (coZ z))) := by
  refine zI Tryd.func10 rfl (by kernel_rfl) (by simp [Tryd.ntmps10]) ?_; simp only [Tryd.ntmps10, Tryd.results10, go_sem]
  repeat' first
    | with_reducible refine AWP.seq ?_
    | with_reducible refine thenA_n ?_
    | with_reducible refine thenA_r ?_
    | with_reducible refine thenA_e ?_
    | with_reducible refine blkA_n ?_
    | with_reducible refine blkA_r ?_
    | with_reducible refine blkA_e ?_
    | with_reducible refine blkA_x (by decide) ?_
    | with_reducible refine AWP.skip ?_
    | with_reducible refine AWP.ret ?_
    | with_reducible refine AWP.exit ?_
    | with_reducible refine AWP.block ?_
    | (with_reducible refine AWP.cond rfl ?_ ?_ <;> intro _)
    | (with_reducible refine AWP.region tabOk ?_; intro K hK; simp only [go_sem, true_and]; (repeat' with_reducible apply And.intro) <;> (try (with_reducible refine hK _ ?_; clear hK K)))
    | (with_reducible refine AWP.quiet mixed tabOk (by kernel_rfl) ?_; intro K hK; simp only [go_sem, true_and]; (repeat' with_reducible apply And.intro) <;> (try (with_reducible refine hK _ ?_; clear hK K)))
    | (refine acallH_sc (zgood_c _) rfl rfl (by simp only [go_sem, true_and]) (by simp only [go_sem, true_and]) ?_ <;> (try simp only [go_sem, true_and]) <;> (repeat' with_reducible refine And.intro ?_ ?_) <;> (try (with_reducible refine hK _ ?_; clear hK K)))
    | (refine acallQ_sc (zgood_c _) rfl rfl (by simp only [go_sem, true_and]) (by simp only [go_sem, true_and]) ?_ <;> (try simp only [go_sem, true_and]) <;> (repeat' with_reducible refine And.intro ?_ ?_) <;> (try (with_reducible refine hK _ ?_; clear hK K)))
    | (refine acallH_rt (zgood_c _) rfl (by simp only [go_sem, true_and]) (by simp only [go_sem, true_and]) (by simp only [go_sem, true_and]) ?_ <;> (try simp only [go_sem, true_and]) <;> (repeat' with_reducible refine And.intro ?_ ?_) <;> (try (with_reducible refine hK _ ?_; clear hK K)))
    | (intro hg; first | (exfalso; simp at hg; done) | ((try simp only [hg, go_sem, true_and]) <;> (repeat' with_reducible refine And.intro ?_ ?_) <;> (try (with_reducible refine hK _ ?_; clear hK K))))
    | omega
  all_goals try (refine aend_ret ?_ rfl ?_ ?_ ?_ ?_; (focus (first | exact .inl rfl | exact .inr rfl)); (focus (simp only [go_sem, true_and]; first | done | omega)); (focus (simp only [go_sem, true_and]; done)); (focus (simp only [go_sem, true_and]; done)); simp only [go_sem, true_and, I, B, S, AV.d.injEq, DV.int.injEq, DV.bool.injEq, DV.str.injEq, DV.sl.injEq, AV.tup.injEq, AV.agg.injEq, List.cons.injEq, and_true, true_and, and_self])
  · rename_i h; simp at h; simp [coZ, h]
  · rename_i h; simp at h; simp [coZ, h, and_mask]
theorem ref_count_c (z : Int) (hz : okI z) : acall Tryd.prog [] 11 [I z] (ret (I (coZ z))) := by
  refine zI Tryd.func11 rfl (by kernel_rfl) (by simp [Tryd.ntmps11]) ?_; simp only [Tryd.ntmps11, Tryd.results11, go_sem]
  repeat' first
    | with_reducible refine AWP.seq ?_
    | with_reducible refine thenA_n ?_
    | with_reducible refine thenA_r ?_
    | with_reducible refine thenA_e ?_
    | with_reducible refine blkA_n ?_
    | with_reducible refine blkA_r ?_
    | with_reducible refine blkA_e ?_
    | with_reducible refine blkA_x (by decide) ?_
    | with_reducible refine AWP.skip ?_
    | with_reducible refine AWP.ret ?_
    | with_reducible refine AWP.exit ?_
    | with_reducible refine AWP.block ?_
    | (with_reducible refine AWP.cond rfl ?_ ?_ <;> intro _)
    | (with_reducible refine AWP.region tabOk ?_; intro K hK; simp only [go_sem, true_and]; (repeat' with_reducible apply And.intro) <;> (try (with_reducible refine hK _ ?_; clear hK K)))
    | (with_reducible refine AWP.quiet mixed tabOk (by kernel_rfl) ?_; intro K hK; simp only [go_sem, true_and]; (repeat' with_reducible apply And.intro) <;> (try (with_reducible refine hK _ ?_; clear hK K)))
    | (refine acallH_sc (ref_zgood_c _ hz) rfl rfl (by simp only [go_sem, true_and]) (by simp only [go_sem, true_and]) ?_ <;> (try simp only [go_sem, true_and]) <;> (repeat' with_reducible refine And.intro ?_ ?_) <;> (try (with_reducible refine hK _ ?_; clear hK K)))
    | (refine acallQ_sc (ref_zgood_c _ hz) rfl rfl (by simp only [go_sem, true_and]) (by simp only [go_sem, true_and]) ?_ <;> (try simp only [go_sem, true_and]) <;> (repeat' with_reducible refine And.intro ?_ ?_) <;> (try (with_reducible refine hK _ ?_; clear hK K)))
    | (refine acallH_rt (ref_zgood_c _ hz) rfl (by simp only [go_sem, true_and]) (by simp only [go_sem, true_and]) (by simp only [go_sem, true_and]) ?_ <;> (try simp only [go_sem, true_and]) <;> (repeat' with_reducible refine And.intro ?_ ?_) <;> (try (with_reducible refine hK _ ?_; clear hK K)))
    | (intro hg; first | (exfalso; simp at hg; done) | ((try simp only [hg, go_sem, true_and]) <;> (repeat' with_reducible refine And.intro ?_ ?_) <;> (try (with_reducible refine hK _ ?_; clear hK K))))
    | omega
  all_goals try (refine aend_ret ?_ rfl ?_ ?_ ?_ ?_; (focus (first | exact .inl rfl | exact .inr rfl)); (focus (simp only [go_sem, true_and]; first | done | omega)); (focus (simp only [go_sem, true_and]; done)); (focus (simp only [go_sem, true_and]; done)); simp only [go_sem, true_and, I, B, S, AV.d.injEq, DV.int.injEq, DV.bool.injEq, DV.str.injEq, DV.sl.injEq, AV.tup.injEq, AV.agg.injEq, List.cons.injEq, and_true, true_and, and_self])
  · rename_i h; simp at h
    have h' := h
    unfold goodZ at h'
    rw [Int.tmod_eq_emod_of_nonneg h'.1]; simp [coZ, h]
  · rename_i h; simp at h; simp [coZ, h]

def nextZ (z : Int) : Int × Int := if goodZ z then (if z % 2147483648 = 2147483647 then (0, 6) else (z + 1, 0)) else (0, 3)
def beginZ (z : Int) : Int × Int := if goodZ z then (if z / 2147483648 = 2147483647 then (0, 6) else ((z / 2147483648 + 1) * 2147483648, 0)) else (0, 3)
theorem ep_lt {z : Int} (h : goodZ z) : 0 ≤ epZ z ∧ epZ z ≤ 2147483647 ∧ 0 ≤ coZ z ∧ coZ z ≤ 2147483647 ∧ z = epZ z * 2147483648 + coZ z ∧ epZ z = z / 2147483648 ∧ coZ z = z % 2147483648 := by
  simp only [epZ, coZ, if_pos h]; unfold goodZ at h; exact ⟨by omega, by omega, by omega, by omega, by omega, trivial, trivial⟩
theorem mk_next {z : Int} (h : goodZ z) : (mkZ (epZ z) (IntKind.i64.wrap (coZ z + 1))).2 = 0 → nextZ z = (mkZ (epZ z) (IntKind.i64.wrap (coZ z + 1))) := by
  obtain ⟨a, b, c, d, e, f, g⟩ := ep_lt h
  rw [wrap_in _ ⟨by omega, by omega⟩]
  by_cases hb : badZ (epZ z) (coZ z + 1)
  · simp [mkZ, hb]
  · intro _; simp only [mkZ, if_neg hb, nextZ, if_pos h]; unfold badZ at hb; rw [if_neg (by omega)]; congr 1; omega
theorem mk_next' {z : Int} (h : goodZ z) : (mkZ (epZ z) (IntKind.i64.wrap (coZ z + 1))).2 ≠ 0 → nextZ z = (0, 6) := by
  obtain ⟨a, b, c, d, e, f, g⟩ := ep_lt h
  rw [wrap_in _ ⟨by omega, by omega⟩]
  by_cases hb : badZ (epZ z) (coZ z + 1)
  · intro _; simp only [nextZ, if_pos h]; unfold badZ at hb; rw [if_pos (by omega)]
  · simp [mkZ, hb]
theorem mk_begin {z : Int} (h : goodZ z) : (mkZ (IntKind.i64.wrap (epZ z + 1)) 0).2 = 0 → beginZ z = (mkZ (IntKind.i64.wrap (epZ z + 1)) 0) := by
  obtain ⟨a, b, c, d, e, f, g⟩ := ep_lt h
  rw [wrap_in _ ⟨by omega, by omega⟩]
  by_cases hb : badZ (epZ z + 1) 0
  · simp [mkZ, hb]
  · intro _; simp only [mkZ, if_neg hb, beginZ, if_pos h]; unfold badZ at hb; rw [if_neg (by omega)]; congr 1; omega
theorem mk_begin' {z : Int} (h : goodZ z) : (mkZ (IntKind.i64.wrap (epZ z + 1)) 0).2 ≠ 0 → beginZ z = (0, 6) := by
  obtain ⟨a, b, c, d, e, f, g⟩ := ep_lt h
  rw [wrap_in _ ⟨by omega, by omega⟩]
  by_cases hb : badZ (epZ z + 1) 0
  · intro _; simp only [beginZ, if_pos h]; unfold badZ at hb; rw [if_pos (by omega)]
  · simp [mkZ, hb]
theorem wf_i64 {n : Int} (h : (Lit.int .i64 n).wf = true) : okI n := by
  simp only [Lit.wf, Bool.and_eq_true, decide_eq_true_eq] at h
  have h1 : IntKind.i64.min = -9223372036854775808 := rfl
  have h2 : IntKind.i64.max = 9223372036854775807 := rfl
  rw [h1, h2] at h; exact h

end Go.Proofs.YtfnilhdofopoeabDoor
