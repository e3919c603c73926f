/- Contracts of searches for a byte in a text, and of a text's beginning. No condition. -/
import Derived.Test.YtmpfhalheaeibaaDoorLb
namespace Go.Proofs.YtmpfhalheaeibaaDoor
set_option linter.unusedVariables false
set_option linter.unusedSimpArgs false
open Go Go.RowKit
set_option maxRecDepth 100000
set_option linter.unusedSimpArgs false

theorem ext_indexByte {P : Program} {hp : List ABlk} {g : FuncId} {fn : Func} (hf : P.funcs[g]? = some fn) (hn : (fn.name == "runtime.NumGoroutine") = false) (hb : fn.body.isNone = true) (hx : Extern.findNext fn = none)
    (he : Extern.find fn = some Extern.BytealgIndexByte.indexByte) (s : List UInt8) (c : UInt8) : aextQ P hp g [S s, .d (.int .u8 c.toNat)] (I (Lib.indexByte s c)) := by
  intro E ρ w us hH hus
  refine ⟨.int .i64 (Lib.indexByte s c), .d _ _ (.int _ _), fun w' hbl => ?_⟩
  match us, hus with
  | [u, u'], hus =>
    have hu := hus.2 0 _ u rfl rfl
    have hu' := hus.2 1 _ u' rfl rfl
    cases hu with | d _ _ hu => cases hu with | str _ =>
    cases hu' with | d _ _ hu' => cases hu' with | int _ _ =>
    rw [run_callFunc_extern hf hn hb hx he]
    have := Lib.run_indexByteString (P := P) ⟨s.toArray⟩ (c.toNat : Int) w'
    have e : ((c.toNat : Int)).toNat.toUInt8 = c := by simp
    rw [e] at this
    show (Extern.BytealgIndexByte.indexByte #[.string ⟨s.toArray⟩, .int .u8 (c.toNat : Int)] |>.run P w').andThen _ = _
    rw [this]
    rfl

theorem indexByteS_c (s : List UInt8) (c : UInt8) : acall Tryd.prog [] 194 [S s, .d (.int .u8 c.toNat)] (ret (I (Lib.indexByte s c))) := by
  refine acall_of tabOk Tryd.func194 rfl (by kernel_rfl) (by simp [Tryd.ntmps194]) ?_; simp only [Tryd.ntmps194, Tryd.results194, List.toList_toArray, apar, List.length_nil, List.length_cons, Nat.reduceAdd]
  repeat' first
    | (with_reducible first | refine AWP.seq ?_ | refine thenA_n ?_ | refine thenA_r ?_ | refine thenA_e ?_ | refine blkA_n ?_ | refine blkA_r ?_ | refine blkA_e ?_ | refine blkA_x (by decide) ?_ | refine AWP.skip ?_ | refine AWP.ret ?_ | refine AWP.exit ?_ | refine AWP.block ?_)
    | (with_reducible refine AWP.cond rfl ?_ ?_ <;> intro hc <;> (try simp only [hcs, beq_iff_eq, ge_iff_le, gt_iff_lt] at hc))
    | ((first
      | (with_reducible first | refine AWP.region tabOk ?_ | refine AWP.quietC mixed tabOk (by decide +kernel) ?_ | refine AWP.draw mixed tabOk (by decide +kernel) ?_ | refine AWP.drawE mixed tabOk (by decide +kernel) ?_ | refine AWP.drawG mixed tabOk (by decide +kernel) ?_); intro K hK); ((try simp (disch := omega) only [go_sem, wrap_n]) <;> (repeat' with_reducible refine And.intro ?_ ?_) <;> (try (with_reducible refine hK _ ?_; clear hK K))))
    | (refine acallHK_ext (ext_indexByte Tryd.func198 (by kernel_rfl) (by kernel_rfl) (by kernel_rfl) (by kernel_rfl) s c) ?_; ((try simp (disch := omega) only [go_sem, wrap_n]) <;> (repeat' with_reducible refine And.intro ?_ ?_) <;> (try (with_reducible refine hK _ ?_; clear hK K))))
    | ((first | (with_reducible refine aunder_i ?_ ?_ <;> intro hg) | with_reducible intro hg) <;> (first | (exfalso; simp at hg; done) | (have hg' := hg; (try simp only [hcs, beq_iff_eq, ge_iff_le, gt_iff_lt] at hg'); ((try simp (disch := omega) only [hg, go_sem, wrap_n]) <;> (repeat' with_reducible refine And.intro ?_ ?_) <;> (try (with_reducible refine hK _ ?_; clear hK K))))))
                                                            | omega
  (refine aend_retc ?_ rfl ?_ ?_ ?_ ?_; (focus (first | exact .inl rfl | exact .inr rfl)); (iterate 3 (focus ((try simp (disch := omega) only [go_sem, wrap_n]) <;> (try omega) <;> fail))); (try simp (disch := omega) only [go_sem, wrap_n, I, B, S, inj, List.cons.injEq, and_true, true_and, and_self]))
theorem indexL_c (s : List UInt8) (c : UInt8) : acall Tryd.prog [] 191 [S s, S [c]] (ret (I (Lib.indexByte s c))) := by
  refine acall_of tabOk Tryd.func191 rfl (by kernel_rfl) (by simp [Tryd.ntmps191]) ?_; simp only [Tryd.ntmps191, Tryd.results191, List.toList_toArray, apar, List.length_nil, List.length_cons, Nat.reduceAdd]
  repeat' first
    | (with_reducible first | refine AWP.seq ?_ | refine thenA_n ?_ | refine thenA_r ?_ | refine thenA_e ?_ | refine blkA_n ?_ | refine blkA_r ?_ | refine blkA_e ?_ | refine blkA_x (by decide) ?_ | refine AWP.skip ?_ | refine AWP.ret ?_ | refine AWP.exit ?_ | refine AWP.block ?_)
    | (with_reducible refine AWP.cond rfl ?_ ?_ <;> intro hc <;> (try simp only [hcs, beq_iff_eq, ge_iff_le, gt_iff_lt] at hc))
    | ((first
      | (with_reducible first | refine AWP.region tabOk ?_ | refine AWP.quietC mixed tabOk (by decide +kernel) ?_ | refine AWP.draw mixed tabOk (by decide +kernel) ?_ | refine AWP.drawE mixed tabOk (by decide +kernel) ?_ | refine AWP.drawG mixed tabOk (by decide +kernel) ?_); intro K hK
      | ((first | refine acallH_sc (indexByteS_c s c) rfl rfl ?_ ?_ ?_ | refine acallQ_sc (indexByteS_c s c) rfl rfl ?_ ?_ ?_); iterate 2 (focus ((try simp (disch := omega) only [go_sem, wrap_n]) <;> (try omega) <;> fail)))
      | ((first | refine acallH_anyr (indexByteS_c s c) rfl ?_ ?_); (focus ((try simp (disch := omega) only [go_sem, wrap_n]) <;> (try omega) <;> fail)))
      | ((first | refine acallH_scx (indexByteS_c s c) rfl ?_ ?_ | refine acallQ_scx (indexByteS_c s c) rfl ?_ ?_ | refine acallH_anyx (indexByteS_c s c) ?_ ?_); (focus ((try simp (disch := omega) only [go_sem, wrap_n]) <;> (try omega) <;> fail)))); ((try simp (disch := omega) only [go_sem, wrap_n]) <;> (repeat' with_reducible refine And.intro ?_ ?_) <;> (try (with_reducible refine hK _ ?_; clear hK K))))
    | ((first | (with_reducible refine aunder_i ?_ ?_ <;> intro hg) | with_reducible intro hg) <;> (first | (exfalso; simp at hg; done) | (have hg' := hg; (try simp only [hcs, beq_iff_eq, ge_iff_le, gt_iff_lt] at hg'); ((try simp (disch := omega) only [hg, go_sem, wrap_n]) <;> (repeat' with_reducible refine And.intro ?_ ?_) <;> (try (with_reducible refine hK _ ?_; clear hK K))))))
                                                            | omega
  · (refine aend_retc ?_ rfl ?_ ?_ ?_ ?_; (focus (first | exact .inl rfl | exact .inr rfl)); (iterate 3 (focus ((try simp (disch := omega) only [go_sem, wrap_n]) <;> (try omega) <;> fail))); (try simp (disch := omega) only [go_sem, wrap_n, I, B, S, inj, List.cons.injEq, and_true, true_and, and_self]))
    subst hc; simp [Lib.indexByte]
  · (refine aend_retc ?_ rfl ?_ ?_ ?_ ?_; (focus (first | exact .inl rfl | exact .inr rfl)); (iterate 3 (focus ((try simp (disch := omega) only [go_sem, wrap_n]) <;> (try omega) <;> fail))); (try simp (disch := omega) only [go_sem, wrap_n, I, B, S, inj, List.cons.injEq, and_true, true_and, and_self]))
theorem index1_c (s : List UInt8) (c : UInt8) : acall Tryd.prog [] 182 [S s, S [c]] (ret (I (Lib.indexByte s c))) := by
  refine acall_of tabOk Tryd.func182 rfl (by kernel_rfl) (by simp [Tryd.ntmps182]) ?_; simp only [Tryd.ntmps182, Tryd.results182, List.toList_toArray, apar, List.length_nil, List.length_cons, Nat.reduceAdd]
  repeat' first
    | (with_reducible first | refine AWP.seq ?_ | refine thenA_n ?_ | refine thenA_r ?_ | refine thenA_e ?_ | refine blkA_n ?_ | refine blkA_r ?_ | refine blkA_e ?_ | refine blkA_x (by decide) ?_ | refine AWP.skip ?_ | refine AWP.ret ?_ | refine AWP.exit ?_ | refine AWP.block ?_)
    | (with_reducible refine AWP.cond rfl ?_ ?_ <;> intro hc <;> (try simp only [hcs, beq_iff_eq, ge_iff_le, gt_iff_lt] at hc))
    | ((first
      | (with_reducible first | refine AWP.region tabOk ?_ | refine AWP.quietC mixed tabOk (by decide +kernel) ?_ | refine AWP.draw mixed tabOk (by decide +kernel) ?_ | refine AWP.drawE mixed tabOk (by decide +kernel) ?_ | refine AWP.drawG mixed tabOk (by decide +kernel) ?_); intro K hK
      | ((first | refine acallH_sc (indexL_c s c) rfl rfl ?_ ?_ ?_ | refine acallQ_sc (indexL_c s c) rfl rfl ?_ ?_ ?_); iterate 2 (focus ((try simp (disch := omega) only [go_sem, wrap_n]) <;> (try omega) <;> fail)))
      | ((first | refine acallH_anyr (indexL_c s c) rfl ?_ ?_); (focus ((try simp (disch := omega) only [go_sem, wrap_n]) <;> (try omega) <;> fail)))
      | ((first | refine acallH_scx (indexL_c s c) rfl ?_ ?_ | refine acallQ_scx (indexL_c s c) rfl ?_ ?_ | refine acallH_anyx (indexL_c s c) ?_ ?_); (focus ((try simp (disch := omega) only [go_sem, wrap_n]) <;> (try omega) <;> fail)))); ((try simp (disch := omega) only [go_sem, wrap_n]) <;> (repeat' with_reducible refine And.intro ?_ ?_) <;> (try (with_reducible refine hK _ ?_; clear hK K))))
    | ((first | (with_reducible refine aunder_i ?_ ?_ <;> intro hg) | with_reducible intro hg) <;> (first | (exfalso; simp at hg; done) | (have hg' := hg; (try simp only [hcs, beq_iff_eq, ge_iff_le, gt_iff_lt] at hg'); ((try simp (disch := omega) only [hg, go_sem, wrap_n]) <;> (repeat' with_reducible refine And.intro ?_ ?_) <;> (try (with_reducible refine hK _ ?_; clear hK K))))))
                                                            | omega
  (refine aend_retc ?_ rfl ?_ ?_ ?_ ?_; (focus (first | exact .inl rfl | exact .inr rfl)); (iterate 3 (focus ((try simp (disch := omega) only [go_sem, wrap_n]) <;> (try omega) <;> fail))); (try simp (disch := omega) only [go_sem, wrap_n, I, B, S, inj, List.cons.injEq, and_true, true_and, and_self]))
theorem hasPrefixL_c (s p : List UInt8) (hp : okS p) (hs : okS s) : acall Tryd.prog [] 168 [S s, S p] (ret (B (decide (p.length ≤ s.length ∧ s.take p.length = p)))) := by
  unfold okS at hp hs
  refine acall_of tabOk Tryd.func168 rfl (by kernel_rfl) (by simp [Tryd.ntmps168]) ?_; simp only [Tryd.ntmps168, Tryd.results168, List.toList_toArray, apar, List.length_nil, List.length_cons, Nat.reduceAdd]
  repeat' first
    | (with_reducible first | refine AWP.seq ?_ | refine thenA_n ?_ | refine thenA_r ?_ | refine thenA_e ?_ | refine blkA_n ?_ | refine blkA_r ?_ | refine blkA_e ?_ | refine blkA_x (by decide) ?_ | refine AWP.skip ?_ | refine AWP.ret ?_ | refine AWP.exit ?_ | refine AWP.block ?_)
    | (with_reducible refine AWP.cond rfl ?_ ?_ <;> intro hc <;> (try simp only [hcs, beq_iff_eq, ge_iff_le, gt_iff_lt] at hc))
    | ((first
      | (with_reducible first | refine AWP.region tabOk ?_ | refine AWP.quietC mixed tabOk (by decide +kernel) ?_ | refine AWP.draw mixed tabOk (by decide +kernel) ?_ | refine AWP.drawE mixed tabOk (by decide +kernel) ?_ | refine AWP.drawG mixed tabOk (by decide +kernel) ?_); intro K hK); ((try simp (disch := omega) only [go_sem, wrap_n]) <;> (repeat' with_reducible refine And.intro ?_ ?_) <;> (try (with_reducible refine hK _ ?_; clear hK K))))
    | ((first | (with_reducible refine aunder_i ?_ ?_ <;> intro hg) | with_reducible intro hg) <;> (first | (exfalso; simp at hg; done) | (have hg' := hg; (try simp only [hcs, beq_iff_eq, ge_iff_le, gt_iff_lt] at hg'); ((try simp (disch := omega) only [hg, go_sem, wrap_n]) <;> (repeat' with_reducible refine And.intro ?_ ?_) <;> (try (with_reducible refine hK _ ?_; clear hK K))))))
                                                            | omega
  all_goals (refine aend_retc ?_ rfl ?_ ?_ ?_ ?_; (focus (first | exact .inl rfl | exact .inr rfl)); (iterate 3 (focus ((try simp (disch := omega) only [go_sem, wrap_n]) <;> (try omega) <;> fail))); (try simp (disch := omega) only [go_sem, wrap_n, I, B, S, inj, List.cons.injEq, and_true, true_and, and_self]))
  rw [Bool.eq_iff_iff]; simp
theorem hasPrefix_c (s p : List UInt8) (hp : okS p) (hs : okS s) : acall Tryd.prog [] 139 [S s, S p] (ret (B (decide (p.length ≤ s.length ∧ s.take p.length = p)))) := by
  refine acall_of tabOk Tryd.func139 rfl (by kernel_rfl) (by simp [Tryd.ntmps139]) ?_; simp only [Tryd.ntmps139, Tryd.results139, List.toList_toArray, apar, List.length_nil, List.length_cons, Nat.reduceAdd]
  repeat' first
    | (with_reducible first | refine AWP.seq ?_ | refine thenA_n ?_ | refine thenA_r ?_ | refine thenA_e ?_ | refine blkA_n ?_ | refine blkA_r ?_ | refine blkA_e ?_ | refine blkA_x (by decide) ?_ | refine AWP.skip ?_ | refine AWP.ret ?_ | refine AWP.exit ?_ | refine AWP.block ?_)
    | (with_reducible refine AWP.cond rfl ?_ ?_ <;> intro hc <;> (try simp only [hcs, beq_iff_eq, ge_iff_le, gt_iff_lt] at hc))
    | ((first
      | (with_reducible first | refine AWP.region tabOk ?_ | refine AWP.quietC mixed tabOk (by decide +kernel) ?_ | refine AWP.draw mixed tabOk (by decide +kernel) ?_ | refine AWP.drawE mixed tabOk (by decide +kernel) ?_ | refine AWP.drawG mixed tabOk (by decide +kernel) ?_); intro K hK
      | ((first | refine acallH_sc (hasPrefixL_c s p hp hs) rfl rfl ?_ ?_ ?_ | refine acallQ_sc (hasPrefixL_c s p hp hs) rfl rfl ?_ ?_ ?_); iterate 2 (focus ((try simp (disch := omega) only [go_sem, wrap_n]) <;> (try omega) <;> fail)))
      | ((first | refine acallH_anyr (hasPrefixL_c s p hp hs) rfl ?_ ?_); (focus ((try simp (disch := omega) only [go_sem, wrap_n]) <;> (try omega) <;> fail)))
      | ((first | refine acallH_scx (hasPrefixL_c s p hp hs) rfl ?_ ?_ | refine acallQ_scx (hasPrefixL_c s p hp hs) rfl ?_ ?_ | refine acallH_anyx (hasPrefixL_c s p hp hs) ?_ ?_); (focus ((try simp (disch := omega) only [go_sem, wrap_n]) <;> (try omega) <;> fail)))); ((try simp (disch := omega) only [go_sem, wrap_n]) <;> (repeat' with_reducible refine And.intro ?_ ?_) <;> (try (with_reducible refine hK _ ?_; clear hK K))))
    | ((first | (with_reducible refine aunder_i ?_ ?_ <;> intro hg) | with_reducible intro hg) <;> (first | (exfalso; simp at hg; done) | (have hg' := hg; (try simp only [hcs, beq_iff_eq, ge_iff_le, gt_iff_lt] at hg'); ((try simp (disch := omega) only [hg, go_sem, wrap_n]) <;> (repeat' with_reducible refine And.intro ?_ ?_) <;> (try (with_reducible refine hK _ ?_; clear hK K))))))
                                                            | omega
  all_goals (refine aend_retc ?_ rfl ?_ ?_ ?_ ?_; (focus (first | exact .inl rfl | exact .inr rfl)); (iterate 3 (focus ((try simp (disch := omega) only [go_sem, wrap_n]) <;> (try omega) <;> fail))); (try simp (disch := omega) only [go_sem, wrap_n, I, B, S, inj, List.cons.injEq, and_true, true_and, and_self]))

/-- A contract over scalars, in the model's own words: the answer, and that the world has only grown. -/
theorem calls_of_acall {P : Program} {g : FuncId} {xs : List AV} {x : AV} {us : List Value} {u : Value} (c : acall P [] g xs (ret x)) (hxs : scalL xs = some us) (hx : scalV x = some u) (w : World) (ht : TabsAt w) :
    Calls P g us.toArray w fun e w' => e = .returned u ∧ Below w.heap.size w w' := by
  obtain ⟨h1, h2⟩ := scalL_get hxs
  have hH : RepH (⟨w, fun _ => False, fun _ => False, [], by simp, by simp, ht, by simp⟩ : Ent) [] [] w :=
    ⟨rfl, by simp, by simp, by simp, Fr.refl _ _⟩
  refine (c.2 ⟨w, fun _ => False, fun _ => False, [], by simp, by simp, ht, by simp⟩ w us rfl hH ⟨h1, fun j x' u' hx' hu' => ?_⟩).mono fun e w' ⟨u', v, hp', ρ', q1, q2, q3, q4, q5⟩ => ?_
  · obtain ⟨u2, q, hs⟩ := h2 j x' hx'
    rw [hu'] at q; injection q with q; subst q
    exact scal_rep x' u' hs
  · obtain ⟨rfl, rfl⟩ := q2
    exact ⟨by rw [q1, scal_eq q5 u hx], q3.fr.os, q3.fr.tape, q3.fr.output, q3.fr.size, fun k hk => q3.fr.block k hk (by simp)⟩
end Go.Proofs.YtmpfhalheaeibaaDoor
