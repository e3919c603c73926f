/- watch.Fire and its reference. No condition. -/
import Derived.Test.YtfnilhdofopoeaaWa
import Derived.Test.YtfnilhdofopoeaaAvTl
namespace Go.Proofs.Ytfnilhdofopoeaa
set_option linter.unusedVariables false
set_option linter.unusedSimpArgs false
open Go Go.RowKit
set_option maxRecDepth 100000
set_option linter.unusedSimpArgs false

theorem take_snocD {α : Type} (l : List α) (i : Nat) (d : α) (h : i < l.length) : l.take (i + 1) = l.take i ++ [l.getD i d] := by
  rw [List.take_add_one, List.getElem?_eq_getElem h]; simp [List.getD_eq_getElem?_getD, h]
def touW (e : AEvent) (w : AWatch) : Bool := if w.path = e.path then (if w.kind = 2 then (decide (e.kind = 4) || decide (e.kind = 2)) else (decide (e.kind = 1) || decide (e.kind = 2) || decide (e.kind = 3))) else false
def keptW (e : AEvent) (l : List AWatch) : List AWatch := l.filter fun w => !touW e w
def toldW (e : AEvent) (l : List AWatch) : List ANote := (l.filter (touW e)).map fun w => ⟨w.session, e⟩
def stepF (p : List ANote × List AWatch) (e : AEvent) : List ANote × List AWatch := (p.1 ++ toldW e p.2, keptW e p.2)
def fireW (l : List AWatch) (es : List AEvent) : List ANote × List AWatch := es.foldl stepF ([], l)
theorem fire_snoc (l : List AWatch) (es : List AEvent) (k : Nat) (h : k < es.length) : fireW l (es.take (k + 1)) = stepF (fireW l (es.take k)) (es.getD k default) := by
  have : es.take (k + 1) = es.take k ++ [es.getD k default] := take_snoc es k h
  unfold fireW; rw [this, List.foldl_append]; rfl
theorem kept_snoc (e : AEvent) (l : List AWatch) (k : Nat) (h : k < l.length) : keptW e (l.take (k + 1)) = if touW e (l.getD k default) = true then keptW e (l.take k) else keptW e (l.take k) ++ [l.getD k default] := by
  have : l.take (k + 1) = l.take k ++ [l.getD k default] := take_snoc l k h
  unfold keptW; rw [this, List.filter_append]
  generalize l.getD k default = x
  split <;> rename_i hh <;> simp [hh]
theorem told_snoc (e : AEvent) (l : List AWatch) (k : Nat) (h : k < l.length) : toldW e (l.take (k + 1)) = if touW e (l.getD k default) = true then toldW e (l.take k) ++ [⟨(l.getD k default).session, e⟩] else toldW e (l.take k) := by
  have : l.take (k + 1) = l.take k ++ [l.getD k default] := take_snoc l k h
  unfold toldW; rw [this, List.filter_append]
  generalize l.getD k default = x
  split <;> rename_i hh <;> simp [hh]
theorem kept_len (e : AEvent) (l : List AWatch) : (keptW e l).length ≤ l.length := List.length_filter_le _ _
theorem kept_told (e : AEvent) (l : List AWatch) : (toldW e l).length + (keptW e l).length = l.length := by
  induction l with
  | nil => rfl
  | cons x l ih =>
    unfold toldW keptW at *
    cases hx : touW e x <;> simp [hx] at * <;> omega
theorem fire_len (l : List AWatch) : ∀ (es : List AEvent), (fireW l es).1.length + (fireW l es).2.length = l.length := by
  have key : ∀ (es : List AEvent) (p : List ANote × List AWatch), (es.foldl stepF p).1.length + (es.foldl stepF p).2.length = p.1.length + p.2.length := by
    intro es
    induction es with
    | nil => intro p; rfl
    | cons e es ih =>
      intro p
      have := kept_told e p.2
      rw [List.foldl_cons, ih]; unfold stepF; simp only [List.length_append]; omega
  intro es; have := key es ([], l); simpa [fireW] using this
theorem touches_c (w : AWatch) (e : AEvent) : acall Try.prog [] 12 [w.av, e.av] (ret (B (touW e w))) := by
  unfold touW
  refine zI Try.func12 rfl (by kernel_rfl) (by simp [Try.ntmps12]) ?_; simp only [Try.ntmps12, Try.results12, go_sem]
  (repeat' first
| (with_reducible refine AR.f ?_)
| refine blkA_x (by decide) ?_
| (with_reducible refine AWP.cond rfl ?_ ?_ <;> intro hc <;> (try simp only [hcs, beq_iff_eq, ge_iff_le, gt_iff_lt] at hc))
| ((first | ((first | (with_reducible first | refine zR ?_ | refine zQ (by decide +kernel) ?_ | refine zD (by decide +kernel) ?_ | refine zE (by decide +kernel) ?_ | refine zG (by decide +kernel) ?_)); intro K hK) | ((first | (with_reducible refine aunder_i ?_ ?_ <;> intro hg) | with_reducible intro hg) <;> (first | (exfalso; simp at hg; done) | (have hg' := hg; (try simp only [hcs, beq_iff_eq, ge_iff_le, gt_iff_lt] at hg'); (try simp only [hg]))))) <;> (try simp (disch := omega) only [go_sem, wrap_n]) <;> (repeat' with_reducible refine And.intro ?_ ?_) <;> (try (with_reducible refine hK _ ?_; clear hK K)))
| omega)
  all_goals first
    | (rw [if_neg hc]; (refine zF rfl ?_ ?_ ?_ ?_; (iterate 3 (focus ((try simp (disch := omega) only [go_sem, wrap_n]) <;> (try omega) <;> fail))); (try simp (disch := omega) only [go_sem, wrap_n, I, B, S, zj])); done)
    | (rw [if_pos (by assumption), if_pos (by assumption)]; (refine zF rfl ?_ ?_ ?_ ?_; (iterate 3 (focus ((try simp (disch := omega) only [go_sem, wrap_n]) <;> (try omega) <;> fail))); (try simp (disch := omega) only [go_sem, wrap_n, I, B, S, zj])); done)
    | (rw [if_pos (by assumption), if_neg (by assumption)]; (refine zF rfl ?_ ?_ ?_ ?_; (iterate 3 (focus ((try simp (disch := omega) only [go_sem, wrap_n]) <;> (try omega) <;> fail))); (try simp (disch := omega) only [go_sem, wrap_n, I, B, S, zj])); done)
theorem cloneWatch_c (l : List AWatch) (h : l.length * 32 ≤ 140737488351232) : acall Try.prog [] 9 [.d (.sl 3 (l.map AWatch.row))] (own 3 (l.map AWatch.row)) := by
  refine zI Try.func9 rfl (by kernel_rfl) (by simp [Try.ntmps9]) ?_; simp only [Try.ntmps9, Try.results9, go_sem]
  (repeat' first
| (with_reducible refine AR.f ?_)
| refine blkA_x (by decide) ?_
| (with_reducible refine AWP.cond rfl ?_ ?_ <;> intro hc <;> (try simp only [hcs, beq_iff_eq, ge_iff_le, gt_iff_lt] at hc))
| ((first | ((first | (with_reducible first | refine zR ?_ | refine zQ (by decide +kernel) ?_ | refine zD (by decide +kernel) ?_ | refine zE (by decide +kernel) ?_ | refine zG (by decide +kernel) ?_)); intro K hK) | ((first | (with_reducible refine aunder_i ?_ ?_ <;> intro hg) | with_reducible intro hg) <;> (first | (exfalso; simp at hg; done) | (have hg' := hg; (try simp only [hcs, beq_iff_eq, ge_iff_le, gt_iff_lt] at hg'); (try simp only [hg]))))) <;> (try simp (disch := omega) only [go_sem, wrap_n]) <;> (repeat' with_reducible refine And.intro ?_ ?_) <;> (try (with_reducible refine hK _ ?_; clear hK K)))
| omega)
  · have e : l.length = 0 := by
      rcases Nat.eq_zero_or_pos l.length with h0 | h0
      · exact h0
      · rw [hg h0] at hc; simp at hc
    rw [nil_of_len e]
    (refine aend_nil (by first | exact .inl rfl | exact .inr rfl) rfl ?_ ?_ <;> simp (disch := omega) only [go_sem, wrap_n])
  · (refine aend_own 1 (by first | exact .inl rfl | exact .inr rfl) rfl ?_ rfl rfl ?_ <;> (try simp (disch := omega) only [go_sem, wrap_n, List.length_map]))
theorem kept_none (e : AEvent) (l : List AWatch) (i : Nat) (h : ∀ j, j < i → touW e (l.getD j default) = false) (hi : i ≤ l.length) : keptW e (l.take i) = l.take i ∧ toldW e (l.take i) = [] := by
  have hf : ∀ x, x ∈ l.take i → touW e x = false := fun x hx => by
    obtain ⟨j, hj, rfl⟩ := List.getElem_of_mem hx
    rw [List.length_take] at hj
    have := h j (by omega)
    rw [List.getD_eq_getElem?_getD, List.getElem?_eq_getElem (by omega)] at this
    rw [List.getElem_take]; exact this
  constructor
  · unfold keptW; exact List.filter_eq_self.2 fun x hx => by rw [hf x hx]; rfl
  · unfold toldW; rw [List.filter_eq_nil_iff.2 fun x hx => by rw [hf x hx]; decide]; rfl
theorem clipW_c (l : List AWatch) (h : l.length * 32 ≤ 140737488351232) : acall Try.prog [] 13 [.d (.sl 3 (l.map AWatch.row))] (ret (.d (.sl 3 (l.map AWatch.row)))) := by
  have t2 : List.take l.length (l.map AWatch.row) = l.map AWatch.row := List.take_of_length_le (by simp)
  rcases Nat.eq_zero_or_pos l.length with h0 | h0
  · rw [nil_of_len h0]
    refine zI Try.func13 rfl (by kernel_rfl) (by simp [Try.ntmps13]) ?_; simp only [Try.ntmps13, Try.results13, go_sem]
    (repeat' first
  | (with_reducible refine AR.f ?_)
  | refine blkA_x (by decide) ?_
  | (with_reducible refine AWP.cond rfl ?_ ?_ <;> intro hc <;> (try simp only [hcs, beq_iff_eq, ge_iff_le, gt_iff_lt] at hc))
  | ((first | ((first | (with_reducible first | refine zR ?_ | refine zQ (by decide +kernel) ?_ | refine zD (by decide +kernel) ?_ | refine zE (by decide +kernel) ?_ | refine zG (by decide +kernel) ?_)); intro K hK) | ((first | (with_reducible refine aunder_i ?_ ?_ <;> intro hg) | with_reducible intro hg) <;> (first | (exfalso; simp at hg; done) | (have hg' := hg; (try simp only [hcs, beq_iff_eq, ge_iff_le, gt_iff_lt] at hg'); (try simp only [hg]))))) <;> (try simp (disch := omega) only [go_sem, wrap_n]) <;> (repeat' with_reducible refine And.intro ?_ ?_) <;> (try (with_reducible refine hK _ ?_; clear hK K)))
  | omega)
    all_goals (refine zF rfl ?_ ?_ ?_ ?_; (iterate 3 (focus ((try simp (disch := omega) only [go_sem, wrap_n]) <;> (try omega) <;> fail))); (try simp (disch := omega) only [go_sem, wrap_n, I, B, S, zj]))
  have e0 : ¬ ((l.length : Nat) : Int) = 0 := by omega
  refine zI Try.func13 rfl (by kernel_rfl) (by simp [Try.ntmps13]) ?_; simp only [Try.ntmps13, Try.results13, go_sem]
  (repeat' first
| (with_reducible refine AR.f ?_)
| refine blkA_x (by decide) ?_
| (with_reducible refine AWP.cond rfl ?_ ?_ <;> intro hc <;> (try simp only [hcs, beq_iff_eq, ge_iff_le, gt_iff_lt] at hc))
| ((first | ((first | (with_reducible first | refine zR ?_ | refine zQ (by decide +kernel) ?_ | refine zD (by decide +kernel) ?_ | refine zE (by decide +kernel) ?_ | refine zG (by decide +kernel) ?_)); intro K hK) | ((first | (with_reducible refine aunder_i ?_ ?_ <;> intro hg) | with_reducible intro hg) <;> (first | (exfalso; simp at hg; done) | (have hg' := hg; (try simp only [hcs, beq_iff_eq, ge_iff_le, gt_iff_lt] at hg'); (try simp only [hg]))))) <;> (try simp (disch := omega) only [go_sem, wrap_n, t2, Nat.sub_zero, e0]) <;> (repeat' with_reducible refine And.intro ?_ ?_) <;> (try (with_reducible refine hK _ ?_; clear hK K)))
| omega)
  all_goals (refine zF rfl ?_ ?_ ?_ ?_; (iterate 3 (focus ((try simp (disch := omega) only [go_sem, wrap_n, t2, Nat.sub_zero, e0]) <;> (try omega) <;> fail))); (try simp (disch := omega) only [go_sem, wrap_n, t2, Nat.sub_zero, e0, I, B, S, zj]))
set_option maxHeartbeats 8000000 in
theorem fire_c (l : List AWatch) (es : List AEvent) (h : l.length * 32 ≤ 140737488351232) (he : es.length * 24 ≤ 140737488351232) : acall Try.prog [] 4 [.d (.sl 3 (l.map AWatch.row)), .d (.sl 2 (es.map AEvent.row))]
    (ret (.tup [.d (.sl 3 ((fireW l es).1.map ANote.row)), .d (.sl 3 ((fireW l es).2.map AWatch.row))])) := by
  refine zI Try.func4 rfl (by kernel_rfl) (by simp [Try.ntmps4]) ?_; simp only [Try.ntmps4, Try.results4, go_sem]
  (repeat' first
| (with_reducible refine AR.f ?_)
| refine blkA_x (by decide) ?_
| (with_reducible refine AWP.cond rfl ?_ ?_ <;> intro hc <;> (try simp only [hcs, beq_iff_eq, ge_iff_le, gt_iff_lt] at hc))
| ((first | ((first | (with_reducible first | refine zR ?_ | refine zQ (by decide +kernel) ?_ | refine zD (by decide +kernel) ?_ | refine zE (by decide +kernel) ?_ | refine zG (by decide +kernel) ?_)); intro K hK) | ((first | refine zN (cloneWatch_c l h) rfl ?_ ?_ | refine zY (cloneWatch_c l h) ?_ ?_); (focus ((try simp (disch := omega) only [go_sem, wrap_n]) <;> (try omega) <;> fail))) | ((first | (with_reducible refine aunder_i ?_ ?_ <;> intro hg) | with_reducible intro hg) <;> (first | (exfalso; simp at hg; done) | (have hg' := hg; (try simp only [hcs, beq_iff_eq, ge_iff_le, gt_iff_lt] at hg'); (try simp only [hg]))))) <;> (try simp (disch := omega) only [go_sem, wrap_n]) <;> (repeat' with_reducible refine And.intro ?_ ?_) <;> (try (with_reducible refine hK _ ?_; clear hK K)))
| omega)
  refine AWP.weaken (SImp.nilOwnC 1 0 3 rfl rfl) ?_
  simp only [go_sem]
  refine AWP.loopB (ι := Nat) (fun k => k ≤ es.length) (fun k => es.length - k) [12, 13] (fun k => [(6, .osl 0 3 0 (fireW l (es.take k)).2.length), (7, .ptr 1 0), (14, I k)]) (fun k => [.rows 3 ((fireW l (es.take k)).2.map AWatch.row), .cells [.osl 2 3 0 (fireW l (es.take k)).1.length], .rows 3 ((fireW l (es.take k)).1.map ANote.row)]) 0 ?_ ?_ ?_
  · omega
  · simp only [go_sem]; (refine SImp.same ?_; simp (disch := omega) only [go_sem, wrap_n, Int.natCast_add, fireW, List.foldl_nil])
  intro k hk
  simp only [go_sem]
  by_cases hk2 : k < es.length
  case neg =>
    have hke : k = es.length := by omega
    subst hke
    rw [List.take_length]
    generalize hpe : fireW l es = p
    obtain ⟨ns, ws⟩ := p
    have t1 : List.take ns.length (ns.map ANote.row) = ns.map ANote.row := List.take_of_length_le (by simp)
    have t2 : List.take ws.length (ws.map AWatch.row) = ws.map AWatch.row := List.take_of_length_le (by simp)
    have hcl := clipW_c ws (by have := fire_len l es; rw [hpe] at this; simp only at this; omega)
    (repeat' first
  | (with_reducible refine AR.f ?_)
  | refine blkA_x (by decide) ?_
  | (with_reducible refine AWP.cond rfl ?_ ?_ <;> intro hc <;> (try simp only [hcs, beq_iff_eq, ge_iff_le, gt_iff_lt] at hc))
  | ((first | ((first | refine zP ((Plan.takes [1] (.fork 0 (Plan.takes [2, 3, 4] .done) 2 (Plan.takes [0, 3, 4] .done)))) (by decide +kernel) ?_ | (with_reducible first | refine zR ?_ | refine zQ (by decide +kernel) ?_ | refine zD (by decide +kernel) ?_ | refine zE (by decide +kernel) ?_ | refine zG (by decide +kernel) ?_)); intro K hK) | ((first | refine zN hcl rfl ?_ ?_ | refine zY hcl ?_ ?_); (focus ((try simp (disch := omega) only [go_sem, wrap_n, t1, t2]) <;> (try omega) <;> fail))) | ((first | (with_reducible refine aunder_i ?_ ?_ <;> intro hg) | with_reducible intro hg) <;> (first | (exfalso; simp at hg; done) | (have hg' := hg; (try simp only [hcs, beq_iff_eq, ge_iff_le, gt_iff_lt] at hg'); (try simp only [hg]))))) <;> (try simp (disch := omega) only [go_sem, wrap_n, t1, t2]) <;> (repeat' with_reducible refine And.intro ?_ ?_) <;> (try (with_reducible refine hK _ ?_; clear hK K)))
  | omega)
    all_goals (refine zF rfl ?_ ?_ ?_ ?_; (iterate 3 (focus ((try simp (disch := omega) only [go_sem, wrap_n, t1, t2]) <;> (try omega) <;> fail))); (try simp (disch := omega) only [go_sem, wrap_n, t1, t2, I, B, S, zj]))
  have hs := fire_snoc l es k hk2
  have hl := fire_len l (es.take k)
  generalize fireW l (es.take k) = p at hs hl ⊢
  obtain ⟨ns, ws⟩ := p
  simp only at hl ⊢
  (repeat' first
| (with_reducible refine AR.f ?_)
| refine blkA_x (by decide) ?_
| (with_reducible refine AWP.cond rfl ?_ ?_ <;> intro hc <;> (try simp only [hcs, beq_iff_eq, ge_iff_le, gt_iff_lt] at hc))
| (refine acallHK_in fun Kk hKk => (acall_of tabOk Try.func10 rfl (by kernel_rfl) (by simp [Try.ntmps10]) ?_); simp only [Try.ntmps10, Try.results10, List.toList_toArray, apar, List.length_nil, List.length_cons, Nat.reduceAdd, List.length_append, List.length_set, go_sem])
| (refine acallHK_in fun Kk hKk => (acall_of tabOk Try.func14 rfl (by kernel_rfl) (by simp [Try.ntmps14]) ?_); simp only [Try.ntmps14, Try.results14, List.toList_toArray, apar, List.length_nil, List.length_cons, Nat.reduceAdd, List.length_append, List.length_set, go_sem])
| ((first | ((first | (with_reducible first | refine zR ?_ | refine zQ (by decide +kernel) ?_ | refine zD (by decide +kernel) ?_ | refine zE (by decide +kernel) ?_ | refine zG (by decide +kernel) ?_)); intro K hK) | (refine aend_in (v := ?_) hKk (by first | exact .inl rfl | exact .inr rfl) ?_ ?_ ?_; rotate_left; (focus ((try simp (disch := omega) only [go_sem, wrap_n]) <;> (try omega) <;> fail)); (focus ((try simp (disch := omega) only [go_sem, wrap_n]) <;> (first | done | exact rfl))); clear hKk Kk) | ((first | (with_reducible refine aunder_i ?_ ?_ <;> intro hg) | with_reducible intro hg) <;> (first | (exfalso; simp at hg; done) | (have hg' := hg; (try simp only [hcs, beq_iff_eq, ge_iff_le, gt_iff_lt] at hg'); (try simp only [hg]))))) <;> (try simp (disch := omega) only [go_sem, wrap_n]) <;> (repeat' with_reducible refine And.intro ?_ ?_) <;> (try (with_reducible refine hK _ ?_; clear hK K)))
| omega)
  generalize es.getD k default = e at hs ⊢
  refine AWP.loopB (ι := Nat) (fun i => i ≤ ws.length ∧ ∀ j, j < i → touW e (ws.getD j default) = false) (fun i => ws.length - i) [0, 1, 7] (fun i => [(8, I i)]) (fun i => [.rows 3 (ws.map AWatch.row), .cells [.osl 2 3 0 ns.length], .rows 3 (ns.map ANote.row), .cells [I e.kind, S e.path]]) 0 ?_ ?_ ?_
  · exact ⟨by omega, fun j hj => by omega⟩
  · simp only [go_sem]; (refine SImp.same ?_; simp (disch := omega) only [go_sem, wrap_n, Int.natCast_add])
  intro i ⟨hi, hi2⟩
  simp only [go_sem]
  by_cases hi3 : i < ws.length
  case neg =>
    have hie : i = ws.length := by omega
    subst hie
    obtain ⟨q1, q2⟩ := kept_none e ws ws.length hi2 (Nat.le_refl _)
    rw [List.take_length] at q1 q2
    (repeat' first
  | (with_reducible refine AR.f ?_)
  | refine blkA_x (by decide) ?_
  | (with_reducible refine AWP.cond rfl ?_ ?_ <;> intro hc <;> (try simp only [hcs, beq_iff_eq, ge_iff_le, gt_iff_lt] at hc))
  | (refine acallHK_in fun Kk hKk => (acall_of tabOk Try.func11 rfl (by kernel_rfl) (by simp [Try.ntmps11]) ?_); simp only [Try.ntmps11, Try.results11, List.toList_toArray, apar, List.length_nil, List.length_cons, Nat.reduceAdd, List.length_append, List.length_set, go_sem])
  | ((first | ((first | (with_reducible first | refine zR ?_ | refine zQ (by decide +kernel) ?_ | refine zD (by decide +kernel) ?_ | refine zE (by decide +kernel) ?_ | refine zG (by decide +kernel) ?_)); intro K hK) | (refine aend_in (v := ?_) hKk (by first | exact .inl rfl | exact .inr rfl) ?_ ?_ ?_; rotate_left; (focus ((try simp (disch := omega) only [go_sem, wrap_n]) <;> (try omega) <;> fail)); (focus ((try simp (disch := omega) only [go_sem, wrap_n]) <;> (first | done | exact rfl))); clear hKk Kk) | ((first | (with_reducible refine aunder_i ?_ ?_ <;> intro hg) | with_reducible intro hg) <;> (first | (exfalso; simp at hg; done) | (have hg' := hg; (try simp only [hcs, beq_iff_eq, ge_iff_le, gt_iff_lt] at hg'); (try simp only [hg]))))) <;> (try simp (disch := omega) only [go_sem, wrap_n]) <;> (repeat' with_reducible refine And.intro ?_ ?_) <;> (try (with_reducible refine hK _ ?_; clear hK K)))
  | omega)
    refine ⟨k + 1, by omega, by omega, ?_⟩
    rw [hs]
    simp only [stepF, q1, q2, List.append_nil]
    (refine zV [0, 1, 2] rfl rfl rfl rfl ?_ ?_ <;> simp (disch := omega) only [go_sem, wrap_n, Int.natCast_add] <;> (try rfl))
  have hrw : ∀ z, List.getD (List.map AWatch.row ws) i z = (ws.getD i default).row := fun z => AWatch.rgetD ws i z hi3
  by_cases hh : touW e (ws.getD i default) = true
  case neg =>
    have ht := (touches_c (ws.getD i default) e).re (congrArg B (eq_false_of_ne_true hh))
    (repeat' first
  | (with_reducible refine AR.f ?_)
  | refine blkA_x (by decide) ?_
  | (with_reducible refine AWP.cond rfl ?_ ?_ <;> intro hc <;> (try simp only [hcs, beq_iff_eq, ge_iff_le, gt_iff_lt] at hc))
  | (refine acallHK_in fun Kk hKk => (acall_of tabOk Try.func11 rfl (by kernel_rfl) (by simp [Try.ntmps11]) ?_); simp only [Try.ntmps11, Try.results11, List.toList_toArray, apar, List.length_nil, List.length_cons, Nat.reduceAdd, List.length_append, List.length_set, go_sem])
  | ((first | ((first | (with_reducible first | refine zR ?_ | refine zQ (by decide +kernel) ?_ | refine zD (by decide +kernel) ?_ | refine zE (by decide +kernel) ?_ | refine zG (by decide +kernel) ?_)); intro K hK) | ((first | refine zA ht ?_ ?_ ?_ ?_ ?_); (focus exact rfl); (focus exact rfl); iterate 2 (focus ((try simp (disch := omega) only [go_sem, wrap_n, hrw, AWatch.row]) <;> (try omega) <;> fail))) | ((first | refine zX ht rfl ?_ ?_); (focus ((try simp (disch := omega) only [go_sem, wrap_n, hrw, AWatch.row]) <;> (try omega) <;> fail))) | (refine aend_in (v := ?_) hKk (by first | exact .inl rfl | exact .inr rfl) ?_ ?_ ?_; rotate_left; (focus ((try simp (disch := omega) only [go_sem, wrap_n, hrw, AWatch.row]) <;> (try omega) <;> fail)); (focus ((try simp (disch := omega) only [go_sem, wrap_n, hrw, AWatch.row]) <;> (first | done | exact rfl))); clear hKk Kk) | ((first | (with_reducible refine aunder_i ?_ ?_ <;> intro hg) | with_reducible intro hg) <;> (first | (exfalso; simp at hg; done) | (have hg' := hg; (try simp only [hcs, beq_iff_eq, ge_iff_le, gt_iff_lt] at hg'); (try simp only [hg]))))) <;> (try simp (disch := omega) only [go_sem, wrap_n, hrw, AWatch.row]) <;> (repeat' with_reducible refine And.intro ?_ ?_) <;> (try (with_reducible refine hK _ ?_; clear hK K)))
  | omega)
    refine ⟨i + 1, ⟨by omega, fun j hj => ?_⟩, by omega, ?_⟩
    · by_cases ej : j = i
      · subst ej; exact eq_false_of_ne_true hh
      · exact hi2 j (by omega)
    (refine zV [0, 1, 2, 3] rfl rfl rfl rfl ?_ ?_ <;> simp (disch := omega) only [go_sem, wrap_n, Int.natCast_add] <;> (try rfl))
  have ht := (touches_c (ws.getD i default) e).re (congrArg B hh)
  obtain ⟨q1, q2⟩ := kept_none e ws i hi2 hi
  have hk0 : keptW e (ws.take (i + 1)) = ws.take i := by rw [kept_snoc e ws i hi3, if_pos hh, q1]
  have ht0 : toldW e (ws.take (i + 1)) = [⟨(ws.getD i default).session, e⟩] := by rw [told_snoc e ws i hi3, if_pos hh, q2]; rfl
  have hmin : (ws.take i).length = i := by rw [List.length_take]; omega
  (repeat' first
| (with_reducible refine AR.f ?_)
| refine blkA_x (by decide) ?_
| (with_reducible refine AWP.cond rfl ?_ ?_ <;> intro hc <;> (try simp only [hcs, beq_iff_eq, ge_iff_le, gt_iff_lt] at hc))
| (refine acallHK_in fun Kk hKk => (acall_of tabOk Try.func11 rfl (by kernel_rfl) (by simp [Try.ntmps11]) ?_); simp only [Try.ntmps11, Try.results11, List.toList_toArray, apar, List.length_nil, List.length_cons, Nat.reduceAdd, List.length_append, List.length_set, go_sem])
| ((first | ((first | (with_reducible first | refine zR ?_ | refine zQ (by decide +kernel) ?_ | refine zD (by decide +kernel) ?_ | refine zE (by decide +kernel) ?_ | refine zG (by decide +kernel) ?_)); intro K hK) | ((first | refine zA ht ?_ ?_ ?_ ?_ ?_); (focus exact rfl); (focus exact rfl); iterate 2 (focus ((try simp (disch := omega) only [go_sem, wrap_n, hrw, AWatch.row]) <;> (try omega) <;> fail))) | ((first | refine zX ht rfl ?_ ?_); (focus ((try simp (disch := omega) only [go_sem, wrap_n, hrw, AWatch.row]) <;> (try omega) <;> fail))) | (refine aend_in (v := ?_) hKk (by first | exact .inl rfl | exact .inr rfl) ?_ ?_ ?_; rotate_left; (focus ((try simp (disch := omega) only [go_sem, wrap_n, hrw, AWatch.row]) <;> (try omega) <;> fail)); (focus ((try simp (disch := omega) only [go_sem, wrap_n, hrw, AWatch.row]) <;> (first | done | exact rfl))); clear hKk Kk) | ((first | (with_reducible refine aunder_i ?_ ?_ <;> intro hg) | with_reducible intro hg) <;> (first | (exfalso; simp at hg; done) | (have hg' := hg; (try simp only [hcs, beq_iff_eq, ge_iff_le, gt_iff_lt] at hg'); (try simp only [hg]))))) <;> (try simp (disch := omega) only [go_sem, wrap_n, hrw, AWatch.row]) <;> (repeat' with_reducible refine And.intro ?_ ?_) <;> (try (with_reducible refine hK _ ?_; clear hK K)))
| omega)
  refine AWP.loopB (ι := Nat × List AWatch) (fun v => i < v.1 ∧ v.1 ≤ ws.length ∧ v.2.length = ws.length ∧ v.2.take (keptW e (ws.take v.1)).length = keptW e (ws.take v.1) ∧ v.2.drop v.1 = ws.drop v.1 ∧ (keptW e (ws.take v.1)).length < v.1) (fun v => ws.length - v.1) [0, 1] (fun v => [(5, I (keptW e (ws.take v.1)).length), (6, I v.1)]) (fun v => [.rows 3 (v.2.map AWatch.row), .cells [.osl 4 3 0 (ns ++ toldW e (ws.take v.1)).length], .dead, .cells [I e.kind, S e.path], .rows 3 ((ns ++ toldW e (ws.take v.1)).map ANote.row)]) (i + 1, ws) ?_ ?_ ?_
  · simp only [hk0, hmin]
    exact ⟨by omega, by omega, trivial, trivial, trivial, by omega⟩
  · simp only [go_sem, hk0, ht0, hmin]; (refine zV [0, 1, 2, 3, 6] rfl rfl rfl rfl ?_ ?_ <;> simp (disch := omega) only [go_sem, wrap_n, Int.natCast_add, ANote.row, List.map_append, List.map_cons, List.map_nil] <;> (try rfl))
  intro ⟨j, R⟩ ⟨j1, j2, r1, r2, r3, r4⟩
  simp only at j1 j2 r1 r2 r3 r4
  simp only [go_sem]
  by_cases hj3 : j < ws.length
  · have hRj : ∀ z, List.getD (List.map AWatch.row R) j z = (ws.getD j default).row := fun z => by
      rw [AWatch.rgetD R j z (by omega)]
      have : (R.drop j).getD 0 default = (ws.drop j).getD 0 default := by rw [r3]
      rw [List.getD_eq_getElem?_getD, List.getD_eq_getElem?_getD, List.getElem?_drop, List.getElem?_drop, Nat.add_zero] at this
      rw [List.getD_eq_getElem?_getD, List.getD_eq_getElem?_getD, this]
    have hks := kept_snoc e ws j hj3
    have hts := told_snoc e ws j hj3
    have hkl := kept_told e (ws.take j)
    have htn : List.take (ns.length + (toldW e (ws.take j)).length) (List.map ANote.row (ns ++ toldW e (ws.take j))) = List.map ANote.row (ns ++ toldW e (ws.take j)) := List.take_of_length_le (by simp)
    rw [List.length_take] at hkl
    by_cases hh2 : touW e (ws.getD j default) = true
    · have ht2 := (touches_c (ws.getD j default) e).re (congrArg B hh2)
      rw [if_pos hh2] at hks hts
      (repeat' first
    | (with_reducible refine AR.f ?_)
    | refine blkA_x (by decide) ?_
    | (with_reducible refine AWP.cond rfl ?_ ?_ <;> intro hc <;> (try simp only [hcs, beq_iff_eq, ge_iff_le, gt_iff_lt] at hc))
    | (refine acallHK_in fun Kk hKk => (acall_of tabOk Try.func11 rfl (by kernel_rfl) (by simp [Try.ntmps11]) ?_); simp only [Try.ntmps11, Try.results11, List.toList_toArray, apar, List.length_nil, List.length_cons, Nat.reduceAdd, List.length_append, List.length_set, go_sem])
    | ((first | ((first | (with_reducible first | refine zR ?_ | refine zQ (by decide +kernel) ?_ | refine zD (by decide +kernel) ?_ | refine zE (by decide +kernel) ?_ | refine zG (by decide +kernel) ?_)); intro K hK) | ((first | refine zA ht2 ?_ ?_ ?_ ?_ ?_); (focus exact rfl); (focus exact rfl); iterate 2 (focus ((try simp (disch := omega) only [go_sem, wrap_n, hRj, AWatch.row, r1, htn]) <;> (try omega) <;> fail))) | ((first | refine zX ht2 rfl ?_ ?_); (focus ((try simp (disch := omega) only [go_sem, wrap_n, hRj, AWatch.row, r1, htn]) <;> (try omega) <;> fail))) | (refine aend_in (v := ?_) hKk (by first | exact .inl rfl | exact .inr rfl) ?_ ?_ ?_; rotate_left; (focus ((try simp (disch := omega) only [go_sem, wrap_n, hRj, AWatch.row, r1, htn]) <;> (try omega) <;> fail)); (focus ((try simp (disch := omega) only [go_sem, wrap_n, hRj, AWatch.row, r1, htn]) <;> (first | done | exact rfl))); clear hKk Kk) | ((first | (with_reducible refine aunder_i ?_ ?_ <;> intro hg) | with_reducible intro hg) <;> (first | (exfalso; simp at hg; done) | (have hg' := hg; (try simp only [hcs, beq_iff_eq, ge_iff_le, gt_iff_lt] at hg'); (try simp only [hg]))))) <;> (try simp (disch := omega) only [go_sem, wrap_n, hRj, AWatch.row, r1, htn]) <;> (repeat' with_reducible refine And.intro ?_ ?_) <;> (try (with_reducible refine hK _ ?_; clear hK K)))
    | omega)
      refine ⟨(j + 1, R), ⟨by omega, by omega, r1, by simp only [hks]; exact r2, ?_, by simp only [hks]; omega⟩, by simp only; omega, ?_⟩
      · simp only; rw [← List.drop_drop, ← List.drop_drop, r3]
      simp only [hks, hts]
      (refine zV [0, 1, 2, 3, 8] rfl rfl rfl rfl ?_ ?_ <;> simp (disch := omega) only [go_sem, wrap_n, Int.natCast_add, ANote.row, List.map_append, List.map_cons, List.map_nil, List.append_assoc, Nat.add_assoc] <;> (try rfl))
    have ht2 := (touches_c (ws.getD j default) e).re (congrArg B (eq_false_of_ne_true hh2))
    rw [if_neg hh2] at hks hts
    have hcl : (keptW e (ws.take j)).length < R.length := by omega
    (repeat' first
  | (with_reducible refine AR.f ?_)
  | refine blkA_x (by decide) ?_
  | (with_reducible refine AWP.cond rfl ?_ ?_ <;> intro hc <;> (try simp only [hcs, beq_iff_eq, ge_iff_le, gt_iff_lt] at hc))
  | (refine acallHK_in fun Kk hKk => (acall_of tabOk Try.func11 rfl (by kernel_rfl) (by simp [Try.ntmps11]) ?_); simp only [Try.ntmps11, Try.results11, List.toList_toArray, apar, List.length_nil, List.length_cons, Nat.reduceAdd, List.length_append, List.length_set, go_sem])
  | ((first | ((first | (with_reducible first | refine zR ?_ | refine zQ (by decide +kernel) ?_ | refine zD (by decide +kernel) ?_ | refine zE (by decide +kernel) ?_ | refine zG (by decide +kernel) ?_)); intro K hK) | ((first | refine zA ht2 ?_ ?_ ?_ ?_ ?_); (focus exact rfl); (focus exact rfl); iterate 2 (focus ((try simp (disch := omega) only [go_sem, wrap_n, hRj, AWatch.row, r1]) <;> (try omega) <;> fail))) | ((first | refine zX ht2 rfl ?_ ?_); (focus ((try simp (disch := omega) only [go_sem, wrap_n, hRj, AWatch.row, r1]) <;> (try omega) <;> fail))) | (refine aend_in (v := ?_) hKk (by first | exact .inl rfl | exact .inr rfl) ?_ ?_ ?_; rotate_left; (focus ((try simp (disch := omega) only [go_sem, wrap_n, hRj, AWatch.row, r1]) <;> (try omega) <;> fail)); (focus ((try simp (disch := omega) only [go_sem, wrap_n, hRj, AWatch.row, r1]) <;> (first | done | exact rfl))); clear hKk Kk) | ((first | (with_reducible refine aunder_i ?_ ?_ <;> intro hg) | with_reducible intro hg) <;> (first | (exfalso; simp at hg; done) | (have hg' := hg; (try simp only [hcs, beq_iff_eq, ge_iff_le, gt_iff_lt] at hg'); (try simp only [hg]))))) <;> (try simp (disch := omega) only [go_sem, wrap_n, hRj, AWatch.row, r1]) <;> (repeat' with_reducible refine And.intro ?_ ?_) <;> (try (with_reducible refine hK _ ?_; clear hK K)))
  | omega)
    refine ⟨(j + 1, R.set (keptW e (ws.take j)).length (ws.getD j default)), ⟨by omega, by omega, by simp only [List.length_set]; exact r1, ?_, ?_, by simp only [hks, List.length_append, List.length_singleton]; omega⟩, by simp only; omega, ?_⟩
    · simp only [hks, List.length_append, List.length_singleton]
      rw [take_snocD _ _ default (by rw [List.length_set]; exact hcl), List.take_set_of_le (Nat.le_refl _), r2]
      congr 1
      rw [List.getD_eq_getElem?_getD, List.getElem?_set_self hcl]; rfl
    · simp only
      rw [List.drop_set_of_lt (by omega), ← List.drop_drop, ← List.drop_drop, r3]
    simp only [hks, hts]
    (refine zV [0, 1, 2, 3, 4] rfl rfl rfl rfl ?_ ?_ <;> simp (disch := omega) only [go_sem, wrap_n, Int.natCast_add, AWatch.row, List.map_set, List.length_append] <;> (try rfl))
  have hje : j = ws.length := by omega
  subst hje
  rw [List.take_length] at r2 r4 ⊢
  (repeat' first
| (with_reducible refine AR.f ?_)
| refine blkA_x (by decide) ?_
| (with_reducible refine AWP.cond rfl ?_ ?_ <;> intro hc <;> (try simp only [hcs, beq_iff_eq, ge_iff_le, gt_iff_lt] at hc))
| (refine acallHK_in fun Kk hKk => (acall_of tabOk Try.func11 rfl (by kernel_rfl) (by simp [Try.ntmps11]) ?_); simp only [Try.ntmps11, Try.results11, List.toList_toArray, apar, List.length_nil, List.length_cons, Nat.reduceAdd, List.length_append, List.length_set, go_sem])
| ((first | ((first | (with_reducible first | refine zR ?_ | refine zQ (by decide +kernel) ?_ | refine zD (by decide +kernel) ?_ | refine zE (by decide +kernel) ?_ | refine zG (by decide +kernel) ?_)); intro K hK) | (refine aend_in (v := ?_) hKk (by first | exact .inl rfl | exact .inr rfl) ?_ ?_ ?_; rotate_left; (focus ((try simp (disch := omega) only [go_sem, wrap_n, r1, r4]) <;> (try omega) <;> fail)); (focus ((try simp (disch := omega) only [go_sem, wrap_n, r1, r4]) <;> (first | done | exact rfl))); clear hKk Kk) | ((first | (with_reducible refine aunder_i ?_ ?_ <;> intro hg) | with_reducible intro hg) <;> (first | (exfalso; simp at hg; done) | (have hg' := hg; (try simp only [hcs, beq_iff_eq, ge_iff_le, gt_iff_lt] at hg'); (try simp only [hg]))))) <;> (try simp (disch := omega) only [go_sem, wrap_n, r1, r4]) <;> (repeat' with_reducible refine And.intro ?_ ?_) <;> (try (with_reducible refine hK _ ?_; clear hK K)))
| omega)
  have htk : ∀ X : List (List DV), List.take (keptW e ws).length (List.take (keptW e ws).length (List.map AWatch.row R) ++ X) = List.map AWatch.row (keptW e ws) := fun X => by
    rw [List.take_append_of_le_length (by rw [List.length_take, List.length_map]; omega), List.take_take, Nat.min_self, ← List.map_take, r2]
  refine ⟨k + 1, by omega, by omega, SImp.trans (SImp.tail 0 (keptW e ws).length rfl) ?_⟩
  rw [hs]
  simp only [stepF, List.append_assoc]
  (refine zV [0, 1, 4] rfl rfl rfl rfl ?_ ?_ <;> simp (disch := omega) only [go_sem, wrap_n, Int.natCast_add, htk] <;> (try rfl))
set_option maxHeartbeats 8000000 in
theorem ref_fire_c (l : List AWatch) (es : List AEvent) (h : l.length * 32 ≤ 140737488351232) (he : es.length * 24 ≤ 140737488351232) : acall Try.prog [] 6 [.d (.sl 3 (l.map AWatch.row)), .d (.sl 2 (es.map AEvent.row))]
    (ret (.tup [.d (.sl 3 ((fireW l es).1.map ANote.row)), .d (.sl 3 ((fireW l es).2.map AWatch.row))])) := by
  refine zI Try.func6 rfl (by kernel_rfl) (by simp [Try.ntmps6]) ?_; simp only [Try.ntmps6, Try.results6, go_sem]
  (repeat' first
| (with_reducible refine AR.f ?_)
| refine blkA_x (by decide) ?_
| (with_reducible refine AWP.cond rfl ?_ ?_ <;> intro hc <;> (try simp only [hcs, beq_iff_eq, ge_iff_le, gt_iff_lt] at hc))
| ((first | ((first | (with_reducible first | refine zR ?_ | refine zQ (by decide +kernel) ?_ | refine zD (by decide +kernel) ?_ | refine zE (by decide +kernel) ?_ | refine zG (by decide +kernel) ?_)); intro K hK) | ((first | (with_reducible refine aunder_i ?_ ?_ <;> intro hg) | with_reducible intro hg) <;> (first | (exfalso; simp at hg; done) | (have hg' := hg; (try simp only [hcs, beq_iff_eq, ge_iff_le, gt_iff_lt] at hg'); (try simp only [hg]))))) <;> (try simp (disch := omega) only [go_sem, wrap_n]) <;> (repeat' with_reducible refine And.intro ?_ ?_) <;> (try (with_reducible refine hK _ ?_; clear hK K)))
| omega)
  refine AWP.weaken (SImp.nilOwn 6 3 rfl) ?_
  simp only [go_sem]
  refine AWP.loopB (ι := Nat) (fun k => k ≤ es.length) (fun k => es.length - k) [14, 15] (fun k => [(0, .d (.sl 3 ((fireW l (es.take k)).2.map AWatch.row))), (6, .osl 0 3 0 (fireW l (es.take k)).1.length), (16, I k)]) (fun k => [.rows 3 ((fireW l (es.take k)).1.map ANote.row)]) 0 ?_ ?_ ?_
  · omega
  · simp only [go_sem]; (refine SImp.same ?_; simp (disch := omega) only [go_sem, wrap_n, Int.natCast_add, fireW, List.foldl_nil])
  intro k hk
  simp only [go_sem]
  by_cases hk2 : k < es.length
  case neg =>
    have hke : k = es.length := by omega
    subst hke
    rw [List.take_length]
    generalize hpe : fireW l es = p
    obtain ⟨ns, ws⟩ := p
    have t1 : List.take ns.length (ns.map ANote.row) = ns.map ANote.row := List.take_of_length_le (by simp)
    have t2 : List.take ws.length (ws.map AWatch.row) = ws.map AWatch.row := List.take_of_length_le (by simp)
    have hwl : ws.length * 32 ≤ 140737488351232 := by have := fire_len l es; rw [hpe] at this; simp only at this; omega
    (repeat' first
  | (with_reducible refine AR.f ?_)
  | refine blkA_x (by decide) ?_
  | (with_reducible refine AWP.cond rfl ?_ ?_ <;> intro hc <;> (try simp only [hcs, beq_iff_eq, ge_iff_le, gt_iff_lt] at hc))
  | ((first | ((first | (with_reducible first | refine zR ?_ | refine zQ (by decide +kernel) ?_ | refine zD (by decide +kernel) ?_ | refine zE (by decide +kernel) ?_ | refine zG (by decide +kernel) ?_)); intro K hK) | ((first | (with_reducible refine aunder_i ?_ ?_ <;> intro hg) | with_reducible intro hg) <;> (first | (exfalso; simp at hg; done) | (have hg' := hg; (try simp only [hcs, beq_iff_eq, ge_iff_le, gt_iff_lt] at hg'); (try simp only [hg]))))) <;> (try simp (disch := omega) only [go_sem, wrap_n, t1, t2]) <;> (repeat' with_reducible refine And.intro ?_ ?_) <;> (try (with_reducible refine hK _ ?_; clear hK K)))
  | omega)
    all_goals (refine zF rfl ?_ ?_ ?_ ?_; (iterate 3 (focus ((try simp (disch := omega) only [go_sem, wrap_n, t1, t2]) <;> (try omega) <;> fail))); (try simp (disch := omega) only [go_sem, wrap_n, t1, t2, I, B, S, zj]))
  have hs := fire_snoc l es k hk2
  have hl := fire_len l (es.take k)
  generalize fireW l (es.take k) = p at hs hl ⊢
  obtain ⟨ns, ws⟩ := p
  simp only at hl ⊢
  (repeat' first
| (with_reducible refine AR.f ?_)
| refine blkA_x (by decide) ?_
| (with_reducible refine AWP.cond rfl ?_ ?_ <;> intro hc <;> (try simp only [hcs, beq_iff_eq, ge_iff_le, gt_iff_lt] at hc))
| ((first | ((first | (with_reducible first | refine zR ?_ | refine zQ (by decide +kernel) ?_ | refine zD (by decide +kernel) ?_ | refine zE (by decide +kernel) ?_ | refine zG (by decide +kernel) ?_)); intro K hK) | ((first | (with_reducible refine aunder_i ?_ ?_ <;> intro hg) | with_reducible intro hg) <;> (first | (exfalso; simp at hg; done) | (have hg' := hg; (try simp only [hcs, beq_iff_eq, ge_iff_le, gt_iff_lt] at hg'); (try simp only [hg]))))) <;> (try simp (disch := omega) only [go_sem, wrap_n]) <;> (repeat' with_reducible refine And.intro ?_ ?_) <;> (try (with_reducible refine hK _ ?_; clear hK K)))
| omega)
  generalize es.getD k default = e at hs ⊢
  refine AWP.weaken (SImp.nilOwn 9 3 rfl) ?_
  simp only [go_sem]
  refine AWP.loopB (ι := Nat) (fun j => j ≤ ws.length) (fun j => ws.length - j) [14, 15, 16, 20, 21] (fun j => [(6, .osl 0 3 0 (ns ++ toldW e (ws.take j)).length), (8, .ptr 1 0), (9, .osl 2 3 0 (keptW e (ws.take j)).length), (22, I j)]) (fun j => [.rows 3 ((ns ++ toldW e (ws.take j)).map ANote.row), .cells [I e.kind, S e.path], .rows 3 ((keptW e (ws.take j)).map AWatch.row)]) 0 ?_ ?_ ?_
  · omega
  · simp only [go_sem, toldW, keptW, List.take_zero, List.filter_nil, List.map_nil, List.append_nil]; (refine SImp.same ?_; simp (disch := omega) only [go_sem, wrap_n, Int.natCast_add])
  intro j hj
  simp only [go_sem]
  by_cases hj3 : j < ws.length
  case neg =>
    have hje : j = ws.length := by omega
    subst hje
    rw [List.take_length]
    (repeat' first
  | (with_reducible refine AR.f ?_)
  | refine blkA_x (by decide) ?_
  | (with_reducible refine AWP.cond rfl ?_ ?_ <;> intro hc <;> (try simp only [hcs, beq_iff_eq, ge_iff_le, gt_iff_lt] at hc))
  | ((first | ((first | (with_reducible first | refine zR ?_ | refine zQ (by decide +kernel) ?_ | refine zD (by decide +kernel) ?_ | refine zE (by decide +kernel) ?_ | refine zG (by decide +kernel) ?_)); intro K hK) | ((first | (with_reducible refine aunder_i ?_ ?_ <;> intro hg) | with_reducible intro hg) <;> (first | (exfalso; simp at hg; done) | (have hg' := hg; (try simp only [hcs, beq_iff_eq, ge_iff_le, gt_iff_lt] at hg'); (try simp only [hg]))))) <;> (try simp (disch := omega) only [go_sem, wrap_n]) <;> (repeat' with_reducible refine And.intro ?_ ?_) <;> (try (with_reducible refine hK _ ?_; clear hK K)))
  | omega)
    refine ⟨k + 1, by omega, by omega, SImp.trans (SImp.frz1 0 2 (fun j hj => by cases hj) rfl rfl (by simp)) ?_⟩
    rw [hs]
    have t2 : List.take (keptW e ws).length ((keptW e ws).map AWatch.row) = (keptW e ws).map AWatch.row := List.take_of_length_le (by simp)
    simp only [stepF]
    (refine zV [0] rfl rfl rfl rfl ?_ ?_ <;> simp (disch := omega) only [go_sem, wrap_n, Int.natCast_add, t2] <;> (try rfl))
  have hRj : ∀ z, List.getD (List.map AWatch.row ws) j z = (ws.getD j default).row := fun z => AWatch.rgetD ws j z hj3
  have hks := kept_snoc e ws j hj3
  have hts := told_snoc e ws j hj3
  have hkl := kept_told e (ws.take j)
  rw [List.length_take] at hkl
  have htn : List.take (ns.length + (toldW e (ws.take j)).length) (List.map ANote.row (ns ++ toldW e (ws.take j))) = List.map ANote.row (ns ++ toldW e (ws.take j)) := List.take_of_length_le (by simp)
  have hkn : List.take (keptW e (ws.take j)).length (List.map AWatch.row (keptW e (ws.take j))) = List.map AWatch.row (keptW e (ws.take j)) := List.take_of_length_le (by simp)
  generalize hw : ws.getD j default = w at hRj hks hts
  (repeat' first
| (with_reducible refine AR.f ?_)
| refine blkA_x (by decide) ?_
| (with_reducible refine AWP.cond rfl ?_ ?_ <;> intro hc <;> (try simp only [hcs, beq_iff_eq, ge_iff_le, gt_iff_lt] at hc))
| ((first | ((first | (with_reducible first | refine zR ?_ | refine zQ (by decide +kernel) ?_ | refine zD (by decide +kernel) ?_ | refine zE (by decide +kernel) ?_ | refine zG (by decide +kernel) ?_)); intro K hK) | ((first | (with_reducible refine aunder_i ?_ ?_ <;> intro hg) | with_reducible intro hg) <;> (first | (exfalso; simp at hg; done) | (have hg' := hg; (try simp only [hcs, beq_iff_eq, ge_iff_le, gt_iff_lt] at hg'); (try simp only [hg]))))) <;> (try simp (disch := omega) only [go_sem, wrap_n, hRj, AWatch.row, htn, hkn]) <;> (repeat' with_reducible refine And.intro ?_ ?_) <;> (try (with_reducible refine hK _ ?_; clear hK K)))
| omega)
  · have hh : touW e w = true := by
      unfold touW; rw [if_pos hc.1]
      by_cases e2 : w.kind = 2
      · rw [if_pos e2]; rcases hc.2 with h | h
        · exact absurd e2 h.1
        · simpa using h.2
      · rw [if_neg e2]; rcases hc.2 with h | h
        · have := h.2; simp only [Bool.or_eq_true, decide_eq_true_eq]; omega
        · exact absurd h.1 e2
    rw [if_pos hh] at hks hts
    refine ⟨j + 1, by omega, by omega, ?_⟩
    rw [hks, hts]
    (refine zV [5, 1, 2] rfl rfl rfl rfl ?_ ?_ <;> simp (disch := omega) only [go_sem, wrap_n, Int.natCast_add, ANote.row, List.map_append, List.map_cons, List.map_nil, List.append_assoc, Nat.add_assoc] <;> (try rfl))
  · have hh : ¬ touW e w = true := by
      unfold touW
      by_cases e1 : w.path = e.path
      · rw [if_pos e1]
        have hc2 := hc.resolve_left (fun h => h e1)
        by_cases e2 : w.kind = 2
        · rw [if_pos e2]; have := hc2.2; simp only [Bool.or_eq_true, decide_eq_true_eq]; omega
        · rw [if_neg e2]; have := hc2.1; simp only [Bool.or_eq_true, decide_eq_true_eq]; omega
      · rw [if_neg e1]; decide
    rw [if_neg hh] at hks hts
    refine ⟨j + 1, by omega, by omega, ?_⟩
    rw [hks, hts]
    (refine zV [0, 1, 5] rfl rfl rfl rfl ?_ ?_ <;> simp (disch := omega) only [go_sem, wrap_n, Int.natCast_add, AWatch.row, List.map_append, List.map_cons, List.map_nil, List.length_append] <;> (try rfl))
theorem same_notes_c (a b : List ANote) (h : a.length * 32 ≤ 140737488351232) (h2 : b.length * 32 ≤ 140737488351232) : acall Try.prog [] 7 [.d (.sl 3 (a.map ANote.row)), .d (.sl 3 (b.map ANote.row))] (ret (B (decide (a = b)))) := by
  refine zI Try.func7 rfl (by kernel_rfl) (by simp [Try.ntmps7]) ?_; simp only [Try.ntmps7, Try.results7, go_sem]
  (repeat' first
| (with_reducible refine AR.f ?_)
| refine blkA_x (by decide) ?_
| (with_reducible refine AWP.cond rfl ?_ ?_ <;> intro hc <;> (try simp only [hcs, beq_iff_eq, ge_iff_le, gt_iff_lt] at hc))
| ((first | ((first | (with_reducible first | refine zR ?_ | refine zQ (by decide +kernel) ?_ | refine zD (by decide +kernel) ?_ | refine zE (by decide +kernel) ?_ | refine zG (by decide +kernel) ?_)); intro K hK) | ((first | (with_reducible refine aunder_i ?_ ?_ <;> intro hg) | with_reducible intro hg) <;> (first | (exfalso; simp at hg; done) | (have hg' := hg; (try simp only [hcs, beq_iff_eq, ge_iff_le, gt_iff_lt] at hg'); (try simp only [hg]))))) <;> (try simp (disch := omega) only [go_sem, wrap_n]) <;> (repeat' with_reducible refine And.intro ?_ ?_) <;> (try (with_reducible refine hK _ ?_; clear hK K)))
| omega)
  · (refine zF rfl ?_ ?_ ?_ ?_; (iterate 3 (focus ((try simp (disch := omega) only [go_sem, wrap_n]) <;> (try omega) <;> fail))); (try simp (disch := omega) only [go_sem, wrap_n, I, B, S, zj]))
    symm; rw [decide_eq_false_iff_not]; intro e; subst e; simp at hc
  have h3 := hc
  refine AWP.loopS (ι := Nat) (fun k => k ≤ a.length ∧ ∀ j, j < k → a.getD j default = b.getD j default) (fun k => a.length - k) [0, 1, 12] (fun k => [(13, I k)]) 0 ?_ (by simp (disch := omega) only [go_sem, wrap_n, true_and]) ?_
  · exact ⟨by omega, by omega⟩
  intro k ⟨hk, hk2⟩
  simp only [go_sem]
  (repeat' first
| (with_reducible refine AR.f ?_)
| refine blkA_x (by decide) ?_
| (with_reducible refine AWP.cond rfl ?_ ?_ <;> intro hc <;> (try simp only [hcs, beq_iff_eq, ge_iff_le, gt_iff_lt] at hc))
| ((first | ((first | (with_reducible first | refine zR ?_ | refine zQ (by decide +kernel) ?_ | refine zD (by decide +kernel) ?_ | refine zE (by decide +kernel) ?_ | refine zG (by decide +kernel) ?_)); intro K hK) | ((first | (with_reducible refine aunder_i ?_ ?_ <;> intro hg) | with_reducible intro hg) <;> (first | (exfalso; simp at hg; done) | (have hg' := hg; (try simp only [hcs, beq_iff_eq, ge_iff_le, gt_iff_lt] at hg'); (try simp only [hg]))))) <;> (try simp (disch := omega) only [go_sem, wrap_n, ANote.rgetD]) <;> (repeat' with_reducible refine And.intro ?_ ?_) <;> (try (with_reducible refine hK _ ?_; clear hK K)))
| omega)
  · (refine zF rfl ?_ ?_ ?_ ?_; (iterate 3 (focus ((try simp (disch := omega) only [go_sem, wrap_n]) <;> (try omega) <;> fail))); (try simp (disch := omega) only [go_sem, wrap_n, I, B, S, zj]))
    symm; rw [decide_eq_false_iff_not]; intro e; subst e; simp at hc
  · refine ⟨k + 1, ⟨by omega, fun j hj => ?_⟩, by omega, ?_⟩
    · by_cases e : j = k
      · subst e; first | exact hc | exact (ANote.ext_iff _ _).2 hc | (rw [ANote.ext_iff, AEvent.ext_iff]; simp_all)
      · exact hk2 j (by omega)
    (refine SImp.same ?_; simp (disch := omega) only [go_sem, wrap_n, Int.natCast_add])
  · (refine zF rfl ?_ ?_ ?_ ?_; (iterate 3 (focus ((try simp (disch := omega) only [go_sem, wrap_n]) <;> (try omega) <;> fail))); (try simp (disch := omega) only [go_sem, wrap_n, I, B, S, zj]))
    symm; rw [decide_eq_true_eq]
    exact eq_of_getD (by omega) fun j hj => hk2 j (by omega)
end Go.Proofs.Ytfnilhdofopoeaa
