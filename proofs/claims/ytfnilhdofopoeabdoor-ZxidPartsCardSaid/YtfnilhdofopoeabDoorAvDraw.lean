/- Statements whose order is open, and that write: one walk in the order of the text serves every order. It holds over any program whose types read as the table says. -/
import Derived.Test.YtfnilhdofopoeabDoorAvSound
namespace Go.Proofs.YtfnilhdofopoeabDoor
set_option linter.unusedVariables false
set_option linter.unusedSimpArgs false
open Go Go.RowKit

abbrev Bel (w w' : World) : Prop := Below w.heap.size w w'
theorem bel_refl (w : World) : Bel w w := ⟨rfl, rfl, rfl, Nat.le_refl _, fun _ _ => rfl⟩
theorem bel_trans {w w1 w2 : World} (h : Bel w w1) (h2 : Bel w1 w2) : Bel w w2 :=
  ⟨h2.os.trans h.os, h2.tape.trans h.tape, h2.output.trans h.output, Nat.le_trans h.size h2.size, fun k hk => (h2.block k (Nat.lt_of_lt_of_le hk h.size)).trans (h.block k hk)⟩

theorem getD_both {listed : Array Bool} {i : Nat} (h : listed.getD i true = false) : listed.getD i false = false := by
  rcases Nat.lt_or_ge i listed.size with h' | h'
  · simp [h'] at h ⊢; exact h
  · simp [Array.getElem?_eq_none h'] at h

section
variable {P : Program} {ops : Array Oper} {md : Region.Mode} {Q : Exit → Act → World → Prop} {eff : Nat → Bool}

/-- Whatever order is picked: writing operations from every world that has grown out of this one, the others with one value in all of these. -/
def wpAnyE (P : Program) (md : Region.Mode) (ops : Array Oper) (Q : Exit → Act → World → Prop) (eff : Nat → Bool) : Nat → Array Bool → Act → World → Prop
  | 0, listed, a, w => Region.ready md ops listed = [] ∧ ∀ w', Bel w w' → Q .normal a w'
  | f + 1, listed, a, w => (Region.ready md ops listed = [] → ∀ w', Bel w w' → Q .normal a w') ∧ ∀ i ∈ Region.ready md ops listed,
      if eff i = true then (∀ w', Bel w w' → wpOp P ops Q i (fun a' w2 => wpAnyE P md ops Q eff f (listed.setIfInBounds i true) a' w2) a w')
      else qOp P ops (Bel w) i (fun a' => wpAnyE P md ops Q eff f (listed.setIfInBounds i true) a' w) a

theorem wpAny_of_E : ∀ (f : Nat) (listed : Array Bool) (a : Act) (w w' : World), wpAnyE P md ops Q eff f listed a w → Bel w w' → wpAny P md ops Q f listed a w'
  | 0, _, _, _, w', h, hb => ⟨h.1, h.2 w' hb⟩
  | f + 1, listed, a, w, w', h, hb => by
    refine ⟨fun h0 => h.1 h0 w' hb, fun i hi => ?_⟩
    have := h.2 i hi
    by_cases he : eff i = true
    · rw [if_pos he] at this
      exact wpOp_mono (fun a' w2 h' => wpAny_of_E f _ a' w2 w2 h' (bel_refl _)) (this w' hb)
    · rw [if_neg he] at this
      exact wpOp_of_qOp (C := Bel w) hb (fun a' w2 hw2 h' => wpAny_of_E f _ a' w w2 h' hw2) this

def unl (listed : Array Bool) (j : Nat) : Bool := !listed.getD j true

/-- Every writing operation that has not come up waits for number 'i'. -/
def waitB (md : Region.Mode) (ops : Array Oper) (eff W : Nat → Bool) (listed : Array Bool) (i : Nat) : Bool :=
  (List.range ops.size).all fun j => (!(eff j && unl listed j) || W j) &&
    (!W j || (match ops[j]? with | some oj => oj.after.any fun e => Region.binds md e && (e.on == i || (W e.on && unl listed e.on)) | none => false))

theorem wpAnyE_first {i : Nat} {oi : Oper} {v : Value} {W : Nat → Bool} {w : World} (hi : ops[i]? = some oi) (hsel : ∀ (j : Nat) (o : Oper) cs b, ops[j]? = some o → o.op ≠ .select cs b) (hne : eff i = false) :
    ∀ (f : Nat) (listed : Array Bool) (a : Act),
      (∀ j oj, ops[j]? = some oj → j ≠ i → listed.getD j true = false → (∀ e ∈ oj.after, Region.binds md e = true → e.on ≠ i) → oi.apart ops oj = true) →
      (∀ j oj, ops[j]? = some oj → eff j = true → listed.getD j true = false → W j = true) →
      (∀ j oj, ops[j]? = some oj → W j = true → ∃ e ∈ oj.after, Region.binds md e = true ∧ (e.on = i ∨ (W e.on = true ∧ listed.getD e.on true = false))) →
      i ∈ Region.ready md ops listed → YieldsIn P ops (Bel w) oi v a →
      wpAnyE P md ops Q eff f (listed.setIfInBounds i true) (a.put oi.dst v) w → wpAnyE P md ops Q eff (f + 1) listed a w := by
  have key : ∀ (listed : Array Bool), (∀ j oj, ops[j]? = some oj → W j = true → ∃ e ∈ oj.after, Region.binds md e = true ∧ (e.on = i ∨ (W e.on = true ∧ listed.getD e.on true = false))) →
      i ∈ Region.ready md ops listed → ∀ j, j ∈ Region.ready md ops listed → W j = false := by
    intro listed hW hr j hj
    cases hwj : W j with
    | false => rfl
    | true =>
      obtain ⟨_, oj, hoj, hall⟩ := mem_ready.1 hj
      obtain ⟨e, he, hb, h⟩ := hW j oj hoj hwj
      have h1 := hall e he hb
      have h0 : listed.getD e.on true = false := by
        rcases h with h | h
        · rw [h]; exact (mem_ready.1 hr).1
        · exact h.2
      rw [getD_both h0] at h1
      cases h1
  intro f
  induction f with
  | zero =>
    intro listed a _ hE hW hr hy H
    refine ⟨fun h => (by rw [h] at hr; cases hr), fun j hj => ?_⟩
    by_cases hji : j = i
    · subst hji; rw [if_neg (by simp [hne])]; exact hy.qOp hi H
    · have := ready_mono hj hji
      rw [H.1] at this
      cases this
  | succ f ih =>
    intro listed a hfree hE hW hr hy H
    refine ⟨fun h => (by rw [h] at hr; cases hr), fun j hj => ?_⟩
    by_cases hji : j = i
    · subst hji; rw [if_neg (by simp [hne])]; exact hy.qOp hi H
    · have hwj := key listed hW hr j hj
      obtain ⟨hjun, oj, hoj, hall⟩ := mem_ready.1 hj
      have hej : eff j = false := by
        cases he : eff j with
        | false => rfl
        | true => rw [hE j oj hoj he hjun] at hwj; cases hwj
      have h1 := H.2 j (ready_mono hj hji)
      rw [if_neg (by simp [hej])] at h1 ⊢
      have hnot : ∀ e ∈ oj.after, Region.binds md e = true → e.on ≠ i := fun e he hb heq => by
        have h1 := hall e he hb
        have h0 := (mem_ready.1 hr).1
        rw [heq, getD_both h0] at h1
        cases h1
      have h2 := qOp_put hoj (hfree j oj hoj hji hjun hnot) (fun cs b => hsel i oi cs b hi) (fun cs b => hsel j oj cs b hoj) hy h1
      have hun : ∀ k, k ≠ j → (listed.setIfInBounds j true).getD k true = listed.getD k true := fun k hk => getD_set_ne true (fun h => hk h.symm)
      have hfree' : ∀ k ok, ops[k]? = some ok → k ≠ i → (listed.setIfInBounds j true).getD k true = false →
          (∀ e ∈ ok.after, Region.binds md e = true → e.on ≠ i) → oi.apart ops ok = true := fun k ok hk hki hu hno => by
        refine hfree k ok hk hki ?_ hno
        by_cases hjk : k = j
        · subst hjk; exact hjun
        · rw [hun k hjk] at hu; exact hu
      have hE' : ∀ k ok, ops[k]? = some ok → eff k = true → (listed.setIfInBounds j true).getD k true = false → W k = true := fun k ok hk he hu => by
        by_cases hjk : k = j
        · subst hjk; rw [hej] at he; cases he
        · exact hE k ok hk he (by rw [← hun k hjk]; exact hu)
      have hW' : ∀ k ok, ops[k]? = some ok → W k = true → ∃ e ∈ ok.after, Region.binds md e = true ∧ (e.on = i ∨ (W e.on = true ∧ (listed.setIfInBounds j true).getD e.on true = false)) := fun k ok hk hw => by
        obtain ⟨e, he, hb, h⟩ := hW k ok hk hw
        refine ⟨e, he, hb, ?_⟩
        rcases h with h | ⟨h, h'⟩
        · exact .inl h
        · refine .inr ⟨h, ?_⟩
          rw [hun e.on (fun e' => by rw [e', hwj] at h; cases h)]
          exact h'
      refine qOp_mono (fun a' h3 => ih (listed.setIfInBounds j true) a' hfree' hE' hW' (ready_mono hr (Ne.symm hji)) h3.1 ?_) h2
      rw [Array.setIfInBounds_comm _ _ hji]
      exact h3.2

theorem yieldsC {C : World → Prop} {o : Oper} {v : Value} {a : Act} (h : Yields P ops o v a) : YieldsIn P ops C o v a := by
  rcases h with ⟨h1, h2⟩ | h
  · exact .inl ⟨h1, fun w hw => by unfold Oper.quietAt; rw [h2 w]; exact ⟨rfl, rfl⟩⟩
  · exact .inr h

theorem qOp_putY {C : World → Prop} {j : Nat} {oi oj : Oper} {v : Value} (hj : ops[j]? = some oj) (hap : oi.apart ops oj = true)
    (hsi : ∀ cs b, oi.op ≠ .select cs b) (hsj : ∀ cs b, oj.op ≠ .select cs b) {K : Act → Prop} {a : Act}
    (hy : Yields P ops oi v a) (h : qOp P ops C j K (a.put oi.dst v)) :
    qOp P ops C j (fun a' => Yields P ops oi v a' ∧ K (a'.put oi.dst v)) a := by
  obtain ⟨h1, h2, h3⟩ := Oper.apart_spec hap
  have keep : ∀ (a : Act), Yields P ops oi v a → ∀ u, Yields P ops oi v (a.put oj.dst u) := fun a hy u =>
    hy.of_same (execOp_put oi hsi a oj.dst u h3) (wanted_put oi a oj.dst u h3)
  unfold qOp at *
  simp only [hj] at *
  rw [wanted_put oj a oi.dst v h1] at h
  split
  · rename_i hw
    simp only [hw, if_true] at h
    obtain ⟨u, hu, hn⟩ := h
    refine ⟨u, fun w hw' => ?_, keep a hy u, by rw [← Act.put_comm a v u h2]; exact hn⟩
    have := hu w hw'
    unfold Oper.quietAt at *
    rwa [execOp_put oj hsj a oi.dst v h1] at this
  · rename_i hw
    simp only [hw] at h
    exact ⟨keep a hy _, by rw [← Act.put_comm a v undef h2]; exact h⟩

/-- An operation that looks at no memory may be taken first. -/
theorem wpAnyE_free {i : Nat} {oi : Oper} {v : Value} (hi : ops[i]? = some oi) (hsel : ∀ (j : Nat) (o : Oper) cs b, ops[j]? = some o → o.op ≠ .select cs b) (hne : eff i = false) (hQ : ∀ c a w, ¬ Q (.panic c) a w) :
    ∀ (f : Nat) (listed : Array Bool) (a : Act) (w : World),
      (∀ j oj, ops[j]? = some oj → j ≠ i → listed.getD j true = false → (∀ e ∈ oj.after, Region.binds md e = true → e.on ≠ i) → oi.apart ops oj = true) →
      i ∈ Region.ready md ops listed → Yields P ops oi v a →
      wpAnyE P md ops Q eff f (listed.setIfInBounds i true) (a.put oi.dst v) w → wpAnyE P md ops Q eff (f + 1) listed a w := by
  intro f
  induction f with
  | zero =>
    intro listed a w _ hr hy H
    refine ⟨fun h => (by rw [h] at hr; cases hr), fun j hj => ?_⟩
    by_cases hji : j = i
    · subst hji; rw [if_neg (by simp [hne])]; exact (yieldsC hy).qOp hi H
    · have := ready_mono hj hji
      rw [H.1] at this
      cases this
  | succ f ih =>
    intro listed a w hfree hr hy H
    refine ⟨fun h => (by rw [h] at hr; cases hr), fun j hj => ?_⟩
    by_cases hji : j = i
    · subst hji; rw [if_neg (by simp [hne])]; exact (yieldsC hy).qOp hi H
    · have h1 := H.2 j (ready_mono hj hji)
      obtain ⟨hjun, oj, hoj, hall⟩ := mem_ready.1 hj
      have hnot : ∀ e ∈ oj.after, Region.binds md e = true → e.on ≠ i := fun e he hb heq => by
        have h1 := hall e he hb
        have h0 := (mem_ready.1 hr).1
        rw [heq, getD_both h0] at h1
        cases h1
      have hfree' : ∀ k ok, ops[k]? = some ok → k ≠ i → (listed.setIfInBounds j true).getD k true = false →
          (∀ e ∈ ok.after, Region.binds md e = true → e.on ≠ i) → oi.apart ops ok = true := fun k ok hk hki hun hno => by
        refine hfree k ok hk hki ?_ hno
        by_cases hjk : j = k
        · subst hjk; exact hjun
        · rw [getD_set_ne true hjk] at hun; exact hun
      have hap := hfree j oj hoj hji hjun hnot
      cases he : eff j with
      | true =>
        rw [if_pos rfl]
        rw [he, if_pos rfl] at h1
        intro w' hb
        have h2 := wpOp_put hoj hap (fun cs b => hsel i oi cs b hi) (fun cs b => hsel j oj cs b hoj) (fun c a w h => absurd h (hQ c _ w)) hy (h1 w' hb)
        refine wpOp_mono (fun a' w2 h3 => ih (listed.setIfInBounds j true) a' w2 hfree' (ready_mono hr (Ne.symm hji)) h3.1 ?_) h2
        rw [Array.setIfInBounds_comm _ _ hji]
        exact h3.2
      | false =>
        rw [if_neg (by simp)]
        rw [he, if_neg (by simp)] at h1
        have h2 := qOp_putY hoj hap (fun cs b => hsel i oi cs b hi) (fun cs b => hsel j oj cs b hoj) hy h1
        refine qOp_mono (fun a' h3 => ih (listed.setIfInBounds j true) a' w hfree' (ready_mono hr (Ne.symm hji)) h3.1 ?_) h2
        rw [Array.setIfInBounds_comm _ _ hji]
        exact h3.2

theorem waitB_spec {W : Nat → Bool} {listed : Array Bool} {i : Nat} (h : waitB md ops eff W listed i = true) :
    (∀ j oj, ops[j]? = some oj → eff j = true → listed.getD j true = false → W j = true) ∧
    (∀ j oj, ops[j]? = some oj → W j = true → ∃ e ∈ oj.after, Region.binds md e = true ∧ (e.on = i ∨ (W e.on = true ∧ listed.getD e.on true = false))) := by
  have hj : ∀ j oj, ops[j]? = some oj → j ∈ List.range ops.size := fun j oj ho => List.mem_range.2 (Array.getElem?_eq_some_iff.1 ho).1
  refine ⟨fun j oj ho he hu => ?_, fun j oj ho hw => ?_⟩
  · have := List.all_eq_true.1 h j (hj j oj ho)
    simp only [Bool.and_eq_true, Bool.or_eq_true, Bool.not_eq_true', he, unl, hu] at this
    simpa using this.1
  · have := List.all_eq_true.1 h j (hj j oj ho)
    simp only [Bool.and_eq_true, Bool.or_eq_true, Bool.not_eq_true', ho, hw] at this
    have := this.2
    simp only [Bool.true_eq_false, false_or, Array.any_eq_true', Bool.and_eq_true, Bool.or_eq_true, beq_iff_eq] at this
    obtain ⟨e, he, hb, h⟩ := this
    refine ⟨e, he, hb, ?_⟩
    rcases h with h | ⟨h, h'⟩
    · exact .inl h
    · exact .inr ⟨h, by simpa [unl] using h'⟩

/-- Who waits for number 'i', by the text's order. -/
def waiters (md : Region.Mode) (ops : Array Oper) (listed : Array Bool) (i : Nat) : Array Bool :=
  (List.range ops.size).foldl (fun W j => W.setIfInBounds j (unl listed j && (match ops[j]? with | some oj => oj.after.any fun e => Region.binds md e && (e.on == i || W.getD e.on false) | none => false))) (Array.replicate ops.size false)

def stillOp (op : Op) : Bool := isPure op && !isLoad op
/-- An operation that looks at no memory. -/
def isStill (o : Oper) : Bool := stillOp o.op
def stillAt (ops : Array Oper) (k : Nat) : Bool := match ops[k]? with | some o => isStill o | none => false

def drawFrom (md : Region.Mode) (ops : Array Oper) (eff : Nat → Bool) : List Nat → Array Bool → Bool
  | [], listed => (Region.ready md ops listed).isEmpty
  | k :: ks, listed => (bif eff k then decide (Region.ready md ops listed = [k])
      else (Region.ready md ops listed).contains k && Region.free md ops listed k && (stillAt ops k || waitB md ops eff (fun j => (waiters md ops listed k).getD j false) listed k)) &&
    drawFrom md ops eff ks (listed.setIfInBounds k true)

def isEffOp : Op → Bool
  | .call { callee := .value _, .. } => true
  | o => !isPure o
def effAt (ops : Array Oper) (k : Nat) : Bool := match ops[k]? with | some o => isEffOp o.op | none => true
def drawL (ops : Array Oper) (ks : List Nat) : Bool := Region.noSelect ops && drawFrom .any ops (effAt ops) ks (Array.replicate ops.size false)
def drawB (ops : Array Oper) : Bool := drawL ops (List.range ops.size)
/-- What writes comes last. -/
def lastOrd (ops : Array Oper) : List Nat := (List.range ops.size).filter (fun k => !effAt ops k) ++ (List.range ops.size).filter (effAt ops)
def drawE (ops : Array Oper) : Bool := drawL ops (lastOrd ops)
def opsIn (ops : Array Oper) : List Nat → List Oper
  | [] => []
  | k :: ks => match ops[k]? with
    | some o => o :: opsIn ops ks
    | none => opsIn ops ks

def aopsD (P : Program) (T : TypeId → TI) (ops : Array Oper) (K : ASt → Prop) : List Oper → ASt → Prop
  | [], s => K s
  | o :: r, s => bif isEffOp o.op then astep P T ops s o (aopsD P T ops K r) else astepQ P T ops s o (aopsD P T ops K r)
end

section
variable {P : Program} {T : TypeId → TI} {E : Ent} {s : ASt} {ρ : List (Option (Nat × Nat))} {a : Act} {w : World}

theorem still_yields (hT : TabOk P T) {ops : Array Oper} {o : Oper} {K : ASt → Prop} (hr : Rep E s ρ a w) (hs : isStill o = true) (h : astepQ P T ops s o K) :
    ∃ u s', Yields P ops o u a ∧ K s' ∧ Rep E s' ρ (a.put o.dst u) w := by
  unfold isStill stillOp at hs
  rw [Bool.and_eq_true, Bool.not_eq_true'] at hs
  obtain ⟨hp, hl⟩ := hs
  unfold astepQ at h
  split at h
  · rename_i neg n hc
    obtain ⟨b, hb, hrun⟩ := nilCmp_ok hT hr hc
    unfold anilCmp at h
    split at h
    · rename_i hg
      exact ⟨_, _, .inl ⟨by simp [Region.wanted, hg], fun w' => hrun w'⟩, h.2 b hb, hr.put h.1 (.d _ _ (.bool _))⟩
    · rename_i j want hg
      split at h
      · exact h.elim
      · rename_i g ha
        have hw := wanted_sound hr hg ha
        cases hgb : g with
        | true => exact ⟨_, _, .inl ⟨by rw [hw, hgb], fun w' => hrun w'⟩, h.2 b hb, hr.put h.1 (.gd _ _ _ (fun _ => .d _ _ (.bool _)) (fun e => by rw [hgb] at e; cases e))⟩
        | false => exact ⟨undef, _, .inr ⟨by rw [hw, hgb], rfl⟩, h.2 b hb, hr.put h.1 (.gd _ _ _ (fun e => by rw [hgb] at e; cases e) (fun _ => rfl))⟩
  · simp only [astepQ0, hp, if_true] at h
    split at h
    · rename_i hg
      obtain ⟨h1, h2, h3⟩ := h
      obtain ⟨u, hu, hrun⟩ := pure_still hT hr o hl h1
      exact ⟨u, _, .inl ⟨by simp [Region.wanted, hg], hrun⟩, h3, hr.put h2 hu⟩
    · rename_i j want hg
      split at h
      · exact h.elim
      · rename_i g ha
        have hw := wanted_sound hr hg ha
        obtain ⟨h1, h2, h3⟩ := h
        cases hgb : g with
        | true =>
          obtain ⟨u, hu, hrun⟩ := pure_still hT hr o hl (h1 hgb)
          exact ⟨u, _, .inl ⟨by rw [hw, hgb], hrun⟩, h3, hr.put h2 (.gd _ _ _ (fun _ => hu) (fun e => by rw [hgb] at e; cases e))⟩
        | false => exact ⟨undef, _, .inr ⟨by rw [hw, hgb], rfl⟩, h3, hr.put h2 (.gd _ _ _ (fun e => by rw [hgb] at e; cases e) (fun _ => rfl))⟩

theorem aopsD_sound (hT : TabOk P T) {ops : Array Oper} {Q : Exit → Act → World → Prop} {K : ASt → Prop} (hs : Region.noSelect ops = true) (hQ : ∀ c a w, ¬ Q (.panic c) a w) (hK : ∀ s' ρ' a' w', K s' → Rep E s' ρ' a' w' → Q .normal a' w') :
    ∀ (l : List Oper) (ks : List Nat) (listed : Array Bool) (s : ASt) (ρ : List (Option (Nat × Nat))) (a : Act) (w : World), ks.map (fun k => ops[k]?) = l.map some → drawFrom .any ops (effAt ops) ks listed = true →
      aopsD P T ops K l s → Rep E s ρ a w → wpAnyE P .any ops Q (effAt ops) l.length listed a w
  | [], ks, listed, s, ρ, a, w, hl, hB, h, hr => by
    have : ks = [] := by simpa using hl
    subst this
    exact ⟨by simpa [drawFrom] using hB, fun w' hb => hK _ _ _ _ h (hr.below hb)⟩
  | o :: l, [], listed, s, ρ, a, w, hl, hB, h, hr => by simp at hl
  | o :: l, k :: ks, listed, s, ρ, a, w, hl, hB, h, hr => by
    simp only [List.map_cons, List.cons.injEq] at hl
    obtain ⟨h0, hl'⟩ := hl
    simp only [List.length_cons, drawFrom, Bool.and_eq_true] at hB
    obtain ⟨hB1, hB2⟩ := hB
    have he : effAt ops k = isEffOp o.op := by simp [effAt, h0]
    simp only [aopsD] at h
    cases hf : isEffOp o.op with
    | true =>
      rw [he, hf] at hB1
      simp only [hf, cond_true] at h
      simp only [cond_true, decide_eq_true_eq] at hB1
      refine ⟨fun h1 => (by rw [hB1] at h1; cases h1), fun i hi => ?_⟩
      rw [hB1] at hi
      have hik : i = k := by simpa using hi
      subst hik
      rw [if_pos (by rw [he, hf])]
      intro w' hb
      unfold wpOp
      simp only [h0]
      exact astep_sound hT (hr.below hb) o h fun s' ρ' a' w2 hs' hr' => aopsD_sound hT hs hQ hK l ks _ s' ρ' a' w2 hl' hB2 hs' hr'
    | false =>
      rw [he, hf] at hB1
      simp only [hf, cond_false] at h
      simp only [cond_false, Bool.and_eq_true] at hB1
      obtain ⟨⟨hB3, hB4⟩, hB5⟩ := hB1
      cases hst : isStill o with
      | true =>
        obtain ⟨u, s', hy, g5, hr'⟩ := still_yields hT hr hst h
        exact wpAnyE_free h0 (Region.noSelect_spec hs) (by rw [he, hf]) hQ l.length listed a w (Region.free_spec h0 hB4) (by simpa using hB3) hy (aopsD_sound hT hs hQ hK l ks _ _ ρ _ w hl' hB2 g5 hr')
      | false =>
      have hB5 : waitB .any ops (effAt ops) (fun j => (waiters .any ops listed k).getD j false) listed k = true := by
        have : stillAt ops k = false := by simp [stillAt, h0, hst]
        simpa [this] using hB5
      have hq := astepQ_sound hT hr (ops := ops) o (KK := fun a' => wpAnyE P .any ops Q (effAt ops) l.length (listed.setIfInBounds k true) a' w) h
        fun s' a' hs' hr' => aopsD_sound hT hs hQ hK l ks _ s' ρ a' w hl' hB2 hs' hr'
      have hq' : qOp P ops (Bel w) k (fun a' => wpAnyE P .any ops Q (effAt ops) l.length (listed.setIfInBounds k true) a' w) a := by
        unfold qOp
        simp only [h0]
        exact hq
      obtain ⟨v, hy, hKK⟩ := yieldsIn_of_qOp h0 hq'
      obtain ⟨hW1, hW2⟩ := waitB_spec hB5
      exact wpAnyE_first h0 (Region.noSelect_spec hs) (by rw [he, hf]) l.length listed a (Region.free_spec h0 hB4) hW1 hW2 (by simpa using hB3) hy hKK

theorem AWP.drawK {Q : Exit → ASt → Prop} {id : Nat} {l l' : List Oper} (ks : List Nat) (hm : P.follows .mixedOrders = true) (hT : TabOk P T) (hB : drawL l.toArray ks = true) (hks : ks.map (fun k => l.toArray[k]?) = l'.map some) (hl : l'.length = l.length)
    (h : ∀ K : ASt → Prop, (∀ s', Q .normal s' → K s') → aopsD P T l.toArray K l' s) : AWP P (.region id l.toArray true) s Q := fun E ρ a w hr => by
  simp only [drawL, Bool.and_eq_true] at hB
  refine wpm (wp_region_any (Q := fun e a' w' => (∀ c, e ≠ .panic c) ∧ ∃ s' ρ', Rep E s' ρ' a' w' ∧ Q e s') hm (wpAny_of_E (eff := effAt l.toArray) _ _ a w _ ?_ ⟨rfl, rfl, rfl, Nat.le_refl _, fun _ _ => rfl⟩)) fun _ _ _ h => h.2
  have := aopsD_sound (E := E) hT (Q := fun e a' w' => (∀ c, e ≠ .panic c) ∧ ∃ s' ρ', Rep E s' ρ' a' w' ∧ Q e s') hB.1 (fun c a w h => h.1 c rfl) (fun s' ρ' a' w' hs hr' => ⟨by simp, s', ρ', hr', hs⟩) l' ks (Array.replicate l.toArray.size false) s ρ a w hks hB.2
    (h _ fun _ hq => hq) hr
  simpa [hl] using this

theorem range_map_ops (l : List Oper) : (List.range l.toArray.size).map (fun k => l.toArray[k]?) = l.map some := by
  apply List.ext_getElem?
  intro j
  by_cases hj : j < l.length
  · simp [hj]
  · simp [hj]

theorem AWP.draw {Q : Exit → ASt → Prop} {id : Nat} {l : List Oper} (hm : P.follows .mixedOrders = true) (hT : TabOk P T) (hB : drawB l.toArray = true)
    (h : ∀ K : ASt → Prop, (∀ s', Q .normal s' → K s') → aopsD P T l.toArray K l s) : AWP P (.region id l.toArray true) s Q :=
  AWP.drawK _ hm hT hB (range_map_ops l) rfl h

/-- What writes comes last, whatever the text's order. -/
def inOrd (l : List Oper) : List Oper := l.filter (fun o => !isEffOp o.op) ++ l.filter (fun o => isEffOp o.op)
theorem filter_ops (p : Oper → Bool) (l : List Oper) : ∀ (m : List Oper) (o : Nat), (∀ j, m[j]? = l.toArray[o + j]?) → ((List.range' o m.length).filter (fun k => match l.toArray[k]? with | some x => p x | none => false)).map (fun k => l.toArray[k]?) = (m.filter p).map some
  | [], o, _ => rfl
  | x :: m, o, h => by
    have h0 := h 0
    simp only [List.getElem?_cons_zero, Nat.add_zero] at h0
    have ih := filter_ops p l m (o + 1) fun j => by have := h (j + 1); simpa [Nat.add_assoc, Nat.add_comm 1 j] using this
    simp only [List.length_cons, List.range'_succ, List.filter_cons, ← h0]
    cases p x
    · simpa using ih
    · simp only [if_true, List.map_cons, ← h0]
      rw [ih]
theorem AWP.drawE {Q : Exit → ASt → Prop} {id : Nat} {l : List Oper} (hm : P.follows .mixedOrders = true) (hT : TabOk P T) (hB : drawE l.toArray = true)
    (h : ∀ K : ASt → Prop, (∀ s', Q .normal s' → K s') → aopsD P T l.toArray K (inOrd l) s) : AWP P (.region id l.toArray true) s Q := by
  have e : ∀ p : Oper → Bool, ((List.range l.toArray.size).filter (fun k => match l.toArray[k]? with | some x => p x | none => false)).map (fun k => l.toArray[k]?) = (l.filter p).map some := fun p => by
    have := filter_ops p l l 0 fun j => by simp
    rw [List.range_eq_range']
    simpa using this
  have e1 : ∀ k, k ∈ List.range l.toArray.size → (!effAt l.toArray k) = (match l.toArray[k]? with | some x => !isEffOp x.op | none => false) := fun k hk => by
    have hk' : k < l.length := by simpa using hk
    simp [effAt, hk']
  have e2 : ∀ k, k ∈ List.range l.toArray.size → effAt l.toArray k = (match l.toArray[k]? with | some x => isEffOp x.op | none => false) := fun k hk => by
    have hk' : k < l.length := by simpa using hk
    simp [effAt, hk']
  refine AWP.drawK (lastOrd l.toArray) hm hT hB (l' := inOrd l) ?_ ?_ h
  · rw [lastOrd, inOrd, List.map_append, List.map_append, List.filter_congr e1, List.filter_congr e2, e, e]
  · rw [inOrd, List.length_append, ← List.countP_eq_length_filter, ← List.countP_eq_length_filter, Nat.add_comm]
    have := List.length_eq_countP_add_countP (fun o : Oper => isEffOp o.op) (l := l)
    simpa using this.symm
/-- In what order operations are taken; where two ways are open, both. -/
inductive Plan where
  | done
  | take (k : Nat) (p : Plan)
  | fork (k1 : Nat) (p1 : Plan) (k2 : Nat) (p2 : Plan)
  | forks (k1 : Nat) (p1 : Plan) (k2 : Nat) (p2 : Plan) (k3 : Nat) (p3 : Plan)
def Plan.takes : List Nat → Plan → Plan
  | [], p => p
  | k :: ks, p => .take k (Plan.takes ks p)

def planOk (ops : Array Oper) : Plan → Nat → Array Bool → Bool
  | .done, _, listed => (Region.ready .any ops listed).isEmpty
  | .take k p, f + 1, listed => (bif effAt ops k then decide (Region.ready .any ops listed = [k])
      else (Region.ready .any ops listed).contains k && Region.free .any ops listed k && (stillAt ops k || waitB .any ops (effAt ops) (fun j => (waiters .any ops listed k).getD j false) listed k)) &&
    planOk ops p f (listed.setIfInBounds k true)
  | .fork k1 p1 k2 p2, f + 1, listed => decide (Region.ready .any ops listed = [k1, k2]) && planOk ops p1 f (listed.setIfInBounds k1 true) && planOk ops p2 f (listed.setIfInBounds k2 true)
  | .forks k1 p1 k2 p2 k3 p3, f + 1, listed => decide (Region.ready .any ops listed = [k1, k2, k3]) && planOk ops p1 f (listed.setIfInBounds k1 true) && planOk ops p2 f (listed.setIfInBounds k2 true) && planOk ops p3 f (listed.setIfInBounds k3 true)
  | _, 0, _ => false
def planB (ops : Array Oper) (p : Plan) : Bool := Region.noSelect ops && planOk ops p ops.size (Array.replicate ops.size false)

def astepE (P : Program) (T : TypeId → TI) (ops : Array Oper) (s : ASt) (o : Option Oper) (K : ASt → Prop) : Prop :=
  match o with
  | some o => bif isEffOp o.op then astep P T ops s o K else astepQ P T ops s o K
  | none => False
def aplan (P : Program) (T : TypeId → TI) (ops : Array Oper) (K : ASt → Prop) : Plan → ASt → Prop
  | .done, s => K s
  | .take k p, s => astepE P T ops s ops[k]? (aplan P T ops K p)
  | .fork k1 p1 k2 p2, s => astepE P T ops s ops[k1]? (aplan P T ops K p1) ∧ astepE P T ops s ops[k2]? (aplan P T ops K p2)
  | .forks k1 p1 k2 p2 k3 p3, s => astepE P T ops s ops[k1]? (aplan P T ops K p1) ∧ astepE P T ops s ops[k2]? (aplan P T ops K p2) ∧ astepE P T ops s ops[k3]? (aplan P T ops K p3)

theorem astepE_sound (hT : TabOk P T) {ops : Array Oper} {Q : Exit → Act → World → Prop} {K : ASt → Prop} {f k : Nat} {listed : Array Bool} (hr : Rep E s ρ a w) (h : astepE P T ops s ops[k]? K)
    (hK : ∀ s' ρ' a' w', K s' → Rep E s' ρ' a' w' → wpAnyE P .any ops Q (effAt ops) f (listed.setIfInBounds k true) a' w') :
    if effAt ops k = true then (∀ w', Bel w w' → wpOp P ops Q k (fun a' w2 => wpAnyE P .any ops Q (effAt ops) f (listed.setIfInBounds k true) a' w2) a w')
      else qOp P ops (Bel w) k (fun a' => wpAnyE P .any ops Q (effAt ops) f (listed.setIfInBounds k true) a' w) a := by
  cases h0 : ops[k]? with
  | none => rw [h0] at h; exact h.elim
  | some o =>
    rw [h0] at h
    have he : effAt ops k = isEffOp o.op := by simp [effAt, h0]
    simp only [astepE] at h
    cases hf : isEffOp o.op with
    | true =>
      rw [if_pos (by rw [he, hf])]
      simp only [hf, cond_true] at h
      intro w' hb
      unfold wpOp
      simp only [h0]
      exact astep_sound hT (hr.below hb) o h fun s' ρ' a' w2 hs' hr' => hK s' ρ' a' w2 hs' hr'
    | false =>
      rw [if_neg (by rw [he, hf]; simp)]
      simp only [hf, cond_false] at h
      have hq := astepQ_sound hT hr (ops := ops) o (KK := fun a' => wpAnyE P .any ops Q (effAt ops) f (listed.setIfInBounds k true) a' w) h
        fun s' a' hs' hr' => hK s' ρ a' w hs' hr'
      unfold qOp
      simp only [h0]
      exact hq

theorem aplan_sound (hT : TabOk P T) {ops : Array Oper} {Q : Exit → Act → World → Prop} {K : ASt → Prop} (hs : Region.noSelect ops = true) (hQ : ∀ c a w, ¬ Q (.panic c) a w) (hK : ∀ s' ρ' a' w', K s' → Rep E s' ρ' a' w' → Q .normal a' w') :
    ∀ (p : Plan) (f : Nat) (listed : Array Bool) (s : ASt) (ρ : List (Option (Nat × Nat))) (a : Act) (w : World), planOk ops p f listed = true →
      aplan P T ops K p s → Rep E s ρ a w → wpAnyE P .any ops Q (effAt ops) f listed a w
  | .done, 0, listed, s, ρ, a, w, hB, h, hr => ⟨by simpa [planOk] using hB, fun w' hb => hK _ _ _ _ h (hr.below hb)⟩
  | .done, f + 1, listed, s, ρ, a, w, hB, h, hr => by
    have h0 : Region.ready .any ops listed = [] := by simpa [planOk] using hB
    exact ⟨fun _ w' hb => hK _ _ _ _ h (hr.below hb), fun i hi => by rw [h0] at hi; cases hi⟩
  | .take k p, 0, listed, s, ρ, a, w, hB, h, hr => by simp [planOk] at hB
  | .fork k1 p1 k2 p2, 0, listed, s, ρ, a, w, hB, h, hr => by simp [planOk] at hB
  | .forks k1 p1 k2 p2 k3 p3, 0, listed, s, ρ, a, w, hB, h, hr => by simp [planOk] at hB
  | .forks k1 p1 k2 p2 k3 p3, f + 1, listed, s, ρ, a, w, hB, h, hr => by
    simp only [planOk, Bool.and_eq_true, decide_eq_true_eq] at hB
    obtain ⟨⟨⟨hB0, hB1⟩, hB2⟩, hB3⟩ := hB
    refine ⟨fun h1 => (by rw [hB0] at h1; cases h1), fun i hi => ?_⟩
    rw [hB0] at hi
    simp only [List.mem_cons, List.not_mem_nil, or_false] at hi
    rcases hi with rfl | rfl | rfl
    · exact astepE_sound hT hr h.1 fun s' ρ' a' w' hs' hr' => aplan_sound hT hs hQ hK p1 f _ s' ρ' a' w' hB1 hs' hr'
    · exact astepE_sound hT hr h.2.1 fun s' ρ' a' w' hs' hr' => aplan_sound hT hs hQ hK p2 f _ s' ρ' a' w' hB2 hs' hr'
    · exact astepE_sound hT hr h.2.2 fun s' ρ' a' w' hs' hr' => aplan_sound hT hs hQ hK p3 f _ s' ρ' a' w' hB3 hs' hr'
  | .fork k1 p1 k2 p2, f + 1, listed, s, ρ, a, w, hB, h, hr => by
    simp only [planOk, Bool.and_eq_true, decide_eq_true_eq] at hB
    obtain ⟨⟨hB0, hB1⟩, hB2⟩ := hB
    refine ⟨fun h1 => (by rw [hB0] at h1; cases h1), fun i hi => ?_⟩
    rw [hB0] at hi
    simp only [List.mem_cons, List.not_mem_nil, or_false] at hi
    rcases hi with rfl | rfl
    · exact astepE_sound hT hr h.1 fun s' ρ' a' w' hs' hr' => aplan_sound hT hs hQ hK p1 f _ s' ρ' a' w' hB1 hs' hr'
    · exact astepE_sound hT hr h.2 fun s' ρ' a' w' hs' hr' => aplan_sound hT hs hQ hK p2 f _ s' ρ' a' w' hB2 hs' hr'
  | .take k p, f + 1, listed, s, ρ, a, w, hB, h, hr => by
    simp only [planOk, Bool.and_eq_true] at hB
    obtain ⟨hB1, hB2⟩ := hB
    simp only [aplan] at h
    cases h0 : ops[k]? with
    | none => rw [h0] at h; exact h.elim
    | some o =>
    rw [h0] at h
    simp only [astepE] at h
    have he : effAt ops k = isEffOp o.op := by simp [effAt, h0]
    cases hf : isEffOp o.op with
    | true =>
      rw [he, hf] at hB1
      simp only [cond_true, decide_eq_true_eq] at hB1
      refine ⟨fun h1 => (by rw [hB1] at h1; cases h1), fun i hi => ?_⟩
      rw [hB1] at hi
      have hik : i = k := by simpa using hi
      subst hik
      exact astepE_sound hT hr (by rw [h0]; exact h) fun s' ρ' a' w' hs' hr' => aplan_sound hT hs hQ hK p f _ s' ρ' a' w' hB2 hs' hr'
    | false =>
      rw [he, hf] at hB1
      simp only [hf, cond_false] at h
      simp only [cond_false, Bool.and_eq_true] at hB1
      obtain ⟨⟨hB3, hB4⟩, hB5⟩ := hB1
      cases hst : isStill o with
      | true =>
        obtain ⟨u, s', hy, g5, hr'⟩ := still_yields hT hr hst h
        exact wpAnyE_free h0 (Region.noSelect_spec hs) (by rw [he, hf]) hQ f listed a w (Region.free_spec h0 hB4) (by simpa using hB3) hy (aplan_sound hT hs hQ hK p f _ _ ρ _ w hB2 g5 hr')
      | false =>
      have hB5 : waitB .any ops (effAt ops) (fun j => (waiters .any ops listed k).getD j false) listed k = true := by
        have : stillAt ops k = false := by simp [stillAt, h0, hst]
        simpa [this] using hB5
      have hq := astepQ_sound hT hr (ops := ops) o (KK := fun a' => wpAnyE P .any ops Q (effAt ops) f (listed.setIfInBounds k true) a' w) h
        fun s' a' hs' hr' => aplan_sound hT hs hQ hK p f _ s' ρ a' w hB2 hs' hr'
      have hq' : qOp P ops (Bel w) k (fun a' => wpAnyE P .any ops Q (effAt ops) f (listed.setIfInBounds k true) a' w) a := by
        unfold qOp
        simp only [h0]
        exact hq
      obtain ⟨v, hy, hKK⟩ := yieldsIn_of_qOp h0 hq'
      obtain ⟨hW1, hW2⟩ := waitB_spec hB5
      exact wpAnyE_first h0 (Region.noSelect_spec hs) (by rw [he, hf]) f listed a (Region.free_spec h0 hB4) hW1 hW2 (by simpa using hB3) hy hKK

theorem AWP.plan {Q : Exit → ASt → Prop} {id : Nat} {ops : Array Oper} (p : Plan) (hm : P.follows .mixedOrders = true) (hT : TabOk P T) (hB : planB ops p = true)
    (h : ∀ K : ASt → Prop, (∀ s', Q .normal s' → K s') → aplan P T ops K p s) : AWP P (.region id ops true) s Q := fun E ρ a w hr => by
  simp only [planB, Bool.and_eq_true] at hB
  refine wpm (wp_region_any (Q := fun e a' w' => (∀ c, e ≠ .panic c) ∧ ∃ s' ρ', Rep E s' ρ' a' w' ∧ Q e s') hm (wpAny_of_E (eff := effAt ops) _ _ a w _ ?_ ⟨rfl, rfl, rfl, Nat.le_refl _, fun _ _ => rfl⟩)) fun _ _ _ h => h.2
  exact aplan_sound (E := E) hT (Q := fun e a' w' => (∀ c, e ≠ .panic c) ∧ ∃ s' ρ', Rep E s' ρ' a' w' ∧ Q e s') hB.1 (fun c a w h => h.1 c rfl) (fun s' ρ' a' w' hs hr' => ⟨by simp, s', ρ', hr', hs⟩) p ops.size (Array.replicate ops.size false) s ρ a w hB.2
    (h _ fun _ hq => hq) hr
end
end Go.Proofs.YtfnilhdofopoeabDoor
