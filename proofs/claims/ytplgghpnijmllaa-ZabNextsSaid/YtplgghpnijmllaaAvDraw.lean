/- Statements whose order is open, and that write: one walk in the order of the text serves every order. It holds over any program whose types read as the table says. -/
import Derived.Test.YtplgghpnijmllaaAvSound
namespace Go.Proofs.Ytplgghpnijmllaa
open Go Go.RowKit

abbrev Bel (w w' : World) : Prop := Below w.heap.size w w'
theorem bel_refl (w : World) : Bel w w := ⟨rfl, rfl, rfl, Nat.le_refl _, fun _ _ => rfl⟩
theorem bel_trans {w w1 w2 : World} (h : Bel w w1) (h2 : Bel w1 w2) : Bel w w2 :=
  ⟨h2.os.trans h.os, h2.tape.trans h.tape, h2.output.trans h.output, Nat.le_trans h.size h2.size, fun k hk => (h2.block k (Nat.lt_of_lt_of_le hk h.size)).trans (h.block k hk)⟩

theorem getD_both {listed : Array Bool} {i : Nat} (h : listed.getD i true = false) : listed.getD i false = false := by
  rcases Nat.lt_or_ge i listed.size with h' | h'
  · simp [h'] at h ⊢; exact h
  · simp [Array.getElem?_eq_none h'] at h

section
variable {P : Program} {ops : Array Oper} {md : Region.Mode} {Q : Exit → Act → World → Prop} {eff : Nat → Bool}

/-- Whatever order is picked: writing operations from every world that has grown out of this one, the others with one value in all of these. -/
def wpAnyE (P : Program) (md : Region.Mode) (ops : Array Oper) (Q : Exit → Act → World → Prop) (eff : Nat → Bool) : Nat → Array Bool → Act → World → Prop
  | 0, listed, a, w => Region.ready md ops listed = [] ∧ ∀ w', Bel w w' → Q .normal a w'
  | f + 1, listed, a, w => (Region.ready md ops listed = [] → ∀ w', Bel w w' → Q .normal a w') ∧ ∀ i ∈ Region.ready md ops listed,
      if eff i = true then (∀ w', Bel w w' → wpOp P ops Q i (fun a' w2 => wpAnyE P md ops Q eff f (listed.setIfInBounds i true) a' w2) a w')
      else qOp P ops (Bel w) i (fun a' => wpAnyE P md ops Q eff f (listed.setIfInBounds i true) a' w) a

theorem wpAny_of_E : ∀ (f : Nat) (listed : Array Bool) (a : Act) (w w' : World), wpAnyE P md ops Q eff f listed a w → Bel w w' → wpAny P md ops Q f listed a w'
  | 0, _, _, _, w', h, hb => ⟨h.1, h.2 w' hb⟩
  | f + 1, listed, a, w, w', h, hb => by
    refine ⟨fun h0 => h.1 h0 w' hb, fun i hi => ?_⟩
    have := h.2 i hi
    by_cases he : eff i = true
    · rw [if_pos he] at this
      exact wpOp_mono (fun a' w2 h' => wpAny_of_E f _ a' w2 w2 h' (bel_refl _)) (this w' hb)
    · rw [if_neg he] at this
      exact wpOp_of_qOp (C := Bel w) hb (fun a' w2 hw2 h' => wpAny_of_E f _ a' w w2 h' hw2) this

def unl (listed : Array Bool) (j : Nat) : Bool := !listed.getD j true

/-- Every writing operation that has not come up waits for number 'i'. -/
def waitB (md : Region.Mode) (ops : Array Oper) (eff W : Nat → Bool) (listed : Array Bool) (i : Nat) : Bool :=
  (List.range ops.size).all fun j => (!(eff j && unl listed j) || W j) &&
    (!W j || (match ops[j]? with | some oj => oj.after.any fun e => Region.binds md e && (e.on == i || (W e.on && unl listed e.on)) | none => false))

theorem wpAnyE_first {i : Nat} {oi : Oper} {v : Value} {W : Nat → Bool} {w : World} (hi : ops[i]? = some oi) (hsel : ∀ (j : Nat) (o : Oper) cs b, ops[j]? = some o → o.op ≠ .select cs b) (hne : eff i = false) :
    ∀ (f : Nat) (listed : Array Bool) (a : Act),
      (∀ j oj, ops[j]? = some oj → j ≠ i → listed.getD j true = false → (∀ e ∈ oj.after, Region.binds md e = true → e.on ≠ i) → oi.apart ops oj = true) →
      (∀ j oj, ops[j]? = some oj → eff j = true → listed.getD j true = false → W j = true) →
      (∀ j oj, ops[j]? = some oj → W j = true → ∃ e ∈ oj.after, Region.binds md e = true ∧ (e.on = i ∨ (W e.on = true ∧ listed.getD e.on true = false))) →
      i ∈ Region.ready md ops listed → YieldsIn P ops (Bel w) oi v a →
      wpAnyE P md ops Q eff f (listed.setIfInBounds i true) (a.put oi.dst v) w → wpAnyE P md ops Q eff (f + 1) listed a w := by
  have key : ∀ (listed : Array Bool), (∀ j oj, ops[j]? = some oj → W j = true → ∃ e ∈ oj.after, Region.binds md e = true ∧ (e.on = i ∨ (W e.on = true ∧ listed.getD e.on true = false))) →
      i ∈ Region.ready md ops listed → ∀ j, j ∈ Region.ready md ops listed → W j = false := by
    intro listed hW hr j hj
    cases hwj : W j with
    | false => rfl
    | true =>
      obtain ⟨_, oj, hoj, hall⟩ := mem_ready.1 hj
      obtain ⟨e, he, hb, h⟩ := hW j oj hoj hwj
      have h1 := hall e he hb
      have h0 : listed.getD e.on true = false := by
        rcases h with h | h
        · rw [h]; exact (mem_ready.1 hr).1
        · exact h.2
      rw [getD_both h0] at h1
      cases h1
  intro f
  induction f with
  | zero =>
    intro listed a _ hE hW hr hy H
    refine ⟨fun h => (by rw [h] at hr; cases hr), fun j hj => ?_⟩
    by_cases hji : j = i
    · subst hji; rw [if_neg (by simp [hne])]; exact hy.qOp hi H
    · have := ready_mono hj hji
      rw [H.1] at this
      cases this
  | succ f ih =>
    intro listed a hfree hE hW hr hy H
    refine ⟨fun h => (by rw [h] at hr; cases hr), fun j hj => ?_⟩
    by_cases hji : j = i
    · subst hji; rw [if_neg (by simp [hne])]; exact hy.qOp hi H
    · have hwj := key listed hW hr j hj
      obtain ⟨hjun, oj, hoj, hall⟩ := mem_ready.1 hj
      have hej : eff j = false := by
        cases he : eff j with
        | false => rfl
        | true => rw [hE j oj hoj he hjun] at hwj; cases hwj
      have h1 := H.2 j (ready_mono hj hji)
      rw [if_neg (by simp [hej])] at h1 ⊢
      have hnot : ∀ e ∈ oj.after, Region.binds md e = true → e.on ≠ i := fun e he hb heq => by
        have h1 := hall e he hb
        have h0 := (mem_ready.1 hr).1
        rw [heq, getD_both h0] at h1
        cases h1
      have h2 := qOp_put hoj (hfree j oj hoj hji hjun hnot) (fun cs b => hsel i oi cs b hi) (fun cs b => hsel j oj cs b hoj) hy h1
      have hun : ∀ k, k ≠ j → (listed.setIfInBounds j true).getD k true = listed.getD k true := fun k hk => getD_set_ne true (fun h => hk h.symm)
      have hfree' : ∀ k ok, ops[k]? = some ok → k ≠ i → (listed.setIfInBounds j true).getD k true = false →
          (∀ e ∈ ok.after, Region.binds md e = true → e.on ≠ i) → oi.apart ops ok = true := fun k ok hk hki hu hno => by
        refine hfree k ok hk hki ?_ hno
        by_cases hjk : k = j
        · subst hjk; exact hjun
        · rw [hun k hjk] at hu; exact hu
      have hE' : ∀ k ok, ops[k]? = some ok → eff k = true → (listed.setIfInBounds j true).getD k true = false → W k = true := fun k ok hk he hu => by
        by_cases hjk : k = j
        · subst hjk; rw [hej] at he; cases he
        · exact hE k ok hk he (by rw [← hun k hjk]; exact hu)
      have hW' : ∀ k ok, ops[k]? = some ok → W k = true → ∃ e ∈ ok.after, Region.binds md e = true ∧ (e.on = i ∨ (W e.on = true ∧ (listed.setIfInBounds j true).getD e.on true = false)) := fun k ok hk hw => by
        obtain ⟨e, he, hb, h⟩ := hW k ok hk hw
        refine ⟨e, he, hb, ?_⟩
        rcases h with h | ⟨h, h'⟩
        · exact .inl h
        · refine .inr ⟨h, ?_⟩
          rw [hun e.on (fun e' => by rw [e', hwj] at h; cases h)]
          exact h'
      refine qOp_mono (fun a' h3 => ih (listed.setIfInBounds j true) a' hfree' hE' hW' (ready_mono hr (Ne.symm hji)) h3.1 ?_) h2
      rw [Array.setIfInBounds_comm _ _ hji]
      exact h3.2

theorem waitB_spec {W : Nat → Bool} {listed : Array Bool} {i : Nat} (h : waitB md ops eff W listed i = true) :
    (∀ j oj, ops[j]? = some oj → eff j = true → listed.getD j true = false → W j = true) ∧
    (∀ j oj, ops[j]? = some oj → W j = true → ∃ e ∈ oj.after, Region.binds md e = true ∧ (e.on = i ∨ (W e.on = true ∧ listed.getD e.on true = false))) := by
  have hj : ∀ j oj, ops[j]? = some oj → j ∈ List.range ops.size := fun j oj ho => List.mem_range.2 (Array.getElem?_eq_some_iff.1 ho).1
  refine ⟨fun j oj ho he hu => ?_, fun j oj ho hw => ?_⟩
  · have := List.all_eq_true.1 h j (hj j oj ho)
    simp only [Bool.and_eq_true, Bool.or_eq_true, Bool.not_eq_true', he, unl, hu] at this
    simpa using this.1
  · have := List.all_eq_true.1 h j (hj j oj ho)
    simp only [Bool.and_eq_true, Bool.or_eq_true, Bool.not_eq_true', ho, hw] at this
    have := this.2
    simp only [Bool.true_eq_false, false_or, Array.any_eq_true', Bool.and_eq_true, Bool.or_eq_true, beq_iff_eq] at this
    obtain ⟨e, he, hb, h⟩ := this
    refine ⟨e, he, hb, ?_⟩
    rcases h with h | ⟨h, h'⟩
    · exact .inl h
    · exact .inr ⟨h, by simpa [unl] using h'⟩

/-- Who waits for number 'i', by the text's order. -/
def waiters (md : Region.Mode) (ops : Array Oper) (listed : Array Bool) (i : Nat) : Array Bool :=
  (List.range ops.size).foldl (fun W j => W.setIfInBounds j (unl listed j && (match ops[j]? with | some oj => oj.after.any fun e => Region.binds md e && (e.on == i || W.getD e.on false) | none => false))) (Array.replicate ops.size false)

def drawFrom (md : Region.Mode) (ops : Array Oper) (eff : Nat → Bool) : Nat → Nat → Array Bool → Bool
  | 0, _, listed => (Region.ready md ops listed).isEmpty
  | f + 1, k, listed => (bif eff k then decide (Region.ready md ops listed = [k])
      else (Region.ready md ops listed).contains k && Region.free md ops listed k && waitB md ops eff (fun j => (waiters md ops listed k).getD j false) listed k) &&
    drawFrom md ops eff f (k + 1) (listed.setIfInBounds k true)

def isEffOp : Op → Bool
  | .call { callee := .value _, .. } => true
  | o => !isPure o
def effAt (ops : Array Oper) (k : Nat) : Bool := match ops[k]? with | some o => isEffOp o.op | none => true
def drawB (ops : Array Oper) : Bool := Region.noSelect ops && drawFrom .any ops (effAt ops) ops.size 0 (Array.replicate ops.size false)

def aopsD (P : Program) (T : TypeId → TI) (ops : Array Oper) (K : ASt → Prop) : List Oper → ASt → Prop
  | [], s => K s
  | o :: r, s => bif isEffOp o.op then astep P T ops s o (aopsD P T ops K r) else astepQ P T ops s o (aopsD P T ops K r)
end

section
variable {P : Program} {T : TypeId → TI} {E : Ent} {s : ASt} {ρ : List (Option (Nat × Nat))} {a : Act} {w : World}

theorem aopsD_sound (hT : TabOk P T) {ops : Array Oper} {Q : Exit → Act → World → Prop} {K : ASt → Prop} (hs : Region.noSelect ops = true) (hK : ∀ s' ρ' a' w', K s' → Rep E s' ρ' a' w' → Q .normal a' w') :
    ∀ (l : List Oper) (k : Nat) (listed : Array Bool) (s : ASt) (ρ : List (Option (Nat × Nat))) (a : Act) (w : World), (∀ j, l[j]? = ops[k + j]?) → drawFrom .any ops (effAt ops) l.length k listed = true →
      aopsD P T ops K l s → Rep E s ρ a w → wpAnyE P .any ops Q (effAt ops) l.length listed a w
  | [], k, listed, s, ρ, a, w, hl, hB, h, hr => ⟨by simpa [drawFrom] using hB, fun w' hb => hK _ _ _ _ h (hr.below hb)⟩
  | o :: l, k, listed, s, ρ, a, w, hl, hB, h, hr => by
    have h0 : ops[k]? = some o := by simpa using (hl 0).symm
    have hl' : ∀ j, l[j]? = ops[k + 1 + j]? := fun j => by have := hl (j + 1); simpa [Nat.add_assoc, Nat.add_comm 1 j] using this
    simp only [List.length_cons, drawFrom, Bool.and_eq_true] at hB
    obtain ⟨hB1, hB2⟩ := hB
    have he : effAt ops k = isEffOp o.op := by simp [effAt, h0]
    simp only [aopsD] at h
    cases hf : isEffOp o.op with
    | true =>
      rw [he, hf] at hB1
      simp only [hf, cond_true] at h
      simp only [cond_true, decide_eq_true_eq] at hB1
      refine ⟨fun h1 => (by rw [hB1] at h1; cases h1), fun i hi => ?_⟩
      rw [hB1] at hi
      have hik : i = k := by simpa using hi
      subst hik
      rw [if_pos (by rw [he, hf])]
      intro w' hb
      unfold wpOp
      simp only [h0]
      exact astep_sound hT (hr.below hb) o h fun s' ρ' a' w2 hs' hr' => aopsD_sound hT hs hK l (i + 1) _ s' ρ' a' w2 hl' hB2 hs' hr'
    | false =>
      rw [he, hf] at hB1
      simp only [hf, cond_false] at h
      simp only [cond_false, Bool.and_eq_true] at hB1
      obtain ⟨⟨hB3, hB4⟩, hB5⟩ := hB1
      have hq := astepQ_sound hT hr (ops := ops) o (KK := fun a' => wpAnyE P .any ops Q (effAt ops) l.length (listed.setIfInBounds k true) a' w) h
        fun s' a' hs' hr' => aopsD_sound hT hs hK l (k + 1) _ s' ρ a' w hl' hB2 hs' hr'
      have hq' : qOp P ops (Bel w) k (fun a' => wpAnyE P .any ops Q (effAt ops) l.length (listed.setIfInBounds k true) a' w) a := by
        unfold qOp
        simp only [h0]
        exact hq
      obtain ⟨v, hy, hKK⟩ := yieldsIn_of_qOp h0 hq'
      obtain ⟨hW1, hW2⟩ := waitB_spec hB5
      exact wpAnyE_first h0 (Region.noSelect_spec hs) (by rw [he, hf]) l.length listed a (Region.free_spec h0 hB4) hW1 hW2 (by simpa using hB3) hy hKK

theorem AWP.draw {Q : Exit → ASt → Prop} {id : Nat} {l : List Oper} (hm : P.follows .mixedOrders = true) (hT : TabOk P T) (hB : drawB l.toArray = true)
    (h : ∀ K : ASt → Prop, (∀ s', Q .normal s' → K s') → aopsD P T l.toArray K l s) : AWP P (.region id l.toArray true) s Q := fun E ρ a w hr => by
  simp only [drawB, Bool.and_eq_true] at hB
  refine wp_region_any hm (wpAny_of_E (eff := effAt l.toArray) _ _ a w _ ?_ ⟨rfl, rfl, rfl, Nat.le_refl _, fun _ _ => rfl⟩)
  have := aopsD_sound (E := E) hT (Q := fun e a' w' => ∃ s' ρ', Rep E s' ρ' a' w' ∧ Q e s') hB.1 (fun s' ρ' a' w' hs hr' => ⟨s', ρ', hr', hs⟩) l 0 (Array.replicate l.toArray.size false) s ρ a w (by simp) (by simpa using hB.2)
    (h _ fun _ hq => hq) hr
  simpa using this
end
end Go.Proofs.Ytplgghpnijmllaa
