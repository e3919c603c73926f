/- Statements whose order is open, in which calls that leave nothing behind stand beside variables that are made: one walk serves every order. It holds over any program whose types read as the table says. -/
import Derived.Test.YtfnilhdofopoeabDoorAvDraw
namespace Go.Proofs.YtfnilhdofopoeabDoor
set_option linter.unusedVariables false
set_option linter.unusedSimpArgs false
open Go Go.RowKit

section
variable {P : Program} {ops : Array Oper} {md : Region.Mode} {Q : Exit → Act → World → Prop} {eff grow : Nat → Bool}

/-- Whatever order is picked; of an operation that only makes memory it is also known that nothing else has turned. -/
def wpAnyG (P : Program) (md : Region.Mode) (ops : Array Oper) (Q : Exit → Act → World → Prop) (eff grow : Nat → Bool) : Nat → Array Bool → Act → World → Prop
  | 0, listed, a, w => Region.ready md ops listed = [] ∧ ∀ w', Bel w w' → Q .normal a w'
  | f + 1, listed, a, w => (Region.ready md ops listed = [] → ∀ w', Bel w w' → Q .normal a w') ∧ ∀ i ∈ Region.ready md ops listed,
      if eff i = true then (∀ w', Bel w w' → wpOp P ops Q i (fun a' w2 => (grow i = true → Bel w' w2) ∧ wpAnyG P md ops Q eff grow f (listed.setIfInBounds i true) a' w2) a w')
      else qOp P ops (Bel w) i (fun a' => wpAnyG P md ops Q eff grow f (listed.setIfInBounds i true) a' w) a

theorem wpAnyE_of_G : ∀ (f : Nat) (listed : Array Bool) (a : Act) (w : World), wpAnyG P md ops Q eff grow f listed a w → wpAnyE P md ops Q eff f listed a w
  | 0, _, _, _, h => h
  | f + 1, listed, a, w, h => by
    refine ⟨h.1, fun i hi => ?_⟩
    have := h.2 i hi
    by_cases he : eff i = true
    · rw [if_pos he] at this ⊢
      exact fun w' hb => wpOp_mono (fun a' w2 h' => wpAnyE_of_G f _ a' w2 h'.2) (this w' hb)
    · rw [if_neg he] at this ⊢
      exact qOp_mono (fun a' h' => wpAnyE_of_G f _ a' w h') this

/-- One value in every world that has grown out of this one, and nothing left behind. -/
def YieldsG (P : Program) (ops : Array Oper) (w0 : World) (o : Oper) (v : Value) (a : Act) : Prop :=
  (Region.wanted o (yielded ops a.tmps) = true ∧ ∀ w, Bel w0 w → o.quietAt P a (Bel w) w v) ∨ (Region.wanted o (yielded ops a.tmps) = false ∧ v = undef)
theorem YieldsG.later {w0 w1 : World} {o : Oper} {v : Value} {a : Act} (h : YieldsG P ops w0 o v a) (hb : Bel w0 w1) : YieldsG P ops w1 o v a :=
  h.imp (fun ⟨h1, h2⟩ => ⟨h1, fun w hw => h2 w (bel_trans hb hw)⟩) id
theorem YieldsG.inn {w0 : World} {o : Oper} {v : Value} {a : Act} (h : YieldsG P ops w0 o v a) : YieldsIn P ops (Bel w0) o v a :=
  h.imp (fun ⟨h1, h2⟩ => ⟨h1, fun w hw => quietUpon_mono (fun w' hw' => bel_trans hw hw') (h2 w hw)⟩) id
theorem YieldsG.of_same {w0 : World} {o : Oper} {v : Value} {a a' : Act} (hy : YieldsG P ops w0 o v a) (he : execOp a'.eval o = execOp a.eval o)
    (hw : Region.wanted o (yielded ops a'.tmps) = Region.wanted o (yielded ops a.tmps)) : YieldsG P ops w0 o v a' := by
  unfold YieldsG Oper.quietAt at *
  rw [he, hw]
  exact hy

theorem qOp_putG {C : World → Prop} {w0 : World} {j : Nat} {oi oj : Oper} {v : Value} (hj : ops[j]? = some oj) (hap : oi.apart ops oj = true)
    (hsi : ∀ cs b, oi.op ≠ .select cs b) (hsj : ∀ cs b, oj.op ≠ .select cs b) {K : Act → Prop} {a : Act}
    (hy : YieldsG P ops w0 oi v a) (h : qOp P ops C j K (a.put oi.dst v)) :
    qOp P ops C j (fun a' => YieldsG P ops w0 oi v a' ∧ K (a'.put oi.dst v)) a := by
  obtain ⟨h1, h2, h3⟩ := Oper.apart_spec hap
  have keep : ∀ (a : Act), YieldsG P ops w0 oi v a → ∀ u, YieldsG P ops w0 oi v (a.put oj.dst u) := fun a hy u =>
    hy.of_same (execOp_put oi hsi a oj.dst u h3) (wanted_put oi a oj.dst u h3)
  unfold qOp at *
  simp only [hj] at *
  rw [wanted_put oj a oi.dst v h1] at h
  split
  · rename_i hw
    simp only [hw, if_true] at h
    obtain ⟨u, hu, hn⟩ := h
    refine ⟨u, fun w hw' => ?_, keep a hy u, by rw [← Act.put_comm a v u h2]; exact hn⟩
    have := hu w hw'
    unfold Oper.quietAt at *
    rwa [execOp_put oj hsj a oi.dst v h1] at this
  · rename_i hw
    simp only [hw] at h
    exact ⟨keep a hy _, by rw [← Act.put_comm a v undef h2]; exact h⟩

theorem wpOp_putG {w0 : World} {j : Nat} {oi oj : Oper} {v : Value} (hj : ops[j]? = some oj) (hap : oi.apart ops oj = true)
    (hsi : ∀ cs b, oi.op ≠ .select cs b) (hsj : ∀ cs b, oj.op ≠ .select cs b)
    (hQ : ∀ c a w, ¬ Q (.panic c) a w) {K : Act → World → Prop} {a : Act} {w : World}
    (hy : YieldsG P ops w0 oi v a) (h : wpOp P ops Q j K (a.put oi.dst v) w) :
    wpOp P ops Q j (fun a' w' => YieldsG P ops w0 oi v a' ∧ K (a'.put oi.dst v) w') a w := by
  obtain ⟨h1, h2, h3⟩ := Oper.apart_spec hap
  have keep : ∀ (a : Act), YieldsG P ops w0 oi v a → ∀ u, YieldsG P ops w0 oi v (a.put oj.dst u) := fun a hy u =>
    hy.of_same (execOp_put oi hsi a oj.dst u h3) (wanted_put oi a oj.dst u h3)
  have keepD : ∀ d, YieldsG P ops w0 oi v { a with defers := d :: a.defers } := fun d => hy.of_same rfl rfl
  unfold wpOp at *
  simp only [hj] at *
  rw [wanted_put oj a oi.dst v h1] at h
  split
  · rename_i hw
    simp only [hw, if_true] at h
    rcases h with h | ⟨hasks, hlets⟩
    case inr => exact .inr ⟨by unfold Oper.asks at *; rw [execOp_put oj hsj a oi.dst v h1] at hasks; exact hasks, hlets⟩
    refine .inl ?_
    unfold Oper.wp at *
    rw [execOp_put oj hsj a oi.dst v h1] at h
    generalize (execOp a.eval oj).run P w = r at *
    cases r with
    | ok n w' =>
      cases n <;> simp only [Oper.upon] at h ⊢
      case value u => exact ⟨keep a hy u, by rw [← Act.put_comm a v u h2]; exact h⟩
      case skip => exact ⟨keep a hy _, by rw [← Act.put_comm a v undef h2]; exact h⟩
      case defer d =>
        refine ⟨keep _ (keepD d) _, ?_⟩
        rw [← Act.put_comm _ v undef h2, ← Act.put_defers]
        exact h
      case enter f args =>
        refine Calls.mono h fun e w'' he => ?_
        cases e with
        | returned u => exact ⟨keep a hy u, by rw [← Act.put_comm a v u h2]; exact he⟩
        | panicked c => exact (hQ _ _ _ he).elim
        | outgrown => exact he
      case row row args => exact Rows.mono h fun u w'' he => ⟨keep a hy u, by rw [← Act.put_comm a v u h2]; exact he⟩
    | halt x w' =>
      cases x <;> simp only [Oper.upon] at h ⊢
      case panic u => exact (hQ _ _ _ h).elim
  · rename_i hw
    simp only [hw] at h
    exact ⟨keep a hy _, by rw [← Act.put_comm a v undef h2]; exact h⟩

theorem getD_set_self {listed : Array Bool} {j : Nat} : (listed.setIfInBounds j true).getD j true = true := by
  rcases Nat.lt_or_ge j listed.size with h | h
  · simp [h]
  · simp [h]

theorem wpAnyG_first {i : Nat} {oi : Oper} {v : Value} {W : Nat → Bool} (hi : ops[i]? = some oi) (hsel : ∀ (j : Nat) (o : Oper) cs b, ops[j]? = some o → o.op ≠ .select cs b) (hne : eff i = false) (hQ : ∀ c a w, ¬ Q (.panic c) a w) :
    ∀ (f : Nat) (listed : Array Bool) (a : Act) (w : World),
      (∀ j oj, ops[j]? = some oj → j ≠ i → listed.getD j true = false → (∀ e ∈ oj.after, Region.binds md e = true → e.on ≠ i) → oi.apart ops oj = true) →
      (∀ j oj, ops[j]? = some oj → eff j = true → listed.getD j true = false → W j = true ∨ grow j = true) →
      (∀ j oj, ops[j]? = some oj → W j = true → ∃ e ∈ oj.after, Region.binds md e = true ∧ (e.on = i ∨ (W e.on = true ∧ listed.getD e.on true = false))) →
      i ∈ Region.ready md ops listed → YieldsG P ops w oi v a →
      wpAnyG P md ops Q eff grow f (listed.setIfInBounds i true) (a.put oi.dst v) w → wpAnyG P md ops Q eff grow (f + 1) listed a w := by
  have key : ∀ (listed : Array Bool), (∀ j oj, ops[j]? = some oj → W j = true → ∃ e ∈ oj.after, Region.binds md e = true ∧ (e.on = i ∨ (W e.on = true ∧ listed.getD e.on true = false))) →
      i ∈ Region.ready md ops listed → ∀ j, j ∈ Region.ready md ops listed → W j = false := by
    intro listed hW hr j hj
    cases hwj : W j with
    | false => rfl
    | true =>
      obtain ⟨_, oj, hoj, hall⟩ := mem_ready.1 hj
      obtain ⟨e, he, hb, h⟩ := hW j oj hoj hwj
      have h1 := hall e he hb
      have h0 : listed.getD e.on true = false := by
        rcases h with h | h
        · rw [h]; exact (mem_ready.1 hr).1
        · exact h.2
      rw [getD_both h0] at h1
      cases h1
  intro f
  induction f with
  | zero =>
    intro listed a w _ hE hW hr hy H
    refine ⟨fun h => (by rw [h] at hr; cases hr), fun j hj => ?_⟩
    by_cases hji : j = i
    · subst hji; rw [if_neg (by simp [hne])]; exact hy.inn.qOp hi H
    · have := ready_mono hj hji
      rw [H.1] at this
      cases this
  | succ f ih =>
    intro listed a w hfree hE hW hr hy H
    refine ⟨fun h => (by rw [h] at hr; cases hr), fun j hj => ?_⟩
    by_cases hji : j = i
    · subst hji; rw [if_neg (by simp [hne])]; exact hy.inn.qOp hi H
    · have hwj := key listed hW hr j hj
      obtain ⟨hjun, oj, hoj, hall⟩ := mem_ready.1 hj
      have h1 := H.2 j (ready_mono hj hji)
      have hnot : ∀ e ∈ oj.after, Region.binds md e = true → e.on ≠ i := fun e he hb heq => by
        have h1 := hall e he hb
        have h0 := (mem_ready.1 hr).1
        rw [heq, getD_both h0] at h1
        cases h1
      have hun : ∀ k, k ≠ j → (listed.setIfInBounds j true).getD k true = listed.getD k true := fun k hk => getD_set_ne true (fun h => hk h.symm)
      have hfree' : ∀ k ok, ops[k]? = some ok → k ≠ i → (listed.setIfInBounds j true).getD k true = false →
          (∀ e ∈ ok.after, Region.binds md e = true → e.on ≠ i) → oi.apart ops ok = true := fun k ok hk hki hu hno => by
        refine hfree k ok hk hki ?_ hno
        by_cases hjk : k = j
        · subst hjk; exact hjun
        · rw [hun k hjk] at hu; exact hu
      have hE' : ∀ k ok, ops[k]? = some ok → eff k = true → (listed.setIfInBounds j true).getD k true = false → W k = true ∨ grow k = true := fun k ok hk he hu => by
        by_cases hjk : k = j
        · subst hjk; rw [getD_set_self] at hu; cases hu
        · exact hE k ok hk he (by rw [← hun k hjk]; exact hu)
      have hW' : ∀ k ok, ops[k]? = some ok → W k = true → ∃ e ∈ ok.after, Region.binds md e = true ∧ (e.on = i ∨ (W e.on = true ∧ (listed.setIfInBounds j true).getD e.on true = false)) := fun k ok hk hw => by
        obtain ⟨e, he, hb, h⟩ := hW k ok hk hw
        refine ⟨e, he, hb, ?_⟩
        rcases h with h | ⟨h, h'⟩
        · exact .inl h
        · refine .inr ⟨h, ?_⟩
          rw [hun e.on (fun e' => by rw [e', hwj] at h; cases h)]
          exact h'
      have hap := hfree j oj hoj hji hjun hnot
      cases he : eff j with
      | true =>
        have hg : grow j = true := (hE j oj hoj he hjun).resolve_left (by rw [hwj]; simp)
        rw [if_pos rfl]
        rw [he, if_pos rfl] at h1
        intro w' hb
        have h2 := wpOp_putG hoj hap (fun cs b => hsel i oi cs b hi) (fun cs b => hsel j oj cs b hoj) hQ hy (h1 w' hb)
        refine wpOp_mono (fun a' w2 h3 => ⟨h3.2.1, ih (listed.setIfInBounds j true) a' w2 hfree' hE' hW' (ready_mono hr (Ne.symm hji)) (YieldsG.later h3.1 (bel_trans hb (h3.2.1 hg))) ?_⟩) h2
        rw [Array.setIfInBounds_comm _ _ hji]
        exact h3.2.2
      | false =>
        rw [if_neg (by simp)]
        rw [he, if_neg (by simp)] at h1
        have h2 := qOp_putG hoj hap (fun cs b => hsel i oi cs b hi) (fun cs b => hsel j oj cs b hoj) hy h1
        refine qOp_mono (fun a' h3 => ih (listed.setIfInBounds j true) a' w hfree' hE' hW' (ready_mono hr (Ne.symm hji)) h3.1 ?_) h2
        rw [Array.setIfInBounds_comm _ _ hji]
        exact h3.2

/-- Every writing operation that has not come up waits for number 'i', or only makes memory. -/
def waitG (md : Region.Mode) (ops : Array Oper) (eff grow W : Nat → Bool) (listed : Array Bool) (i : Nat) : Bool :=
  (List.range ops.size).all fun j => (!(eff j && unl listed j) || (W j || grow j)) &&
    (!W j || (match ops[j]? with | some oj => oj.after.any fun e => Region.binds md e && (e.on == i || (W e.on && unl listed e.on)) | none => false))
theorem waitG_spec {W : Nat → Bool} {listed : Array Bool} {i : Nat} (h : waitG md ops eff grow W listed i = true) :
    (∀ j oj, ops[j]? = some oj → eff j = true → listed.getD j true = false → W j = true ∨ grow j = true) ∧
    (∀ j oj, ops[j]? = some oj → W j = true → ∃ e ∈ oj.after, Region.binds md e = true ∧ (e.on = i ∨ (W e.on = true ∧ listed.getD e.on true = false))) := by
  have hj : ∀ j oj, ops[j]? = some oj → j ∈ List.range ops.size := fun j oj ho => List.mem_range.2 (Array.getElem?_eq_some_iff.1 ho).1
  refine ⟨fun j oj ho he hu => ?_, fun j oj ho hw => ?_⟩
  · have := List.all_eq_true.1 h j (hj j oj ho)
    simp only [Bool.and_eq_true, Bool.or_eq_true, Bool.not_eq_true', he, unl, hu] at this
    simpa using this.1
  · have := List.all_eq_true.1 h j (hj j oj ho)
    simp only [Bool.and_eq_true, Bool.or_eq_true, Bool.not_eq_true', ho, hw] at this
    have := this.2
    simp only [Bool.true_eq_false, false_or, Array.any_eq_true', Bool.and_eq_true, Bool.or_eq_true, beq_iff_eq] at this
    obtain ⟨e, he, hb, h⟩ := this
    refine ⟨e, he, hb, ?_⟩
    rcases h with h | ⟨h, h'⟩
    · exact .inl h
    · exact .inr ⟨h, by simpa [unl] using h'⟩

def isEffQ : Op → Bool
  | .call { callee := .value _, .. } => false
  | .convert _ _ _ => false
  | o => !isPure o
def isGrow (T : TypeId → TI) : Op → Bool
  | .alloc t => !((T t).kind matches .other)
  | _ => false
def effQAt (ops : Array Oper) (k : Nat) : Bool := match ops[k]? with | some o => isEffQ o.op | none => true
def growAt (T : TypeId → TI) (ops : Array Oper) (k : Nat) : Bool := match ops[k]? with | some o => isGrow T o.op | none => false
/-- Quiet operations first, in the text's order; then what writes, one after the other. -/
def growFrom (T : TypeId → TI) (md : Region.Mode) (ops : Array Oper) : List Nat → Array Bool → Bool
  | [], listed => (Region.ready md ops listed).isEmpty
  | k :: ks, listed => (bif effQAt ops k then decide (Region.ready md ops listed = [k])
      else (Region.ready md ops listed).contains k && Region.free md ops listed k && waitG md ops (effQAt ops) (growAt T ops) (fun j => (waiters md ops listed k).getD j false) listed k) &&
    growFrom T md ops ks (listed.setIfInBounds k true)
def growOrd (ops : Array Oper) : List Nat := (List.range ops.size).filter (fun k => !effQAt ops k) ++ (List.range ops.size).filter (effQAt ops)
def growB (T : TypeId → TI) (ops : Array Oper) : Bool := Region.noSelect ops && growFrom T .any ops (growOrd ops) (Array.replicate ops.size false)
def inOrdG (l : List Oper) : List Oper := l.filter (fun o => !isEffQ o.op) ++ l.filter (fun o => isEffQ o.op)
end

section
variable {P : Program} {T : TypeId → TI} {E : Ent} {s : ASt} {ρ : List (Option (Nat × Nat))} {a : Act} {w : World}

def aopsG (P : Program) (T : TypeId → TI) (ops : Array Oper) (K : ASt → Prop) : List Oper → ASt → Prop
  | [], s => K s
  | o :: r, s => bif isEffQ o.op then astep P T ops s o (aopsG P T ops K r) else astepQ P T ops s o (aopsG P T ops K r)
theorem aopsG_nil (P : Program) (T : TypeId → TI) (ops : Array Oper) (K : ASt → Prop) (s : ASt) : aopsG P T ops K [] s = K s := rfl
theorem aopsG_cons (P : Program) (T : TypeId → TI) (ops : Array Oper) (K : ASt → Prop) (o : Oper) (r : List Oper) (s : ASt) : aopsG P T ops K (o :: r) s = bif isEffQ o.op then astep P T ops s o (aopsG P T ops K r) else astepQ P T ops s o (aopsG P T ops K r) := rfl

theorem bel_push (w : World) (o : Obj) : Bel w (pushB w o) :=
  pushB_below w o

theorem wpOp_grow (hT : TabOk P T) {ops : Array Oper} {i : Nat} {o : Oper} (hi : ops[i]? = some o) (hg : isGrow T o.op = true) {Q : Exit → Act → World → Prop} {K : Act → World → Prop} (h : wpOp P ops Q i K a w) :
    wpOp P ops Q i (fun a' w2 => Bel w w2 ∧ K a' w2) a w := by
  unfold wpOp at *
  simp only [hi] at *
  split
  · rename_i hw
    simp only [hw, if_true] at h
    rcases h with h | h
    case inr => exact .inr h
    refine .inl ?_
    obtain ⟨dst, op, ty, pos, after, guard⟩ := o
    simp only at hg
    cases op <;> simp only [isGrow] at hg <;> try cases hg
    rename_i t
    have hko : (T t).kind ≠ .other := by intro e; rw [e] at hg; simp at hg
    obtain ⟨z, hz1, hz2, _⟩ := run_zero (P := P) hT hko
    have hrun : (Instr.alloc t true (.tuple #[])).run P w = .ok (.pointer (some ⟨w.heap.size, 0, none⟩)) (pushB w (.cells z.cells t)) := by simp [Instr.alloc, hz1, newVar, newRow, pushB]
    unfold Oper.wp at *
    simp only [execOp, Sem.run_bind, hrun, Result.andThen_ok, Sem.run_pure, Oper.upon] at h ⊢
    exact ⟨bel_push _ _, h⟩
  · rename_i hw
    simp only [hw] at h
    exact ⟨bel_refl _, h⟩

theorem aopsG_sound (hT : TabOk P T) {ops : Array Oper} {Q : Exit → Act → World → Prop} {K : ASt → Prop} (hs : Region.noSelect ops = true) (hQ : ∀ c a w, ¬ Q (.panic c) a w) (hK : ∀ s' ρ' a' w', K s' → Rep E s' ρ' a' w' → Q .normal a' w') :
    ∀ (l : List Oper) (ks : List Nat) (listed : Array Bool) (s : ASt) (ρ : List (Option (Nat × Nat))) (a : Act) (w : World), ks.map (fun k => ops[k]?) = l.map some → growFrom T .any ops ks listed = true →
      aopsG P T ops K l s → Rep E s ρ a w → wpAnyG P .any ops Q (effQAt ops) (growAt T ops) l.length listed a w
  | [], ks, listed, s, ρ, a, w, hl, hB, h, hr => by
    have : ks = [] := by simpa using hl
    subst this
    exact ⟨by simpa [growFrom] using hB, fun w' hb => hK _ _ _ _ h (hr.below hb)⟩
  | o :: l, [], listed, s, ρ, a, w, hl, hB, h, hr => by simp at hl
  | o :: l, k :: ks, listed, s, ρ, a, w, hl, hB, h, hr => by
    simp only [List.map_cons, List.cons.injEq] at hl
    obtain ⟨h0, hl'⟩ := hl
    simp only [List.length_cons, growFrom, Bool.and_eq_true] at hB
    obtain ⟨hB1, hB2⟩ := hB
    have he : effQAt ops k = isEffQ o.op := by simp [effQAt, h0]
    simp only [aopsG] at h
    cases hf : isEffQ o.op with
    | true =>
      rw [he, hf] at hB1
      simp only [hf, cond_true] at h
      simp only [cond_true, decide_eq_true_eq] at hB1
      refine ⟨fun h1 => (by rw [hB1] at h1; cases h1), fun i hi => ?_⟩
      rw [hB1] at hi
      have hik : i = k := by simpa using hi
      subst hik
      rw [if_pos (by rw [he, hf])]
      intro w' hb
      have base : wpOp P ops Q i (fun a' w2 => wpAnyG P .any ops Q (effQAt ops) (growAt T ops) l.length (listed.setIfInBounds i true) a' w2) a w' := by
        unfold wpOp
        simp only [h0]
        exact astep_sound hT (hr.below hb) o h fun s' ρ' a' w2 hs' hr' => aopsG_sound hT hs hQ hK l ks _ s' ρ' a' w2 hl' hB2 hs' hr'
      by_cases hg : growAt T ops i = true
      · exact wpOp_mono (fun a' w2 h3 => ⟨fun _ => h3.1, h3.2⟩) (wpOp_grow hT h0 (by simpa [growAt, h0] using hg) base)
      · exact wpOp_mono (fun a' w2 h3 => ⟨fun hg' => absurd hg' hg, h3⟩) base
    | false =>
      rw [he, hf] at hB1
      simp only [hf, cond_false] at h
      simp only [cond_false, Bool.and_eq_true] at hB1
      obtain ⟨⟨hB3, hB4⟩, hB5⟩ := hB1
      have hq := astepQ_soundG hT hr (ops := ops) o (KK := fun a' => wpAnyG P .any ops Q (effQAt ops) (growAt T ops) l.length (listed.setIfInBounds k true) a' w) h
        fun s' a' hs' hr' => aopsG_sound hT hs hQ hK l ks _ s' ρ a' w hl' hB2 hs' hr'
      obtain ⟨hW1, hW2⟩ := waitG_spec hB5
      by_cases hw : Region.wanted o (yielded ops a.tmps) = true
      · rw [if_pos hw] at hq
        obtain ⟨v, h1, h2⟩ := hq
        exact wpAnyG_first h0 (Region.noSelect_spec hs) (by rw [he, hf]) hQ l.length listed a w (Region.free_spec h0 hB4) hW1 hW2 (by simpa using hB3) (.inl ⟨hw, h1⟩) h2
      · rw [if_neg hw] at hq
        exact wpAnyG_first h0 (Region.noSelect_spec hs) (by rw [he, hf]) hQ l.length listed a w (Region.free_spec h0 hB4) hW1 hW2 (by simpa using hB3) (.inr ⟨by simpa using hw, rfl⟩) hq

theorem AWP.drawG {Q : Exit → ASt → Prop} {id : Nat} {l : List Oper} (hm : P.follows .mixedOrders = true) (hT : TabOk P T) (hB : growB T l.toArray = true)
    (h : ∀ K : ASt → Prop, (∀ s', Q .normal s' → K s') → aopsG P T l.toArray K (inOrdG l) s) : AWP P (.region id l.toArray true) s Q := fun E ρ a w hr => by
  simp only [growB, Bool.and_eq_true] at hB
  have e : ∀ p : Oper → Bool, ((List.range l.toArray.size).filter (fun k => match l.toArray[k]? with | some x => p x | none => false)).map (fun k => l.toArray[k]?) = (l.filter p).map some := fun p => by
    have := filter_ops p l l 0 fun j => by simp
    rw [List.range_eq_range', List.size_toArray]
    exact this
  have e1 : ∀ k, k ∈ List.range l.toArray.size → (!effQAt l.toArray k) = (match l.toArray[k]? with | some x => !isEffQ x.op | none => false) := fun k hk => by
    have hk' : k < l.length := by simpa using hk
    simp [effQAt, hk']
  have e2 : ∀ k, k ∈ List.range l.toArray.size → effQAt l.toArray k = (match l.toArray[k]? with | some x => isEffQ x.op | none => false) := fun k hk => by
    have hk' : k < l.length := by simpa using hk
    simp [effQAt, hk']
  have hks : (growOrd l.toArray).map (fun k => l.toArray[k]?) = (inOrdG l).map some := by
    rw [growOrd, inOrdG, List.map_append, List.map_append, List.filter_congr e1, List.filter_congr e2, e, e]
  have hl : (inOrdG l).length = l.length := by
    rw [inOrdG, List.length_append, ← List.countP_eq_length_filter, ← List.countP_eq_length_filter, Nat.add_comm]
    have := List.length_eq_countP_add_countP (fun o : Oper => isEffQ o.op) (l := l)
    simpa using this.symm
  refine wpm (wp_region_any (Q := fun e a' w' => (∀ c, e ≠ .panic c) ∧ ∃ s' ρ', Rep E s' ρ' a' w' ∧ Q e s') hm (wpAny_of_E (eff := effQAt l.toArray) _ _ a w _ (wpAnyE_of_G (grow := growAt T l.toArray) _ _ _ _ ?_) ⟨rfl, rfl, rfl, Nat.le_refl _, fun _ _ => rfl⟩)) fun _ _ _ h => h.2
  have := aopsG_sound (E := E) hT (Q := fun e a' w' => (∀ c, e ≠ .panic c) ∧ ∃ s' ρ', Rep E s' ρ' a' w' ∧ Q e s') hB.1 (fun c a w h => h.1 c rfl) (fun s' ρ' a' w' hs hr' => ⟨by simp, s', ρ', hr', hs⟩) (inOrdG l) (growOrd l.toArray) (Array.replicate l.toArray.size false) s ρ a w hks hB.2
    (h _ fun _ hq => hq) hr
  simpa [hl] using this
end
end Go.Proofs.YtfnilhdofopoeabDoor
