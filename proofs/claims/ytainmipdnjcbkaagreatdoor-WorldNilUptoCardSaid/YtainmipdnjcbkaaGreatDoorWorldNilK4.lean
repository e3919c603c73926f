/- A part of what WorldNil leans on: texts of this claim, one behind the other. No condition. -/
import Derived.Test.YtainmipdnjcbkaaGreatDoorWorldNilK3
namespace Go.Proofs.YtainmipdnjcbkaaGreatDoor
set_option linter.unusedVariables false
set_option linter.unusedSimpArgs false
open Go Go.RowKit
section
variable {P : Program} {ops : Array Oper} {md : Region.Mode} {Q : Exit → Act → World → Prop} {eff grow : Nat → Bool}
def wpAnyG (P : Program) (md : Region.Mode) (ops : Array Oper) (Q : Exit → Act → World → Prop) (eff grow : Nat → Bool) : Nat → Array Bool → Act → World → Prop
  | 0, listed, a, w => Region.ready md ops listed = [] ∧ ∀ w', Bel w w' → Q .normal a w'
  | f + 1, listed, a, w => (Region.ready md ops listed = [] → ∀ w', Bel w w' → Q .normal a w') ∧ ∀ i ∈ Region.ready md ops listed,
      if eff i = true then (∀ w', Bel w w' → wpOp P ops Q i (fun a' w2 => (grow i = true → Bel w' w2) ∧ wpAnyG P md ops Q eff grow f (listed.setIfInBounds i true) a' w2) a w')
      else qOp P ops (Bel w) i (fun a' => wpAnyG P md ops Q eff grow f (listed.setIfInBounds i true) a' w) a
theorem wpAnyE_of_G : ∀ (f : Nat) (listed : Array Bool) (a : Act) (w : World), wpAnyG P md ops Q eff grow f listed a w → wpAnyE P md ops Q eff f listed a w
  | 0, _, _, _, h => h
  | f + 1, listed, a, w, h => by
    refine ⟨h.1, fun i hi => ?_⟩
    have := h.2 i hi
    by_cases he : eff i = true
    · rw [if_pos he] at this ⊢
      exact fun w' hb => wpOp_mono (fun a' w2 h' => wpAnyE_of_G f _ a' w2 h'.2) (this w' hb)
    · rw [if_neg he] at this ⊢
      exact qOp_mono (fun a' h' => wpAnyE_of_G f _ a' w h') this
def YieldsG (P : Program) (ops : Array Oper) (w0 : World) (o : Oper) (v : Value) (a : Act) : Prop :=
  (Region.wanted o (yielded ops a.tmps) = true ∧ ∀ w, Bel w0 w → o.quietAt P a (Bel w) w v) ∨ (Region.wanted o (yielded ops a.tmps) = false ∧ v = undef)
theorem YieldsG.later {w0 w1 : World} {o : Oper} {v : Value} {a : Act} (h : YieldsG P ops w0 o v a) (hb : Bel w0 w1) : YieldsG P ops w1 o v a :=
  h.imp (fun ⟨h1, h2⟩ => ⟨h1, fun w hw => h2 w (bel_trans hb hw)⟩) id
theorem YieldsG.inn {w0 : World} {o : Oper} {v : Value} {a : Act} (h : YieldsG P ops w0 o v a) : YieldsIn P ops (Bel w0) o v a :=
  h.imp (fun ⟨h1, h2⟩ => ⟨h1, fun w hw => quietUpon_mono (fun w' hw' => bel_trans hw hw') (h2 w hw)⟩) id
theorem YieldsG.of_same {w0 : World} {o : Oper} {v : Value} {a a' : Act} (hy : YieldsG P ops w0 o v a) (he : execOp a'.eval o = execOp a.eval o)
    (hw : Region.wanted o (yielded ops a'.tmps) = Region.wanted o (yielded ops a.tmps)) : YieldsG P ops w0 o v a' := by
  unfold YieldsG Oper.quietAt at *
  rw [he, hw]
  exact hy
theorem qOp_putG {C : World → Prop} {w0 : World} {j : Nat} {oi oj : Oper} {v : Value} (hj : ops[j]? = some oj) (hap : oi.apart ops oj = true)
    (hsi : ∀ cs b, oi.op ≠ .select cs b) (hsj : ∀ cs b, oj.op ≠ .select cs b) {K : Act → Prop} {a : Act}
    (hy : YieldsG P ops w0 oi v a) (h : qOp P ops C j K (a.put oi.dst v)) :
    qOp P ops C j (fun a' => YieldsG P ops w0 oi v a' ∧ K (a'.put oi.dst v)) a := by
  obtain ⟨h1, h2, h3⟩ := Oper.apart_spec hap
  have keep : ∀ (a : Act), YieldsG P ops w0 oi v a → ∀ u, YieldsG P ops w0 oi v (a.put oj.dst u) := fun a hy u =>
    hy.of_same (execOp_put oi hsi a oj.dst u h3) (wanted_put oi a oj.dst u h3)
  unfold qOp at *
  simp only [hj] at *
  rw [wanted_put oj a oi.dst v h1] at h
  split
  · rename_i hw
    simp only [hw, if_true] at h
    obtain ⟨u, hu, hn⟩ := h
    refine ⟨u, fun w hw' => ?_, keep a hy u, by rw [← Act.put_comm a v u h2]; exact hn⟩
    have := hu w hw'
    unfold Oper.quietAt at *
    rwa [execOp_put oj hsj a oi.dst v h1] at this
  · rename_i hw
    simp only [hw] at h
    exact ⟨keep a hy _, by rw [← Act.put_comm a v undef h2]; exact h⟩
theorem wpOp_putG {w0 : World} {j : Nat} {oi oj : Oper} {v : Value} (hj : ops[j]? = some oj) (hap : oi.apart ops oj = true)
    (hsi : ∀ cs b, oi.op ≠ .select cs b) (hsj : ∀ cs b, oj.op ≠ .select cs b)
    (hQ : ∀ c a w, ¬ Q (.panic c) a w) {K : Act → World → Prop} {a : Act} {w : World}
    (hy : YieldsG P ops w0 oi v a) (h : wpOp P ops Q j K (a.put oi.dst v) w) :
    wpOp P ops Q j (fun a' w' => YieldsG P ops w0 oi v a' ∧ K (a'.put oi.dst v) w') a w := by
  obtain ⟨h1, h2, h3⟩ := Oper.apart_spec hap
  have keep : ∀ (a : Act), YieldsG P ops w0 oi v a → ∀ u, YieldsG P ops w0 oi v (a.put oj.dst u) := fun a hy u =>
    hy.of_same (execOp_put oi hsi a oj.dst u h3) (wanted_put oi a oj.dst u h3)
  have keepD : ∀ d, YieldsG P ops w0 oi v { a with defers := d :: a.defers } := fun d => hy.of_same rfl rfl
  unfold wpOp at *
  simp only [hj] at *
  rw [wanted_put oj a oi.dst v h1] at h
  split
  · rename_i hw
    simp only [hw, if_true] at h
    rcases h with h | ⟨hasks, hlets⟩
    case inr => exact .inr ⟨by unfold Oper.asks at *; rw [execOp_put oj hsj a oi.dst v h1] at hasks; exact hasks, hlets⟩
    refine .inl ?_
    unfold Oper.wp at *
    rw [execOp_put oj hsj a oi.dst v h1] at h
    generalize (execOp a.eval oj).run P w = r at *
    cases r with
    | ok n w' =>
      cases n <;> simp only [Oper.upon] at h ⊢
      case value u => exact ⟨keep a hy u, by rw [← Act.put_comm a v u h2]; exact h⟩
      case skip => exact ⟨keep a hy _, by rw [← Act.put_comm a v undef h2]; exact h⟩
      case defer d =>
        refine ⟨keep _ (keepD d) _, ?_⟩
        rw [← Act.put_comm _ v undef h2, ← Act.put_defers]
        exact h
      case enter f args =>
        refine Calls.mono h fun e w'' he => ?_
        cases e with
        | returned u => exact ⟨keep a hy u, by rw [← Act.put_comm a v u h2]; exact he⟩
        | panicked c => exact (hQ _ _ _ he).elim
        | outgrown => exact he
      case row row args => exact Rows.mono h fun u w'' he => ⟨keep a hy u, by rw [← Act.put_comm a v u h2]; exact he⟩
    | halt x w' =>
      cases x <;> simp only [Oper.upon] at h ⊢
      case panic u => exact (hQ _ _ _ h).elim
  · rename_i hw
    simp only [hw] at h
    exact ⟨keep a hy _, by rw [← Act.put_comm a v undef h2]; exact h⟩
theorem getD_set_self {listed : Array Bool} {j : Nat} : (listed.setIfInBounds j true).getD j true = true := by
  rcases Nat.lt_or_ge j listed.size with h | h
  · simp [h]
  · simp [h]
theorem wpAnyG_first {i : Nat} {oi : Oper} {v : Value} {W : Nat → Bool} (hi : ops[i]? = some oi) (hsel : ∀ (j : Nat) (o : Oper) cs b, ops[j]? = some o → o.op ≠ .select cs b) (hne : eff i = false) (hQ : ∀ c a w, ¬ Q (.panic c) a w) :
    ∀ (f : Nat) (listed : Array Bool) (a : Act) (w : World),
      (∀ j oj, ops[j]? = some oj → j ≠ i → listed.getD j true = false → (∀ e ∈ oj.after, Region.binds md e = true → e.on ≠ i) → oi.apart ops oj = true) →
      (∀ j oj, ops[j]? = some oj → eff j = true → listed.getD j true = false → W j = true ∨ grow j = true) →
      (∀ j oj, ops[j]? = some oj → W j = true → ∃ e ∈ oj.after, Region.binds md e = true ∧ (e.on = i ∨ (W e.on = true ∧ listed.getD e.on true = false))) →
      i ∈ Region.ready md ops listed → YieldsG P ops w oi v a →
      wpAnyG P md ops Q eff grow f (listed.setIfInBounds i true) (a.put oi.dst v) w → wpAnyG P md ops Q eff grow (f + 1) listed a w := by
  have key : ∀ (listed : Array Bool), (∀ j oj, ops[j]? = some oj → W j = true → ∃ e ∈ oj.after, Region.binds md e = true ∧ (e.on = i ∨ (W e.on = true ∧ listed.getD e.on true = false))) →
      i ∈ Region.ready md ops listed → ∀ j, j ∈ Region.ready md ops listed → W j = false := by
    intro listed hW hr j hj
    cases hwj : W j with
    | false => rfl
    | true =>
      obtain ⟨_, oj, hoj, hall⟩ := mem_ready.1 hj
      obtain ⟨e, he, hb, h⟩ := hW j oj hoj hwj
      have h1 := hall e he hb
      have h0 : listed.getD e.on true = false := by
        rcases h with h | h
        · rw [h]; exact (mem_ready.1 hr).1
        · exact h.2
      rw [getD_both h0] at h1
      cases h1
  intro f
  induction f with
  | zero =>
    intro listed a w _ hE hW hr hy H
    refine ⟨fun h => (by rw [h] at hr; cases hr), fun j hj => ?_⟩
    by_cases hji : j = i
    · subst hji; rw [if_neg (by simp [hne])]; exact hy.inn.qOp hi H
    · have := ready_mono hj hji
      rw [H.1] at this
      cases this
  | succ f ih =>
    intro listed a w hfree hE hW hr hy H
    refine ⟨fun h => (by rw [h] at hr; cases hr), fun j hj => ?_⟩
    by_cases hji : j = i
    · subst hji; rw [if_neg (by simp [hne])]; exact hy.inn.qOp hi H
    · have hwj := key listed hW hr j hj
      obtain ⟨hjun, oj, hoj, hall⟩ := mem_ready.1 hj
      have h1 := H.2 j (ready_mono hj hji)
      have hnot : ∀ e ∈ oj.after, Region.binds md e = true → e.on ≠ i := fun e he hb heq => by
        have h1 := hall e he hb
        have h0 := (mem_ready.1 hr).1
        rw [heq, getD_both h0] at h1
        cases h1
      have hun : ∀ k, k ≠ j → (listed.setIfInBounds j true).getD k true = listed.getD k true := fun k hk => getD_set_ne true (fun h => hk h.symm)
      have hfree' : ∀ k ok, ops[k]? = some ok → k ≠ i → (listed.setIfInBounds j true).getD k true = false →
          (∀ e ∈ ok.after, Region.binds md e = true → e.on ≠ i) → oi.apart ops ok = true := fun k ok hk hki hu hno => by
        refine hfree k ok hk hki ?_ hno
        by_cases hjk : k = j
        · subst hjk; exact hjun
        · rw [hun k hjk] at hu; exact hu
      have hE' : ∀ k ok, ops[k]? = some ok → eff k = true → (listed.setIfInBounds j true).getD k true = false → W k = true ∨ grow k = true := fun k ok hk he hu => by
        by_cases hjk : k = j
        · subst hjk; rw [getD_set_self] at hu; cases hu
        · exact hE k ok hk he (by rw [← hun k hjk]; exact hu)
      have hW' : ∀ k ok, ops[k]? = some ok → W k = true → ∃ e ∈ ok.after, Region.binds md e = true ∧ (e.on = i ∨ (W e.on = true ∧ (listed.setIfInBounds j true).getD e.on true = false)) := fun k ok hk hw => by
        obtain ⟨e, he, hb, h⟩ := hW k ok hk hw
        refine ⟨e, he, hb, ?_⟩
        rcases h with h | ⟨h, h'⟩
        · exact .inl h
        · refine .inr ⟨h, ?_⟩
          rw [hun e.on (fun e' => by rw [e', hwj] at h; cases h)]
          exact h'
      have hap := hfree j oj hoj hji hjun hnot
      cases he : eff j with
      | true =>
        have hg : grow j = true := (hE j oj hoj he hjun).resolve_left (by rw [hwj]; simp)
        rw [if_pos rfl]
        rw [he, if_pos rfl] at h1
        intro w' hb
        have h2 := wpOp_putG hoj hap (fun cs b => hsel i oi cs b hi) (fun cs b => hsel j oj cs b hoj) hQ hy (h1 w' hb)
        refine wpOp_mono (fun a' w2 h3 => ⟨h3.2.1, ih (listed.setIfInBounds j true) a' w2 hfree' hE' hW' (ready_mono hr (Ne.symm hji)) (YieldsG.later h3.1 (bel_trans hb (h3.2.1 hg))) ?_⟩) h2
        rw [Array.setIfInBounds_comm _ _ hji]
        exact h3.2.2
      | false =>
        rw [if_neg (by simp)]
        rw [he, if_neg (by simp)] at h1
        have h2 := qOp_putG hoj hap (fun cs b => hsel i oi cs b hi) (fun cs b => hsel j oj cs b hoj) hy h1
        refine qOp_mono (fun a' h3 => ih (listed.setIfInBounds j true) a' w hfree' hE' hW' (ready_mono hr (Ne.symm hji)) h3.1 ?_) h2
        rw [Array.setIfInBounds_comm _ _ hji]
        exact h3.2
def waitG (md : Region.Mode) (ops : Array Oper) (eff grow W : Nat → Bool) (listed : Array Bool) (i : Nat) : Bool :=
  (List.range ops.size).all fun j => (!(eff j && unl listed j) || (W j || grow j)) &&
    (!W j || (match ops[j]? with | some oj => oj.after.any fun e => Region.binds md e && (e.on == i || (W e.on && unl listed e.on)) | none => false))
theorem waitG_spec {W : Nat → Bool} {listed : Array Bool} {i : Nat} (h : waitG md ops eff grow W listed i = true) :
    (∀ j oj, ops[j]? = some oj → eff j = true → listed.getD j true = false → W j = true ∨ grow j = true) ∧
    (∀ j oj, ops[j]? = some oj → W j = true → ∃ e ∈ oj.after, Region.binds md e = true ∧ (e.on = i ∨ (W e.on = true ∧ listed.getD e.on true = false))) := by
  have hj : ∀ j oj, ops[j]? = some oj → j ∈ List.range ops.size := fun j oj ho => List.mem_range.2 (Array.getElem?_eq_some_iff.1 ho).1
  refine ⟨fun j oj ho he hu => ?_, fun j oj ho hw => ?_⟩
  · have := List.all_eq_true.1 h j (hj j oj ho)
    simp only [Bool.and_eq_true, Bool.or_eq_true, Bool.not_eq_true', he, unl, hu] at this
    simpa using this.1
  · have := List.all_eq_true.1 h j (hj j oj ho)
    simp only [Bool.and_eq_true, Bool.or_eq_true, Bool.not_eq_true', ho, hw] at this
    have := this.2
    simp only [Bool.true_eq_false, false_or, Array.any_eq_true', Bool.and_eq_true, Bool.or_eq_true, beq_iff_eq] at this
    obtain ⟨e, he, hb, h⟩ := this
    refine ⟨e, he, hb, ?_⟩
    rcases h with h | ⟨h, h'⟩
    · exact .inl h
    · exact .inr ⟨h, by simpa [unl] using h'⟩
def isEffQ : Op → Bool
  | .call { callee := .value _, .. } => false
  | .convert _ _ _ => false
  | o => !isPure o
def isGrow (T : TypeId → TI) : Op → Bool
  | .alloc t => !((T t).kind matches .other)
  | _ => false
def effQAt (ops : Array Oper) (k : Nat) : Bool := match ops[k]? with | some o => isEffQ o.op | none => true
def growAt (T : TypeId → TI) (ops : Array Oper) (k : Nat) : Bool := match ops[k]? with | some o => isGrow T o.op | none => false
def growFrom (T : TypeId → TI) (md : Region.Mode) (ops : Array Oper) : List Nat → Array Bool → Bool
  | [], listed => (Region.ready md ops listed).isEmpty
  | k :: ks, listed => (bif effQAt ops k then decide (Region.ready md ops listed = [k])
      else (Region.ready md ops listed).contains k && Region.free md ops listed k && waitG md ops (effQAt ops) (growAt T ops) (fun j => (waiters md ops listed k).getD j false) listed k) &&
    growFrom T md ops ks (listed.setIfInBounds k true)
def growOrd (ops : Array Oper) : List Nat := (List.range ops.size).filter (fun k => !effQAt ops k) ++ (List.range ops.size).filter (effQAt ops)
def growB (T : TypeId → TI) (ops : Array Oper) : Bool := Region.noSelect ops && growFrom T .any ops (growOrd ops) (Array.replicate ops.size false)
def inOrdG (l : List Oper) : List Oper := l.filter (fun o => !isEffQ o.op) ++ l.filter (fun o => isEffQ o.op)
end
section
variable {P : Program} {T : TypeId → TI} {E : Ent} {s : ASt} {ρ : List (Option (Nat × Nat))} {a : Act} {w : World}
def aopsG (P : Program) (T : TypeId → TI) (ops : Array Oper) (K : ASt → Prop) : List Oper → ASt → Prop
  | [], s => K s
  | o :: r, s => bif isEffQ o.op then astep P T ops s o (aopsG P T ops K r) else astepQ P T ops s o (aopsG P T ops K r)
theorem aopsG_nil (P : Program) (T : TypeId → TI) (ops : Array Oper) (K : ASt → Prop) (s : ASt) : aopsG P T ops K [] s = K s := rfl
theorem aopsG_cons (P : Program) (T : TypeId → TI) (ops : Array Oper) (K : ASt → Prop) (o : Oper) (r : List Oper) (s : ASt) : aopsG P T ops K (o :: r) s = bif isEffQ o.op then astep P T ops s o (aopsG P T ops K r) else astepQ P T ops s o (aopsG P T ops K r) := rfl
theorem bel_push (w : World) (o : Obj) : Bel w (pushB w o) :=
  pushB_below w o
theorem wpOp_grow (hT : TabOk P T) {ops : Array Oper} {i : Nat} {o : Oper} (hi : ops[i]? = some o) (hg : isGrow T o.op = true) {Q : Exit → Act → World → Prop} {K : Act → World → Prop} (h : wpOp P ops Q i K a w) :
    wpOp P ops Q i (fun a' w2 => Bel w w2 ∧ K a' w2) a w := by
  unfold wpOp at *
  simp only [hi] at *
  split
  · rename_i hw
    simp only [hw, if_true] at h
    rcases h with h | h
    case inr => exact .inr h
    refine .inl ?_
    obtain ⟨dst, op, ty, pos, after, guard⟩ := o
    simp only at hg
    cases op <;> simp only [isGrow] at hg <;> try cases hg
    rename_i t
    have hko : (T t).kind ≠ .other := by intro e; rw [e] at hg; simp at hg
    obtain ⟨z, hz1, hz2, _⟩ := run_zero (P := P) hT hko
    have hrun : (Instr.alloc t true (.tuple #[])).run P w = .ok (.pointer (some ⟨w.heap.size, 0, none⟩)) (pushB w (.cells z.cells t)) := by simp [Instr.alloc, hz1, newVar, newRow, pushB]
    unfold Oper.wp at *
    simp only [execOp, Sem.run_bind, hrun, Result.andThen_ok, Sem.run_pure, Oper.upon] at h ⊢
    exact ⟨bel_push _ _, h⟩
  · rename_i hw
    simp only [hw] at h
    exact ⟨bel_refl _, h⟩
theorem aopsG_sound (hT : TabOk P T) {ops : Array Oper} {Q : Exit → Act → World → Prop} {K : ASt → Prop} (hs : Region.noSelect ops = true) (hQ : ∀ c a w, ¬ Q (.panic c) a w) (hK : ∀ s' ρ' a' w', K s' → Rep E s' ρ' a' w' → Q .normal a' w') :
    ∀ (l : List Oper) (ks : List Nat) (listed : Array Bool) (s : ASt) (ρ : List (Option (Nat × Nat))) (a : Act) (w : World), ks.map (fun k => ops[k]?) = l.map some → growFrom T .any ops ks listed = true →
      aopsG P T ops K l s → Rep E s ρ a w → wpAnyG P .any ops Q (effQAt ops) (growAt T ops) l.length listed a w
  | [], ks, listed, s, ρ, a, w, hl, hB, h, hr => by
    have : ks = [] := by simpa using hl
    subst this
    exact ⟨by simpa [growFrom] using hB, fun w' hb => hK _ _ _ _ h (hr.below hb)⟩
  | o :: l, [], listed, s, ρ, a, w, hl, hB, h, hr => by simp at hl
  | o :: l, k :: ks, listed, s, ρ, a, w, hl, hB, h, hr => by
    simp only [List.map_cons, List.cons.injEq] at hl
    obtain ⟨h0, hl'⟩ := hl
    simp only [List.length_cons, growFrom, Bool.and_eq_true] at hB
    obtain ⟨hB1, hB2⟩ := hB
    have he : effQAt ops k = isEffQ o.op := by simp [effQAt, h0]
    simp only [aopsG] at h
    cases hf : isEffQ o.op with
    | true =>
      rw [he, hf] at hB1
      simp only [hf, cond_true] at h
      simp only [cond_true, decide_eq_true_eq] at hB1
      refine ⟨fun h1 => (by rw [hB1] at h1; cases h1), fun i hi => ?_⟩
      rw [hB1] at hi
      have hik : i = k := by simpa using hi
      subst hik
      rw [if_pos (by rw [he, hf])]
      intro w' hb
      have base : wpOp P ops Q i (fun a' w2 => wpAnyG P .any ops Q (effQAt ops) (growAt T ops) l.length (listed.setIfInBounds i true) a' w2) a w' := by
        unfold wpOp
        simp only [h0]
        exact astep_sound hT (hr.below hb) o h fun s' ρ' a' w2 hs' hr' => aopsG_sound hT hs hQ hK l ks _ s' ρ' a' w2 hl' hB2 hs' hr'
      by_cases hg : growAt T ops i = true
      · exact wpOp_mono (fun a' w2 h3 => ⟨fun _ => h3.1, h3.2⟩) (wpOp_grow hT h0 (by simpa [growAt, h0] using hg) base)
      · exact wpOp_mono (fun a' w2 h3 => ⟨fun hg' => absurd hg' hg, h3⟩) base
    | false =>
      rw [he, hf] at hB1
      simp only [hf, cond_false] at h
      simp only [cond_false, Bool.and_eq_true] at hB1
      obtain ⟨⟨hB3, hB4⟩, hB5⟩ := hB1
      have hq := astepQ_soundG hT hr (ops := ops) o (KK := fun a' => wpAnyG P .any ops Q (effQAt ops) (growAt T ops) l.length (listed.setIfInBounds k true) a' w) h
        fun s' a' hs' hr' => aopsG_sound hT hs hQ hK l ks _ s' ρ a' w hl' hB2 hs' hr'
      obtain ⟨hW1, hW2⟩ := waitG_spec hB5
      by_cases hw : Region.wanted o (yielded ops a.tmps) = true
      · rw [if_pos hw] at hq
        obtain ⟨v, h1, h2⟩ := hq
        exact wpAnyG_first h0 (Region.noSelect_spec hs) (by rw [he, hf]) hQ l.length listed a w (Region.free_spec h0 hB4) hW1 hW2 (by simpa using hB3) (.inl ⟨hw, h1⟩) h2
      · rw [if_neg hw] at hq
        exact wpAnyG_first h0 (Region.noSelect_spec hs) (by rw [he, hf]) hQ l.length listed a w (Region.free_spec h0 hB4) hW1 hW2 (by simpa using hB3) (.inr ⟨by simpa using hw, rfl⟩) hq
theorem AWP.drawG {Q : Exit → ASt → Prop} {id : Nat} {l : List Oper} (hm : P.follows .mixedOrders = true) (hT : TabOk P T) (hB : growB T l.toArray = true)
    (h : ∀ K : ASt → Prop, (∀ s', Q .normal s' → K s') → aopsG P T l.toArray K (inOrdG l) s) : AWP P (.region id l.toArray true) s Q := fun E ρ a w hr => by
  simp only [growB, Bool.and_eq_true] at hB
  have e : ∀ p : Oper → Bool, ((List.range l.toArray.size).filter (fun k => match l.toArray[k]? with | some x => p x | none => false)).map (fun k => l.toArray[k]?) = (l.filter p).map some := fun p => by
    have := filter_ops p l l 0 fun j => by simp
    rw [List.range_eq_range', List.size_toArray]
    exact this
  have e1 : ∀ k, k ∈ List.range l.toArray.size → (!effQAt l.toArray k) = (match l.toArray[k]? with | some x => !isEffQ x.op | none => false) := fun k hk => by
    have hk' : k < l.length := by simpa using hk
    simp [effQAt, hk']
  have e2 : ∀ k, k ∈ List.range l.toArray.size → effQAt l.toArray k = (match l.toArray[k]? with | some x => isEffQ x.op | none => false) := fun k hk => by
    have hk' : k < l.length := by simpa using hk
    simp [effQAt, hk']
  have hks : (growOrd l.toArray).map (fun k => l.toArray[k]?) = (inOrdG l).map some := by
    rw [growOrd, inOrdG, List.map_append, List.map_append, List.filter_congr e1, List.filter_congr e2, e, e]
  have hl : (inOrdG l).length = l.length := by
    rw [inOrdG, List.length_append, ← List.countP_eq_length_filter, ← List.countP_eq_length_filter, Nat.add_comm]
    have := List.length_eq_countP_add_countP (fun o : Oper => isEffQ o.op) (l := l)
    simpa using this.symm
  refine wpm (wp_region_any (Q := fun e a' w' => (∀ c, e ≠ .panic c) ∧ ∃ s' ρ', Rep E s' ρ' a' w' ∧ Q e s') hm (wpAny_of_E (eff := effQAt l.toArray) _ _ a w _ (wpAnyE_of_G (grow := growAt T l.toArray) _ _ _ _ ?_) ⟨rfl, rfl, rfl, Nat.le_refl _, fun _ _ => rfl⟩)) fun _ _ _ h => h.2
  have := aopsG_sound (E := E) hT (Q := fun e a' w' => (∀ c, e ≠ .panic c) ∧ ∃ s' ρ', Rep E s' ρ' a' w' ∧ Q e s') hB.1 (fun c a w h => h.1 c rfl) (fun s' ρ' a' w' hs hr' => ⟨by simp, s', ρ', hr', hs⟩) (inOrdG l) (growOrd l.toArray) (Array.replicate l.toArray.size false) s ρ a w hks hB.2
    (h _ fun _ hq => hq) hr
  simpa [hl] using this
end
end Go.Proofs.YtainmipdnjcbkaaGreatDoor
namespace Go.Proofs.YtainmipdnjcbkaaGreatDoor
set_option linter.unusedVariables false
set_option linter.unusedSimpArgs false
open Go Go.RowKit
section
variable {P : Program} {T : TypeId → TI} {E : Ent} {s : ASt} {ρ ρ' : List (Option (Nat × Nat))} {a : Act} {w w' : World} {hp : List ABlk}
/-! ### A function's end -/
def ares1 (T : TypeId → TI) (s : ASt) : ResultVar → PR
  | .tmp t => ⟨gdok (aget s.env t), strip (aget s.env t)⟩
  | .cell t ty => g1 (aget s.env t) (aload (T ty) s.hp)
def aresL (T : TypeId → TI) (s : ASt) : List ResultVar → Prop × List AV
  | [] => (True, [])
  | r :: l => ((ares1 T s r).ok ∧ (aresL T s l).1, (ares1 T s r).v :: (aresL T s l).2)
def tupOf : List AV → AV
  | [x] => x
  | l => .tup l
def AOut (np : Nat) (hp : List ABlk) (v : AV) (R : AV → List ABlk → Prop) : Prop :=
  ∀ (E : Ent) (ρ : List (Option (Nat × Nat))) (w : World) (u : Value), E.ρ0.length = np → RepH E ρ hp w → (∀ (k : Nat) (p : Option (Nat × Nat)), E.ρ0[k]? = some p → ρ[k]? = some p) → RepV ρ (okB E ρ hp w) w v u →
    ∃ v' hp' ρ', R v' hp' ∧ RepH E ρ' hp' w ∧ (∀ (k : Nat) (p : Option (Nat × Nat)), E.ρ0[k]? = some p → ρ'[k]? = some p) ∧ RepV ρ' (okB E ρ' hp' w) w v' u
def aend (T : TypeId → TI) (rs : List ResultVar) (R : AV → List ABlk → Prop) : Exit → ASt → Prop
  | .ret, s => (aresL T s rs).1 ∧ AOut s.np s.hp (tupOf (aresL T s rs).2) R
  | .normal, s => (aresL T s rs).1 ∧ AOut s.np s.hp (tupOf (aresL T s rs).2) R
  | _, _ => False
def resVar (tmps : Array Value) (r : ResultVar) : Sem Value :=
  match r with
  | .tmp t => pure (tmps.getD t undef)
  | .cell a t => do loadVar t (← asAddr (tmps.getD a undef))
theorem results_eq (fn : Func) (tmps : Array Value) : results fn tmps = (fn.results.mapM (resVar tmps) >>= fun vs => pure (if h : vs.size = 1 then vs[0] else .tuple vs)) := by
  unfold results
  congr 1
theorem ares1_sound (hT : TabOk P T) (h : Rep E s ρ a w) (r : ResultVar) (hk : (ares1 T s r).ok) :
    ∃ u, RepV ρ (okB E ρ s.hp w) w (ares1 T s r).v u ∧ (resVar a.tmps r).run P w = .ok u w := by
  cases r with
  | tmp t => exact ⟨_, strip_ok (h.env t) hk, by simp only [resVar, Sem.run_pure]⟩
  | cell x ty =>
    obtain ⟨hg, hk⟩ := hk
    obtain ⟨u, h1, h2⟩ := run_aload (P := P) hT h.lt h.heap.blks ty _ _ (strip_ok (h.env x) hg) hk
    have h3 := h2 w (below_refl w)
    refine ⟨u, h1, ?_⟩
    generalize hq : a.tmps.getD x undef = q at *
    have : ∃ ad, q = .pointer (some ad) := by
      clear hq
      cases q with
      | pointer p =>
        cases p with
        | some ad => exact ⟨ad, rfl⟩
        | none => simp [Instr.loadAt, Instr.sureAddr] at h3
      | _ => simp [Instr.loadAt, Instr.sureAddr] at h3
    obtain ⟨ad, rfl⟩ := this
    simp [Instr.loadAt, Instr.sureAddr] at h3
    simp only [resVar, hq, asAddr, Sem.run_bind, Sem.run_pure, Result.andThen_ok]
    exact h3
theorem aresL_sound (hT : TabOk P T) (h : Rep E s ρ a w) : ∀ (rs : List ResultVar), (aresL T s rs).1 → ∃ us : List Value, us.length = rs.length ∧ RepVs ρ (okB E ρ s.hp w) w (aresL T s rs).2 us ∧
    (rs.mapM (resVar a.tmps)).run P w = .ok us w
  | [], _ => ⟨[], rfl, ⟨rfl, by simp⟩, by simp⟩
  | r :: l, hk => by
    obtain ⟨u, h1, h2⟩ := ares1_sound hT h r hk.1
    obtain ⟨us, h3, h4, h5⟩ := aresL_sound hT h l hk.2
    refine ⟨u :: us, by simp [h3], ⟨by simp [aresL, h4.1], fun j x v hx hv => ?_⟩, ?_⟩
    · match j with
      | 0 => simp [aresL] at hx hv; subst hx; subst hv; exact h1
      | j + 1 => exact h4.2 j x v (by simpa [aresL] using hx) (by simpa using hv)
    · rw [List.mapM_cons, Sem.run_bind, h2, Result.andThen_ok, Sem.run_bind, h5, Result.andThen_ok]
      rfl
theorem results_sound (hT : TabOk P T) (h : Rep E s ρ a w) (fn : Func) (hk : (aresL T s fn.results.toList).1) :
    ∃ u, RepV ρ (okB E ρ s.hp w) w (tupOf (aresL T s fn.results.toList).2) u ∧ (results fn a.tmps).run P w = .ok u w := by
  obtain ⟨us, h1, h2, h3⟩ := aresL_sound hT h fn.results.toList hk
  have hm : (fn.results.mapM (resVar a.tmps)).run P w = .ok us.toArray w := by
    rw [Array.mapM_eq_mapM_toList, Sem.run_map, h3, Result.andThen_ok]
  have hrun : (results fn a.tmps).run P w = .ok (if h : us.toArray.size = 1 then us.toArray[0] else .tuple us.toArray) w := by
    rw [results_eq, Sem.run_bind, hm, Result.andThen_ok]
    rfl
  by_cases hl : us.length = 1
  · match us, hl, h2, hrun with
    | [u], _, h2, hrun =>
      have : ∃ x, (aresL T s fn.results.toList).2 = [x] := by
        match hx : (aresL T s fn.results.toList).2, h2.1 with
        | [x], _ => exact ⟨x, rfl⟩
      obtain ⟨x, hx⟩ := this
      rw [hx] at h2
      refine ⟨u, ?_, by simpa using hrun⟩
      rw [hx]
      exact h2.2 0 x u rfl rfl
  · refine ⟨.tuple us.toArray, ?_, ?_⟩
    · have : tupOf (aresL T s fn.results.toList).2 = .tup (aresL T s fn.results.toList).2 := by
        have hll := h2.1
        cases hx : (aresL T s fn.results.toList).2 with
        | nil => rfl
        | cons x r =>
          cases r with
          | nil => rw [hx] at hll; exact absurd hll hl
          | cons y r => rfl
      rw [this]
      exact .tup _ _ h2.1 h2.2
    · rw [hrun]
      have : ¬ (us.toArray.size = 1) := by simpa using hl
      rw [dif_neg this]
def apar : Nat → List AV → List (Nat × AV)
  | _, [] => []
  | k, x :: r => (k, x) :: apar (k + 1) r
theorem apar_get : ∀ (xs : List AV) (k t : Nat), aget (apar k xs) t = if k ≤ t ∧ t < k + xs.length then xs.getD (t - k) .any else .any
  | [], k, t => by simp [apar, aget]
  | x :: r, k, t => by
    simp only [apar, aget]
    by_cases h : k = t
    · subst h; simp
    · rw [if_neg h, apar_get r (k + 1) t]
      by_cases h2 : k + 1 ≤ t ∧ t < k + 1 + r.length
      · rw [if_pos h2, if_pos (by simp; omega), show t - k = (t - (k + 1)) + 1 from by omega]
        simp
      · rw [if_neg h2, if_neg (by simp; omega)]
theorem zi (hT : TabOk P T) {g : FuncId} {fn : Func} {c : Code} (hf : P.funcs[g]? = some fn) (hb : fn.body = some c) (hn : (fn.name == "runtime.NumGoroutine") = false)
    {hp : List ABlk} {xs : List AV} {R : AV → List ABlk → Prop} (hx : xs.length ≤ fn.ntmps)
    (h : AWP P c { np := hp.length, nt := fn.ntmps, env := apar 0 xs, hp := hp } (aend T fn.results.toList R)) : acall P hp g xs R := by
  refine ⟨⟨fn, hf, hn, by rw [hb]; rfl⟩, fun E w us hw hH hus => ?_⟩
  have hnp : E.ρ0.length = hp.length := hH.len
  refine calls_of_wp hf hb (wpm (h E E.ρ0 _ w ⟨hnp, rfl, ?_, fun t => ?_, hH, fun _ _ hk => hk⟩) fun e a' w' hh => ?_)
  · simp [hus.1]; omega
  · rw [apar_get]
    by_cases ht : 0 ≤ t ∧ t < 0 + xs.length
    · rw [if_pos ht]
      have hlt : t < xs.length := by omega
      have : (us.toArray ++ Array.replicate (fn.ntmps - us.toArray.size) undef).getD t undef = us.getD t undef := by
        rw [Array.getD_eq_getD_getElem?, Array.getElem?_append_left (by simp [hus.1, hlt])]
        simp [List.getD_eq_getElem?_getD]
      rw [this, Nat.sub_zero]
      exact hus.2 t _ _ (getD_of_lt _ _ _ hlt) (getD_of_lt _ _ _ (by rw [hus.1]; exact hlt))
    · rw [if_neg ht]; exact .any _
  · obtain ⟨s', ρ', hr, hq⟩ := hh
    have fin : (aresL T s' fn.results.toList).1 ∧ AOut s'.np s'.hp (tupOf (aresL T s' fn.results.toList).2) R → a'.defers = [] ∧ ∃ v, (results fn a'.tmps).run P w' = .ok v w' ∧
        ∃ u v_1 hp' ρ', Ending.returned v = .returned u ∧ R v_1 hp' ∧ RepH E ρ' hp' w' ∧ (∀ (k : Nat) (p : Option (Nat × Nat)), E.ρ0[k]? = some p → ρ'[k]? = some p) ∧ RepV ρ' (okB E ρ' hp' w') w' v_1 u := by
      intro ⟨h1, h2⟩
      obtain ⟨u, hu, hrun⟩ := results_sound hT hr fn h1
      obtain ⟨v', hp', ρ2, q1, q2, q3, q4⟩ := h2 E ρ' w' u hr.np hr.heap hr.pre hu
      exact ⟨hr.nodef, u, hrun, u, v', hp', ρ2, rfl, q1, q2, q3, q4⟩
    cases e with
    | ret => exact fin hq
    | normal => exact fin hq
    | _ => exact hq.elim
theorem AOut.data {hp : List ABlk} {v : AV} {R : AV → List ABlk → Prop} (hf : frzOk hp v) (hn : noId (frzV hp v)) (hR : R (frzV hp v) []) : AOut 0 hp v R := by
  intro E ρ w u hnp hH hpre hv
  have h0 : E.ρ0 = [] := List.eq_nil_of_length_eq_zero hnp
  have hnl : ∀ b, ¬ Live [] [] b := fun b ⟨k, x, m, hx, _⟩ => by simp at hx
  have hok : ∀ b, okB E ρ hp w b → okB E [] [] w b := fun b ⟨h1, h2, _⟩ => ⟨h1, h2, hnl b⟩
  have key : ∀ (k b m sz : Nat) (rs : List (List DV)), hp[k]? = some (.rows sz rs) → ρ[k]? = some (some (b, m)) → okB E [] [] w b := by
    intro k b m sz rs hk hb
    obtain ⟨q1, us, ty, fz, q2, _⟩ := hH.blk k _ b m hk hb (by simp)
    rcases q1 with q1 | q1
    · obtain ⟨k', m', hk'⟩ := E.hL b q1
      rw [h0] at hk'; simp at hk'
    · exact ⟨.inr q1, lt_of_heap q2, hnl b⟩
  refine ⟨frzV hp v, [], [], hR, ⟨rfl, by simp, by simp, by simp, hH.fr⟩, by simp [h0], ?_⟩
  exact frz_ok hH.blks hok key hv hf hn
/-! ### Renaming of blocks -/
mutual
def renV (f : Nat → Nat) : AV → AV
  | .ptr k off => .ptr (f k) off
  | .rp k sz i off => .rp (f k) sz i off
  | .osl k sz off n => .osl (f k) sz off n
  | .agg cs => .agg (renL f cs)
  | .tup cs => .tup (renL f cs)
  | .clo g a b => .clo g (renL f a) (renL f b)
  | .gd g v => .gd g (renV f v)
  | .mp k => .mp (f k)
  | .d x => .d x
  | .dp row off => .dp row off
  | .any => .any
def renL (f : Nat → Nat) : List AV → List AV
  | [] => []
  | x :: r => renV f x :: renL f r
end
def renB (f : Nat → Nat) : ABlk → ABlk
  | .cells cs => .cells (renL f cs)
  | .rows sz rs => .rows sz rs
  | .full sz rs => .full sz rs
  | .bytes l => .bytes l
  | .map es => .map es
  | .iter k a b c => .iter (f k) a b c
  | .dead => .dead
mutual
def inV (n : Nat) : AV → Prop
  | .ptr k _ => k < n
  | .rp k _ _ _ => k < n
  | .osl k _ _ _ => k < n
  | .agg cs => inL n cs
  | .tup cs => inL n cs
  | .clo _ a b => inL n a ∧ inL n b
  | .gd _ v => inV n v
  | .mp k => k < n
  | _ => True
def inL (n : Nat) : List AV → Prop
  | [] => True
  | x :: r => inV n x ∧ inL n r
end
def inB (n : Nat) : ABlk → Prop
  | .cells cs => inL n cs
  | .iter k _ _ _ => k < n
  | _ => True
theorem renL_get {f : Nat → Nat} : ∀ {cs : List AV} {j : Nat}, (renL f cs)[j]? = (cs[j]?).map (renV f)
  | [], j => by simp [renL]
  | x :: r, 0 => by simp [renL]
  | x :: r, j + 1 => by simp only [renL, List.getElem?_cons_succ]; exact renL_get
theorem renL_length {f : Nat → Nat} : ∀ {cs : List AV}, (renL f cs).length = cs.length
  | [] => rfl
  | x :: r => by simp [renL, renL_length (cs := r)]
theorem inL_get {n : Nat} : ∀ {cs : List AV} {j : Nat} {x : AV}, inL n cs → cs[j]? = some x → inV n x
  | y :: r, 0, x, h, hx => by simp at hx; subst hx; exact h.1
  | y :: r, j + 1, x, h, hx => inL_get h.2 (by simpa using hx)
theorem ren_up {ok ok' : Nat → Prop} {f : Nat → Nat} (hρ : ∀ (k : Nat) (p : Option (Nat × Nat)), ρ[k]? = some p → ρ'[f k]? = some p) (hok : ∀ b, ok b → ok' b ∧ w'.heap[b]? = w.heap[b]?)
    {v : AV} {u : Value} (h : RepV ρ ok w v u) : RepV ρ' ok' w' (renV f v) u := by
  induction h with
  | d x v h => simp only [renV]; exact .d _ _ (h.mono hok)
  | agg cs us hl h1 hr ih =>
    simp only [renV]
    refine .agg _ _ (by rw [renL_length]; exact hl) h1 fun j c u hc hu => ?_
    rw [renL_get] at hc
    obtain ⟨x, hx, rfl⟩ := Option.map_eq_some_iff.1 hc
    exact ih j x u hx hu
  | tup cs us hl hr ih =>
    simp only [renV]
    refine .tup _ _ (by rw [renL_length]; exact hl) fun j c u hc hu => ?_
    rw [renL_get] at hc
    obtain ⟨x, hx, rfl⟩ := Option.map_eq_some_iff.1 hc
    exact ih j x u hx hu
  | ptr k off b m h => simp only [renV]; exact .ptr _ _ b m (hρ _ _ h)
  | rp k sz i off b m h => simp only [renV]; exact .rp _ _ _ _ b m (hρ _ _ h)
  | osl k sz off n b m cap h hm hn => simp only [renV]; exact .osl _ _ _ _ b m cap (hρ _ _ h) hm hn
  | oslnil k sz A h => simp only [renV]; exact .oslnil _ _ A (hρ _ _ h)
  | dp row off b o u hb hc hr =>
    simp only [renV]
    exact .dp row off b o u (hok b hb).1 (fun j c hj => (cell_of_same (hok b hb).2).trans (hc j c hj)) fun j c hj => (hr j c hj).mono hok
  | clo g first caps us vs hl hl' hr hr' ih ih' =>
    simp only [renV]
    refine .clo _ _ _ us vs (by rw [renL_length]; exact hl) (by rw [renL_length]; exact hl') (fun j c u hc hu => ?_) fun j c u hc hu => ?_
    · rw [renL_get] at hc
      obtain ⟨x, hx, rfl⟩ := Option.map_eq_some_iff.1 hc
      exact ih j x u hx hu
    · rw [renL_get] at hc
      obtain ⟨x, hx, rfl⟩ := Option.map_eq_some_iff.1 hc
      exact ih' j x u hx hu
  | mp k b m h => simp only [renV]; exact .mp _ b m (hρ _ _ h)
  | gd g v u ht hf ih => simp only [renV]; exact .gd _ _ _ ih hf
  | any u => simp only [renV]; exact .any u
theorem ren_down {ok ok' : Nat → Prop} {f : Nat → Nat} {n : Nat} (hρ : ∀ (k : Nat) (p : Option (Nat × Nat)), k < n → ρ[f k]? = some p → ρ'[k]? = some p) (hok : ∀ b, ok b → ok' b ∧ w'.heap[b]? = w.heap[b]?)
    {x : AV} {u : Value} (h : RepV ρ ok w x u) : ∀ (v : AV), x = renV f v → inV n v → RepV ρ' ok' w' v u := by
  induction h with
  | d x u h => intro v e hi; cases v <;> simp [renV] at e; subst e; exact .d _ _ (h.mono hok)
  | agg cs us hl h1 hr ih =>
    intro v e hi
    cases v <;> simp [renV] at e
    subst e
    simp only [inV] at hi
    refine .agg _ _ (by rw [renL_length] at hl; exact hl) h1 fun j c u hc hu => ?_
    exact ih j (renV f c) u (by rw [renL_get, hc]; rfl) hu c rfl (inL_get hi hc)
  | tup cs us hl hr ih =>
    intro v e hi
    cases v <;> simp [renV] at e
    subst e
    simp only [inV] at hi
    refine .tup _ _ (by rw [renL_length] at hl; exact hl) fun j c u hc hu => ?_
    exact ih j (renV f c) u (by rw [renL_get, hc]; rfl) hu c rfl (inL_get hi hc)
  | ptr k off b m h => intro v e hi; cases v <;> simp [renV] at e; obtain ⟨rfl, rfl⟩ := e; exact .ptr _ _ b m (hρ _ _ hi h)
  | rp k sz i off b m h => intro v e hi; cases v <;> simp [renV] at e; obtain ⟨rfl, rfl, rfl, rfl⟩ := e; exact .rp _ _ _ _ b m (hρ _ _ hi h)
  | osl k sz off n b m cap h hm hn => intro v e hi; cases v <;> simp [renV] at e; obtain ⟨rfl, rfl, rfl, rfl⟩ := e; exact .osl _ _ _ _ b m cap (hρ _ _ hi h) hm hn
  | oslnil k sz A h => intro v e hi; cases v <;> simp [renV] at e; obtain ⟨rfl, rfl, rfl, rfl⟩ := e; exact .oslnil _ _ A (hρ _ _ hi h)
  | dp row off b o u hb hc hr =>
    intro v e hi
    cases v <;> simp [renV] at e
    obtain ⟨rfl, rfl⟩ := e
    exact .dp row off b o u (hok b hb).1 (fun j c hj => (cell_of_same (hok b hb).2).trans (hc j c hj)) fun j c hj => (hr j c hj).mono hok
  | clo g first caps us vs hl hl' hr hr' ih ih' =>
    intro v e hi
    cases v <;> simp [renV] at e
    obtain ⟨rfl, rfl, rfl⟩ := e
    simp only [inV] at hi
    rw [renL_length] at hl hl'
    refine .clo _ _ _ us vs hl hl' (fun j c u hc hu => ?_) fun j c u hc hu => ?_
    · exact ih j (renV f c) u (by rw [renL_get, hc]; rfl) hu c rfl (inL_get hi.1 hc)
    · exact ih' j (renV f c) u (by rw [renL_get, hc]; rfl) hu c rfl (inL_get hi.2 hc)
  | mp k b m h => intro v e hi; cases v <;> simp [renV] at e; subst e; exact .mp _ b m (hρ _ _ hi h)
  | gd g v u ht hf ih =>
    intro v' e hi
    cases v' <;> simp [renV] at e
    obtain ⟨rfl, rfl⟩ := e
    exact .gd _ _ _ (fun hg => ih hg _ rfl hi) hf
  | any u => intro v e hi; cases v <;> simp [renV] at e; exact .any u
/-! ### What may be forgotten of a state, and its blocks named anew -/
def mAt (m : List Nat) (big k : Nat) : Nat := (m[k]?).getD big
def envLe (f : Nat → Nat) (n : Nat) (env : List (Nat × AV)) : List (Nat × AV) → Prop
  | [] => True
  | (t, v) :: r => (aget env t = renV f v ∧ inV n v) ∧ envLe f n env r
def hpLe (f : Nat → Nat) (n : Nat) (hp : List ABlk) : Nat → List ABlk → Prop
  | _, [] => True
  | i, x :: r => (x = .dead ∨ (hp[f i]? = some (renB f x) ∧ inB n x)) ∧ hpLe f n hp (i + 1) r
theorem envLe_get {f : Nat → Nat} {n : Nat} {env : List (Nat × AV)} : ∀ {env' : List (Nat × AV)}, envLe f n env env' → ∀ t, aget env' t = .any ∨ (aget env t = renV f (aget env' t) ∧ inV n (aget env' t))
  | [], _, t => .inl rfl
  | (k, v) :: r, h, t => by
    simp only [aget]
    split
    · rename_i e; subst e; exact .inr h.1
    · exact envLe_get h.2 t
theorem hpLe_get {f : Nat → Nat} {n : Nat} {hp : List ABlk} : ∀ {hp' : List ABlk} {i : Nat}, hpLe f n hp i hp' → ∀ (j : Nat) (x : ABlk), hp'[j]? = some x → x = .dead ∨ (hp[f (i + j)]? = some (renB f x) ∧ inB n x)
  | [], i, _, j, x, hx => by simp at hx
  | y :: r, i, h, 0, x, hx => by simp at hx; subst hx; exact h.1
  | y :: r, i, h, j + 1, x, hx => by
    have := hpLe_get (i := i + 1) h.2 j x (by simpa using hx)
    rwa [show i + 1 + j = i + (j + 1) from by omega] at this
theorem plain_ren {f : Nat → Nat} {x : ABlk} {us : Array Value} {fz : Nat × Nat} : plain (renB f x) us fz ↔ plain x us fz := by
  cases x <;> simp [plain, renB]
theorem renB_obj {f : Nat → Nat} {x : ABlk} : (renB f x).isObj = x.isObj := by cases x <;> rfl
theorem renB_dead {f : Nat → Nat} {x : ABlk} (h : x ≠ .dead) : renB f x ≠ .dead := by cases x <;> simp_all [renB]
theorem blk_down {ok ok' : Nat → Prop} {f : Nat → Nat} {n : Nat} (hρ : ∀ (k : Nat) (p : Option (Nat × Nat)), k < n → ρ[f k]? = some p → ρ'[k]? = some p) (hok : ∀ b, ok b → ok' b ∧ w'.heap[b]? = w.heap[b]?)
    {us : Array Value} {x : ABlk} (h : RepBlk ρ ok w us (renB f x)) (hi : inB n x) : RepBlk ρ' ok' w' us x := by
  refine ⟨h.1, ?_⟩
  cases x with
  | cells cs =>
    obtain ⟨_, h1, h2⟩ := h
    rw [renL_length] at h1
    exact ⟨h1, fun j c u hc hu => ren_down hρ hok (h2 j (renV f c) u (by rw [renL_get, hc]; rfl) hu) c rfl (inL_get hi hc)⟩
  | rows sz rs =>
    obtain ⟨_, h1, h2, h3⟩ := h
    exact ⟨h1, h2, fun i r hi j c u hc hu => (h3 i r hi j c u hc hu).mono hok⟩
  | full sz rs =>
    obtain ⟨_, h1, h2, h3⟩ := h
    exact ⟨h1, h2, fun i r hi j c u hc hu => (h3 i r hi j c u hc hu).mono hok⟩
  | bytes l =>
    obtain ⟨_, h1, h2, h3⟩ := h
    exact ⟨h1, h2, fun i r hi j c u hc hu => (h3 i r hi j c u hc hu).mono hok⟩
  | map es => trivial
  | iter k a b c => trivial
  | dead => trivial
theorem blk_up {ok ok' : Nat → Prop} {f : Nat → Nat} (hρ : ∀ (k : Nat) (p : Option (Nat × Nat)), ρ[k]? = some p → ρ'[f k]? = some p) (hok : ∀ b, ok b → ok' b ∧ w'.heap[b]? = w.heap[b]?)
    {us : Array Value} {x : ABlk} (h : RepBlk ρ ok w us x) : RepBlk ρ' ok' w' us (renB f x) := by
  refine ⟨h.1, ?_⟩
  cases x with
  | cells cs =>
    obtain ⟨_, h1, h2⟩ := h
    refine ⟨by rw [renL_length]; exact h1, fun j c u hc hu => ?_⟩
    rw [renL_get] at hc
    obtain ⟨y, hy, rfl⟩ := Option.map_eq_some_iff.1 hc
    exact ren_up hρ hok (h2 j y u hy hu)
  | rows sz rs =>
    obtain ⟨_, h1, h2, h3⟩ := h
    exact ⟨h1, h2, fun i r hi j c u hc hu => (h3 i r hi j c u hc hu).mono hok⟩
  | full sz rs =>
    obtain ⟨_, h1, h2, h3⟩ := h
    exact ⟨h1, h2, fun i r hi j c u hc hu => (h3 i r hi j c u hc hu).mono hok⟩
  | bytes l =>
    obtain ⟨_, h1, h2, h3⟩ := h
    exact ⟨h1, h2, fun i r hi j c u hc hu => (h3 i r hi j c u hc hu).mono hok⟩
  | map es => trivial
  | iter k a b c => trivial
  | dead => trivial
theorem obj_down {ok ok' : Nat → Prop} {f : Nat → Nat} {n m : Nat} {o : Obj} (hρ : ∀ (k : Nat) (p : Option (Nat × Nat)), k < n → ρ[f k]? = some p → ρ'[k]? = some p) (hok : ∀ b, ok b → ok' b ∧ w'.heap[b]? = w.heap[b]?)
    {x : ABlk} (h : RepObj ρ ok w m o (renB f x)) (hi : inB n x) : RepObj ρ' ok' w' m o x := by
  by_cases hm : x.isObj = false
  · obtain ⟨us, ty, fz, h1, h2, h3, h4⟩ := (RepObj.cells (by rw [renB_obj]; exact hm)).1 h
    exact (RepObj.cells hm).2 ⟨us, ty, fz, h1, h2, ⟨h3.1, plain_ren.1 h3.2⟩, blk_down hρ hok h4 hi⟩
  · cases x with
    | map es => exact h
    | iter k a b c => obtain ⟨b', m', h1, h2⟩ := h; exact ⟨b', m', hρ _ _ hi h1, h2⟩
    | _ => simp at hm
theorem obj_up {ok ok' : Nat → Prop} {f : Nat → Nat} {m : Nat} {o : Obj} (hρ : ∀ (k : Nat) (p : Option (Nat × Nat)), ρ[k]? = some p → ρ'[f k]? = some p) (hok : ∀ b, ok b → ok' b ∧ w'.heap[b]? = w.heap[b]?)
    {x : ABlk} (h : RepObj ρ ok w m o x) : RepObj ρ' ok' w' m o (renB f x) := by
  by_cases hm : x.isObj = false
  · obtain ⟨us, ty, fz, h1, h2, h3, h4⟩ := (RepObj.cells hm).1 h
    exact (RepObj.cells (by rw [renB_obj]; exact hm)).2 ⟨us, ty, fz, h1, h2, ⟨h3.1, plain_ren.2 h3.2⟩, blk_up hρ hok h4⟩
  · cases x with
    | map es => exact h
    | iter k a b c => obtain ⟨b', m', h1, h2⟩ := h; exact ⟨b', m', hρ _ _ h1, h2⟩
    | _ => simp at hm
theorem SImp.frame (m : List Nat) {np nt : Nat} {env env' : List (Nat × AV)} {hp hp' : List ABlk} (hl : hp'.length = m.length) (hm : ∀ i, i ∈ m → i < hp.length) (hinj : m.Nodup) (hpre : ∀ k, k < np → m[k]? = some k)
    (he : envLe (mAt m hp.length) m.length env env') (hh : hpLe (mAt m hp.length) m.length hp 0 hp') :
    SImp { np := np, nt := nt, env := env, hp := hp } { np := np, nt := nt, env := env', hp := hp' } := by
  intro E ρ a w h
  have hlen := h.heap.len
  simp only at hlen
  have hmi : ∀ (i j x : Nat), m[i]? = some x → m[j]? = some x → i = j := by
    intro i j x hi hj
    obtain ⟨hi1, hi2⟩ := List.getElem?_eq_some_iff.1 hi
    obtain ⟨hj1, hj2⟩ := List.getElem?_eq_some_iff.1 hj
    have hpw := List.pairwise_iff_getElem.1 hinj
    rcases Nat.lt_trichotomy i j with hlt | heq | hgt
    · exact absurd (hi2.trans hj2.symm) (hpw i j hi1 hj1 hlt)
    · exact heq
    · exact absurd (hj2.trans hi2.symm) (hpw j i hj1 hi1 hgt)
  have hget : ∀ i, i < m.length → ∃ x, m[i]? = some x ∧ mAt m hp.length i = x ∧ x < ρ.length := by
    intro i hi
    refine ⟨m[i], List.getElem?_eq_getElem hi, by simp [mAt, List.getElem?_eq_getElem hi], ?_⟩
    rw [hlen]; exact hm _ (List.getElem_mem hi)
  let ρ' : List (Option (Nat × Nat)) := m.map fun i => (ρ[i]?).getD none
  have hρ' : ∀ (k : Nat) (p : Option (Nat × Nat)), ρ'[k]? = some p ↔ ∃ x, m[k]? = some x ∧ ρ[x]? = some p := by
    intro k p
    simp only [ρ', List.getElem?_map, Option.map_eq_some_iff]
    constructor
    · rintro ⟨x, hx, e⟩
      have hxl : x < ρ.length := by rw [hlen]; exact hm x (List.mem_of_getElem? hx)
      rw [List.getElem?_eq_getElem hxl] at e
      exact ⟨x, hx, by rw [List.getElem?_eq_getElem hxl]; simpa using e⟩
    · rintro ⟨x, hx, e⟩
      exact ⟨x, hx, by rw [e]; rfl⟩
  have hdown : ∀ (k : Nat) (p : Option (Nat × Nat)), k < m.length → ρ[mAt m hp.length k]? = some p → ρ'[k]? = some p := by
    intro k p hk hp'
    obtain ⟨x, hx, e, _⟩ := hget k hk
    rw [e] at hp'
    exact (hρ' k p).2 ⟨x, hx, hp'⟩
  have hblk : ∀ (j : Nat) (x : ABlk) (p : Option (Nat × Nat)), hp'[j]? = some x → x ≠ .dead → ρ'[j]? = some p → ∃ i, m[j]? = some i ∧ mAt m hp.length j = i ∧ hp[i]? = some (renB (mAt m hp.length) x) ∧ inB m.length x ∧ ρ[i]? = some p := by
    intro j x p hx hd hpj
    rcases hpLe_get hh j x hx with e | ⟨h1, h2⟩
    · exact absurd e hd
    · rw [Nat.zero_add] at h1
      obtain ⟨i, hi, hip⟩ := (hρ' j p).1 hpj
      have : mAt m hp.length j = i := by simp [mAt, hi]
      rw [this] at h1
      exact ⟨i, hi, this, by rw [this] at *; exact h1, h2, hip⟩
  have hlive : ∀ b, Live ρ' hp' b → Live ρ hp b := by
    intro b ⟨k, x, q, hx, hd, hk⟩
    obtain ⟨i, _, _, h1, _, h2⟩ := hblk k x _ hx hd hk
    exact ⟨i, _, q, h1, renB_dead hd, h2⟩
  have hok : ∀ b, okB E ρ hp w b → okB E ρ' hp' w b ∧ w.heap[b]? = w.heap[b]? := fun b ⟨h1, h2, h3⟩ => ⟨⟨h1, h2, fun hl => h3 (hlive b hl)⟩, rfl⟩
  refine ⟨ρ', h.np, h.nodef, h.nt, fun t => ?_, ⟨by simp [ρ', hl], fun k x b q hx hk hd => ?_, fun k x hx hk => ?_, fun k k' x x' b q q' hx hx' hd hd' hk hk' => ?_, h.heap.fr⟩, fun k p hk => ?_⟩
  · rcases envLe_get he t with e | ⟨e, hi⟩
    · simp only [e]; exact .any _
    · have := h.env t
      simp only [e] at this
      exact ren_down hdown hok this _ rfl hi
  · obtain ⟨i, _, _, h1, h2, h3⟩ := hblk k x _ hx hd hk
    obtain ⟨q1, o, q2, q3⟩ := h.heap.obj i _ b q h1 h3 (renB_dead hd)
    exact ⟨q1, o, q2, obj_down hdown hok q3 h2⟩
  · by_cases hd : x = .dead
    · exact .inl hd
    · obtain ⟨i, _, _, h1, h2, h3⟩ := hblk k x _ hx hd hk
      rcases h.heap.nil i _ h1 h3 with e | ⟨sz, e⟩
      · exact absurd e (renB_dead hd)
      · right
        cases x with
        | cells cs => simp [renB] at e
        | rows sz' rs => simp [renB] at e; exact ⟨sz', by rw [e.2]⟩
        | full sz' rs => simp [renB] at e
        | bytes l => simp [renB] at e
        | map es => simp [renB] at e
        | iter k a b c => simp [renB] at e
        | dead => simp [renB] at e
  · obtain ⟨i, a1, _, h1, _, h3⟩ := hblk k x _ hx hd hk
    obtain ⟨i', a1', _, h1', _, h3'⟩ := hblk k' x' _ hx' hd' hk'
    have := h.heap.inj i i' _ _ b q q' h1 h1' (renB_dead hd) (renB_dead hd') h3 h3'
    subst this
    exact hmi k k' i a1 a1'
  · have hkn : k < np := by
      have := (List.getElem?_eq_some_iff.1 hk).1
      rw [h.np] at this; exact this
    exact (hρ' k p).2 ⟨k, hpre k hkn, h.pre k p hk⟩
theorem SImp.keep {np nt : Nat} {env env' : List (Nat × AV)} {hp hp' : List ABlk} (hn : np ≤ hp'.length) (hlt : hp'.length ≤ hp.length)
    (he : envLe (mAt (List.range hp'.length) hp.length) hp'.length env env') (hh : hpLe (mAt (List.range hp'.length) hp.length) hp'.length hp 0 hp') :
    SImp { np := np, nt := nt, env := env, hp := hp } { np := np, nt := nt, env := env', hp := hp' } :=
  SImp.frame (List.range hp'.length) (by simp) (fun i hi => by simp at hi; omega) List.nodup_range (fun k hk => by rw [List.getElem?_range (by omega)]) (by simpa using he) (by simpa using hh)
def frzE (hp : List ABlk) (env : List (Nat × AV)) : List (Nat × AV) → Prop
  | [] => True
  | (t, v) :: r => ((aget env t = v) ∨ (frzOk hp (aget env t) ∧ noId (frzV hp (aget env t)) ∧ v = frzV hp (aget env t))) ∧ frzE hp env r
def killRows : List ABlk → List ABlk
  | [] => []
  | .rows _ _ :: r => .dead :: killRows r
  | x :: r => x :: killRows r
theorem killRows_get : ∀ {hp : List ABlk} {k : Nat} {x : ABlk}, (killRows hp)[k]? = some x → x ≠ .dead → hp[k]? = some x
  | [], k, x, h, _ => by simp [killRows] at h
  | y :: r, 0, x, h, hd => by
    cases y with
    | rows _ _ => simp [killRows] at h; exact absurd h.symm hd
    | cells _ => simpa [killRows] using h
    | full _ _ => simpa [killRows] using h
    | bytes _ => simpa [killRows] using h
    | map _ => simpa [killRows] using h
    | iter _ _ _ _ => simpa [killRows] using h
    | dead => simp [killRows] at h; exact absurd h.symm hd
  | y :: r, k + 1, x, h, hd => by
    have : (killRows r)[k]? = some x := by cases y <;> simpa [killRows] using h
    simpa using killRows_get this hd
theorem killRows_length : ∀ {hp : List ABlk}, (killRows hp).length = hp.length
  | [] => rfl
  | y :: r => by cases y <;> simp [killRows, killRows_length (hp := r)]
theorem HStep.killRows (h : RepH E ρ hp w) : HStep E ρ hp w ρ (killRows hp) w := by
  have hlive : ∀ b, Live ρ (_root_.Go.Proofs.YtainmipdnjcbkaaGreatDoor.killRows hp) b → Live ρ hp b := fun b ⟨j, y, m, hy, hd, hk⟩ => ⟨j, y, m, killRows_get hy hd, hd, hk⟩
  have hok : ∀ b, okB E ρ hp w b → okB E ρ (_root_.Go.Proofs.YtainmipdnjcbkaaGreatDoor.killRows hp) w b ∧ w.heap[b]? = w.heap[b]? := fun b ⟨h1, h2, h3⟩ => ⟨⟨h1, h2, fun hl => h3 (hlive b hl)⟩, rfl⟩
  refine ⟨⟨by rw [killRows_length]; exact h.len, fun j y b m hy hk hd => ?_, fun j y hy hk => ?_, fun j j' y y' b m m' hy hy' hd hd' hk hk' => ?_, h.fr⟩, fun _ _ hk => hk, hok⟩
  · obtain ⟨q1, o, q2, q3⟩ := h.obj j y b m (killRows_get hy hd) hk hd
    exact ⟨q1, o, q2, q3.mono (fun _ _ hh => hh) hok⟩
  · by_cases hd : y = .dead
    · exact .inl hd
    · exact h.nil j y (killRows_get hy hd) hk
  · exact h.inj j j' y y' b m m' (killRows_get hy hd) (killRows_get hy' hd') hd hd' hk hk'
end
end Go.Proofs.YtainmipdnjcbkaaGreatDoor
namespace Go.Proofs.YtainmipdnjcbkaaGreatDoor
set_option linter.unusedVariables false
set_option linter.unusedSimpArgs false
open Go Go.RowKit
def isNilSl : Value → Bool
  | .slice _ _ _ => true
  | _ => false
mutual
def scalV : AV → Option Value
  | .d (.int k n) => some (.int k n)
  | .d (.bool b) => some (.bool b)
  | .d (.str l) => some (mkStr l)
  | .d (.sc v) => if v.oneCell' = true ∧ isNilSl v = false then some v else none
  | .tup vs => (scalL vs).map fun l => .tuple l.toArray
  | .agg cs => (scalL cs).bind fun l => if l.all (·.oneCell') then some (.agg l.toArray) else none
  | _ => none
def scalL : List AV → Option (List Value)
  | [] => some []
  | x :: r => match scalV x, scalL r with
    | some u, some l => some (u :: l)
    | _, _ => none
end
section
variable {P : Program} {T : TypeId → TI} {E : Ent} {s : ASt} {ρ ρ' : List (Option (Nat × Nat))} {a : Act} {w w' : World} {hp : List ABlk} {ok ok' : Nat → Prop}
theorem scalL_get : ∀ {cs : List AV} {l : List Value}, scalL cs = some l → l.length = cs.length ∧ ∀ (j : Nat) (x : AV), cs[j]? = some x → ∃ u, l[j]? = some u ∧ scalV x = some u
  | [], l, h => by simp [scalL] at h; subst h; exact ⟨rfl, by simp⟩
  | x :: r, l, h => by
    simp only [scalL] at h
    cases h1 : scalV x with
    | none => simp [h1] at h
    | some u =>
      cases h2 : scalL r with
      | none => simp [h1, h2] at h
      | some l' =>
        simp [h1, h2] at h
        subst h
        obtain ⟨a1, a2⟩ := scalL_get h2
        refine ⟨by simp [a1], fun j y hy => ?_⟩
        match j with
        | 0 => simp at hy; subst hy; exact ⟨u, rfl, h1⟩
        | j + 1 => simpa using a2 j y (by simpa using hy)
theorem scal_eq {x : AV} {u : Value} (h : RepV ρ ok w x u) : ∀ u0, scalV x = some u0 → u = u0 := by
  induction h with
  | d x v h =>
    intro u0 e
    cases h with
    | int k n => simp [scalV] at e; exact e
    | bool b => simp [scalV] at e; exact e
    | str l => simp [scalV] at e; exact e
    | sc v h1 => simp [scalV, h1] at e; exact e.2
    | sc0 A => simp [scalV, isNilSl] at e
    | sl => simp [scalV] at e
  | agg cs us hl h1 hr ih =>
    intro u0 e
    simp only [scalV, Option.bind_eq_some_iff] at e
    obtain ⟨l, hl', e⟩ := e
    split at e
    · injection e with e
      subst e
      obtain ⟨a1, a2⟩ := scalL_get hl'
      congr 2
      apply List.ext_getElem?
      intro j
      by_cases hj : j < cs.length
      · obtain ⟨u, hu, hs⟩ := a2 j _ (List.getElem?_eq_getElem hj)
        have hju : j < us.length := by omega
        rw [hu, List.getElem?_eq_getElem hju]
        rw [ih j _ _ (List.getElem?_eq_getElem hj) (List.getElem?_eq_getElem hju) u hs]
      · rw [List.getElem?_eq_none (by omega), List.getElem?_eq_none (by omega)]
    · cases e
  | tup cs us hl hr ih =>
    intro u0 e
    simp only [scalV, Option.map_eq_some_iff] at e
    obtain ⟨l, hl', e⟩ := e
    subst e
    obtain ⟨a1, a2⟩ := scalL_get hl'
    congr 2
    apply List.ext_getElem?
    intro j
    by_cases hj : j < cs.length
    · obtain ⟨u, hu, hs⟩ := a2 j _ (List.getElem?_eq_getElem hj)
      have hju : j < us.length := by omega
      rw [hu, List.getElem?_eq_getElem hju]
      rw [ih j _ _ (List.getElem?_eq_getElem hj) (List.getElem?_eq_getElem hju) u hs]
    · rw [List.getElem?_eq_none (by omega), List.getElem?_eq_none (by omega)]
  | _ => intro u0 e; simp [scalV] at e
mutual
theorem scal_rep : ∀ (x : AV) (u : Value), scalV x = some u → RepV ρ ok w x u
  | .d (.int k n), u, h => by simp [scalV] at h; subst h; exact .d _ _ (.int _ _)
  | .d (.bool b), u, h => by simp [scalV] at h; subst h; exact .d _ _ (.bool _)
  | .d (.str l), u, h => by simp [scalV] at h; subst h; exact .d _ _ (.str _)
  | .d (.sc v), u, h => by
    simp only [scalV] at h
    split at h
    · rename_i h1; injection h with h; subst h; exact .d _ _ (.sc _ h1.1)
    · cases h
  | .d (.sl _ _), u, h => by simp [scalV] at h
  | .tup vs, u, h => by
    simp only [scalV, Option.map_eq_some_iff] at h
    obtain ⟨l, hl, rfl⟩ := h
    obtain ⟨a1, a2⟩ := scalL_get hl
    exact .tup _ _ a1 (scalL_rep vs l hl)
  | .agg cs, u, h => by
    simp only [scalV, Option.bind_eq_some_iff] at h
    obtain ⟨l, hl, h⟩ := h
    split at h
    · rename_i h1
      injection h with h
      subst h
      obtain ⟨a1, a2⟩ := scalL_get hl
      exact .agg _ _ a1 (by simpa using h1) (scalL_rep cs l hl)
    · cases h
  | .ptr _ _, u, h => by simp [scalV] at h
  | .rp _ _ _ _, u, h => by simp [scalV] at h
  | .osl _ _ _ _, u, h => by simp [scalV] at h
  | .dp _ _, u, h => by simp [scalV] at h
  | .clo _ _ _, u, h => by simp [scalV] at h
  | .gd _ _, u, h => by simp [scalV] at h
  | .mp _, u, h => by simp [scalV] at h
  | .any, u, h => by simp [scalV] at h
theorem scalL_rep : ∀ (cs : List AV) (l : List Value), scalL cs = some l → ∀ (j : Nat) (x : AV) (u : Value), cs[j]? = some x → l[j]? = some u → RepV ρ ok w x u
  | [], l, h, j, x, u, hx, hu => by simp at hx
  | y :: r, l, h, j, x, u, hx, hu => by
    simp only [scalL] at h
    cases h1 : scalV y with
    | none => simp [h1] at h
    | some v =>
      cases h2 : scalL r with
      | none => simp [h1, h2] at h
      | some l' =>
        simp [h1, h2] at h
        subst h
        match j with
        | 0 => simp at hx hu; subst hx; subst hu; exact scal_rep y v h1
        | j + 1 => exact scalL_rep r l' h2 j x u (by simpa using hx) (by simpa using hu)
end
theorem acallQ_of {g : FuncId} {xs : List AV} {x : AV} {u0 : Value} (c : acall P [] g (frzL hp xs) (fun v _ => v = x)) (hsc : scalV x = some u0) (hf : frzOks hp xs) (hn : noIds (frzL hp xs)) :
    acallQ P hp g xs x := by
  refine ⟨c.1, fun E ρ w us hH hus => ⟨u0, scal_rep x u0 hsc, fun w' hb => ?_⟩⟩
  let E' : Ent := { w0 := w', L0 := fun _ => False, S0 := fun b => b < w.heap.size, ρ0 := [], hS := fun b h => ⟨Nat.lt_of_lt_of_le h hb.size, fun h => h⟩, hL := fun b h => h.elim, hT := hH.tabsAt.below hb, hTL := fun _ _ h => h }
  have hnl : ∀ b, ¬ Live [] [] b := fun b ⟨k, x, m, hx, _⟩ => by simp at hx
  have hE : RepH E' [] [] w' := ⟨rfl, by simp, by simp, by simp, Fr.refl _ _⟩
  have hargs : RepVs [] (okB E' [] [] w') w' (frzL hp xs) us := by
    refine ⟨by rw [frzL_length]; exact hus.1, fun j y u hy hu => ?_⟩
    have hy0 := hy
    rw [frzL_get] at hy
    obtain ⟨z, hz, rfl⟩ := Option.map_eq_some_iff.1 hy
    have h1 := frz_ok (ok' := fun b => b < w.heap.size) hH.blks (fun b hb => hb.2.1) (fun k b m sz rs hk hb => by
      obtain ⟨_, us, ty, fz, q2, _⟩ := hH.blk k _ b m hk hb (by simp)
      exact lt_of_heap q2) (hus.2 j z u hz hu) (frzOks_get hf hz) (noIds_get hn hy0)
    exact noId_rep (fun b hb' => ⟨⟨.inl hb', Nat.lt_of_lt_of_le hb' hb.size, hnl b⟩, hb.block b hb'⟩) h1 (noIds_get hn hy0)
  refine (c.2 E' w' us rfl hE hargs).mono fun e w'' hh => ?_
  obtain ⟨u, v, hp', ρ', h1, h2, h3, h4, h5⟩ := hh
  subst h2
  refine ⟨by rw [h1, scal_eq h5 u0 hsc], h3.fr.os, h3.fr.tape, h3.fr.output, h3.fr.size, fun k hk => h3.fr.block k hk (fun h => h)⟩
theorem acallH_of_Q {g : FuncId} {xs : List AV} {x : AV} {K : AV → List ABlk → Prop} (h : acallQ P hp g xs x) (hK : K x hp) : acallH P hp g xs K := by
  refine ⟨h.1, fun E ρ w us hH hus => ?_⟩
  obtain ⟨u, hu, hrun⟩ := h.2 E ρ w us hH hus
  refine (hrun w (below_refl w)).mono fun e w' ⟨h1, h2⟩ => ?_
  have hs := HStep.below hH h2
  exact ⟨u, x, hp, ρ, h1, hK, hs, hu.step hs⟩
theorem acallH_scal {g : FuncId} {xs : List AV} {x : AV} {u0 : Value} {K : AV → List ABlk → Prop} (c : acall P [] g (frzL hp xs) (fun v _ => v = x)) (hsc : scalV x = some u0) (hf : frzOks hp xs)
    (hn : noIds (frzL hp xs)) (hK : K x hp) : acallH P hp g xs K := acallH_of_Q (acallQ_of c hsc hf hn) hK
def renm (m : List Nat) (n k : Nat) : Nat := match m[k]? with | some j => j | none => k - m.length + n
def putAll (f : Nat → Nat) : List ABlk → List Nat → List ABlk → List ABlk
  | hp, i :: m, x :: r => putAll f (hp.set i (renB f x)) m r
  | hp, _, _ => hp
def renBs (f : Nat → Nat) (l : List ABlk) : List ABlk := l.map (renB f)
theorem putAll_length {f : Nat → Nat} : ∀ {m : List Nat} {hp : List ABlk} {r : List ABlk}, (putAll f hp m r).length = hp.length
  | [], hp, r => by cases r <;> simp [putAll]
  | i :: m, hp, [] => by simp [putAll]
  | i :: m, hp, x :: r => by simp only [putAll]; rw [putAll_length]; simp
theorem putAll_get {f : Nat → Nat} : ∀ {m : List Nat} {hp : List ABlk} {r : List ABlk}, m.Nodup → m.length ≤ r.length → (∀ i, i ∈ m → i < hp.length) → ∀ (j : Nat) (y : ABlk), (putAll f hp m r)[j]? = some y →
    (j ∉ m ∧ hp[j]? = some y) ∨ ∃ (i : Nat) (x : ABlk), m[i]? = some j ∧ r[i]? = some x ∧ y = renB f x
  | [], hp, r, _, _, _, j, y, h => by
    have : putAll f hp [] r = hp := by cases r <;> simp [putAll]
    rw [this] at h
    exact .inl ⟨by simp, h⟩
  | i :: m, hp, [], _, hl, _, j, y, h => by simp at hl
  | i :: m, hp, x :: r, hnd, hl, hm, j, y, h => by
    simp only [putAll] at h
    have hnd' := List.nodup_cons.1 hnd
    rcases putAll_get hnd'.2 (by simpa using hl) (fun k hk => by simpa using hm k (List.mem_cons_of_mem _ hk)) j y h with ⟨h1, h2⟩ | ⟨k, z, h1, h2, h3⟩
    · rcases zs h2 with ⟨e, e', _⟩ | ⟨hne, h3⟩
      · subst e; exact .inr ⟨0, x, by simp, by simp, e'⟩
      · exact .inl ⟨fun hh => (List.mem_cons.1 hh).elim (fun e => hne e) (fun e => h1 e), h3⟩
    · exact .inr ⟨k + 1, z, by simpa using h1, by simpa using h2, h3⟩
theorem acallH_ptr {g : FuncId} (m : List Nat) {chp : List ABlk} {cargs : List AV} {R : AV → List ABlk → Prop} {K : AV → List ABlk → Prop} (c : acall P chp g cargs R)
    (hcl : chp.length = m.length) (hnd : m.Nodup) (hm : ∀ i, i ∈ m → i < hp.length) (hargs : inL m.length cargs) (hchp : hpLe (mAt m hp.length) m.length hp 0 chp)
    (hK : ∀ v hp', R v hp' → K (renV (renm m hp.length) v) (putAll (renm m hp.length) hp m hp' ++ renBs (renm m hp.length) (hp'.drop m.length))) :
    acallH P hp g (renL (mAt m hp.length) cargs) K := by
  refine ⟨c.1, fun E ρ w us hH hus => ?_⟩
  have hlen := hH.len
  have hmi : ∀ (i j x : Nat), m[i]? = some x → m[j]? = some x → i = j := by
    intro i j x hi hj
    obtain ⟨hi1, hi2⟩ := List.getElem?_eq_some_iff.1 hi
    obtain ⟨hj1, hj2⟩ := List.getElem?_eq_some_iff.1 hj
    have hpw := List.pairwise_iff_getElem.1 hnd
    rcases Nat.lt_trichotomy i j with hlt | heq | hgt
    · exact absurd (hi2.trans hj2.symm) (hpw i j hi1 hj1 hlt)
    · exact heq
    · exact absurd (hj2.trans hi2.symm) (hpw j i hj1 hi1 hgt)
  let ρc : List (Option (Nat × Nat)) := m.map fun i => (ρ[i]?).getD none
  have hρc : ∀ (k : Nat) (p : Option (Nat × Nat)), ρc[k]? = some p ↔ ∃ x, m[k]? = some x ∧ ρ[x]? = some p := by
    intro k p
    simp only [ρc, List.getElem?_map, Option.map_eq_some_iff]
    constructor
    · rintro ⟨x, hx, e⟩
      have hxl : x < ρ.length := by rw [hlen]; exact hm x (List.mem_of_getElem? hx)
      rw [List.getElem?_eq_getElem hxl] at e
      exact ⟨x, hx, by rw [List.getElem?_eq_getElem hxl]; simpa using e⟩
    · rintro ⟨x, hx, e⟩
      exact ⟨x, hx, by rw [e]; rfl⟩
  have hdown : ∀ (k : Nat) (p : Option (Nat × Nat)), k < m.length → ρ[mAt m hp.length k]? = some p → ρc[k]? = some p := by
    intro k p hk hp'
    have : mAt m hp.length k = m[k] := by simp [mAt, List.getElem?_eq_getElem hk]
    rw [this] at hp'
    exact (hρc k p).2 ⟨m[k], List.getElem?_eq_getElem hk, hp'⟩
  have hblk : ∀ (j : Nat) (x : ABlk) (p : Option (Nat × Nat)), chp[j]? = some x → x ≠ .dead → ρc[j]? = some p → ∃ i, m[j]? = some i ∧ hp[i]? = some (renB (mAt m hp.length) x) ∧ inB m.length x ∧ ρ[i]? = some p := by
    intro j x p hx hd hpj
    rcases hpLe_get hchp j x hx with e | ⟨h1, h2⟩
    · exact absurd e hd
    · rw [Nat.zero_add] at h1
      obtain ⟨i, hi, hip⟩ := (hρc j p).1 hpj
      have : mAt m hp.length j = i := by simp [mAt, hi]
      rw [this] at h1
      exact ⟨i, hi, h1, h2, hip⟩
  have hlivec : ∀ b, Live ρc chp b → Live ρ hp b := by
    intro b ⟨k, x, q, hx, hd, hk⟩
    obtain ⟨i, _, h1, _, h2⟩ := hblk k x _ hx hd hk
    exact ⟨i, _, q, h1, renB_dead hd, h2⟩
  let E' : Ent := { w0 := w, L0 := fun b => Live ρc chp b, S0 := fun b => okB E ρ hp w b, ρ0 := ρc, hS := fun b h => ⟨h.2.1, fun hl => h.2.2 (hlivec b hl)⟩, hL := fun b ⟨k, _, q, _, _, hk⟩ => ⟨k, q, hk⟩, hT := hH.tabsAt, hTL := fun p hp' hl => hH.tabLive hp' (hlivec _ hl) }
  have hokc : ∀ b, okB E ρ hp w b → okB E' ρc chp w b ∧ w.heap[b]? = w.heap[b]? := fun b hb => ⟨⟨.inl hb, hb.2.1, fun hl => hb.2.2 (hlivec b hl)⟩, rfl⟩
  have hE : RepH E' ρc chp w := by
    refine ⟨by simp [ρc, hcl], fun k x b q hx hk hd => ?_, fun k x hx hk => ?_, fun k k' x x' b q q' hx hx' hd hd' hk hk' => ?_, Fr.refl _ _⟩
    · obtain ⟨i, _, h1, h2, h3⟩ := hblk k x _ hx hd hk
      obtain ⟨q1, o, q2, q3⟩ := hH.obj i _ b q h1 h3 (renB_dead hd)
      exact ⟨.inl ⟨k, x, q, hx, hd, hk⟩, o, q2, obj_down hdown hokc q3 h2⟩
    · by_cases hd : x = .dead
      · exact .inl hd
      · obtain ⟨i, _, h1, h2, h3⟩ := hblk k x _ hx hd hk
        rcases hH.nil i _ h1 h3 with e | ⟨sz, e⟩
        · exact absurd e (renB_dead hd)
        · right
          cases x with
          | cells cs => simp [renB] at e
          | rows sz' rs => simp [renB] at e; exact ⟨sz', by rw [e.2]⟩
          | full sz' rs => simp [renB] at e
          | bytes l => simp [renB] at e
          | map es => simp [renB] at e
          | iter k a b c => simp [renB] at e
          | dead => simp [renB] at e
    · obtain ⟨i, a1, h1, _, h3⟩ := hblk k x _ hx hd hk
      obtain ⟨i', a1', h1', _, h3'⟩ := hblk k' x' _ hx' hd' hk'
      have := hH.inj i i' _ _ b q q' h1 h1' (renB_dead hd) (renB_dead hd') h3 h3'
      subst this
      exact hmi k k' i a1 a1'
  have hav : RepVs ρc (okB E' ρc chp w) w cargs us := by
    refine ⟨by rw [hus.1, renL_length], fun j x u hx hu => ?_⟩
    exact ren_down hdown hokc (hus.2 j (renV (mAt m hp.length) x) u (by rw [renL_get, hx]; rfl) hu) x rfl (inL_get hargs hx)
  refine (c.2 E' w us rfl hE hav).mono fun e w' hh => ?_
  obtain ⟨u, v, hp', ρ', h1, h2, h3, h4, h5⟩ := hh
  -- the caller's names behind the call
  have hl3 := h3.len
  have hml : m.length ≤ ρ'.length := by
    rcases Nat.eq_zero_or_pos m.length with h0 | h0
    · omega
    · have hlast : m.length - 1 < ρc.length := by simp [ρc]; omega
      have := (List.getElem?_eq_some_iff.1 (h4 (m.length - 1) _ (List.getElem?_eq_getElem hlast))).1
      omega
  let ρ2 : List (Option (Nat × Nat)) := ρ ++ ρ'.drop m.length
  have hup1 : ∀ (k : Nat) (p : Option (Nat × Nat)), ρ[k]? = some p → ρ2[k]? = some p := fun k p hk => by
    have := (List.getElem?_eq_some_iff.1 hk).1
    simp only [ρ2]; rw [List.getElem?_append_left this]; exact hk
  have hren : ∀ (k : Nat) (p : Option (Nat × Nat)), ρ'[k]? = some p → ρ2[renm m hp.length k]? = some p := by
    intro k p hk
    by_cases hkm : k < m.length
    · have hmk : m[k]? = some m[k] := List.getElem?_eq_getElem hkm
      have : renm m hp.length k = m[k] := by simp [renm, hmk]
      rw [this]
      refine hup1 _ _ ?_
      have hml' : m[k] < ρ.length := by rw [hlen]; exact hm _ (List.getElem_mem hkm)
      have hρk : ρc[k]? = some ρ[m[k]] := (hρc k _).2 ⟨m[k], hmk, List.getElem?_eq_getElem hml'⟩
      have := h4 k _ hρk
      rw [this] at hk
      injection hk with hk
      rw [← hk]; exact List.getElem?_eq_getElem hml'
    · have hmk : m[k]? = none := List.getElem?_eq_none (by omega)
      have : renm m hp.length k = k - m.length + hp.length := by simp [renm, hmk]
      rw [this]
      simp only [ρ2]
      rw [List.getElem?_append_right (by omega), List.getElem?_drop]
      rw [show m.length + (k - m.length + hp.length - ρ.length) = k from by omega]
      exact hk
  -- who is live behind the call
  have back : ∀ (j : Nat) (y : ABlk) (p : Option (Nat × Nat)), (putAll (renm m hp.length) hp m hp' ++ renBs (renm m hp.length) (hp'.drop m.length))[j]? = some y → y ≠ .dead → ρ2[j]? = some p →
      (j ∉ m ∧ hp[j]? = some y ∧ ρ[j]? = some p) ∨ ∃ (i : Nat) (x : ABlk), renm m hp.length i = j ∧ hp'[i]? = some x ∧ x ≠ .dead ∧ y = renB (renm m hp.length) x ∧ ρ'[i]? = some p := by
    intro j y p hy hd hj
    by_cases hjl : j < hp.length
    · rw [List.getElem?_append_left (by rw [putAll_length]; exact hjl)] at hy
      have hj' : ρ[j]? = some p := by
        have : j < ρ.length := by omega
        simp only [ρ2] at hj
        rwa [List.getElem?_append_left this] at hj
      rcases putAll_get hnd (by rw [← hl3]; exact hml) hm j y hy with ⟨a1, a2⟩ | ⟨i, x, a1, a2, a3⟩
      · exact .inl ⟨a1, a2, hj'⟩
      · refine .inr ⟨i, x, by simp [renm, a1], a2, fun e => by subst e; subst a3; exact hd rfl, a3, ?_⟩
        exact h4 i p ((hρc i p).2 ⟨j, a1, hj'⟩)
    · rw [List.getElem?_append_right (by rw [putAll_length]; omega), putAll_length] at hy
      simp only [renBs, List.getElem?_map] at hy
      obtain ⟨x, hx, rfl⟩ := Option.map_eq_some_iff.1 hy
      rw [List.getElem?_drop] at hx
      simp only [ρ2] at hj
      rw [List.getElem?_append_right (by omega), List.getElem?_drop] at hj
      refine .inr ⟨m.length + (j - hp.length), x, ?_, hx, fun e => by subst e; exact hd rfl, rfl, by rw [← hlen] at *; exact hj⟩
      have : m[m.length + (j - hp.length)]? = none := List.getElem?_eq_none (by omega)
      simp only [renm, this]
      omega
  have hlive2 : ∀ b, Live ρ2 (putAll (renm m hp.length) hp m hp' ++ renBs (renm m hp.length) (hp'.drop m.length)) b → Live ρ hp b ∨ Live ρ' hp' b := by
    intro b ⟨j, y, q, hy, hd, hj⟩
    rcases back j y _ hy hd hj with ⟨_, a2, a3⟩ | ⟨i, x, _, a2, a3, _, a5⟩
    · exact .inl ⟨j, y, q, a2, hd, a3⟩
    · exact .inr ⟨i, x, q, a2, a3, a5⟩
  -- what the callee's blocks are
  have hcb : ∀ b, Live ρ' hp' b → (Live ρc chp b ∨ w.heap.size ≤ b) := by
    intro b ⟨i, x, q, hx, hd, hi⟩
    exact (h3.obj i x b q hx hi hd).1
  have hsz0 := hH.fr.size
  have hokE : ∀ b, okB E' ρ' hp' w' b → okB E ρ2 (putAll (renm m hp.length) hp m hp' ++ renBs (renm m hp.length) (hp'.drop m.length)) w' b ∧ w'.heap[b]? = w'.heap[b]? := by
    intro b ⟨b1, b2, b3⟩
    refine ⟨⟨?_, b2, fun hl => ?_⟩, rfl⟩
    · rcases b1 with b1 | b1
      · exact b1.1
      · exact .inr (Nat.le_trans hsz0 b1)
    · rcases hlive2 b hl with hl | hl
      · rcases b1 with b1 | b1
        · exact b1.2.2 hl
        · have := hH.live_lt hl
          have hb1 : w.heap.size ≤ b := b1
          omega
      · exact b3 hl
  have hokC : ∀ b, okB E ρ hp w b → okB E ρ2 (putAll (renm m hp.length) hp m hp' ++ renBs (renm m hp.length) (hp'.drop m.length)) w' b ∧ w'.heap[b]? = w.heap[b]? := by
    intro b ⟨b1, b2, b3⟩
    refine ⟨⟨b1, Nat.lt_of_lt_of_le b2 h3.fr.size, fun hl => ?_⟩, h3.fr.block b b2 (fun hl => b3 (hlivec b hl))⟩
    rcases hlive2 b hl with hl | hl
    · exact b3 hl
    · rcases hcb b hl with hl | hl
      · exact b3 (hlivec b hl)
      · omega
  have hstep : HStep E ρ hp w ρ2 (putAll (renm m hp.length) hp m hp' ++ renBs (renm m hp.length) (hp'.drop m.length)) w' := by
    refine ⟨⟨?_, fun j y b q hy hj hd => ?_, fun j y hy hj => ?_, fun j j' y y' b q q' hy hy' hd hd' hj hj' => ?_, ?_⟩, hup1, hokC⟩
    · simp [ρ2, putAll_length, renBs, hlen, hl3]
    · rcases back j y _ hy hd hj with ⟨a1, a2, a3⟩ | ⟨i, x, a1, a2, a3, a4, a5⟩
      · obtain ⟨q1, o, q2, q3⟩ := hH.obj j y b q a2 a3 hd
        have hbl : w'.heap[b]? = w.heap[b]? := h3.fr.block b (lt_of_heap q2) (fun hl => by
          obtain ⟨k, x, q', hx, hxd, hk⟩ := hl
          obtain ⟨i, hi, c1, _, c2⟩ := hblk k x _ hx hxd hk
          have := hH.inj j i y _ b q q' a2 c1 hd (renB_dead hxd) a3 c2
          subst this
          exact a1 (List.mem_of_getElem? hi))
        exact ⟨q1, o, hbl.trans q2, q3.mono hup1 hokC⟩
      · subst a4
        obtain ⟨q1, o, q2, q3⟩ := h3.obj i x b q a2 a5 a3
        refine ⟨?_, o, q2, obj_up hren hokE q3⟩
        rcases q1 with ⟨k, z, q', hz, hzd, hk⟩ | q1
        · obtain ⟨i', _, c1, _, c2⟩ := hblk k z _ hz hzd hk
          exact (hH.obj i' _ b q' c1 c2 (renB_dead hzd)).1
        · exact .inr (Nat.le_trans hsz0 q1)
    · by_cases hd : y = .dead
      · exact .inl hd
      · rcases back j y _ hy hd hj with ⟨a1, a2, a3⟩ | ⟨i, x, a1, a2, a3, a4, a5⟩
        · exact hH.nil j y a2 a3
        · subst a4
          rcases h3.nil i x a2 a5 with e | ⟨sz, e⟩
          · exact absurd e a3
          · subst e; exact .inr ⟨sz, rfl⟩
    · have cross : ∀ (j i : Nat) (y x : ABlk) (q q' : Nat), j ∉ m → hp[j]? = some y → y ≠ .dead → ρ[j]? = some (some (b, q)) → hp'[i]? = some x → x ≠ .dead → ρ'[i]? = some (some (b, q')) → False := by
        intro j i y x q q' a1 a2 hyd a3 b2 b3 b5
        rcases hcb b ⟨i, x, q', b2, b3, b5⟩ with ⟨k, z, q'', hz, hzd, hk⟩ | hge
        · obtain ⟨i', hi', c1, _, c2⟩ := hblk k z _ hz hzd hk
          have := hH.inj j i' y _ b q q'' a2 c1 hyd (renB_dead hzd) a3 c2
          subst this
          exact a1 (List.mem_of_getElem? hi')
        · have := hH.live_lt ⟨j, y, q, a2, hyd, a3⟩
          omega
      rcases back j y _ hy hd hj with ⟨a1, a2, a3⟩ | ⟨i, x, a1, a2, a3, a4, a5⟩
      · rcases back j' y' _ hy' hd' hj' with ⟨b1, b2, b3⟩ | ⟨i', x', b1, b2, b3, b4, b5⟩
        · exact hH.inj j j' y y' b q q' a2 b2 hd hd' a3 b3
        · exact (cross j i' y x' q q' a1 a2 hd a3 b2 b3 b5).elim
      · rcases back j' y' _ hy' hd' hj' with ⟨b1, b2, b3⟩ | ⟨i', x', b1, b2, b3, b4, b5⟩
        · exact (cross j' i y' x q' q b1 b2 hd' b3 a2 a3 a5).elim
        · have := h3.inj i i' x x' b q q' a2 b2 a3 b3 a5 b5
          subst this
          rw [← a1, ← b1]
    · refine ⟨h3.fr.os.trans hH.fr.os, h3.fr.tape.trans hH.fr.tape, h3.fr.output.trans hH.fr.output, Nat.le_trans hsz0 h3.fr.size, fun b hb hL => ?_⟩
      have : w'.heap[b]? = w.heap[b]? := h3.fr.block b (Nat.lt_of_lt_of_le hb hsz0) (fun hl => by
        obtain ⟨k, q, x, hx, hd, hk⟩ := hlivec b hl
        rcases (hH.obj k q b x hx hk hd).1 with c1 | c1
        · exact hL c1
        · omega)
      exact this.trans (hH.fr.block b hb hL)
  exact ⟨u, _, _, ρ2, h1, hK v hp' h2, hstep, ren_up hren hokE h5⟩
theorem acallH_data {g : FuncId} {xs : List AV} {R : AV → List ABlk → Prop} {K : AV → List ABlk → Prop} (c : acall P [] g xs R) (hargs : inL 0 xs) (hid : renL (mAt [] hp.length) xs = xs)
    (hK : ∀ v hp', R v hp' → K (renV (renm [] hp.length) v) (hp ++ renBs (renm [] hp.length) hp')) : acallH P hp g xs K := by
  have := acallH_ptr (hp := hp) [] (chp := []) (cargs := xs) (R := R) (K := K) c rfl List.nodup_nil (by simp) hargs (by simp [hpLe]) (fun v hp' h => by
    have := hK v hp' h
    have e : putAll (renm [] hp.length) hp [] hp' = hp := by cases hp' <;> simp [putAll]
    rw [e]
    simpa using this)
  rwa [hid] at this
theorem acall.mono {g : FuncId} {xs : List AV} {R R' : AV → List ABlk → Prop} (c : acall P hp g xs R) (h : ∀ v hp', R v hp' → R' v hp') : acall P hp g xs R' :=
  ⟨c.1, fun E w us h1 h2 h3 => (c.2 E w us h1 h2 h3).mono fun _ _ ⟨u, v, hp', ρ', q1, q2, q3⟩ => ⟨u, v, hp', ρ', q1, h v hp' q2, q3⟩⟩
end
end Go.Proofs.YtainmipdnjcbkaaGreatDoor
namespace Go.Proofs.YtainmipdnjcbkaaGreatDoor
set_option linter.unusedVariables false
set_option linter.unusedSimpArgs false
open Go Go.RowKit
def valEq (v : Value) (d : DV) : Bool :=
  match d, v with
  | .int k n, .int k' n' => k == k' && n == n'
  | .bool b, .bool b' => b == b'
  | .str l, .string s => s.data.toList == l
  | .sc (.pointer none), .pointer none => true
  | .sc (.slice none 0 0), .slice none 0 0 => true
  | .sc (.map none), .map none => true
  | .sc .nilFunc, .nilFunc => true
  | .sc .nilIface, .nilIface => true
  | _, _ => false
theorem valEq_ok {v : Value} {d : DV} (h : valEq v d = true) : v = d.val ∧ d.val.oneCell' = true ∧ ∀ sz rs, d ≠ .sl sz rs := by
  unfold valEq at h
  split at h
  · simp at h; obtain ⟨rfl, rfl⟩ := h; exact ⟨rfl, rfl, by simp⟩
  · simp at h; subst h; exact ⟨rfl, rfl, by simp⟩
  · rename_i l s
    simp at h; subst h; exact ⟨by simp [DV.val, mkStr], rfl, by simp⟩
  · exact ⟨rfl, rfl, by simp⟩
  · exact ⟨rfl, rfl, by simp⟩
  · exact ⟨rfl, rfl, by simp⟩
  · exact ⟨rfl, rfl, by simp⟩
  · exact ⟨rfl, rfl, by simp⟩
  · cases h
def valsEq : List Value → List DV → Bool
  | [], [] => true
  | v :: l, d :: r => valEq v d && valsEq l r
  | _, _ => false
theorem valsEq_ok : ∀ {l : List Value} {r : List DV}, valsEq l r = true → l = r.map DV.val ∧ ∀ x, x ∈ r → x.val.oneCell' = true ∧ ∀ sz rs, x ≠ .sl sz rs
  | [], [], _ => ⟨rfl, by simp⟩
  | v :: l, d :: r, h => by
    simp only [valsEq, Bool.and_eq_true] at h
    obtain ⟨h1, h2, h3⟩ := valEq_ok h.1
    obtain ⟨h4, h5⟩ := valsEq_ok h.2
    refine ⟨by rw [List.map_cons, ← h1, ← h4], fun x hx => ?_⟩
    rcases List.mem_cons.1 hx with rfl | hx
    · exact ⟨h2, h3⟩
    · exact h5 x hx
  | [], _ :: _, h => by simp [valsEq] at h
  | _ :: _, [], h => by simp [valsEq] at h
def sizeIs (P : Program) (t s : Nat) : Bool := match P.info? t with | some i => i.size == s && !(s == 0) | none => false
def fieldsEq (P : Program) : List Field → List (Nat × Nat × TypeId) → Bool
  | [], [] => true
  | f :: l, (o, s, t) :: r => f.offset == o && f.type == t && sizeIs P t s && fieldsEq P l r
  | _, _ => false
theorem fieldsEq_ok {P : Program} : ∀ {l : List Field} {r : List (Nat × Nat × TypeId)}, fieldsEq P l r = true → l.length = r.length ∧
    ∀ (j : Nat) (o s t : Nat), r[j]? = some (o, s, t) → ∃ f, l[j]? = some f ∧ f.offset = o ∧ f.type = t ∧ s ≠ 0 ∧ ∃ i, P.info? t = some i ∧ i.size = s
  | [], [], _ => ⟨rfl, by simp⟩
  | f :: l, (o, s, t) :: r, h => by
    simp only [fieldsEq, Bool.and_eq_true, beq_iff_eq] at h
    obtain ⟨⟨⟨h1, h2⟩, h3⟩, h4⟩ := h
    obtain ⟨h5, h6⟩ := fieldsEq_ok h4
    refine ⟨by simp [h5], fun j o' s' t' hj => ?_⟩
    match j with
    | 0 =>
      simp at hj
      obtain ⟨rfl, rfl, rfl⟩ := hj
      unfold sizeIs at h3
      cases hi : P.info? t with
      | none => simp [hi] at h3
      | some i =>
        simp [hi] at h3
        exact ⟨f, rfl, h1, h2, h3.2, i, rfl, h3.1⟩
    | j + 1 => simpa using h6 j o' s' t' (by simpa using hj)
  | [], _ :: _, h => by simp [fieldsEq] at h
  | _ :: _, [], h => by simp [fieldsEq] at h
def kindEq (P : Program) (d : TypeDesc) (k : TK) : Bool :=
  match k, d with
  | .int a, .int b => a == b
  | .bool, .bool => true
  | .str, .string => true
  | .slice a, .slice b => a == b
  | .struct fs, .struct fields => fieldsEq P fields.toList fs
  | .array n e, .array n' e' => n == n' && e == e'
  | .pointer e, .pointer e' => e == e'
  | .map a b, .map a' b' => a == a' && b == b'
  | .func, .func _ _ _ => true
  | _, _ => false
theorem kindEq_ok {P : Program} {d : TypeDesc} {k : TK} (h : kindEq P d k = true) : kindOk P d k := by
  unfold kindEq at h
  split at h
  · simp at h; subst h; rfl
  · rfl
  · rfl
  · simp at h; subst h; rfl
  · rename_i fs fields
    obtain ⟨h1, h2⟩ := fieldsEq_ok h
    exact ⟨fields, rfl, by simpa using h1, fun j o s t hj => by
      obtain ⟨f, q1, q2⟩ := h2 j o s t hj
      exact ⟨f, by simpa using q1, q2⟩⟩
  · simp at h; obtain ⟨rfl, rfl⟩ := h; rfl
  · simp at h; subst h; rfl
  · simp at h; obtain ⟨rfl, rfl⟩ := h; rfl
  · exact ⟨_, _, _, rfl⟩
  · cases h
def zeroEq (z : Option Value) (ti : TI) : Bool :=
  match z with
  | some (.agg cs) => ti.agg && valsEq cs.toList ti.zero
  | some v => !ti.agg && valsEq [v] ti.zero
  | none => false
def tkEq : TK → TK → Bool
  | .int k, .int k' => k == k'
  | .bool, .bool => true
  | .str, .str => true
  | _, _ => false
def tksEq : List TK → List TK → Bool
  | [], [] => true
  | a :: l, b :: r => tkEq a b && tksEq l r
  | _, _ => false
theorem tksEq_ok : ∀ {l r : List TK}, tksEq l r = true → l = r
  | [], [], _ => rfl
  | a :: l, b :: r, h => by
    simp only [tksEq, Bool.and_eq_true] at h
    rw [tksEq_ok h.2]
    have h1 := h.1
    unfold tkEq at h1
    split at h1 <;> first | rfl | (simp at h1; rw [h1]) | cases h1
  | [], _ :: _, h => by simp [tksEq] at h
  | _ :: _, [], h => by simp [tksEq] at h
def cmpEq (P : Program) (t : TypeId) (ks : List TK) : Bool :=
  (match leaves P 8 t with | some l => tksEq l ks | none => false) && !(P.eqGuardType P.depth t) && (match P.underlying t with | some (.struct _) => true | _ => false)
theorem cmpEq_ok {P : Program} {t : TypeId} {ks : List TK} (h : cmpEq P t ks = true) : cmpOk P t ks := by
  simp only [cmpEq, Bool.and_eq_true, Bool.not_eq_true'] at h
  obtain ⟨⟨h1, h2⟩, h3⟩ := h
  refine ⟨?_, h2, ?_⟩
  · split at h1
    · rename_i l e; rw [e, tksEq_ok h1]
    · cases h1
  · split at h3
    · rename_i fs e; exact ⟨fs, e⟩
    · cases h3
def zt (P : Program) (t : TypeId) (ti : TI) : Bool :=
  match P.info? t, P.underlying t with
  | some i, some d => i.size == ti.size && i.bytes == ti.bytes && zeroEq i.zero ti && kindEq P d ti.kind && ti.zero.length == ti.size && (ti.cmp.isEmpty || cmpEq P t ti.cmp)
  | _, _ => false
theorem tyCheck_ok {P : Program} {t : TypeId} {ti : TI} (h : zt P t ti = true) : TyOk P t ti := by
  unfold zt at h
  split at h
  · rename_i i d hi hd
    simp only [Bool.and_eq_true, beq_iff_eq] at h
    obtain ⟨⟨⟨⟨⟨h1, h2⟩, h3⟩, h4⟩, h5⟩, hcm⟩ := h
    have hcm : ti.cmp ≠ [] → cmpOk P t ti.cmp := fun hne => by
      simp only [Bool.or_eq_true, List.isEmpty_iff] at hcm
      rcases hcm with e | e
      · exact absurd e hne
      · exact cmpEq_ok e
    unfold zeroEq at h3
    split at h3
    · rename_i cs hz
      simp only [Bool.and_eq_true] at h3
      obtain ⟨h6, h7⟩ := h3
      obtain ⟨h8, h9⟩ := valsEq_ok h7
      refine ⟨⟨i, _, hi, h1, h2, hz, ?_⟩, ⟨d, hd, kindEq_ok h4⟩, h9, h5, hcm⟩
      rw [if_pos h6, ← h8]
    · rename_i v _ hz
      simp only [Bool.and_eq_true, Bool.not_eq_true'] at h3
      obtain ⟨h6, h7⟩ := h3
      obtain ⟨h8, h9⟩ := valsEq_ok h7
      refine ⟨⟨i, _, hi, h1, h2, hz, ?_⟩, ⟨d, hd, kindEq_ok h4⟩, h9, h5, hcm⟩
      rw [h6, if_neg (by simp), ← h8]
    · cases h3
  · cases h
def TI.none : TI := { size := 0, bytes := 0, zero := [], kind := .other }
def tabOf (l : List (Nat × TI)) (t : TypeId) : TI :=
  match l with
  | [] => TI.none
  | (k, ti) :: r => if k = t then ti else tabOf r t
theorem tabOk_of {P : Program} : ∀ {l : List (Nat × TI)}, (∀ p, p ∈ l → zt P p.1 p.2 = true) → TabOk P (tabOf l)
  | [], _, t => by simp [tabOf, TI.none]
  | (k, ti) :: r, h, t => by
    have ih := tabOk_of (l := r) (fun p hp => h p (List.mem_cons_of_mem _ hp)) t
    by_cases e : k = t
    · subst e
      have := tyCheck_ok (h (k, ti) (by simp))
      simp only [tabOf, if_true]
      cases ti.kind <;> first | trivial | exact this
    · simp only [tabOf, if_neg e]
      exact ih
/-! ### nil where data is wanted -/
mutual
def coeD : DV → DV → Prop
  | .sc (.slice none 0 0), .sl _ [] => True
  | .sl n rs, .sl m qs => n = m ∧ coeRs rs qs
  | x, y => x = y
def coeRs : List (List DV) → List (List DV) → Prop
  | [], [] => True
  | r :: rs, q :: qs => coeRw r q ∧ coeRs rs qs
  | _, _ => False
def coeRw : List DV → List DV → Prop
  | [], [] => True
  | x :: r, y :: q => coeD x y ∧ coeRw r q
  | _, _ => False
end
mutual
def coeV : AV → AV → Prop
  | .d x, .d y => x = y ∨ coeD x y
  | .agg xs, .agg ys => coeL xs ys
  | .tup xs, .tup ys => coeL xs ys
  | x, y => x = y
def coeL : List AV → List AV → Prop
  | [], [] => True
  | x :: r, y :: l => coeV x y ∧ coeL r l
  | _, _ => False
end
theorem coeRw_get : ∀ {xs ys : List DV}, coeRw xs ys → xs.length = ys.length ∧ ∀ (j : Nat) (x y : DV), xs[j]? = some x → ys[j]? = some y → coeD x y
  | [], [], _ => ⟨rfl, by simp⟩
  | x :: r, y :: l, h => by
    simp only [coeRw] at h
    obtain ⟨h1, h2⟩ := coeRw_get h.2
    refine ⟨by simp [h1], fun j a b ha hb => ?_⟩
    match j with
    | 0 => simp at ha hb; subst ha; subst hb; exact h.1
    | j + 1 => exact h2 j a b (by simpa using ha) (by simpa using hb)
  | [], _ :: _, h => by simp [coeRw] at h
  | _ :: _, [], h => by simp [coeRw] at h
theorem coeRs_get : ∀ {xs ys : List (List DV)}, coeRs xs ys → xs.length = ys.length ∧ ∀ (j : Nat) (x y : List DV), xs[j]? = some x → ys[j]? = some y → coeRw x y
  | [], [], _ => ⟨rfl, by simp⟩
  | x :: r, y :: l, h => by
    simp only [coeRs] at h
    obtain ⟨h1, h2⟩ := coeRs_get h.2
    refine ⟨by simp [h1], fun j a b ha hb => ?_⟩
    match j with
    | 0 => simp at ha hb; subst ha; subst hb; exact h.1
    | j + 1 => exact h2 j a b (by simpa using ha) (by simpa using hb)
  | [], _ :: _, h => by simp [coeRs] at h
  | _ :: _, [], h => by simp [coeRs] at h
theorem coeL_get : ∀ {xs ys : List AV}, coeL xs ys → xs.length = ys.length ∧ ∀ (j : Nat) (x y : AV), xs[j]? = some x → ys[j]? = some y → coeV x y
  | [], [], _ => ⟨rfl, by simp⟩
  | x :: r, y :: l, h => by
    simp only [coeL] at h
    obtain ⟨h1, h2⟩ := coeL_get h.2
    refine ⟨by simp [h1], fun j a b ha hb => ?_⟩
    match j with
    | 0 => simp at ha hb; subst ha; subst hb; exact h.1
    | j + 1 => exact h2 j a b (by simpa using ha) (by simpa using hb)
  | [], _ :: _, h => by simp [coeL] at h
  | _ :: _, [], h => by simp [coeL] at h
theorem coeD_rep {ok : Nat → Prop} {w : World} {x : DV} {v : Value} (h : RepD ok w x v) : ∀ y, coeD x y → RepD ok w y v := by
  induction h with
  | int k n => intro y hc; have : DV.int k n = y := by cases y <;> (simp only [coeD] at hc; exact hc)
               subst this; exact .int k n
  | bool b => intro y hc; have : DV.bool b = y := by cases y <;> (simp only [coeD] at hc; exact hc)
              subst this; exact .bool b
  | str l => intro y hc; have : DV.str l = y := by cases y <;> (simp only [coeD] at hc; exact hc)
             subst this; exact .str l
  | sc v h =>
    intro y hc
    unfold coeD at hc
    split at hc
    · rename_i sz e
      injection e with e
      subst e
      exact .sl sz [] none 0 (fun _ _ => undef) (by simp) (by simp) (by simp) (by simp)
    · rename_i e; cases e
    · subst hc; exact .sc v h
  | sc0 A =>
    intro y hc
    unfold coeD at hc
    split at hc
    · rename_i sz e
      exact .sl sz [] A 0 (fun _ _ => undef) (by simp) (by simp) (by simp) (by simp)
    · rename_i e; cases e
    · subst hc; exact .sc0 A
  | sl sz rows A cap u hcap hsz hc hr ih =>
    intro y hco
    unfold coeD at hco
    split at hco
    · rename_i e; cases e
    · rename_i n rs m qs e
      injection e with e1 e2
      subst e1; subst e2
      obtain ⟨e3, hco⟩ := hco
      subst e3
      obtain ⟨hl, hg⟩ := coeRs_get hco
      have back : ∀ (i : Nat) (r' : List DV), qs[i]? = some r' → ∃ r, rows[i]? = some r ∧ coeRw r r' := fun i r' hi => by
        have hlt : i < rows.length := by rw [hl]; exact (List.getElem?_eq_some_iff.1 hi).1
        exact ⟨_, List.getElem?_eq_getElem hlt, hg i _ r' (List.getElem?_eq_getElem hlt) hi⟩
      rw [hl]
      refine .sl sz qs A cap u (by rw [← hl]; exact hcap) (fun r' hr' => ?_) (fun hp => ?_) fun i r' hi j c' hj => ?_
      · obtain ⟨i, hi⟩ := List.mem_iff_getElem?.1 hr'
        obtain ⟨r, h1, h2⟩ := back i r' hi
        rw [← (coeRw_get h2).1]; exact hsz r (List.mem_of_getElem? h1)
      · obtain ⟨b, o, h1, h2, h3⟩ := hc (by rw [hl]; exact hp)
        refine ⟨b, o, h1, h2, fun i r' hi j c' hj => ?_⟩
        obtain ⟨r, h4, h5⟩ := back i r' hi
        have hlt : j < r.length := by rw [(coeRw_get h5).1]; exact (List.getElem?_eq_some_iff.1 hj).1
        exact h3 i r h4 j _ (List.getElem?_eq_getElem hlt)
      · obtain ⟨r, h4, h5⟩ := back i r' hi
        have hlt : j < r.length := by rw [(coeRw_get h5).1]; exact (List.getElem?_eq_some_iff.1 hj).1
        exact ih i r h4 j _ (List.getElem?_eq_getElem hlt) c' ((coeRw_get h5).2 j _ c' (List.getElem?_eq_getElem hlt) hj)
    · subst hco; exact .sl sz rows A cap u hcap hsz hc hr
theorem coe_rep {ρ : List (Option (Nat × Nat))} {ok : Nat → Prop} {w : World} {x : AV} {u : Value} (h : RepV ρ ok w x u) : ∀ y, coeV x y → RepV ρ ok w y u := by
  induction h with
  | agg cs us hl h1 hr ih =>
    intro y hc
    unfold coeV at hc
    split at hc
    · rename_i e; cases e
    · rename_i xs ys e
      injection e with e
      subst e
      obtain ⟨q1, q2⟩ := coeL_get hc
      refine .agg _ _ (by rw [hl, q1]) h1 fun j c u hcj hu => ?_
      have hj : j < cs.length := by rw [q1]; exact (List.getElem?_eq_some_iff.1 hcj).1
      exact ih j _ u (List.getElem?_eq_getElem hj) hu c (q2 j _ c (List.getElem?_eq_getElem hj) hcj)
    · rename_i e; cases e
    · subst hc; exact .agg cs us hl h1 hr
  | d x v h =>
    intro y hc
    unfold coeV at hc
    split at hc
    · rename_i a b e
      injection e with e
      subst e
      rcases hc with hc | hc
      · subst hc; exact .d _ _ h
      · exact .d _ _ (coeD_rep h _ hc)
    · rename_i e; cases e
    · rename_i e; cases e
    · subst hc; exact .d x v h
  | tup cs us hl hr ih =>
    intro y hc
    unfold coeV at hc
    split at hc
    · rename_i e; cases e
    · rename_i e; cases e
    · rename_i xs ys e
      injection e with e
      subst e
      obtain ⟨q1, q2⟩ := coeL_get hc
      refine .tup _ _ (by rw [hl, q1]) fun j c u hcj hu => ?_
      have hj : j < cs.length := by rw [q1]; exact (List.getElem?_eq_some_iff.1 hcj).1
      exact ih j _ u (List.getElem?_eq_getElem hj) hu c (q2 j _ c (List.getElem?_eq_getElem hj) hcj)
    · subst hc; exact .tup cs us hl hr
  | ptr k off b m h => intro y hc; have : AV.ptr k off = y := by cases y <;> (simp only [coeV] at hc; exact hc)
                       subst this; exact .ptr k off b m h
  | rp k sz i off b m h => intro y hc; have : AV.rp k sz i off = y := by cases y <;> (simp only [coeV] at hc; exact hc)
                           subst this; exact .rp k sz i off b m h
  | osl k sz off n b m cap h hm hn => intro y hc; have : AV.osl k sz off n = y := by cases y <;> (simp only [coeV] at hc; exact hc)
                                      subst this; exact .osl k sz off n b m cap h hm hn
  | oslnil k sz A h =>
    intro y hc
    have : AV.osl k sz 0 0 = y := by cases y <;> (simp only [coeV] at hc; exact hc)
    subst this; exact .oslnil k sz A h
  | dp row off b o u hb hc' hr => intro y hc; have : AV.dp row off = y := by cases y <;> (simp only [coeV] at hc; exact hc)
                                  subst this; exact .dp row off b o u hb hc' hr
  | clo f first caps us vs hl hl' hr hr' _ _ => intro y hc; have : AV.clo f first caps = y := by cases y <;> (simp only [coeV] at hc; exact hc)
                                                subst this; exact .clo f first caps us vs hl hl' hr hr'
  | gd g v u ht hf _ => intro y hc; have : AV.gd g v = y := by cases y <;> (simp only [coeV] at hc; exact hc)
                        subst this; exact .gd g v u ht hf
  | mp k b m h => intro y hc; have : AV.mp k = y := by cases y <;> (simp only [coeV] at hc; exact hc)
                  subst this; exact .mp k b m h
  | any u => intro y hc; have : AV.any = y := by cases y <;> first | rfl | (simp only [coeV] at hc; exact hc)
             subst this; exact .any u
mutual
theorem coeV_refl : ∀ (x : AV), coeV x x
  | .d x => by simp [coeV]
  | .agg xs => by simp only [coeV]; exact coeL_refl xs
  | .tup xs => by simp only [coeV]; exact coeL_refl xs
  | .ptr _ _ => by simp only [coeV]
  | .rp _ _ _ _ => by simp only [coeV]
  | .osl _ _ _ _ => by simp only [coeV]
  | .dp _ _ => by simp only [coeV]
  | .clo _ _ _ => by simp only [coeV]
  | .gd _ _ => by simp only [coeV]
  | .mp _ => by simp only [coeV]
  | .any => by simp only [coeV]
theorem coeL_refl : ∀ (xs : List AV), coeL xs xs
  | [] => by simp only [coeL]
  | x :: r => by simp only [coeL]; exact ⟨coeV_refl x, coeL_refl r⟩
end
theorem acall.coe {P : Program} {hp : List ABlk} {g : FuncId} {xs ys : List AV} {R : AV → List ABlk → Prop} (c : acall P hp g ys R) (h : coeL xs ys) : acall P hp g xs R := by
  refine ⟨c.1, fun E w us h1 h2 h3 => c.2 E w us h1 h2 ?_⟩
  obtain ⟨q1, q2⟩ := coeL_get h
  refine ⟨by rw [h3.1, q1], fun j y u hy hu => ?_⟩
  have hj : j < xs.length := by rw [q1]; exact (List.getElem?_eq_some_iff.1 hy).1
  exact coe_rep (h3.2 j _ u (List.getElem?_eq_getElem hj) hu) y (q2 j _ y (List.getElem?_eq_getElem hj) hy)
theorem AOut.coe {np : Nat} {hp : List ABlk} {v v' : AV} {R : AV → List ABlk → Prop} (hc : coeV v v') (h : AOut np hp v' R) : AOut np hp v R :=
  fun E ρ w u h1 h2 h3 h4 => h E ρ w u h1 h2 h3 (coe_rep h4 v' hc)
end Go.Proofs.YtainmipdnjcbkaaGreatDoor
namespace Go.Proofs.YtainmipdnjcbkaaGreatDoor
set_option linter.unusedVariables false
set_option linter.unusedSimpArgs false
open Go Go.RowKit
theorem strip_d (x : DV) : strip (.d x) = .d x := rfl
theorem strip_agg (x : List AV) : strip (.agg x) = .agg x := rfl
theorem strip_tup (x : List AV) : strip (.tup x) = .tup x := rfl
theorem strip_ptr (k o : Nat) : strip (.ptr k o) = .ptr k o := rfl
theorem strip_mp (k : Nat) : strip (.mp k) = .mp k := rfl
theorem strip_rp (k s i o : Nat) : strip (.rp k s i o) = .rp k s i o := rfl
theorem strip_osl (k s i o : Nat) : strip (.osl k s i o) = .osl k s i o := rfl
theorem strip_dp (r : List DV) (o : Nat) : strip (.dp r o) = .dp r o := rfl
theorem strip_clo (f : FuncId) (a b : List AV) : strip (.clo f a b) = .clo f a b := rfl
theorem strip_gd (g : Bool) (v : AV) : strip (.gd g v) = v := rfl
theorem strip_any : strip .any = .any := rfl
theorem gdok_d (x : DV) : gdok (.d x) = True := rfl
theorem gdok_agg (x : List AV) : gdok (.agg x) = True := rfl
theorem gdok_tup (x : List AV) : gdok (.tup x) = True := rfl
theorem gdok_ptr (k o : Nat) : gdok (.ptr k o) = True := rfl
theorem gdok_mp (k : Nat) : gdok (.mp k) = True := rfl
theorem gdok_rp (k s i o : Nat) : gdok (.rp k s i o) = True := rfl
theorem gdok_osl (k s i o : Nat) : gdok (.osl k s i o) = True := rfl
theorem gdok_dp (r : List DV) (o : Nat) : gdok (.dp r o) = True := rfl
theorem gdok_clo (f : FuncId) (a b : List AV) : gdok (.clo f a b) = True := rfl
theorem gdok_gd (g : Bool) (v : AV) : gdok (.gd g v) = (g = true) := rfl
theorem gdok_any : gdok .any = True := rfl
theorem TI.agg_mk (a b : Nat) (z : List DV) (k : TK) (c : List TK) : TI.agg { size := a, bytes := b, zero := z, kind := k, cmp := c } = (match k with | .struct _ => true | .array _ _ => true | _ => false) := rfl
theorem aget_nil (t : Nat) : aget [] t = .any := rfl
theorem aget_cons (k : Nat) (v : AV) (r : List (Nat × AV)) (t : Nat) : aget ((k, v) :: r) t = if k = t then v else aget r t := rfl
theorem valA_tmp (s : ASt) (t : Tmp) : valA s (.tmp t) = aget s.env t := rfl
theorem valA_int (s : ASt) (k : IntKind) (n : Int) : valA s (.const (.int k n)) = .d (.int k n) := rfl
theorem valA_bool (s : ASt) (b : Bool) : valA s (.const (.bool b)) = .d (.bool b) := rfl
theorem valA_str (s : ASt) (b : ByteArray) : valA s (.const (.string b)) = .d (.str b.data.toList) := rfl
theorem valA_nilsl (s : ASt) : valA s (.const (.slice none 0 0)) = .d (.sc (.slice none 0 0)) := rfl
theorem valA_nilptr (s : ASt) : valA s (.const (.pointer none)) = .d (.sc (.pointer none)) := rfl
theorem valA_func (s : ASt) (f : FuncId) : valA s (.func f) = .d (.sc (.func (.func f) #[] #[])) := rfl
theorem aops_nil (P : Program) (T : TypeId → TI) (ops : Array Oper) (Q : ASt → Prop) (s : ASt) : aops P T ops Q [] s = Q s := rfl
theorem aops_cons (P : Program) (T : TypeId → TI) (ops : Array Oper) (Q : ASt → Prop) (o : Oper) (r : List Oper) (s : ASt) : aops P T ops Q (o :: r) s = astep P T ops s o (aops P T ops Q r) := rfl
theorem aopsQ_nil (P : Program) (T : TypeId → TI) (ops : Array Oper) (Q : ASt → Prop) (s : ASt) : aopsQ P T ops Q [] s = Q s := rfl
theorem aopsQ_cons (P : Program) (T : TypeId → TI) (ops : Array Oper) (Q : ASt → Prop) (o : Oper) (r : List Oper) (s : ASt) : aopsQ P T ops Q (o :: r) s = astepQ P T ops s o (aopsQ P T ops Q r) := rfl
theorem takes_nil (p : Plan) : Plan.takes [] p = p := rfl
theorem takes_cons (k : Nat) (ks : List Nat) (p : Plan) : Plan.takes (k :: ks) p = .take k (Plan.takes ks p) := rfl
theorem aplan_done (P : Program) (T : TypeId → TI) (ops : Array Oper) (Q : ASt → Prop) (s : ASt) : aplan P T ops Q .done s = Q s := rfl
theorem aplan_take (P : Program) (T : TypeId → TI) (ops : Array Oper) (Q : ASt → Prop) (k : Nat) (p : Plan) (s : ASt) : aplan P T ops Q (.take k p) s = astepE P T ops s ops[k]? (aplan P T ops Q p) := rfl
theorem aplan_fork (P : Program) (T : TypeId → TI) (ops : Array Oper) (Q : ASt → Prop) (k k' : Nat) (p p' : Plan) (s : ASt) : aplan P T ops Q (.fork k p k' p') s = (astepE P T ops s ops[k]? (aplan P T ops Q p) ∧ astepE P T ops s ops[k']? (aplan P T ops Q p')) := rfl
theorem aplan_forks (P : Program) (T : TypeId → TI) (ops : Array Oper) (Q : ASt → Prop) (k k' k2 : Nat) (p p' p2 : Plan) (s : ASt) : aplan P T ops Q (.forks k p k' p' k2 p2) s = (astepE P T ops s ops[k]? (aplan P T ops Q p) ∧ astepE P T ops s ops[k']? (aplan P T ops Q p') ∧ astepE P T ops s ops[k2]? (aplan P T ops Q p2)) := rfl
theorem astepE_some (P : Program) (T : TypeId → TI) (ops : Array Oper) (Q : ASt → Prop) (o : Oper) (s : ASt) : astepE P T ops s (some o) Q = bif isEffOp o.op then astep P T ops s o Q else astepQ P T ops s o Q := rfl
theorem aopsD_nil (P : Program) (T : TypeId → TI) (ops : Array Oper) (Q : ASt → Prop) (s : ASt) : aopsD P T ops Q [] s = Q s := rfl
theorem aopsD_cons (P : Program) (T : TypeId → TI) (ops : Array Oper) (Q : ASt → Prop) (o : Oper) (r : List Oper) (s : ASt) : aopsD P T ops Q (o :: r) s = bif isEffOp o.op then astep P T ops s o (aopsD P T ops Q r) else astepQ P T ops s o (aopsD P T ops Q r) := rfl
theorem gdoks_nil : gdoks [] = True := rfl
theorem gdoks_cons (x : AV) (r : List AV) : gdoks (x :: r) = (gdok x ∧ gdoks r) := rfl
theorem frzL_nil (hp : List ABlk) : frzL hp [] = [] := rfl
theorem frzL_cons (hp : List ABlk) (x : AV) (r : List AV) : frzL hp (x :: r) = frzV hp x :: frzL hp r := rfl
theorem frzOks_nil (hp : List ABlk) : frzOks hp [] = True := rfl
theorem frzOks_cons (hp : List ABlk) (x : AV) (r : List AV) : frzOks hp (x :: r) = (frzOk hp x ∧ frzOks hp r) := rfl
theorem noIds_nil : noIds [] = True := rfl
theorem noIds_cons (x : AV) (r : List AV) : noIds (x :: r) = (noId x ∧ noIds r) := rfl
theorem idsL_nil : idsL [] = [] := rfl
theorem idsL_cons (x : AV) (r : List AV) : idsL (x :: r) = idsV x ++ idsL r := rfl
theorem renL_nil (f : Nat → Nat) : renL f [] = [] := rfl
theorem renL_cons (f : Nat → Nat) (x : AV) (r : List AV) : renL f (x :: r) = renV f x :: renL f r := rfl
theorem inL_nil (n : Nat) : inL n [] = True := rfl
theorem inL_cons (n : Nat) (x : AV) (r : List AV) : inL n (x :: r) = (inV n x ∧ inL n r) := rfl
theorem killIds_nil (hp : List ABlk) : killIds [] hp = hp := rfl
theorem killIds_cons (k : Nat) (r : List Nat) (hp : List ABlk) : killIds (k :: r) hp = killIds r (hp.set k .dead) := rfl
theorem envLe_nil (f : Nat → Nat) (n : Nat) (e : List (Nat × AV)) : envLe f n e [] = True := rfl
theorem envLe_cons (f : Nat → Nat) (n : Nat) (e : List (Nat × AV)) (t : Nat) (v : AV) (r : List (Nat × AV)) : envLe f n e ((t, v) :: r) = ((aget e t = renV f v ∧ inV n v) ∧ envLe f n e r) := rfl
theorem hpLe_nil (f : Nat → Nat) (n : Nat) (hp : List ABlk) (i : Nat) : hpLe f n hp i [] = True := rfl
theorem hpLe_cons (f : Nat → Nat) (n : Nat) (hp : List ABlk) (i : Nat) (x : ABlk) (r : List ABlk) : hpLe f n hp i (x :: r) = ((x = .dead ∨ (hp[f i]? = some (renB f x) ∧ inB n x)) ∧ hpLe f n hp (i + 1) r) := rfl
theorem frzE_nil (hp : List ABlk) (e : List (Nat × AV)) : frzE hp e [] = True := rfl
theorem frzE_cons (hp : List ABlk) (e : List (Nat × AV)) (t : Nat) (v : AV) (r : List (Nat × AV)) : frzE hp e ((t, v) :: r) = (((aget e t = v) ∨ (frzOk hp (aget e t) ∧ noId (frzV hp (aget e t)) ∧ v = frzV hp (aget e t))) ∧ frzE hp e r) := rfl
theorem aresL_nil (T : TypeId → TI) (s : ASt) : aresL T s [] = (True, []) := rfl
theorem aresL_cons (T : TypeId → TI) (s : ASt) (r : ResultVar) (l : List ResultVar) : aresL T s (r :: l) = ((ares1 T s r).ok ∧ (aresL T s l).1, (ares1 T s r).v :: (aresL T s l).2) := rfl
theorem apar_nil (k : Nat) : apar k [] = [] := rfl
theorem apar_cons (k : Nat) (x : AV) (r : List AV) : apar k (x :: r) = (k, x) :: apar (k + 1) r := rfl
theorem chunk_zero (sz : Nat) (cs : List AV) : chunk sz 0 cs = some [] := rfl
theorem chunk_succ (sz n : Nat) (cs : List AV) : chunk sz (n + 1) cs = (match dvsOf (cs.take sz), chunk sz n (cs.drop sz) with | some r, some l => some (r :: l) | _, _ => none) := rfl
theorem dvsOf_nil : dvsOf [] = some [] := rfl
theorem dvsOf_cons (x : AV) (r : List AV) : dvsOf (x :: r) = (match dvOf x, dvsOf r with | some y, some l => some (y :: l) | _, _ => none) := rfl
theorem eqLeaves_nil : eqLeaves [] [] [] = (True, true) := rfl
theorem eqLeaves_cons (k : TK) (ks : List TK) (x y : AV) (xs ys : List AV) : eqLeaves (k :: ks) (x :: xs) (y :: ys) = ((eqLeaf k x y).1 ∧ (eqLeaves ks xs ys).1, (eqLeaf k x y).2 && (eqLeaves ks xs ys).2) := rfl
theorem fillA_nil (p : Nat → Option (Nat × Nat)) (cs : List AV) : fillA p [] cs = (True, cs) := rfl
theorem fillA_cons (p : Nat → Option (Nat × Nat)) (i : Nat) (v : AV) (r : List (Nat × AV)) (cs : List AV) : fillA p ((i, v) :: r) cs = (match p i with | none => (False, cs) | some (off, size) => ((acells v).length = size ∧ off + (acells v).length ≤ cs.length ∧ (isTup v = false) ∧ (fillA p r (cs.take off ++ acells v ++ cs.drop (off + (acells v).length))).1, (fillA p r (cs.take off ++ acells v ++ cs.drop (off + (acells v).length))).2)) := rfl
theorem scalL_nil : scalL [] = some [] := rfl
theorem scalL_cons (x : AV) (r : List AV) : scalL (x :: r) = (match scalV x, scalL r with | some u, some l => some (u :: l) | _, _ => none) := rfl
theorem coeL_nil : coeL [] [] = True := rfl
theorem coeL_cons (x y : AV) (r l : List AV) : coeL (x :: r) (y :: l) = (coeV x y ∧ coeL r l) := rfl
theorem putAll_nil (f : Nat → Nat) (hp : List ABlk) (r : List ABlk) : putAll f hp [] r = hp := by cases r <;> rfl
theorem putAll_cons (f : Nat → Nat) (hp : List ABlk) (i : Nat) (m : List Nat) (x : ABlk) (r : List ABlk) : putAll f hp (i :: m) (x :: r) = putAll f (hp.set i (renB f x)) m r := rfl
theorem killRows_nil : killRows [] = [] := rfl
theorem killRows_rows_ (sz : Nat) (rs : List (List DV)) (r : List ABlk) : killRows (.rows sz rs :: r) = .dead :: killRows r := rfl
theorem killRows_cells (cs : List AV) (r : List ABlk) : killRows (.cells cs :: r) = .cells cs :: killRows r := rfl
theorem killRows_dead (r : List ABlk) : killRows (.dead :: r) = .dead :: killRows r := rfl
theorem frzV_d (hp : List ABlk) (x : DV) : frzV hp (.d x) = .d x := rfl
theorem frzV_agg (hp : List ABlk) (x : List AV) : frzV hp (.agg x) = .agg (frzL hp x) := rfl
theorem frzV_tup (hp : List ABlk) (x : List AV) : frzV hp (.tup x) = .tup (frzL hp x) := rfl
theorem frzV_ptr (hp : List ABlk) (k o : Nat) : frzV hp (.ptr k o) = .ptr k o := rfl
theorem frzV_mp (hp : List ABlk) (k : Nat) : frzV hp (.mp k) = .mp k := rfl
theorem frzV_rp (hp : List ABlk) (k sz i o : Nat) : frzV hp (.rp k sz i o) = .rp k sz i o := rfl
theorem frzV_osl (hp : List ABlk) (k sz o n : Nat) : frzV hp (.osl k sz o n) = (match hp[k]? with | some (.rows _ rs) => .d (.sl sz ((rs.drop o).take n)) | _ => .any) := rfl
theorem frzV_dp (hp : List ABlk) (w : List DV) (o : Nat) : frzV hp (.dp w o) = .dp w o := rfl
theorem frzV_clo (hp : List ABlk) (g : FuncId) (x y : List AV) : frzV hp (.clo g x y) = .clo g x y := rfl
theorem frzV_gd (hp : List ABlk) (g : Bool) (v : AV) : frzV hp (.gd g v) = .gd g v := rfl
theorem frzV_any (hp : List ABlk)  : frzV hp (.any) = .any := rfl
theorem frzOk_d (hp : List ABlk) (x : DV) : frzOk hp (.d x) = True := rfl
theorem frzOk_agg (hp : List ABlk) (x : List AV) : frzOk hp (.agg x) = frzOks hp x := rfl
theorem frzOk_tup (hp : List ABlk) (x : List AV) : frzOk hp (.tup x) = frzOks hp x := rfl
theorem frzOk_ptr (hp : List ABlk) (k o : Nat) : frzOk hp (.ptr k o) = True := rfl
theorem frzOk_mp (hp : List ABlk) (k : Nat) : frzOk hp (.mp k) = True := rfl
theorem frzOk_rp (hp : List ABlk) (k sz i o : Nat) : frzOk hp (.rp k sz i o) = True := rfl
theorem frzOk_osl (hp : List ABlk) (k sz o n : Nat) : frzOk hp (.osl k sz o n) = (match hp[k]? with | some (.rows sz' rs) => sz = sz' ∧ o + n ≤ rs.length | _ => False) := rfl
theorem frzOk_dp (hp : List ABlk) (w : List DV) (o : Nat) : frzOk hp (.dp w o) = True := rfl
theorem frzOk_clo (hp : List ABlk) (g : FuncId) (x y : List AV) : frzOk hp (.clo g x y) = True := rfl
theorem frzOk_gd (hp : List ABlk) (g : Bool) (v : AV) : frzOk hp (.gd g v) = True := rfl
theorem frzOk_any (hp : List ABlk)  : frzOk hp (.any) = True := rfl
theorem noId_d  (x : DV) : noId (.d x) = True := rfl
theorem noId_agg  (x : List AV) : noId (.agg x) = noIds x := rfl
theorem noId_tup  (x : List AV) : noId (.tup x) = noIds x := rfl
theorem noId_ptr  (k o : Nat) : noId (.ptr k o) = False := rfl
theorem noId_mp  (k : Nat) : noId (.mp k) = False := rfl
theorem noId_rp  (k sz i o : Nat) : noId (.rp k sz i o) = False := rfl
theorem noId_osl  (k sz o n : Nat) : noId (.osl k sz o n) = False := rfl
theorem noId_dp  (w : List DV) (o : Nat) : noId (.dp w o) = True := rfl
theorem noId_clo  (g : FuncId) (x y : List AV) : noId (.clo g x y) = False := rfl
theorem noId_gd  (g : Bool) (v : AV) : noId (.gd g v) = False := rfl
theorem noId_any   : noId (.any) = True := rfl
theorem idsV_d  (x : DV) : idsV (.d x) = [] := rfl
theorem idsV_agg  (x : List AV) : idsV (.agg x) = idsL x := rfl
theorem idsV_tup  (x : List AV) : idsV (.tup x) = idsL x := rfl
theorem idsV_ptr  (k o : Nat) : idsV (.ptr k o) = [] := rfl
theorem idsV_mp  (k : Nat) : idsV (.mp k) = [] := rfl
theorem idsV_rp  (k sz i o : Nat) : idsV (.rp k sz i o) = [] := rfl
theorem idsV_osl  (k sz o n : Nat) : idsV (.osl k sz o n) = [k] := rfl
theorem idsV_dp  (w : List DV) (o : Nat) : idsV (.dp w o) = [] := rfl
theorem idsV_clo  (g : FuncId) (x y : List AV) : idsV (.clo g x y) = [] := rfl
theorem idsV_gd  (g : Bool) (v : AV) : idsV (.gd g v) = [] := rfl
theorem idsV_any   : idsV (.any) = [] := rfl
theorem renV_d (f : Nat → Nat) (x : DV) : renV f (.d x) = .d x := rfl
theorem renV_agg (f : Nat → Nat) (x : List AV) : renV f (.agg x) = .agg (renL f x) := rfl
theorem renV_tup (f : Nat → Nat) (x : List AV) : renV f (.tup x) = .tup (renL f x) := rfl
theorem renV_ptr (f : Nat → Nat) (k o : Nat) : renV f (.ptr k o) = .ptr (f k) o := rfl
theorem renV_mp (f : Nat → Nat) (k : Nat) : renV f (.mp k) = .mp (f k) := rfl
theorem renV_rp (f : Nat → Nat) (k sz i o : Nat) : renV f (.rp k sz i o) = .rp (f k) sz i o := rfl
theorem renV_osl (f : Nat → Nat) (k sz o n : Nat) : renV f (.osl k sz o n) = .osl (f k) sz o n := rfl
theorem renV_dp (f : Nat → Nat) (w : List DV) (o : Nat) : renV f (.dp w o) = .dp w o := rfl
theorem renV_clo (f : Nat → Nat) (g : FuncId) (x y : List AV) : renV f (.clo g x y) = .clo g (renL f x) (renL f y) := rfl
theorem renV_gd (f : Nat → Nat) (g : Bool) (v : AV) : renV f (.gd g v) = .gd g (renV f v) := rfl
theorem renV_any (f : Nat → Nat)  : renV f (.any) = .any := rfl
theorem inV_d (m : Nat) (x : DV) : inV m (.d x) = True := rfl
theorem inV_agg (m : Nat) (x : List AV) : inV m (.agg x) = inL m x := rfl
theorem inV_tup (m : Nat) (x : List AV) : inV m (.tup x) = inL m x := rfl
theorem inV_ptr (m : Nat) (k o : Nat) : inV m (.ptr k o) = (k < m) := rfl
theorem inV_mp (m : Nat) (k : Nat) : inV m (.mp k) = (k < m) := rfl
theorem inV_rp (m : Nat) (k sz i o : Nat) : inV m (.rp k sz i o) = (k < m) := rfl
theorem inV_osl (m : Nat) (k sz o n : Nat) : inV m (.osl k sz o n) = (k < m) := rfl
theorem inV_dp (m : Nat) (w : List DV) (o : Nat) : inV m (.dp w o) = True := rfl
theorem inV_clo (m : Nat) (g : FuncId) (x y : List AV) : inV m (.clo g x y) = (inL m x ∧ inL m y) := rfl
theorem inV_gd (m : Nat) (g : Bool) (v : AV) : inV m (.gd g v) = inV m v := rfl
theorem inV_any (m : Nat)  : inV m (.any) = True := rfl
theorem scalV_int (k : IntKind) (n : Int) : scalV (.d (.int k n)) = some (.int k n) := rfl
theorem scalV_bool (b : Bool) : scalV (.d (.bool b)) = some (.bool b) := rfl
theorem scalV_str (l : List UInt8) : scalV (.d (.str l)) = some (mkStr l) := rfl
theorem scalV_tup (vs : List AV) : scalV (.tup vs) = (scalL vs).map fun l => .tuple l.toArray := rfl
theorem scalV_agg (cs : List AV) : scalV (.agg cs) = (scalL cs).bind fun l => if l.all (·.oneCell') then some (.agg l.toArray) else none := rfl
theorem coeV_d (x y : DV) : coeV (.d x) (.d y) = (x = y ∨ coeD x y) := by simp only [coeV]
theorem coeV_agg (x y : List AV) : coeV (.agg x) (.agg y) = coeL x y := by simp only [coeV]
theorem coeV_tup (x y : List AV) : coeV (.tup x) (.tup y) = coeL x y := by simp only [coeV]
theorem coeD_nil (n : Nat) : coeD (.sc (.slice none 0 0)) (.sl n []) = True := by simp only [coeD]
theorem coeD_nn : coeD (.sc (.slice none 0 0)) (.sc (.slice none 0 0)) = True := by simp [coeD]
theorem coeD_sl (n m : Nat) (l r : List (List DV)) : coeD (.sl n l) (.sl m r) = (n = m ∧ coeRs l r) := by simp only [coeD]
theorem coeD_int (k : IntKind) (n : Int) (y : DV) : coeD (.int k n) y = (.int k n = y) := by cases y <;> simp [coeD]
theorem coeD_bool (b : Bool) (y : DV) : coeD (.bool b) y = (.bool b = y) := by cases y <;> simp [coeD]
theorem coeD_str (l : List UInt8) (y : DV) : coeD (.str l) y = (.str l = y) := by cases y <;> simp [coeD]
theorem coeRs_nil : coeRs [] [] = True := by simp only [coeRs]
theorem coeRs_cons (r q : List DV) (rs qs : List (List DV)) : coeRs (r :: rs) (q :: qs) = (coeRw r q ∧ coeRs rs qs) := by simp only [coeRs]
theorem coeRw_nil : coeRw [] [] = True := by simp only [coeRw]
theorem coeRw_cons (x y : DV) (r q : List DV) : coeRw (x :: r) (y :: q) = (coeD x y ∧ coeRw r q) := by simp only [coeRw]
theorem coeDV_int (k k' : IntKind) (a b : Int) : (DV.int k a = DV.int k' b) = (k = k' ∧ a = b) := by simp
theorem coeDV_bool (a b : Bool) : (DV.bool a = DV.bool b) = (a = b) := by simp
theorem coeDV_str (a b : List UInt8) : (DV.str a = DV.str b) = (a = b) := by simp
attribute [go_sem] strip_d strip_agg strip_tup strip_ptr strip_mp strip_rp strip_osl strip_dp strip_clo strip_gd strip_any gdok_d gdok_agg gdok_tup gdok_ptr gdok_mp gdok_rp gdok_osl gdok_dp gdok_clo gdok_gd gdok_any
attribute [go_sem] aops_nil aops_cons aopsQ_nil aopsQ_cons aopsD_nil aopsD_cons aopsG_nil aopsG_cons takes_nil takes_cons aplan_done aplan_take aplan_fork aplan_forks astepE_some gdoks_nil gdoks_cons frzL_nil frzL_cons frzOks_nil frzOks_cons noIds_nil noIds_cons idsL_nil idsL_cons renL_nil renL_cons inL_nil inL_cons killIds_nil killIds_cons envLe_nil envLe_cons hpLe_nil hpLe_cons frzE_nil frzE_cons aresL_nil aresL_cons apar_nil apar_cons chunk_zero chunk_succ dvsOf_nil dvsOf_cons eqLeaves_nil eqLeaves_cons fillA_nil fillA_cons scalL_nil scalL_cons coeL_nil coeL_cons putAll_nil putAll_cons killRows_nil killRows_rows_ killRows_cells killRows_dead frzV_d frzV_agg frzV_tup frzV_ptr frzV_mp frzV_rp frzV_osl frzV_dp frzV_clo frzV_gd frzV_any frzOk_d frzOk_agg frzOk_tup frzOk_ptr frzOk_mp frzOk_rp frzOk_osl frzOk_dp frzOk_clo frzOk_gd frzOk_any noId_d noId_agg noId_tup noId_ptr noId_mp noId_rp noId_osl noId_dp noId_clo noId_gd noId_any idsV_d idsV_agg idsV_tup idsV_ptr idsV_mp idsV_rp idsV_osl idsV_dp idsV_clo idsV_gd idsV_any renV_d renV_agg renV_tup renV_ptr renV_mp renV_rp renV_osl renV_dp renV_clo renV_gd renV_any inV_d inV_agg inV_tup inV_ptr inV_mp inV_rp inV_osl inV_dp inV_clo inV_gd inV_any scalV_int scalV_bool scalV_str scalV_tup scalV_agg coeV_d coeV_agg coeV_tup coeD_nil coeD_nn coeD_sl coeD_int coeD_bool coeD_str coeRs_nil coeRs_cons coeRw_nil coeRw_cons coeDV_int coeDV_bool coeDV_str or_self true_or or_true or_false false_or
attribute [go_sem] binPtr.eq_def ptrNil.eq_def binAgg.eq_def eqLeaf.eq_def astep.eq_def astep0.eq_def astepM.eq_def astepQ.eq_def astepQ0.eq_def nilCmp.eq_def nilLen.eq_def anilCmp.eq_def acond.eq_def aput.eq_def dstOk.eq_def isPure.eq_def apure.eq_def g1.eq_def g2.eq_def gdokO.eq_def abin.eq_def binInt.eq_def binStr.eq_def binBool.eq_def aun.eq_def apick.eq_def aext.eq_def anil.eq_def aconv.eq_def aconvX.eq_def aconvM.eq_def srcB.eq_def okU8.eq_def ub.eq_def isEffOp.eq_def alen.eq_def amm.eq_def afld.eq_def apart.eq_def aload.eq_def aidxAddr.eq_def aidx.eq_def aslice.eq_def aslStr.eq_def aslSl.eq_def aslOwn.eq_def aslArr.eq_def bsParts.eq_def renB.eq_def inB.eq_def mAt.eq_def renm.eq_def renBs.eq_def abnd.eq_def abndOk.eq_def acells.eq_def isTup.eq_def abuild.eq_def abuiltin.eq_def aalloc.eq_def abox.eq_def abuildSlice.eq_def amake.eq_def spl.eq_def astore.eq_def dvOf.eq_def blkOf.eq_def srcRows.eq_def srcTy.eq_def appTo.eq_def aappend.eq_def aguard.eq_def gsel.eq_def dstAt.eq_def ajunk.eq_def aunder_true aunder_false acallee.eq_def calm.eq_def isCallOp.eq_def aend.eq_def ares1.eq_def tupOf.eq_def thenA.eq_def
attribute [go_sem] valA_tmp valA_int valA_bool valA_str valA_nilsl valA_nilptr valA_func aget_nil aget_cons ub_rows okU8s_rows TI.agg_mk
attribute [go_sem] IntKind.bits
attribute [go_sem] if_true if_false ite_true ite_false true_and and_true false_and and_false List.length_cons List.length_nil List.map_cons List.map_nil List.nil_append List.cons_append List.append_nil List.getElem?_cons_zero List.getElem?_cons_succ List.getElem?_nil
attribute [go_sem] List.drop_zero List.drop_succ_cons List.take_succ_cons List.take_zero List.take_nil List.drop_nil List.set_cons_zero List.set_cons_succ List.set_nil List.getD_cons_zero List.getD_cons_succ Option.map_some Option.map_none Option.bind_some Option.bind_none Option.getD_some Option.getD_none
attribute [go_sem] Bool.false_eq_true Bool.not_true Bool.not_false Bool.true_and Bool.and_true Bool.false_and Bool.and_false Bool.true_or Bool.or_true Bool.false_or Bool.or_false cond_true cond_false Bool.cond_true_left Bool.cond_false_right Bool.cond_true_right Bool.cond_false_left
attribute [go_sem] forall_const implies_true false_implies imp_self List.length_append List.length_map List.length_set List.length_replicate List.flatten_cons List.flatten_nil List.replicate_succ List.replicate_zero List.toList_toArray List.getElem?_toArray List.size_toArray decide_true decide_false
end Go.Proofs.YtainmipdnjcbkaaGreatDoor
namespace Go.Proofs.YtainmipdnjcbkaaGreatDoor
set_option linter.unusedVariables false
set_option linter.unusedSimpArgs false
open Go Go.RowKit
def blkA (id : Nat) (N : ASt → Prop) (Q : Exit → ASt → Prop) : Exit → ASt → Prop
  | .normal, s => N s
  | .exit i, s => if i = id then N s else Q (.exit i) s
  | e, s => Q e s
section
variable {P : Program} {T : TypeId → TI} {s : ASt} {Q : Exit → ASt → Prop} {x y z : Code} {N : ASt → Prop}
theorem AWP.region {id : Nat} {l : List Oper} (hT : TabOk P T) (h : ∀ K : ASt → Prop, (∀ s', Q .normal s' → K s') → aops P T l.toArray K l s) : AWP P (.region id l.toArray false) s Q := fun _ ρ a w hr =>
  wp_region_lit (aops_sound hT (fun s' ρ' a' w' hs hr' => ⟨s', ρ', hr', hs⟩) l s ρ a w (h _ fun _ hq => hq) hr)
theorem AWP.quiet {id : Nat} {l : List Oper} (hm : P.follows .mixedOrders = true) (hT : TabOk P T) (hB : Region.lexB .any l.toArray = true) (h : ∀ K : ASt → Prop, (∀ s', Q .normal s' → K s') → aopsQ P T l.toArray K l s) :
    AWP P (.region id l.toArray true) s Q := fun E ρ a w hr => by
  refine wp_region_quiet (C := fun w' => Below w.heap.size w w') hm hB ⟨rfl, rfl, rfl, Nat.le_refl _, fun _ _ => rfl⟩ (aopsQ_sound hT (fun s' a' hs hr' => ?_) _ s a (h _ fun _ hq => hq) hr)
  intro w' hb
  exact ⟨s', ρ, hr'.below hb, hs⟩
theorem AWP.cond {c : Operand} {b : Bool} (hc : valA s c = .d (.bool b)) (h1 : b = true → AWP P x s Q) (h2 : b = false → AWP P y s Q) : AWP P (.cond c x y) s Q := fun E ρ a w hr => by
  have h := valA_ok hr c
  rw [hc] at h
  generalize hu : a.eval c = u at h
  cases h with | d _ _ h => cases h with | bool _ =>
  cases b with
  | true => exact wp_cond_true hu (h1 rfl E ρ a w hr)
  | false => exact wp_cond_false hu (h2 rfl E ρ a w hr)
theorem AWP.block {id : Nat} (h : AWP P x s (blkA id (Q .normal) Q)) : AWP P (.block id x) s Q := fun E ρ a w hr => by
  refine wp_block (wpm (h E ρ a w hr) fun e a' w' hh => ?_)
  obtain ⟨s', ρ', hr', hq⟩ := hh
  cases e with
  | exit i =>
    simp only [blkA] at hq
    simp only [Exit.inBlock]
    split
    · rename_i hi; rw [if_pos hi] at hq; exact ⟨s', ρ', hr', hq⟩
    · rename_i hi; rw [if_neg hi] at hq; exact ⟨s', ρ', hr', hq⟩
  | _ => exact ⟨s', ρ', hr', hq⟩
theorem AWP.skip (h : Q .normal s) : AWP P .skip s Q := fun _ ρ _ _ hr => wp_skip ⟨s, ρ, hr, h⟩
theorem AWP.ret (h : Q .ret s) : AWP P .ret s Q := fun _ ρ _ _ hr => wp_ret ⟨s, ρ, hr, h⟩
theorem AWP.exit {id : Nat} (h : Q (.exit id) s) : AWP P (.exit id) s Q := fun _ ρ _ _ hr => wp_exit ⟨s, ρ, hr, h⟩
theorem thenA_n (h : N s) : thenA N Q .normal s := h
theorem thenA_r (h : Q .ret s) : thenA N Q .ret s := h
theorem thenA_e {i : Nat} (h : Q (.exit i) s) : thenA N Q (.exit i) s := h
theorem blkA_n {id : Nat} (h : N s) : blkA id N Q .normal s := h
theorem blkA_r {id : Nat} (h : Q .ret s) : blkA id N Q .ret s := h
theorem blkA_e {id : Nat} (h : N s) : blkA id N Q (.exit id) s := by simp only [blkA, if_true]; exact h
theorem zb {id i : Nat} (hi : i ≠ id) (h : Q (.exit i) s) : blkA id N Q (.exit i) s := by simp only [blkA, if_neg hi]; exact h
end
end Go.Proofs.YtainmipdnjcbkaaGreatDoor
