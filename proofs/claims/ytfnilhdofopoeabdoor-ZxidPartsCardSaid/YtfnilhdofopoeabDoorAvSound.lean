/- What the abstract walk shows of a function's code is so in the model. It holds over any program whose types read as the table says. -/
import Derived.Test.YtfnilhdofopoeabDoorAvWp
namespace Go.Proofs.YtfnilhdofopoeabDoor
set_option linter.unusedVariables false
set_option linter.unusedSimpArgs false
open Go Go.RowKit

section
variable {P : Program} {T : TypeId → TI} {E : Ent} {s : ASt} {ρ : List (Option (Nat × Nat))} {a : Act} {w : World}

theorem valA_ok (h : Rep E s ρ a w) (x : Operand) : RepV ρ (okB E ρ s.hp w) w (valA s x) (a.eval x) := by
  unfold valA
  split
  · exact h.env _
  · exact .d _ _ (.int _ _)
  · exact .d _ _ (.bool _)
  · rename_i b
    have : mkStr b.data.toList = .string b := by simp [mkStr]
    have h2 := RepD.str (ok := okB E ρ s.hp w) (w := w) b.data.toList
    rw [this] at h2
    exact .d _ _ h2
  · exact .d _ _ (.sc _ rfl)
  · exact .d _ _ (.sc _ rfl)
  · exact .d _ _ (.sc _ rfl)
  · exact .any _

theorem Rep.lt (_h : Rep E s ρ a w) : ∀ b, okB E ρ s.hp w b → b < w.heap.size := fun _ hb => hb.2.1

theorem pure_sound (hT : TabOk P T) (h : Rep E s ρ a w) (o : Oper) (hk : (apure T s.hp (valA s) o.op).ok) :
    ∃ u, RepV ρ (okB E ρ s.hp w) w (apure T s.hp (valA s) o.op).v u ∧ ∀ w', Below w.heap.size w w' → (execOp a.eval o).run P w' = .ok (.value u) w' :=
  let ⟨u, h1, h2⟩ := apure_sound hT h.lt h.heap.blks (valA_ok h) o hk
  ⟨u, h1, fun w' hb => h2 w' fun _ => hb⟩
/-- What looks at no memory has one value in every world. -/
theorem pure_still (hT : TabOk P T) (h : Rep E s ρ a w) (o : Oper) (hl : isLoad o.op = false) (hk : (apure T s.hp (valA s) o.op).ok) :
    ∃ u, RepV ρ (okB E ρ s.hp w) w (apure T s.hp (valA s) o.op).v u ∧ ∀ w', (execOp a.eval o).run P w' = .ok (.value u) w' :=
  let ⟨u, h1, h2⟩ := apure_sound hT h.lt h.heap.blks (valA_ok h) o hk
  ⟨u, h1, fun w' => h2 w' fun e => by rw [hl] at e; cases e⟩

theorem below_refl (w : World) : Below w.heap.size w w := ⟨rfl, rfl, rfl, Nat.le_refl _, fun _ _ => rfl⟩

theorem wanted_sound {ops : Array Oper} {o : Oper} {j : Nat} {want g : Bool} (h : Rep E s ρ a w) (hg : o.guard = some (j, want)) (ha : aguard want (dstAt ops s.env j) = some g) :
    Region.wanted o (yielded ops a.tmps) = g := by
  unfold dstAt at ha
  unfold Region.wanted yielded
  rw [hg]
  simp only
  cases hd : (ops[j]?).bind (·.dst) with
  | none => rw [hd] at ha; simp [aguard] at ha
  | some t =>
    rw [hd] at ha
    simp only at ha
    have hr := h.env t
    unfold aguard at ha
    split at ha
    · rename_i b e
      rw [e] at hr
      injection ha with ha
      generalize hu : a.tmps.getD t undef = u at hr
      cases hr with | d _ _ hr => cases hr with | bool _ =>
      have : a.tmps[t]? = some (.bool b) := by
        rw [Array.getD_eq_getD_getElem?] at hu
        cases hh : a.tmps[t]? with
        | none => rw [hh] at hu; simp [undef] at hu
        | some v => rw [hh] at hu; simp at hu; rw [hu]
      simp only [Option.bind_some, this]
      rw [← ha]
      cases b <;> cases want <;> rfl
    · rename_i g' b e
      rw [e] at hr
      injection ha with ha
      generalize hu : a.tmps.getD t undef = u at hr
      cases hr with | gd _ _ _ ht hf =>
      cases g' with
      | true =>
        have hr := ht rfl
        cases hr with | d _ _ hr => cases hr with | bool _ =>
        have : a.tmps[t]? = some (.bool b) := by
          rw [Array.getD_eq_getD_getElem?] at hu
          cases hh : a.tmps[t]? with
          | none => rw [hh] at hu; simp [undef] at hu
          | some v => rw [hh] at hu; simp at hu; rw [hu]
        simp only [Option.bind_some, this]
        rw [← ha]
        cases b <;> cases want <;> rfl
      | false =>
        have := hf rfl
        subst this
        rw [← ha]
        simp only [Option.bind_some, Bool.false_and]
        cases hh : a.tmps[t]? with
        | none => simp
        | some v =>
          rw [Array.getD_eq_getD_getElem?, hh] at hu
          simp at hu
          subst hu
          simp [undef]
    · cases ha

theorem run_callFunc {g : FuncId} (hg : goFn P g) (us : Array Value) (w : World) : (callFunc g us).run P w = .ok (.enter g us) w := by
  obtain ⟨fn, h1, h2, h3⟩ := hg
  have h3' : ¬ (fn.body.isNone = true) := by rw [h3]; simp
  simp only [callFunc, Sem.run_bind, run_program, Result.andThen_ok, h1]
  simp [h2, h3']

theorem run_callVal {f : Operand} {args : Array Operand} {ats : Array TypeId} {dst : Option Tmp} {ty : TypeId} {pos : String} {after : Array Edge} {guard : Option (Nat × Bool)} {g : FuncId} {us vs : Array Value}
    (hf : a.eval f = .func (.func g) us vs) (hg : goFn P g) (w' : World) :
    (execOp a.eval { dst, op := .call { callee := .value f, args, argTypes := ats }, type := ty, pos, after, guard }).run P w' = .ok (.enter g (us ++ args.map a.eval ++ vs)) w' := by
  simp only [execOp, resolve, hf, Deferred.ofValue, Sem.run_bind, Sem.run_pure, Result.andThen_ok, invoke]
  exact run_callFunc hg _ w'

theorem run_callVal' {f : Operand} {args : Array Operand} {ats : Array TypeId} {dst : Option Tmp} {ty : TypeId} {pos : String} {after : Array Edge} {guard : Option (Nat × Bool)} {g : FuncId} {us vs : Array Value}
    (hf : a.eval f = .func (.func g) us vs) (w' : World) :
    (execOp a.eval { dst, op := .call { callee := .value f, args, argTypes := ats }, type := ty, pos, after, guard }).run P w' = (callFunc g (us ++ args.map a.eval ++ vs)).run P w' := by
  simp only [execOp, resolve, hf, Deferred.ofValue, Sem.run_bind, Sem.run_pure, Result.andThen_ok, invoke]

theorem callee_ok {f : Operand} {g : FuncId} {first caps : List AV} (h : Rep E s ρ a w) (hg : gdok (valA s f)) (hc : acallee (strip (valA s f)) = some (g, first, caps)) :
    ∃ us vs : List Value, a.eval f = .func (.func g) us.toArray vs.toArray ∧ RepVs ρ (okB E ρ s.hp w) w first us ∧ RepVs ρ (okB E ρ s.hp w) w caps vs := by
  have hr := strip_ok (valA_ok h f) hg
  unfold acallee at hc
  split at hc
  · rename_i g' fi ca e
    rw [e] at hr
    split at hc
    · rename_i hz
      injection hc with hc
      injection hc with h1 h2
      injection h2 with h2 h3
      subst h1; subst h2; subst h3
      generalize hu : a.eval f = u at hr
      cases hr with | d _ _ hr => cases hr with | sc _ _ =>
      have e1 : fi = #[] := Array.eq_empty_of_size_eq_zero hz.1
      have e2 : ca = #[] := Array.eq_empty_of_size_eq_zero hz.2
      subst e1; subst e2
      exact ⟨[], [], rfl, ⟨rfl, by simp⟩, ⟨rfl, by simp⟩⟩
    · cases hc
  · rename_i g' fi ca e
    rw [e] at hr
    injection hc with hc
    injection hc with h1 h2
    injection h2 with h2 h3
    subst h1; subst h2; subst h3
    generalize hu : a.eval f = u at hr
    cases hr with | clo _ _ _ us vs hl hl' hr hr' => exact ⟨us, vs, rfl, ⟨hl, hr⟩, ⟨hl', hr'⟩⟩
  · cases hc

theorem repVs_append {ok : Nat → Prop} {xs ys : List AV} {us vs : List Value} (h1 : RepVs ρ ok w xs us) (h2 : RepVs ρ ok w ys vs) : RepVs ρ ok w (xs ++ ys) (us ++ vs) := by
  refine ⟨by simp [h1.1, h2.1], fun j x u hx hu => ?_⟩
  by_cases hj : j < xs.length
  · rw [List.getElem?_append_left hj] at hx
    rw [List.getElem?_append_left (by rw [h1.1]; exact hj)] at hu
    exact h1.2 j x u hx hu
  · rw [List.getElem?_append_right (by omega)] at hx
    rw [List.getElem?_append_right (by rw [h1.1]; omega), h1.1] at hu
    exact h2.2 _ x u hx hu

theorem args_ok (h : Rep E s ρ a w) {args : Array Operand} (hg : gdoks (args.toList.map (valA s))) : RepVs ρ (okB E ρ s.hp w) w (args.toList.map fun x => strip (valA s x)) (args.toList.map a.eval) := by
  refine ⟨by simp, fun j x u hx hu => ?_⟩
  rw [List.getElem?_map] at hx hu
  obtain ⟨q, hq, rfl⟩ := Option.map_eq_some_iff.1 hx
  rw [hq] at hu; simp at hu; subst hu
  exact strip_ok (valA_ok h q) (gdoks_get hg (j := j) (by rw [List.getElem?_map, hq]; rfl))

theorem callArgs_eq (us vs : List Value) (args : Array Operand) : us.toArray ++ args.map a.eval ++ vs.toArray = (us ++ args.toList.map a.eval ++ vs).toArray := by
  apply Array.ext'; simp

theorem put_step {hp' : List ABlk} {ρ' : List (Option (Nat × Nat))} {w' : World} {dst : Option Tmp} {v : AV} {u : Value} (h : Rep E s ρ a w) (hd : dstOk s.nt dst) (hs : HStep E ρ s.hp w ρ' hp' w')
    (hv : RepV ρ' (okB E ρ' hp' w') w' v u) : Rep E { s with env := aput s.env dst v, hp := hp' } ρ' (a.put dst u) w' :=
  (h.step hs).put hd hv

theorem astepM_sound (hT : TabOk P T) (h : Rep E s ρ a w) (o : Oper) {Q : Exit → Act → World → Prop} {KK : Act → World → Prop} {K : ASt → Prop} (hk : astepM P T s o.dst o.op K) (hd : dstOk s.nt o.dst)
    (hK : ∀ s' ρ' a' w', K s' → Rep E s' ρ' a' w' → KK a' w') : o.wp P a w KK Q := by
  obtain ⟨dst, op, ty, pos, after, guard⟩ := o
  simp only at hk hd hK
  unfold astepM at hk
  split at hk
  · rename_i t
    obtain ⟨h1, h2⟩ := hk
    obtain ⟨u, ⟨u', w', ρ', hr, hs, hv⟩, hrun⟩ := aalloc_sound hT h.heap t h1
    rcases hr with hr | ⟨hr, _⟩
    · injection hr with hr1 hr2
      injection hr1 with hr1
      subst hr1; subst hr2
      unfold Oper.wp
      simp only [execOp, Sem.run_bind, hrun, Result.andThen_ok, Sem.run_pure]
      exact hK _ _ _ _ h2 (put_step h hd hs hv)
    · cases hr
  · rename_i t x
    obtain ⟨h1, h2⟩ := hk
    obtain ⟨u, w', ⟨u', w2, ρ', hr, hs, hv⟩, hrun⟩ := abox_sound (P := P) h.heap t (valA s x) _ (valA_ok h x) h1
    rcases hr with hr | ⟨hr, _⟩
    · injection hr with hr1 hr2
      injection hr1 with hr1
      subst hr1; subst hr2
      unfold Oper.wp
      simp only [execOp, Sem.run_bind, hrun, Result.andThen_ok, Sem.run_pure]
      exact hK _ _ _ _ h2 (put_step h hd hs hv)
    · cases hr
  · rename_i t len parts
    obtain ⟨h0, hb, h1, h2⟩ := hk
    obtain ⟨hst, hlen, hparts⟩ := bsParts_sound h.heap h.np (ps := parts.toList.map fun p => (p.1, strip (valA s p.2))) (vs := parts.toList.map fun p => (p.1, a.eval p.2)) (by simp)
      (fun j x y hx hy => by
        rw [List.getElem?_map] at hx hy
        obtain ⟨q, hq, rfl⟩ := Option.map_eq_some_iff.1 hx
        rw [hq] at hy
        simp at hy
        subst hy
        exact ⟨rfl, strip_ok (valA_ok h q.2) (gdoks_get h0 (j := j) (by rw [List.getElem?_map, hq]; rfl))⟩) hb
    obtain ⟨u, w', ⟨u', w2, ρ', hr, hs, hv⟩, hrun⟩ := abuildSlice_sound (P := P) hT hst.heap t len _ (parts.toList.map fun p => (p.1, a.eval p.2)) hlen hparts h1
    have hs := hst.trans hs
    rcases hr with hr | ⟨hr, _⟩
    · injection hr with hr1 hr2
      injection hr1 with hr1
      subst hr1; subst hr2
      have e : (parts.toList.map fun p => (p.1, a.eval p.2)).toArray = parts.map fun (i, x) => (i, a.eval x) := by
        apply Array.ext'; simp
      rw [e] at hrun
      unfold Oper.wp
      simp only [execOp, Sem.run_bind, hrun, Result.andThen_ok, Sem.run_pure]
      exact hK _ _ _ _ h2 (put_step h hd hs hv)
    · cases hr
  · rename_i t x y
    obtain ⟨hg1, hg2, h1, h2⟩ := hk
    obtain ⟨u, w', ⟨u', w2, ρ', hr, hs, hv⟩, hrun⟩ := amake_sound (P := P) hT h.heap t _ _ _ _ (strip_ok (valA_ok h x) hg1) (strip_ok (valA_ok h y) hg2) h1
    rcases hr with hr | ⟨hr, _⟩
    · injection hr with hr1 hr2
      injection hr1 with hr1
      subst hr1; subst hr2
      unfold Oper.wp
      simp only [execOp, Sem.run_bind, hrun, Result.andThen_ok, Sem.run_pure]
      exact hK _ _ _ _ h2 (put_step h hd hs hv)
    · cases hr
  · rename_i t x y
    obtain ⟨hg1, hg2, h1, h2⟩ := hk
    obtain ⟨w', ⟨u', w2, ρ', hr, hs, hv⟩, hrun⟩ := astoreX_sound (P := P) hT h.heap t _ _ _ _ (strip_ok (valA_ok h x) hg1) (strip_ok (valA_ok h y) hg2) h1
    rcases hr with hr | ⟨hr, hu⟩
    · cases hr
    · injection hr with hr1 hr2
      subst hr2; subst hu
      unfold Oper.wp
      simp only [execOp, Sem.run_bind, hrun, Result.andThen_ok, Sem.run_pure]
      exact hK _ _ _ _ h2 (put_step h hd hs (.any _))
  · rename_i src dst' x
    obtain ⟨h1, h2⟩ := hk
    obtain ⟨u, w', ρ', hu, hs, hrun⟩ := aconvM_sound (P := P) hT h.heap (valA_ok h x) h1
    unfold Oper.wp
    simp only [execOp, Sem.run_bind, hrun, Result.andThen_ok, Sem.run_pure]
    exact hK _ _ _ _ h2 (put_step h hd hs hu)
  · rename_i t
    obtain ⟨_, h2⟩ := hk
    obtain ⟨u, w', ⟨u', w2, ρ', hr, hs, hv⟩, hrun⟩ := amakeMap_sound (P := P) h.heap t
    rcases hr with hr | ⟨hr, _⟩
    · injection hr with hr1 hr2
      injection hr1 with hr1
      subst hr1; subst hr2
      unfold Oper.wp
      simp only [execOp, Option.map_none, Sem.run_bind, hrun, Result.andThen_ok, Sem.run_pure]
      exact hK _ _ _ _ h2 (put_step h hd hs hv)
    · cases hr
  · rename_i t x k v
    obtain ⟨hg1, hg2, hg3, h1, h2⟩ := hk
    obtain ⟨w', ⟨u', w2, ρ', hr, hs, hv⟩, hrun⟩ := amapSet_sound (P := P) hT h.heap t _ _ _ _ _ _ (strip_ok (valA_ok h x) hg1) (strip_ok (valA_ok h k) hg2) (strip_ok (valA_ok h v) hg3) h1
    rcases hr with hr | ⟨hr, hu⟩
    · cases hr
    · injection hr with hr1 hr2
      subst hr2; subst hu
      unfold Oper.wp
      simp only [execOp, Sem.run_bind, hrun, Result.andThen_ok, Sem.run_pure]
      exact hK _ _ _ _ h2 (put_step h hd hs (.any _))
  · rename_i t x k
    obtain ⟨hg1, hg2, h1, h2⟩ := hk
    obtain ⟨u, hu, hrun⟩ := amapLook_sound (P := P) hT h.heap t _ _ _ _ (strip_ok (valA_ok h x) hg1) (strip_ok (valA_ok h k) hg2) h1
    unfold Oper.wp
    simp only [execOp, Sem.run_bind, hrun, Result.andThen_ok, Sem.run_pure]
    exact hK _ _ _ _ h2 (h.put hd hu)
  · rename_i args argTypes
    split at hk
    · rename_i x y t t' hx ht
      obtain ⟨hg1, hg2, h1, h2⟩ := hk
      have ea : args = #[x, y] := by apply Array.ext'; simpa using hx
      have et : argTypes = #[t, t'] := by apply Array.ext'; simpa using ht
      subst ea; subst et
      obtain ⟨u, w', ⟨u', w2, ρ', hr, hs, hv⟩, hrun⟩ := aappendF_sound (P := P) hT h.heap t t' ty _ _ _ _ (strip_ok (valA_ok h x) hg1) (strip_ok (valA_ok h y) hg2) h1
      rcases hr with hr | ⟨hr, _⟩
      · injection hr with hr1 hr2
        injection hr1 with hr1
        subst hr1; subst hr2
        unfold Oper.wp
        simp only [execOp, resolve, invoke, Go.builtin, Sem.run_bind, Sem.run_pure, Result.andThen_ok, List.map_toArray, List.map_cons, List.map_nil, hrun]
        exact hK _ _ _ _ h2 (put_step h hd hs hv)
      · cases hr
    · exact hk.elim
  · rename_i args argTypes
    split at hk
    · rename_i x y t t' hx ht
      obtain ⟨hg1, hg2, hns, h1, h2⟩ := hk
      have ea : args = #[x, y] := by apply Array.ext'; simpa using hx
      have et : argTypes = #[t, t'] := by apply Array.ext'; simpa using ht
      subst ea; subst et
      obtain ⟨u, w', ⟨u', w2, ρ', hr, hs, hv⟩, hrun⟩ := acopy_sound (P := P) hT h.heap t t' ty _ _ _ _ (strip_ok (valA_ok h x) hg1) (strip_ok (valA_ok h y) hg2) (fun l e => by rw [e] at hns; simp at hns) h1
      rcases hr with hr | ⟨hr, _⟩
      · injection hr with hr1 hr2
        injection hr1 with hr1
        subst hr1; subst hr2
        unfold Oper.wp
        simp only [execOp, resolve, invoke, Go.builtin, Sem.run_bind, Sem.run_pure, Result.andThen_ok, List.map_toArray, List.map_cons, List.map_nil, hrun]
        exact hK _ _ _ _ h2 (put_step h hd hs hv)
      · cases hr
    · exact hk.elim
  · rename_i args argTypes
    split at hk
    · rename_i x t hx ht
      obtain ⟨hg1, h1, h2⟩ := hk
      have ea : args = #[x] := by apply Array.ext'; simpa using hx
      have et : argTypes = #[t] := by apply Array.ext'; simpa using ht
      subst ea; subst et
      obtain ⟨u, w', ⟨u', w2, ρ', hr, hs, hv⟩, hrun⟩ := aclear_sound (P := P) hT h.heap t ty _ _ (strip_ok (valA_ok h x) hg1) h1
      rcases hr with hr | ⟨hr, _⟩
      · injection hr with hr1 hr2
        injection hr1 with hr1
        subst hr1; subst hr2
        unfold Oper.wp
        simp only [execOp, resolve, invoke, Go.builtin, Sem.run_bind, Sem.run_pure, Result.andThen_ok, List.map_toArray, List.map_cons, List.map_nil, hrun]
        exact hK _ _ _ _ h2 (put_step h hd hs hv)
      · cases hr
    · exact hk.elim
  · rename_i f args ats
    split at hk
    · rename_i g first caps hc
      obtain ⟨hg, hgs, hcall⟩ := hk
      obtain ⟨us, vs, hf, hus, hvs⟩ := callee_ok h hg hc
      have hargs := repVs_append (repVs_append hus (args_ok h hgs)) hvs
      rcases hcall with ⟨hgo, hcall⟩ | ⟨v, hext, hKv⟩
      · have := hcall E ρ w _ h.np h.heap hargs
        unfold Oper.wp
        rw [run_callVal hf hgo, callArgs_eq]
        refine this.mono fun e w' hh => ?_
        obtain ⟨u, v, hp', ρ', rfl, hKv, hs, hv⟩ := hh
        exact hK _ _ _ _ hKv (put_step h hd hs hv)
      · obtain ⟨u, hu, hrun⟩ := hext E ρ w _ h.heap hargs
        unfold Oper.wp
        rw [run_callVal' hf, callArgs_eq, hrun w (below_refl w)]
        exact hK _ _ _ _ hKv (h.put hd hu)
    · exact hk.elim
  · exact hk.elim

theorem nilLen_ok (hT : TabOk P T) {ok : Nat → Prop} {t : TypeId} {v : AV} {u : Value} {n : Nat} (hv : RepV ρ ok w v u) (h : nilLen (T t) v = some n) :
    ∃ A l c, u = .slice A l c ∧ (0 < n → A.isNone = false) ∧ ∃ e, P.underlying t = some (.slice e) := by
  unfold nilLen at h
  split at h
  · rename_i e sz rows hk
    injection h with h
    subst h
    cases hv with | d _ _ hv => cases hv with | sl _ _ A cap u hcap hsz hc hr =>
    refine ⟨A, _, _, rfl, fun hp => ?_, e, und_slice hT hk⟩
    obtain ⟨b, o, rfl, _⟩ := hc hp
    rfl
  · rename_i e k sz off n' hk
    injection h with h
    subst h
    cases hv with
    | osl _ _ _ _ b m cap _ _ _ => exact ⟨_, _, _, rfl, fun _ => rfl, e, und_slice hT hk⟩
    | oslnil _ _ A _ => exact ⟨_, _, _, rfl, fun hp => by omega, e, und_slice hT hk⟩
  · rename_i e hk
    injection h with h
    subst h
    cases hv with | d _ _ hv =>
    obtain ⟨A, rfl⟩ := sc_nil hv
    exact ⟨_, _, _, rfl, fun hp => by omega, e, und_slice hT hk⟩
  · cases h

theorem run_nilCmp (w' : World) {t e : TypeId} (ht : P.underlying t = some (.slice e)) (A : Option Addr) (l c : Nat) :
    (Go.binOp .eql t (.slice A l c) (.slice none 0 0)).run P w' = .ok (.bool A.isNone) w' ∧ (Go.binOp .neq t (.slice A l c) (.slice none 0 0)).run P w' = .ok (.bool !A.isNone) w' := by
  have h : ∀ d : Nat, (Op.equalIn (d + 1) t (.slice A l c) (.slice none 0 0)).run P w' = .ok A.isNone w' := fun d => by
    cases A <;> simp [Op.equalIn, run_underlying ht]
  have h2 : (Op.equal t (.slice A l c) (.slice none 0 0)).run P w' = .ok A.isNone w' := h 9999
  exact ⟨by simp [Go.binOp, h2], by simp [Go.binOp, h2]⟩

/-- A slice compared with nil. -/
theorem nilCmp_ok (hT : TabOk P T) (h : Rep E s ρ a w) {o : Oper} {neg : Bool} {n : Nat} (hc : nilCmp T (valA s) o.op = some (neg, n)) :
    ∃ b : Bool, (0 < n → b = false) ∧ ∀ w', (execOp a.eval o).run P w' = .ok (.value (.bool (b != neg))) w' := by
  obtain ⟨dst, op, ty, pos, after, guard⟩ := o
  simp only at hc
  unfold nilCmp at hc
  split at hc
  · rename_i t x tt
    obtain ⟨n', hn, he⟩ := Option.map_eq_some_iff.1 hc
    injection he with he1 he2
    subst he1; subst he2
    obtain ⟨A, l, c, hu, hA, e, ht⟩ := nilLen_ok hT (valA_ok h x) hn
    exact ⟨A.isNone, hA, fun w' => by
      have hc2 : a.eval (.const (.slice none 0 0)) = .slice none 0 0 := rfl
      simp [execOp, hu, hc2, eqGuard, (run_nilCmp (P := P) w' ht A l c).1]⟩
  · rename_i t x tt
    obtain ⟨n', hn, he⟩ := Option.map_eq_some_iff.1 hc
    injection he with he1 he2
    subst he1; subst he2
    obtain ⟨A, l, c, hu, hA, e, ht⟩ := nilLen_ok hT (valA_ok h x) hn
    exact ⟨A.isNone, hA, fun w' => by
      have hc2 : a.eval (.const (.slice none 0 0)) = .slice none 0 0 := rfl
      simp [execOp, hu, hc2, eqGuard, (run_nilCmp (P := P) w' ht A l c).2]⟩
  · cases hc

theorem astep0_sound (hT : TabOk P T) (h : Rep E s ρ a w) {ops : Array Oper} (o : Oper) {Q : Exit → Act → World → Prop} {KK : Act → World → Prop} {K : ASt → Prop} (hk : astep0 P T ops s o K)
    (hK : ∀ s' ρ' a' w', K s' → Rep E s' ρ' a' w' → KK a' w') :
    if Region.wanted o (yielded ops a.tmps) then o.wp P a w KK Q ∨ (o.asks P a w ∧ LetsOut Q) else KK (a.put o.dst undef) w := by
  unfold astep0 at hk
  split at hk
  · rename_i hg
    rw [if_pos (by simp [Region.wanted, hg])]
    left
    split at hk
    · obtain ⟨h1, h2, h3⟩ := hk
      obtain ⟨u, hu, hrun⟩ := pure_sound hT h o h1
      unfold Oper.wp
      rw [hrun w (below_refl w)]
      exact hK _ _ _ _ h3 (h.put h2 hu)
    · obtain ⟨h1, h2⟩ := hk
      exact astepM_sound hT h o h2 h1 hK
  · rename_i j want hg
    split at hk
    · exact hk.elim
    · rename_i g ha
      have hw := wanted_sound h hg ha
      split at hk
      · obtain ⟨h1, h2, h3⟩ := hk
        cases hgb : g with
        | true =>
          rw [if_pos (by rw [hw, hgb])]
          left
          obtain ⟨u, hu, hrun⟩ := pure_sound hT h o (h1 hgb)
          unfold Oper.wp
          rw [hrun w (below_refl w)]
          exact hK _ _ _ _ h3 (h.put h2 (.gd _ _ _ (fun _ => hu) (fun e => by rw [hgb] at e; cases e)))
        | false =>
          rw [if_neg (by rw [hw, hgb]; simp)]
          exact hK _ _ _ _ h3 (h.put h2 (.gd _ _ _ (fun e => by rw [hgb] at e; cases e) (fun _ => rfl)))
      · obtain ⟨h1, h2, h3⟩ := hk
        cases hgb : g with
        | true =>
          rw [if_pos (by rw [hw, hgb])]
          left
          exact astepM_sound hT h o (h2 hgb) h1 hK
        | false =>
          rw [if_neg (by rw [hw, hgb]; simp)]
          exact hK _ _ _ _ (h3 hgb) (h.put h1 (.gd _ _ _ (fun e => by cases e) (fun _ => rfl)))

theorem astep_sound (hT : TabOk P T) (h : Rep E s ρ a w) {ops : Array Oper} (o : Oper) {Q : Exit → Act → World → Prop} {KK : Act → World → Prop} {K : ASt → Prop} (hk : astep P T ops s o K)
    (hK : ∀ s' ρ' a' w', K s' → Rep E s' ρ' a' w' → KK a' w') :
    if Region.wanted o (yielded ops a.tmps) then o.wp P a w KK Q ∨ (o.asks P a w ∧ LetsOut Q) else KK (a.put o.dst undef) w := by
  unfold astep at hk
  split at hk
  · rename_i neg n hc
    obtain ⟨b, hb, hrun⟩ := nilCmp_ok hT h hc
    unfold anilCmp at hk
    split at hk
    · rename_i hg
      rw [if_pos (by simp [Region.wanted, hg])]
      left
      unfold Oper.wp
      rw [hrun w]
      exact hK _ _ _ _ (hk.2 b hb) (h.put hk.1 (.d _ _ (.bool _)))
    · rename_i j want hg
      split at hk
      · exact hk.elim
      · rename_i g ha
        have hw := wanted_sound h hg ha
        cases hgb : g with
        | true =>
          rw [if_pos (by rw [hw, hgb])]
          left
          unfold Oper.wp
          rw [hrun w]
          exact hK _ _ _ _ (hk.2 b hb) (h.put hk.1 (.gd _ _ _ (fun _ => .d _ _ (.bool _)) (fun e => by rw [hgb] at e; cases e)))
        | false =>
          rw [if_neg (by rw [hw, hgb]; simp)]
          exact hK _ _ _ _ (hk.2 b hb) (h.put hk.1 (.gd _ _ _ (fun e => by rw [hgb] at e; cases e) (fun _ => rfl)))
  · exact astep0_sound hT h o hk hK

theorem aops_sound (hT : TabOk P T) {ops : Array Oper} {Q : Exit → Act → World → Prop} {K : ASt → Prop} (hK : ∀ s' ρ' a' w', K s' → Rep E s' ρ' a' w' → Q .normal a' w') :
    ∀ (l : List Oper) (s : ASt) (ρ : List (Option (Nat × Nat))) (a : Act) (w : World), aops P T ops K l s → Rep E s ρ a w → wpList P ops Q l a w
  | [], s, ρ, a, w, hk, h => hK _ _ _ _ hk h
  | o :: r, s, ρ, a, w, hk, h => astep_sound hT h o hk fun s' ρ' a' w' hs hr => aops_sound hT hK r s' ρ' a' w' hs hr

/-- One value in every world that has grown out of this one, and nothing left behind. -/
def quietG (P : Program) (o : Oper) (a : Act) (w : World) (KK : Act → Prop) : Prop := ∃ v, (∀ w', Below w.heap.size w w' → o.quietAt P a (fun w'' => Below w'.heap.size w' w'') w' v) ∧ KK (a.put o.dst v)
theorem quietUpon_mono {C C' : World → Prop} {w : World} {v : Value} {r : Result Next} (hC : ∀ w, C w → C' w) (h : Oper.quietUpon P C w v r) : Oper.quietUpon P C' w v r := by
  match r with
  | .ok (.value u) w' => exact h
  | .ok .skip w' => exact h
  | .ok (.enter f args) w' => exact ⟨h.1, h.2.mono fun e w'' ⟨h1, h2⟩ => ⟨h1, hC _ h2⟩⟩
  | .ok (.defer _) _ => exact h
  | .ok (.row _ _) _ => exact h
  | .halt _ _ => exact h
/-- One operation in a region whose order is open: one value in every world that has grown out of this one. -/
theorem astepQ0_soundG (hT : TabOk P T) (h : Rep E s ρ a w) {ops : Array Oper} (o : Oper) {KK : Act → Prop} {K : ASt → Prop} (hk : astepQ0 P T ops s o K)
    (hK : ∀ s' a', K s' → Rep E s' ρ a' w → KK a') :
    if Region.wanted o (yielded ops a.tmps) then quietG P o a w KK else KK (a.put o.dst undef) := by
  have hpure : ∀ (dstv : AV → AV), (apure T s.hp (valA s) o.op).ok → dstOk s.nt o.dst → (∀ u, RepV ρ (okB E ρ s.hp w) w (apure T s.hp (valA s) o.op).v u → RepV ρ (okB E ρ s.hp w) w (dstv (apure T s.hp (valA s) o.op).v) u) →
      K { s with env := aput s.env o.dst (dstv (apure T s.hp (valA s) o.op).v) } → quietG P o a w KK := by
    intro dstv h1 h2 h3 h4
    obtain ⟨u, hu, hrun⟩ := pure_sound hT h o h1
    exact ⟨u, fun w' hb => by unfold Oper.quietAt; rw [hrun w' hb]; exact ⟨rfl, rfl⟩, hK _ _ h4 (h.put h2 (h3 u hu))⟩
  have hcall : ∀ (f : Operand) (args : Array Operand) (ats : Array TypeId) (g : FuncId) (first caps : List AV) (v : AV), o.op = .call { callee := .value f, args, argTypes := ats } → acallee (strip (valA s f)) = some (g, first, caps) →
      gdok (valA s f) → gdoks (args.toList.map (valA s)) → dstOk s.nt o.dst → (acallQ P s.hp g (first ++ args.toList.map (fun x => strip (valA s x)) ++ caps) v ∨ aextQ P s.hp g (first ++ args.toList.map (fun x => strip (valA s x)) ++ caps) v) → K { s with env := aput s.env o.dst v } → quietG P o a w KK := by
    intro f args ats g first caps v ho hc hg hgs hd hq hv
    obtain ⟨us, vs, hf, hus, hvs⟩ := callee_ok h hg hc
    have hargs := repVs_append (repVs_append hus (args_ok h hgs)) hvs
    rcases hq with hq | hq
    rotate_left
    · obtain ⟨u, hu, hrun⟩ := hq E ρ w _ h.heap hargs
      refine ⟨u, fun w' hb => ?_, hK _ _ hv (h.put hd hu)⟩
      obtain ⟨dst, op, ty, pos, after, guard⟩ := o
      simp only at ho
      subst ho
      unfold Oper.quietAt
      rw [run_callVal' hf, callArgs_eq, hrun w' hb]
      exact ⟨rfl, rfl⟩
    obtain ⟨u, hu, hrun⟩ := hq.2 E ρ w _ h.heap hargs
    refine ⟨u, fun w' hb => ?_, hK _ _ hv (h.put hd hu)⟩
    obtain ⟨dst, op, ty, pos, after, guard⟩ := o
    simp only at ho
    subst ho
    unfold Oper.quietAt
    rw [run_callVal hf hq.1, callArgs_eq]
    exact ⟨rfl, hrun w' hb⟩
  have hconv : ∀ (src dst : TypeId) (x : Operand) (dstv : AV → AV), o.op = .convert src dst x → (aconvX T s.hp src dst (valA s x)).ok → dstOk s.nt o.dst →
      (∀ u, RepV ρ (okB E ρ s.hp w) w (aconvX T s.hp src dst (valA s x)).v u → RepV ρ (okB E ρ s.hp w) w (dstv (aconvX T s.hp src dst (valA s x)).v) u) →
      K { s with env := aput s.env o.dst (dstv (aconvX T s.hp src dst (valA s x)).v) } → quietG P o a w KK := by
    intro src dst x dstv ho h1 h2 h3 h4
    obtain ⟨u, hu, hrun⟩ := aconvX_sound (P := P) hT h.heap.blks (fun b hb => hb.2.1) (valA_ok h x) h1
    refine ⟨u, fun w' hb => ?_, hK _ _ h4 (h.put h2 (h3 u hu))⟩
    obtain ⟨dst', op, ty, pos, after, guard⟩ := o
    simp only at ho
    subst ho
    unfold Oper.quietAt
    simp only [execOp, Sem.run_bind, hrun w' hb, Result.andThen_ok, Sem.run_pure]
    exact ⟨rfl, rfl⟩
  unfold astepQ0 at hk
  split at hk
  · rename_i hg
    rw [if_pos (by simp [Region.wanted, hg])]
    split at hk
    · obtain ⟨h1, h2, h3⟩ := hk
      exact hpure id h1 h2 (fun _ hu => hu) h3
    · split at hk
      · rename_i src dst x ho
        obtain ⟨h1, h2, h3⟩ := hk
        exact hconv src dst x id ho h1 h2 (fun _ hu => hu) h3
      · rename_i f args ats ho
        split at hk
        · rename_i g first caps hc
          obtain ⟨h1, h2, h3, v, h4, h5⟩ := hk
          exact hcall f args ats g first caps v ho hc h1 h2 h3 h4 h5
        · exact hk.elim
      · exact hk.elim
  · rename_i j want hg
    split at hk
    · exact hk.elim
    · rename_i g ha
      have hw := wanted_sound h hg ha
      split at hk
      · obtain ⟨h1, h2, h3⟩ := hk
        cases hgb : g with
        | true =>
          rw [if_pos (by rw [hw, hgb])]
          exact hpure (.gd g) (h1 hgb) h2 (fun u hu => .gd _ _ _ (fun _ => hu) (fun e => by rw [hgb] at e; cases e)) h3
        | false =>
          rw [if_neg (by rw [hw, hgb]; simp)]
          exact hK _ _ h3 (h.put h2 (.gd _ _ _ (fun e => by rw [hgb] at e; cases e) (fun _ => rfl)))
      · split at hk
        · rename_i f args ats ho
          split at hk
          · rename_i g' first caps hc
            obtain ⟨h3, h6, h7⟩ := hk
            cases hgb : g with
            | true =>
              rw [if_pos (by rw [hw, hgb])]
              obtain ⟨h1, h2, v, h4, h5⟩ := h6 hgb
              exact hcall f args ats g' first caps v ho hc h1 h2 h3 h4 h5
            | false =>
              rw [if_neg (by rw [hw, hgb]; simp)]
              exact hK _ _ (h7 hgb) (h.put h3 (.gd _ _ _ (fun e => by cases e) (fun _ => rfl)))
          · exact hk.elim
        · rename_i src dst x ho
          obtain ⟨h1, h2, h3⟩ := hk
          cases hgb : g with
          | true =>
            rw [if_pos (by rw [hw, hgb])]
            exact hconv src dst x (.gd g) ho (h1 hgb) h2 (fun u hu => .gd _ _ _ (fun _ => hu) (fun e => by rw [hgb] at e; cases e)) h3
          | false =>
            rw [if_neg (by rw [hw, hgb]; simp)]
            exact hK _ _ h3 (h.put h2 (.gd _ _ _ (fun e => by rw [hgb] at e; cases e) (fun _ => rfl)))
        · exact hk.elim

theorem astepQ_soundG (hT : TabOk P T) (h : Rep E s ρ a w) {ops : Array Oper} (o : Oper) {KK : Act → Prop} {K : ASt → Prop} (hk : astepQ P T ops s o K)
    (hK : ∀ s' a', K s' → Rep E s' ρ a' w → KK a') :
    if Region.wanted o (yielded ops a.tmps) then quietG P o a w KK else KK (a.put o.dst undef) := by
  unfold astepQ at hk
  split at hk
  · rename_i neg n hc
    obtain ⟨b, hb, hrun⟩ := nilCmp_ok hT h hc
    unfold anilCmp at hk
    split at hk
    · rename_i hg
      rw [if_pos (by simp [Region.wanted, hg])]
      exact ⟨_, fun w' hbw => by unfold Oper.quietAt; rw [hrun w']; exact ⟨rfl, rfl⟩, hK _ _ (hk.2 b hb) (h.put hk.1 (.d _ _ (.bool _)))⟩
    · rename_i j want hg
      split at hk
      · exact hk.elim
      · rename_i g ha
        have hw := wanted_sound h hg ha
        cases hgb : g with
        | true =>
          rw [if_pos (by rw [hw, hgb])]
          exact ⟨_, fun w' hbw => by unfold Oper.quietAt; rw [hrun w']; exact ⟨rfl, rfl⟩, hK _ _ (hk.2 b hb) (h.put hk.1 (.gd _ _ _ (fun _ => .d _ _ (.bool _)) (fun e => by rw [hgb] at e; cases e)))⟩
        | false =>
          rw [if_neg (by rw [hw, hgb]; simp)]
          exact hK _ _ (hk.2 b hb) (h.put hk.1 (.gd _ _ _ (fun e => by rw [hgb] at e; cases e) (fun _ => rfl)))
  · exact astepQ0_soundG hT h o hk hK

theorem astepQ_sound (hT : TabOk P T) (h : Rep E s ρ a w) {ops : Array Oper} (o : Oper) {KK : Act → Prop} {K : ASt → Prop} (hk : astepQ P T ops s o K)
    (hK : ∀ s' a', K s' → Rep E s' ρ a' w → KK a') :
    if Region.wanted o (yielded ops a.tmps) then o.quiet P a (fun w' => Below w.heap.size w w') KK else KK (a.put o.dst undef) := by
  have := astepQ_soundG hT h o hk hK
  split at this
  · rename_i hw
    rw [if_pos hw]
    obtain ⟨v, h1, h2⟩ := this
    exact ⟨v, fun w' hb => quietUpon_mono (fun w'' h2 => ⟨h2.os.trans hb.os, h2.tape.trans hb.tape, h2.output.trans hb.output, Nat.le_trans hb.size h2.size, fun k hk => (h2.block k (Nat.lt_of_lt_of_le hk hb.size)).trans (hb.block k hk)⟩) (h1 w' hb), h2⟩
  · rename_i hw
    rw [if_neg hw]; exact this

theorem aopsQ_sound (hT : TabOk P T) {ops : Array Oper} {K : ASt → Prop} {KK : Act → Prop} (hK : ∀ s' a', K s' → Rep E s' ρ a' w → KK a') :
    ∀ (l : List Oper) (s : ASt) (a : Act), aopsQ P T ops K l s → Rep E s ρ a w → wpQuiet P ops (fun w' => Below w.heap.size w w') KK l a
  | [], s, a, hk, h => hK _ _ hk h
  | o :: r, s, a, hk, h => astepQ_sound hT h o hk fun s' a' hs hr => aopsQ_sound hT hK r s' a' hs hr

theorem wpm {P : Program} {c : Code} {a : Act} {w : World} {Q Q' : Exit → Act → World → Prop} (h : c.wp P Q a w) (hq : ∀ e a w, Q e a w → Q' e a w) : c.wp P Q' a w :=
  fun b k cs => let ⟨e, a', w', q, arr⟩ := h b k cs; ⟨e, a', w', hq _ _ _ q, arr⟩

/-- **The abstract walk's word is kept.** -/
theorem awp_sound (hm : P.follows .mixedOrders = true) (hT : TabOk P T) : ∀ (c : Code) (s : ASt) (Q : Exit → ASt → Prop) (ρ : List (Option (Nat × Nat))) (a : Act) (w : World), awp P T c s Q → Rep E s ρ a w →
    c.wp P (fun e a' w' => ∃ s' ρ', Rep E s' ρ' a' w' ∧ Q e s') a w
  | .skip, s, Q, ρ, a, w, hk, h => wp_skip ⟨s, ρ, h, hk⟩
  | .region id ops draw, s, Q, ρ, a, w, hk, h => by
    cases draw with
    | false =>
      simp only [awp] at hk
      exact wp_region_list (aops_sound hT (fun s' ρ' a' w' hs hr => ⟨s', ρ', hr, hs⟩) _ s ρ a w hk h)
    | true =>
      simp only [awp] at hk
      split at hk
      · obtain ⟨hB, hk⟩ := hk
        refine wp_region_quiet (C := fun w' => Below w.heap.size w w') hm hB ⟨rfl, rfl, rfl, Nat.le_refl _, fun _ _ => rfl⟩ (aopsQ_sound hT (fun s' a' hs hr => ?_) _ s a hk h)
        intro w' hb
        exact ⟨s', ρ, hr.below hb, hs⟩
      · exact hk E ρ a w h
  | .seq x y, s, Q, ρ, a, w, hk, h => by
    simp only [awp] at hk
    refine wp_seq (wpm (awp_sound hm hT x s _ ρ a w hk h) fun e a' w' hh => ?_)
    obtain ⟨s', ρ', hr, hq⟩ := hh
    cases e with
    | normal => exact awp_sound hm hT y s' Q ρ' a' w' hq hr
    | _ => exact ⟨s', ρ', hr, hq⟩
  | .cond c x y, s, Q, ρ, a, w, hk, h => by
    simp only [awp] at hk
    have hr := valA_ok h c
    unfold acond at hk
    split at hk
    · rename_i b e
      rw [e] at hr
      generalize hu : a.eval c = u at hr
      cases hr with | d _ _ hr => cases hr with | bool _ =>
      cases b with
      | true => exact wp_cond_true hu (awp_sound hm hT x s Q ρ a w (hk.1 rfl) h)
      | false => exact wp_cond_false hu (awp_sound hm hT y s Q ρ a w (hk.2 rfl) h)
    · exact hk.elim
  | .block id c, s, Q, ρ, a, w, hk, h => by
    simp only [awp] at hk
    refine wp_block (wpm (awp_sound hm hT c s _ ρ a w hk h) fun e a' w' hh => ?_)
    obtain ⟨s', ρ', hr, hq⟩ := hh
    cases e with
    | exit i =>
      dsimp only at hq
      simp only [Exit.inBlock]
      split
      · rename_i hi; rw [if_pos hi] at hq; exact ⟨s', ρ', hr, hq⟩
      · rename_i hi; rw [if_neg hi] at hq; exact ⟨s', ρ', hr, hq⟩
    | _ => exact ⟨s', ρ', hr, hq⟩
  | .loop c, s, Q, ρ, a, w, hk, h => hk E ρ a w h
  | .exit id, s, Q, ρ, a, w, hk, h => wp_exit ⟨s, ρ, h, hk⟩
  | .ret, s, Q, ρ, a, w, hk, h => wp_ret ⟨s, ρ, h, hk⟩
  | .scope _, _, _, ρ, a, w, hk, h => hk E ρ a w h
  | .rangeFunc _ _ _ _, _, _, ρ, a, w, hk, h => hk E ρ a w h
  | .label _, _, _, ρ, a, w, hk, h => hk E ρ a w h
  | .goto _, _, _, ρ, a, w, hk, h => hk E ρ a w h
  | .refuse _, _, _, ρ, a, w, hk, h => hk E ρ a w h

theorem AWP.calc (hm : P.follows .mixedOrders = true) (hT : TabOk P T) {c : Code} {s : ASt} {Q : Exit → ASt → Prop} (h : awp P T c s Q) : AWP P c s Q :=
  fun _ ρ a w hr => awp_sound hm hT c s Q ρ a w h hr

/-- One state's knowledge holds wherever another's does. -/
def SImp (s s' : ASt) : Prop := ∀ (E : Ent) (ρ : List (Option (Nat × Nat))) (a : Act) (w : World), Rep E s ρ a w → ∃ ρ', Rep E s' ρ' a w

theorem SImp.refl (s : ASt) : SImp s s := fun _ ρ _ _ h => ⟨ρ, h⟩
theorem SImp.trans {s s' s2 : ASt} (h : SImp s s') (h2 : SImp s' s2) : SImp s s2 := fun E ρ a w hr => by
  obtain ⟨ρ', hr'⟩ := h E ρ a w hr
  exact h2 E ρ' a w hr'

theorem AWP.weaken {c : Code} {s s' : ASt} {Q : Exit → ASt → Prop} (hs : SImp s s') (h : AWP P c s' Q) : AWP P c s Q := fun E ρ a w hr => by
  obtain ⟨ρ', hr'⟩ := hs E ρ a w hr
  exact h E ρ' a w hr'

theorem AWP.mono {c : Code} {s : ASt} {Q Q' : Exit → ASt → Prop} (h : AWP P c s Q) (hq : ∀ e s', Q e s' → Q' e s') : AWP P c s Q' := fun E ρ a w hr =>
  wpm (h E ρ a w hr) fun e _ _ ⟨s', ρ', h1, h2⟩ => ⟨s', ρ', h1, hq e s' h2⟩

/-- What is asked at the end of a piece that other code follows. -/
def thenA (N : ASt → Prop) (Q : Exit → ASt → Prop) : Exit → ASt → Prop
  | .normal, s => N s
  | e, s => Q e s

theorem AWP.seq {x y : Code} {s : ASt} {Q : Exit → ASt → Prop} (h : AWP P x s (thenA (fun s' => AWP P y s' Q) Q)) : AWP P (.seq x y) s Q := fun E ρ a w hr => by
  refine wp_seq (wpm (h E ρ a w hr) fun e a' w' hh => ?_)
  obtain ⟨s', ρ', hr', hq⟩ := hh
  cases e with
  | normal => exact hq E ρ' a' w' hr'
  | _ => exact ⟨s', ρ', hr', hq⟩

/-- The ways through a piece meet again. -/
theorem AWP.cut {x y : Code} {s : ASt} {Q : Exit → ASt → Prop} {ι : Type} (st : ι → ASt) (h1 : AWP P x s (thenA (fun s' => ∃ i, SImp s' (st i)) Q)) (h2 : ∀ i, AWP P y (st i) Q) : AWP P (.seq x y) s Q :=
  AWP.seq (h1.mono fun e s' hq => by
    cases e with
    | normal => obtain ⟨i, hi⟩ := hq; exact AWP.weaken hi (h2 i)
    | _ => exact hq)

/-- A loop: a state for each of its rounds, and a number that falls. -/
theorem AWP.loop {ι : Type} {c : Code} {s : ASt} {Q : Exit → ASt → Prop} (μ : ι → Nat) (st : ι → ASt) (h0 : ∃ i, SImp s (st i))
    (round : ∀ i, AWP P c (st i) (thenA (fun s' => ∃ j, μ j < μ i ∧ SImp s' (st j)) Q)) : AWP P (.loop c) s Q := fun E ρ a w hr => by
  have key : ∀ (n : Nat) (a : Act) (w : World), (∃ i ρ, μ i < n ∧ Rep E (st i) ρ a w) → Code.rounds P c (fun e a' w' => ∃ s' ρ', Rep E s' ρ' a' w' ∧ Q e s') n a w := by
    intro n
    induction n with
    | zero => intro a w ⟨i, _, hk, _⟩; omega
    | succ n ih =>
      intro a w ⟨i, ρ, hk, hr⟩
      rw [rounds_succ]
      refine wpm (round i E ρ a w hr) fun e a' w' hh => ?_
      obtain ⟨s', ρ', hr', hq⟩ := hh
      cases e with
      | normal =>
        obtain ⟨j, hj, hs⟩ := hq
        obtain ⟨ρ2, hr2⟩ := hs E ρ' a' w' hr'
        exact ih a' w' ⟨j, ρ2, by omega, hr2⟩
      | _ => exact ⟨s', ρ', hr', hq⟩
  obtain ⟨i, hi⟩ := h0
  obtain ⟨ρ', hr'⟩ := hi E ρ a w hr
  exact wp_loop_rounds (μ i + 1) (key (μ i + 1) a w ⟨i, ρ', by omega, hr'⟩)
end
end Go.Proofs.YtfnilhdofopoeabDoor
