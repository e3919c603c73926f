/- Functions: how a contract is shown, and how it is used; what may be forgotten of a state. It holds over any program whose types read as the table says. -/
import Derived.Test.YtfnilhdofopoeabDoorAvGrow
namespace Go.Proofs.YtfnilhdofopoeabDoor
set_option linter.unusedVariables false
set_option linter.unusedSimpArgs false
open Go Go.RowKit

section
variable {P : Program} {T : TypeId → TI} {E : Ent} {s : ASt} {ρ ρ' : List (Option (Nat × Nat))} {a : Act} {w w' : World} {hp : List ABlk}

/-! ### A function's end -/

/-- What is handed back, of what a state knows. -/
def ares1 (T : TypeId → TI) (s : ASt) : ResultVar → PR
  | .tmp t => ⟨gdok (aget s.env t), strip (aget s.env t)⟩
  | .cell t ty => g1 (aget s.env t) (aload (T ty) s.hp)
def aresL (T : TypeId → TI) (s : ASt) : List ResultVar → Prop × List AV
  | [] => (True, [])
  | r :: l => ((ares1 T s r).ok ∧ (aresL T s l).1, (ares1 T s r).v :: (aresL T s l).2)
def tupOf : List AV → AV
  | [x] => x
  | l => .tup l

/-- From the last state to what is told of the result. -/
def AOut (np : Nat) (hp : List ABlk) (v : AV) (R : AV → List ABlk → Prop) : Prop :=
  ∀ (E : Ent) (ρ : List (Option (Nat × Nat))) (w : World) (u : Value), E.ρ0.length = np → RepH E ρ hp w → (∀ (k : Nat) (p : Option (Nat × Nat)), E.ρ0[k]? = some p → ρ[k]? = some p) → RepV ρ (okB E ρ hp w) w v u →
    ∃ v' hp' ρ', R v' hp' ∧ RepH E ρ' hp' w ∧ (∀ (k : Nat) (p : Option (Nat × Nat)), E.ρ0[k]? = some p → ρ'[k]? = some p) ∧ RepV ρ' (okB E ρ' hp' w) w v' u

def aend (T : TypeId → TI) (rs : List ResultVar) (R : AV → List ABlk → Prop) : Exit → ASt → Prop
  | .ret, s => (aresL T s rs).1 ∧ AOut s.np s.hp (tupOf (aresL T s rs).2) R
  | .normal, s => (aresL T s rs).1 ∧ AOut s.np s.hp (tupOf (aresL T s rs).2) R
  | _, _ => False

def resVar (tmps : Array Value) (r : ResultVar) : Sem Value :=
  match r with
  | .tmp t => pure (tmps.getD t undef)
  | .cell a t => do loadVar t (← asAddr (tmps.getD a undef))

theorem results_eq (fn : Func) (tmps : Array Value) : results fn tmps = (fn.results.mapM (resVar tmps) >>= fun vs => pure (if h : vs.size = 1 then vs[0] else .tuple vs)) := by
  unfold results
  congr 1

theorem ares1_sound (hT : TabOk P T) (h : Rep E s ρ a w) (r : ResultVar) (hk : (ares1 T s r).ok) :
    ∃ u, RepV ρ (okB E ρ s.hp w) w (ares1 T s r).v u ∧ (resVar a.tmps r).run P w = .ok u w := by
  cases r with
  | tmp t => exact ⟨_, strip_ok (h.env t) hk, by simp only [resVar, Sem.run_pure]⟩
  | cell x ty =>
    obtain ⟨hg, hk⟩ := hk
    obtain ⟨u, h1, h2⟩ := run_aload (P := P) hT h.lt h.heap.blks ty _ _ (strip_ok (h.env x) hg) hk
    have h3 := h2 w (below_refl w)
    refine ⟨u, h1, ?_⟩
    generalize hq : a.tmps.getD x undef = q at *
    have : ∃ ad, q = .pointer (some ad) := by
      clear hq
      cases q with
      | pointer p =>
        cases p with
        | some ad => exact ⟨ad, rfl⟩
        | none => simp [Instr.loadAt, Instr.sureAddr] at h3
      | _ => simp [Instr.loadAt, Instr.sureAddr] at h3
    obtain ⟨ad, rfl⟩ := this
    simp [Instr.loadAt, Instr.sureAddr] at h3
    simp only [resVar, hq, asAddr, Sem.run_bind, Sem.run_pure, Result.andThen_ok]
    exact h3

theorem aresL_sound (hT : TabOk P T) (h : Rep E s ρ a w) : ∀ (rs : List ResultVar), (aresL T s rs).1 → ∃ us : List Value, us.length = rs.length ∧ RepVs ρ (okB E ρ s.hp w) w (aresL T s rs).2 us ∧
    (rs.mapM (resVar a.tmps)).run P w = .ok us w
  | [], _ => ⟨[], rfl, ⟨rfl, by simp⟩, by simp⟩
  | r :: l, hk => by
    obtain ⟨u, h1, h2⟩ := ares1_sound hT h r hk.1
    obtain ⟨us, h3, h4, h5⟩ := aresL_sound hT h l hk.2
    refine ⟨u :: us, by simp [h3], ⟨by simp [aresL, h4.1], fun j x v hx hv => ?_⟩, ?_⟩
    · match j with
      | 0 => simp [aresL] at hx hv; subst hx; subst hv; exact h1
      | j + 1 => exact h4.2 j x v (by simpa [aresL] using hx) (by simpa using hv)
    · rw [List.mapM_cons, Sem.run_bind, h2, Result.andThen_ok, Sem.run_bind, h5, Result.andThen_ok]
      rfl

theorem results_sound (hT : TabOk P T) (h : Rep E s ρ a w) (fn : Func) (hk : (aresL T s fn.results.toList).1) :
    ∃ u, RepV ρ (okB E ρ s.hp w) w (tupOf (aresL T s fn.results.toList).2) u ∧ (results fn a.tmps).run P w = .ok u w := by
  obtain ⟨us, h1, h2, h3⟩ := aresL_sound hT h fn.results.toList hk
  have hm : (fn.results.mapM (resVar a.tmps)).run P w = .ok us.toArray w := by
    rw [Array.mapM_eq_mapM_toList, Sem.run_map, h3, Result.andThen_ok]
  have hrun : (results fn a.tmps).run P w = .ok (if h : us.toArray.size = 1 then us.toArray[0] else .tuple us.toArray) w := by
    rw [results_eq, Sem.run_bind, hm, Result.andThen_ok]
    rfl
  by_cases hl : us.length = 1
  · match us, hl, h2, hrun with
    | [u], _, h2, hrun =>
      have : ∃ x, (aresL T s fn.results.toList).2 = [x] := by
        match hx : (aresL T s fn.results.toList).2, h2.1 with
        | [x], _ => exact ⟨x, rfl⟩
      obtain ⟨x, hx⟩ := this
      rw [hx] at h2
      refine ⟨u, ?_, by simpa using hrun⟩
      rw [hx]
      exact h2.2 0 x u rfl rfl
  · refine ⟨.tuple us.toArray, ?_, ?_⟩
    · have : tupOf (aresL T s fn.results.toList).2 = .tup (aresL T s fn.results.toList).2 := by
        have hll := h2.1
        cases hx : (aresL T s fn.results.toList).2 with
        | nil => rfl
        | cons x r =>
          cases r with
          | nil => rw [hx] at hll; exact absurd hll hl
          | cons y r => rfl
      rw [this]
      exact .tup _ _ h2.1 h2.2
    · rw [hrun]
      have : ¬ (us.toArray.size = 1) := by simpa using hl
      rw [dif_neg this]

def apar : Nat → List AV → List (Nat × AV)
  | _, [] => []
  | k, x :: r => (k, x) :: apar (k + 1) r

theorem apar_get : ∀ (xs : List AV) (k t : Nat), aget (apar k xs) t = if k ≤ t ∧ t < k + xs.length then xs.getD (t - k) .any else .any
  | [], k, t => by simp [apar, aget]
  | x :: r, k, t => by
    simp only [apar, aget]
    by_cases h : k = t
    · subst h; simp
    · rw [if_neg h, apar_get r (k + 1) t]
      by_cases h2 : k + 1 ≤ t ∧ t < k + 1 + r.length
      · rw [if_pos h2, if_pos (by simp; omega), show t - k = (t - (k + 1)) + 1 from by omega]
        simp
      · rw [if_neg h2, if_neg (by simp; omega)]

/-- **A contract, shown by an abstract walk of the function's body.** -/
theorem acall_of (hT : TabOk P T) {g : FuncId} {fn : Func} {c : Code} (hf : P.funcs[g]? = some fn) (hb : fn.body = some c) (hn : (fn.name == "runtime.NumGoroutine") = false)
    {hp : List ABlk} {xs : List AV} {R : AV → List ABlk → Prop} (hx : xs.length ≤ fn.ntmps)
    (h : AWP P c { np := hp.length, nt := fn.ntmps, env := apar 0 xs, hp := hp } (aend T fn.results.toList R)) : acall P hp g xs R := by
  refine ⟨⟨fn, hf, hn, by rw [hb]; rfl⟩, fun E w us hw hH hus => ?_⟩
  have hnp : E.ρ0.length = hp.length := hH.len
  refine calls_of_wp hf hb (wpm (h E E.ρ0 _ w ⟨hnp, rfl, ?_, fun t => ?_, hH, fun _ _ hk => hk⟩) fun e a' w' hh => ?_)
  · simp [hus.1]; omega
  · rw [apar_get]
    by_cases ht : 0 ≤ t ∧ t < 0 + xs.length
    · rw [if_pos ht]
      have hlt : t < xs.length := by omega
      have : (us.toArray ++ Array.replicate (fn.ntmps - us.toArray.size) undef).getD t undef = us.getD t undef := by
        rw [Array.getD_eq_getD_getElem?, Array.getElem?_append_left (by simp [hus.1, hlt])]
        simp [List.getD_eq_getElem?_getD]
      rw [this, Nat.sub_zero]
      exact hus.2 t _ _ (getD_of_lt _ _ _ hlt) (getD_of_lt _ _ _ (by rw [hus.1]; exact hlt))
    · rw [if_neg ht]; exact .any _
  · obtain ⟨s', ρ', hr, hq⟩ := hh
    have fin : (aresL T s' fn.results.toList).1 ∧ AOut s'.np s'.hp (tupOf (aresL T s' fn.results.toList).2) R → a'.defers = [] ∧ ∃ v, (results fn a'.tmps).run P w' = .ok v w' ∧
        ∃ u v_1 hp' ρ', Ending.returned v = .returned u ∧ R v_1 hp' ∧ RepH E ρ' hp' w' ∧ (∀ (k : Nat) (p : Option (Nat × Nat)), E.ρ0[k]? = some p → ρ'[k]? = some p) ∧ RepV ρ' (okB E ρ' hp' w') w' v_1 u := by
      intro ⟨h1, h2⟩
      obtain ⟨u, hu, hrun⟩ := results_sound hT hr fn h1
      obtain ⟨v', hp', ρ2, q1, q2, q3, q4⟩ := h2 E ρ' w' u hr.np hr.heap hr.pre hu
      exact ⟨hr.nodef, u, hrun, u, v', hp', ρ2, rfl, q1, q2, q3, q4⟩
    cases e with
    | ret => exact fin hq
    | normal => exact fin hq
    | _ => exact hq.elim

/-- The result is data; nothing of the call's own is handed out. -/
theorem AOut.data {hp : List ABlk} {v : AV} {R : AV → List ABlk → Prop} (hf : frzOk hp v) (hn : noId (frzV hp v)) (hR : R (frzV hp v) []) : AOut 0 hp v R := by
  intro E ρ w u hnp hH hpre hv
  have h0 : E.ρ0 = [] := List.eq_nil_of_length_eq_zero hnp
  have hnl : ∀ b, ¬ Live [] [] b := fun b ⟨k, x, m, hx, _⟩ => by simp at hx
  have hok : ∀ b, okB E ρ hp w b → okB E [] [] w b := fun b ⟨h1, h2, _⟩ => ⟨h1, h2, hnl b⟩
  have key : ∀ (k b m sz : Nat) (rs : List (List DV)), hp[k]? = some (.rows sz rs) → ρ[k]? = some (some (b, m)) → okB E [] [] w b := by
    intro k b m sz rs hk hb
    obtain ⟨q1, us, ty, fz, q2, _⟩ := hH.blk k _ b m hk hb (by simp)
    rcases q1 with q1 | q1
    · obtain ⟨k', m', hk'⟩ := E.hL b q1
      rw [h0] at hk'; simp at hk'
    · exact ⟨.inr q1, lt_of_heap q2, hnl b⟩
  refine ⟨frzV hp v, [], [], hR, ⟨rfl, by simp, by simp, by simp, hH.fr⟩, by simp [h0], ?_⟩
  exact frz_ok hH.blks hok key hv hf hn

/-! ### Renaming of blocks -/
mutual
def renV (f : Nat → Nat) : AV → AV
  | .ptr k off => .ptr (f k) off
  | .rp k sz i off => .rp (f k) sz i off
  | .osl k sz off n => .osl (f k) sz off n
  | .agg cs => .agg (renL f cs)
  | .tup cs => .tup (renL f cs)
  | .clo g a b => .clo g (renL f a) (renL f b)
  | .gd g v => .gd g (renV f v)
  | .mp k => .mp (f k)
  | .d x => .d x
  | .dp row off => .dp row off
  | .any => .any
def renL (f : Nat → Nat) : List AV → List AV
  | [] => []
  | x :: r => renV f x :: renL f r
end
def renB (f : Nat → Nat) : ABlk → ABlk
  | .cells cs => .cells (renL f cs)
  | .rows sz rs => .rows sz rs
  | .full sz rs => .full sz rs
  | .bytes l => .bytes l
  | .map es => .map es
  | .iter k a b c => .iter (f k) a b c
  | .dead => .dead
mutual
/-- All blocks that a value names come ahead of place 'n'. -/
def inV (n : Nat) : AV → Prop
  | .ptr k _ => k < n
  | .rp k _ _ _ => k < n
  | .osl k _ _ _ => k < n
  | .agg cs => inL n cs
  | .tup cs => inL n cs
  | .clo _ a b => inL n a ∧ inL n b
  | .gd _ v => inV n v
  | .mp k => k < n
  | _ => True
def inL (n : Nat) : List AV → Prop
  | [] => True
  | x :: r => inV n x ∧ inL n r
end
def inB (n : Nat) : ABlk → Prop
  | .cells cs => inL n cs
  | .iter k _ _ _ => k < n
  | _ => True

theorem renL_get {f : Nat → Nat} : ∀ {cs : List AV} {j : Nat}, (renL f cs)[j]? = (cs[j]?).map (renV f)
  | [], j => by simp [renL]
  | x :: r, 0 => by simp [renL]
  | x :: r, j + 1 => by simp only [renL, List.getElem?_cons_succ]; exact renL_get
theorem renL_length {f : Nat → Nat} : ∀ {cs : List AV}, (renL f cs).length = cs.length
  | [] => rfl
  | x :: r => by simp [renL, renL_length (cs := r)]
theorem inL_get {n : Nat} : ∀ {cs : List AV} {j : Nat} {x : AV}, inL n cs → cs[j]? = some x → inV n x
  | y :: r, 0, x, h, hx => by simp at hx; subst hx; exact h.1
  | y :: r, j + 1, x, h, hx => inL_get h.2 (by simpa using hx)

/-- From the old names to the new ones. -/
theorem ren_up {ok ok' : Nat → Prop} {f : Nat → Nat} (hρ : ∀ (k : Nat) (p : Option (Nat × Nat)), ρ[k]? = some p → ρ'[f k]? = some p) (hok : ∀ b, ok b → ok' b ∧ w'.heap[b]? = w.heap[b]?)
    {v : AV} {u : Value} (h : RepV ρ ok w v u) : RepV ρ' ok' w' (renV f v) u := by
  induction h with
  | d x v h => simp only [renV]; exact .d _ _ (h.mono hok)
  | agg cs us hl h1 hr ih =>
    simp only [renV]
    refine .agg _ _ (by rw [renL_length]; exact hl) h1 fun j c u hc hu => ?_
    rw [renL_get] at hc
    obtain ⟨x, hx, rfl⟩ := Option.map_eq_some_iff.1 hc
    exact ih j x u hx hu
  | tup cs us hl hr ih =>
    simp only [renV]
    refine .tup _ _ (by rw [renL_length]; exact hl) fun j c u hc hu => ?_
    rw [renL_get] at hc
    obtain ⟨x, hx, rfl⟩ := Option.map_eq_some_iff.1 hc
    exact ih j x u hx hu
  | ptr k off b m h => simp only [renV]; exact .ptr _ _ b m (hρ _ _ h)
  | rp k sz i off b m h => simp only [renV]; exact .rp _ _ _ _ b m (hρ _ _ h)
  | osl k sz off n b m cap h hm hn => simp only [renV]; exact .osl _ _ _ _ b m cap (hρ _ _ h) hm hn
  | oslnil k sz A h => simp only [renV]; exact .oslnil _ _ A (hρ _ _ h)
  | dp row off b o u hb hc hr =>
    simp only [renV]
    exact .dp row off b o u (hok b hb).1 (fun j c hj => (cell_of_same (hok b hb).2).trans (hc j c hj)) fun j c hj => (hr j c hj).mono hok
  | clo g first caps us vs hl hl' hr hr' ih ih' =>
    simp only [renV]
    refine .clo _ _ _ us vs (by rw [renL_length]; exact hl) (by rw [renL_length]; exact hl') (fun j c u hc hu => ?_) fun j c u hc hu => ?_
    · rw [renL_get] at hc
      obtain ⟨x, hx, rfl⟩ := Option.map_eq_some_iff.1 hc
      exact ih j x u hx hu
    · rw [renL_get] at hc
      obtain ⟨x, hx, rfl⟩ := Option.map_eq_some_iff.1 hc
      exact ih' j x u hx hu
  | mp k b m h => simp only [renV]; exact .mp _ b m (hρ _ _ h)
  | gd g v u ht hf ih => simp only [renV]; exact .gd _ _ _ ih hf
  | any u => simp only [renV]; exact .any u

/-- From the new names back to the old ones: what a renamed value stands for, the value stands for under the old names. -/
theorem ren_down {ok ok' : Nat → Prop} {f : Nat → Nat} {n : Nat} (hρ : ∀ (k : Nat) (p : Option (Nat × Nat)), k < n → ρ[f k]? = some p → ρ'[k]? = some p) (hok : ∀ b, ok b → ok' b ∧ w'.heap[b]? = w.heap[b]?)
    {x : AV} {u : Value} (h : RepV ρ ok w x u) : ∀ (v : AV), x = renV f v → inV n v → RepV ρ' ok' w' v u := by
  induction h with
  | d x u h => intro v e hi; cases v <;> simp [renV] at e; subst e; exact .d _ _ (h.mono hok)
  | agg cs us hl h1 hr ih =>
    intro v e hi
    cases v <;> simp [renV] at e
    subst e
    simp only [inV] at hi
    refine .agg _ _ (by rw [renL_length] at hl; exact hl) h1 fun j c u hc hu => ?_
    exact ih j (renV f c) u (by rw [renL_get, hc]; rfl) hu c rfl (inL_get hi hc)
  | tup cs us hl hr ih =>
    intro v e hi
    cases v <;> simp [renV] at e
    subst e
    simp only [inV] at hi
    refine .tup _ _ (by rw [renL_length] at hl; exact hl) fun j c u hc hu => ?_
    exact ih j (renV f c) u (by rw [renL_get, hc]; rfl) hu c rfl (inL_get hi hc)
  | ptr k off b m h => intro v e hi; cases v <;> simp [renV] at e; obtain ⟨rfl, rfl⟩ := e; exact .ptr _ _ b m (hρ _ _ hi h)
  | rp k sz i off b m h => intro v e hi; cases v <;> simp [renV] at e; obtain ⟨rfl, rfl, rfl, rfl⟩ := e; exact .rp _ _ _ _ b m (hρ _ _ hi h)
  | osl k sz off n b m cap h hm hn => intro v e hi; cases v <;> simp [renV] at e; obtain ⟨rfl, rfl, rfl, rfl⟩ := e; exact .osl _ _ _ _ b m cap (hρ _ _ hi h) hm hn
  | oslnil k sz A h => intro v e hi; cases v <;> simp [renV] at e; obtain ⟨rfl, rfl, rfl, rfl⟩ := e; exact .oslnil _ _ A (hρ _ _ hi h)
  | dp row off b o u hb hc hr =>
    intro v e hi
    cases v <;> simp [renV] at e
    obtain ⟨rfl, rfl⟩ := e
    exact .dp row off b o u (hok b hb).1 (fun j c hj => (cell_of_same (hok b hb).2).trans (hc j c hj)) fun j c hj => (hr j c hj).mono hok
  | clo g first caps us vs hl hl' hr hr' ih ih' =>
    intro v e hi
    cases v <;> simp [renV] at e
    obtain ⟨rfl, rfl, rfl⟩ := e
    simp only [inV] at hi
    rw [renL_length] at hl hl'
    refine .clo _ _ _ us vs hl hl' (fun j c u hc hu => ?_) fun j c u hc hu => ?_
    · exact ih j (renV f c) u (by rw [renL_get, hc]; rfl) hu c rfl (inL_get hi.1 hc)
    · exact ih' j (renV f c) u (by rw [renL_get, hc]; rfl) hu c rfl (inL_get hi.2 hc)
  | mp k b m h => intro v e hi; cases v <;> simp [renV] at e; subst e; exact .mp _ b m (hρ _ _ hi h)
  | gd g v u ht hf ih =>
    intro v' e hi
    cases v' <;> simp [renV] at e
    obtain ⟨rfl, rfl⟩ := e
    exact .gd _ _ _ (fun hg => ih hg _ rfl hi) hf
  | any u => intro v e hi; cases v <;> simp [renV] at e; exact .any u

/-! ### What may be forgotten of a state, and its blocks named anew -/
def mAt (m : List Nat) (big k : Nat) : Nat := (m[k]?).getD big

def envLe (f : Nat → Nat) (n : Nat) (env : List (Nat × AV)) : List (Nat × AV) → Prop
  | [] => True
  | (t, v) :: r => (aget env t = renV f v ∧ inV n v) ∧ envLe f n env r

def hpLe (f : Nat → Nat) (n : Nat) (hp : List ABlk) : Nat → List ABlk → Prop
  | _, [] => True
  | i, x :: r => (x = .dead ∨ (hp[f i]? = some (renB f x) ∧ inB n x)) ∧ hpLe f n hp (i + 1) r

theorem envLe_get {f : Nat → Nat} {n : Nat} {env : List (Nat × AV)} : ∀ {env' : List (Nat × AV)}, envLe f n env env' → ∀ t, aget env' t = .any ∨ (aget env t = renV f (aget env' t) ∧ inV n (aget env' t))
  | [], _, t => .inl rfl
  | (k, v) :: r, h, t => by
    simp only [aget]
    split
    · rename_i e; subst e; exact .inr h.1
    · exact envLe_get h.2 t
theorem hpLe_get {f : Nat → Nat} {n : Nat} {hp : List ABlk} : ∀ {hp' : List ABlk} {i : Nat}, hpLe f n hp i hp' → ∀ (j : Nat) (x : ABlk), hp'[j]? = some x → x = .dead ∨ (hp[f (i + j)]? = some (renB f x) ∧ inB n x)
  | [], i, _, j, x, hx => by simp at hx
  | y :: r, i, h, 0, x, hx => by simp at hx; subst hx; exact h.1
  | y :: r, i, h, j + 1, x, hx => by
    have := hpLe_get (i := i + 1) h.2 j x (by simpa using hx)
    rwa [show i + 1 + j = i + (j + 1) from by omega] at this

theorem plain_ren {f : Nat → Nat} {x : ABlk} {us : Array Value} {fz : Nat × Nat} : plain (renB f x) us fz ↔ plain x us fz := by
  cases x <;> simp [plain, renB]

theorem renB_obj {f : Nat → Nat} {x : ABlk} : (renB f x).isObj = x.isObj := by cases x <;> rfl

theorem renB_dead {f : Nat → Nat} {x : ABlk} (h : x ≠ .dead) : renB f x ≠ .dead := by cases x <;> simp_all [renB]

theorem blk_down {ok ok' : Nat → Prop} {f : Nat → Nat} {n : Nat} (hρ : ∀ (k : Nat) (p : Option (Nat × Nat)), k < n → ρ[f k]? = some p → ρ'[k]? = some p) (hok : ∀ b, ok b → ok' b ∧ w'.heap[b]? = w.heap[b]?)
    {us : Array Value} {x : ABlk} (h : RepBlk ρ ok w us (renB f x)) (hi : inB n x) : RepBlk ρ' ok' w' us x := by
  refine ⟨h.1, ?_⟩
  cases x with
  | cells cs =>
    obtain ⟨_, h1, h2⟩ := h
    rw [renL_length] at h1
    exact ⟨h1, fun j c u hc hu => ren_down hρ hok (h2 j (renV f c) u (by rw [renL_get, hc]; rfl) hu) c rfl (inL_get hi hc)⟩
  | rows sz rs =>
    obtain ⟨_, h1, h2, h3⟩ := h
    exact ⟨h1, h2, fun i r hi j c u hc hu => (h3 i r hi j c u hc hu).mono hok⟩
  | full sz rs =>
    obtain ⟨_, h1, h2, h3⟩ := h
    exact ⟨h1, h2, fun i r hi j c u hc hu => (h3 i r hi j c u hc hu).mono hok⟩
  | bytes l =>
    obtain ⟨_, h1, h2, h3⟩ := h
    exact ⟨h1, h2, fun i r hi j c u hc hu => (h3 i r hi j c u hc hu).mono hok⟩
  | map es => trivial
  | iter k a b c => trivial
  | dead => trivial

theorem blk_up {ok ok' : Nat → Prop} {f : Nat → Nat} (hρ : ∀ (k : Nat) (p : Option (Nat × Nat)), ρ[k]? = some p → ρ'[f k]? = some p) (hok : ∀ b, ok b → ok' b ∧ w'.heap[b]? = w.heap[b]?)
    {us : Array Value} {x : ABlk} (h : RepBlk ρ ok w us x) : RepBlk ρ' ok' w' us (renB f x) := by
  refine ⟨h.1, ?_⟩
  cases x with
  | cells cs =>
    obtain ⟨_, h1, h2⟩ := h
    refine ⟨by rw [renL_length]; exact h1, fun j c u hc hu => ?_⟩
    rw [renL_get] at hc
    obtain ⟨y, hy, rfl⟩ := Option.map_eq_some_iff.1 hc
    exact ren_up hρ hok (h2 j y u hy hu)
  | rows sz rs =>
    obtain ⟨_, h1, h2, h3⟩ := h
    exact ⟨h1, h2, fun i r hi j c u hc hu => (h3 i r hi j c u hc hu).mono hok⟩
  | full sz rs =>
    obtain ⟨_, h1, h2, h3⟩ := h
    exact ⟨h1, h2, fun i r hi j c u hc hu => (h3 i r hi j c u hc hu).mono hok⟩
  | bytes l =>
    obtain ⟨_, h1, h2, h3⟩ := h
    exact ⟨h1, h2, fun i r hi j c u hc hu => (h3 i r hi j c u hc hu).mono hok⟩
  | map es => trivial
  | iter k a b c => trivial
  | dead => trivial

theorem obj_down {ok ok' : Nat → Prop} {f : Nat → Nat} {n m : Nat} {o : Obj} (hρ : ∀ (k : Nat) (p : Option (Nat × Nat)), k < n → ρ[f k]? = some p → ρ'[k]? = some p) (hok : ∀ b, ok b → ok' b ∧ w'.heap[b]? = w.heap[b]?)
    {x : ABlk} (h : RepObj ρ ok w m o (renB f x)) (hi : inB n x) : RepObj ρ' ok' w' m o x := by
  by_cases hm : x.isObj = false
  · obtain ⟨us, ty, fz, h1, h2, h3, h4⟩ := (RepObj.cells (by rw [renB_obj]; exact hm)).1 h
    exact (RepObj.cells hm).2 ⟨us, ty, fz, h1, h2, ⟨h3.1, plain_ren.1 h3.2⟩, blk_down hρ hok h4 hi⟩
  · cases x with
    | map es => exact h
    | iter k a b c => obtain ⟨b', m', h1, h2⟩ := h; exact ⟨b', m', hρ _ _ hi h1, h2⟩
    | _ => simp at hm
theorem obj_up {ok ok' : Nat → Prop} {f : Nat → Nat} {m : Nat} {o : Obj} (hρ : ∀ (k : Nat) (p : Option (Nat × Nat)), ρ[k]? = some p → ρ'[f k]? = some p) (hok : ∀ b, ok b → ok' b ∧ w'.heap[b]? = w.heap[b]?)
    {x : ABlk} (h : RepObj ρ ok w m o x) : RepObj ρ' ok' w' m o (renB f x) := by
  by_cases hm : x.isObj = false
  · obtain ⟨us, ty, fz, h1, h2, h3, h4⟩ := (RepObj.cells hm).1 h
    exact (RepObj.cells (by rw [renB_obj]; exact hm)).2 ⟨us, ty, fz, h1, h2, ⟨h3.1, plain_ren.2 h3.2⟩, blk_up hρ hok h4⟩
  · cases x with
    | map es => exact h
    | iter k a b c => obtain ⟨b', m', h1, h2⟩ := h; exact ⟨b', m', hρ _ _ h1, h2⟩
    | _ => simp at hm

def injOn (m : List Nat) : Prop := ∀ (i j k : Nat), m[i]? = some k → m[j]? = some k → i = j

/-- A state's blocks under new names: block 'i' of the new state is block 'm i' of the old one; what is not named is forgotten. -/
theorem SImp.frame (m : List Nat) {np nt : Nat} {env env' : List (Nat × AV)} {hp hp' : List ABlk} (hl : hp'.length = m.length) (hm : ∀ i, i ∈ m → i < hp.length) (hinj : m.Nodup) (hpre : ∀ k, k < np → m[k]? = some k)
    (he : envLe (mAt m hp.length) m.length env env') (hh : hpLe (mAt m hp.length) m.length hp 0 hp') :
    SImp { np := np, nt := nt, env := env, hp := hp } { np := np, nt := nt, env := env', hp := hp' } := by
  intro E ρ a w h
  have hlen := h.heap.len
  simp only at hlen
  have hmi : ∀ (i j x : Nat), m[i]? = some x → m[j]? = some x → i = j := by
    intro i j x hi hj
    obtain ⟨hi1, hi2⟩ := List.getElem?_eq_some_iff.1 hi
    obtain ⟨hj1, hj2⟩ := List.getElem?_eq_some_iff.1 hj
    have hpw := List.pairwise_iff_getElem.1 hinj
    rcases Nat.lt_trichotomy i j with hlt | heq | hgt
    · exact absurd (hi2.trans hj2.symm) (hpw i j hi1 hj1 hlt)
    · exact heq
    · exact absurd (hj2.trans hi2.symm) (hpw j i hj1 hi1 hgt)
  have hget : ∀ i, i < m.length → ∃ x, m[i]? = some x ∧ mAt m hp.length i = x ∧ x < ρ.length := by
    intro i hi
    refine ⟨m[i], List.getElem?_eq_getElem hi, by simp [mAt, List.getElem?_eq_getElem hi], ?_⟩
    rw [hlen]; exact hm _ (List.getElem_mem hi)
  let ρ' : List (Option (Nat × Nat)) := m.map fun i => (ρ[i]?).getD none
  have hρ' : ∀ (k : Nat) (p : Option (Nat × Nat)), ρ'[k]? = some p ↔ ∃ x, m[k]? = some x ∧ ρ[x]? = some p := by
    intro k p
    simp only [ρ', List.getElem?_map, Option.map_eq_some_iff]
    constructor
    · rintro ⟨x, hx, e⟩
      have hxl : x < ρ.length := by rw [hlen]; exact hm x (List.mem_of_getElem? hx)
      rw [List.getElem?_eq_getElem hxl] at e
      exact ⟨x, hx, by rw [List.getElem?_eq_getElem hxl]; simpa using e⟩
    · rintro ⟨x, hx, e⟩
      exact ⟨x, hx, by rw [e]; rfl⟩
  have hdown : ∀ (k : Nat) (p : Option (Nat × Nat)), k < m.length → ρ[mAt m hp.length k]? = some p → ρ'[k]? = some p := by
    intro k p hk hp'
    obtain ⟨x, hx, e, _⟩ := hget k hk
    rw [e] at hp'
    exact (hρ' k p).2 ⟨x, hx, hp'⟩
  have hblk : ∀ (j : Nat) (x : ABlk) (p : Option (Nat × Nat)), hp'[j]? = some x → x ≠ .dead → ρ'[j]? = some p → ∃ i, m[j]? = some i ∧ mAt m hp.length j = i ∧ hp[i]? = some (renB (mAt m hp.length) x) ∧ inB m.length x ∧ ρ[i]? = some p := by
    intro j x p hx hd hpj
    rcases hpLe_get hh j x hx with e | ⟨h1, h2⟩
    · exact absurd e hd
    · rw [Nat.zero_add] at h1
      obtain ⟨i, hi, hip⟩ := (hρ' j p).1 hpj
      have : mAt m hp.length j = i := by simp [mAt, hi]
      rw [this] at h1
      exact ⟨i, hi, this, by rw [this] at *; exact h1, h2, hip⟩
  have hlive : ∀ b, Live ρ' hp' b → Live ρ hp b := by
    intro b ⟨k, x, q, hx, hd, hk⟩
    obtain ⟨i, _, _, h1, _, h2⟩ := hblk k x _ hx hd hk
    exact ⟨i, _, q, h1, renB_dead hd, h2⟩
  have hok : ∀ b, okB E ρ hp w b → okB E ρ' hp' w b ∧ w.heap[b]? = w.heap[b]? := fun b ⟨h1, h2, h3⟩ => ⟨⟨h1, h2, fun hl => h3 (hlive b hl)⟩, rfl⟩
  refine ⟨ρ', h.np, h.nodef, h.nt, fun t => ?_, ⟨by simp [ρ', hl], fun k x b q hx hk hd => ?_, fun k x hx hk => ?_, fun k k' x x' b q q' hx hx' hd hd' hk hk' => ?_, h.heap.fr⟩, fun k p hk => ?_⟩
  · rcases envLe_get he t with e | ⟨e, hi⟩
    · simp only [e]; exact .any _
    · have := h.env t
      simp only [e] at this
      exact ren_down hdown hok this _ rfl hi
  · obtain ⟨i, _, _, h1, h2, h3⟩ := hblk k x _ hx hd hk
    obtain ⟨q1, o, q2, q3⟩ := h.heap.obj i _ b q h1 h3 (renB_dead hd)
    exact ⟨q1, o, q2, obj_down hdown hok q3 h2⟩
  · by_cases hd : x = .dead
    · exact .inl hd
    · obtain ⟨i, _, _, h1, h2, h3⟩ := hblk k x _ hx hd hk
      rcases h.heap.nil i _ h1 h3 with e | ⟨sz, e⟩
      · exact absurd e (renB_dead hd)
      · right
        cases x with
        | cells cs => simp [renB] at e
        | rows sz' rs => simp [renB] at e; exact ⟨sz', by rw [e.2]⟩
        | full sz' rs => simp [renB] at e
        | bytes l => simp [renB] at e
        | map es => simp [renB] at e
        | iter k a b c => simp [renB] at e
        | dead => simp [renB] at e
  · obtain ⟨i, a1, _, h1, _, h3⟩ := hblk k x _ hx hd hk
    obtain ⟨i', a1', _, h1', _, h3'⟩ := hblk k' x' _ hx' hd' hk'
    have := h.heap.inj i i' _ _ b q q' h1 h1' (renB_dead hd) (renB_dead hd') h3 h3'
    subst this
    exact hmi k k' i a1 a1'
  · have hkn : k < np := by
      have := (List.getElem?_eq_some_iff.1 hk).1
      rw [h.np] at this; exact this
    exact (hρ' k p).2 ⟨k, hpre k hkn, h.pre k p hk⟩

/-- Nothing named anew: slots and last blocks are forgotten. -/
theorem SImp.keep {np nt : Nat} {env env' : List (Nat × AV)} {hp hp' : List ABlk} (hn : np ≤ hp'.length) (hlt : hp'.length ≤ hp.length)
    (he : envLe (mAt (List.range hp'.length) hp.length) hp'.length env env') (hh : hpLe (mAt (List.range hp'.length) hp.length) hp'.length hp 0 hp') :
    SImp { np := np, nt := nt, env := env, hp := hp } { np := np, nt := nt, env := env', hp := hp' } :=
  SImp.frame (List.range hp'.length) (by simp) (fun i hi => by simp at hi; omega) List.nodup_range (fun k hk => by rw [List.getElem?_range (by omega)]) (by simpa using he) (by simpa using hh)

/-- A slot that holds nil: a row of no elements, of the call's own. -/
theorem SImp.nilOwn (t sz : Nat) {np nt : Nat} {env : List (Nat × AV)} {hp : List ABlk} (ht : aget env t = .d (.sc (.slice none 0 0))) :
    SImp { np := np, nt := nt, env := env, hp := hp } { np := np, nt := nt, env := (t, .osl hp.length sz 0 0) :: env, hp := hp ++ [.rows sz []] } := by
  intro E ρ a w h
  have hst := HStep.nilRow h.heap sz
  have hr := h.step hst
  refine ⟨_, hr.np, hr.nodef, hr.nt, fun t' => ?_, hr.heap, hr.pre⟩
  simp only [aget]
  by_cases e : t = t'
  · subst e
    simp only [if_true]
    have := h.env t
    simp only [ht] at this
    generalize hu : a.tmps.getD t undef = u at this
    cases this with | d _ _ hd =>
    obtain ⟨A, rfl⟩ := sc_nil hd
    have hl := h.heap.len
    simp only at hl
    exact .oslnil _ _ A (by rw [← hl]; simp)
  · simp only [e, if_false]
    exact hr.env t'

/-- A row is given up, and is data from now on, in the slots that are named. -/
def frzE (hp : List ABlk) (env : List (Nat × AV)) : List (Nat × AV) → Prop
  | [] => True
  | (t, v) :: r => ((aget env t = v) ∨ (frzOk hp (aget env t) ∧ noId (frzV hp (aget env t)) ∧ v = frzV hp (aget env t))) ∧ frzE hp env r
def killRows : List ABlk → List ABlk
  | [] => []
  | .rows _ _ :: r => .dead :: killRows r
  | x :: r => x :: killRows r
theorem frzE_get {hp : List ABlk} {env : List (Nat × AV)} : ∀ {env' : List (Nat × AV)}, frzE hp env env' → ∀ t, aget env' t = .any ∨ aget env t = aget env' t ∨ (frzOk hp (aget env t) ∧ noId (frzV hp (aget env t)) ∧ aget env' t = frzV hp (aget env t))
  | [], _, t => .inl rfl
  | (k, v) :: r, h, t => by
    simp only [aget]
    split
    · rename_i e; subst e
      rcases h.1 with h1 | h1
      · exact .inr (.inl h1)
      · exact .inr (.inr h1)
    · exact frzE_get h.2 t
theorem killRows_get : ∀ {hp : List ABlk} {k : Nat} {x : ABlk}, (killRows hp)[k]? = some x → x ≠ .dead → hp[k]? = some x
  | [], k, x, h, _ => by simp [killRows] at h
  | y :: r, 0, x, h, hd => by
    cases y with
    | rows _ _ => simp [killRows] at h; exact absurd h.symm hd
    | cells _ => simpa [killRows] using h
    | full _ _ => simpa [killRows] using h
    | bytes _ => simpa [killRows] using h
    | map _ => simpa [killRows] using h
    | iter _ _ _ _ => simpa [killRows] using h
    | dead => simp [killRows] at h; exact absurd h.symm hd
  | y :: r, k + 1, x, h, hd => by
    have : (killRows r)[k]? = some x := by cases y <;> simpa [killRows] using h
    simpa using killRows_get this hd
theorem killRows_rows : ∀ {hp : List ABlk} {k sz : Nat} {rs : List (List DV)}, hp[k]? = some (.rows sz rs) → (killRows hp)[k]? = some .dead
  | [], k, _, _, h => by simp at h
  | y :: r, 0, _, _, h => by simp at h; subst h; simp [killRows]
  | y :: r, k + 1, _, _, h => by
    have := killRows_rows (hp := r) (by simpa using h)
    cases y <;> simpa [killRows] using this
theorem killRows_length : ∀ {hp : List ABlk}, (killRows hp).length = hp.length
  | [] => rfl
  | y :: r => by cases y <;> simp [killRows, killRows_length (hp := r)]

theorem HStep.killRows (h : RepH E ρ hp w) : HStep E ρ hp w ρ (killRows hp) w := by
  have hlive : ∀ b, Live ρ (_root_.Go.Proofs.YtfnilhdofopoeabDoor.killRows hp) b → Live ρ hp b := fun b ⟨j, y, m, hy, hd, hk⟩ => ⟨j, y, m, killRows_get hy hd, hd, hk⟩
  have hok : ∀ b, okB E ρ hp w b → okB E ρ (_root_.Go.Proofs.YtfnilhdofopoeabDoor.killRows hp) w b ∧ w.heap[b]? = w.heap[b]? := fun b ⟨h1, h2, h3⟩ => ⟨⟨h1, h2, fun hl => h3 (hlive b hl)⟩, rfl⟩
  refine ⟨⟨by rw [killRows_length]; exact h.len, fun j y b m hy hk hd => ?_, fun j y hy hk => ?_, fun j j' y y' b m m' hy hy' hd hd' hk hk' => ?_, h.fr⟩, fun _ _ hk => hk, hok⟩
  · obtain ⟨q1, o, q2, q3⟩ := h.obj j y b m (killRows_get hy hd) hk hd
    exact ⟨q1, o, q2, q3.mono (fun _ _ hh => hh) hok⟩
  · by_cases hd : y = .dead
    · exact .inl hd
    · exact h.nil j y (killRows_get hy hd) hk
  · exact h.inj j j' y y' b m m' (killRows_get hy hd) (killRows_get hy' hd') hd hd' hk hk'

/-- All rows of the call's own are given up. -/
theorem SImp.freeze {np nt : Nat} {env env' : List (Nat × AV)} {hp : List ABlk} (h0 : np = 0) (he : frzE hp env env') :
    SImp { np := np, nt := nt, env := env, hp := hp } { np := np, nt := nt, env := env', hp := killRows hp } := by
  intro E ρ a w h
  have hst := HStep.killRows h.heap
  have hr := h.step hst
  have h00 : E.ρ0 = [] := List.eq_nil_of_length_eq_zero (by rw [h.np]; exact h0)
  have key : ∀ (k b m sz : Nat) (rs : List (List DV)), hp[k]? = some (.rows sz rs) → ρ[k]? = some (some (b, m)) → okB E ρ (killRows hp) w b := by
    intro k b m sz rs hk hb
    obtain ⟨q1, us, ty, fz, q2, _⟩ := h.heap.blk k _ b m hk hb (by simp)
    have hnl : ¬ Live ρ (killRows hp) b := by
      intro ⟨j, x, m', hx, hd, hj⟩
      have := h.heap.inj j k x _ b m' m (killRows_get hx hd) hk hd (by simp) hj hb
      subst this
      rw [killRows_rows hk] at hx
      injection hx with hx
      exact hd hx.symm
    rcases q1 with q1 | q1
    · obtain ⟨k', m', hk'⟩ := E.hL b q1
      rw [h00] at hk'; simp at hk'
    · exact ⟨.inr q1, lt_of_heap q2, hnl⟩
  refine ⟨ρ, hr.np, hr.nodef, hr.nt, fun t => ?_, hr.heap, hr.pre⟩
  rcases frzE_get he t with e | e | ⟨e1, e2, e3⟩
  · simp only [e]; exact .any _
  · simp only [← e]; exact hr.env t
  · have := frz_ok h.heap.blks (ok' := okB E ρ (killRows hp) w) (fun b hb => (hst.ok b hb).1) key (h.env t) e1 e2
    simp only [e3]
    exact noId_rep (fun b hb => ⟨hb, rfl⟩) this e2
end
end Go.Proofs.YtfnilhdofopoeabDoor
