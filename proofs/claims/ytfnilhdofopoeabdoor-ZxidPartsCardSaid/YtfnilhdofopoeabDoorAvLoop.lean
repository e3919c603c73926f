/- Loops: what is kept of a state, and what turns from round to round. It holds over any program whose types read as the table says. -/
import Derived.Test.YtfnilhdofopoeabDoorAvRet
namespace Go.Proofs.YtfnilhdofopoeabDoor
set_option linter.unusedVariables false
set_option linter.unusedSimpArgs false
open Go Go.RowKit

def ekeep (env : List (Nat × AV)) : List Nat → List (Nat × AV)
  | [] => []
  | t :: r => (t, aget env t) :: ekeep env r

def envSub (env : List (Nat × AV)) : List (Nat × AV) → Prop
  | [] => True
  | (t, v) :: r => aget env t = v ∧ envSub env r

theorem envSub_get {env : List (Nat × AV)} : ∀ {env' : List (Nat × AV)}, envSub env env' → ∀ t, aget env' t = .any ∨ aget env t = aget env' t
  | [], _, _ => .inl rfl
  | (k, v) :: r, h, t => by
    simp only [aget]
    by_cases e : k = t
    · subst e; rw [if_pos rfl]; exact .inr h.1
    · rw [if_neg e]; exact envSub_get h.2 t

theorem envSub_append {env : List (Nat × AV)} : ∀ {a b : List (Nat × AV)}, envSub env a → envSub env b → envSub env (a ++ b)
  | [], _, _, h => h
  | (_, _) :: _, _, h1, h => ⟨h1.1, envSub_append h1.2 h⟩

theorem envSub_keep {env : List (Nat × AV)} : ∀ {ks : List Nat}, envSub env (ekeep env ks)
  | [] => trivial
  | _ :: _ => ⟨rfl, envSub_keep⟩

section
variable {P : Program} {T : TypeId → TI} {s : ASt} {Q : Exit → ASt → Prop} {c x y : Code} {np nt : Nat} {env env' : List (Nat × AV)} {hp : List ABlk}

theorem SImp.same (h : envSub env env') : SImp { np := np, nt := nt, env := env, hp := hp } { np := np, nt := nt, env := env', hp := hp } := by
  intro E ρ a w hr
  refine ⟨ρ, hr.np, hr.nodef, hr.nt, fun t => ?_, hr.heap, hr.pre⟩
  rcases envSub_get h t with e | e
  · simp only [e]; exact .any _
  · simp only [← e]; exact hr.env t

theorem AWP.loopK {ι : Type} (Inv : ι → Prop) (μ : ι → Nat) (st : ι → ASt) (h0 : ∃ i, Inv i ∧ SImp s (st i))
    (round : ∀ i, Inv i → AWP P c (st i) (thenA (fun s' => ∃ j, Inv j ∧ μ j < μ i ∧ SImp s' (st j)) Q)) : AWP P (.loop c) s Q := by
  refine AWP.loop (ι := { i : ι // Inv i }) (fun i => μ i.1) (fun i => st i.1) ?_ fun i => ?_
  · obtain ⟨i, h1, h2⟩ := h0
    exact ⟨⟨i, h1⟩, h2⟩
  · refine (round i.1 i.2).mono fun e s' hq => ?_
    cases e with
    | normal => obtain ⟨j, h1, h2, h3⟩ := hq; exact ⟨⟨j, h1⟩, h2, h3⟩
    | _ => exact hq

/-- A loop that leaves the call's own blocks alone: slots 'ks' are kept, the slots of 'upd' turn. -/
theorem AWP.loopS {ι : Type} (Inv : ι → Prop) (μ : ι → Nat) (ks : List Nat) (upd : ι → List (Nat × AV)) (i0 : ι) (hi : Inv i0) (hu : envSub env (upd i0))
    (round : ∀ i, Inv i → AWP P c { np := np, nt := nt, env := upd i ++ ekeep env ks, hp := hp }
      (thenA (fun s' => ∃ j, Inv j ∧ μ j < μ i ∧ SImp s' { np := np, nt := nt, env := upd j ++ ekeep env ks, hp := hp }) Q)) :
    AWP P (.loop c) { np := np, nt := nt, env := env, hp := hp } Q :=
  AWP.loopK Inv μ (fun i => { np := np, nt := nt, env := upd i ++ ekeep env ks, hp := hp }) ⟨i0, hi, SImp.same (envSub_append hu envSub_keep)⟩ round

/-- A loop that also turns the call's own blocks. -/
theorem AWP.loopB {ι : Type} (Inv : ι → Prop) (μ : ι → Nat) (ks : List Nat) (upd : ι → List (Nat × AV)) (hpf : ι → List ABlk) (i0 : ι) (hi : Inv i0)
    (hu : SImp { np := np, nt := nt, env := env, hp := hp } { np := np, nt := nt, env := upd i0 ++ ekeep env ks, hp := hpf i0 })
    (round : ∀ i, Inv i → AWP P c { np := np, nt := nt, env := upd i ++ ekeep env ks, hp := hpf i }
      (thenA (fun s' => ∃ j, Inv j ∧ μ j < μ i ∧ SImp s' { np := np, nt := nt, env := upd j ++ ekeep env ks, hp := hpf j }) Q)) :
    AWP P (.loop c) { np := np, nt := nt, env := env, hp := hp } Q :=
  AWP.loopK Inv μ (fun i => { np := np, nt := nt, env := upd i ++ ekeep env ks, hp := hpf i }) ⟨i0, hi, hu⟩ round

/-- The ways through a piece meet again, own blocks left alone. -/
theorem AWP.cutS {ι : Type} (Inv : ι → Prop) (ks : List Nat) (upd : ι → List (Nat × AV)) (h1 : AWP P x { np := np, nt := nt, env := env, hp := hp } (thenA (fun s' => ∃ i, Inv i ∧ SImp s' { np := np, nt := nt, env := upd i ++ ekeep env ks, hp := hp }) Q))
    (h2 : ∀ i, Inv i → AWP P y { np := np, nt := nt, env := upd i ++ ekeep env ks, hp := hp } Q) : AWP P (.seq x y) { np := np, nt := nt, env := env, hp := hp } Q :=
  AWP.seq (h1.mono fun e s' hq => by
    cases e with
    | normal => obtain ⟨i, hi, hs⟩ := hq; exact AWP.weaken hs (h2 i hi)
    | _ => exact hq)
/-! ### What is handed back -/
theorem AOut.of_simp {v v' : AV} {hp' : List ABlk} {R : AV → List ABlk → Prop} (h : SImp { np := np, nt := 1, env := [(0, v)], hp := hp } { np := np, nt := 1, env := [(0, v')], hp := hp' }) (h2 : AOut np hp' v' R) : AOut np hp v R := by
  intro E ρ w u hnp hH hpre hv
  have hr : Rep E { np := np, nt := 1, env := [(0, v)], hp := hp } ρ { tmps := #[u], defers := [] } w := by
    refine ⟨hnp, rfl, rfl, fun t => ?_, hH, hpre⟩
    simp only [aget]
    by_cases e : 0 = t
    · subst e; simpa using hv
    · rw [if_neg e]; exact .any _
  obtain ⟨ρ', hr'⟩ := h E ρ _ w hr
  have hv' := hr'.env 0
  simp only [aget, if_true] at hv'
  exact h2 E ρ' w u hr'.np hr'.heap hr'.pre (by simpa using hv')

theorem AOut.same {v : AV} {R : AV → List ABlk → Prop} (h : R v hp) : AOut np hp v R := fun _ ρ _ _ _ hH hpre hv => ⟨v, hp, ρ, h, hH, hpre, hv⟩

theorem AOut.post {v y x : AV} (h : AOut np hp v (ret y)) (hc : coeV y x) : AOut np hp v (ret x) := by
  intro E ρ w u h1 h2 h3 h4
  obtain ⟨v', hp', ρ', ⟨rfl, rfl⟩, q1, q2, q3⟩ := h E ρ w u h1 h2 h3 h4
  exact ⟨x, [], ρ', ⟨rfl, rfl⟩, q1, q2, coe_rep q3 x hc⟩

theorem aend_retc {T : TypeId → TI} {s : ASt} {e : Exit} {rs : List ResultVar} {x : AV} (he : e = .ret ∨ e = .normal) (h0 : s.np = 0) (h1 : (aresL T s rs).1)
    (h2 : frzOk s.hp (tupOf (aresL T s rs).2)) (h3 : noId (frzV s.hp (tupOf (aresL T s rs).2))) (hR : coeV (frzV s.hp (tupOf (aresL T s rs).2)) x) : aend T rs (ret x) e s := by
  have : AOut s.np s.hp (tupOf (aresL T s rs).2) (ret x) := by rw [h0]; exact AOut.post (AOut.data h2 h3 ⟨rfl, rfl⟩) hR
  rcases he with rfl | rfl
  · exact ⟨h1, this⟩
  · exact ⟨h1, this⟩

theorem aend_out {T : TypeId → TI} {s : ASt} {e : Exit} {rs : List ResultVar} {R : AV → List ABlk → Prop} (he : e = .ret ∨ e = .normal) (h1 : (aresL T s rs).1) (h2 : AOut s.np s.hp (tupOf (aresL T s rs).2) R) : aend T rs R e s := by
  rcases he with rfl | rfl
  · exact ⟨h1, h2⟩
  · exact ⟨h1, h2⟩

/-- The result is this, and these blocks of the callee's own are handed out with it. -/
def outs (x : AV) (bl : List ABlk) : AV → List ABlk → Prop := fun v hp => v = x ∧ hp = bl
abbrev own (sz : Nat) (rows : List (List DV)) : AV → List ABlk → Prop := outs (.osl 0 sz 0 rows.length) [.rows sz rows]

theorem AOut.own_at {sz n : Nat} {rs : List (List DV)} (k : Nat) (hk : hp[k]? = some (.rows sz rs)) (hn : n = rs.length) : AOut 0 hp (.osl k sz 0 n) (own sz rs) := by
  subst hn
  have hlt : k < hp.length := (List.getElem?_eq_some_iff.1 hk).1
  refine AOut.of_simp (v' := .osl 0 sz 0 rs.length) (hp' := [.rows sz rs]) (SImp.frame [k] rfl (fun i hi => by simp at hi; omega) (by simp) (fun k hk => by omega) ?_ ?_) (AOut.same ⟨rfl, rfl⟩)
  · exact ⟨⟨by simp [aget, renV, mAt], by simp [inV]⟩, trivial⟩
  · exact ⟨.inr ⟨by simp [mAt, renB, hk], by simp [inB]⟩, trivial⟩

theorem AOut.own_nil {sz : Nat} : AOut 0 hp (.d (.sc (.slice none 0 0))) (own sz []) := by
  refine AOut.of_simp (v' := .osl 0 sz 0 0) (hp' := [.rows sz []]) (SImp.trans (SImp.nilOwn 0 sz rfl) (SImp.frame [hp.length] rfl (fun i hi => by simp at hi; simp; omega) (by simp) (fun k hk => by omega) ?_ ?_)) (AOut.same ⟨rfl, rfl⟩)
  · exact ⟨⟨by simp [aget, renV, mAt], by simp [inV]⟩, trivial⟩
  · exact ⟨.inr ⟨by simp [mAt, renB], by simp [inB]⟩, trivial⟩

theorem aend_own {T : TypeId → TI} {s : ASt} {e : Exit} {rs : List ResultVar} {sz n : Nat} {rows : List (List DV)} (k : Nat) (he : e = .ret ∨ e = .normal) (h0 : s.np = 0) (h1 : (aresL T s rs).1)
    (hv : tupOf (aresL T s rs).2 = .osl k sz 0 n) (hk : s.hp[k]? = some (.rows sz rows)) (hn : n = rows.length) : aend T rs (own sz rows) e s :=
  aend_out he h1 (by rw [h0, hv]; exact AOut.own_at k hk hn)

theorem aend_nil {T : TypeId → TI} {s : ASt} {e : Exit} {rs : List ResultVar} {sz : Nat} (he : e = .ret ∨ e = .normal) (h0 : s.np = 0) (h1 : (aresL T s rs).1)
    (hv : tupOf (aresL T s rs).2 = .d (.sc (.slice none 0 0))) : aend T rs (own sz []) e s :=
  aend_out he h1 (by rw [h0, hv]; exact AOut.own_nil)

/-- A function that hands out blocks of its own may be said to hand out data. -/
theorem acall.frz {g : FuncId} {xs : List AV} {x y : AV} {bl : List ABlk} (c : acall P [] g xs (outs x bl)) (hf : frzOk bl x) (hn : noId (frzV bl x)) (hc : coeV (frzV bl x) y) : acall P [] g xs (ret y) := by
  refine ⟨c.1, fun E w us h1 h2 h3 => (c.2 E w us h1 h2 h3).mono fun e w' ⟨u, v, hp', ρ', q1, ⟨q2, q3⟩, q4, q5, q6⟩ => ?_⟩
  subst q2; subst q3
  have h0 : E.ρ0.length = 0 := by rw [h2.len]; rfl
  obtain ⟨v', hp2, ρ2, r1, r3, r4, r5⟩ := AOut.post (AOut.data hf hn (R := ret (frzV hp' v)) ⟨rfl, rfl⟩) hc E ρ' w' u h0 q4 q5 q6
  exact ⟨u, v', hp2, ρ2, q1, r1, r3, r4, r5⟩
end

section
variable {P : Program} {hp : List ABlk} {g : FuncId} {xs ys : List AV} {x : AV} {u0 : Value}
theorem acallH_scx {np : Nat} {K : AV → List ABlk → Prop} {t : Tok K} (c : acall P [] g ys (ret x)) (hsc : scalV x = some u0) (h : coeL (frzL hp xs) ys ∧ frzOks hp xs ∧ noIds (frzL hp xs)) (hK : K x hp) : acallHK P np hp g xs K t :=
  acallH_scc c h.1 hsc h.2.1 h.2.2 hK
theorem acallQ_scx {K : AV → Prop} {t : Tok K} (c : acall P [] g ys (ret x)) (hsc : scalV x = some u0) (h : coeL (frzL hp xs) ys ∧ frzOks hp xs ∧ noIds (frzL hp xs)) (hK : K x) : acallQK P hp g xs K t :=
  ⟨x, .inl (acallQ_of ((c.coe h.1).mono fun v hp' h => h.1) hsc h.2.1 h.2.2), hK⟩
theorem acallH_anyx {np : Nat} {bl : List ABlk} {K : AV → List ABlk → Prop} {t : Tok K} (c : acall P [] g ys (fun v h => v = x ∧ h = bl)) (h : (np = 0 ∨ idsL xs = []) ∧ coeL (frzL hp xs) ys ∧ frzOks hp xs ∧ noIds (frzL hp xs))
    (hK : K (renV (renm [] (killIds (idsL xs) hp).length) x) (killIds (idsL xs) hp ++ renBs (renm [] (killIds (idsL xs) hp).length) bl)) : acallHK P np hp g xs K t :=
  acallH_any c h.1 h.2.1 h.2.2.1 h.2.2.2 hK
theorem acallH_anyr {np : Nat} {bl : List ABlk} {K : AV → List ABlk → Prop} {t : Tok K} (c : acall P [] g ys (fun v h => v = x ∧ h = bl)) (e : xs = ys) (h : idsL xs = [] ∧ frzL hp xs = xs ∧ frzOks hp xs ∧ noIds xs)
    (hK : K (renV (renm [] hp.length) x) (hp ++ renBs (renm [] hp.length) bl)) : acallHK P np hp g xs K t := by
  subst e
  refine acallH_any c (.inr h.1) ?_ h.2.2.1 (by rw [h.2.1]; exact h.2.2.2) (by rw [h.1]; exact hK)
  rw [h.2.1]
  exact coeL_refl xs
end

theorem ekeep_nil (env : List (Nat × AV)) : ekeep env [] = [] := rfl
theorem ekeep_cons (env : List (Nat × AV)) (t : Nat) (r : List Nat) : ekeep env (t :: r) = (t, aget env t) :: ekeep env r := rfl
theorem envSub_nil (env : List (Nat × AV)) : envSub env [] = True := rfl
theorem envSub_cons (env : List (Nat × AV)) (t : Nat) (v : AV) (r : List (Nat × AV)) : envSub env ((t, v) :: r) = (aget env t = v ∧ envSub env r) := rfl
attribute [go_sem ↓] reduceIte
attribute [go_sem] reduceCtorEq Nat.reduceAdd Nat.reduceSub Nat.reduceMul Nat.reducePow Nat.reduceDiv Nat.reduceMod Nat.reduceLT Nat.reduceLeDiff Nat.reduceEqDiff Nat.reduceBEq Int.reduceToNat Int.reduceLT Int.reduceLE Int.reduceAdd Int.reduceSub Int.reduceMul Int.reducePow Int.reduceNeg Int.reduceEq
attribute [go_sem] Int.toNat_natCast Int.cast_ofNat_Int Bool.not_eq_true' Bool.not_eq_false' ge_iff_le gt_iff_lt ne_eq not_false_eq_true not_true_eq_false Nat.one_ne_zero beq_self_eq_true Bool.bne_false Nat.zero_add
attribute [go_sem] ekeep_nil ekeep_cons envSub_nil envSub_cons
theorem wrap_n (n : Int) (h1 : -9223372036854775808 ≤ n) (h2 : n ≤ 9223372036854775807) : IntKind.i64.wrap n = n := wrap_in n ⟨h1, h2⟩
theorem natAbs_cast (n : Nat) : ((n : Int)).toNat = n := Int.toNat_natCast n
end Go.Proofs.YtfnilhdofopoeabDoor
