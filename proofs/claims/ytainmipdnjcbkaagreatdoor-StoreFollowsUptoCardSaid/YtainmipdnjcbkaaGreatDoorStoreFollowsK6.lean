/- A part of what StoreFollows leans on: texts of this claim, one behind the other. No condition. -/
import Derived.Lib.Overlaps
import Derived.Lib.Strings
import Derived.Lib.Slices
import Derived.Lib.Walk
import Derived.Lib.Bytealg
import Derived.Test.YtainmipdnjcbkaaGreatDoorStoreFollowsK5
namespace Go.Proofs.YtainmipdnjcbkaaGreatDoor
set_option linter.unusedVariables false
set_option linter.unusedSimpArgs false
open Go Go.RowKit
def ekeep (env : List (Nat × AV)) : List Nat → List (Nat × AV)
  | [] => []
  | t :: r => (t, aget env t) :: ekeep env r
def envSub (env : List (Nat × AV)) : List (Nat × AV) → Prop
  | [] => True
  | (t, v) :: r => aget env t = v ∧ envSub env r
theorem envSub_get {env : List (Nat × AV)} : ∀ {env' : List (Nat × AV)}, envSub env env' → ∀ t, aget env' t = .any ∨ aget env t = aget env' t
  | [], _, _ => .inl rfl
  | (k, v) :: r, h, t => by
    simp only [aget]
    by_cases e : k = t
    · subst e; rw [if_pos rfl]; exact .inr h.1
    · rw [if_neg e]; exact envSub_get h.2 t
theorem envSub_append {env : List (Nat × AV)} : ∀ {a b : List (Nat × AV)}, envSub env a → envSub env b → envSub env (a ++ b)
  | [], _, _, h => h
  | (_, _) :: _, _, h1, h => ⟨h1.1, envSub_append h1.2 h⟩
theorem envSub_keep {env : List (Nat × AV)} : ∀ {ks : List Nat}, envSub env (ekeep env ks)
  | [] => trivial
  | _ :: _ => ⟨rfl, envSub_keep⟩
section
variable {P : Program} {T : TypeId → TI} {s : ASt} {Q : Exit → ASt → Prop} {c x y : Code} {np nt : Nat} {env env' : List (Nat × AV)} {hp : List ABlk}
theorem SImp.same (h : envSub env env') : SImp { np := np, nt := nt, env := env, hp := hp } { np := np, nt := nt, env := env', hp := hp } := by
  intro E ρ a w hr
  refine ⟨ρ, hr.np, hr.nodef, hr.nt, fun t => ?_, hr.heap, hr.pre⟩
  rcases envSub_get h t with e | e
  · simp only [e]; exact .any _
  · simp only [← e]; exact hr.env t
theorem AWP.loopK {ι : Type} (Inv : ι → Prop) (μ : ι → Nat) (st : ι → ASt) (h0 : ∃ i, Inv i ∧ SImp s (st i))
    (round : ∀ i, Inv i → AWP P c (st i) (thenA (fun s' => ∃ j, Inv j ∧ μ j < μ i ∧ SImp s' (st j)) Q)) : AWP P (.loop c) s Q := by
  refine AWP.loop (ι := { i : ι // Inv i }) (fun i => μ i.1) (fun i => st i.1) ?_ fun i => ?_
  · obtain ⟨i, h1, h2⟩ := h0
    exact ⟨⟨i, h1⟩, h2⟩
  · refine (round i.1 i.2).mono fun e s' hq => ?_
    cases e with
    | normal => obtain ⟨j, h1, h2, h3⟩ := hq; exact ⟨⟨j, h1⟩, h2, h3⟩
    | _ => exact hq
theorem AWP.loopS {ι : Type} (Inv : ι → Prop) (μ : ι → Nat) (ks : List Nat) (upd : ι → List (Nat × AV)) (i0 : ι) (hi : Inv i0) (hu : envSub env (upd i0))
    (round : ∀ i, Inv i → AWP P c { np := np, nt := nt, env := upd i ++ ekeep env ks, hp := hp }
      (thenA (fun s' => ∃ j, Inv j ∧ μ j < μ i ∧ SImp s' { np := np, nt := nt, env := upd j ++ ekeep env ks, hp := hp }) Q)) :
    AWP P (.loop c) { np := np, nt := nt, env := env, hp := hp } Q :=
  AWP.loopK Inv μ (fun i => { np := np, nt := nt, env := upd i ++ ekeep env ks, hp := hp }) ⟨i0, hi, SImp.same (envSub_append hu envSub_keep)⟩ round
theorem AWP.loopB {ι : Type} (Inv : ι → Prop) (μ : ι → Nat) (ks : List Nat) (upd : ι → List (Nat × AV)) (hpf : ι → List ABlk) (i0 : ι) (hi : Inv i0)
    (hu : SImp { np := np, nt := nt, env := env, hp := hp } { np := np, nt := nt, env := upd i0 ++ ekeep env ks, hp := hpf i0 })
    (round : ∀ i, Inv i → AWP P c { np := np, nt := nt, env := upd i ++ ekeep env ks, hp := hpf i }
      (thenA (fun s' => ∃ j, Inv j ∧ μ j < μ i ∧ SImp s' { np := np, nt := nt, env := upd j ++ ekeep env ks, hp := hpf j }) Q)) :
    AWP P (.loop c) { np := np, nt := nt, env := env, hp := hp } Q :=
  AWP.loopK Inv μ (fun i => { np := np, nt := nt, env := upd i ++ ekeep env ks, hp := hpf i }) ⟨i0, hi, hu⟩ round
theorem AOut.of_simp {v v' : AV} {hp' : List ABlk} {R : AV → List ABlk → Prop} (h : SImp { np := np, nt := 1, env := [(0, v)], hp := hp } { np := np, nt := 1, env := [(0, v')], hp := hp' }) (h2 : AOut np hp' v' R) : AOut np hp v R := by
  intro E ρ w u hnp hH hpre hv
  have hr : Rep E { np := np, nt := 1, env := [(0, v)], hp := hp } ρ { tmps := #[u], defers := [] } w := by
    refine ⟨hnp, rfl, rfl, fun t => ?_, hH, hpre⟩
    simp only [aget]
    by_cases e : 0 = t
    · subst e; simpa using hv
    · rw [if_neg e]; exact .any _
  obtain ⟨ρ', hr'⟩ := h E ρ _ w hr
  have hv' := hr'.env 0
  simp only [aget, if_true] at hv'
  exact h2 E ρ' w u hr'.np hr'.heap hr'.pre (by simpa using hv')
theorem AOut.same {v : AV} {R : AV → List ABlk → Prop} (h : R v hp) : AOut np hp v R := fun _ ρ _ _ _ hH hpre hv => ⟨v, hp, ρ, h, hH, hpre, hv⟩
theorem AOut.post {v y x : AV} (h : AOut np hp v (ret y)) (hc : coeV y x) : AOut np hp v (ret x) := by
  intro E ρ w u h1 h2 h3 h4
  obtain ⟨v', hp', ρ', ⟨rfl, rfl⟩, q1, q2, q3⟩ := h E ρ w u h1 h2 h3 h4
  exact ⟨x, [], ρ', ⟨rfl, rfl⟩, q1, q2, coe_rep q3 x hc⟩
theorem aend_retc {T : TypeId → TI} {s : ASt} {e : Exit} {rs : List ResultVar} {x : AV} (he : e = .ret ∨ e = .normal) (h0 : s.np = 0) (h1 : (aresL T s rs).1)
    (h2 : frzOk s.hp (tupOf (aresL T s rs).2)) (h3 : noId (frzV s.hp (tupOf (aresL T s rs).2))) (hR : coeV (frzV s.hp (tupOf (aresL T s rs).2)) x) : aend T rs (ret x) e s := by
  have : AOut s.np s.hp (tupOf (aresL T s rs).2) (ret x) := by rw [h0]; exact AOut.post (AOut.data h2 h3 ⟨rfl, rfl⟩) hR
  rcases he with rfl | rfl
  · exact ⟨h1, this⟩
  · exact ⟨h1, this⟩
theorem aend_out {T : TypeId → TI} {s : ASt} {e : Exit} {rs : List ResultVar} {R : AV → List ABlk → Prop} (he : e = .ret ∨ e = .normal) (h1 : (aresL T s rs).1) (h2 : AOut s.np s.hp (tupOf (aresL T s rs).2) R) : aend T rs R e s := by
  rcases he with rfl | rfl
  · exact ⟨h1, h2⟩
  · exact ⟨h1, h2⟩
def outs (x : AV) (bl : List ABlk) : AV → List ABlk → Prop := fun v hp => v = x ∧ hp = bl
abbrev own (sz : Nat) (rows : List (List DV)) : AV → List ABlk → Prop := outs (.osl 0 sz 0 rows.length) [.rows sz rows]
theorem AOut.own_at {sz n : Nat} {rs : List (List DV)} (k : Nat) (hk : hp[k]? = some (.rows sz rs)) (hn : n = rs.length) : AOut 0 hp (.osl k sz 0 n) (own sz rs) := by
  subst hn
  have hlt : k < hp.length := (List.getElem?_eq_some_iff.1 hk).1
  refine AOut.of_simp (v' := .osl 0 sz 0 rs.length) (hp' := [.rows sz rs]) (SImp.frame [k] rfl (fun i hi => by simp at hi; omega) (by simp) (fun k hk => by omega) ?_ ?_) (AOut.same ⟨rfl, rfl⟩)
  · exact ⟨⟨by simp [aget, renV, mAt], by simp [inV]⟩, trivial⟩
  · exact ⟨.inr ⟨by simp [mAt, renB, hk], by simp [inB]⟩, trivial⟩
theorem AOut.own_nil {sz : Nat} : AOut 0 hp (.d (.sc (.slice none 0 0))) (own sz []) := by
  refine AOut.of_simp (v' := .osl 0 sz 0 0) (hp' := [.rows sz []]) (SImp.trans (SImp.nilOwn 0 sz rfl) (SImp.frame [hp.length] rfl (fun i hi => by simp at hi; simp; omega) (by simp) (fun k hk => by omega) ?_ ?_)) (AOut.same ⟨rfl, rfl⟩)
  · exact ⟨⟨by simp [aget, renV, mAt], by simp [inV]⟩, trivial⟩
  · exact ⟨.inr ⟨by simp [mAt, renB], by simp [inB]⟩, trivial⟩
theorem aend_own {T : TypeId → TI} {s : ASt} {e : Exit} {rs : List ResultVar} {sz n : Nat} {rows : List (List DV)} (k : Nat) (he : e = .ret ∨ e = .normal) (h0 : s.np = 0) (h1 : (aresL T s rs).1)
    (hv : tupOf (aresL T s rs).2 = .osl k sz 0 n) (hk : s.hp[k]? = some (.rows sz rows)) (hn : n = rows.length) : aend T rs (own sz rows) e s :=
  aend_out he h1 (by rw [h0, hv]; exact AOut.own_at k hk hn)
theorem aend_nil {T : TypeId → TI} {s : ASt} {e : Exit} {rs : List ResultVar} {sz : Nat} (he : e = .ret ∨ e = .normal) (h0 : s.np = 0) (h1 : (aresL T s rs).1)
    (hv : tupOf (aresL T s rs).2 = .d (.sc (.slice none 0 0))) : aend T rs (own sz []) e s :=
  aend_out he h1 (by rw [h0, hv]; exact AOut.own_nil)
end
section
variable {P : Program} {hp : List ABlk} {g : FuncId} {xs ys : List AV} {x : AV} {u0 : Value}
theorem acallH_scx {np : Nat} {K : AV → List ABlk → Prop} {t : Tok K} (c : acall P [] g ys (ret x)) (hsc : scalV x = some u0) (h : coeL (frzL hp xs) ys ∧ frzOks hp xs ∧ noIds (frzL hp xs)) (hK : K x hp) : acallHK P np hp g xs K t :=
  acallH_scc c h.1 hsc h.2.1 h.2.2 hK
theorem acallQ_scx {K : AV → Prop} {t : Tok K} (c : acall P [] g ys (ret x)) (hsc : scalV x = some u0) (h : coeL (frzL hp xs) ys ∧ frzOks hp xs ∧ noIds (frzL hp xs)) (hK : K x) : acallQK P hp g xs K t :=
  ⟨x, .inl (acallQ_of ((c.coe h.1).mono fun v hp' h => h.1) hsc h.2.1 h.2.2), hK⟩
theorem zy {np : Nat} {bl : List ABlk} {K : AV → List ABlk → Prop} {t : Tok K} (c : acall P [] g ys (fun v h => v = x ∧ h = bl)) (h : (np = 0 ∨ idsL xs = []) ∧ coeL (frzL hp xs) ys ∧ frzOks hp xs ∧ noIds (frzL hp xs))
    (hK : K (renV (renm [] (killIds (idsL xs) hp).length) x) (killIds (idsL xs) hp ++ renBs (renm [] (killIds (idsL xs) hp).length) bl)) : acallHK P np hp g xs K t :=
  acallH_any c h.1 h.2.1 h.2.2.1 h.2.2.2 hK
theorem acallH_anyr {np : Nat} {bl : List ABlk} {K : AV → List ABlk → Prop} {t : Tok K} (c : acall P [] g ys (fun v h => v = x ∧ h = bl)) (e : xs = ys) (h : idsL xs = [] ∧ frzL hp xs = xs ∧ frzOks hp xs ∧ noIds xs)
    (hK : K (renV (renm [] hp.length) x) (hp ++ renBs (renm [] hp.length) bl)) : acallHK P np hp g xs K t := by
  subst e
  refine acallH_any c (.inr h.1) ?_ h.2.2.1 (by rw [h.2.1]; exact h.2.2.2) (by rw [h.1]; exact hK)
  rw [h.2.1]
  exact coeL_refl xs
end
theorem ekeep_nil (env : List (Nat × AV)) : ekeep env [] = [] := rfl
theorem ekeep_cons (env : List (Nat × AV)) (t : Nat) (r : List Nat) : ekeep env (t :: r) = (t, aget env t) :: ekeep env r := rfl
theorem envSub_nil (env : List (Nat × AV)) : envSub env [] = True := rfl
theorem envSub_cons (env : List (Nat × AV)) (t : Nat) (v : AV) (r : List (Nat × AV)) : envSub env ((t, v) :: r) = (aget env t = v ∧ envSub env r) := rfl
attribute [go_sem ↓] reduceIte
attribute [go_sem] reduceCtorEq Nat.reduceAdd Nat.reduceSub Nat.reduceMul Nat.reducePow Nat.reduceDiv Nat.reduceMod Nat.reduceLT Nat.reduceLeDiff Nat.reduceEqDiff Nat.reduceBEq Int.reduceToNat Int.reduceLT Int.reduceLE Int.reduceAdd Int.reduceSub Int.reduceMul Int.reducePow Int.reduceNeg Int.reduceEq
attribute [go_sem] Int.toNat_natCast Int.cast_ofNat_Int Bool.not_eq_true' Bool.not_eq_false' ge_iff_le gt_iff_lt ne_eq not_false_eq_true not_true_eq_false Nat.one_ne_zero beq_self_eq_true Bool.bne_false Nat.zero_add
attribute [go_sem] ekeep_nil ekeep_cons envSub_nil envSub_cons
theorem wn (n : Int) (h1 : -9223372036854775808 ≤ n) (h2 : n ≤ 9223372036854775807) : IntKind.i64.wrap n = n := wrap_in n ⟨h1, h2⟩
end Go.Proofs.YtainmipdnjcbkaaGreatDoor
namespace Go.Proofs.YtainmipdnjcbkaaGreatDoor
set_option linter.unusedVariables false
set_option linter.unusedSimpArgs false
open Go Go.RowKit
def inl (K : AV → List ABlk → Prop) : AV → List ABlk → Prop := K
section
variable {P : Program} {T : TypeId → TI} {np : Nat} {hp : List ABlk} {g : FuncId} {xs : List AV} {K : AV → List ABlk → Prop} {t : Tok K}
theorem zh (h : ∀ K' : AV → List ABlk → Prop, (∀ v hp, K v hp → K' v hp) → acall P hp g xs (inl K')) : acallHK P np hp g xs K t := by
  have c := h K fun _ _ h => h
  refine .inl ⟨c.1, fun E ρ w us _ hH hus => ?_⟩
  let E' : Ent := { w0 := w, L0 := fun b => Live ρ hp b, S0 := fun b => okB E ρ hp w b, ρ0 := ρ, hS := fun b h => ⟨h.2.1, h.2.2⟩, hL := fun b ⟨k, _, q, _, _, hk⟩ => ⟨k, q, hk⟩, hT := hH.tabsAt, hTL := fun p hp' hl => hH.tabLive hp' hl }
  have hokc : ∀ b, okB E ρ hp w b → okB E' ρ hp w b ∧ w.heap[b]? = w.heap[b]? := fun b hb => ⟨⟨.inl hb, hb.2.1, hb.2.2⟩, rfl⟩
  have hE : RepH E' ρ hp w := by
    refine ⟨hH.len, fun k x b q hx hk hd => ?_, hH.nil, hH.inj, Fr.refl _ _⟩
    obtain ⟨_, o, q2, q3⟩ := hH.obj k x b q hx hk hd
    exact ⟨.inl ⟨k, x, q, hx, hd, hk⟩, o, q2, q3.mono (fun _ _ h => h) hokc⟩
  have hav : RepVs ρ (okB E' ρ hp w) w xs us := ⟨hus.1, fun j x u hx hu => (hus.2 j x u hx hu).mono (fun _ _ h => h) hokc⟩
  refine (c.2 E' w us rfl hE hav).mono fun e w' hh => ?_
  obtain ⟨u, v, hp', ρ', h1, h2, h3, h4, h5⟩ := hh
  have hsz0 := hH.fr.size
  have hokE : ∀ b, okB E' ρ' hp' w' b → okB E ρ' hp' w' b ∧ w'.heap[b]? = w'.heap[b]? := by
    intro b ⟨b1, b2, b3⟩
    refine ⟨⟨?_, b2, b3⟩, rfl⟩
    rcases b1 with b1 | b1
    · exact b1.1
    · exact .inr (Nat.le_trans hsz0 b1)
  have hcb : ∀ b, Live ρ' hp' b → (Live ρ hp b ∨ w.heap.size ≤ b) := by
    intro b ⟨i, x, q, hx, hd, hi⟩
    exact (h3.obj i x b q hx hi hd).1
  have hokC : ∀ b, okB E ρ hp w b → okB E ρ' hp' w' b ∧ w'.heap[b]? = w.heap[b]? := by
    intro b ⟨b1, b2, b3⟩
    refine ⟨⟨b1, Nat.lt_of_lt_of_le b2 h3.fr.size, fun hl => ?_⟩, h3.fr.block b b2 b3⟩
    rcases hcb b hl with hl | hl
    · exact b3 hl
    · omega
  refine ⟨u, v, hp', ρ', h1, h2, ⟨⟨h3.len, fun k x b q hx hk hd => ?_, h3.nil, h3.inj, ?_⟩, h4, hokC⟩, h5.mono (fun _ _ h => h) hokE⟩
  · obtain ⟨q1, o, q2, q3⟩ := h3.obj k x b q hx hk hd
    refine ⟨?_, o, q2, q3.mono (fun _ _ h => h) hokE⟩
    rcases q1 with ⟨k', z, q', hz, hzd, hk'⟩ | q1
    · exact (hH.obj k' z b q' hz hk' hzd).1
    · exact .inr (Nat.le_trans hsz0 q1)
  · refine ⟨h3.fr.os.trans hH.fr.os, h3.fr.tape.trans hH.fr.tape, h3.fr.output.trans hH.fr.output, Nat.le_trans hsz0 h3.fr.size, fun b hb hL => ?_⟩
    have : w'.heap[b]? = w.heap[b]? := h3.fr.block b (Nat.lt_of_lt_of_le hb hsz0) (fun hl => by
      obtain ⟨k, x, q, hx, hd, hk⟩ := hl
      rcases (hH.obj k x b q hx hk hd).1 with c1 | c1
      · exact hL c1
      · omega)
    exact this.trans (hH.fr.block b hb hL)
theorem zw {s : ASt} {e : Exit} {rs : List ResultVar} {v : AV} {K0 : AV → List ABlk → Prop} (hK : ∀ v hp, K0 v hp → K v hp) (he : e = .ret ∨ e = .normal) (h1 : (aresL T s rs).1) (hv : tupOf (aresL T s rs).2 = v) (h : K0 v s.hp) :
    aend T rs (inl K) e s := by
  subst hv
  have h := hK _ _ h
  have : AOut s.np s.hp (tupOf (aresL T s rs).2) (inl K) := AOut.same h
  rcases he with rfl | rfl
  · exact ⟨h1, this⟩
  · exact ⟨h1, this⟩
end
section
variable {P : Program} {T : TypeId → TI} {E : Ent} {ρ : List (Option (Nat × Nat))} {w : World} {np nt : Nat} {env : List (Nat × AV)} {hp : List ABlk} {c : Code} {Q : Exit → ASt → Prop}
theorem HStep.redo (h : RepH E ρ hp w) {k b m : Nat} {x x' : ABlk} (hx : hp[k]? = some x) (hd : x ≠ .dead) (hd' : x' ≠ .dead) (hk : ρ[k]? = some (some (b, m))) (hb0 : ∀ l, x ≠ .bytes l)
    (hb : ∀ us ty fz, w.heap[b]? = some (.cells us ty fz) → us.size = m → RepBlk ρ (okB E ρ hp w) w us x → RepBlk ρ (okB E ρ hp w) w us x') (hm : x.isObj = false := by rfl) (hm' : x'.isObj = false := by rfl) : HStep E ρ hp w ρ (hp.set k x') w := by
  obtain ⟨_, us, ty, fz, q2, q3, _, q5⟩ := h.blk k x b m hx hk ⟨hd, hm⟩
  have := HStep.set h hx hd hd' hk q2 (us' := us) rfl (fun l e => absurd e (hb0 l)) (hb us ty fz q2 q3 q5) hm hm'
  rwa [setB_self w b _ q2] at this
theorem AWP.reveal (t : Nat) {k sz off n : Nat} {rs : List (List DV)} (ht : aget env t = .osl k sz off n) (hn : 0 < n) (hk : hp[k]? = some (.rows sz rs)) (hpos : 0 < sz)
    (h : ∀ junk : List (List DV), (∀ r, r ∈ junk → r.length = sz) → off + n ≤ (rs ++ junk).length → AWP P c { np := np, nt := nt, env := env, hp := hp.set k (.full sz (rs ++ junk)) } Q) :
    AWP P c { np := np, nt := nt, env := env, hp := hp } Q := by
  intro E ρ a w hr
  have hv := hr.env t
  simp only [ht] at hv
  generalize hu : a.tmps.getD t undef = u at hv
  cases hv with
  | oslnil _ _ A _ => omega
  | osl _ _ _ _ b m cap hkk hm hnc =>
    obtain ⟨_, us, ty, fz, q2, q3, _, hone, hrl, hsz, hrr⟩ := hr.heap.blk k _ b m hk hkk (by simp)
    have hM : rs.length ≤ off + cap := by
      rw [← hm] at q3
      rw [q3] at hsz
      exact Nat.le_of_mul_le_mul_right hsz hpos
    let junk : List (List DV) := (List.range (off + cap - rs.length)).map fun i => (List.range sz).map fun j => DV.sc (us.getD ((rs.length + i) * sz + j) undef)
    have hjl : ∀ r, r ∈ junk → r.length = sz := fun r hr => by
      obtain ⟨i, _, rfl⟩ := List.mem_map.1 hr
      simp
    have hjn : junk.length = off + cap - rs.length := by simp [junk]
    have hst : HStep E ρ hp w ρ (hp.set k (.full sz (rs ++ junk))) w := by
      refine HStep.redo hr.heap hk (by simp) (by simp) hkk (by simp) fun us' ty' fz' hw' hm' _ => ?_
      rw [q2] at hw'
      injection hw' with hw'; injection hw' with e1 e2 e3
      subst e1
      refine ⟨hone, fun r hr => ?_, ?_, fun i r hi j c u hj hu => ?_⟩
      · rcases List.mem_append.1 hr with hr | hr
        · exact hrl r hr
        · exact hjl r hr
      · rw [List.length_append, hjn, q3, ← hm]; congr 1; omega
      · by_cases hil : i < rs.length
        · rw [List.getElem?_append_left hil] at hi
          exact hrr i r hi j c u hj hu
        · rw [List.getElem?_append_right (by omega)] at hi
          simp only [junk, List.getElem?_map] at hi
          obtain ⟨i', hi', rfl⟩ := Option.map_eq_some_iff.1 hi
          obtain ⟨hi1, hi2⟩ := List.getElem?_eq_some_iff.1 hi'
          simp only [List.getElem_range] at hi2
          subst hi2
          rw [List.getElem?_map] at hj
          obtain ⟨j', hj', rfl⟩ := Option.map_eq_some_iff.1 hj
          obtain ⟨hj1, hj2⟩ := List.getElem?_eq_some_iff.1 hj'
          simp only [List.getElem_range] at hj2
          subst hj2
          have e : rs.length + (i - rs.length) = i := by omega
          rw [e]
          obtain ⟨hu1, hu2⟩ := Array.getElem?_eq_some_iff.1 hu
          have : us.getD (i * sz + j) undef = u := by rw [Array.getD_eq_getD_getElem?, hu]; rfl
          rw [this]
          refine .sc u (hone u ?_)
          rw [← hu2]; exact Array.getElem_mem_toList hu1
    exact h junk hjl (by rw [List.length_append, hjn]; omega) E ρ a w (hr.step hst)
theorem SImp.nilOwnC (k j sz : Nat) {cs : List AV} (hk : hp[k]? = some (.cells cs)) (hj : cs[j]? = some (.d (.sc (.slice none 0 0)))) :
    SImp { np := np, nt := nt, env := env, hp := hp } { np := np, nt := nt, env := env, hp := hp.set k (.cells (cs.set j (.osl hp.length sz 0 0))) ++ [.rows sz []] } := by
  intro E ρ a w h
  have hl := h.heap.len
  simp only at hl
  have hkl : k < hp.length := (List.getElem?_eq_some_iff.1 hk).1
  have hst := HStep.nilRow h.heap sz
  have hr := h.step hst
  have hkp : ∃ p, ρ[k]? = some p := ⟨ρ[k]'(by omega), List.getElem?_eq_getElem (by omega)⟩
  obtain ⟨p, hkp⟩ := hkp
  cases p with
  | none => rcases h.heap.nil k _ hk hkp with e | ⟨_, e⟩ <;> cases e
  | some bm =>
    obtain ⟨b, m⟩ := bm
    have hst2 := HStep.redo (x' := .cells (cs.set j (.osl hp.length sz 0 0))) hr.heap (get_append_old hk) (by simp) (by simp) (get_append_old hkp) (by simp) fun us ty fz hw hm ⟨h1, h2, h3⟩ => ⟨h1, by simp [h2], fun j' c u hc hu => by
      rcases zs hc with ⟨e, e', _⟩ | ⟨_, hc⟩
      · subst e; subst e'
        have := h3 _ _ _ hj hu
        cases this with | d _ _ hd =>
        obtain ⟨A, rfl⟩ := sc_nil hd
        exact .oslnil _ _ A (by rw [← hl]; simp)
      · exact h3 _ _ _ hc hu⟩
    rw [List.set_append_left _ _ hkl] at hst2
    have := hr.step hst2
    exact ⟨_, this⟩
theorem AOut.moved {k sz n : Nat} {rs : List (List DV)} {R : AV → List ABlk → Prop} (hk : hp[k]? = some (.full sz rs)) (hR : AOut np (hp.set k .dead ++ [.rows sz (rs.take n)]) (.osl hp.length sz 0 n) R) : AOut np hp (.osl k sz 0 n) R := by
  intro E ρ w u hnp hH hpre hv
  cases hv with
  | oslnil _ _ A h => exact absurd h (hH.blks.2 k _ _ hk)
  | osl _ _ _ _ b m cap hkk hm hn =>
    have hst1 : HStep E ρ hp w ρ (hp.set k (.rows sz (rs.take n))) w := HStep.redo hH hk (by simp) (by simp) hkk (by simp) fun us ty fz hw hm' ⟨h1, h2, h3, h4⟩ => by
      refine ⟨h1, fun r hr => h2 r (List.mem_of_mem_take hr), ?_, fun i r hi j c u hj hu => ?_⟩
      · rw [← h3]; exact Nat.mul_le_mul_right _ (by simp; omega)
      · rw [List.getElem?_take] at hi
        split at hi
        · exact h4 i r hi j c u hj hu
        · cases hi
    have hgk : (hp.set k (.rows sz (rs.take n)))[k]? = some (.rows sz (rs.take n)) := by
      have := (List.getElem?_eq_some_iff.1 hk).1
      simp [this]
    have hst2 := HStep.move hst1.heap hgk (by simp) hkk
    rw [List.set_set] at hst2
    refine hR E (ρ ++ [some (b, m)]) w _ hnp hst2.heap (fun k p hk => get_append_old (hpre k p hk)) ?_
    have hl := hH.len
    exact .osl _ _ _ _ b m cap (by rw [← hl]; simp) hm hn
theorem AOut.framed (m : List Nat) {v v' : AV} {hp' : List ABlk} {R : AV → List ABlk → Prop} (hl : hp'.length = m.length) (hm : ∀ i, i ∈ m → i < hp.length) (hinj : m.Nodup) (hpre : ∀ k, k < np → m[k]? = some k)
    (he : v = renV (mAt m hp.length) v' ∧ inV m.length v') (hh : hpLe (mAt m hp.length) m.length hp 0 hp') (hR : AOut np hp' v' R) : AOut np hp v R :=
  AOut.of_simp (SImp.frame m hl hm hinj hpre ⟨⟨by simpa [aget] using he.1, he.2⟩, trivial⟩ hh) hR
theorem frozen_cells {b o : Nat} {us : Array Value} {ty : TypeId} {fz : Nat × Nat} (h : w.heap[b]? = some (.cells us ty fz)) : w.frozen? ⟨b, o, none⟩ = decide (fz.1 ≤ o ∧ o < fz.2) := by
  simp [World.frozen?, h]
theorem ext_overlaps {g : FuncId} {fn : Func} {tS tR e : TypeId} (hf : P.funcs[g]? = some fn) (hn : (fn.name == "runtime.NumGoroutine") = false) (hb : fn.body.isNone = true) (hx : Extern.findNext fn = none)
    (he : Extern.find fn = some (Extern.SlicesOverlaps.overlaps #[tS, tS] #[tR])) (hT : TabOk P T) (ht : (T tS).kind = .slice e) (hko : (T e).kind ≠ .other) {k k' sz off off' n n' : Nat} {x x' : ABlk} {rs rs' : List (List DV)}
    {f f' : List (List DV) → ABlk} (hk : hp[k]? = some x) (hr : isRow x sz rs f) (hk' : hp[k']? = some x') (hr' : isRow x' sz rs' f') (hne : k ≠ k') (h1 : 0 < n) (h2 : 0 < n') (hpos : 0 < sz) :
    aextQ P hp g [.osl k sz off n, .osl k' sz off' n'] (B false) := by
  intro E ρ w us hH hus
  refine ⟨.bool false, .d _ _ (.bool _), fun w' hbl => ?_⟩
  have hxd : (x ≠ .dead ∧ x.isObj = false) ∧ ∀ l, x ≠ .bytes l := by rcases hr with ⟨rfl, _⟩ | ⟨rfl, _⟩ <;> simp
  have hxd' : x' ≠ .dead ∧ x'.isObj = false := by rcases hr' with ⟨rfl, _⟩ | ⟨rfl, _⟩ <;> simp
  match us, hus with
  | [u, u'], hus =>
    have hu := hus.2 0 _ u rfl rfl
    have hu' := hus.2 1 _ u' rfl rfl
    cases hu with
    | oslnil _ _ A _ => omega
    | osl _ _ _ _ b m cap hkk hm hnc =>
      cases hu' with
      | oslnil _ _ A _ => omega
      | osl _ _ _ _ b' m' cap' hkk' hm' hnc' =>
        obtain ⟨_, cs, ty, fz, q2, q3, q4, _⟩ := hH.blk k x b m hk hkk hxd.1
        obtain ⟨_, cs', ty', fz', q2', q3', q4', _⟩ := hH.blk k' x' b' m' hk' hkk' hxd'
        have hbb : b ≠ b' := fun e => hne (hH.inj k k' x x' b m m' hk hk' hxd.1.1 hxd'.1 hkk (e ▸ hkk'))
        have e1 : w'.heap[b]? = some (.cells cs ty fz) := (hbl.block b (lt_of_heap q2)).trans q2
        have e2 : w'.heap[b']? = some (.cells cs' ty' fz') := (hbl.block b' (lt_of_heap q2')).trans q2'
        have hmm : off * sz < cs.size := by
          rw [q3, ← hm]
          exact Nat.mul_lt_mul_of_pos_right (by omega) hpos
        have hmm' : cs'.size ≠ 0 := by
          rw [q3', ← hm']
          exact Nat.ne_of_gt (Nat.mul_pos (by omega) hpos)
        have hpl : ¬ (fz.1 ≤ cs.size ∧ cs.size < fz.2) := by
          rcases q4.2 with ⟨l, hl⟩ | h
          · exact absurd hl (hxd.2 l)
          · exact h
        rw [run_callFunc_extern hf hn hb hx he]
        have := Lib.run_overlaps_apart (P := P) w' tS tR e (und_slice hT ht) (T e).size (fun w => run_sizeOf_tab hT hko w) ⟨b, off * sz, none⟩ ⟨b', off' * sz, none⟩ n cap n' cap' hbb ty ty' cs.size cs'.size
          (by simp [World.shape?, e1]) (by simp [World.shape?, e2]) hmm' (by rw [frozen_cells e1]; simpa using q4.1 _ hmm) (by rw [frozen_cells e1]; simpa using hpl)
        rw [this]
        rfl
end
theorem acall.re {P : Program} {hp : List ABlk} {g : FuncId} {xs : List AV} {x y : AV} (c : acall P hp g xs (ret x)) (e : x = y) : acall P hp g xs (ret y) := e ▸ c
theorem AWP.quietC {P : Program} {T : TypeId → TI} {s : ASt} {Q : Exit → ASt → Prop} {id : Nat} {l : List Oper} (hm : P.follows .mixedOrders = true) (hT : TabOk P T) (hB : (calm l.toArray && Region.lexB .any l.toArray) = true) (h : ∀ K : ASt → Prop, (∀ s', Q .normal s' → K s') → aopsQ P T l.toArray K l s) :
    AWP P (.region id l.toArray true) s Q := by
  rw [Bool.and_eq_true] at hB
  exact AWP.quiet hm hT hB.2 h
theorem acallH_own {P : Program} {np : Nat} {hp : List ABlk} {g : FuncId} {xs : List AV} {K : AV → List ABlk → Prop} {t : Tok K} {chp bl : List ABlk} {cargs : List AV} {x : AV} (c : acall P chp g cargs (outs x bl))
    (exs : renL (mAt (idsL xs) hp.length) cargs = xs) (h : chp.length = (idsL xs).length ∧ (idsL xs).Nodup ∧ (∀ i, i ∈ idsL xs → i < hp.length) ∧ inL (idsL xs).length cargs ∧ hpLe (mAt (idsL xs) hp.length) (idsL xs).length hp 0 chp)
    (hK : K (renV (renm (idsL xs) hp.length) x) (putAll (renm (idsL xs) hp.length) hp (idsL xs) bl ++ renBs (renm (idsL xs) hp.length) (bl.drop (idsL xs).length))) : acallHK P np hp g xs K t := by
  have := acallH_ptr (hp := hp) (K := K) (idsL xs) c h.1 h.2.1 h.2.2.1 h.2.2.2.1 h.2.2.2.2 (fun v hp' hR => by
    obtain ⟨rfl, rfl⟩ := hR
    exact hK)
  rw [exs] at this
  exact acallHK_of this
theorem acallHK_ext {P : Program} {np : Nat} {hp : List ABlk} {g : FuncId} {xs : List AV} {K : AV → List ABlk → Prop} {t : Tok K} {v : AV} (h : aextQ P hp g xs v) (hK : K v hp) : acallHK P np hp g xs K t := .inr ⟨v, h, hK⟩
theorem AOut.done {np : Nat} {hp bl : List ABlk} {v x : AV} (h1 : v = x) (h2 : hp = bl) : AOut np hp v (outs x bl) := by subst h1; subst h2; exact AOut.same ⟨rfl, rfl⟩
theorem osl_if0 (i k sz b : Nat) [Decidable (i = 0)] : (if i = 0 then AV.osl k sz 0 b else AV.osl k sz i (b - i)) = .osl k sz i (b - i) := by
  split
  · rename_i h; subst h; simp
  · rfl
theorem osl_if1 (i k sz off b : Nat) [Decidable (i = 0)] : (if i = 0 then AV.osl k sz off b else AV.osl k sz (off + i) (b - i)) = .osl k sz (off + i) (b - i) := by
  split
  · rename_i h; subst h; simp
  · rfl
section
variable {P : Program} {T : TypeId → TI} {np nt : Nat} {env : List (Nat × AV)} {hp : List ABlk} {c x y : Code} {Q : Exit → ASt → Prop} {s : ASt}
theorem SImp.moveOwn (t : Nat) {k sz off n : Nat} {z : ABlk} (ht : aget env t = .osl k sz off n) (hk : hp[k]? = some z) (hd : z ≠ .dead) :
    SImp { np := np, nt := nt, env := env, hp := hp } { np := np, nt := nt, env := (t, .osl hp.length sz off n) :: env, hp := hp.set k .dead ++ [z] } := by
  intro E ρ a w h
  have hl := h.heap.len
  simp only at hl
  have hkl : k < ρ.length := by rw [hl]; exact (List.getElem?_eq_some_iff.1 hk).1
  have hst := HStep.move h.heap hk hd (List.getElem?_eq_getElem hkl)
  have hr := h.step hst
  refine ⟨_, hr.np, hr.nodef, hr.nt, fun t' => ?_, hr.heap, hr.pre⟩
  simp only [aget]
  by_cases e : t = t'
  · subst e
    simp only [if_true]
    have := h.env t
    simp only [ht] at this
    generalize hu : a.tmps.getD t undef = u at this
    cases this with
    | osl _ _ _ _ b m cap hkk hm hn =>
      refine .osl _ _ _ _ b m cap ?_ hm hn
      rw [List.getElem?_eq_getElem hkl] at hkk
      rw [List.getElem?_append_right (by omega), hl, Nat.sub_self]
      simpa using hkk
    | oslnil _ _ A hkk =>
      refine .oslnil _ _ A ?_
      rw [List.getElem?_eq_getElem hkl] at hkk
      rw [List.getElem?_append_right (by omega), hl, Nat.sub_self]
      simpa using hkk
  · simp only [e, if_false]
    exact hr.env t'
theorem AWP.meet (st : ASt) (h1 : AWP P x s (thenA (fun s' => SImp s' st) Q)) (h2 : AWP P y st Q) : AWP P x s (thenA (fun s' => AWP P y s' Q) Q) :=
  h1.mono fun e s' hq => by
    cases e with
    | normal => exact AWP.weaken hq h2
    | _ => exact hq
theorem AWP.meetB (ks : List Nat) (upd : List (Nat × AV)) (hp' : List ABlk) (h1 : AWP P x { np := np, nt := nt, env := env, hp := hp } (thenA (fun s' => SImp s' { np := np, nt := nt, env := upd ++ ekeep env ks, hp := hp' }) Q))
    (h2 : AWP P y { np := np, nt := nt, env := upd ++ ekeep env ks, hp := hp' } Q) : AWP P x { np := np, nt := nt, env := env, hp := hp } (thenA (fun s' => AWP P y s' Q) Q) := AWP.meet _ h1 h2
end
attribute [go_sem] amakeMap.eq_def amapSet.eq_def amapLook.eq_def isStrIntMap.eq_def osl_if0 osl_if1 Option.isSome_some Option.isSome_none inOrd inOrdG isEffQ.eq_def List.filter_cons List.filter_nil acap.eq_def aslOwnF.eq_def aslFull.eq_def srcApp.eq_def isIntK.eq_def appFull.eq_def aappendF.eq_def copyTo.eq_def copyCells.eq_def isSlK.eq_def acopy.eq_def clearTo.eq_def aclear.eq_def u8val.eq_def isU8.eq_def astoreX.eq_def
theorem hcs : (∀ (p : Prop) [Decidable p], (decide p = true) = p) ∧ (∀ (p : Prop) [Decidable p], (decide p = false) ↔ ¬ p) ∧ (∀ a b : Bool, ((a && b) = true) = (a = true ∧ b = true)) ∧ (∀ a b : Bool, ((a || b) = true) = (a = true ∨ b = true)) ∧
    (∀ a b : Bool, ((a || b) = false) ↔ (a = false ∧ b = false)) ∧ (∀ a b : Bool, ((a && b) = false) ↔ (a = false ∨ b = false)) ∧ (∀ b : Bool, ((!b) = true) = (b = false)) ∧ (∀ b : Bool, ((!b) = false) = (b = true)) ∧ ((true = false) = False) ∧ ((false = true) = False) ∧
    (∀ b : Bool, (¬ b = true) = (b = false)) ∧ (∀ b : Bool, (¬ b = false) = (b = true)) ∧ (∀ a b : Int, ¬ a < b ↔ b ≤ a) ∧ (∀ a b : Int, ¬ a ≤ b ↔ b < a) ∧ (∀ a b : Nat, ¬ a < b ↔ b ≤ a) ∧ (∀ a b : Nat, ¬ a ≤ b ↔ b < a) ∧
    (∀ a b : Nat, (a : Int) < (b : Int) ↔ a < b) ∧ (∀ a b : Nat, (a : Int) ≤ (b : Int) ↔ a ≤ b) ∧ (∀ a : Nat, (a : Int) = 0 ↔ a = 0) ∧ ((¬ True) = False) ∧ ((¬ False) = True) ∧ ((!true) = false) ∧ ((!false) = true) :=
  ⟨fun _ _ => decide_eq_true_eq, fun _ _ => decide_eq_false_iff_not, Bool.and_eq_true, Bool.or_eq_true, fun _ _ => Bool.or_eq_false_iff, fun _ _ => Bool.and_eq_false_iff, Bool.not_eq_true', Bool.not_eq_false', Bool.true_eq_false, Bool.false_eq_true,
    Bool.not_eq_true, Bool.not_eq_false, fun _ _ => Int.not_lt, fun _ _ => Int.not_le, fun _ _ => Nat.not_lt, fun _ _ => Nat.not_le, fun _ _ => Int.ofNat_lt, fun _ _ => Int.ofNat_le, fun _ => Int.natCast_eq_zero, not_true_eq_false, not_false_eq_true, Bool.not_true, Bool.not_false⟩
theorem inj : (∀ a b, (AV.d a = AV.d b) = (a = b)) ∧ (∀ k n k' n', (DV.int k n = DV.int k' n') = (k = k' ∧ n = n')) ∧ (∀ a b, (DV.bool a = DV.bool b) = (a = b)) ∧ (∀ a b, (DV.str a = DV.str b) = (a = b)) ∧ (∀ k n k' n', (DV.sl k n = DV.sl k' n') = (k = k' ∧ n = n')) ∧
    (∀ a b, (AV.tup a = AV.tup b) = (a = b)) ∧ (∀ a b, (AV.agg a = AV.agg b) = (a = b)) ∧ (∀ a b c d a' b' c' d', (AV.osl a b c d = AV.osl a' b' c' d') = (a = a' ∧ b = b' ∧ c = c' ∧ d = d')) ∧ (∀ a b a' b', (AV.ptr a b = AV.ptr a' b') = (a = a' ∧ b = b')) ∧
    (∀ a b c d a' b' c' d', (AV.rp a b c d = AV.rp a' b' c' d') = (a = a' ∧ b = b' ∧ c = c' ∧ d = d')) := by simp
end Go.Proofs.YtainmipdnjcbkaaGreatDoor
namespace Go.Proofs.YtainmipdnjcbkaaGreatDoor
set_option linter.unusedVariables false
set_option linter.unusedSimpArgs false
open Go Go.RowKit
def irow (n : Int) : List DV := [.int .i64 n]
def srow (s : List UInt8) : List DV := [.str s]
theorem getD_row {α : Type} [Inhabited α] (f : α → List DV) (l : List α) (i : Nat) (z : List DV) (h : i < l.length) : (l.map f).getD i z = f (l.getD i default) := by
  rw [List.getD_eq_getElem?_getD, List.getD_eq_getElem?_getD, List.getElem?_map, List.getElem?_eq_getElem h]; rfl
theorem irow_getD (l : List Int) (i : Nat) : (l.map irow).getD i [.int .i64 0] = irow (l.getD i default) := by
  rw [List.getD_eq_getElem?_getD, List.getD_eq_getElem?_getD, List.getElem?_map]; cases l[i]? <;> rfl
theorem srow_getD (l : List (List UInt8)) (i : Nat) : (l.map srow).getD i [.str []] = srow (l.getD i default) := by
  rw [List.getD_eq_getElem?_getD, List.getD_eq_getElem?_getD, List.getElem?_map]; cases l[i]? <;> rfl
theorem u8row_getD (l : List UInt8) (i : Nat) : (l.map u8row).getD i [.int .u8 0] = u8row (l.getD i 0) := by
  rw [List.getD_eq_getElem?_getD, List.getD_eq_getElem?_getD, List.getElem?_map]; cases l[i]? <;> rfl
theorem take_snoc {α : Type} [Inhabited α] (l : List α) (k : Nat) (h : k < l.length) : l.take (k + 1) = l.take k ++ [l.getD k default] := by
  rw [List.take_add_one, List.getElem?_eq_getElem h, List.getD_eq_getElem?_getD, List.getElem?_eq_getElem h]; rfl
theorem getD_mem {α : Type} [Inhabited α] (l : List α) (k : Nat) (h : k < l.length) : l.getD k default ∈ l := by
  rw [List.getD_eq_getElem?_getD, List.getElem?_eq_getElem h]; exact List.getElem_mem _
theorem zl {α β : Type} (f : α → β) (l : List α) : (l.map f).take l.length = l.map f := List.take_of_length_le (by simp)
theorem zg {α : Type} (l : List α) (i : Nat) (x z : α) (h : i < l.length) : (l.set i x).getD i z = x := by
  rw [List.getD_eq_getElem?_getD, List.getElem?_set_self h]; rfl
theorem zm {α β : Type} (f : α → β) (l : List α) (i : Nat) (x : α) (z : β) (h : i < l.length) : ((l.set i x).map f).getD i z = f x := by
  rw [List.map_set]; exact zg _ _ _ _ (by simpa using h)
theorem take_map_set {α β : Type} (f : α → β) (l : List α) (i : Nat) (x : α) : ((l.set i x).map f).take l.length = (l.set i x).map f := List.take_of_length_le (by simp)
theorem ins_map {α β : Type} (f : α → β) (l : List α) (i : Nat) (x : α) : (l.map f).insertIdx i (f x) = (l.insertIdx i x).map f := by
  induction l generalizing i with
  | nil => cases i <;> rfl
  | cons a l ih => cases i with
    | zero => rfl
    | succ i => simp only [List.map_cons, List.insertIdx_succ_cons]; rw [ih]
theorem nil_of_len {α : Type} {l : List α} (h : l.length = 0) : l = [] := List.eq_nil_of_length_eq_zero h
structure ATxn where
  zxid : Int
  op : Int
  session : Int
  path : List UInt8
  data : List UInt8
  version : Int
  owner : Int
instance : Inhabited ATxn := ⟨⟨0, 0, 0, [], [], 0, 0⟩⟩
theorem ATxn.ext_iff (a b : ATxn) : a = b ↔ a.zxid = b.zxid ∧ a.op = b.op ∧ a.session = b.session ∧ a.path = b.path ∧ a.data = b.data ∧ a.version = b.version ∧ a.owner = b.owner := by
  cases a; cases b; simp
instance : DecidableEq ATxn := fun a b => decidable_of_iff _ (ATxn.ext_iff a b).symm
def ATxn.row (x : ATxn) : List DV := [.int .i64 x.zxid, .int .i64 x.op, .int .i64 x.session, .str x.path, .str x.data, .int .i64 x.version, .int .i64 x.owner]
def ATxn.av (x : ATxn) : AV := .agg [.d (.int .i64 x.zxid), .d (.int .i64 x.op), .d (.int .i64 x.session), .d (.str x.path), .d (.str x.data), .d (.int .i64 x.version), .d (.int .i64 x.owner)]
theorem ATxn.dec (a b : ATxn) : (decide (a.zxid = b.zxid) && (decide (a.op = b.op) && (decide (a.session = b.session) && (decide (a.path = b.path) && (decide (a.data = b.data) && (decide (a.version = b.version) && decide (a.owner = b.owner))))))) = decide (a = b) := by
  rw [Bool.eq_iff_iff]; simp only [Bool.and_eq_true, decide_eq_true_eq, ATxn.ext_iff, and_assoc]
theorem ATxn.getD (l : List ATxn) (i : Nat) : (l.map ATxn.row).getD i [.int .i64 0, .int .i64 0, .int .i64 0, .str [], .str [], .int .i64 0, .int .i64 0] = (l.getD i default).row := by
  rw [List.getD_eq_getElem?_getD, List.getD_eq_getElem?_getD, List.getElem?_map]; cases l[i]? <;> rfl
theorem ATxn.rgetD (l : List ATxn) (i : Nat) (z : List DV) (h : i < l.length) : (l.map ATxn.row).getD i z = (l.getD i default).row := getD_row ATxn.row l i z h
theorem ATxn.rset (l : List ATxn) (i : Nat) (qzxid : Int) (qop : Int) (qsession : Int) (qpath : List UInt8) (qdata : List UInt8) (qversion : Int) (qowner : Int) : (l.map ATxn.row).set i [.int .i64 qzxid, .int .i64 qop, .int .i64 qsession, .str qpath, .str qdata, .int .i64 qversion, .int .i64 qowner] = (l.set i (⟨qzxid, qop, qsession, qpath, qdata, qversion, qowner⟩ : ATxn)).map ATxn.row := by rw [List.map_set]; rfl
theorem ATxn.rins (l : List ATxn) (i : Nat) (qzxid : Int) (qop : Int) (qsession : Int) (qpath : List UInt8) (qdata : List UInt8) (qversion : Int) (qowner : Int) : (l.map ATxn.row).insertIdx i [.int .i64 qzxid, .int .i64 qop, .int .i64 qsession, .str qpath, .str qdata, .int .i64 qversion, .int .i64 qowner] = (l.insertIdx i (⟨qzxid, qop, qsession, qpath, qdata, qversion, qowner⟩ : ATxn)).map ATxn.row := ins_map ATxn.row l i (⟨qzxid, qop, qsession, qpath, qdata, qversion, qowner⟩ : ATxn)
theorem ATxn.rdrop (l : List ATxn) (k : Nat) : List.drop 7 ((l.map ATxn.row).getD k []) = [] := by
  rw [List.getD_eq_getElem?_getD, List.getElem?_map]; cases l[k]? <;> rfl
attribute [go_sem] ATxn.rdrop
theorem ATxn.rsnoc (l : List ATxn) (qzxid : Int) (qop : Int) (qsession : Int) (qpath : List UInt8) (qdata : List UInt8) (qversion : Int) (qowner : Int) : l.map ATxn.row ++ [[.int .i64 qzxid, .int .i64 qop, .int .i64 qsession, .str qpath, .str qdata, .int .i64 qversion, .int .i64 qowner]] = (l ++ [(⟨qzxid, qop, qsession, qpath, qdata, qversion, qowner⟩ : ATxn)]).map ATxn.row := by rw [List.map_append]; rfl
structure AStat where
  czxid : Int
  mzxid : Int
  pzxid : Int
  version : Int
  cversion : Int
  owner : Int
  kids : Int
instance : Inhabited AStat := ⟨⟨0, 0, 0, 0, 0, 0, 0⟩⟩
theorem AStat.ext_iff (a b : AStat) : a = b ↔ a.czxid = b.czxid ∧ a.mzxid = b.mzxid ∧ a.pzxid = b.pzxid ∧ a.version = b.version ∧ a.cversion = b.cversion ∧ a.owner = b.owner ∧ a.kids = b.kids := by
  cases a; cases b; simp
instance : DecidableEq AStat := fun a b => decidable_of_iff _ (AStat.ext_iff a b).symm
def AStat.row (x : AStat) : List DV := [.int .i64 x.czxid, .int .i64 x.mzxid, .int .i64 x.pzxid, .int .i64 x.version, .int .i64 x.cversion, .int .i64 x.owner, .int .i64 x.kids]
def AStat.av (x : AStat) : AV := .agg [.d (.int .i64 x.czxid), .d (.int .i64 x.mzxid), .d (.int .i64 x.pzxid), .d (.int .i64 x.version), .d (.int .i64 x.cversion), .d (.int .i64 x.owner), .d (.int .i64 x.kids)]
theorem AStat.dec (a b : AStat) : (decide (a.czxid = b.czxid) && (decide (a.mzxid = b.mzxid) && (decide (a.pzxid = b.pzxid) && (decide (a.version = b.version) && (decide (a.cversion = b.cversion) && (decide (a.owner = b.owner) && decide (a.kids = b.kids))))))) = decide (a = b) := by
  rw [Bool.eq_iff_iff]; simp only [Bool.and_eq_true, decide_eq_true_eq, AStat.ext_iff, and_assoc]
theorem AStat.getD (l : List AStat) (i : Nat) : (l.map AStat.row).getD i [.int .i64 0, .int .i64 0, .int .i64 0, .int .i64 0, .int .i64 0, .int .i64 0, .int .i64 0] = (l.getD i default).row := by
  rw [List.getD_eq_getElem?_getD, List.getD_eq_getElem?_getD, List.getElem?_map]; cases l[i]? <;> rfl
theorem AStat.rgetD (l : List AStat) (i : Nat) (z : List DV) (h : i < l.length) : (l.map AStat.row).getD i z = (l.getD i default).row := getD_row AStat.row l i z h
theorem AStat.rset (l : List AStat) (i : Nat) (qczxid : Int) (qmzxid : Int) (qpzxid : Int) (qversion : Int) (qcversion : Int) (qowner : Int) (qkids : Int) : (l.map AStat.row).set i [.int .i64 qczxid, .int .i64 qmzxid, .int .i64 qpzxid, .int .i64 qversion, .int .i64 qcversion, .int .i64 qowner, .int .i64 qkids] = (l.set i (⟨qczxid, qmzxid, qpzxid, qversion, qcversion, qowner, qkids⟩ : AStat)).map AStat.row := by rw [List.map_set]; rfl
theorem AStat.rins (l : List AStat) (i : Nat) (qczxid : Int) (qmzxid : Int) (qpzxid : Int) (qversion : Int) (qcversion : Int) (qowner : Int) (qkids : Int) : (l.map AStat.row).insertIdx i [.int .i64 qczxid, .int .i64 qmzxid, .int .i64 qpzxid, .int .i64 qversion, .int .i64 qcversion, .int .i64 qowner, .int .i64 qkids] = (l.insertIdx i (⟨qczxid, qmzxid, qpzxid, qversion, qcversion, qowner, qkids⟩ : AStat)).map AStat.row := ins_map AStat.row l i (⟨qczxid, qmzxid, qpzxid, qversion, qcversion, qowner, qkids⟩ : AStat)
theorem AStat.rdrop (l : List AStat) (k : Nat) : List.drop 7 ((l.map AStat.row).getD k []) = [] := by
  rw [List.getD_eq_getElem?_getD, List.getElem?_map]; cases l[k]? <;> rfl
attribute [go_sem] AStat.rdrop
theorem AStat.rsnoc (l : List AStat) (qczxid : Int) (qmzxid : Int) (qpzxid : Int) (qversion : Int) (qcversion : Int) (qowner : Int) (qkids : Int) : l.map AStat.row ++ [[.int .i64 qczxid, .int .i64 qmzxid, .int .i64 qpzxid, .int .i64 qversion, .int .i64 qcversion, .int .i64 qowner, .int .i64 qkids]] = (l ++ [(⟨qczxid, qmzxid, qpzxid, qversion, qcversion, qowner, qkids⟩ : AStat)]).map AStat.row := by rw [List.map_append]; rfl
structure ANode where
  path : List UInt8
  data : List UInt8
  stat : AStat
instance : Inhabited ANode := ⟨⟨[], [], default⟩⟩
theorem ANode.ext_iff (a b : ANode) : a = b ↔ a.path = b.path ∧ a.data = b.data ∧ a.stat = b.stat := by
  cases a; cases b; simp
instance : DecidableEq ANode := fun a b => decidable_of_iff _ (ANode.ext_iff a b).symm
def ANode.row (x : ANode) : List DV := [.str x.path, .str x.data, .int .i64 x.stat.czxid, .int .i64 x.stat.mzxid, .int .i64 x.stat.pzxid, .int .i64 x.stat.version, .int .i64 x.stat.cversion, .int .i64 x.stat.owner, .int .i64 x.stat.kids]
def ANode.av (x : ANode) : AV := .agg [.d (.str x.path), .d (.str x.data), .d (.int .i64 x.stat.czxid), .d (.int .i64 x.stat.mzxid), .d (.int .i64 x.stat.pzxid), .d (.int .i64 x.stat.version), .d (.int .i64 x.stat.cversion), .d (.int .i64 x.stat.owner), .d (.int .i64 x.stat.kids)]
theorem ANode.dec (a b : ANode) : (decide (a.path = b.path) && (decide (a.data = b.data) && (decide (a.stat.czxid = b.stat.czxid) && (decide (a.stat.mzxid = b.stat.mzxid) && (decide (a.stat.pzxid = b.stat.pzxid) && (decide (a.stat.version = b.stat.version) && (decide (a.stat.cversion = b.stat.cversion) && (decide (a.stat.owner = b.stat.owner) && decide (a.stat.kids = b.stat.kids))))))))) = decide (a = b) := by
  rw [Bool.eq_iff_iff]; simp only [Bool.and_eq_true, decide_eq_true_eq, ANode.ext_iff, AStat.ext_iff, and_assoc]
theorem ANode.getD (l : List ANode) (i : Nat) : (l.map ANode.row).getD i [.str [], .str [], .int .i64 0, .int .i64 0, .int .i64 0, .int .i64 0, .int .i64 0, .int .i64 0, .int .i64 0] = (l.getD i default).row := by
  rw [List.getD_eq_getElem?_getD, List.getD_eq_getElem?_getD, List.getElem?_map]; cases l[i]? <;> rfl
theorem ANode.rgetD (l : List ANode) (i : Nat) (z : List DV) (h : i < l.length) : (l.map ANode.row).getD i z = (l.getD i default).row := getD_row ANode.row l i z h
theorem ANode.rset (l : List ANode) (i : Nat) (qpath : List UInt8) (qdata : List UInt8) (qstat_czxid : Int) (qstat_mzxid : Int) (qstat_pzxid : Int) (qstat_version : Int) (qstat_cversion : Int) (qstat_owner : Int) (qstat_kids : Int) : (l.map ANode.row).set i [.str qpath, .str qdata, .int .i64 qstat_czxid, .int .i64 qstat_mzxid, .int .i64 qstat_pzxid, .int .i64 qstat_version, .int .i64 qstat_cversion, .int .i64 qstat_owner, .int .i64 qstat_kids] = (l.set i (⟨qpath, qdata, ⟨qstat_czxid, qstat_mzxid, qstat_pzxid, qstat_version, qstat_cversion, qstat_owner, qstat_kids⟩⟩ : ANode)).map ANode.row := by rw [List.map_set]; rfl
theorem ANode.rins (l : List ANode) (i : Nat) (qpath : List UInt8) (qdata : List UInt8) (qstat_czxid : Int) (qstat_mzxid : Int) (qstat_pzxid : Int) (qstat_version : Int) (qstat_cversion : Int) (qstat_owner : Int) (qstat_kids : Int) : (l.map ANode.row).insertIdx i [.str qpath, .str qdata, .int .i64 qstat_czxid, .int .i64 qstat_mzxid, .int .i64 qstat_pzxid, .int .i64 qstat_version, .int .i64 qstat_cversion, .int .i64 qstat_owner, .int .i64 qstat_kids] = (l.insertIdx i (⟨qpath, qdata, ⟨qstat_czxid, qstat_mzxid, qstat_pzxid, qstat_version, qstat_cversion, qstat_owner, qstat_kids⟩⟩ : ANode)).map ANode.row := ins_map ANode.row l i (⟨qpath, qdata, ⟨qstat_czxid, qstat_mzxid, qstat_pzxid, qstat_version, qstat_cversion, qstat_owner, qstat_kids⟩⟩ : ANode)
theorem ANode.rdrop (l : List ANode) (k : Nat) : List.drop 9 ((l.map ANode.row).getD k []) = [] := by
  rw [List.getD_eq_getElem?_getD, List.getElem?_map]; cases l[k]? <;> rfl
attribute [go_sem] ANode.rdrop
theorem ANode.rsnoc (l : List ANode) (qpath : List UInt8) (qdata : List UInt8) (qstat_czxid : Int) (qstat_mzxid : Int) (qstat_pzxid : Int) (qstat_version : Int) (qstat_cversion : Int) (qstat_owner : Int) (qstat_kids : Int) : l.map ANode.row ++ [[.str qpath, .str qdata, .int .i64 qstat_czxid, .int .i64 qstat_mzxid, .int .i64 qstat_pzxid, .int .i64 qstat_version, .int .i64 qstat_cversion, .int .i64 qstat_owner, .int .i64 qstat_kids]] = (l ++ [(⟨qpath, qdata, ⟨qstat_czxid, qstat_mzxid, qstat_pzxid, qstat_version, qstat_cversion, qstat_owner, qstat_kids⟩⟩ : ANode)]).map ANode.row := by rw [List.map_append]; rfl
structure AFile where
  name : List UInt8
  safe : List UInt8
  tail : List UInt8
instance : Inhabited AFile := ⟨⟨[], [], []⟩⟩
theorem AFile.ext_iff (a b : AFile) : a = b ↔ a.name = b.name ∧ a.safe = b.safe ∧ a.tail = b.tail := by
  cases a; cases b; simp
instance : DecidableEq AFile := fun a b => decidable_of_iff _ (AFile.ext_iff a b).symm
def AFile.row (x : AFile) : List DV := [.str x.name, .str x.safe, .str x.tail]
def AFile.av (x : AFile) : AV := .agg [.d (.str x.name), .d (.str x.safe), .d (.str x.tail)]
theorem AFile.dec (a b : AFile) : (decide (a.name = b.name) && (decide (a.safe = b.safe) && decide (a.tail = b.tail))) = decide (a = b) := by
  rw [Bool.eq_iff_iff]; simp only [Bool.and_eq_true, decide_eq_true_eq, AFile.ext_iff, and_assoc]
theorem AFile.getD (l : List AFile) (i : Nat) : (l.map AFile.row).getD i [.str [], .str [], .str []] = (l.getD i default).row := by
  rw [List.getD_eq_getElem?_getD, List.getD_eq_getElem?_getD, List.getElem?_map]; cases l[i]? <;> rfl
theorem AFile.rgetD (l : List AFile) (i : Nat) (z : List DV) (h : i < l.length) : (l.map AFile.row).getD i z = (l.getD i default).row := getD_row AFile.row l i z h
theorem AFile.rset (l : List AFile) (i : Nat) (qname : List UInt8) (qsafe : List UInt8) (qtail : List UInt8) : (l.map AFile.row).set i [.str qname, .str qsafe, .str qtail] = (l.set i (⟨qname, qsafe, qtail⟩ : AFile)).map AFile.row := by rw [List.map_set]; rfl
theorem AFile.rins (l : List AFile) (i : Nat) (qname : List UInt8) (qsafe : List UInt8) (qtail : List UInt8) : (l.map AFile.row).insertIdx i [.str qname, .str qsafe, .str qtail] = (l.insertIdx i (⟨qname, qsafe, qtail⟩ : AFile)).map AFile.row := ins_map AFile.row l i (⟨qname, qsafe, qtail⟩ : AFile)
theorem AFile.rdrop (l : List AFile) (k : Nat) : List.drop 3 ((l.map AFile.row).getD k []) = [] := by
  rw [List.getD_eq_getElem?_getD, List.getElem?_map]; cases l[k]? <;> rfl
attribute [go_sem] AFile.rdrop
theorem AFile.rsnoc (l : List AFile) (qname : List UInt8) (qsafe : List UInt8) (qtail : List UInt8) : l.map AFile.row ++ [[.str qname, .str qsafe, .str qtail]] = (l ++ [(⟨qname, qsafe, qtail⟩ : AFile)]).map AFile.row := by rw [List.map_append]; rfl
structure AWatch where
  session : Int
  kind : Int
  path : List UInt8
instance : Inhabited AWatch := ⟨⟨0, 0, []⟩⟩
theorem AWatch.ext_iff (a b : AWatch) : a = b ↔ a.session = b.session ∧ a.kind = b.kind ∧ a.path = b.path := by
  cases a; cases b; simp
instance : DecidableEq AWatch := fun a b => decidable_of_iff _ (AWatch.ext_iff a b).symm
def AWatch.row (x : AWatch) : List DV := [.int .i64 x.session, .int .i64 x.kind, .str x.path]
def AWatch.av (x : AWatch) : AV := .agg [.d (.int .i64 x.session), .d (.int .i64 x.kind), .d (.str x.path)]
theorem AWatch.dec (a b : AWatch) : (decide (a.session = b.session) && (decide (a.kind = b.kind) && decide (a.path = b.path))) = decide (a = b) := by
  rw [Bool.eq_iff_iff]; simp only [Bool.and_eq_true, decide_eq_true_eq, AWatch.ext_iff, and_assoc]
theorem AWatch.getD (l : List AWatch) (i : Nat) : (l.map AWatch.row).getD i [.int .i64 0, .int .i64 0, .str []] = (l.getD i default).row := by
  rw [List.getD_eq_getElem?_getD, List.getD_eq_getElem?_getD, List.getElem?_map]; cases l[i]? <;> rfl
theorem AWatch.rgetD (l : List AWatch) (i : Nat) (z : List DV) (h : i < l.length) : (l.map AWatch.row).getD i z = (l.getD i default).row := getD_row AWatch.row l i z h
theorem AWatch.rset (l : List AWatch) (i : Nat) (qsession : Int) (qkind : Int) (qpath : List UInt8) : (l.map AWatch.row).set i [.int .i64 qsession, .int .i64 qkind, .str qpath] = (l.set i (⟨qsession, qkind, qpath⟩ : AWatch)).map AWatch.row := by rw [List.map_set]; rfl
theorem AWatch.rins (l : List AWatch) (i : Nat) (qsession : Int) (qkind : Int) (qpath : List UInt8) : (l.map AWatch.row).insertIdx i [.int .i64 qsession, .int .i64 qkind, .str qpath] = (l.insertIdx i (⟨qsession, qkind, qpath⟩ : AWatch)).map AWatch.row := ins_map AWatch.row l i (⟨qsession, qkind, qpath⟩ : AWatch)
theorem AWatch.rdrop (l : List AWatch) (k : Nat) : List.drop 3 ((l.map AWatch.row).getD k []) = [] := by
  rw [List.getD_eq_getElem?_getD, List.getElem?_map]; cases l[k]? <;> rfl
attribute [go_sem] AWatch.rdrop
theorem AWatch.rsnoc (l : List AWatch) (qsession : Int) (qkind : Int) (qpath : List UInt8) : l.map AWatch.row ++ [[.int .i64 qsession, .int .i64 qkind, .str qpath]] = (l ++ [(⟨qsession, qkind, qpath⟩ : AWatch)]).map AWatch.row := by rw [List.map_append]; rfl
structure AEvent where
  kind : Int
  path : List UInt8
instance : Inhabited AEvent := ⟨⟨0, []⟩⟩
theorem AEvent.ext_iff (a b : AEvent) : a = b ↔ a.kind = b.kind ∧ a.path = b.path := by
  cases a; cases b; simp
instance : DecidableEq AEvent := fun a b => decidable_of_iff _ (AEvent.ext_iff a b).symm
def AEvent.row (x : AEvent) : List DV := [.int .i64 x.kind, .str x.path]
def AEvent.av (x : AEvent) : AV := .agg [.d (.int .i64 x.kind), .d (.str x.path)]
theorem AEvent.dec (a b : AEvent) : (decide (a.kind = b.kind) && decide (a.path = b.path)) = decide (a = b) := by
  rw [Bool.eq_iff_iff]; simp only [Bool.and_eq_true, decide_eq_true_eq, AEvent.ext_iff, and_assoc]
theorem AEvent.getD (l : List AEvent) (i : Nat) : (l.map AEvent.row).getD i [.int .i64 0, .str []] = (l.getD i default).row := by
  rw [List.getD_eq_getElem?_getD, List.getD_eq_getElem?_getD, List.getElem?_map]; cases l[i]? <;> rfl
theorem AEvent.rgetD (l : List AEvent) (i : Nat) (z : List DV) (h : i < l.length) : (l.map AEvent.row).getD i z = (l.getD i default).row := getD_row AEvent.row l i z h
theorem AEvent.rset (l : List AEvent) (i : Nat) (qkind : Int) (qpath : List UInt8) : (l.map AEvent.row).set i [.int .i64 qkind, .str qpath] = (l.set i (⟨qkind, qpath⟩ : AEvent)).map AEvent.row := by rw [List.map_set]; rfl
theorem AEvent.rins (l : List AEvent) (i : Nat) (qkind : Int) (qpath : List UInt8) : (l.map AEvent.row).insertIdx i [.int .i64 qkind, .str qpath] = (l.insertIdx i (⟨qkind, qpath⟩ : AEvent)).map AEvent.row := ins_map AEvent.row l i (⟨qkind, qpath⟩ : AEvent)
theorem AEvent.rdrop (l : List AEvent) (k : Nat) : List.drop 2 ((l.map AEvent.row).getD k []) = [] := by
  rw [List.getD_eq_getElem?_getD, List.getElem?_map]; cases l[k]? <;> rfl
attribute [go_sem] AEvent.rdrop
theorem AEvent.rsnoc (l : List AEvent) (qkind : Int) (qpath : List UInt8) : l.map AEvent.row ++ [[.int .i64 qkind, .str qpath]] = (l ++ [(⟨qkind, qpath⟩ : AEvent)]).map AEvent.row := by rw [List.map_append]; rfl
structure ANote where
  session : Int
  event : AEvent
instance : Inhabited ANote := ⟨⟨0, default⟩⟩
theorem ANote.ext_iff (a b : ANote) : a = b ↔ a.session = b.session ∧ a.event = b.event := by
  cases a; cases b; simp
instance : DecidableEq ANote := fun a b => decidable_of_iff _ (ANote.ext_iff a b).symm
def ANote.row (x : ANote) : List DV := [.int .i64 x.session, .int .i64 x.event.kind, .str x.event.path]
def ANote.av (x : ANote) : AV := .agg [.d (.int .i64 x.session), .d (.int .i64 x.event.kind), .d (.str x.event.path)]
theorem ANote.dec (a b : ANote) : (decide (a.session = b.session) && (decide (a.event.kind = b.event.kind) && decide (a.event.path = b.event.path))) = decide (a = b) := by
  rw [Bool.eq_iff_iff]; simp only [Bool.and_eq_true, decide_eq_true_eq, ANote.ext_iff, AEvent.ext_iff, and_assoc]
theorem ANote.getD (l : List ANote) (i : Nat) : (l.map ANote.row).getD i [.int .i64 0, .int .i64 0, .str []] = (l.getD i default).row := by
  rw [List.getD_eq_getElem?_getD, List.getD_eq_getElem?_getD, List.getElem?_map]; cases l[i]? <;> rfl
theorem ANote.rgetD (l : List ANote) (i : Nat) (z : List DV) (h : i < l.length) : (l.map ANote.row).getD i z = (l.getD i default).row := getD_row ANote.row l i z h
theorem ANote.rset (l : List ANote) (i : Nat) (qsession : Int) (qevent_kind : Int) (qevent_path : List UInt8) : (l.map ANote.row).set i [.int .i64 qsession, .int .i64 qevent_kind, .str qevent_path] = (l.set i (⟨qsession, ⟨qevent_kind, qevent_path⟩⟩ : ANote)).map ANote.row := by rw [List.map_set]; rfl
theorem ANote.rins (l : List ANote) (i : Nat) (qsession : Int) (qevent_kind : Int) (qevent_path : List UInt8) : (l.map ANote.row).insertIdx i [.int .i64 qsession, .int .i64 qevent_kind, .str qevent_path] = (l.insertIdx i (⟨qsession, ⟨qevent_kind, qevent_path⟩⟩ : ANote)).map ANote.row := ins_map ANote.row l i (⟨qsession, ⟨qevent_kind, qevent_path⟩⟩ : ANote)
theorem ANote.rdrop (l : List ANote) (k : Nat) : List.drop 3 ((l.map ANote.row).getD k []) = [] := by
  rw [List.getD_eq_getElem?_getD, List.getElem?_map]; cases l[k]? <;> rfl
attribute [go_sem] ANote.rdrop
theorem ANote.rsnoc (l : List ANote) (qsession : Int) (qevent_kind : Int) (qevent_path : List UInt8) : l.map ANote.row ++ [[.int .i64 qsession, .int .i64 qevent_kind, .str qevent_path]] = (l ++ [(⟨qsession, ⟨qevent_kind, qevent_path⟩⟩ : ANote)]).map ANote.row := by rw [List.map_append]; rfl
structure AEntry where
  path : List UInt8
  data : List UInt8
  there : Bool
instance : Inhabited AEntry := ⟨⟨[], [], false⟩⟩
theorem AEntry.ext_iff (a b : AEntry) : a = b ↔ a.path = b.path ∧ a.data = b.data ∧ a.there = b.there := by
  cases a; cases b; simp
instance : DecidableEq AEntry := fun a b => decidable_of_iff _ (AEntry.ext_iff a b).symm
def AEntry.row (x : AEntry) : List DV := [.str x.path, .str x.data, .bool x.there]
def AEntry.av (x : AEntry) : AV := .agg [.d (.str x.path), .d (.str x.data), .d (.bool x.there)]
theorem AEntry.dec (a b : AEntry) : (decide (a.path = b.path) && (decide (a.data = b.data) && decide (a.there = b.there))) = decide (a = b) := by
  rw [Bool.eq_iff_iff]; simp only [Bool.and_eq_true, decide_eq_true_eq, AEntry.ext_iff, and_assoc]
theorem AEntry.getD (l : List AEntry) (i : Nat) : (l.map AEntry.row).getD i [.str [], .str [], .bool false] = (l.getD i default).row := by
  rw [List.getD_eq_getElem?_getD, List.getD_eq_getElem?_getD, List.getElem?_map]; cases l[i]? <;> rfl
theorem AEntry.rgetD (l : List AEntry) (i : Nat) (z : List DV) (h : i < l.length) : (l.map AEntry.row).getD i z = (l.getD i default).row := getD_row AEntry.row l i z h
theorem AEntry.rset (l : List AEntry) (i : Nat) (qpath : List UInt8) (qdata : List UInt8) (qthere : Bool) : (l.map AEntry.row).set i [.str qpath, .str qdata, .bool qthere] = (l.set i (⟨qpath, qdata, qthere⟩ : AEntry)).map AEntry.row := by rw [List.map_set]; rfl
theorem AEntry.rins (l : List AEntry) (i : Nat) (qpath : List UInt8) (qdata : List UInt8) (qthere : Bool) : (l.map AEntry.row).insertIdx i [.str qpath, .str qdata, .bool qthere] = (l.insertIdx i (⟨qpath, qdata, qthere⟩ : AEntry)).map AEntry.row := ins_map AEntry.row l i (⟨qpath, qdata, qthere⟩ : AEntry)
theorem AEntry.rdrop (l : List AEntry) (k : Nat) : List.drop 3 ((l.map AEntry.row).getD k []) = [] := by
  rw [List.getD_eq_getElem?_getD, List.getElem?_map]; cases l[k]? <;> rfl
attribute [go_sem] AEntry.rdrop
theorem AEntry.rsnoc (l : List AEntry) (qpath : List UInt8) (qdata : List UInt8) (qthere : Bool) : l.map AEntry.row ++ [[.str qpath, .str qdata, .bool qthere]] = (l ++ [(⟨qpath, qdata, qthere⟩ : AEntry)]).map AEntry.row := by rw [List.map_append]; rfl
structure ARequest where
  op : Int
  session : Int
  path : List UInt8
  data : List UInt8
  version : Int
  flags : Int
instance : Inhabited ARequest := ⟨⟨0, 0, [], [], 0, 0⟩⟩
theorem ARequest.ext_iff (a b : ARequest) : a = b ↔ a.op = b.op ∧ a.session = b.session ∧ a.path = b.path ∧ a.data = b.data ∧ a.version = b.version ∧ a.flags = b.flags := by
  cases a; cases b; simp
instance : DecidableEq ARequest := fun a b => decidable_of_iff _ (ARequest.ext_iff a b).symm
def ARequest.row (x : ARequest) : List DV := [.int .i64 x.op, .int .i64 x.session, .str x.path, .str x.data, .int .i64 x.version, .int .i64 x.flags]
def ARequest.av (x : ARequest) : AV := .agg [.d (.int .i64 x.op), .d (.int .i64 x.session), .d (.str x.path), .d (.str x.data), .d (.int .i64 x.version), .d (.int .i64 x.flags)]
theorem ARequest.dec (a b : ARequest) : (decide (a.op = b.op) && (decide (a.session = b.session) && (decide (a.path = b.path) && (decide (a.data = b.data) && (decide (a.version = b.version) && decide (a.flags = b.flags)))))) = decide (a = b) := by
  rw [Bool.eq_iff_iff]; simp only [Bool.and_eq_true, decide_eq_true_eq, ARequest.ext_iff, and_assoc]
theorem ARequest.getD (l : List ARequest) (i : Nat) : (l.map ARequest.row).getD i [.int .i64 0, .int .i64 0, .str [], .str [], .int .i64 0, .int .i64 0] = (l.getD i default).row := by
  rw [List.getD_eq_getElem?_getD, List.getD_eq_getElem?_getD, List.getElem?_map]; cases l[i]? <;> rfl
theorem ARequest.rgetD (l : List ARequest) (i : Nat) (z : List DV) (h : i < l.length) : (l.map ARequest.row).getD i z = (l.getD i default).row := getD_row ARequest.row l i z h
theorem ARequest.rset (l : List ARequest) (i : Nat) (qop : Int) (qsession : Int) (qpath : List UInt8) (qdata : List UInt8) (qversion : Int) (qflags : Int) : (l.map ARequest.row).set i [.int .i64 qop, .int .i64 qsession, .str qpath, .str qdata, .int .i64 qversion, .int .i64 qflags] = (l.set i (⟨qop, qsession, qpath, qdata, qversion, qflags⟩ : ARequest)).map ARequest.row := by rw [List.map_set]; rfl
theorem ARequest.rins (l : List ARequest) (i : Nat) (qop : Int) (qsession : Int) (qpath : List UInt8) (qdata : List UInt8) (qversion : Int) (qflags : Int) : (l.map ARequest.row).insertIdx i [.int .i64 qop, .int .i64 qsession, .str qpath, .str qdata, .int .i64 qversion, .int .i64 qflags] = (l.insertIdx i (⟨qop, qsession, qpath, qdata, qversion, qflags⟩ : ARequest)).map ARequest.row := ins_map ARequest.row l i (⟨qop, qsession, qpath, qdata, qversion, qflags⟩ : ARequest)
theorem ARequest.rdrop (l : List ARequest) (k : Nat) : List.drop 6 ((l.map ARequest.row).getD k []) = [] := by
  rw [List.getD_eq_getElem?_getD, List.getElem?_map]; cases l[k]? <;> rfl
attribute [go_sem] ARequest.rdrop
theorem ARequest.rsnoc (l : List ARequest) (qop : Int) (qsession : Int) (qpath : List UInt8) (qdata : List UInt8) (qversion : Int) (qflags : Int) : l.map ARequest.row ++ [[.int .i64 qop, .int .i64 qsession, .str qpath, .str qdata, .int .i64 qversion, .int .i64 qflags]] = (l ++ [(⟨qop, qsession, qpath, qdata, qversion, qflags⟩ : ARequest)]).map ARequest.row := by rw [List.map_append]; rfl
structure ATree where
  zxid : Int
  nodes : List (ANode)
  sessions : List (Int)
instance : Inhabited ATree := ⟨⟨0, [], []⟩⟩
theorem ATree.ext_iff (a b : ATree) : a = b ↔ a.zxid = b.zxid ∧ a.nodes = b.nodes ∧ a.sessions = b.sessions := by
  cases a; cases b; simp
instance : DecidableEq ATree := fun a b => decidable_of_iff _ (ATree.ext_iff a b).symm
def ATree.row (x : ATree) : List DV := [.int .i64 x.zxid, .sl 9 (x.nodes.map ANode.row), .sl 1 (x.sessions.map irow)]
def ATree.av (x : ATree) : AV := .agg [.d (.int .i64 x.zxid), .d (.sl 9 (x.nodes.map ANode.row)), .d (.sl 1 (x.sessions.map irow))]
theorem ATree.rgetD (l : List ATree) (i : Nat) (z : List DV) (h : i < l.length) : (l.map ATree.row).getD i z = (l.getD i default).row := getD_row ATree.row l i z h
theorem ATree.rset (l : List ATree) (i : Nat) (qzxid : Int) (qnodes : List (ANode)) (qsessions : List (Int)) : (l.map ATree.row).set i [.int .i64 qzxid, .sl 9 (qnodes.map ANode.row), .sl 1 (qsessions.map irow)] = (l.set i (⟨qzxid, qnodes, qsessions⟩ : ATree)).map ATree.row := by rw [List.map_set]; rfl
theorem ATree.rins (l : List ATree) (i : Nat) (qzxid : Int) (qnodes : List (ANode)) (qsessions : List (Int)) : (l.map ATree.row).insertIdx i [.int .i64 qzxid, .sl 9 (qnodes.map ANode.row), .sl 1 (qsessions.map irow)] = (l.insertIdx i (⟨qzxid, qnodes, qsessions⟩ : ATree)).map ATree.row := ins_map ATree.row l i (⟨qzxid, qnodes, qsessions⟩ : ATree)
theorem ATree.rdrop (l : List ATree) (k : Nat) : List.drop 3 ((l.map ATree.row).getD k []) = [] := by
  rw [List.getD_eq_getElem?_getD, List.getElem?_map]; cases l[k]? <;> rfl
attribute [go_sem] ATree.rdrop
theorem ATree.rsnoc (l : List ATree) (qzxid : Int) (qnodes : List (ANode)) (qsessions : List (Int)) : l.map ATree.row ++ [[.int .i64 qzxid, .sl 9 (qnodes.map ANode.row), .sl 1 (qsessions.map irow)]] = (l ++ [(⟨qzxid, qnodes, qsessions⟩ : ATree)]).map ATree.row := by rw [List.map_append]; rfl
structure ADisk where
  files : List (AFile)
instance : Inhabited ADisk := ⟨⟨[]⟩⟩
theorem ADisk.ext_iff (a b : ADisk) : a = b ↔ a.files = b.files := by
  cases a; cases b; simp
instance : DecidableEq ADisk := fun a b => decidable_of_iff _ (ADisk.ext_iff a b).symm
def ADisk.row (x : ADisk) : List DV := [.sl 3 (x.files.map AFile.row)]
def ADisk.av (x : ADisk) : AV := .agg [.d (.sl 3 (x.files.map AFile.row))]
theorem ADisk.rgetD (l : List ADisk) (i : Nat) (z : List DV) (h : i < l.length) : (l.map ADisk.row).getD i z = (l.getD i default).row := getD_row ADisk.row l i z h
theorem ADisk.rset (l : List ADisk) (i : Nat) (qfiles : List (AFile)) : (l.map ADisk.row).set i [.sl 3 (qfiles.map AFile.row)] = (l.set i (⟨qfiles⟩ : ADisk)).map ADisk.row := by rw [List.map_set]; rfl
theorem ADisk.rins (l : List ADisk) (i : Nat) (qfiles : List (AFile)) : (l.map ADisk.row).insertIdx i [.sl 3 (qfiles.map AFile.row)] = (l.insertIdx i (⟨qfiles⟩ : ADisk)).map ADisk.row := ins_map ADisk.row l i (⟨qfiles⟩ : ADisk)
theorem ADisk.rdrop (l : List ADisk) (k : Nat) : List.drop 1 ((l.map ADisk.row).getD k []) = [] := by
  rw [List.getD_eq_getElem?_getD, List.getElem?_map]; cases l[k]? <;> rfl
attribute [go_sem] ADisk.rdrop
theorem ADisk.rsnoc (l : List ADisk) (qfiles : List (AFile)) : l.map ADisk.row ++ [[.sl 3 (qfiles.map AFile.row)]] = (l ++ [(⟨qfiles⟩ : ADisk)]).map ADisk.row := by rw [List.map_append]; rfl
structure APeer where
  id : Int
  epoch : Int
  log : List (ATxn)
  done : Int
instance : Inhabited APeer := ⟨⟨0, 0, [], 0⟩⟩
theorem APeer.ext_iff (a b : APeer) : a = b ↔ a.id = b.id ∧ a.epoch = b.epoch ∧ a.log = b.log ∧ a.done = b.done := by
  cases a; cases b; simp
instance : DecidableEq APeer := fun a b => decidable_of_iff _ (APeer.ext_iff a b).symm
def APeer.row (x : APeer) : List DV := [.int .i64 x.id, .int .i64 x.epoch, .sl 7 (x.log.map ATxn.row), .int .i64 x.done]
def APeer.av (x : APeer) : AV := .agg [.d (.int .i64 x.id), .d (.int .i64 x.epoch), .d (.sl 7 (x.log.map ATxn.row)), .d (.int .i64 x.done)]
theorem APeer.rgetD (l : List APeer) (i : Nat) (z : List DV) (h : i < l.length) : (l.map APeer.row).getD i z = (l.getD i default).row := getD_row APeer.row l i z h
theorem APeer.rset (l : List APeer) (i : Nat) (qid : Int) (qepoch : Int) (qlog : List (ATxn)) (qdone : Int) : (l.map APeer.row).set i [.int .i64 qid, .int .i64 qepoch, .sl 7 (qlog.map ATxn.row), .int .i64 qdone] = (l.set i (⟨qid, qepoch, qlog, qdone⟩ : APeer)).map APeer.row := by rw [List.map_set]; rfl
theorem APeer.rins (l : List APeer) (i : Nat) (qid : Int) (qepoch : Int) (qlog : List (ATxn)) (qdone : Int) : (l.map APeer.row).insertIdx i [.int .i64 qid, .int .i64 qepoch, .sl 7 (qlog.map ATxn.row), .int .i64 qdone] = (l.insertIdx i (⟨qid, qepoch, qlog, qdone⟩ : APeer)).map APeer.row := ins_map APeer.row l i (⟨qid, qepoch, qlog, qdone⟩ : APeer)
theorem APeer.rdrop (l : List APeer) (k : Nat) : List.drop 4 ((l.map APeer.row).getD k []) = [] := by
  rw [List.getD_eq_getElem?_getD, List.getElem?_map]; cases l[k]? <;> rfl
attribute [go_sem] APeer.rdrop
theorem APeer.rsnoc (l : List APeer) (qid : Int) (qepoch : Int) (qlog : List (ATxn)) (qdone : Int) : l.map APeer.row ++ [[.int .i64 qid, .int .i64 qepoch, .sl 7 (qlog.map ATxn.row), .int .i64 qdone]] = (l ++ [(⟨qid, qepoch, qlog, qdone⟩ : APeer)]).map APeer.row := by rw [List.map_append]; rfl
structure AServer where
  up : Bool
  disk : ADisk
  peer : APeer
  tree : ATree
  watches : List (AWatch)
instance : Inhabited AServer := ⟨⟨false, default, default, default, []⟩⟩
theorem AServer.ext_iff (a b : AServer) : a = b ↔ a.up = b.up ∧ a.disk = b.disk ∧ a.peer = b.peer ∧ a.tree = b.tree ∧ a.watches = b.watches := by
  cases a; cases b; simp
instance : DecidableEq AServer := fun a b => decidable_of_iff _ (AServer.ext_iff a b).symm
def AServer.row (x : AServer) : List DV := [.bool x.up, .sl 3 (x.disk.files.map AFile.row), .int .i64 x.peer.id, .int .i64 x.peer.epoch, .sl 7 (x.peer.log.map ATxn.row), .int .i64 x.peer.done, .int .i64 x.tree.zxid, .sl 9 (x.tree.nodes.map ANode.row), .sl 1 (x.tree.sessions.map irow), .sl 3 (x.watches.map AWatch.row)]
def AServer.av (x : AServer) : AV := .agg [.d (.bool x.up), .d (.sl 3 (x.disk.files.map AFile.row)), .d (.int .i64 x.peer.id), .d (.int .i64 x.peer.epoch), .d (.sl 7 (x.peer.log.map ATxn.row)), .d (.int .i64 x.peer.done), .d (.int .i64 x.tree.zxid), .d (.sl 9 (x.tree.nodes.map ANode.row)), .d (.sl 1 (x.tree.sessions.map irow)), .d (.sl 3 (x.watches.map AWatch.row))]
theorem AServer.rgetD (l : List AServer) (i : Nat) (z : List DV) (h : i < l.length) : (l.map AServer.row).getD i z = (l.getD i default).row := getD_row AServer.row l i z h
theorem AServer.rset (l : List AServer) (i : Nat) (qup : Bool) (qdisk_files : List (AFile)) (qpeer_id : Int) (qpeer_epoch : Int) (qpeer_log : List (ATxn)) (qpeer_done : Int) (qtree_zxid : Int) (qtree_nodes : List (ANode)) (qtree_sessions : List (Int)) (qwatches : List (AWatch)) : (l.map AServer.row).set i [.bool qup, .sl 3 (qdisk_files.map AFile.row), .int .i64 qpeer_id, .int .i64 qpeer_epoch, .sl 7 (qpeer_log.map ATxn.row), .int .i64 qpeer_done, .int .i64 qtree_zxid, .sl 9 (qtree_nodes.map ANode.row), .sl 1 (qtree_sessions.map irow), .sl 3 (qwatches.map AWatch.row)] = (l.set i (⟨qup, ⟨qdisk_files⟩, ⟨qpeer_id, qpeer_epoch, qpeer_log, qpeer_done⟩, ⟨qtree_zxid, qtree_nodes, qtree_sessions⟩, qwatches⟩ : AServer)).map AServer.row := by rw [List.map_set]; rfl
theorem AServer.rins (l : List AServer) (i : Nat) (qup : Bool) (qdisk_files : List (AFile)) (qpeer_id : Int) (qpeer_epoch : Int) (qpeer_log : List (ATxn)) (qpeer_done : Int) (qtree_zxid : Int) (qtree_nodes : List (ANode)) (qtree_sessions : List (Int)) (qwatches : List (AWatch)) : (l.map AServer.row).insertIdx i [.bool qup, .sl 3 (qdisk_files.map AFile.row), .int .i64 qpeer_id, .int .i64 qpeer_epoch, .sl 7 (qpeer_log.map ATxn.row), .int .i64 qpeer_done, .int .i64 qtree_zxid, .sl 9 (qtree_nodes.map ANode.row), .sl 1 (qtree_sessions.map irow), .sl 3 (qwatches.map AWatch.row)] = (l.insertIdx i (⟨qup, ⟨qdisk_files⟩, ⟨qpeer_id, qpeer_epoch, qpeer_log, qpeer_done⟩, ⟨qtree_zxid, qtree_nodes, qtree_sessions⟩, qwatches⟩ : AServer)).map AServer.row := ins_map AServer.row l i (⟨qup, ⟨qdisk_files⟩, ⟨qpeer_id, qpeer_epoch, qpeer_log, qpeer_done⟩, ⟨qtree_zxid, qtree_nodes, qtree_sessions⟩, qwatches⟩ : AServer)
theorem AServer.rdrop (l : List AServer) (k : Nat) : List.drop 10 ((l.map AServer.row).getD k []) = [] := by
  rw [List.getD_eq_getElem?_getD, List.getElem?_map]; cases l[k]? <;> rfl
attribute [go_sem] AServer.rdrop
theorem AServer.rsnoc (l : List AServer) (qup : Bool) (qdisk_files : List (AFile)) (qpeer_id : Int) (qpeer_epoch : Int) (qpeer_log : List (ATxn)) (qpeer_done : Int) (qtree_zxid : Int) (qtree_nodes : List (ANode)) (qtree_sessions : List (Int)) (qwatches : List (AWatch)) : l.map AServer.row ++ [[.bool qup, .sl 3 (qdisk_files.map AFile.row), .int .i64 qpeer_id, .int .i64 qpeer_epoch, .sl 7 (qpeer_log.map ATxn.row), .int .i64 qpeer_done, .int .i64 qtree_zxid, .sl 9 (qtree_nodes.map ANode.row), .sl 1 (qtree_sessions.map irow), .sl 3 (qwatches.map AWatch.row)]] = (l ++ [(⟨qup, ⟨qdisk_files⟩, ⟨qpeer_id, qpeer_epoch, qpeer_log, qpeer_done⟩, ⟨qtree_zxid, qtree_nodes, qtree_sessions⟩, qwatches⟩ : AServer)]).map AServer.row := by rw [List.map_append]; rfl
structure AClient where
  session : Int
  seen : Int
  cache : List (AEntry)
instance : Inhabited AClient := ⟨⟨0, 0, []⟩⟩
theorem AClient.ext_iff (a b : AClient) : a = b ↔ a.session = b.session ∧ a.seen = b.seen ∧ a.cache = b.cache := by
  cases a; cases b; simp
instance : DecidableEq AClient := fun a b => decidable_of_iff _ (AClient.ext_iff a b).symm
def AClient.row (x : AClient) : List DV := [.int .i64 x.session, .int .i64 x.seen, .sl 3 (x.cache.map AEntry.row)]
def AClient.av (x : AClient) : AV := .agg [.d (.int .i64 x.session), .d (.int .i64 x.seen), .d (.sl 3 (x.cache.map AEntry.row))]
theorem AClient.rgetD (l : List AClient) (i : Nat) (z : List DV) (h : i < l.length) : (l.map AClient.row).getD i z = (l.getD i default).row := getD_row AClient.row l i z h
theorem AClient.rset (l : List AClient) (i : Nat) (qsession : Int) (qseen : Int) (qcache : List (AEntry)) : (l.map AClient.row).set i [.int .i64 qsession, .int .i64 qseen, .sl 3 (qcache.map AEntry.row)] = (l.set i (⟨qsession, qseen, qcache⟩ : AClient)).map AClient.row := by rw [List.map_set]; rfl
theorem AClient.rins (l : List AClient) (i : Nat) (qsession : Int) (qseen : Int) (qcache : List (AEntry)) : (l.map AClient.row).insertIdx i [.int .i64 qsession, .int .i64 qseen, .sl 3 (qcache.map AEntry.row)] = (l.insertIdx i (⟨qsession, qseen, qcache⟩ : AClient)).map AClient.row := ins_map AClient.row l i (⟨qsession, qseen, qcache⟩ : AClient)
theorem AClient.rdrop (l : List AClient) (k : Nat) : List.drop 3 ((l.map AClient.row).getD k []) = [] := by
  rw [List.getD_eq_getElem?_getD, List.getElem?_map]; cases l[k]? <;> rfl
attribute [go_sem] AClient.rdrop
theorem AClient.rsnoc (l : List AClient) (qsession : Int) (qseen : Int) (qcache : List (AEntry)) : l.map AClient.row ++ [[.int .i64 qsession, .int .i64 qseen, .sl 3 (qcache.map AEntry.row)]] = (l ++ [(⟨qsession, qseen, qcache⟩ : AClient)]).map AClient.row := by rw [List.map_append]; rfl
structure ADeed where
  kind : Int
  client : Int
  server : Int
  request : ARequest
  lost : Int
  slow : Int
  keep : Int
  watch : Bool
instance : Inhabited ADeed := ⟨⟨0, 0, 0, default, 0, 0, 0, false⟩⟩
theorem ADeed.ext_iff (a b : ADeed) : a = b ↔ a.kind = b.kind ∧ a.client = b.client ∧ a.server = b.server ∧ a.request = b.request ∧ a.lost = b.lost ∧ a.slow = b.slow ∧ a.keep = b.keep ∧ a.watch = b.watch := by
  cases a; cases b; simp
instance : DecidableEq ADeed := fun a b => decidable_of_iff _ (ADeed.ext_iff a b).symm
def ADeed.row (x : ADeed) : List DV := [.int .i64 x.kind, .int .i64 x.client, .int .i64 x.server, .int .i64 x.request.op, .int .i64 x.request.session, .str x.request.path, .str x.request.data, .int .i64 x.request.version, .int .i64 x.request.flags, .int .i64 x.lost, .int .i64 x.slow, .int .i64 x.keep, .bool x.watch]
def ADeed.av (x : ADeed) : AV := .agg [.d (.int .i64 x.kind), .d (.int .i64 x.client), .d (.int .i64 x.server), .d (.int .i64 x.request.op), .d (.int .i64 x.request.session), .d (.str x.request.path), .d (.str x.request.data), .d (.int .i64 x.request.version), .d (.int .i64 x.request.flags), .d (.int .i64 x.lost), .d (.int .i64 x.slow), .d (.int .i64 x.keep), .d (.bool x.watch)]
theorem ADeed.dec (a b : ADeed) : (decide (a.kind = b.kind) && (decide (a.client = b.client) && (decide (a.server = b.server) && (decide (a.request.op = b.request.op) && (decide (a.request.session = b.request.session) && (decide (a.request.path = b.request.path) && (decide (a.request.data = b.request.data) && (decide (a.request.version = b.request.version) && (decide (a.request.flags = b.request.flags) && (decide (a.lost = b.lost) && (decide (a.slow = b.slow) && (decide (a.keep = b.keep) && decide (a.watch = b.watch))))))))))))) = decide (a = b) := by
  rw [Bool.eq_iff_iff]; simp only [Bool.and_eq_true, decide_eq_true_eq, ADeed.ext_iff, ARequest.ext_iff, and_assoc]
theorem ADeed.getD (l : List ADeed) (i : Nat) : (l.map ADeed.row).getD i [.int .i64 0, .int .i64 0, .int .i64 0, .int .i64 0, .int .i64 0, .str [], .str [], .int .i64 0, .int .i64 0, .int .i64 0, .int .i64 0, .int .i64 0, .bool false] = (l.getD i default).row := by
  rw [List.getD_eq_getElem?_getD, List.getD_eq_getElem?_getD, List.getElem?_map]; cases l[i]? <;> rfl
theorem ADeed.rgetD (l : List ADeed) (i : Nat) (z : List DV) (h : i < l.length) : (l.map ADeed.row).getD i z = (l.getD i default).row := getD_row ADeed.row l i z h
theorem ADeed.rset (l : List ADeed) (i : Nat) (qkind : Int) (qclient : Int) (qserver : Int) (qrequest_op : Int) (qrequest_session : Int) (qrequest_path : List UInt8) (qrequest_data : List UInt8) (qrequest_version : Int) (qrequest_flags : Int) (qlost : Int) (qslow : Int) (qkeep : Int) (qwatch : Bool) : (l.map ADeed.row).set i [.int .i64 qkind, .int .i64 qclient, .int .i64 qserver, .int .i64 qrequest_op, .int .i64 qrequest_session, .str qrequest_path, .str qrequest_data, .int .i64 qrequest_version, .int .i64 qrequest_flags, .int .i64 qlost, .int .i64 qslow, .int .i64 qkeep, .bool qwatch] = (l.set i (⟨qkind, qclient, qserver, ⟨qrequest_op, qrequest_session, qrequest_path, qrequest_data, qrequest_version, qrequest_flags⟩, qlost, qslow, qkeep, qwatch⟩ : ADeed)).map ADeed.row := by rw [List.map_set]; rfl
theorem ADeed.rins (l : List ADeed) (i : Nat) (qkind : Int) (qclient : Int) (qserver : Int) (qrequest_op : Int) (qrequest_session : Int) (qrequest_path : List UInt8) (qrequest_data : List UInt8) (qrequest_version : Int) (qrequest_flags : Int) (qlost : Int) (qslow : Int) (qkeep : Int) (qwatch : Bool) : (l.map ADeed.row).insertIdx i [.int .i64 qkind, .int .i64 qclient, .int .i64 qserver, .int .i64 qrequest_op, .int .i64 qrequest_session, .str qrequest_path, .str qrequest_data, .int .i64 qrequest_version, .int .i64 qrequest_flags, .int .i64 qlost, .int .i64 qslow, .int .i64 qkeep, .bool qwatch] = (l.insertIdx i (⟨qkind, qclient, qserver, ⟨qrequest_op, qrequest_session, qrequest_path, qrequest_data, qrequest_version, qrequest_flags⟩, qlost, qslow, qkeep, qwatch⟩ : ADeed)).map ADeed.row := ins_map ADeed.row l i (⟨qkind, qclient, qserver, ⟨qrequest_op, qrequest_session, qrequest_path, qrequest_data, qrequest_version, qrequest_flags⟩, qlost, qslow, qkeep, qwatch⟩ : ADeed)
theorem ADeed.rdrop (l : List ADeed) (k : Nat) : List.drop 13 ((l.map ADeed.row).getD k []) = [] := by
  rw [List.getD_eq_getElem?_getD, List.getElem?_map]; cases l[k]? <;> rfl
attribute [go_sem] ADeed.rdrop
theorem ADeed.rsnoc (l : List ADeed) (qkind : Int) (qclient : Int) (qserver : Int) (qrequest_op : Int) (qrequest_session : Int) (qrequest_path : List UInt8) (qrequest_data : List UInt8) (qrequest_version : Int) (qrequest_flags : Int) (qlost : Int) (qslow : Int) (qkeep : Int) (qwatch : Bool) : l.map ADeed.row ++ [[.int .i64 qkind, .int .i64 qclient, .int .i64 qserver, .int .i64 qrequest_op, .int .i64 qrequest_session, .str qrequest_path, .str qrequest_data, .int .i64 qrequest_version, .int .i64 qrequest_flags, .int .i64 qlost, .int .i64 qslow, .int .i64 qkeep, .bool qwatch]] = (l ++ [(⟨qkind, qclient, qserver, ⟨qrequest_op, qrequest_session, qrequest_path, qrequest_data, qrequest_version, qrequest_flags⟩, qlost, qslow, qkeep, qwatch⟩ : ADeed)]).map ADeed.row := by rw [List.map_append]; rfl
structure AReply where
  code : Int
  zxid : Int
  path : List UInt8
  data : List UInt8
  stat : AStat
  notes : List (ANote)
instance : Inhabited AReply := ⟨⟨0, 0, [], [], default, []⟩⟩
theorem AReply.ext_iff (a b : AReply) : a = b ↔ a.code = b.code ∧ a.zxid = b.zxid ∧ a.path = b.path ∧ a.data = b.data ∧ a.stat = b.stat ∧ a.notes = b.notes := by
  cases a; cases b; simp
instance : DecidableEq AReply := fun a b => decidable_of_iff _ (AReply.ext_iff a b).symm
def AReply.row (x : AReply) : List DV := [.int .i64 x.code, .int .i64 x.zxid, .str x.path, .str x.data, .int .i64 x.stat.czxid, .int .i64 x.stat.mzxid, .int .i64 x.stat.pzxid, .int .i64 x.stat.version, .int .i64 x.stat.cversion, .int .i64 x.stat.owner, .int .i64 x.stat.kids, .sl 3 (x.notes.map ANote.row)]
def AReply.av (x : AReply) : AV := .agg [.d (.int .i64 x.code), .d (.int .i64 x.zxid), .d (.str x.path), .d (.str x.data), .d (.int .i64 x.stat.czxid), .d (.int .i64 x.stat.mzxid), .d (.int .i64 x.stat.pzxid), .d (.int .i64 x.stat.version), .d (.int .i64 x.stat.cversion), .d (.int .i64 x.stat.owner), .d (.int .i64 x.stat.kids), .d (.sl 3 (x.notes.map ANote.row))]
theorem AReply.rgetD (l : List AReply) (i : Nat) (z : List DV) (h : i < l.length) : (l.map AReply.row).getD i z = (l.getD i default).row := getD_row AReply.row l i z h
theorem AReply.rset (l : List AReply) (i : Nat) (qcode : Int) (qzxid : Int) (qpath : List UInt8) (qdata : List UInt8) (qstat_czxid : Int) (qstat_mzxid : Int) (qstat_pzxid : Int) (qstat_version : Int) (qstat_cversion : Int) (qstat_owner : Int) (qstat_kids : Int) (qnotes : List (ANote)) : (l.map AReply.row).set i [.int .i64 qcode, .int .i64 qzxid, .str qpath, .str qdata, .int .i64 qstat_czxid, .int .i64 qstat_mzxid, .int .i64 qstat_pzxid, .int .i64 qstat_version, .int .i64 qstat_cversion, .int .i64 qstat_owner, .int .i64 qstat_kids, .sl 3 (qnotes.map ANote.row)] = (l.set i (⟨qcode, qzxid, qpath, qdata, ⟨qstat_czxid, qstat_mzxid, qstat_pzxid, qstat_version, qstat_cversion, qstat_owner, qstat_kids⟩, qnotes⟩ : AReply)).map AReply.row := by rw [List.map_set]; rfl
theorem AReply.rins (l : List AReply) (i : Nat) (qcode : Int) (qzxid : Int) (qpath : List UInt8) (qdata : List UInt8) (qstat_czxid : Int) (qstat_mzxid : Int) (qstat_pzxid : Int) (qstat_version : Int) (qstat_cversion : Int) (qstat_owner : Int) (qstat_kids : Int) (qnotes : List (ANote)) : (l.map AReply.row).insertIdx i [.int .i64 qcode, .int .i64 qzxid, .str qpath, .str qdata, .int .i64 qstat_czxid, .int .i64 qstat_mzxid, .int .i64 qstat_pzxid, .int .i64 qstat_version, .int .i64 qstat_cversion, .int .i64 qstat_owner, .int .i64 qstat_kids, .sl 3 (qnotes.map ANote.row)] = (l.insertIdx i (⟨qcode, qzxid, qpath, qdata, ⟨qstat_czxid, qstat_mzxid, qstat_pzxid, qstat_version, qstat_cversion, qstat_owner, qstat_kids⟩, qnotes⟩ : AReply)).map AReply.row := ins_map AReply.row l i (⟨qcode, qzxid, qpath, qdata, ⟨qstat_czxid, qstat_mzxid, qstat_pzxid, qstat_version, qstat_cversion, qstat_owner, qstat_kids⟩, qnotes⟩ : AReply)
theorem AReply.rdrop (l : List AReply) (k : Nat) : List.drop 12 ((l.map AReply.row).getD k []) = [] := by
  rw [List.getD_eq_getElem?_getD, List.getElem?_map]; cases l[k]? <;> rfl
attribute [go_sem] AReply.rdrop
theorem AReply.rsnoc (l : List AReply) (qcode : Int) (qzxid : Int) (qpath : List UInt8) (qdata : List UInt8) (qstat_czxid : Int) (qstat_mzxid : Int) (qstat_pzxid : Int) (qstat_version : Int) (qstat_cversion : Int) (qstat_owner : Int) (qstat_kids : Int) (qnotes : List (ANote)) : l.map AReply.row ++ [[.int .i64 qcode, .int .i64 qzxid, .str qpath, .str qdata, .int .i64 qstat_czxid, .int .i64 qstat_mzxid, .int .i64 qstat_pzxid, .int .i64 qstat_version, .int .i64 qstat_cversion, .int .i64 qstat_owner, .int .i64 qstat_kids, .sl 3 (qnotes.map ANote.row)]] = (l ++ [(⟨qcode, qzxid, qpath, qdata, ⟨qstat_czxid, qstat_mzxid, qstat_pzxid, qstat_version, qstat_cversion, qstat_owner, qstat_kids⟩, qnotes⟩ : AReply)]).map AReply.row := by rw [List.map_append]; rfl
/-! ### What is typed -/
def okS (s : List UInt8) : Prop := s.length ≤ 140737488351232
theorem wf_okI {n : Int} (h : (Lit.int .i64 n).wf = true) : okI n := by
  simp only [Lit.wf, Bool.and_eq_true, decide_eq_true_eq] at h
  have h1 : IntKind.i64.min = -9223372036854775808 := rfl
  have h2 : IntKind.i64.max = 9223372036854775807 := rfl
  rw [h1, h2] at h; exact h
theorem list_of_rows {α : Type} {f : α → List DV} {wf : α → Prop} : ∀ {rows : List (List DV)}, (∀ r, r ∈ rows → ∃ x, r = f x ∧ wf x) → ∃ l : List α, rows = l.map f ∧ ∀ x, x ∈ l → wf x
  | [], _ => ⟨[], rfl, by simp⟩
  | r :: rows, h => by
    obtain ⟨x, h1, h2⟩ := h r (by simp)
    obtain ⟨l, h3, h4⟩ := list_of_rows (rows := rows) fun r hr => h r (by simp [hr])
    exact ⟨x :: l, by rw [h1, h3]; rfl, fun y hy => by rcases List.mem_cons.1 hy with rfl | hy; exact h2; exact h4 y hy⟩
def ATxn.wf (x : ATxn) : Prop := okI x.zxid ∧ okI x.op ∧ okI x.session ∧ okS x.path ∧ okS x.data ∧ okI x.version ∧ okI x.owner
def AStat.wf (x : AStat) : Prop := okI x.czxid ∧ okI x.mzxid ∧ okI x.pzxid ∧ okI x.version ∧ okI x.cversion ∧ okI x.owner ∧ okI x.kids
def ANode.wf (x : ANode) : Prop := okS x.path ∧ okS x.data ∧ x.stat.wf
def AFile.wf (x : AFile) : Prop := okS x.name ∧ okS x.safe ∧ okS x.tail
def AWatch.wf (x : AWatch) : Prop := okI x.session ∧ okI x.kind ∧ okS x.path
def AEvent.wf (x : AEvent) : Prop := okI x.kind ∧ okS x.path
def ANote.wf (x : ANote) : Prop := okI x.session ∧ x.event.wf
def AEntry.wf (x : AEntry) : Prop := okS x.path ∧ okS x.data ∧ True
def ARequest.wf (x : ARequest) : Prop := okI x.op ∧ okI x.session ∧ okS x.path ∧ okS x.data ∧ okI x.version ∧ okI x.flags
def ATree.wf (x : ATree) : Prop := okI x.zxid ∧ (x.nodes.length * 88 ≤ 140737488351232 ∧ ∀ y : ANode, y ∈ x.nodes → y.wf) ∧ (x.sessions.length * 8 ≤ 140737488351232 ∧ ∀ y : Int, y ∈ x.sessions → okI y)
def ADisk.wf (x : ADisk) : Prop := (x.files.length * 48 ≤ 140737488351232 ∧ ∀ y : AFile, y ∈ x.files → y.wf)
def APeer.wf (x : APeer) : Prop := okI x.id ∧ okI x.epoch ∧ (x.log.length * 72 ≤ 140737488351232 ∧ ∀ y : ATxn, y ∈ x.log → y.wf) ∧ okI x.done
def AServer.wf (x : AServer) : Prop := True ∧ x.disk.wf ∧ x.peer.wf ∧ x.tree.wf ∧ (x.watches.length * 32 ≤ 140737488351232 ∧ ∀ y : AWatch, y ∈ x.watches → y.wf)
def AClient.wf (x : AClient) : Prop := okI x.session ∧ okI x.seen ∧ (x.cache.length * 40 ≤ 140737488351232 ∧ ∀ y : AEntry, y ∈ x.cache → y.wf)
def ADeed.wf (x : ADeed) : Prop := okI x.kind ∧ okI x.client ∧ okI x.server ∧ x.request.wf ∧ okI x.lost ∧ okI x.slow ∧ okI x.keep ∧ True
def AReply.wf (x : AReply) : Prop := okI x.code ∧ okI x.zxid ∧ okS x.path ∧ okS x.data ∧ x.stat.wf ∧ (x.notes.length * 32 ≤ 140737488351232 ∧ ∀ y : ANote, y ∈ x.notes → y.wf)
attribute [go_sem] zl irow srow u8row irow_getD srow_getD u8row_getD ATxn.row ATxn.av AStat.row AStat.av ANode.row ANode.av AFile.row AFile.av AWatch.row AWatch.av AEvent.row AEvent.av ANote.row ANote.av AEntry.row AEntry.av ARequest.row ARequest.av ATree.row ATree.av ADisk.row ADisk.av APeer.row APeer.av AServer.row AServer.av AClient.row AClient.av ADeed.row ADeed.av AReply.row AReply.av ATxn.dec ATxn.getD AStat.dec AStat.getD ANode.dec ANode.getD AFile.dec AFile.getD AWatch.dec AWatch.getD AEvent.dec AEvent.getD ANote.dec ANote.getD AEntry.dec AEntry.getD ARequest.dec ARequest.getD ADeed.dec ADeed.getD
attribute [go_sem] List.length_map List.length_take List.length_drop
end Go.Proofs.YtainmipdnjcbkaaGreatDoor
namespace Go.Proofs.YtainmipdnjcbkaaGreatDoor
set_option linter.unusedVariables false
set_option linter.unusedSimpArgs false
open Go
theorem acallH_at (m : List Nat) {P : Program} {np : Nat} {hp : List ABlk} {g : FuncId} {xs : List AV} {K : AV → List ABlk → Prop} {t : Tok K} {chp bl : List ABlk} {cargs : List AV} {x : AV} (c : acall P chp g cargs (outs x bl))
    (exs : renL (mAt m hp.length) cargs = xs) (h : chp.length = m.length ∧ m.Nodup ∧ (∀ i, i ∈ m → i < hp.length) ∧ inL m.length cargs ∧ hpLe (mAt m hp.length) m.length hp 0 chp)
    (hK : K (renV (renm m hp.length) x) (putAll (renm m hp.length) hp m bl ++ renBs (renm m hp.length) (bl.drop m.length))) : acallHK P np hp g xs K t := by
  have := acallH_ptr (hp := hp) (K := K) m c h.1 h.2.1 h.2.2.1 h.2.2.2.1 h.2.2.2.2 (fun v hp' hR => by
    obtain ⟨rfl, rfl⟩ := hR
    exact hK)
  rw [exs] at this
  exact acallHK_of this
end Go.Proofs.YtainmipdnjcbkaaGreatDoor
namespace Go.Proofs.YtainmipdnjcbkaaGreatDoor
set_option linter.unusedVariables false
set_option linter.unusedSimpArgs false
open Go Go.RowKit
class AR (G : Prop) (H : outParam Prop) : Prop where
  f : H → G
section
variable {P : Program} {s : ASt} {Q : Exit → ASt → Prop} {x y : Code} {N : ASt → Prop} {id i : Nat}
instance : AR (AWP P (.seq x y) s Q) (AWP P x s (thenA (fun s' => AWP P y s' Q) Q)) := ⟨AWP.seq⟩
instance : AR (thenA N Q .normal s) (N s) := ⟨thenA_n⟩
instance : AR (thenA N Q .ret s) (Q .ret s) := ⟨thenA_r⟩
instance : AR (thenA N Q (.exit i) s) (Q (.exit i) s) := ⟨thenA_e⟩
instance : AR (blkA id N Q .normal s) (N s) := ⟨blkA_n⟩
instance : AR (blkA id N Q .ret s) (Q .ret s) := ⟨blkA_r⟩
instance : AR (blkA id N Q (.exit id) s) (N s) := ⟨blkA_e⟩
instance : AR (AWP P .skip s Q) (Q .normal s) := ⟨AWP.skip⟩
instance : AR (AWP P .ret s Q) (Q .ret s) := ⟨AWP.ret⟩
instance : AR (AWP P (.exit i) s Q) (Q (.exit i) s) := ⟨AWP.exit⟩
instance : AR (AWP P (.block id x) s Q) (AWP P x s (blkA id (Q .normal) Q)) := ⟨AWP.block⟩
end
class CK (G : Prop) (P : outParam Program) (hp : outParam (List ABlk)) (g : outParam FuncId) (xs : outParam (List AV)) (x : AV) (H : outParam Prop) : Prop where
  sc : ∀ {ys : List AV} {u0 : Value}, acall P [] g ys (ret x) → frzL hp xs = ys → scalV x = some u0 → frzOks hp xs → noIds ys → H → G
  cx : ∀ {ys : List AV} {u0 : Value}, acall P [] g ys (ret x) → scalV x = some u0 → coeL (frzL hp xs) ys ∧ frzOks hp xs ∧ noIds (frzL hp xs) → H → G
section
variable {P : Program} {hp : List ABlk} {g : FuncId} {xs : List AV} {x : AV} {np : Nat}
instance {K : AV → List ABlk → Prop} {t : Tok K} : CK (acallHK P np hp g xs K t) P hp g xs x (K x hp) := ⟨fun c a b d e h => acallH_sc c a b d e h, fun c a b h => acallH_scx c a b h⟩
instance {K : AV → Prop} {t : Tok K} : CK (acallQK P hp g xs K t) P hp g xs x (K x) := ⟨fun c a b d e h => acallQ_sc c a b d e h, fun c a b h => acallQ_scx c a b h⟩
end
section
variable {G H : Prop} {P : Program} {hp : List ABlk} {g : FuncId} {xs ys : List AV} {x : AV} {u0 : Value}
theorem zA (c : acall P [] g ys (ret x)) [k : CK G P hp g xs x H] (a : frzL hp xs = ys) (b : (scalV x).isSome = true) (d : frzOks hp xs) (e : noIds ys) (h : H) : G := by
  obtain ⟨u, hu⟩ := Option.isSome_iff_exists.1 b
  exact k.sc c a hu d e h
theorem zX (c : acall P [] g ys (ret x)) [k : CK G P hp g xs x H] (b : scalV x = some u0) (d : coeL (frzL hp xs) ys ∧ frzOks hp xs ∧ noIds (frzL hp xs)) (h : H) : G := k.cx c b d h
end
section
variable {s : ASt} {Q : Exit → ASt → Prop} {id : Nat} {l : List Oper}
theorem zR (h : ∀ K : ASt → Prop, (∀ s', Q .normal s' → K s') → aops Tryz.prog T l.toArray K l s) : AWP Tryz.prog (.region id l.toArray false) s Q := AWP.region tabOk h
theorem zQ (hB : (calm l.toArray && Region.lexB .any l.toArray) = true) (h : ∀ K : ASt → Prop, (∀ s', Q .normal s' → K s') → aopsQ Tryz.prog T l.toArray K l s) : AWP Tryz.prog (.region id l.toArray true) s Q := AWP.quietC mixed tabOk hB h
theorem zD (hB : drawB l.toArray = true) (h : ∀ K : ASt → Prop, (∀ s', Q .normal s' → K s') → aopsD Tryz.prog T l.toArray K l s) : AWP Tryz.prog (.region id l.toArray true) s Q := AWP.draw mixed tabOk hB h
theorem zE (hB : drawE l.toArray = true) (h : ∀ K : ASt → Prop, (∀ s', Q .normal s' → K s') → aopsD Tryz.prog T l.toArray K (inOrd l) s) : AWP Tryz.prog (.region id l.toArray true) s Q := AWP.drawE mixed tabOk hB h
theorem zG (hB : growB T l.toArray = true) (h : ∀ K : ASt → Prop, (∀ s', Q .normal s' → K s') → aopsG Tryz.prog T l.toArray K (inOrdG l) s) : AWP Tryz.prog (.region id l.toArray true) s Q := AWP.drawG mixed tabOk hB h
theorem zP {ops : Array Oper} (p : Plan) (hB : planB ops p = true) (h : ∀ K : ASt → Prop, (∀ s', Q .normal s' → K s') → aplan Tryz.prog T ops K p s) : AWP Tryz.prog (.region id ops true) s Q := AWP.plan p mixed tabOk hB h
end
theorem zN {P : Program} {g : FuncId} {xs ys : List AV} {x : AV} {hp bl : List ABlk} {np : Nat} {K : AV → List ABlk → Prop} {t : Tok K} (c : acall P [] g ys (fun v h => v = x ∧ h = bl)) (e : xs = ys) (h : idsL xs = [] ∧ frzL hp xs = xs ∧ frzOks hp xs ∧ noIds xs)
    (hK : K (renV (renm [] hp.length) x) (hp ++ renBs (renm [] hp.length) bl)) : acallHK P np hp g xs K t := acallH_anyr c e h hK
class ER (e : Exit) : Prop where
  h : e = .ret ∨ e = .normal
instance : ER .ret := ⟨.inl rfl⟩
instance : ER .normal := ⟨.inr rfl⟩
theorem zF {T : TypeId → TI} {s : ASt} {rs : List ResultVar} {x : AV} {e : Exit} [k : ER e] (h0 : s.np = 0) (h1 : (aresL T s rs).1)
    (h2 : frzOk s.hp (tupOf (aresL T s rs).2)) (h3 : noId (frzV s.hp (tupOf (aresL T s rs).2))) (hR : coeV (frzV s.hp (tupOf (aresL T s rs).2)) x) : aend T rs (ret x) e s := aend_retc k.h h0 h1 h2 h3 hR
theorem zY {P : Program} {g : FuncId} {xs ys : List AV} {x : AV} {hp bl : List ABlk} {np : Nat} {K : AV → List ABlk → Prop} {t : Tok K} (c : acall P [] g ys (fun v h => v = x ∧ h = bl)) (h : (np = 0 ∨ idsL xs = []) ∧ coeL (frzL hp xs) ys ∧ frzOks hp xs ∧ noIds (frzL hp xs))
    (hK : K (renV (renm [] (killIds (idsL xs) hp).length) x) (killIds (idsL xs) hp ++ renBs (renm [] (killIds (idsL xs) hp).length) bl)) : acallHK P np hp g xs K t := zy c h hK
theorem zI {g : FuncId} {fn : Func} {c : Code} (hf : Tryz.prog.funcs[g]? = some fn) (hb : fn.body = some c) (hn : (fn.name == "runtime.NumGoroutine") = false)
    {hp : List ABlk} {xs : List AV} {R : AV → List ABlk → Prop} (hx : xs.length ≤ fn.ntmps)
    (h : AWP Tryz.prog c { np := hp.length, nt := fn.ntmps, env := apar 0 xs, hp := hp } (aend T fn.results.toList R)) : acall Tryz.prog hp g xs R := zi tabOk hf hb hn hx h
theorem zV (m : List Nat) {np nt : Nat} {env env' : List (Nat × AV)} {hp hp' : List ABlk} (hl : Nat.beq hp'.length m.length = true) (hm : (m.all fun i => Nat.blt i hp.length) = true) (hinj : decide m.Nodup = true) (hpre : ((List.range np).all fun k => m[k]? == some k) = true)
    (he : envLe (mAt m hp.length) m.length env env') (hh : hpLe (mAt m hp.length) m.length hp 0 hp') :
    SImp { np := np, nt := nt, env := env, hp := hp } { np := np, nt := nt, env := env', hp := hp' } :=
  SImp.frame m (Nat.eq_of_beq_eq_true hl) (fun i hi => by have := List.all_eq_true.1 hm i hi; simpa [Nat.blt_eq] using this) (of_decide_eq_true hinj)
    (fun k hk => by have := List.all_eq_true.1 hpre k (List.mem_range.2 hk); simpa using this) he hh
theorem zO {T : TypeId → TI} {s : ASt} {e : Exit} {rs : List ResultVar} {R : AV → List ABlk → Prop} [k : ER e] (h1 : (aresL T s rs).1) (h2 : AOut s.np s.hp (tupOf (aresL T s rs).2) R) : aend T rs R e s := aend_out k.h h1 h2
theorem zj : (∀ a b, (AV.d a = AV.d b) = (a = b)) ∧ (∀ k n k' n', (DV.int k n = DV.int k' n') = (k = k' ∧ n = n')) ∧ (∀ a b, (DV.bool a = DV.bool b) = (a = b)) ∧ (∀ a b, (DV.str a = DV.str b) = (a = b)) ∧ (∀ k n k' n', (DV.sl k n = DV.sl k' n') = (k = k' ∧ n = n')) ∧
    (∀ a b, (AV.tup a = AV.tup b) = (a = b)) ∧ (∀ a b, (AV.agg a = AV.agg b) = (a = b)) ∧ (∀ a b c d a' b' c' d', (AV.osl a b c d = AV.osl a' b' c' d') = (a = a' ∧ b = b' ∧ c = c' ∧ d = d')) ∧ (∀ a b a' b', (AV.ptr a b = AV.ptr a' b') = (a = a' ∧ b = b')) ∧
    (∀ a b c d a' b' c' d', (AV.rp a b c d = AV.rp a' b' c' d') = (a = a' ∧ b = b' ∧ c = c' ∧ d = d')) ∧ (∀ (a b : AV) l m, (a :: l = b :: m) = (a = b ∧ l = m)) ∧ (∀ (a b : DV) l m, (a :: l = b :: m) = (a = b ∧ l = m)) ∧ (∀ (a b : List DV) l m, (a :: l = b :: m) = (a = b ∧ l = m)) ∧ (∀ p : Prop, (p ∧ p) = p) := by simp
end Go.Proofs.YtainmipdnjcbkaaGreatDoor
namespace Go.Proofs.YtainmipdnjcbkaaGreatDoor
set_option linter.unusedVariables false
set_option linter.unusedSimpArgs false
open Go Go.RowKit
theorem ty_struct {m : Nat} {t : TypeId} {cs : List DV} {fs : List (Nat × Nat × TypeId)} (hk : (T t).kind = .struct fs) (h : typed T (m + 1) t cs) : typedF (typed T m) fs cs := by
  simp only [typed, hk] at h; exact h
theorem ty_int {m : Nat} {t : TypeId} {cs : List DV} (hk : (T t).kind = .int .i64) (h : typed T (m + 1) t cs) : ∃ n, cs = [.int .i64 n] ∧ okI n := by
  simp only [typed, hk] at h
  obtain ⟨n, rfl, h⟩ := h
  exact ⟨n, rfl, wf_okI h⟩
theorem ty_str {m : Nat} {t : TypeId} {cs : List DV} (hk : (T t).kind = .str) (h : typed T (m + 1) t cs) : ∃ n, cs = [.str n] ∧ okS n := by
  simp only [typed, hk] at h
  exact h
theorem ty_bool {m : Nat} {t : TypeId} {cs : List DV} (hk : (T t).kind = .bool) (h : typed T (m + 1) t cs) : ∃ b, cs = [.bool b] := by
  simp only [typed, hk] at h
  exact h
theorem ty_sl {α : Type} {f : α → List DV} {wf : α → Prop} {m : Nat} {t e : TypeId} {sz by_ : Nat} {cs : List DV} (hk : (T t).kind = .slice e) (hs : (T e).size = sz) (hb : (T e).bytes = by_)
    (h1 : ∀ r, typed T m e r → ∃ x, r = f x ∧ wf x) (h : typed T (m + 1) t cs) : ∃ l : List α, cs = [.sl sz (l.map f)] ∧ l.length * by_ ≤ 140737488351232 ∧ ∀ x, x ∈ l → wf x := by
  simp only [typed, hk, hs, hb] at h
  obtain ⟨rows, rfl, h2, _, h3⟩ := h
  obtain ⟨l, rfl, h4⟩ := list_of_rows fun r hr => h1 r (h3 r hr)
  exact ⟨l, rfl, by simpa using h2, h4⟩
theorem ATxn_typed {m : Nat} {cs : List DV} (h : typed T (m + 2) 93 cs) : ∃ x : ATxn, cs = x.row ∧ x.wf := by
  have h := ty_struct (m := m + 1) (by simp only [T_93, ty93]; rfl) h
  simp only [typedF] at h
  obtain ⟨a0, b0, e0, h0, a1, b1, e1, h1, a2, b2, e2, h2, a3, b3, e3, h3, a4, b4, e4, h4, a5, b5, e5, h5, a6, b6, e6, h6, e⟩ := h
  subst e
  obtain ⟨x0, rfl, w0⟩ := ty_int (m := m) (by simp only [T_3, ty3]) h0
  obtain ⟨x1, rfl, w1⟩ := ty_int (m := m) (by simp only [T_3, ty3]) h1
  obtain ⟨x2, rfl, w2⟩ := ty_int (m := m) (by simp only [T_3, ty3]) h2
  obtain ⟨x3, rfl, w3⟩ := ty_str (m := m) (by simp only [T_9, ty9]) h3
  obtain ⟨x4, rfl, w4⟩ := ty_str (m := m) (by simp only [T_9, ty9]) h4
  obtain ⟨x5, rfl, w5⟩ := ty_int (m := m) (by simp only [T_3, ty3]) h5
  obtain ⟨x6, rfl, w6⟩ := ty_int (m := m) (by simp only [T_3, ty3]) h6
  subst e6 e5 e4 e3 e2 e1 e0
  exact ⟨⟨x0, x1, x2, x3, x4, x5, x6⟩, rfl, ⟨w0, w1, w2, w3, w4, w5, w6⟩⟩
theorem AStat_typed {m : Nat} {cs : List DV} (h : typed T (m + 2) 55 cs) : ∃ x : AStat, cs = x.row ∧ x.wf := by
  have h := ty_struct (m := m + 1) (by simp only [T_55, ty55]; rfl) h
  simp only [typedF] at h
  obtain ⟨a0, b0, e0, h0, a1, b1, e1, h1, a2, b2, e2, h2, a3, b3, e3, h3, a4, b4, e4, h4, a5, b5, e5, h5, a6, b6, e6, h6, e⟩ := h
  subst e
  obtain ⟨x0, rfl, w0⟩ := ty_int (m := m) (by simp only [T_3, ty3]) h0
  obtain ⟨x1, rfl, w1⟩ := ty_int (m := m) (by simp only [T_3, ty3]) h1
  obtain ⟨x2, rfl, w2⟩ := ty_int (m := m) (by simp only [T_3, ty3]) h2
  obtain ⟨x3, rfl, w3⟩ := ty_int (m := m) (by simp only [T_3, ty3]) h3
  obtain ⟨x4, rfl, w4⟩ := ty_int (m := m) (by simp only [T_3, ty3]) h4
  obtain ⟨x5, rfl, w5⟩ := ty_int (m := m) (by simp only [T_3, ty3]) h5
  obtain ⟨x6, rfl, w6⟩ := ty_int (m := m) (by simp only [T_3, ty3]) h6
  subst e6 e5 e4 e3 e2 e1 e0
  exact ⟨⟨x0, x1, x2, x3, x4, x5, x6⟩, rfl, ⟨w0, w1, w2, w3, w4, w5, w6⟩⟩
theorem ANode_typed {m : Nat} {cs : List DV} (h : typed T (m + 3) 105 cs) : ∃ x : ANode, cs = x.row ∧ x.wf := by
  have h := ty_struct (m := m + 2) (by simp only [T_105, ty105]; rfl) h
  simp only [typedF] at h
  obtain ⟨a0, b0, e0, h0, a1, b1, e1, h1, a2, b2, e2, h2, e⟩ := h
  subst e
  obtain ⟨x0, rfl, w0⟩ := ty_str (m := m + 1) (by simp only [T_9, ty9]) h0
  obtain ⟨x1, rfl, w1⟩ := ty_str (m := m + 1) (by simp only [T_9, ty9]) h1
  obtain ⟨x2, rfl, w2⟩ := AStat_typed (m := m) h2
  subst e2 e1 e0
  exact ⟨⟨x0, x1, x2⟩, rfl, ⟨w0, w1, w2⟩⟩
theorem AFile_typed {m : Nat} {cs : List DV} (h : typed T (m + 2) 114 cs) : ∃ x : AFile, cs = x.row ∧ x.wf := by
  have h := ty_struct (m := m + 1) (by simp only [T_114, ty114]; rfl) h
  simp only [typedF] at h
  obtain ⟨a0, b0, e0, h0, a1, b1, e1, h1, a2, b2, e2, h2, e⟩ := h
  subst e
  obtain ⟨x0, rfl, w0⟩ := ty_str (m := m) (by simp only [T_9, ty9]) h0
  obtain ⟨x1, rfl, w1⟩ := ty_str (m := m) (by simp only [T_9, ty9]) h1
  obtain ⟨x2, rfl, w2⟩ := ty_str (m := m) (by simp only [T_9, ty9]) h2
  subst e2 e1 e0
  exact ⟨⟨x0, x1, x2⟩, rfl, ⟨w0, w1, w2⟩⟩
theorem AWatch_typed {m : Nat} {cs : List DV} (h : typed T (m + 2) 116 cs) : ∃ x : AWatch, cs = x.row ∧ x.wf := by
  have h := ty_struct (m := m + 1) (by simp only [T_116, ty116]; rfl) h
  simp only [typedF] at h
  obtain ⟨a0, b0, e0, h0, a1, b1, e1, h1, a2, b2, e2, h2, e⟩ := h
  subst e
  obtain ⟨x0, rfl, w0⟩ := ty_int (m := m) (by simp only [T_3, ty3]) h0
  obtain ⟨x1, rfl, w1⟩ := ty_int (m := m) (by simp only [T_3, ty3]) h1
  obtain ⟨x2, rfl, w2⟩ := ty_str (m := m) (by simp only [T_9, ty9]) h2
  subst e2 e1 e0
  exact ⟨⟨x0, x1, x2⟩, rfl, ⟨w0, w1, w2⟩⟩
theorem ATree_typed {m : Nat} {cs : List DV} (h : typed T (m + 5) 31 cs) : ∃ x : ATree, cs = x.row ∧ x.wf := by
  have h := ty_struct (m := m + 4) (by simp only [T_31, ty31]; rfl) h
  simp only [typedF] at h
  obtain ⟨a0, b0, e0, h0, a1, b1, e1, h1, a2, b2, e2, h2, e⟩ := h
  subst e
  obtain ⟨x0, rfl, w0⟩ := ty_int (m := m + 3) (by simp only [T_3, ty3]) h0
  obtain ⟨x1, rfl, v1, w1⟩ := ty_sl (e := 105) (m := m + 3) (sz := 9) (by_ := 88) (by simp only [T_28, ty28]) (by simp only [T_105, ty105]) (by simp only [T_105, ty105]) (fun r hr => ANode_typed (m := m) hr) h1
  obtain ⟨x2, rfl, v2, w2⟩ := ty_sl (e := 3) (m := m + 3) (sz := 1) (by_ := 8) (by simp only [T_29, ty29]) (by simp only [T_3, ty3]) (by simp only [T_3, ty3]) (f := irow) (fun r hr => ty_int (m := m + 2) (by simp only [T_3, ty3]) hr) h2
  subst e2 e1 e0
  exact ⟨⟨x0, x1, x2⟩, rfl, ⟨w0, ⟨v1, w1⟩, ⟨v2, w2⟩⟩⟩
theorem ADisk_typed {m : Nat} {cs : List DV} (h : typed T (m + 4) 24 cs) : ∃ x : ADisk, cs = x.row ∧ x.wf := by
  have h := ty_struct (m := m + 3) (by simp only [T_24, ty24]; rfl) h
  simp only [typedF] at h
  obtain ⟨a0, b0, e0, h0, e⟩ := h
  subst e
  obtain ⟨x0, rfl, v0, w0⟩ := ty_sl (e := 114) (m := m + 2) (sz := 3) (by_ := 48) (by simp only [T_22, ty22]) (by simp only [T_114, ty114]) (by simp only [T_114, ty114]) (fun r hr => AFile_typed (m := m) hr) h0
  subst e0
  exact ⟨⟨x0⟩, rfl, ⟨v0, w0⟩⟩
theorem APeer_typed {m : Nat} {cs : List DV} (h : typed T (m + 4) 27 cs) : ∃ x : APeer, cs = x.row ∧ x.wf := by
  have h := ty_struct (m := m + 3) (by simp only [T_27, ty27]; rfl) h
  simp only [typedF] at h
  obtain ⟨a0, b0, e0, h0, a1, b1, e1, h1, a2, b2, e2, h2, a3, b3, e3, h3, e⟩ := h
  subst e
  obtain ⟨x0, rfl, w0⟩ := ty_int (m := m + 2) (by simp only [T_3, ty3]) h0
  obtain ⟨x1, rfl, w1⟩ := ty_int (m := m + 2) (by simp only [T_3, ty3]) h1
  obtain ⟨x2, rfl, v2, w2⟩ := ty_sl (e := 93) (m := m + 2) (sz := 7) (by_ := 72) (by simp only [T_25, ty25]) (by simp only [T_93, ty93]) (by simp only [T_93, ty93]) (fun r hr => ATxn_typed (m := m) hr) h2
  obtain ⟨x3, rfl, w3⟩ := ty_int (m := m + 2) (by simp only [T_3, ty3]) h3
  subst e3 e2 e1 e0
  exact ⟨⟨x0, x1, x2, x3⟩, rfl, ⟨w0, w1, ⟨v2, w2⟩, w3⟩⟩
theorem AServer_typed {m : Nat} {cs : List DV} (h : typed T (m + 6) 34 cs) : ∃ x : AServer, cs = x.row ∧ x.wf := by
  have h := ty_struct (m := m + 5) (by simp only [T_34, ty34]; rfl) h
  simp only [typedF] at h
  obtain ⟨a0, b0, e0, h0, a1, b1, e1, h1, a2, b2, e2, h2, a3, b3, e3, h3, a4, b4, e4, h4, e⟩ := h
  subst e
  obtain ⟨x0, rfl⟩ := ty_bool (m := m + 4) (by simp only [T_4, ty4]) h0
  obtain ⟨x1, rfl, w1⟩ := ADisk_typed (m := m + 1) h1
  obtain ⟨x2, rfl, w2⟩ := APeer_typed (m := m + 1) h2
  obtain ⟨x3, rfl, w3⟩ := ATree_typed (m := m) h3
  obtain ⟨x4, rfl, v4, w4⟩ := ty_sl (e := 116) (m := m + 4) (sz := 3) (by_ := 32) (by simp only [T_32, ty32]) (by simp only [T_116, ty116]) (by simp only [T_116, ty116]) (fun r hr => AWatch_typed (m := m + 2) hr) h4
  subst e4 e3 e2 e1 e0
  exact ⟨⟨x0, x1, x2, x3, x4⟩, rfl, ⟨trivial, w1, w2, w3, ⟨v4, w4⟩⟩⟩
end Go.Proofs.YtainmipdnjcbkaaGreatDoor
namespace Go.Proofs.YtainmipdnjcbkaaGreatDoor
set_option linter.unusedVariables false
set_option linter.unusedSimpArgs false
open Go Go.RowKit
set_option maxRecDepth 100000
set_option linter.unusedSimpArgs false
theorem SmallD.len {N : Nat} {l : List UInt8} (h : SmallD N (.str l)) : l.length ≤ N := by cases h; assumption
theorem SmallD.rows {N sz : Nat} {rs : List (List DV)} (h : SmallD N (.sl sz rs)) : rs.length ≤ N ∧ ∀ r, r ∈ rs → ∀ c, c ∈ r → SmallD N c := by cases h; exact ⟨by assumption, by assumption⟩
theorem acall_of_calls {P : Program} {g : FuncId} {xs : List AV} {x : AV} {us : List Value} {u : Value} (hg : goFn P g) (hxs : scalL xs = some us) (hx : scalV x = some u)
    (h : ∀ w : World, Calls P g us.toArray w fun e w' => e = .returned u ∧ w' = w) : acall P [] g xs (ret x) := by
  refine ⟨hg, fun E w vs hw hH hvs => ?_⟩
  have e : vs = us := by
    obtain ⟨h1, h2⟩ := scalL_get hxs
    refine List.ext_getElem? fun j => ?_
    by_cases hj : j < xs.length
    · obtain ⟨u', hu, hs⟩ := h2 j _ (List.getElem?_eq_getElem hj)
      have hv : vs[j]? = some (vs[j]'(by rw [hvs.1]; exact hj)) := List.getElem?_eq_getElem _
      rw [hv, hu, scal_eq (hvs.2 j _ _ (List.getElem?_eq_getElem hj) hv) u' hs]
    · rw [List.getElem?_eq_none (by rw [hvs.1]; omega), List.getElem?_eq_none (by omega)]
  subst e
  refine (h w).mono fun e w' ⟨h1, h2⟩ => ?_
  subst h2
  refine ⟨u, x, [], [], h1, ⟨rfl, rfl⟩, ?_, fun k p hk => ?_, scal_rep x u hx⟩
  · have h0 : E.ρ0 = [] := List.eq_nil_of_length_eq_zero (by rw [hH.len]; rfl)
    rw [h0] at hH; exact hH
  · have h0 : E.ρ0 = [] := List.eq_nil_of_length_eq_zero (by rw [hH.len]; rfl)
    rw [h0] at hk; exact hk
set_option maxHeartbeats 1000000 in
theorem compareString_w (a b : ByteArray) (w : World) :
    Calls Tryz.prog 230 #[.string a, .string b] w fun e w' => e = .returned (.int .i64 (Lib.compareBytes a.data.toList b.data.toList)) ∧ w' = w := by
  go_enter Tryz.func230, Tryz.ntmps230
  go_wp2
  rw [run_callFunc_extern Tryz.func263 (by kernel_rfl) (by kernel_rfl) (by kernel_rfl) (e := Extern.BytealgCompare.compare) (by kernel_rfl), Lib.run_compareString]
  simp only [Result.andThen]
  rw [Oper.upon_value]
  go_wp2
  go_ret
  exact ⟨rfl, rfl⟩
theorem compareString_c (a b : List UInt8) : acall Tryz.prog [] 230 [S a, S b] (ret (I (Lib.compareBytes a b))) :=
  acall_of_calls ⟨_, Tryz.func230, by kernel_rfl, by kernel_rfl⟩ rfl rfl fun w => compareString_w ⟨a.toArray⟩ ⟨b.toArray⟩ w
theorem compare_c (a b : List UInt8) : acall Tryz.prog [] 179 [S a, S b] (ret (I (Lib.compareBytes a b))) := by
  refine zI Tryz.func179 rfl (by kernel_rfl) (by simp [Tryz.ntmps179]) ?_; simp only [Tryz.ntmps179, Tryz.results179, go_sem]
  (repeat' first
| (with_reducible refine AR.f ?_)
| refine zb (by decide) ?_
| (with_reducible refine AWP.cond rfl ?_ ?_ <;> intro hc <;> (try simp only [hcs, beq_iff_eq, ge_iff_le, gt_iff_lt] at hc))
| ((first | ((first | (with_reducible first | refine zR ?_ | refine zQ (by decide +kernel) ?_ | refine zD (by decide +kernel) ?_ | refine zE (by decide +kernel) ?_ | refine zG (by decide +kernel) ?_)); intro K hK) | ((first | refine acallH_sc (compareString_c _ _) rfl rfl ?_ ?_ ?_ | refine acallQ_sc (compareString_c _ _) rfl rfl ?_ ?_ ?_); iterate 2 (focus ((try simp (disch := omega) only [go_sem, wn]) <;> (try omega) <;> fail))) | ((first | refine zX (compareString_c _ _) rfl ?_ ?_); (focus ((try simp (disch := omega) only [go_sem, wn]) <;> (try omega) <;> fail))) | ((first | (with_reducible refine zu ?_ ?_ <;> intro hg) | with_reducible intro hg) <;> (first | (exfalso; simp at hg; done) | (have hg' := hg; (try simp only [hcs, beq_iff_eq, ge_iff_le, gt_iff_lt] at hg'); (try simp only [hg]))))) <;> (try simp (disch := omega) only [go_sem, wn]) <;> (repeat' with_reducible refine And.intro ?_ ?_) <;> (try (with_reducible refine hK _ ?_; clear hK K)))
| omega)
  (refine zF rfl ?_ ?_ ?_ ?_; (iterate 3 (focus ((try simp (disch := omega) only [go_sem, wn]) <;> (try omega) <;> fail))); (try simp (disch := omega) only [go_sem, wn, I, B, S, zj]))
end Go.Proofs.YtainmipdnjcbkaaGreatDoor
namespace Go.Proofs.YtainmipdnjcbkaaGreatDoor
set_option linter.unusedVariables false
set_option linter.unusedSimpArgs false
open Go Go.RowKit
set_option maxRecDepth 100000
set_option linter.unusedSimpArgs false
theorem ext_indexByte {P : Program} {hp : List ABlk} {g : FuncId} {fn : Func} (hf : P.funcs[g]? = some fn) (hn : (fn.name == "runtime.NumGoroutine") = false) (hb : fn.body.isNone = true) (hx : Extern.findNext fn = none)
    (he : Extern.find fn = some Extern.BytealgIndexByte.indexByte) (s : List UInt8) (c : UInt8) : aextQ P hp g [S s, .d (.int .u8 c.toNat)] (I (Lib.indexByte s c)) := by
  intro E ρ w us hH hus
  refine ⟨.int .i64 (Lib.indexByte s c), .d _ _ (.int _ _), fun w' hbl => ?_⟩
  match us, hus with
  | [u, u'], hus =>
    have hu := hus.2 0 _ u rfl rfl
    have hu' := hus.2 1 _ u' rfl rfl
    cases hu with | d _ _ hu => cases hu with | str _ =>
    cases hu' with | d _ _ hu' => cases hu' with | int _ _ =>
    rw [run_callFunc_extern hf hn hb hx he]
    have := Lib.run_indexByteString (P := P) ⟨s.toArray⟩ (c.toNat : Int) w'
    have e : ((c.toNat : Int)).toNat.toUInt8 = c := by simp
    rw [e] at this
    show (Extern.BytealgIndexByte.indexByte #[.string ⟨s.toArray⟩, .int .u8 (c.toNat : Int)] |>.run P w').andThen _ = _
    rw [this]
    rfl
theorem indexByteS_c (s : List UInt8) (c : UInt8) : acall Tryz.prog [] 272 [S s, .d (.int .u8 c.toNat)] (ret (I (Lib.indexByte s c))) := by
  refine zI Tryz.func272 rfl (by kernel_rfl) (by simp [Tryz.ntmps272]) ?_; simp only [Tryz.ntmps272, Tryz.results272, go_sem]
  (repeat' first
| (with_reducible refine AR.f ?_)
| refine zb (by decide) ?_
| (with_reducible refine AWP.cond rfl ?_ ?_ <;> intro hc <;> (try simp only [hcs, beq_iff_eq, ge_iff_le, gt_iff_lt] at hc))
| ((first | ((first | (with_reducible first | refine zR ?_ | refine zQ (by decide +kernel) ?_ | refine zD (by decide +kernel) ?_ | refine zE (by decide +kernel) ?_ | refine zG (by decide +kernel) ?_)); intro K hK) | refine acallHK_ext (ext_indexByte Tryz.func285 (by kernel_rfl) (by kernel_rfl) (by kernel_rfl) (by kernel_rfl) s c) ?_ | ((first | (with_reducible refine zu ?_ ?_ <;> intro hg) | with_reducible intro hg) <;> (first | (exfalso; simp at hg; done) | (have hg' := hg; (try simp only [hcs, beq_iff_eq, ge_iff_le, gt_iff_lt] at hg'); (try simp only [hg]))))) <;> (try simp (disch := omega) only [go_sem, wn]) <;> (repeat' with_reducible refine And.intro ?_ ?_) <;> (try (with_reducible refine hK _ ?_; clear hK K)))
| omega)
  (refine zF rfl ?_ ?_ ?_ ?_; (iterate 3 (focus ((try simp (disch := omega) only [go_sem, wn]) <;> (try omega) <;> fail))); (try simp (disch := omega) only [go_sem, wn, I, B, S, zj]))
theorem indexL_c (s : List UInt8) (c : UInt8) : acall Tryz.prog [] 239 [S s, S [c]] (ret (I (Lib.indexByte s c))) := by
  refine zI Tryz.func239 rfl (by kernel_rfl) (by simp [Tryz.ntmps239]) ?_; simp only [Tryz.ntmps239, Tryz.results239, go_sem]
  (repeat' first
| (with_reducible refine AR.f ?_)
| refine zb (by decide) ?_
| (with_reducible refine AWP.cond rfl ?_ ?_ <;> intro hc <;> (try simp only [hcs, beq_iff_eq, ge_iff_le, gt_iff_lt] at hc))
| ((first | ((first | (with_reducible first | refine zR ?_ | refine zQ (by decide +kernel) ?_ | refine zD (by decide +kernel) ?_ | refine zE (by decide +kernel) ?_ | refine zG (by decide +kernel) ?_)); intro K hK) | ((first | refine zA (indexByteS_c s c) ?_ ?_ ?_ ?_ ?_); (focus exact rfl); (focus exact rfl); iterate 2 (focus ((try simp (disch := omega) only [go_sem, wn]) <;> (try omega) <;> fail))) | ((first | refine zX (indexByteS_c s c) rfl ?_ ?_); (focus ((try simp (disch := omega) only [go_sem, wn]) <;> (try omega) <;> fail))) | ((first | (with_reducible refine zu ?_ ?_ <;> intro hg) | with_reducible intro hg) <;> (first | (exfalso; simp at hg; done) | (have hg' := hg; (try simp only [hcs, beq_iff_eq, ge_iff_le, gt_iff_lt] at hg'); (try simp only [hg]))))) <;> (try simp (disch := omega) only [go_sem, wn]) <;> (repeat' with_reducible refine And.intro ?_ ?_) <;> (try (with_reducible refine hK _ ?_; clear hK K)))
| omega)
  · (refine zF rfl ?_ ?_ ?_ ?_; (iterate 3 (focus ((try simp (disch := omega) only [go_sem, wn]) <;> (try omega) <;> fail))); (try simp (disch := omega) only [go_sem, wn, I, B, S, zj]))
    subst hc; simp [Lib.indexByte]
  · (refine zF rfl ?_ ?_ ?_ ?_; (iterate 3 (focus ((try simp (disch := omega) only [go_sem, wn]) <;> (try omega) <;> fail))); (try simp (disch := omega) only [go_sem, wn, I, B, S, zj]))
theorem index1_c (s : List UInt8) (c : UInt8) : acall Tryz.prog [] 266 [S s, S [c]] (ret (I (Lib.indexByte s c))) := by
  refine zI Tryz.func266 rfl (by kernel_rfl) (by simp [Tryz.ntmps266]) ?_; simp only [Tryz.ntmps266, Tryz.results266, go_sem]
  (repeat' first
| (with_reducible refine AR.f ?_)
| refine zb (by decide) ?_
| (with_reducible refine AWP.cond rfl ?_ ?_ <;> intro hc <;> (try simp only [hcs, beq_iff_eq, ge_iff_le, gt_iff_lt] at hc))
| ((first | ((first | (with_reducible first | refine zR ?_ | refine zQ (by decide +kernel) ?_ | refine zD (by decide +kernel) ?_ | refine zE (by decide +kernel) ?_ | refine zG (by decide +kernel) ?_)); intro K hK) | ((first | refine zA (indexL_c s c) ?_ ?_ ?_ ?_ ?_); (focus exact rfl); (focus exact rfl); iterate 2 (focus ((try simp (disch := omega) only [go_sem, wn]) <;> (try omega) <;> fail))) | ((first | refine zX (indexL_c s c) rfl ?_ ?_); (focus ((try simp (disch := omega) only [go_sem, wn]) <;> (try omega) <;> fail))) | ((first | (with_reducible refine zu ?_ ?_ <;> intro hg) | with_reducible intro hg) <;> (first | (exfalso; simp at hg; done) | (have hg' := hg; (try simp only [hcs, beq_iff_eq, ge_iff_le, gt_iff_lt] at hg'); (try simp only [hg]))))) <;> (try simp (disch := omega) only [go_sem, wn]) <;> (repeat' with_reducible refine And.intro ?_ ?_) <;> (try (with_reducible refine hK _ ?_; clear hK K)))
| omega)
  (refine zF rfl ?_ ?_ ?_ ?_; (iterate 3 (focus ((try simp (disch := omega) only [go_sem, wn]) <;> (try omega) <;> fail))); (try simp (disch := omega) only [go_sem, wn, I, B, S, zj]))
theorem hasPrefixL_c (s p : List UInt8) (hp : okS p) (hs : okS s) : acall Tryz.prog [] 231 [S s, S p] (ret (B (decide (p.length ≤ s.length ∧ s.take p.length = p)))) := by
  unfold okS at hp hs
  refine zI Tryz.func231 rfl (by kernel_rfl) (by simp [Tryz.ntmps231]) ?_; simp only [Tryz.ntmps231, Tryz.results231, go_sem]
  (repeat' first
| (with_reducible refine AR.f ?_)
| refine zb (by decide) ?_
| (with_reducible refine AWP.cond rfl ?_ ?_ <;> intro hc <;> (try simp only [hcs, beq_iff_eq, ge_iff_le, gt_iff_lt] at hc))
| ((first | ((first | (with_reducible first | refine zR ?_ | refine zQ (by decide +kernel) ?_ | refine zD (by decide +kernel) ?_ | refine zE (by decide +kernel) ?_ | refine zG (by decide +kernel) ?_)); intro K hK) | ((first | (with_reducible refine zu ?_ ?_ <;> intro hg) | with_reducible intro hg) <;> (first | (exfalso; simp at hg; done) | (have hg' := hg; (try simp only [hcs, beq_iff_eq, ge_iff_le, gt_iff_lt] at hg'); (try simp only [hg]))))) <;> (try simp (disch := omega) only [go_sem, wn]) <;> (repeat' with_reducible refine And.intro ?_ ?_) <;> (try (with_reducible refine hK _ ?_; clear hK K)))
| omega)
  all_goals (refine zF rfl ?_ ?_ ?_ ?_; (iterate 3 (focus ((try simp (disch := omega) only [go_sem, wn]) <;> (try omega) <;> fail))); (try simp (disch := omega) only [go_sem, wn, I, B, S, zj]))
  rw [Bool.eq_iff_iff]; simp
theorem hasPrefix_c (s p : List UInt8) (hp : okS p) (hs : okS s) : acall Tryz.prog [] 181 [S s, S p] (ret (B (decide (p.length ≤ s.length ∧ s.take p.length = p)))) := by
  refine zI Tryz.func181 rfl (by kernel_rfl) (by simp [Tryz.ntmps181]) ?_; simp only [Tryz.ntmps181, Tryz.results181, go_sem]
  (repeat' first
| (with_reducible refine AR.f ?_)
| refine zb (by decide) ?_
| (with_reducible refine AWP.cond rfl ?_ ?_ <;> intro hc <;> (try simp only [hcs, beq_iff_eq, ge_iff_le, gt_iff_lt] at hc))
| ((first | ((first | (with_reducible first | refine zR ?_ | refine zQ (by decide +kernel) ?_ | refine zD (by decide +kernel) ?_ | refine zE (by decide +kernel) ?_ | refine zG (by decide +kernel) ?_)); intro K hK) | ((first | refine zA (hasPrefixL_c s p hp hs) ?_ ?_ ?_ ?_ ?_); (focus exact rfl); (focus exact rfl); iterate 2 (focus ((try simp (disch := omega) only [go_sem, wn]) <;> (try omega) <;> fail))) | ((first | refine zX (hasPrefixL_c s p hp hs) rfl ?_ ?_); (focus ((try simp (disch := omega) only [go_sem, wn]) <;> (try omega) <;> fail))) | ((first | (with_reducible refine zu ?_ ?_ <;> intro hg) | with_reducible intro hg) <;> (first | (exfalso; simp at hg; done) | (have hg' := hg; (try simp only [hcs, beq_iff_eq, ge_iff_le, gt_iff_lt] at hg'); (try simp only [hg]))))) <;> (try simp (disch := omega) only [go_sem, wn]) <;> (repeat' with_reducible refine And.intro ?_ ?_) <;> (try (with_reducible refine hK _ ?_; clear hK K)))
| omega)
  all_goals (refine zF rfl ?_ ?_ ?_ ?_; (iterate 3 (focus ((try simp (disch := omega) only [go_sem, wn]) <;> (try omega) <;> fail))); (try simp (disch := omega) only [go_sem, wn, I, B, S, zj]))
theorem calls_of_acall {P : Program} {g : FuncId} {xs : List AV} {x : AV} {us : List Value} {u : Value} (c : acall P [] g xs (ret x)) (hxs : scalL xs = some us) (hx : scalV x = some u) (w : World) (ht : TabsAt w) :
    Calls P g us.toArray w fun e w' => e = .returned u ∧ Below w.heap.size w w' := by
  obtain ⟨h1, h2⟩ := scalL_get hxs
  have hH : RepH (⟨w, fun _ => False, fun _ => False, [], by simp, by simp, ht, by simp⟩ : Ent) [] [] w :=
    ⟨rfl, by simp, by simp, by simp, Fr.refl _ _⟩
  refine (c.2 ⟨w, fun _ => False, fun _ => False, [], by simp, by simp, ht, by simp⟩ w us rfl hH ⟨h1, fun j x' u' hx' hu' => ?_⟩).mono fun e w' ⟨u', v, hp', ρ', q1, q2, q3, q4, q5⟩ => ?_
  · obtain ⟨u2, q, hs⟩ := h2 j x' hx'
    rw [hu'] at q; injection q with q; subst q
    exact scal_rep x' u' hs
  · obtain ⟨rfl, rfl⟩ := q2
    exact ⟨by rw [q1, scal_eq q5 u hx], q3.fr.os, q3.fr.tape, q3.fr.output, q3.fr.size, fun k hk => q3.fr.block k hk (by simp)⟩
end Go.Proofs.YtainmipdnjcbkaaGreatDoor
namespace Go.Proofs.YtainmipdnjcbkaaGreatDoor
set_option linter.unusedVariables false
set_option linter.unusedSimpArgs false
open Go Go.RowKit
set_option maxRecDepth 100000
set_option linter.unusedSimpArgs false
def okc (c : UInt8) : Bool := decide ((97 ≤ c.toNat ∧ c.toNat ≤ 122) ∨ (48 ≤ c.toNat ∧ c.toNat ≤ 57) ∨ c.toNat = 45 ∨ c.toNat = 95)
def namedP (s : List UInt8) : Bool := s.all okc && (!decide (s = []) && decide ((s.length : Int) ≤ 40))
theorem all_take {α : Type} [Inhabited α] (p : α → Bool) (l : List α) (d : α) : ∀ k, k ≤ l.length → (∀ j, j < k → p (l.getD j d) = true) → (l.take k).all p = true := by
  intro k hk h
  rw [List.all_eq_true]
  intro x hx
  rw [List.mem_take_iff_getElem] at hx
  obtain ⟨j, hj, rfl⟩ := hx
  have := h j (by omega)
  rwa [List.getD_eq_getElem?_getD, List.getElem?_eq_getElem (by omega)] at this
theorem all_full {α : Type} [Inhabited α] (p : α → Bool) (l : List α) (d : α) (h : ∀ j, j < l.length → p (l.getD j d) = true) : l.all p = true := by
  have := all_take p l d l.length (Nat.le_refl _) h
  rwa [List.take_length] at this
theorem all_not {α : Type} [Inhabited α] {p : α → Bool} {l : List α} {d : α} {k : Nat} (hk : k < l.length) (h : p (l.getD k d) = false) : l.all p = false := by
  rw [List.all_eq_false]
  refine ⟨l.getD k d, ?_, by rw [h]; simp⟩
  rw [List.getD_eq_getElem?_getD, List.getElem?_eq_getElem hk]
  exact List.getElem_mem hk
theorem named_c (s : List UInt8) (h : okS s) : acall Tryz.prog [] 116 [S s] (ret (B (namedP s))) := by
  unfold okS at h
  refine zI Tryz.func116 rfl (by kernel_rfl) (by simp [Tryz.ntmps116]) ?_; simp only [Tryz.ntmps116, Tryz.results116, go_sem]
  (repeat' first
| (with_reducible refine AR.f ?_)
| refine zb (by decide) ?_
| (with_reducible refine AWP.cond rfl ?_ ?_ <;> intro hc <;> (try simp only [hcs, beq_iff_eq, ge_iff_le, gt_iff_lt] at hc))
| ((first | ((first | (with_reducible first | refine zR ?_ | refine zQ (by decide +kernel) ?_ | refine zD (by decide +kernel) ?_ | refine zE (by decide +kernel) ?_ | refine zG (by decide +kernel) ?_)); intro K hK) | ((first | (with_reducible refine zu ?_ ?_ <;> intro hg) | with_reducible intro hg) <;> (first | (exfalso; simp at hg; done) | (have hg' := hg; (try simp only [hcs, beq_iff_eq, ge_iff_le, gt_iff_lt] at hg'); (try simp only [hg]))))) <;> (try simp (disch := omega) only [go_sem, wn]) <;> (repeat' with_reducible refine And.intro ?_ ?_) <;> (try (with_reducible refine hK _ ?_; clear hK K)))
| omega)
  refine AWP.loopS (ι := Nat) (fun k => k ≤ s.length ∧ ∀ j, j < k → okc (s.getD j 0) = true) (fun k => s.length - k) [0] (fun k => [(3, I k)]) 0 ?_ (by simp (disch := omega) only [go_sem, wn, true_and]) ?_
  · exact ⟨by omega, by omega⟩
  intro k ⟨hk, hk2⟩
  simp only [go_sem]
  (repeat' first
| (with_reducible refine AR.f ?_)
| refine zb (by decide) ?_
| (with_reducible refine AWP.cond rfl ?_ ?_ <;> intro hc <;> (try simp only [hcs, beq_iff_eq, ge_iff_le, gt_iff_lt] at hc))
| ((first | ((first | (with_reducible first | refine zR ?_ | refine zQ (by decide +kernel) ?_ | refine zD (by decide +kernel) ?_ | refine zE (by decide +kernel) ?_ | refine zG (by decide +kernel) ?_)); intro K hK) | ((first | (with_reducible refine zu ?_ ?_ <;> intro hg) | with_reducible intro hg) <;> (first | (exfalso; simp at hg; done) | (have hg' := hg; (try simp only [hcs, beq_iff_eq, ge_iff_le, gt_iff_lt] at hg'); (try simp only [hg]))))) <;> (try simp (disch := omega) only [go_sem, wn]) <;> (repeat' with_reducible refine And.intro ?_ ?_) <;> (try (with_reducible refine hK _ ?_; clear hK K)))
| omega)
  · rename_i hl
    have e : s.all okc = false := all_not (d := 0) hl (by unfold okc; rw [decide_eq_false_iff_not]; omega)
    (refine zF rfl ?_ ?_ ?_ ?_; (iterate 3 (focus ((try simp (disch := omega) only [go_sem, wn, namedP, e, Bool.false_and]) <;> (try omega) <;> fail))); (try simp (disch := omega) only [go_sem, wn, namedP, e, Bool.false_and, I, B, S, zj]))
  · refine ⟨k + 1, ⟨by omega, fun j hj => ?_⟩, by omega, ?_⟩
    · by_cases e : j = k
      · subst e; unfold okc; rw [decide_eq_true_eq]; omega
      · exact hk2 j (by omega)
    (refine SImp.same ?_; simp (disch := omega) only [go_sem, wn, Int.natCast_add])
  · have e : s.all okc = true := all_full okc s 0 fun j hj => hk2 j (by omega)
    (refine zF rfl ?_ ?_ ?_ ?_; (iterate 3 (focus ((try simp (disch := omega) only [go_sem, wn, namedP, e, Bool.true_and]) <;> (try omega) <;> fail))); (try simp (disch := omega) only [go_sem, wn, namedP, e, Bool.true_and, I, B, S, zj]))
def letters : List UInt8 := [97, 98, 99, 100, 101, 102, 103, 104, 105, 106, 107, 108, 109, 110, 111, 112, 113, 114, 115, 116, 117, 118, 119, 120, 121, 122, 48, 49, 50, 51, 52, 53, 54, 55, 56, 57, 45, 95]
theorem okc_letters (c : UInt8) : okc c = letters.any (fun x => decide (c = x)) := by
  have h : ∀ n, n < 256 → okc (UInt8.ofNat n) = letters.any (fun x => decide (UInt8.ofNat n = x)) := by unfold okc letters; decide
  have := h c.toNat c.toNat_lt
  simpa using this
theorem any_take {α : Type} [Inhabited α] (p : α → Bool) (l : List α) (d : α) (k : Nat) (hk : k < l.length) : (l.take (k + 1)).any p = ((l.take k).any p || p (l.getD k d)) := by
  rw [List.getD_eq_getElem?_getD, List.getElem?_eq_getElem hk, List.take_add_one, List.getElem?_eq_getElem hk, List.any_append]; simp
theorem u8g (l : List UInt8) (i : Nat) (h : i < l.length) : (l.map u8row).getD i [] = u8row (l.getD i 0) := getD_row u8row l i [] h
theorem ref_named_c (s : List UInt8) (h : okS s) : acall Tryz.prog [] 132 [S s] (ret (B (namedP s))) := by
  unfold okS at h
  refine zI Tryz.func132 rfl (by kernel_rfl) (by simp [Tryz.ntmps132]) ?_; simp only [Tryz.ntmps132, Tryz.results132, go_sem]
  (repeat' first
| (with_reducible refine AR.f ?_)
| refine zb (by decide) ?_
| (with_reducible refine AWP.cond rfl ?_ ?_ <;> intro hc <;> (try simp only [hcs, beq_iff_eq, ge_iff_le, gt_iff_lt] at hc))
| ((first | ((first | (with_reducible first | refine zR ?_ | refine zQ (by decide +kernel) ?_ | refine zD (by decide +kernel) ?_ | refine zE (by decide +kernel) ?_ | refine zG (by decide +kernel) ?_)); intro K hK) | ((first | (with_reducible refine zu ?_ ?_ <;> intro hg) | with_reducible intro hg) <;> (first | (exfalso; simp at hg; done) | (have hg' := hg; (try simp only [hcs, beq_iff_eq, ge_iff_le, gt_iff_lt] at hg'); (try simp only [hg]))))) <;> (try simp (disch := omega) only [go_sem, wn]) <;> (repeat' with_reducible refine And.intro ?_ ?_) <;> (try (with_reducible refine hK _ ?_; clear hK K)))
| omega)
  refine AWP.loopB (ι := Nat) (fun k => k ≤ s.length ∧ ∀ j, j < k → okc (s.getD j 0) = true) (fun k => s.length - k) [0, 3, 10, 11] (fun k => [(12, I k)]) (fun k => [.bytes s]) 0 ?_ ?_ ?_
  · exact ⟨by omega, by omega⟩
  · simp only [go_sem]; (refine SImp.same ?_; simp (disch := omega) only [go_sem, wn, Int.natCast_add])
  intro k ⟨hk, hk2⟩
  have hL : letters.length = 38 := rfl
  simp only [go_sem]
  (repeat' first
| (with_reducible refine AR.f ?_)
| refine zb (by decide) ?_
| (with_reducible refine AWP.cond rfl ?_ ?_ <;> intro hc <;> (try simp only [hcs, beq_iff_eq, ge_iff_le, gt_iff_lt] at hc))
| ((first | ((first | (with_reducible first | refine zR ?_ | refine zQ (by decide +kernel) ?_ | refine zD (by decide +kernel) ?_ | refine zE (by decide +kernel) ?_ | refine zG (by decide +kernel) ?_)); intro K hK) | ((first | (with_reducible refine zu ?_ ?_ <;> intro hg) | with_reducible intro hg) <;> (first | (exfalso; simp at hg; done) | (have hg' := hg; (try simp only [hcs, beq_iff_eq, ge_iff_le, gt_iff_lt] at hg'); (try simp only [hg]))))) <;> (try simp (disch := omega) only [go_sem, wn, u8g]) <;> (repeat' with_reducible refine And.intro ?_ ?_) <;> (try (with_reducible refine hK _ ?_; clear hK K)))
| omega)
  · refine AWP.loopB (ι := Nat) (fun j => j ≤ 38) (fun j => 38 - j) [0, 3, 5, 10, 11, 12, 17, 18] (fun j => [(6, B ((letters.take j).any (fun x => decide (s.getD k 0 = x)))), (19, I j)]) (fun j => [.bytes s, .bytes letters]) 0 ?_ ?_ ?_
    · omega
    · simp only [go_sem, letters]; (refine SImp.same ?_; simp (disch := omega) only [go_sem, wn, Int.natCast_add, letters, List.take_zero, List.any_nil])
    intro j hj
    simp only [go_sem]
    (repeat' first
  | (with_reducible refine AR.f ?_)
  | refine zb (by decide) ?_
  | (with_reducible refine AWP.cond rfl ?_ ?_ <;> intro hc <;> (try simp only [hcs, beq_iff_eq, ge_iff_le, gt_iff_lt] at hc))
  | ((first | ((first | (with_reducible first | refine zR ?_ | refine zQ (by decide +kernel) ?_ | refine zD (by decide +kernel) ?_ | refine zE (by decide +kernel) ?_ | refine zG (by decide +kernel) ?_)); intro K hK) | ((first | (with_reducible refine zu ?_ ?_ <;> intro hg) | with_reducible intro hg) <;> (first | (exfalso; simp at hg; done) | (have hg' := hg; (try simp only [hcs, beq_iff_eq, ge_iff_le, gt_iff_lt] at hg'); (try simp only [hg]))))) <;> (try simp (disch := omega) only [go_sem, wn, u8g]) <;> (repeat' with_reducible refine And.intro ?_ ?_) <;> (try (with_reducible refine hK _ ?_; clear hK K)))
  | omega)
    · refine ⟨j + 1, by omega, by omega, ?_⟩
      have e1 : ((letters.take (j + 1)).any fun x => decide (s.getD k 0 = x)) = (((letters.take j).any fun x => decide (s.getD k 0 = x)) || decide (s.getD k 0 = letters.getD j 0)) := any_take _ letters 0 j (by omega)
      have e2 : ((((s.getD k 0).toNat : Int) = ((letters.getD j 0).toNat : Int))) = (s.getD k 0 = letters.getD j 0) := by
        rw [Int.natCast_inj, UInt8.toNat_inj]
      (refine SImp.same ?_; simp (disch := omega) only [go_sem, wn, Int.natCast_add, e1, e2])
    · have e0 : j = 38 := by omega
      subst e0
      have e : s.all okc = false := all_not (d := 0) (by assumption) (by rw [okc_letters]; exact hc)
      (refine zF rfl ?_ ?_ ?_ ?_; (iterate 3 (focus ((try simp (disch := omega) only [go_sem, wn, namedP, e, Bool.false_and]) <;> (try omega) <;> fail))); (try simp (disch := omega) only [go_sem, wn, namedP, e, Bool.false_and, I, B, S, zj]))
    · have e0 : j = 38 := by omega
      subst e0
      refine ⟨k + 1, ⟨by omega, fun j hj => ?_⟩, by omega, ?_⟩
      · by_cases e : j = k
        · subst e; rw [okc_letters]; exact hc
        · exact hk2 j (by omega)
      (refine zV [0] rfl rfl rfl rfl ?_ ?_ <;> simp (disch := omega) only [go_sem, wn, Int.natCast_add] <;> (try rfl))
  · have e : s.all okc = true := all_full okc s 0 fun j hj => hk2 j (by omega)
    (refine zF rfl ?_ ?_ ?_ ?_; (iterate 3 (focus ((try simp (disch := omega) only [go_sem, wn, namedP, e, Bool.true_and]) <;> (try omega) <;> fail))); (try simp (disch := omega) only [go_sem, wn, namedP, e, Bool.true_and, I, B, S, zj]))
    cases s <;> simp <;> omega
end Go.Proofs.YtainmipdnjcbkaaGreatDoor
