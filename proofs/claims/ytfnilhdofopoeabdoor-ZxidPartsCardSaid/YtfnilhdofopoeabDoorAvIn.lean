/- A callee that is walked into; rows whose room comes to be known; calls of functions without a body. It holds over any program whose types read as the table says. -/
import Derived.Test.YtfnilhdofopoeabDoorAvLoop
import Derived.Lib.Overlaps
namespace Go.Proofs.YtfnilhdofopoeabDoor
set_option linter.unusedVariables false
set_option linter.unusedSimpArgs false
open Go Go.RowKit

/-- What follows a call that is walked into. -/
def inl (K : AV → List ABlk → Prop) : AV → List ABlk → Prop := K

section
variable {P : Program} {T : TypeId → TI} {np : Nat} {hp : List ABlk} {g : FuncId} {xs : List AV} {K : AV → List ABlk → Prop} {t : Tok K}

/-- A call, by a walk through the callee with the caller's own blocks. -/
theorem acallHK_in (h : ∀ K' : AV → List ABlk → Prop, (∀ v hp, K v hp → K' v hp) → acall P hp g xs (inl K')) : acallHK P np hp g xs K t := by
  have c := h K fun _ _ h => h
  refine .inl ⟨c.1, fun E ρ w us _ hH hus => ?_⟩
  let E' : Ent := { w0 := w, L0 := fun b => Live ρ hp b, S0 := fun b => okB E ρ hp w b, ρ0 := ρ, hS := fun b h => ⟨h.2.1, h.2.2⟩, hL := fun b ⟨k, _, q, _, _, hk⟩ => ⟨k, q, hk⟩, hT := hH.tabsAt, hTL := fun p hp' hl => hH.tabLive hp' hl }
  have hokc : ∀ b, okB E ρ hp w b → okB E' ρ hp w b ∧ w.heap[b]? = w.heap[b]? := fun b hb => ⟨⟨.inl hb, hb.2.1, hb.2.2⟩, rfl⟩
  have hE : RepH E' ρ hp w := by
    refine ⟨hH.len, fun k x b q hx hk hd => ?_, hH.nil, hH.inj, Fr.refl _ _⟩
    obtain ⟨_, o, q2, q3⟩ := hH.obj k x b q hx hk hd
    exact ⟨.inl ⟨k, x, q, hx, hd, hk⟩, o, q2, q3.mono (fun _ _ h => h) hokc⟩
  have hav : RepVs ρ (okB E' ρ hp w) w xs us := ⟨hus.1, fun j x u hx hu => (hus.2 j x u hx hu).mono (fun _ _ h => h) hokc⟩
  refine (c.2 E' w us rfl hE hav).mono fun e w' hh => ?_
  obtain ⟨u, v, hp', ρ', h1, h2, h3, h4, h5⟩ := hh
  have hsz0 := hH.fr.size
  have hokE : ∀ b, okB E' ρ' hp' w' b → okB E ρ' hp' w' b ∧ w'.heap[b]? = w'.heap[b]? := by
    intro b ⟨b1, b2, b3⟩
    refine ⟨⟨?_, b2, b3⟩, rfl⟩
    rcases b1 with b1 | b1
    · exact b1.1
    · exact .inr (Nat.le_trans hsz0 b1)
  have hcb : ∀ b, Live ρ' hp' b → (Live ρ hp b ∨ w.heap.size ≤ b) := by
    intro b ⟨i, x, q, hx, hd, hi⟩
    exact (h3.obj i x b q hx hi hd).1
  have hokC : ∀ b, okB E ρ hp w b → okB E ρ' hp' w' b ∧ w'.heap[b]? = w.heap[b]? := by
    intro b ⟨b1, b2, b3⟩
    refine ⟨⟨b1, Nat.lt_of_lt_of_le b2 h3.fr.size, fun hl => ?_⟩, h3.fr.block b b2 b3⟩
    rcases hcb b hl with hl | hl
    · exact b3 hl
    · omega
  refine ⟨u, v, hp', ρ', h1, h2, ⟨⟨h3.len, fun k x b q hx hk hd => ?_, h3.nil, h3.inj, ?_⟩, h4, hokC⟩, h5.mono (fun _ _ h => h) hokE⟩
  · obtain ⟨q1, o, q2, q3⟩ := h3.obj k x b q hx hk hd
    refine ⟨?_, o, q2, q3.mono (fun _ _ h => h) hokE⟩
    rcases q1 with ⟨k', z, q', hz, hzd, hk'⟩ | q1
    · exact (hH.obj k' z b q' hz hk' hzd).1
    · exact .inr (Nat.le_trans hsz0 q1)
  · refine ⟨h3.fr.os.trans hH.fr.os, h3.fr.tape.trans hH.fr.tape, h3.fr.output.trans hH.fr.output, Nat.le_trans hsz0 h3.fr.size, fun b hb hL => ?_⟩
    have : w'.heap[b]? = w.heap[b]? := h3.fr.block b (Nat.lt_of_lt_of_le hb hsz0) (fun hl => by
      obtain ⟨k, x, q, hx, hd, hk⟩ := hl
      rcases (hH.obj k x b q hx hk hd).1 with c1 | c1
      · exact hL c1
      · omega)
    exact this.trans (hH.fr.block b hb hL)

theorem aend_in {s : ASt} {e : Exit} {rs : List ResultVar} {v : AV} {K0 : AV → List ABlk → Prop} (hK : ∀ v hp, K0 v hp → K v hp) (he : e = .ret ∨ e = .normal) (h1 : (aresL T s rs).1) (hv : tupOf (aresL T s rs).2 = v) (h : K0 v s.hp) :
    aend T rs (inl K) e s := by
  subst hv
  have h := hK _ _ h
  have : AOut s.np s.hp (tupOf (aresL T s rs).2) (inl K) := AOut.same h
  rcases he with rfl | rfl
  · exact ⟨h1, this⟩
  · exact ⟨h1, this⟩
end

section
variable {P : Program} {T : TypeId → TI} {E : Ent} {ρ : List (Option (Nat × Nat))} {w : World} {np nt : Nat} {env : List (Nat × AV)} {hp : List ABlk} {c : Code} {Q : Exit → ASt → Prop}

/-- A block of the call's own is described anew. -/
theorem HStep.redo (h : RepH E ρ hp w) {k b m : Nat} {x x' : ABlk} (hx : hp[k]? = some x) (hd : x ≠ .dead) (hd' : x' ≠ .dead) (hk : ρ[k]? = some (some (b, m))) (hb0 : ∀ l, x ≠ .bytes l)
    (hb : ∀ us ty fz, w.heap[b]? = some (.cells us ty fz) → us.size = m → RepBlk ρ (okB E ρ hp w) w us x → RepBlk ρ (okB E ρ hp w) w us x') (hm : x.isObj = false := by rfl) (hm' : x'.isObj = false := by rfl) : HStep E ρ hp w ρ (hp.set k x') w := by
  obtain ⟨_, us, ty, fz, q2, q3, _, q5⟩ := h.blk k x b m hx hk ⟨hd, hm⟩
  have := HStep.set h hx hd hd' hk q2 (us' := us) rfl (fun l e => absurd e (hb0 l)) (hb us ty fz q2 q3 q5) hm hm'
  rwa [setB_self w b _ q2] at this

/-- A row's room comes to be known; what lies there beyond what was known is anything. -/
theorem AWP.reveal (t : Nat) {k sz off n : Nat} {rs : List (List DV)} (ht : aget env t = .osl k sz off n) (hn : 0 < n) (hk : hp[k]? = some (.rows sz rs)) (hpos : 0 < sz)
    (h : ∀ junk : List (List DV), (∀ r, r ∈ junk → r.length = sz) → off + n ≤ (rs ++ junk).length → AWP P c { np := np, nt := nt, env := env, hp := hp.set k (.full sz (rs ++ junk)) } Q) :
    AWP P c { np := np, nt := nt, env := env, hp := hp } Q := by
  intro E ρ a w hr
  have hv := hr.env t
  simp only [ht] at hv
  generalize hu : a.tmps.getD t undef = u at hv
  cases hv with
  | oslnil _ _ A _ => omega
  | osl _ _ _ _ b m cap hkk hm hnc =>
    obtain ⟨_, us, ty, fz, q2, q3, _, hone, hrl, hsz, hrr⟩ := hr.heap.blk k _ b m hk hkk (by simp)
    have hM : rs.length ≤ off + cap := by
      rw [← hm] at q3
      rw [q3] at hsz
      exact Nat.le_of_mul_le_mul_right hsz hpos
    let junk : List (List DV) := (List.range (off + cap - rs.length)).map fun i => (List.range sz).map fun j => DV.sc (us.getD ((rs.length + i) * sz + j) undef)
    have hjl : ∀ r, r ∈ junk → r.length = sz := fun r hr => by
      obtain ⟨i, _, rfl⟩ := List.mem_map.1 hr
      simp
    have hjn : junk.length = off + cap - rs.length := by simp [junk]
    have hst : HStep E ρ hp w ρ (hp.set k (.full sz (rs ++ junk))) w := by
      refine HStep.redo hr.heap hk (by simp) (by simp) hkk (by simp) fun us' ty' fz' hw' hm' _ => ?_
      rw [q2] at hw'
      injection hw' with hw'; injection hw' with e1 e2 e3
      subst e1
      refine ⟨hone, fun r hr => ?_, ?_, fun i r hi j c u hj hu => ?_⟩
      · rcases List.mem_append.1 hr with hr | hr
        · exact hrl r hr
        · exact hjl r hr
      · rw [List.length_append, hjn, q3, ← hm]; congr 1; omega
      · by_cases hil : i < rs.length
        · rw [List.getElem?_append_left hil] at hi
          exact hrr i r hi j c u hj hu
        · rw [List.getElem?_append_right (by omega)] at hi
          simp only [junk, List.getElem?_map] at hi
          obtain ⟨i', hi', rfl⟩ := Option.map_eq_some_iff.1 hi
          obtain ⟨hi1, hi2⟩ := List.getElem?_eq_some_iff.1 hi'
          simp only [List.getElem_range] at hi2
          subst hi2
          rw [List.getElem?_map] at hj
          obtain ⟨j', hj', rfl⟩ := Option.map_eq_some_iff.1 hj
          obtain ⟨hj1, hj2⟩ := List.getElem?_eq_some_iff.1 hj'
          simp only [List.getElem_range] at hj2
          subst hj2
          have e : rs.length + (i - rs.length) = i := by omega
          rw [e]
          obtain ⟨hu1, hu2⟩ := Array.getElem?_eq_some_iff.1 hu
          have : us.getD (i * sz + j) undef = u := by rw [Array.getD_eq_getD_getElem?, hu]; rfl
          rw [this]
          refine .sc u (hone u ?_)
          rw [← hu2]; exact Array.getElem_mem_toList hu1
    exact h junk hjl (by rw [List.length_append, hjn]; omega) E ρ a w (hr.step hst)

/-- A cell that holds nil: a row of no elements, of the call's own. -/
theorem SImp.nilOwnC (k j sz : Nat) {cs : List AV} (hk : hp[k]? = some (.cells cs)) (hj : cs[j]? = some (.d (.sc (.slice none 0 0)))) :
    SImp { np := np, nt := nt, env := env, hp := hp } { np := np, nt := nt, env := env, hp := hp.set k (.cells (cs.set j (.osl hp.length sz 0 0))) ++ [.rows sz []] } := by
  intro E ρ a w h
  have hl := h.heap.len
  simp only at hl
  have hkl : k < hp.length := (List.getElem?_eq_some_iff.1 hk).1
  have hst := HStep.nilRow h.heap sz
  have hr := h.step hst
  have hkp : ∃ p, ρ[k]? = some p := ⟨ρ[k]'(by omega), List.getElem?_eq_getElem (by omega)⟩
  obtain ⟨p, hkp⟩ := hkp
  cases p with
  | none => rcases h.heap.nil k _ hk hkp with e | ⟨_, e⟩ <;> cases e
  | some bm =>
    obtain ⟨b, m⟩ := bm
    have hst2 := HStep.redo (x' := .cells (cs.set j (.osl hp.length sz 0 0))) hr.heap (get_append_old hk) (by simp) (by simp) (get_append_old hkp) (by simp) fun us ty fz hw hm ⟨h1, h2, h3⟩ => ⟨h1, by simp [h2], fun j' c u hc hu => by
      rcases getElem?_set_cases hc with ⟨e, e', _⟩ | ⟨_, hc⟩
      · subst e; subst e'
        have := h3 _ _ _ hj hu
        cases this with | d _ _ hd =>
        obtain ⟨A, rfl⟩ := sc_nil hd
        exact .oslnil _ _ A (by rw [← hl]; simp)
      · exact h3 _ _ _ hc hu⟩
    rw [List.set_append_left _ _ hkl] at hst2
    have := hr.step hst2
    exact ⟨_, this⟩

/-- A row whose room is known is handed out as a row, under a new place. -/
theorem AOut.moved {k sz n : Nat} {rs : List (List DV)} {R : AV → List ABlk → Prop} (hk : hp[k]? = some (.full sz rs)) (hR : AOut np (hp.set k .dead ++ [.rows sz (rs.take n)]) (.osl hp.length sz 0 n) R) : AOut np hp (.osl k sz 0 n) R := by
  intro E ρ w u hnp hH hpre hv
  cases hv with
  | oslnil _ _ A h => exact absurd h (hH.blks.2 k _ _ hk)
  | osl _ _ _ _ b m cap hkk hm hn =>
    have hst1 : HStep E ρ hp w ρ (hp.set k (.rows sz (rs.take n))) w := HStep.redo hH hk (by simp) (by simp) hkk (by simp) fun us ty fz hw hm' ⟨h1, h2, h3, h4⟩ => by
      refine ⟨h1, fun r hr => h2 r (List.mem_of_mem_take hr), ?_, fun i r hi j c u hj hu => ?_⟩
      · rw [← h3]; exact Nat.mul_le_mul_right _ (by simp; omega)
      · rw [List.getElem?_take] at hi
        split at hi
        · exact h4 i r hi j c u hj hu
        · cases hi
    have hgk : (hp.set k (.rows sz (rs.take n)))[k]? = some (.rows sz (rs.take n)) := by
      have := (List.getElem?_eq_some_iff.1 hk).1
      simp [this]
    have hst2 := HStep.move hst1.heap hgk (by simp) hkk
    rw [List.set_set] at hst2
    refine hR E (ρ ++ [some (b, m)]) w _ hnp hst2.heap (fun k p hk => get_append_old (hpre k p hk)) ?_
    have hl := hH.len
    exact .osl _ _ _ _ b m cap (by rw [← hl]; simp) hm hn

/-- What is not handed out is forgotten: the blocks under new places. -/
theorem AOut.framed (m : List Nat) {v v' : AV} {hp' : List ABlk} {R : AV → List ABlk → Prop} (hl : hp'.length = m.length) (hm : ∀ i, i ∈ m → i < hp.length) (hinj : m.Nodup) (hpre : ∀ k, k < np → m[k]? = some k)
    (he : v = renV (mAt m hp.length) v' ∧ inV m.length v') (hh : hpLe (mAt m hp.length) m.length hp 0 hp') (hR : AOut np hp' v' R) : AOut np hp v R :=
  AOut.of_simp (SImp.frame m hl hm hinj hpre ⟨⟨by simpa [aget] using he.1, he.2⟩, trivial⟩ hh) hR

theorem frozen_cells {b o : Nat} {us : Array Value} {ty : TypeId} {fz : Nat × Nat} (h : w.heap[b]? = some (.cells us ty fz)) : w.frozen? ⟨b, o, none⟩ = decide (fz.1 ≤ o ∧ o < fz.2) := by
  simp [World.frozen?, h]

/-- slices.overlaps at two rows of the call's own. -/
theorem ext_overlaps {g : FuncId} {fn : Func} {tS tR e : TypeId} (hf : P.funcs[g]? = some fn) (hn : (fn.name == "runtime.NumGoroutine") = false) (hb : fn.body.isNone = true) (hx : Extern.findNext fn = none)
    (he : Extern.find fn = some (Extern.SlicesOverlaps.overlaps #[tS, tS] #[tR])) (hT : TabOk P T) (ht : (T tS).kind = .slice e) (hko : (T e).kind ≠ .other) {k k' sz off off' n n' : Nat} {x x' : ABlk} {rs rs' : List (List DV)}
    {f f' : List (List DV) → ABlk} (hk : hp[k]? = some x) (hr : isRow x sz rs f) (hk' : hp[k']? = some x') (hr' : isRow x' sz rs' f') (hne : k ≠ k') (h1 : 0 < n) (h2 : 0 < n') (hpos : 0 < sz) :
    aextQ P hp g [.osl k sz off n, .osl k' sz off' n'] (B false) := by
  intro E ρ w us hH hus
  refine ⟨.bool false, .d _ _ (.bool _), fun w' hbl => ?_⟩
  have hxd : (x ≠ .dead ∧ x.isObj = false) ∧ ∀ l, x ≠ .bytes l := by rcases hr with ⟨rfl, _⟩ | ⟨rfl, _⟩ <;> simp
  have hxd' : x' ≠ .dead ∧ x'.isObj = false := by rcases hr' with ⟨rfl, _⟩ | ⟨rfl, _⟩ <;> simp
  match us, hus with
  | [u, u'], hus =>
    have hu := hus.2 0 _ u rfl rfl
    have hu' := hus.2 1 _ u' rfl rfl
    cases hu with
    | oslnil _ _ A _ => omega
    | osl _ _ _ _ b m cap hkk hm hnc =>
      cases hu' with
      | oslnil _ _ A _ => omega
      | osl _ _ _ _ b' m' cap' hkk' hm' hnc' =>
        obtain ⟨_, cs, ty, fz, q2, q3, q4, _⟩ := hH.blk k x b m hk hkk hxd.1
        obtain ⟨_, cs', ty', fz', q2', q3', q4', _⟩ := hH.blk k' x' b' m' hk' hkk' hxd'
        have hbb : b ≠ b' := fun e => hne (hH.inj k k' x x' b m m' hk hk' hxd.1.1 hxd'.1 hkk (e ▸ hkk'))
        have e1 : w'.heap[b]? = some (.cells cs ty fz) := (hbl.block b (lt_of_heap q2)).trans q2
        have e2 : w'.heap[b']? = some (.cells cs' ty' fz') := (hbl.block b' (lt_of_heap q2')).trans q2'
        have hmm : off * sz < cs.size := by
          rw [q3, ← hm]
          exact Nat.mul_lt_mul_of_pos_right (by omega) hpos
        have hmm' : cs'.size ≠ 0 := by
          rw [q3', ← hm']
          exact Nat.ne_of_gt (Nat.mul_pos (by omega) hpos)
        have hpl : ¬ (fz.1 ≤ cs.size ∧ cs.size < fz.2) := by
          rcases q4.2 with ⟨l, hl⟩ | h
          · exact absurd hl (hxd.2 l)
          · exact h
        rw [run_callFunc_extern hf hn hb hx he]
        have := Lib.run_overlaps_apart (P := P) w' tS tR e (und_slice hT ht) (T e).size (fun w => run_sizeOf_tab hT hko w) ⟨b, off * sz, none⟩ ⟨b', off' * sz, none⟩ n cap n' cap' hbb ty ty' cs.size cs'.size
          (by simp [World.shape?, e1]) (by simp [World.shape?, e2]) hmm' (by rw [frozen_cells e1]; simpa using q4.1 _ hmm) (by rw [frozen_cells e1]; simpa using hpl)
        rw [this]
        rfl
end

theorem acall.re {P : Program} {hp : List ABlk} {g : FuncId} {xs : List AV} {x y : AV} (c : acall P hp g xs (ret x)) (e : x = y) : acall P hp g xs (ret y) := e ▸ c
theorem AWP.quietC {P : Program} {T : TypeId → TI} {s : ASt} {Q : Exit → ASt → Prop} {id : Nat} {l : List Oper} (hm : P.follows .mixedOrders = true) (hT : TabOk P T) (hB : (calm l.toArray && Region.lexB .any l.toArray) = true) (h : ∀ K : ASt → Prop, (∀ s', Q .normal s' → K s') → aopsQ P T l.toArray K l s) :
    AWP P (.region id l.toArray true) s Q := by
  rw [Bool.and_eq_true] at hB
  exact AWP.quiet hm hT hB.2 h
/-- A call that is handed rows of the caller's own and gives up what it does not hand back. -/
theorem acallH_own {P : Program} {np : Nat} {hp : List ABlk} {g : FuncId} {xs : List AV} {K : AV → List ABlk → Prop} {t : Tok K} {chp bl : List ABlk} {cargs : List AV} {x : AV} (c : acall P chp g cargs (outs x bl))
    (exs : renL (mAt (idsL xs) hp.length) cargs = xs) (h : chp.length = (idsL xs).length ∧ (idsL xs).Nodup ∧ (∀ i, i ∈ idsL xs → i < hp.length) ∧ inL (idsL xs).length cargs ∧ hpLe (mAt (idsL xs) hp.length) (idsL xs).length hp 0 chp)
    (hK : K (renV (renm (idsL xs) hp.length) x) (putAll (renm (idsL xs) hp.length) hp (idsL xs) bl ++ renBs (renm (idsL xs) hp.length) (bl.drop (idsL xs).length))) : acallHK P np hp g xs K t := by
  have := acallH_ptr (hp := hp) (K := K) (idsL xs) c h.1 h.2.1 h.2.2.1 h.2.2.2.1 h.2.2.2.2 (fun v hp' hR => by
    obtain ⟨rfl, rfl⟩ := hR
    exact hK)
  rw [exs] at this
  exact acallHK_of this
theorem acallHK_ext {P : Program} {np : Nat} {hp : List ABlk} {g : FuncId} {xs : List AV} {K : AV → List ABlk → Prop} {t : Tok K} {v : AV} (h : aextQ P hp g xs v) (hK : K v hp) : acallHK P np hp g xs K t := .inr ⟨v, h, hK⟩
theorem AOut.done {np : Nat} {hp bl : List ABlk} {v x : AV} (h1 : v = x) (h2 : hp = bl) : AOut np hp v (outs x bl) := by subst h1; subst h2; exact AOut.same ⟨rfl, rfl⟩
theorem osl_if0 (i k sz b : Nat) [Decidable (i = 0)] : (if i = 0 then AV.osl k sz 0 b else AV.osl k sz i (b - i)) = .osl k sz i (b - i) := by
  split
  · rename_i h; subst h; simp
  · rfl
theorem osl_if1 (i k sz off b : Nat) [Decidable (i = 0)] : (if i = 0 then AV.osl k sz off b else AV.osl k sz (off + i) (b - i)) = .osl k sz (off + i) (b - i) := by
  split
  · rename_i h; subst h; simp
  · rfl
section
variable {P : Program} {T : TypeId → TI} {np nt : Nat} {env : List (Nat × AV)} {hp : List ABlk} {c x y : Code} {Q : Exit → ASt → Prop} {s : ASt}
/-- A row of the call's own gets a new place; the slot that is named follows it. -/
theorem SImp.moveOwn (t : Nat) {k sz off n : Nat} {z : ABlk} (ht : aget env t = .osl k sz off n) (hk : hp[k]? = some z) (hd : z ≠ .dead) :
    SImp { np := np, nt := nt, env := env, hp := hp } { np := np, nt := nt, env := (t, .osl hp.length sz off n) :: env, hp := hp.set k .dead ++ [z] } := by
  intro E ρ a w h
  have hl := h.heap.len
  simp only at hl
  have hkl : k < ρ.length := by rw [hl]; exact (List.getElem?_eq_some_iff.1 hk).1
  have hst := HStep.move h.heap hk hd (List.getElem?_eq_getElem hkl)
  have hr := h.step hst
  refine ⟨_, hr.np, hr.nodef, hr.nt, fun t' => ?_, hr.heap, hr.pre⟩
  simp only [aget]
  by_cases e : t = t'
  · subst e
    simp only [if_true]
    have := h.env t
    simp only [ht] at this
    generalize hu : a.tmps.getD t undef = u at this
    cases this with
    | osl _ _ _ _ b m cap hkk hm hn =>
      refine .osl _ _ _ _ b m cap ?_ hm hn
      rw [List.getElem?_eq_getElem hkl] at hkk
      rw [List.getElem?_append_right (by omega), hl, Nat.sub_self]
      simpa using hkk
    | oslnil _ _ A hkk =>
      refine .oslnil _ _ A ?_
      rw [List.getElem?_eq_getElem hkl] at hkk
      rw [List.getElem?_append_right (by omega), hl, Nat.sub_self]
      simpa using hkk
  · simp only [e, if_false]
    exact hr.env t'

/-- The ways through a piece meet again in one state. -/
theorem AWP.meet (st : ASt) (h1 : AWP P x s (thenA (fun s' => SImp s' st) Q)) (h2 : AWP P y st Q) : AWP P x s (thenA (fun s' => AWP P y s' Q) Q) :=
  h1.mono fun e s' hq => by
    cases e with
    | normal => exact AWP.weaken hq h2
    | _ => exact hq
theorem AWP.meetB (ks : List Nat) (upd : List (Nat × AV)) (hp' : List ABlk) (h1 : AWP P x { np := np, nt := nt, env := env, hp := hp } (thenA (fun s' => SImp s' { np := np, nt := nt, env := upd ++ ekeep env ks, hp := hp' }) Q))
    (h2 : AWP P y { np := np, nt := nt, env := upd ++ ekeep env ks, hp := hp' } Q) : AWP P x { np := np, nt := nt, env := env, hp := hp } (thenA (fun s' => AWP P y s' Q) Q) := AWP.meet _ h1 h2
end
attribute [go_sem] amakeMap.eq_def amapSet.eq_def amapLook.eq_def isStrIntMap.eq_def osl_if0 osl_if1 Option.isSome_some Option.isSome_none inOrd inOrdG isEffQ.eq_def List.filter_cons List.filter_nil acap.eq_def aslOwnF.eq_def aslFull.eq_def srcApp.eq_def isIntK.eq_def appFull.eq_def aappendF.eq_def copyTo.eq_def copyCells.eq_def isSlK.eq_def acopy.eq_def clearTo.eq_def aclear.eq_def u8val.eq_def isU8.eq_def astoreX.eq_def

/-- What a test says, in short. -/
theorem hcs : (∀ (p : Prop) [Decidable p], (decide p = true) = p) ∧ (∀ (p : Prop) [Decidable p], (decide p = false) ↔ ¬ p) ∧ (∀ a b : Bool, ((a && b) = true) = (a = true ∧ b = true)) ∧ (∀ a b : Bool, ((a || b) = true) = (a = true ∨ b = true)) ∧
    (∀ a b : Bool, ((a || b) = false) ↔ (a = false ∧ b = false)) ∧ (∀ a b : Bool, ((a && b) = false) ↔ (a = false ∨ b = false)) ∧ (∀ b : Bool, ((!b) = true) = (b = false)) ∧ (∀ b : Bool, ((!b) = false) = (b = true)) ∧ ((true = false) = False) ∧ ((false = true) = False) ∧
    (∀ b : Bool, (¬ b = true) = (b = false)) ∧ (∀ b : Bool, (¬ b = false) = (b = true)) ∧ (∀ a b : Int, ¬ a < b ↔ b ≤ a) ∧ (∀ a b : Int, ¬ a ≤ b ↔ b < a) ∧ (∀ a b : Nat, ¬ a < b ↔ b ≤ a) ∧ (∀ a b : Nat, ¬ a ≤ b ↔ b < a) ∧
    (∀ a b : Nat, (a : Int) < (b : Int) ↔ a < b) ∧ (∀ a b : Nat, (a : Int) ≤ (b : Int) ↔ a ≤ b) ∧ (∀ a : Nat, (a : Int) = 0 ↔ a = 0) ∧ ((¬ True) = False) ∧ ((¬ False) = True) ∧ ((!true) = false) ∧ ((!false) = true) :=
  ⟨fun _ _ => decide_eq_true_eq, fun _ _ => decide_eq_false_iff_not, Bool.and_eq_true, Bool.or_eq_true, fun _ _ => Bool.or_eq_false_iff, fun _ _ => Bool.and_eq_false_iff, Bool.not_eq_true', Bool.not_eq_false', Bool.true_eq_false, Bool.false_eq_true,
    Bool.not_eq_true, Bool.not_eq_false, fun _ _ => Int.not_lt, fun _ _ => Int.not_le, fun _ _ => Nat.not_lt, fun _ _ => Nat.not_le, fun _ _ => Int.ofNat_lt, fun _ _ => Int.ofNat_le, fun _ => Int.natCast_eq_zero, not_true_eq_false, not_false_eq_true, Bool.not_true, Bool.not_false⟩
theorem inj : (∀ a b, (AV.d a = AV.d b) = (a = b)) ∧ (∀ k n k' n', (DV.int k n = DV.int k' n') = (k = k' ∧ n = n')) ∧ (∀ a b, (DV.bool a = DV.bool b) = (a = b)) ∧ (∀ a b, (DV.str a = DV.str b) = (a = b)) ∧ (∀ k n k' n', (DV.sl k n = DV.sl k' n') = (k = k' ∧ n = n')) ∧
    (∀ a b, (AV.tup a = AV.tup b) = (a = b)) ∧ (∀ a b, (AV.agg a = AV.agg b) = (a = b)) ∧ (∀ a b c d a' b' c' d', (AV.osl a b c d = AV.osl a' b' c' d') = (a = a' ∧ b = b' ∧ c = c' ∧ d = d')) ∧ (∀ a b a' b', (AV.ptr a b = AV.ptr a' b') = (a = a' ∧ b = b')) ∧
    (∀ a b c d a' b' c' d', (AV.rp a b c d = AV.rp a' b' c' d') = (a = a' ∧ b = b' ∧ c = c' ∧ d = d')) := by simp
end Go.Proofs.YtfnilhdofopoeabDoor
