/- A row of the call's own of which the last elements are spoken of no more. It holds over any program. -/
import Derived.Test.YtfnilhdofopoeaaAvIn
namespace Go.Proofs.Ytfnilhdofopoeaa
set_option linter.unusedVariables false
set_option linter.unusedSimpArgs false
open Go

/-- A row's last elements are spoken of no more. -/
theorem SImp.tail (k n : Nat) {np nt : Nat} {env : List (Nat × AV)} {hp : List ABlk} {sz : Nat} {rs : List (List DV)} (hk : hp[k]? = some (.rows sz rs)) :
    SImp { np := np, nt := nt, env := env, hp := hp } { np := np, nt := nt, env := env, hp := hp.set k (.rows sz (rs.take n)) } := by
  intro E ρ a w h
  have hl := h.heap.len
  simp only at hl
  have hkl : k < hp.length := (List.getElem?_eq_some_iff.1 hk).1
  obtain ⟨p, hkp⟩ : ∃ p, ρ[k]? = some p := ⟨ρ[k]'(by omega), List.getElem?_eq_getElem (by omega)⟩
  cases p with
  | none =>
    rcases h.heap.nil k _ hk hkp with e | ⟨sz', e⟩
    · cases e
    · injection e with e1 e2
      subst e2
      have e3 : hp.set k (.rows sz (List.take n [])) = hp := by
        apply List.ext_getElem?
        intro j
        rw [List.getElem?_set]
        split
        · rename_i e; subst e; rw [hk]; first | rfl | simp | (rw [if_pos hkl]; simp)
        · rfl
      rw [e3]
      exact ⟨ρ, h⟩
  | some bm =>
    obtain ⟨b, m⟩ := bm
    have hst := HStep.redo (x' := .rows sz (rs.take n)) h.heap hk (by simp) (by simp) hkp (by simp) fun us ty fz hw hm ⟨h1, h2, h3, h4⟩ => by
      refine ⟨h1, fun r hr => h2 r (List.mem_of_mem_take hr), Nat.le_trans (Nat.mul_le_mul_right _ (by rw [List.length_take]; omega)) h3, fun i r hi j c u hj hu => ?_⟩
      rw [List.getElem?_take] at hi
      split at hi
      · exact h4 i r hi j c u hj hu
      · cases hi
    exact ⟨_, h.step hst⟩

theorem killOne_ok {E : Ent} {ρ : List (Option (Nat × Nat))} {hp : List ABlk} {w : World} (h : RepH E ρ hp w) (hpre : ∀ (k : Nat) (p : Option (Nat × Nat)), E.ρ0[k]? = some p → ρ[k]? = some p) {k : Nat}
    (h0 : ∀ j, j < E.ρ0.length → j ≠ k ∧ ∃ z, hp[j]? = some z ∧ z ≠ .dead) : ∀ (b m sz : Nat) (rs : List (List DV)), hp[k]? = some (.rows sz rs) → ρ[k]? = some (some (b, m)) → okB E ρ (hp.set k .dead) w b := by
  intro b m sz rs hx hb
  obtain ⟨q1, us, ty, fz, q2, _⟩ := h.blk k _ b m hx hb (by simp)
  have hnl : ¬ Live ρ (hp.set k .dead) b := by
    intro ⟨j, x, m', hx', hd, hj⟩
    rcases getElem?_set_cases hx' with ⟨_, e, _⟩ | ⟨hne, h2⟩
    · exact hd e
    · exact hne (h.inj j k x _ b m' m h2 hx hd (by simp) hj hb)
  rcases q1 with q1 | q1
  · obtain ⟨k', m', hk'⟩ := E.hL b q1
    have hlt : k' < E.ρ0.length := (List.getElem?_eq_some_iff.1 hk').1
    obtain ⟨hne, z, hz, hzd⟩ := h0 k' hlt
    exact absurd (h.inj k' k z _ b m' m hz hx hzd (by simp) (hpre _ _ hk') hb) hne
  · exact ⟨.inr q1, lt_of_heap q2, hnl⟩

/-- A slot's row is given up, and is data from then on. The blocks that the caller handed stand as they did. -/
theorem SImp.frz1 (t k : Nat) {np nt : Nat} {env : List (Nat × AV)} {hp : List ABlk} {sz off n : Nat} {rs : List (List DV)} (h0 : ∀ j, j < np → j ≠ k ∧ ∃ z, hp[j]? = some z ∧ z ≠ .dead) (ht : aget env t = .osl k sz off n) (hk : hp[k]? = some (.rows sz rs)) (hn : off + n ≤ rs.length) :
    SImp { np := np, nt := nt, env := env, hp := hp } { np := np, nt := nt, env := (t, .d (.sl sz ((rs.drop off).take n))) :: env, hp := hp.set k .dead } := by
  intro E ρ a w h
  have hst : HStep E ρ hp w ρ (hp.set k .dead) w := HStep.kill h.heap k
  have hr := h.step hst
  have hv := h.env t
  simp only [ht] at hv
  have hf : frzOk hp (.osl k sz off n) := by rw [frzOk_osl, hk]; exact ⟨rfl, hn⟩
  have he : frzV hp (.osl k sz off n) = .d (.sl sz ((rs.drop off).take n)) := by rw [frzV_osl, hk]
  have hnp : E.ρ0.length = np := h.np
  have hz := frz_ids h.heap.blks (fun b hb => (hst.ok b hb).1) hv (fun j hj b m sz' rs' hx hb => by
    have hjk : j = k := by simpa [idsV] using hj
    subst hjk
    exact killOne_ok h.heap h.pre (fun i hi => h0 i (by omega)) b m sz' rs' hx hb) hf (by rw [he]; trivial)
  rw [he] at hz
  have hz := noId_rep (ρ' := ρ) (fun b hb => ⟨hb, rfl⟩) hz (show noId (.d (.sl sz ((rs.drop off).take n))) from trivial)
  refine ⟨ρ, hr.np, hr.nodef, hr.nt, fun t' => ?_, hr.heap, hr.pre⟩
  simp only [aget]
  by_cases e : t = t'
  · subst e; simp only [if_true]; exact hz
  · simp only [e, if_false]; exact hr.env t'

/-- A row of the call's own that a cell names gets a new place. -/
theorem SImp.moveOwnC (k0 j : Nat) {np nt : Nat} {env : List (Nat × AV)} {hp : List ABlk} {cs : List AV} {k sz off n : Nat} {z : ABlk} (h0 : hp[k0]? = some (.cells cs)) (hj : cs[j]? = some (.osl k sz off n)) (hk : hp[k]? = some z) (hd : z ≠ .dead) (hne : k ≠ k0) :
    SImp { np := np, nt := nt, env := env, hp := hp } { np := np, nt := nt, env := env, hp := (hp.set k .dead).set k0 (.cells (cs.set j (.osl hp.length sz off n))) ++ [z] } := by
  intro E ρ a w h
  have hl := h.heap.len
  simp only at hl
  have hkl : k < hp.length := (List.getElem?_eq_some_iff.1 hk).1
  have hkl0 : k0 < hp.length := (List.getElem?_eq_some_iff.1 h0).1
  obtain ⟨p, hp'⟩ : ∃ p, ρ[k]? = some p := ⟨ρ[k]'(by omega), List.getElem?_eq_getElem (by omega)⟩
  obtain ⟨p0, hp0⟩ : ∃ p, ρ[k0]? = some p := ⟨ρ[k0]'(by omega), List.getElem?_eq_getElem (by omega)⟩
  have hst := HStep.move h.heap hk hd hp'
  have hr := h.step hst
  have hg0 : (hp.set k .dead ++ [z])[k0]? = some (.cells cs) := by
    rw [List.getElem?_append_left (by simpa using hkl0), List.getElem?_set_ne hne]; exact h0
  cases p0 with
  | none => rcases h.heap.nil k0 _ h0 hp0 with e | ⟨_, e⟩ <;> cases e
  | some bm =>
    obtain ⟨b, m⟩ := bm
    have hst2 := HStep.redo (x' := .cells (cs.set j (.osl hp.length sz off n))) hr.heap hg0 (by simp) (by simp) (get_append_old hp0) (by simp) fun us ty fz hw hm ⟨h1, h2, h3⟩ => ⟨h1, by simp [h2], fun j' c u hc hu => by
      rcases getElem?_set_cases hc with ⟨e, e', _⟩ | ⟨_, hc⟩
      · subst e; subst e'
        have := h3 _ _ _ hj hu
        cases this with
        | osl _ _ _ _ b m cap hkk hm hn =>
          refine .osl _ _ _ _ b m cap ?_ hm hn
          rw [get_append_old hp'] at hkk
          rw [List.getElem?_append_right (by omega), hl, Nat.sub_self]
          simpa using hkk
        | oslnil _ _ A hkk =>
          refine .oslnil _ _ A ?_
          rw [get_append_old hp'] at hkk
          rw [List.getElem?_append_right (by omega), hl, Nat.sub_self]
          simpa using hkk
      · exact h3 _ _ _ hc hu⟩
    rw [List.set_append_left _ _ (by simpa using hkl0)] at hst2
    exact ⟨_, hr.step hst2⟩
end Go.Proofs.Ytfnilhdofopoeaa
