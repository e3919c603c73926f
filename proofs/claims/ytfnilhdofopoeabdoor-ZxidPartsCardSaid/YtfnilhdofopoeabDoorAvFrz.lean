/- A row of the call's own, looked at as data, and given up where data is made of it. It holds over any program; no condition. -/
import Derived.Test.YtfnilhdofopoeabDoorAvMap
namespace Go.Proofs.YtfnilhdofopoeabDoor
set_option linter.unusedVariables false
set_option linter.unusedSimpArgs false
open Go Go.RowKit

/-! ### A row of the call's own, looked at as data -/
mutual
def frzV (hp : List ABlk) : AV → AV
  | .osl k sz off n =>
    match hp[k]? with
    | some (.rows _ rs) => .d (.sl sz ((rs.drop off).take n))
    | _ => .any
  | .agg cs => .agg (frzL hp cs)
  | .tup cs => .tup (frzL hp cs)
  | v => v
def frzL (hp : List ABlk) : List AV → List AV
  | [] => []
  | x :: r => frzV hp x :: frzL hp r
end
mutual
def frzOk (hp : List ABlk) : AV → Prop
  | .osl k sz off n =>
    match hp[k]? with
    | some (.rows sz' rs) => sz = sz' ∧ off + n ≤ rs.length
    | _ => False
  | .agg cs => frzOks hp cs
  | .tup cs => frzOks hp cs
  | _ => True
def frzOks (hp : List ABlk) : List AV → Prop
  | [] => True
  | x :: r => frzOk hp x ∧ frzOks hp r
end
mutual
/-- A value that names no block of the call's own. -/
def noId : AV → Prop
  | .d _ => True
  | .dp _ _ => True
  | .any => True
  | .agg cs => noIds cs
  | .tup cs => noIds cs
  | _ => False
def noIds : List AV → Prop
  | [] => True
  | x :: r => noId x ∧ noIds r
end

section
variable {P : Program} {T : TypeId → TI} {E : Ent} {s : ASt} {ρ ρ' : List (Option (Nat × Nat))} {a : Act} {w w' : World} {hp : List ABlk}

theorem frzL_get {hp : List ABlk} : ∀ {cs : List AV} {j : Nat}, (frzL hp cs)[j]? = (cs[j]?).map (frzV hp)
  | [], j => by simp [frzL]
  | x :: r, 0 => by simp [frzL]
  | x :: r, j + 1 => by simp only [frzL, List.getElem?_cons_succ]; exact frzL_get
theorem frzL_length {hp : List ABlk} : ∀ {cs : List AV}, (frzL hp cs).length = cs.length
  | [] => rfl
  | x :: r => by simp [frzL, frzL_length (cs := r)]
theorem frzOks_get {hp : List ABlk} : ∀ {cs : List AV} {j : Nat} {x : AV}, frzOks hp cs → cs[j]? = some x → frzOk hp x
  | y :: r, 0, x, h, hx => by simp at hx; subst hx; exact h.1
  | y :: r, j + 1, x, h, hx => frzOks_get h.2 (by simpa using hx)
theorem noIds_get : ∀ {cs : List AV} {j : Nat} {x : AV}, noIds cs → cs[j]? = some x → noId x
  | y :: r, 0, x, h, hx => by simp at hx; subst hx; exact h.1
  | y :: r, j + 1, x, h, hx => noIds_get h.2 (by simpa using hx)

/-- A row, looked at as data: 'ok'' lets in all that 'ok' does, and the rows. -/
theorem osl_data1 {ok ok' : Nat → Prop} {k : Nat} (hB : Blks ρ ok w hp) (hok : ∀ b, ok b → ok' b) (hrow : ∀ (b m sz : Nat) (rs : List (List DV)), hp[k]? = some (.rows sz rs) → ρ[k]? = some (some (b, m)) → ok' b)
    {sz off n : Nat} {u : Value} (h : RepV ρ ok w (.osl k sz off n) u) (hf : frzOk hp (.osl k sz off n)) : RepV [] ok' w (frzV hp (.osl k sz off n)) u := by
  simp only [frzOk] at hf
  simp only [frzV]
  split at hf
  · rename_i sz' rs hcs
    obtain ⟨h1, h2⟩ := hf
    subst h1
    try simp only [hcs]
    have hlen : ((rs.drop off).take n).length = n := length_seg _ _ _ h2
    cases h with
    | oslnil _ _ A hk =>
      have : (rs.drop 0).take 0 = [] := by simp
      rw [this]
      exact .d _ _ (.sl sz [] A 0 (fun _ _ => undef) (by simp) (by simp) (by simp) (by simp))
    | osl _ _ _ _ b m cap hk hm hn =>
      obtain ⟨us, ty, fz, hw, hum, hone, hrl, hsz, hr⟩ := hB.1 k _ b m hcs hk (by simp)
      rw [show Value.slice (some ⟨b, off * sz, none⟩) n cap = Value.slice (some ⟨b, off * sz, none⟩) ((rs.drop off).take n).length cap from by rw [hlen]]
      have cellOf : ∀ (i : Nat) (r : List DV), ((rs.drop off).take n)[i]? = some r → ∀ (j : Nat) (c : DV), r[j]? = some c → ∃ v, us[(off + i) * sz + j]? = some v := by
        intro i r hi j c hj
        have a1 := (getElem?_seg _ _ _ _ _ hi).1
        have hil : off + i < rs.length := (List.getElem?_eq_some_iff.1 a1).1
        have hjl : j < sz := by rw [← hrl r (List.mem_of_getElem? a1)]; exact (List.getElem?_eq_some_iff.1 hj).1
        have : (off + i + 1) * sz ≤ rs.length * sz := Nat.mul_le_mul_right _ hil
        rw [Nat.add_mul] at this
        have hlt : (off + i) * sz + j < us.size := by omega
        exact ⟨_, Array.getElem?_eq_getElem hlt⟩
      refine .d _ _ (.sl sz _ _ _ (fun i j => us.getD ((off + i) * sz + j) undef) (by rw [hlen]; exact hn) (fun r hr' => hrl r (mem_seg hr')) (fun _ => ⟨b, off * sz, rfl, hrow b m sz rs hcs hk, fun i r hi j c hj => ?_⟩) fun i r hi j c hj => ?_)
      · obtain ⟨v, hv⟩ := cellOf i r hi j c hj
        rw [cell_of_cells hw, show off * sz + (i * sz + j) = (off + i) * sz + j from by rw [Nat.add_mul]; omega, hv]
        simp [Array.getD_eq_getD_getElem?, hv]
      · obtain ⟨v, hv⟩ := cellOf i r hi j c hj
        have a1 := (getElem?_seg _ _ _ _ _ hi).1
        have := hr (off + i) r a1 j c v hj hv
        have e : us.getD ((off + i) * sz + j) undef = v := by simp [Array.getD_eq_getD_getElem?, hv]
        rw [e]
        exact this.mono fun b hb => ⟨hok b hb, rfl⟩
  · exact hf.elim

theorem frz_ok {ok ok' : Nat → Prop} (hB : Blks ρ ok w hp) (hok : ∀ b, ok b → ok' b) (hrow : ∀ (k b m sz : Nat) (rs : List (List DV)), hp[k]? = some (.rows sz rs) → ρ[k]? = some (some (b, m)) → ok' b)
    {v : AV} {u : Value} (h : RepV ρ ok w v u) : frzOk hp v → noId (frzV hp v) → RepV [] ok' w (frzV hp v) u := by
  induction h with
  | d x v h => intro _ _; simp only [frzV]; exact .d _ _ (h.mono fun b hb => ⟨hok b hb, rfl⟩)
  | agg cs us hl h1 hr ih =>
    intro hf hn
    simp only [frzV, frzOk, noId] at hf hn ⊢
    refine .agg _ _ (by rw [frzL_length]; exact hl) h1 fun j c u hc hu => ?_
    rw [frzL_get] at hc
    obtain ⟨x, hx, rfl⟩ := Option.map_eq_some_iff.1 hc
    exact ih j x u hx hu (frzOks_get hf hx) (noIds_get (j := j) hn (by rw [frzL_get, hx]; rfl))
  | tup cs us hl hr ih =>
    intro hf hn
    simp only [frzV, frzOk, noId] at hf hn ⊢
    refine .tup _ _ (by rw [frzL_length]; exact hl) fun j c u hc hu => ?_
    rw [frzL_get] at hc
    obtain ⟨x, hx, rfl⟩ := Option.map_eq_some_iff.1 hc
    exact ih j x u hx hu (frzOks_get hf hx) (noIds_get (j := j) hn (by rw [frzL_get, hx]; rfl))
  | ptr k off b m h => intro _ hn; simp [frzV, noId] at hn
  | rp k sz i off b m h => intro _ hn; simp [frzV, noId] at hn
  | osl k sz off n b m cap h hm hn' => intro hf _; exact osl_data1 hB hok (hrow k) (.osl k sz off n b m cap h hm hn') hf
  | oslnil k sz A h => intro hf _; exact osl_data1 hB hok (hrow k) (.oslnil k sz A h) hf
  | dp row off b o u hb hc hr =>
    intro _ _
    simp only [frzV]
    exact .dp row off b o u (hok b hb) hc fun j c hj => (hr j c hj).mono fun b hb => ⟨hok b hb, rfl⟩
  | clo f first caps us vs hl hl' hr hr' ih ih' => intro _ hn; simp [frzV, noId] at hn
  | mp k b m h => intro _ hn; simp [frzV, noId] at hn
  | gd g v u ht hf ih => intro _ hn; simp [frzV, noId] at hn
  | any u => intro _ _; simp only [frzV]; exact .any u

theorem noId_rep {ok ok' : Nat → Prop} (hok : ∀ b, ok b → ok' b ∧ w'.heap[b]? = w.heap[b]?) {v : AV} {u : Value} (h : RepV ρ ok w v u) : noId v → RepV ρ' ok' w' v u := by
  induction h with
  | d x v h => intro _; exact .d _ _ (h.mono hok)
  | agg cs us hl h1 hr ih => intro hn; exact .agg _ _ hl h1 fun j c u hc hu => ih j c u hc hu (noIds_get hn hc)
  | tup cs us hl hr ih => intro hn; exact .tup _ _ hl fun j c u hc hu => ih j c u hc hu (noIds_get hn hc)
  | dp row off b o u hb hc hr =>
    intro _
    exact .dp row off b o u (hok b hb).1 (fun j c hj => (cell_of_same (hok b hb).2).trans (hc j c hj)) fun j c hj => (hr j c hj).mono hok
  | any u => intro _; exact .any u
  | _ => intro hn; simp [noId] at hn

/-! ### Rows that are given up -/
mutual
def idsV : AV → List Nat
  | .osl k _ _ _ => [k]
  | .agg cs => idsL cs
  | .tup cs => idsL cs
  | _ => []
def idsL : List AV → List Nat
  | [] => []
  | x :: r => idsV x ++ idsL r
end
def killIds : List Nat → List ABlk → List ABlk
  | [], hp => hp
  | k :: r, hp => killIds r (hp.set k .dead)

theorem HStep.killIds (h : RepH E ρ hp w) : ∀ (ks : List Nat) , HStep E ρ hp w ρ (killIds ks hp) w := by
  intro ks
  induction ks generalizing hp with
  | nil => exact HStep.below h ⟨rfl, rfl, rfl, Nat.le_refl _, fun _ _ => rfl⟩
  | cons k r ih => exact (HStep.kill h k).trans (ih (HStep.kill h k).heap)

theorem killIds_get : ∀ {ks : List Nat} {hp : List ABlk} {j : Nat} {x : ABlk}, (_root_.Go.Proofs.YtfnilhdofopoeabDoor.killIds ks hp)[j]? = some x → x ≠ .dead → j ∉ ks ∧ hp[j]? = some x
  | [], hp, j, x, h, _ => ⟨by simp, h⟩
  | k :: r, hp, j, x, h, hd => by
    obtain ⟨h1, h2⟩ := killIds_get (ks := r) h hd
    rcases getElem?_set_cases h2 with ⟨_, e, _⟩ | ⟨hne, h3⟩
    · exact absurd e hd
    · exact ⟨by simp [h1, hne], h3⟩

theorem idsL_mem : ∀ {cs : List AV} {j : Nat} {x : AV} {k : Nat}, cs[j]? = some x → k ∈ idsV x → k ∈ idsL cs
  | y :: r, 0, x, k, h, hk => by simp at h; subst h; simp [idsL, hk]
  | y :: r, j + 1, x, k, h, hk => by simp only [idsL, List.mem_append]; exact .inr (idsL_mem (by simpa using h) hk)

theorem frz_ids {ok ok' : Nat → Prop} (hB : Blks ρ ok w hp) (hok : ∀ b, ok b → ok' b) {v : AV} {u : Value} (h : RepV ρ ok w v u) :
    (∀ k, k ∈ idsV v → ∀ (b m sz : Nat) (rs : List (List DV)), hp[k]? = some (.rows sz rs) → ρ[k]? = some (some (b, m)) → ok' b) → frzOk hp v → noId (frzV hp v) → RepV [] ok' w (frzV hp v) u := by
  induction h with
  | d x v h => intro _ _ _; simp only [frzV]; exact .d _ _ (h.mono fun b hb => ⟨hok b hb, rfl⟩)
  | agg cs us hl h1 hr ih =>
    intro hi hf hn
    simp only [frzV, frzOk, noId] at hf hn ⊢
    refine .agg _ _ (by rw [frzL_length]; exact hl) h1 fun j c u hc hu => ?_
    rw [frzL_get] at hc
    obtain ⟨x, hx, rfl⟩ := Option.map_eq_some_iff.1 hc
    exact ih j x u hx hu (fun k hk => hi k (idsL_mem hx hk)) (frzOks_get hf hx) (noIds_get (j := j) hn (by rw [frzL_get, hx]; rfl))
  | tup cs us hl hr ih =>
    intro hi hf hn
    simp only [frzV, frzOk, noId] at hf hn ⊢
    refine .tup _ _ (by rw [frzL_length]; exact hl) fun j c u hc hu => ?_
    rw [frzL_get] at hc
    obtain ⟨x, hx, rfl⟩ := Option.map_eq_some_iff.1 hc
    exact ih j x u hx hu (fun k hk => hi k (idsL_mem hx hk)) (frzOks_get hf hx) (noIds_get (j := j) hn (by rw [frzL_get, hx]; rfl))
  | ptr k off b m h => intro _ _ hn; simp [frzV, noId] at hn
  | rp k sz i off b m h => intro _ _ hn; simp [frzV, noId] at hn
  | osl k sz off n b m cap h hm hn' =>
    intro hi hf hn
    refine osl_data1 hB hok (hi k (by simp [idsV])) (.osl k sz off n b m cap h hm hn') hf
  | oslnil k sz A h => intro hi hf _; exact osl_data1 hB hok (hi k (by simp [idsV])) (.oslnil k sz A h) hf
  | dp row off b o u hb hc hr =>
    intro _ _ _
    simp only [frzV]
    exact .dp row off b o u (hok b hb) hc fun j c hj => (hr j c hj).mono fun b hb => ⟨hok b hb, rfl⟩
  | clo f first caps us vs hl hl' hr hr' ih ih' => intro _ _ hn; simp [frzV, noId] at hn
  | mp k b m h => intro _ _ hn; simp [frzV, noId] at hn
  | gd g v u ht hf ih => intro _ _ hn; simp [frzV, noId] at hn
  | any u => intro _ _ _; simp only [frzV]; exact .any u

theorem killIds_ok (h : RepH E ρ hp w) (h0 : E.ρ0 = []) (ks : List Nat) : ∀ k, k ∈ ks → ∀ (b m sz : Nat) (rs : List (List DV)), hp[k]? = some (.rows sz rs) → ρ[k]? = some (some (b, m)) → okB E ρ (killIds ks hp) w b := by
  intro k hk b m sz rs hx hb
  obtain ⟨q1, us, ty, fz, q2, _⟩ := h.blk k _ b m hx hb (by simp)
  have hnl : ¬ Live ρ (killIds ks hp) b := by
    intro ⟨j, x, m', hx', hd, hj⟩
    obtain ⟨h1, h2⟩ := killIds_get hx' hd
    have := h.inj j k x _ b m' m h2 hx hd (by simp) hj hb
    subst this
    exact h1 hk
  rcases q1 with q1 | q1
  · obtain ⟨k', m', hk'⟩ := E.hL b q1
    rw [h0] at hk'; simp at hk'
  · exact ⟨.inr q1, lt_of_heap q2, hnl⟩

/-- Data is made of values: the rows that they name are given up. -/
theorem frz_step (h : RepH E ρ hp w) (h0 : E.ρ0 = []) {ks : List Nat} {v : AV} {u : Value} (hv : RepV ρ (okB E ρ hp w) w v u) (hks : ∀ k, k ∈ idsV v → k ∈ ks) (hf : frzOk hp v) (hn : noId (frzV hp v)) :
    RepV ρ (okB E ρ (killIds ks hp) w) w (frzV hp v) u := by
  have := frz_ids h.blks (fun b hb => ((HStep.killIds h ks).ok b hb).1) hv (fun k hk => killIds_ok h h0 ks k (hks k hk)) hf hn
  exact noId_rep (fun b hb => ⟨hb, rfl⟩) this hn

/-- The parts of a row that is made: rows among them become data. -/
def bsParts (np : Nat) (hp : List ABlk) (ps : List (Nat × AV)) : Prop × List (Nat × AV) × List ABlk :=
  match idsL (ps.map fun p => p.2) with
  | [] => (True, ps, hp)
  | k :: r => if np = 0 then (frzOks hp (ps.map fun p => p.2) ∧ noIds (frzL hp (ps.map fun p => p.2)), ps.map (fun p => (p.1, frzV hp p.2)), killIds (k :: r) hp) else (True, ps, hp)

theorem bsParts_sound (h : RepH E ρ hp w) {np : Nat} (hnp : E.ρ0.length = np) {ps : List (Nat × AV)} {vs : List (Nat × Value)} (hl : vs.length = ps.length)
    (hr : ∀ (j : Nat) (x : Nat × AV) (y : Nat × Value), ps[j]? = some x → vs[j]? = some y → y.1 = x.1 ∧ RepV ρ (okB E ρ hp w) w x.2 y.2) (hk : (bsParts np hp ps).1) :
    HStep E ρ hp w ρ (bsParts np hp ps).2.2 w ∧ vs.length = (bsParts np hp ps).2.1.length ∧
    ∀ (j : Nat) (x : Nat × AV) (y : Nat × Value), (bsParts np hp ps).2.1[j]? = some x → vs[j]? = some y → y.1 = x.1 ∧ RepV ρ (okB E ρ (bsParts np hp ps).2.2 w) w x.2 y.2 := by
  revert hk
  unfold bsParts
  split
  · intro _; exact ⟨HStep.below h ⟨rfl, rfl, rfl, Nat.le_refl _, fun _ _ => rfl⟩, hl, hr⟩
  rename_i k r hids
  split
  · rename_i h0
    intro ⟨hf, hn⟩
    have hE : E.ρ0 = [] := List.eq_nil_of_length_eq_zero (by rw [hnp]; exact h0)
    refine ⟨HStep.killIds h _, by simpa using hl, fun j x y hx hy => ?_⟩
    simp only [List.getElem?_map] at hx
    obtain ⟨p, hp', rfl⟩ := Option.map_eq_some_iff.1 hx
    obtain ⟨q1, q2⟩ := hr j p y hp' hy
    have hm : (ps.map fun p => p.2)[j]? = some p.2 := by rw [List.getElem?_map, hp']; rfl
    refine ⟨q1, frz_step h hE q2 (fun i hi => by rw [← hids]; exact idsL_mem hm hi) (frzOks_get hf hm) (noIds_get (j := j) hn (by rw [frzL_get, hm]; rfl))⟩
  · intro _; exact ⟨HStep.below h ⟨rfl, rfl, rfl, Nat.le_refl _, fun _ _ => rfl⟩, hl, hr⟩
end
end Go.Proofs.YtfnilhdofopoeabDoor
