/- How a contract is used at a call in the midst of a walk. It holds over any program whose types read as the table says. -/
import Derived.Test.YtfnilhdofopoeabDoorAvFun
namespace Go.Proofs.YtfnilhdofopoeabDoor
set_option linter.unusedVariables false
set_option linter.unusedSimpArgs false
open Go Go.RowKit

def isNilSl : Value → Bool
  | .slice _ _ _ => true
  | _ => false

mutual
/-- The one value that a scalar stands for. -/
def scalV : AV → Option Value
  | .d (.int k n) => some (.int k n)
  | .d (.bool b) => some (.bool b)
  | .d (.str l) => some (mkStr l)
  | .d (.sc v) => if v.oneCell' = true ∧ isNilSl v = false then some v else none
  | .tup vs => (scalL vs).map fun l => .tuple l.toArray
  | .agg cs => (scalL cs).bind fun l => if l.all (·.oneCell') then some (.agg l.toArray) else none
  | _ => none
def scalL : List AV → Option (List Value)
  | [] => some []
  | x :: r => match scalV x, scalL r with
    | some u, some l => some (u :: l)
    | _, _ => none
end

section
variable {P : Program} {T : TypeId → TI} {E : Ent} {s : ASt} {ρ ρ' : List (Option (Nat × Nat))} {a : Act} {w w' : World} {hp : List ABlk} {ok ok' : Nat → Prop}

theorem scalL_get : ∀ {cs : List AV} {l : List Value}, scalL cs = some l → l.length = cs.length ∧ ∀ (j : Nat) (x : AV), cs[j]? = some x → ∃ u, l[j]? = some u ∧ scalV x = some u
  | [], l, h => by simp [scalL] at h; subst h; exact ⟨rfl, by simp⟩
  | x :: r, l, h => by
    simp only [scalL] at h
    cases h1 : scalV x with
    | none => simp [h1] at h
    | some u =>
      cases h2 : scalL r with
      | none => simp [h1, h2] at h
      | some l' =>
        simp [h1, h2] at h
        subst h
        obtain ⟨a1, a2⟩ := scalL_get h2
        refine ⟨by simp [a1], fun j y hy => ?_⟩
        match j with
        | 0 => simp at hy; subst hy; exact ⟨u, rfl, h1⟩
        | j + 1 => simpa using a2 j y (by simpa using hy)

theorem scal_eq {x : AV} {u : Value} (h : RepV ρ ok w x u) : ∀ u0, scalV x = some u0 → u = u0 := by
  induction h with
  | d x v h =>
    intro u0 e
    cases h with
    | int k n => simp [scalV] at e; exact e
    | bool b => simp [scalV] at e; exact e
    | str l => simp [scalV] at e; exact e
    | sc v h1 => simp [scalV, h1] at e; exact e.2
    | sc0 A => simp [scalV, isNilSl] at e
    | sl => simp [scalV] at e
  | agg cs us hl h1 hr ih =>
    intro u0 e
    simp only [scalV, Option.bind_eq_some_iff] at e
    obtain ⟨l, hl', e⟩ := e
    split at e
    · injection e with e
      subst e
      obtain ⟨a1, a2⟩ := scalL_get hl'
      congr 2
      apply List.ext_getElem?
      intro j
      by_cases hj : j < cs.length
      · obtain ⟨u, hu, hs⟩ := a2 j _ (List.getElem?_eq_getElem hj)
        have hju : j < us.length := by omega
        rw [hu, List.getElem?_eq_getElem hju]
        rw [ih j _ _ (List.getElem?_eq_getElem hj) (List.getElem?_eq_getElem hju) u hs]
      · rw [List.getElem?_eq_none (by omega), List.getElem?_eq_none (by omega)]
    · cases e
  | tup cs us hl hr ih =>
    intro u0 e
    simp only [scalV, Option.map_eq_some_iff] at e
    obtain ⟨l, hl', e⟩ := e
    subst e
    obtain ⟨a1, a2⟩ := scalL_get hl'
    congr 2
    apply List.ext_getElem?
    intro j
    by_cases hj : j < cs.length
    · obtain ⟨u, hu, hs⟩ := a2 j _ (List.getElem?_eq_getElem hj)
      have hju : j < us.length := by omega
      rw [hu, List.getElem?_eq_getElem hju]
      rw [ih j _ _ (List.getElem?_eq_getElem hj) (List.getElem?_eq_getElem hju) u hs]
    · rw [List.getElem?_eq_none (by omega), List.getElem?_eq_none (by omega)]
  | _ => intro u0 e; simp [scalV] at e

mutual
theorem scal_rep : ∀ (x : AV) (u : Value), scalV x = some u → RepV ρ ok w x u
  | .d (.int k n), u, h => by simp [scalV] at h; subst h; exact .d _ _ (.int _ _)
  | .d (.bool b), u, h => by simp [scalV] at h; subst h; exact .d _ _ (.bool _)
  | .d (.str l), u, h => by simp [scalV] at h; subst h; exact .d _ _ (.str _)
  | .d (.sc v), u, h => by
    simp only [scalV] at h
    split at h
    · rename_i h1; injection h with h; subst h; exact .d _ _ (.sc _ h1.1)
    · cases h
  | .d (.sl _ _), u, h => by simp [scalV] at h
  | .tup vs, u, h => by
    simp only [scalV, Option.map_eq_some_iff] at h
    obtain ⟨l, hl, rfl⟩ := h
    obtain ⟨a1, a2⟩ := scalL_get hl
    exact .tup _ _ a1 (scalL_rep vs l hl)
  | .agg cs, u, h => by
    simp only [scalV, Option.bind_eq_some_iff] at h
    obtain ⟨l, hl, h⟩ := h
    split at h
    · rename_i h1
      injection h with h
      subst h
      obtain ⟨a1, a2⟩ := scalL_get hl
      exact .agg _ _ a1 (by simpa using h1) (scalL_rep cs l hl)
    · cases h
  | .ptr _ _, u, h => by simp [scalV] at h
  | .rp _ _ _ _, u, h => by simp [scalV] at h
  | .osl _ _ _ _, u, h => by simp [scalV] at h
  | .dp _ _, u, h => by simp [scalV] at h
  | .clo _ _ _, u, h => by simp [scalV] at h
  | .gd _ _, u, h => by simp [scalV] at h
  | .mp _, u, h => by simp [scalV] at h
  | .any, u, h => by simp [scalV] at h
theorem scalL_rep : ∀ (cs : List AV) (l : List Value), scalL cs = some l → ∀ (j : Nat) (x : AV) (u : Value), cs[j]? = some x → l[j]? = some u → RepV ρ ok w x u
  | [], l, h, j, x, u, hx, hu => by simp at hx
  | y :: r, l, h, j, x, u, hx, hu => by
    simp only [scalL] at h
    cases h1 : scalV y with
    | none => simp [h1] at h
    | some v =>
      cases h2 : scalL r with
      | none => simp [h1, h2] at h
      | some l' =>
        simp [h1, h2] at h
        subst h
        match j with
        | 0 => simp at hx hu; subst hx; subst hu; exact scal_rep y v h1
        | j + 1 => exact scalL_rep r l' h2 j x u (by simpa using hx) (by simpa using hu)
end

/-- A call whose result is a scalar; what it is handed may be rows of the caller's own, looked at as data. -/
theorem acallQ_of {g : FuncId} {xs : List AV} {x : AV} {u0 : Value} (c : acall P [] g (frzL hp xs) (fun v _ => v = x)) (hsc : scalV x = some u0) (hf : frzOks hp xs) (hn : noIds (frzL hp xs)) :
    acallQ P hp g xs x := by
  refine ⟨c.1, fun E ρ w us hH hus => ⟨u0, scal_rep x u0 hsc, fun w' hb => ?_⟩⟩
  let E' : Ent := { w0 := w', L0 := fun _ => False, S0 := fun b => b < w.heap.size, ρ0 := [], hS := fun b h => ⟨Nat.lt_of_lt_of_le h hb.size, fun h => h⟩, hL := fun b h => h.elim, hT := hH.tabsAt.below hb, hTL := fun _ _ h => h }
  have hnl : ∀ b, ¬ Live [] [] b := fun b ⟨k, x, m, hx, _⟩ => by simp at hx
  have hE : RepH E' [] [] w' := ⟨rfl, by simp, by simp, by simp, Fr.refl _ _⟩
  have hargs : RepVs [] (okB E' [] [] w') w' (frzL hp xs) us := by
    refine ⟨by rw [frzL_length]; exact hus.1, fun j y u hy hu => ?_⟩
    have hy0 := hy
    rw [frzL_get] at hy
    obtain ⟨z, hz, rfl⟩ := Option.map_eq_some_iff.1 hy
    have h1 := frz_ok (ok' := fun b => b < w.heap.size) hH.blks (fun b hb => hb.2.1) (fun k b m sz rs hk hb => by
      obtain ⟨_, us, ty, fz, q2, _⟩ := hH.blk k _ b m hk hb (by simp)
      exact lt_of_heap q2) (hus.2 j z u hz hu) (frzOks_get hf hz) (noIds_get hn hy0)
    exact noId_rep (fun b hb' => ⟨⟨.inl hb', Nat.lt_of_lt_of_le hb' hb.size, hnl b⟩, hb.block b hb'⟩) h1 (noIds_get hn hy0)
  refine (c.2 E' w' us rfl hE hargs).mono fun e w'' hh => ?_
  obtain ⟨u, v, hp', ρ', h1, h2, h3, h4, h5⟩ := hh
  subst h2
  refine ⟨by rw [h1, scal_eq h5 u0 hsc], h3.fr.os, h3.fr.tape, h3.fr.output, h3.fr.size, fun k hk => h3.fr.block k hk (fun h => h)⟩

theorem acallH_of_Q {g : FuncId} {xs : List AV} {x : AV} {K : AV → List ABlk → Prop} (h : acallQ P hp g xs x) (hK : K x hp) : acallH P hp g xs K := by
  refine ⟨h.1, fun E ρ w us hH hus => ?_⟩
  obtain ⟨u, hu, hrun⟩ := h.2 E ρ w us hH hus
  refine (hrun w (below_refl w)).mono fun e w' ⟨h1, h2⟩ => ?_
  have hs := HStep.below hH h2
  exact ⟨u, x, hp, ρ, h1, hK, hs, hu.step hs⟩

/-- A scalar's call in a walk. -/
theorem acallH_scal {g : FuncId} {xs : List AV} {x : AV} {u0 : Value} {K : AV → List ABlk → Prop} (c : acall P [] g (frzL hp xs) (fun v _ => v = x)) (hsc : scalV x = some u0) (hf : frzOks hp xs)
    (hn : noIds (frzL hp xs)) (hK : K x hp) : acallH P hp g xs K := acallH_of_Q (acallQ_of c hsc hf hn) hK

/-- A value that names the callee's blocks, in the caller's names. -/
def renm (m : List Nat) (n k : Nat) : Nat := match m[k]? with | some j => j | none => k - m.length + n

def putAll (f : Nat → Nat) : List ABlk → List Nat → List ABlk → List ABlk
  | hp, i :: m, x :: r => putAll f (hp.set i (renB f x)) m r
  | hp, _, _ => hp

def renBs (f : Nat → Nat) (l : List ABlk) : List ABlk := l.map (renB f)

theorem putAll_length {f : Nat → Nat} : ∀ {m : List Nat} {hp : List ABlk} {r : List ABlk}, (putAll f hp m r).length = hp.length
  | [], hp, r => by cases r <;> simp [putAll]
  | i :: m, hp, [] => by simp [putAll]
  | i :: m, hp, x :: r => by simp only [putAll]; rw [putAll_length]; simp

theorem putAll_get {f : Nat → Nat} : ∀ {m : List Nat} {hp : List ABlk} {r : List ABlk}, m.Nodup → m.length ≤ r.length → (∀ i, i ∈ m → i < hp.length) → ∀ (j : Nat) (y : ABlk), (putAll f hp m r)[j]? = some y →
    (j ∉ m ∧ hp[j]? = some y) ∨ ∃ (i : Nat) (x : ABlk), m[i]? = some j ∧ r[i]? = some x ∧ y = renB f x
  | [], hp, r, _, _, _, j, y, h => by
    have : putAll f hp [] r = hp := by cases r <;> simp [putAll]
    rw [this] at h
    exact .inl ⟨by simp, h⟩
  | i :: m, hp, [], _, hl, _, j, y, h => by simp at hl
  | i :: m, hp, x :: r, hnd, hl, hm, j, y, h => by
    simp only [putAll] at h
    have hnd' := List.nodup_cons.1 hnd
    rcases putAll_get hnd'.2 (by simpa using hl) (fun k hk => by simpa using hm k (List.mem_cons_of_mem _ hk)) j y h with ⟨h1, h2⟩ | ⟨k, z, h1, h2, h3⟩
    · rcases getElem?_set_cases h2 with ⟨e, e', _⟩ | ⟨hne, h3⟩
      · subst e; exact .inr ⟨0, x, by simp, by simp, e'⟩
      · exact .inl ⟨fun hh => (List.mem_cons.1 hh).elim (fun e => hne e) (fun e => h1 e), h3⟩
    · exact .inr ⟨k + 1, z, by simpa using h1, by simpa using h2, h3⟩

/-- A call that is handed blocks of the caller's own, and may hand back new ones. -/
theorem acallH_ptr {g : FuncId} (m : List Nat) {chp : List ABlk} {cargs : List AV} {R : AV → List ABlk → Prop} {K : AV → List ABlk → Prop} (c : acall P chp g cargs R)
    (hcl : chp.length = m.length) (hnd : m.Nodup) (hm : ∀ i, i ∈ m → i < hp.length) (hargs : inL m.length cargs) (hchp : hpLe (mAt m hp.length) m.length hp 0 chp)
    (hK : ∀ v hp', R v hp' → K (renV (renm m hp.length) v) (putAll (renm m hp.length) hp m hp' ++ renBs (renm m hp.length) (hp'.drop m.length))) :
    acallH P hp g (renL (mAt m hp.length) cargs) K := by
  refine ⟨c.1, fun E ρ w us hH hus => ?_⟩
  have hlen := hH.len
  have hmi : ∀ (i j x : Nat), m[i]? = some x → m[j]? = some x → i = j := by
    intro i j x hi hj
    obtain ⟨hi1, hi2⟩ := List.getElem?_eq_some_iff.1 hi
    obtain ⟨hj1, hj2⟩ := List.getElem?_eq_some_iff.1 hj
    have hpw := List.pairwise_iff_getElem.1 hnd
    rcases Nat.lt_trichotomy i j with hlt | heq | hgt
    · exact absurd (hi2.trans hj2.symm) (hpw i j hi1 hj1 hlt)
    · exact heq
    · exact absurd (hj2.trans hi2.symm) (hpw j i hj1 hi1 hgt)
  let ρc : List (Option (Nat × Nat)) := m.map fun i => (ρ[i]?).getD none
  have hρc : ∀ (k : Nat) (p : Option (Nat × Nat)), ρc[k]? = some p ↔ ∃ x, m[k]? = some x ∧ ρ[x]? = some p := by
    intro k p
    simp only [ρc, List.getElem?_map, Option.map_eq_some_iff]
    constructor
    · rintro ⟨x, hx, e⟩
      have hxl : x < ρ.length := by rw [hlen]; exact hm x (List.mem_of_getElem? hx)
      rw [List.getElem?_eq_getElem hxl] at e
      exact ⟨x, hx, by rw [List.getElem?_eq_getElem hxl]; simpa using e⟩
    · rintro ⟨x, hx, e⟩
      exact ⟨x, hx, by rw [e]; rfl⟩
  have hdown : ∀ (k : Nat) (p : Option (Nat × Nat)), k < m.length → ρ[mAt m hp.length k]? = some p → ρc[k]? = some p := by
    intro k p hk hp'
    have : mAt m hp.length k = m[k] := by simp [mAt, List.getElem?_eq_getElem hk]
    rw [this] at hp'
    exact (hρc k p).2 ⟨m[k], List.getElem?_eq_getElem hk, hp'⟩
  have hblk : ∀ (j : Nat) (x : ABlk) (p : Option (Nat × Nat)), chp[j]? = some x → x ≠ .dead → ρc[j]? = some p → ∃ i, m[j]? = some i ∧ hp[i]? = some (renB (mAt m hp.length) x) ∧ inB m.length x ∧ ρ[i]? = some p := by
    intro j x p hx hd hpj
    rcases hpLe_get hchp j x hx with e | ⟨h1, h2⟩
    · exact absurd e hd
    · rw [Nat.zero_add] at h1
      obtain ⟨i, hi, hip⟩ := (hρc j p).1 hpj
      have : mAt m hp.length j = i := by simp [mAt, hi]
      rw [this] at h1
      exact ⟨i, hi, h1, h2, hip⟩
  have hlivec : ∀ b, Live ρc chp b → Live ρ hp b := by
    intro b ⟨k, x, q, hx, hd, hk⟩
    obtain ⟨i, _, h1, _, h2⟩ := hblk k x _ hx hd hk
    exact ⟨i, _, q, h1, renB_dead hd, h2⟩
  let E' : Ent := { w0 := w, L0 := fun b => Live ρc chp b, S0 := fun b => okB E ρ hp w b, ρ0 := ρc, hS := fun b h => ⟨h.2.1, fun hl => h.2.2 (hlivec b hl)⟩, hL := fun b ⟨k, _, q, _, _, hk⟩ => ⟨k, q, hk⟩, hT := hH.tabsAt, hTL := fun p hp' hl => hH.tabLive hp' (hlivec _ hl) }
  have hokc : ∀ b, okB E ρ hp w b → okB E' ρc chp w b ∧ w.heap[b]? = w.heap[b]? := fun b hb => ⟨⟨.inl hb, hb.2.1, fun hl => hb.2.2 (hlivec b hl)⟩, rfl⟩
  have hE : RepH E' ρc chp w := by
    refine ⟨by simp [ρc, hcl], fun k x b q hx hk hd => ?_, fun k x hx hk => ?_, fun k k' x x' b q q' hx hx' hd hd' hk hk' => ?_, Fr.refl _ _⟩
    · obtain ⟨i, _, h1, h2, h3⟩ := hblk k x _ hx hd hk
      obtain ⟨q1, o, q2, q3⟩ := hH.obj i _ b q h1 h3 (renB_dead hd)
      exact ⟨.inl ⟨k, x, q, hx, hd, hk⟩, o, q2, obj_down hdown hokc q3 h2⟩
    · by_cases hd : x = .dead
      · exact .inl hd
      · obtain ⟨i, _, h1, h2, h3⟩ := hblk k x _ hx hd hk
        rcases hH.nil i _ h1 h3 with e | ⟨sz, e⟩
        · exact absurd e (renB_dead hd)
        · right
          cases x with
          | cells cs => simp [renB] at e
          | rows sz' rs => simp [renB] at e; exact ⟨sz', by rw [e.2]⟩
          | full sz' rs => simp [renB] at e
          | bytes l => simp [renB] at e
          | map es => simp [renB] at e
          | iter k a b c => simp [renB] at e
          | dead => simp [renB] at e
    · obtain ⟨i, a1, h1, _, h3⟩ := hblk k x _ hx hd hk
      obtain ⟨i', a1', h1', _, h3'⟩ := hblk k' x' _ hx' hd' hk'
      have := hH.inj i i' _ _ b q q' h1 h1' (renB_dead hd) (renB_dead hd') h3 h3'
      subst this
      exact hmi k k' i a1 a1'
  have hav : RepVs ρc (okB E' ρc chp w) w cargs us := by
    refine ⟨by rw [hus.1, renL_length], fun j x u hx hu => ?_⟩
    exact ren_down hdown hokc (hus.2 j (renV (mAt m hp.length) x) u (by rw [renL_get, hx]; rfl) hu) x rfl (inL_get hargs hx)
  refine (c.2 E' w us rfl hE hav).mono fun e w' hh => ?_
  obtain ⟨u, v, hp', ρ', h1, h2, h3, h4, h5⟩ := hh
  -- the caller's names behind the call
  have hl3 := h3.len
  have hml : m.length ≤ ρ'.length := by
    rcases Nat.eq_zero_or_pos m.length with h0 | h0
    · omega
    · have hlast : m.length - 1 < ρc.length := by simp [ρc]; omega
      have := (List.getElem?_eq_some_iff.1 (h4 (m.length - 1) _ (List.getElem?_eq_getElem hlast))).1
      omega
  let ρ2 : List (Option (Nat × Nat)) := ρ ++ ρ'.drop m.length
  have hup1 : ∀ (k : Nat) (p : Option (Nat × Nat)), ρ[k]? = some p → ρ2[k]? = some p := fun k p hk => by
    have := (List.getElem?_eq_some_iff.1 hk).1
    simp only [ρ2]; rw [List.getElem?_append_left this]; exact hk
  have hren : ∀ (k : Nat) (p : Option (Nat × Nat)), ρ'[k]? = some p → ρ2[renm m hp.length k]? = some p := by
    intro k p hk
    by_cases hkm : k < m.length
    · have hmk : m[k]? = some m[k] := List.getElem?_eq_getElem hkm
      have : renm m hp.length k = m[k] := by simp [renm, hmk]
      rw [this]
      refine hup1 _ _ ?_
      have hml' : m[k] < ρ.length := by rw [hlen]; exact hm _ (List.getElem_mem hkm)
      have hρk : ρc[k]? = some ρ[m[k]] := (hρc k _).2 ⟨m[k], hmk, List.getElem?_eq_getElem hml'⟩
      have := h4 k _ hρk
      rw [this] at hk
      injection hk with hk
      rw [← hk]; exact List.getElem?_eq_getElem hml'
    · have hmk : m[k]? = none := List.getElem?_eq_none (by omega)
      have : renm m hp.length k = k - m.length + hp.length := by simp [renm, hmk]
      rw [this]
      simp only [ρ2]
      rw [List.getElem?_append_right (by omega), List.getElem?_drop]
      rw [show m.length + (k - m.length + hp.length - ρ.length) = k from by omega]
      exact hk
  -- who is live behind the call
  have back : ∀ (j : Nat) (y : ABlk) (p : Option (Nat × Nat)), (putAll (renm m hp.length) hp m hp' ++ renBs (renm m hp.length) (hp'.drop m.length))[j]? = some y → y ≠ .dead → ρ2[j]? = some p →
      (j ∉ m ∧ hp[j]? = some y ∧ ρ[j]? = some p) ∨ ∃ (i : Nat) (x : ABlk), renm m hp.length i = j ∧ hp'[i]? = some x ∧ x ≠ .dead ∧ y = renB (renm m hp.length) x ∧ ρ'[i]? = some p := by
    intro j y p hy hd hj
    by_cases hjl : j < hp.length
    · rw [List.getElem?_append_left (by rw [putAll_length]; exact hjl)] at hy
      have hj' : ρ[j]? = some p := by
        have : j < ρ.length := by omega
        simp only [ρ2] at hj
        rwa [List.getElem?_append_left this] at hj
      rcases putAll_get hnd (by rw [← hl3]; exact hml) hm j y hy with ⟨a1, a2⟩ | ⟨i, x, a1, a2, a3⟩
      · exact .inl ⟨a1, a2, hj'⟩
      · refine .inr ⟨i, x, by simp [renm, a1], a2, fun e => by subst e; subst a3; exact hd rfl, a3, ?_⟩
        exact h4 i p ((hρc i p).2 ⟨j, a1, hj'⟩)
    · rw [List.getElem?_append_right (by rw [putAll_length]; omega), putAll_length] at hy
      simp only [renBs, List.getElem?_map] at hy
      obtain ⟨x, hx, rfl⟩ := Option.map_eq_some_iff.1 hy
      rw [List.getElem?_drop] at hx
      simp only [ρ2] at hj
      rw [List.getElem?_append_right (by omega), List.getElem?_drop] at hj
      refine .inr ⟨m.length + (j - hp.length), x, ?_, hx, fun e => by subst e; exact hd rfl, rfl, by rw [← hlen] at *; exact hj⟩
      have : m[m.length + (j - hp.length)]? = none := List.getElem?_eq_none (by omega)
      simp only [renm, this]
      omega
  have hlive2 : ∀ b, Live ρ2 (putAll (renm m hp.length) hp m hp' ++ renBs (renm m hp.length) (hp'.drop m.length)) b → Live ρ hp b ∨ Live ρ' hp' b := by
    intro b ⟨j, y, q, hy, hd, hj⟩
    rcases back j y _ hy hd hj with ⟨_, a2, a3⟩ | ⟨i, x, _, a2, a3, _, a5⟩
    · exact .inl ⟨j, y, q, a2, hd, a3⟩
    · exact .inr ⟨i, x, q, a2, a3, a5⟩
  -- what the callee's blocks are
  have hcb : ∀ b, Live ρ' hp' b → (Live ρc chp b ∨ w.heap.size ≤ b) := by
    intro b ⟨i, x, q, hx, hd, hi⟩
    exact (h3.obj i x b q hx hi hd).1
  have hsz0 := hH.fr.size
  have hokE : ∀ b, okB E' ρ' hp' w' b → okB E ρ2 (putAll (renm m hp.length) hp m hp' ++ renBs (renm m hp.length) (hp'.drop m.length)) w' b ∧ w'.heap[b]? = w'.heap[b]? := by
    intro b ⟨b1, b2, b3⟩
    refine ⟨⟨?_, b2, fun hl => ?_⟩, rfl⟩
    · rcases b1 with b1 | b1
      · exact b1.1
      · exact .inr (Nat.le_trans hsz0 b1)
    · rcases hlive2 b hl with hl | hl
      · rcases b1 with b1 | b1
        · exact b1.2.2 hl
        · have := hH.live_lt hl
          have hb1 : w.heap.size ≤ b := b1
          omega
      · exact b3 hl
  have hokC : ∀ b, okB E ρ hp w b → okB E ρ2 (putAll (renm m hp.length) hp m hp' ++ renBs (renm m hp.length) (hp'.drop m.length)) w' b ∧ w'.heap[b]? = w.heap[b]? := by
    intro b ⟨b1, b2, b3⟩
    refine ⟨⟨b1, Nat.lt_of_lt_of_le b2 h3.fr.size, fun hl => ?_⟩, h3.fr.block b b2 (fun hl => b3 (hlivec b hl))⟩
    rcases hlive2 b hl with hl | hl
    · exact b3 hl
    · rcases hcb b hl with hl | hl
      · exact b3 (hlivec b hl)
      · omega
  have hstep : HStep E ρ hp w ρ2 (putAll (renm m hp.length) hp m hp' ++ renBs (renm m hp.length) (hp'.drop m.length)) w' := by
    refine ⟨⟨?_, fun j y b q hy hj hd => ?_, fun j y hy hj => ?_, fun j j' y y' b q q' hy hy' hd hd' hj hj' => ?_, ?_⟩, hup1, hokC⟩
    · simp [ρ2, putAll_length, renBs, hlen, hl3]
    · rcases back j y _ hy hd hj with ⟨a1, a2, a3⟩ | ⟨i, x, a1, a2, a3, a4, a5⟩
      · obtain ⟨q1, o, q2, q3⟩ := hH.obj j y b q a2 a3 hd
        have hbl : w'.heap[b]? = w.heap[b]? := h3.fr.block b (lt_of_heap q2) (fun hl => by
          obtain ⟨k, x, q', hx, hxd, hk⟩ := hl
          obtain ⟨i, hi, c1, _, c2⟩ := hblk k x _ hx hxd hk
          have := hH.inj j i y _ b q q' a2 c1 hd (renB_dead hxd) a3 c2
          subst this
          exact a1 (List.mem_of_getElem? hi))
        exact ⟨q1, o, hbl.trans q2, q3.mono hup1 hokC⟩
      · subst a4
        obtain ⟨q1, o, q2, q3⟩ := h3.obj i x b q a2 a5 a3
        refine ⟨?_, o, q2, obj_up hren hokE q3⟩
        rcases q1 with ⟨k, z, q', hz, hzd, hk⟩ | q1
        · obtain ⟨i', _, c1, _, c2⟩ := hblk k z _ hz hzd hk
          exact (hH.obj i' _ b q' c1 c2 (renB_dead hzd)).1
        · exact .inr (Nat.le_trans hsz0 q1)
    · by_cases hd : y = .dead
      · exact .inl hd
      · rcases back j y _ hy hd hj with ⟨a1, a2, a3⟩ | ⟨i, x, a1, a2, a3, a4, a5⟩
        · exact hH.nil j y a2 a3
        · subst a4
          rcases h3.nil i x a2 a5 with e | ⟨sz, e⟩
          · exact absurd e a3
          · subst e; exact .inr ⟨sz, rfl⟩
    · have cross : ∀ (j i : Nat) (y x : ABlk) (q q' : Nat), j ∉ m → hp[j]? = some y → y ≠ .dead → ρ[j]? = some (some (b, q)) → hp'[i]? = some x → x ≠ .dead → ρ'[i]? = some (some (b, q')) → False := by
        intro j i y x q q' a1 a2 hyd a3 b2 b3 b5
        rcases hcb b ⟨i, x, q', b2, b3, b5⟩ with ⟨k, z, q'', hz, hzd, hk⟩ | hge
        · obtain ⟨i', hi', c1, _, c2⟩ := hblk k z _ hz hzd hk
          have := hH.inj j i' y _ b q q'' a2 c1 hyd (renB_dead hzd) a3 c2
          subst this
          exact a1 (List.mem_of_getElem? hi')
        · have := hH.live_lt ⟨j, y, q, a2, hyd, a3⟩
          omega
      rcases back j y _ hy hd hj with ⟨a1, a2, a3⟩ | ⟨i, x, a1, a2, a3, a4, a5⟩
      · rcases back j' y' _ hy' hd' hj' with ⟨b1, b2, b3⟩ | ⟨i', x', b1, b2, b3, b4, b5⟩
        · exact hH.inj j j' y y' b q q' a2 b2 hd hd' a3 b3
        · exact (cross j i' y x' q q' a1 a2 hd a3 b2 b3 b5).elim
      · rcases back j' y' _ hy' hd' hj' with ⟨b1, b2, b3⟩ | ⟨i', x', b1, b2, b3, b4, b5⟩
        · exact (cross j' i y' x q' q b1 b2 hd' b3 a2 a3 a5).elim
        · have := h3.inj i i' x x' b q q' a2 b2 a3 b3 a5 b5
          subst this
          rw [← a1, ← b1]
    · refine ⟨h3.fr.os.trans hH.fr.os, h3.fr.tape.trans hH.fr.tape, h3.fr.output.trans hH.fr.output, Nat.le_trans hsz0 h3.fr.size, fun b hb hL => ?_⟩
      have : w'.heap[b]? = w.heap[b]? := h3.fr.block b (Nat.lt_of_lt_of_le hb hsz0) (fun hl => by
        obtain ⟨k, q, x, hx, hd, hk⟩ := hlivec b hl
        rcases (hH.obj k q b x hx hk hd).1 with c1 | c1
        · exact hL c1
        · omega)
      exact this.trans (hH.fr.block b hb hL)
  exact ⟨u, _, _, ρ2, h1, hK v hp' h2, hstep, ren_up hren hokE h5⟩

/-- A call that is handed data alone. -/
theorem acallH_data {g : FuncId} {xs : List AV} {R : AV → List ABlk → Prop} {K : AV → List ABlk → Prop} (c : acall P [] g xs R) (hargs : inL 0 xs) (hid : renL (mAt [] hp.length) xs = xs)
    (hK : ∀ v hp', R v hp' → K (renV (renm [] hp.length) v) (hp ++ renBs (renm [] hp.length) hp')) : acallH P hp g xs K := by
  have := acallH_ptr (hp := hp) [] (chp := []) (cargs := xs) (R := R) (K := K) c rfl List.nodup_nil (by simp) hargs (by simp [hpLe]) (fun v hp' h => by
    have := hK v hp' h
    have e : putAll (renm [] hp.length) hp [] hp' = hp := by cases hp' <;> simp [putAll]
    rw [e]
    simpa using this)
  rwa [hid] at this

/-- A contract may be weakened. -/
theorem acall.mono {g : FuncId} {xs : List AV} {R R' : AV → List ABlk → Prop} (c : acall P hp g xs R) (h : ∀ v hp', R v hp' → R' v hp') : acall P hp g xs R' :=
  ⟨c.1, fun E w us h1 h2 h3 => (c.2 E w us h1 h2 h3).mono fun _ _ ⟨u, v, hp', ρ', q1, q2, q3⟩ => ⟨u, v, hp', ρ', q1, h v hp' q2, q3⟩⟩
end
end Go.Proofs.YtfnilhdofopoeabDoor
