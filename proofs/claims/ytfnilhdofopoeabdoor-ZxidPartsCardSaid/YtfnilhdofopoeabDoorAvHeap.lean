/- What becomes of the call's own blocks: a new one, one written, one given up. It holds over any program; no condition. -/
import Derived.Test.YtfnilhdofopoeabDoorAvPure5
namespace Go.Proofs.YtfnilhdofopoeabDoor
set_option linter.unusedVariables false
set_option linter.unusedSimpArgs false
open Go Go.RowKit

/-- A step of memory: what is known of values stays true. -/
structure HStep (E : Ent) (ρ : List (Option (Nat × Nat))) (hp : List ABlk) (w : World) (ρ' : List (Option (Nat × Nat))) (hp' : List ABlk) (w' : World) : Prop where
  heap : RepH E ρ' hp' w'
  up : ∀ (k : Nat) (p : Option (Nat × Nat)), ρ[k]? = some p → ρ'[k]? = some p
  ok : ∀ b, okB E ρ hp w b → okB E ρ' hp' w' b ∧ w'.heap[b]? = w.heap[b]?

section
variable {E : Ent} {ρ ρ' ρ2 : List (Option (Nat × Nat))} {hp hp' hp2 : List ABlk} {w w' w2 : World}

theorem HStep.trans (h : HStep E ρ hp w ρ' hp' w') (h2 : HStep E ρ' hp' w' ρ2 hp2 w2) : HStep E ρ hp w ρ2 hp2 w2 :=
  ⟨h2.heap, fun k p hk => h2.up k p (h.up k p hk), fun b hb => ⟨(h2.ok b (h.ok b hb).1).1, (h2.ok b (h.ok b hb).1).2.trans (h.ok b hb).2⟩⟩

theorem HStep.below (h : RepH E ρ hp w) (hb : Below w.heap.size w w') : HStep E ρ hp w ρ hp w' := ⟨h.below hb, fun _ _ hk => hk, okB_below hb⟩

theorem Rep.step {s : ASt} {a : Act} (h : Rep E s ρ a w) (hs : HStep E ρ s.hp w ρ' hp' w') : Rep E { s with hp := hp' } ρ' a w' :=
  ⟨h.np, h.nodef, h.nt, fun t => (h.env t).mono hs.up hs.ok, hs.heap, fun k p hk => hs.up k p (h.pre k p hk)⟩

theorem RepV.step {x : AV} {u : Value} (h : RepV ρ (okB E ρ hp w) w x u) (hs : HStep E ρ hp w ρ' hp' w') : RepV ρ' (okB E ρ' hp' w') w' x u := h.mono hs.up hs.ok

theorem RepH.blks (h : RepH E ρ hp w) : Blks ρ (okB E ρ hp w) w hp := by
  refine ⟨fun k x b m hx hk hd => ?_, fun k sz rs hx hk => ?_⟩
  · obtain ⟨_, us, ty, fz, h1, h2, _, h4⟩ := h.blk k x b m hx hk hd
    exact ⟨us, ty, fz, h1, h2, h4⟩
  · rcases h.nil k _ hx hk with e | ⟨sz', e⟩ <;> cases e

theorem get_append_lt {α : Type} {l : List α} {x : α} {k : Nat} {y : α} (h : (l ++ [x])[k]? = some y) : (k < l.length ∧ l[k]? = some y) ∨ (k = l.length ∧ y = x) := by
  rcases Nat.lt_trichotomy k l.length with hk | hk | hk
  · rw [List.getElem?_append_left hk] at h; exact .inl ⟨hk, h⟩
  · subst hk; simp at h; exact .inr ⟨rfl, h.symm⟩
  · rw [List.getElem?_append_right (by omega)] at h
    have : k - l.length ≠ 0 := by omega
    cases e : k - l.length with
    | zero => exact absurd e this
    | succ n => rw [e] at h; simp at h

theorem get_append_old {α : Type} {l : List α} {x : α} {k : Nat} {y : α} (h : l[k]? = some y) : (l ++ [x])[k]? = some y := by
  have := (List.getElem?_eq_some_iff.1 h).1
  rw [List.getElem?_append_left this]; exact h

def pushB (w : World) (o : Obj) : World := { w with heap := w.heap.push o }
def setB (w : World) (b : Nat) (o : Obj) : World := { w with heap := w.heap.setIfInBounds b o }

theorem pushB_new (w : World) (o : Obj) : (pushB w o).heap[w.heap.size]? = some o := Array.getElem?_push_size
theorem pushB_old (w : World) (o : Obj) {b : Nat} (h : b < w.heap.size) : (pushB w o).heap[b]? = w.heap[b]? := by
  simp only [pushB]; rw [Array.getElem?_push_lt h, Array.getElem?_eq_getElem h]
theorem pushB_size (w : World) (o : Obj) : (pushB w o).heap.size = w.heap.size + 1 := by simp [pushB]
theorem pushB_below (w : World) (o : Obj) : Below w.heap.size w (pushB w o) := ⟨rfl, rfl, rfl, by simp [pushB], fun _ h => pushB_old w o h⟩

theorem live_snoc {x : ABlk} {p : Option (Nat × Nat)} (hl : ρ.length = hp.length) {b : Nat} (h : Live (ρ ++ [p]) (hp ++ [x]) b) : Live ρ hp b ∨ ∃ m, p = some (b, m) ∧ x ≠ .dead := by
  obtain ⟨k, y, m, hy, hd, hk⟩ := h
  rcases get_append_lt hy with ⟨h1, h2⟩ | ⟨h1, h2⟩
  · rcases get_append_lt hk with ⟨_, h4⟩ | ⟨h3, _⟩
    · exact .inl ⟨k, y, m, h2, hd, h4⟩
    · omega
  · rcases get_append_lt hk with ⟨h3, _⟩ | ⟨_, h4⟩
    · omega
    · exact .inr ⟨m, h4.symm, h2 ▸ hd⟩

theorem live_snoc_old {x : ABlk} {p : Option (Nat × Nat)} {b : Nat} (h : Live ρ hp b) : Live (ρ ++ [p]) (hp ++ [x]) b := by
  obtain ⟨k, y, m, hy, hd, hk⟩ := h
  exact ⟨k, y, m, get_append_old hy, hd, get_append_old hk⟩

/-- A new block. -/
theorem HStep.pushO (h : RepH E ρ hp w) (o : Obj) (m0 : Nat) (x : ABlk) (hb : RepObj ρ (okB E ρ hp w) w m0 o x) :
    HStep E ρ hp w (ρ ++ [some (w.heap.size, m0)]) (hp ++ [x]) (pushB w o) := by
  have hup : ∀ (k : Nat) (p : Option (Nat × Nat)), ρ[k]? = some p → (ρ ++ [some (w.heap.size, m0)])[k]? = some p := fun k p hk => get_append_old hk
  have hok : ∀ b, okB E ρ hp w b → okB E (ρ ++ [some (w.heap.size, m0)]) (hp ++ [x]) (pushB w o) b ∧ (pushB w o).heap[b]? = w.heap[b]? := by
    intro b ⟨h1, h2, h3⟩
    refine ⟨⟨h1, by rw [pushB_size]; omega, fun hl => ?_⟩, pushB_old _ _ h2⟩
    rcases live_snoc h.len hl with hl | ⟨m, hm, _⟩
    · exact h3 hl
    · injection hm with hm; injection hm with hm; omega
  have hsz : E.w0.heap.size ≤ w.heap.size := h.fr.size
  refine ⟨⟨by simp [h.len], fun k y b m hy hk hd => ?_, fun k y hy hk => ?_, fun k k' y y' b m m' hy hy' hd hd' hk hk' => ?_, h.fr.of_below (pushB_below _ _)⟩, hup, hok⟩
  · rcases get_append_lt hy with ⟨h1, h2⟩ | ⟨h1, h2⟩
    · rcases get_append_lt hk with ⟨_, h4⟩ | ⟨h3, _⟩
      · obtain ⟨q1, o', q2, q3⟩ := h.obj k y b m h2 h4 hd
        exact ⟨q1, o', (pushB_old _ _ (lt_of_heap q2)).trans q2, q3.mono hup hok⟩
      · have := h.len; omega
    · rcases get_append_lt hk with ⟨h3, _⟩ | ⟨_, h4⟩
      · have := h.len; omega
      · injection h4 with h4; injection h4 with h4 h5
        subst h4; subst h5; subst h2
        exact ⟨.inr hsz, _, pushB_new _ _, hb.mono hup hok⟩
  · rcases get_append_lt hy with ⟨h1, h2⟩ | ⟨h1, h2⟩
    · rcases get_append_lt hk with ⟨_, h4⟩ | ⟨h3, _⟩
      · exact h.nil k y h2 h4
      · have := h.len; omega
    · rcases get_append_lt hk with ⟨h3, _⟩ | ⟨_, h4⟩
      · have := h.len; omega
      · cases h4
  · have key : ∀ (k : Nat) (y : ABlk) (b m : Nat), (hp ++ [x])[k]? = some y → y ≠ ABlk.dead → (ρ ++ [some (w.heap.size, m0)])[k]? = some (some (b, m)) → (b < w.heap.size ∧ hp[k]? = some y ∧ ρ[k]? = some (some (b, m))) ∨ (b = w.heap.size ∧ k = hp.length) := by
      intro k y b m hy hd hk
      rcases get_append_lt hy with ⟨h1, h2⟩ | ⟨h1, h2⟩
      · rcases get_append_lt hk with ⟨_, h4⟩ | ⟨h3, _⟩
        · obtain ⟨_, o', q2, _⟩ := h.obj k y b m h2 h4 hd
          exact .inl ⟨lt_of_heap q2, h2, h4⟩
        · have := h.len; omega
      · rcases get_append_lt hk with ⟨h3, _⟩ | ⟨_, h4⟩
        · have := h.len; omega
        · injection h4 with h4; injection h4 with h4 h5
          exact .inr ⟨h4, h1⟩
    rcases key k y b m hy hd hk with ⟨a1, a2, a3⟩ | ⟨a1, a2⟩
    · rcases key k' y' b m' hy' hd' hk' with ⟨b1, b2, b3⟩ | ⟨b1, b2⟩
      · exact h.inj k k' y y' b m m' a2 b2 hd hd' a3 b3
      · omega
    · rcases key k' y' b m' hy' hd' hk' with ⟨b1, b2, b3⟩ | ⟨b1, b2⟩
      · omega
      · omega

theorem HStep.push (h : RepH E ρ hp w) (us : Array Value) (ty : TypeId) (fz : Nat × Nat) (x : ABlk) (hfz : noFz us fz) (hpl : plain x us fz) (hb : RepBlk ρ (okB E ρ hp w) w us x) (hm : x.isObj = false := by rfl) :
    HStep E ρ hp w (ρ ++ [some (w.heap.size, us.size)]) (hp ++ [x]) (pushB w (.cells us ty fz)) :=
  HStep.pushO h _ _ x ((RepObj.cells hm).2 ⟨us, ty, fz, rfl, rfl, ⟨hfz, hpl⟩, hb⟩)

/-- A row of no elements that has no block. -/
theorem HStep.nilRow (h : RepH E ρ hp w) (sz : Nat) : HStep E ρ hp w (ρ ++ [none]) (hp ++ [.rows sz []]) w := by
  have hup : ∀ (k : Nat) (p : Option (Nat × Nat)), ρ[k]? = some p → (ρ ++ [none])[k]? = some p := fun k p hk => get_append_old hk
  have hok : ∀ b, okB E ρ hp w b → okB E (ρ ++ [none]) (hp ++ [.rows sz []]) w b ∧ w.heap[b]? = w.heap[b]? := by
    intro b ⟨h1, h2, h3⟩
    refine ⟨⟨h1, h2, fun hl => ?_⟩, rfl⟩
    rcases live_snoc h.len hl with hl | ⟨m, hm, _⟩
    · exact h3 hl
    · cases hm
  have key : ∀ (k : Nat) (y : ABlk) (p : Nat × Nat), (hp ++ [ABlk.rows sz []])[k]? = some y → (ρ ++ [none])[k]? = some (some p) → hp[k]? = some y ∧ ρ[k]? = some (some p) := by
    intro k y p hy hk
    rcases get_append_lt hk with ⟨_, h4⟩ | ⟨h3, h4⟩
    · rcases get_append_lt hy with ⟨h1, h2⟩ | ⟨h1, h2⟩
      · exact ⟨h2, h4⟩
      · have := (List.getElem?_eq_some_iff.1 h4).1
        have := h.len; omega
    · cases h4
  refine ⟨⟨by simp [h.len], fun k y b m hy hk hd => ?_, fun k y hy hk => ?_, fun k k' y y' b m m' hy hy' hd hd' hk hk' => ?_, h.fr⟩, hup, hok⟩
  · obtain ⟨k1, k2⟩ := key k y _ hy hk
    obtain ⟨q1, o, q2, q3⟩ := h.obj k y b m k1 k2 hd
    exact ⟨q1, o, q2, q3.mono hup hok⟩
  · rcases get_append_lt hy with ⟨h1, h2⟩ | ⟨h1, h2⟩
    · rcases get_append_lt hk with ⟨_, h4⟩ | ⟨h3, _⟩
      · exact h.nil k y h2 h4
      · have := h.len; omega
    · exact .inr ⟨sz, h2⟩
  · obtain ⟨k1, k2⟩ := key k y _ hy hk
    obtain ⟨k3, k4⟩ := key k' y' _ hy' hk'
    exact h.inj k k' y y' b m m' k1 k3 hd hd' k2 k4

theorem getElem?_set_cases {α : Type} {l : List α} {k j : Nat} {x y : α} (h : (l.set k x)[j]? = some y) : (j = k ∧ y = x ∧ k < l.length) ∨ (j ≠ k ∧ l[j]? = some y) := by
  rw [List.getElem?_set] at h
  by_cases e : k = j
  · subst e
    simp at h
    exact .inl ⟨rfl, h.2.symm, h.1⟩
  · rw [if_neg e] at h
    exact .inr ⟨fun e' => e e'.symm, h⟩

/-- A block is given up: it is written no more. -/
theorem HStep.kill (h : RepH E ρ hp w) (k : Nat) : HStep E ρ hp w ρ (hp.set k .dead) w := by
  have hlive : ∀ b, Live ρ (hp.set k .dead) b → Live ρ hp b := by
    intro b ⟨j, y, m, hy, hd, hk⟩
    rcases getElem?_set_cases hy with ⟨_, e, _⟩ | ⟨_, h2⟩
    · exact absurd e hd
    · exact ⟨j, y, m, h2, hd, hk⟩
  have hok : ∀ b, okB E ρ hp w b → okB E ρ (hp.set k .dead) w b ∧ w.heap[b]? = w.heap[b]? := fun b ⟨h1, h2, h3⟩ => ⟨⟨h1, h2, fun hl => h3 (hlive b hl)⟩, rfl⟩
  refine ⟨⟨by simp [h.len], fun j y b m hy hk hd => ?_, fun j y hy hk => ?_, fun j j' y y' b m m' hy hy' hd hd' hk hk' => ?_, h.fr⟩, fun _ _ hk => hk, hok⟩
  · rcases getElem?_set_cases hy with ⟨_, e, _⟩ | ⟨_, h2⟩
    · exact absurd e hd
    · obtain ⟨q1, o, q2, q3⟩ := h.obj j y b m h2 hk hd
      exact ⟨q1, o, q2, q3.mono (fun _ _ hh => hh) hok⟩
  · rcases getElem?_set_cases hy with ⟨_, e, _⟩ | ⟨_, h2⟩
    · exact .inl e
    · exact h.nil j y h2 hk
  · rcases getElem?_set_cases hy with ⟨_, e, _⟩ | ⟨_, h2⟩
    · exact absurd e hd
    · rcases getElem?_set_cases hy' with ⟨_, e, _⟩ | ⟨_, h2'⟩
      · exact absurd e hd'
      · exact h.inj j j' y y' b m m' h2 h2' hd hd' hk hk'

theorem setB_same (w : World) (o : Obj) {b : Nat} (h : b < w.heap.size) : (setB w b o).heap[b]? = some o := by simp [setB, h]
theorem setB_other (w : World) (o : Obj) {b c : Nat} (h : c ≠ b) : (setB w b o).heap[c]? = w.heap[c]? := by
  simp only [setB]; rw [Array.getElem?_setIfInBounds_ne (fun e => h e.symm)]
theorem setB_size (w : World) (b : Nat) (o : Obj) : (setB w b o).heap.size = w.heap.size := by simp [setB]

/-- A block of the call's own is written. -/
theorem HStep.setO (h : RepH E ρ hp w) {k b m : Nat} {x x' : ABlk} {o : Obj} (hx : hp[k]? = some x) (hd : x ≠ .dead) (hd' : x' ≠ .dead)
    (hk : ρ[k]? = some (some (b, m))) (hb : RepObj ρ (okB E ρ hp w) w m o x') :
    HStep E ρ hp w ρ (hp.set k x') (setB w b o) := by
  have hkl : k < hp.length := (List.getElem?_eq_some_iff.1 hx).1
  have hlb : Live ρ hp b := ⟨k, x, m, hx, hd, hk⟩
  have hlive : ∀ c, Live ρ (hp.set k x') c → Live ρ hp c := by
    intro c ⟨j, y, m', hy, hyd, hj⟩
    rcases getElem?_set_cases hy with ⟨e, _, _⟩ | ⟨_, h2⟩
    · subst e; rw [hk] at hj; injection hj with hj; injection hj with hj; injection hj with hj _; subst hj; exact hlb
    · exact ⟨j, y, m', h2, hyd, hj⟩
  have hok : ∀ c, okB E ρ hp w c → okB E ρ (hp.set k x') (setB w b o) c ∧ (setB w b o).heap[c]? = w.heap[c]? := by
    intro c ⟨h1, h2, h3⟩
    have hne : c ≠ b := fun e => h3 (e ▸ hlb)
    exact ⟨⟨h1, by rw [setB_size]; exact h2, fun hl => h3 (hlive c hl)⟩, setB_other _ _ hne⟩
  obtain ⟨p1, o0, p2, p3⟩ := h.obj k x b m hx hk hd
  refine ⟨⟨by simp [h.len], fun j y c m' hy hj hyd => ?_, fun j y hy hj => ?_, fun j j' y y' c m1 m2 hy hy' hyd hyd' hj hj' => ?_, ?_⟩, fun _ _ hh => hh, hok⟩
  · rcases getElem?_set_cases hy with ⟨e, e', _⟩ | ⟨hne, h2⟩
    · subst e; subst e'
      rw [hk] at hj; injection hj with hj; injection hj with hj; injection hj with hj1 hj2; subst hj1; subst hj2
      exact ⟨p1, o, setB_same _ _ (lt_of_heap p2), hb.mono (fun _ _ hh => hh) hok⟩
    · obtain ⟨q1, o2, q2, q3⟩ := h.obj j y c m' h2 hj hyd
      have hcb : c ≠ b := fun e => hne (h.inj j k y x c m' m h2 hx hyd hd hj (e ▸ hk))
      exact ⟨q1, o2, (setB_other _ _ hcb).trans q2, q3.mono (fun _ _ hh => hh) hok⟩
  · rcases getElem?_set_cases hy with ⟨e, e', _⟩ | ⟨_, h2⟩
    · subst e; rw [hk] at hj; cases hj
    · exact h.nil j y h2 hj
  · have key : ∀ (j : Nat) (y : ABlk), (hp.set k x')[j]? = some y → y ≠ ABlk.dead → ∃ y0 : ABlk, hp[j]? = some y0 ∧ y0 ≠ ABlk.dead := by
      intro j y hy hyd
      rcases getElem?_set_cases hy with ⟨e, _, _⟩ | ⟨_, h2⟩
      · subst e; exact ⟨x, hx, hd⟩
      · exact ⟨y, h2, hyd⟩
    obtain ⟨z, z1, z2⟩ := key j y hy hyd
    obtain ⟨z', z1', z2'⟩ := key j' y' hy' hyd'
    exact h.inj j j' z z' c m1 m2 z1 z1' z2 z2' hj hj'
  · refine ⟨h.fr.os, h.fr.tape, h.fr.output, by rw [setB_size]; exact h.fr.size, fun c hc hL => ?_⟩
    have hne : c ≠ b := by
      intro e; subst e
      rcases p1 with p1 | p1
      · exact hL p1
      · omega
    rw [setB_other _ _ hne]
    exact h.fr.block c hc hL

theorem HStep.set (h : RepH E ρ hp w) {k b m : Nat} {x x' : ABlk} {us us' : Array Value} {ty : TypeId} {fz : Nat × Nat} (hx : hp[k]? = some x) (hd : x ≠ .dead) (hd' : x' ≠ .dead)
    (hk : ρ[k]? = some (some (b, m))) (hw : w.heap[b]? = some (.cells us ty fz)) (hsz : us'.size = us.size) (hbb : ∀ l, x = .bytes l → ∃ l', x' = .bytes l') (hb : RepBlk ρ (okB E ρ hp w) w us' x')
    (hm : x.isObj = false := by rfl) (hm' : x'.isObj = false := by rfl) : HStep E ρ hp w ρ (hp.set k x') (setB w b (.cells us' ty fz)) := by
  obtain ⟨p1, us0, ty0, fz0, p2, p3, p4, p5⟩ := h.blk k x b m hx hk ⟨hd, hm⟩
  rw [hw] at p2
  injection p2 with p2; injection p2 with e1 e2 e3
  subst e1; subst e2; subst e3
  exact HStep.setO h hx hd hd' hk ((RepObj.cells hm').2 ⟨us', ty, fz, rfl, hsz.trans p3, ⟨fun q hq => p4.1 q (hsz ▸ hq), p4.2.elim (fun ⟨l, hl⟩ => .inl (hbb l hl)) (fun h => .inr (by rw [hsz]; exact h))⟩, hb⟩)
end
end Go.Proofs.YtfnilhdofopoeabDoor
