/- The model's operations that read memory or reckon addresses do what the abstract ones say. It holds over any program whose types read as the table says. -/
import Derived.Test.YtfnilhdofopoeabDoorAvPure2
namespace Go.Proofs.YtfnilhdofopoeabDoor
set_option linter.unusedVariables false
set_option linter.unusedSimpArgs false
open Go Go.RowKit

section
variable {P : Program} {ρ : List (Option (Nat × Nat))} {ok : Nat → Prop} {w : World}

theorem load_seg (w' : World) (b o : Nat) (us : List Value) (h : ∀ (j : Nat) (u : Value), us[j]? = some u → w'.cell? ⟨b, o + j, none⟩ = some u) :
    (loadCells ⟨b, o, none⟩ us.length).run P w' = .ok us.toArray w' :=
  run_loadCells_list (P := P) w' ⟨b, o, none⟩ us fun j v hj => by rw [Addr.add_lit]; exact h j v hj

theorem load_one (w' : World) (b o : Nat) (u : Value) (h : w'.cell? ⟨b, o, none⟩ = some u) : (load ⟨b, o, none⟩).run P w' = .ok u w' := by
  rw [run_load, h]

/-- A variable's value, its cells at hand. -/
theorem run_loadVar_seg {T : TypeId → TI} (hT : TabOk P T) (t : TypeId) (hk : (T t).kind ≠ .other) (w' : World) (b o : Nat) (us : List Value) (hl : us.length = (T t).size)
    (h1 : (T t).agg = false → (T t).size = 1) (h : ∀ (j : Nat) (u : Value), us[j]? = some u → w'.cell? ⟨b, o + j, none⟩ = some u) :
    (loadVar t ⟨b, o, none⟩).run P w' = .ok (if (T t).agg then .agg us.toArray else us.getD 0 undef) w' := by
  unfold loadVar
  cases e : (T t).agg with
  | true => simp [run_isAgg_tab hT hk, e, run_sizeOf_tab hT hk, ← hl, load_seg w' b o us h]
  | false =>
    have hs := h1 e
    have : ∃ u, us = [u] := by
      match us, (hl.trans hs : us.length = 1) with
      | [u], _ => exact ⟨u, rfl⟩
    obtain ⟨u, rfl⟩ := this
    have h0 := h 0 u rfl
    rw [Nat.add_zero] at h0
    simp [run_isAgg_tab hT hk, e, h0]

theorem cell_of_cells {w : World} {b o : Nat} {us : Array Value} {ty : TypeId} {fz : Nat × Nat} (h : w.heap[b]? = some (.cells us ty fz)) : w.cell? ⟨b, o, none⟩ = us[o]? := by
  simp [World.cell?, h]

theorem getElem?_seg {α : Type} (l : List α) (o n j : Nat) (x : α) (h : ((l.drop o).take n)[j]? = some x) : l[o + j]? = some x ∧ j < n := by
  rw [List.getElem?_take] at h
  split at h
  · rename_i hj
    rw [List.getElem?_drop] at h
    exact ⟨h, hj⟩
  · cases h

theorem length_seg {α : Type} (l : List α) (o n : Nat) (h : o + n ≤ l.length) : ((l.drop o).take n).length = n := by
  simp only [List.length_take, List.length_drop]; omega

theorem mem_seg {α : Type} {l : List α} {a n : Nat} {x : α} (h : x ∈ (l.drop a).take n) : x ∈ l := List.mem_of_mem_drop (List.mem_of_mem_take h)

theorem getD_of_lt {α : Type} (l : List α) (i : Nat) (x : α) (h : i < l.length) : l[i]? = some (l.getD i x) := by
  simp [List.getD_eq_getElem?_getD, List.getElem?_eq_getElem h]

/-- What the call's own blocks hold, as the pure operations ask it. -/
def Blks (ρ : List (Option (Nat × Nat))) (ok : Nat → Prop) (w : World) (hp : List ABlk) : Prop :=
  (∀ (k : Nat) (x : ABlk) (b m : Nat), hp[k]? = some x → ρ[k]? = some (some (b, m)) → x ≠ .dead ∧ x.isObj = false → ∃ us ty fz, w.heap[b]? = some (.cells us ty fz) ∧ us.size = m ∧ RepBlk ρ ok w us x) ∧ ∀ (k sz : Nat) (rs : List (List DV)), hp[k]? = some (.full sz rs) → ρ[k]? ≠ some none

theorem run_aload_ptr {T : TypeId → TI} (hT : TabOk P T) (hlt : ∀ b, ok b → b < w.heap.size) {hp : List ABlk} (hB : Blks ρ ok w hp) (t : TypeId) {k off b m : Nat} {cs : List AV} (hcs : hp[k]? = some (.cells cs)) (hk : ρ[k]? = some (some (b, m)))
    (h1 : off + (T t).size ≤ cs.length) (h2 : (T t).agg = false → (T t).size = 1) (h3 : ((T t).kind matches .other) = false) :
    ∃ u, RepV ρ ok w (if (T t).agg then .agg ((cs.drop off).take (T t).size) else cs.getD off .any) u ∧ ∀ w', Below w.heap.size w w' → (Instr.loadAt t (.pointer (some ⟨b, off, none⟩))).run P w' = .ok u w' := by
  obtain ⟨us, ty, fz, hw, hm, hone, hl, hr⟩ := hB.1 k _ b m hcs hk (by simp)
  have hko := isOther_false h3
  have hlen : ((us.toList.drop off).take (T t).size).length = (T t).size := length_seg _ _ _ (by simp [hl, h1])
  have hrun : ∀ w', Below w.heap.size w w' → (loadVar t ⟨b, off, none⟩).run P w' = .ok (if (T t).agg then .agg ((us.toList.drop off).take (T t).size).toArray else ((us.toList.drop off).take (T t).size).getD 0 undef) w' := fun w' hb =>
    run_loadVar_seg hT t hko w' b off _ hlen h2 fun j u hj => by
      have := (getElem?_seg _ _ _ _ _ hj).1
      rw [cell_of_same (hb.block b (lt_of_heap hw)), cell_of_cells hw]
      simpa using this
  refine ⟨_, ?_, fun w' hb => by simp only [Instr.loadAt, Instr.sureAddr, Sem.run_bind, Sem.run_pure, Result.andThen_ok]; exact hrun w' hb⟩
  cases e : (T t).agg with
  | true =>
    simp only [if_true]
    refine .agg _ _ (by rw [hlen, length_seg _ _ _ h1]) (fun u hu => hone u (mem_seg hu)) fun j c u hc hu => ?_
    have a1 := (getElem?_seg _ _ _ _ _ hc).1
    have a2 := (getElem?_seg _ _ _ _ _ hu).1
    exact hr _ _ _ a1 (by simpa using a2)
  | false =>
    have hs := h2 e
    have ho : off < us.size := by omega
    have e1 : ((us.toList.drop off).take (T t).size).getD 0 undef = us[off] := by
      rw [hs]; simp [List.getD_eq_getElem?_getD, List.getElem?_drop, ho]
    simp only [Bool.false_eq_true, if_false, e1]
    exact hr off _ _ (getD_of_lt _ _ _ (by omega)) (by simp [ho])

theorem run_aload {T : TypeId → TI} (hT : TabOk P T) (hlt : ∀ b, ok b → b < w.heap.size) {hp : List ABlk} (hB : Blks ρ ok w hp) (t : TypeId) (x : AV) (ux : Value) (hx : RepV ρ ok w x ux)
    (h : (aload (T t) hp x).ok) :
    ∃ u, RepV ρ ok w (aload (T t) hp x).v u ∧ ∀ w', Below w.heap.size w w' → (Instr.loadAt t ux).run P w' = .ok u w' := by
  revert h
  unfold aload
  split
  · -- a pointer into a block of cells
    rename_i k off
    split
    · rename_i cs hcs
      intro ⟨h1, h2, h3⟩
      cases hx with | ptr _ _ b m hk =>
      exact run_aload_ptr hT hlt hB t hcs hk h1 h2 h3
    · intro h; exact h.elim
  · -- a pointer into a row
    rename_i k sz i off
    split
    · rename_i sz' rs hcs
      intro ⟨h0, hi, h1, h2, h3⟩
      subst h0
      cases hx with | rp _ _ _ _ b m hk =>
      obtain ⟨us, ty, fz, hw, hm, hone, hsz, hl, hr⟩ := hB.1 k _ b m hcs hk (by simp)
      have hko := isOther_false h3
      have hrow := getD_of_lt rs i [] hi
      have hrl : (rs.getD i []).length = sz := hsz _ (List.mem_of_getElem? hrow)
      have hfit : i * sz + off + (T t).size ≤ us.size := by
        have : (i + 1) * sz ≤ rs.length * sz := Nat.mul_le_mul_right _ hi
        rw [Nat.add_mul] at this
        omega
      have hlen : ((us.toList.drop (i * sz + off)).take (T t).size).length = (T t).size := length_seg _ _ _ (by simpa using hfit)
      have hrun : ∀ w', Below w.heap.size w w' → (loadVar t ⟨b, i * sz + off, none⟩).run P w' = .ok (if (T t).agg then .agg ((us.toList.drop (i * sz + off)).take (T t).size).toArray else ((us.toList.drop (i * sz + off)).take (T t).size).getD 0 undef) w' := fun w' hb =>
        run_loadVar_seg hT t hko w' b (i * sz + off) _ hlen h2 fun j u hj => by
          have := (getElem?_seg _ _ _ _ _ hj).1
          rw [cell_of_same (hb.block b (lt_of_heap hw)), cell_of_cells hw]
          simpa using this
      refine ⟨_, ?_, fun w' hb => by simp only [Instr.loadAt, Instr.sureAddr, Sem.run_bind, Sem.run_pure, Result.andThen_ok]; exact hrun w' hb⟩
      cases e : (T t).agg with
      | true =>
        simp only [if_true]
        refine .agg _ _ (by rw [hlen, List.length_map, length_seg _ _ _ (by rw [hrl]; exact h1)]) (fun u hu => hone u (mem_seg hu)) fun j c u hc hu => ?_
        rw [List.getElem?_map] at hc
        obtain ⟨c', hc', rfl⟩ := Option.map_eq_some_iff.1 hc
        have a1 := (getElem?_seg _ _ _ _ _ hc').1
        have a2 := (getElem?_seg _ _ _ _ _ hu).1
        exact .d _ _ (hr i _ hrow (off + j) _ _ a1 (by simpa [Nat.add_assoc] using a2))
      | false =>
        have hs := h2 e
        have ho : i * sz + off < us.size := by omega
        have e1 : ((us.toList.drop (i * sz + off)).take (T t).size).getD 0 undef = us[i * sz + off] := by
          rw [hs]; simp [List.getD_eq_getElem?_getD, List.getElem?_drop, ho]
        simp only [Bool.false_eq_true, if_false, e1]
        exact .d _ _ (hr i _ hrow off _ _ (getD_of_lt _ _ _ (by omega)) (by simp [ho]))
    · rename_i l hcs
      generalize hrs : l.map u8row = rs at *
      intro ⟨h0, hi, h1, h2, h3⟩
      cases hx with | rp _ _ _ _ b m hk =>
      obtain ⟨us, ty, fz, hw, hm, hone, hsz, hl, hr⟩ := hB.1 k _ b m hcs hk (by simp)
      rw [hrs] at hsz hl hr; rw [← h0] at hsz hl hr
      have hko := isOther_false h3
      have hrow := getD_of_lt rs i [] hi
      have hrl : (rs.getD i []).length = sz := hsz _ (List.mem_of_getElem? hrow)
      have hfit : i * sz + off + (T t).size ≤ us.size := by
        have : (i + 1) * sz ≤ rs.length * sz := Nat.mul_le_mul_right _ hi
        rw [Nat.add_mul] at this
        omega
      have hlen : ((us.toList.drop (i * sz + off)).take (T t).size).length = (T t).size := length_seg _ _ _ (by simpa using hfit)
      have hrun : ∀ w', Below w.heap.size w w' → (loadVar t ⟨b, i * sz + off, none⟩).run P w' = .ok (if (T t).agg then .agg ((us.toList.drop (i * sz + off)).take (T t).size).toArray else ((us.toList.drop (i * sz + off)).take (T t).size).getD 0 undef) w' := fun w' hb =>
        run_loadVar_seg hT t hko w' b (i * sz + off) _ hlen h2 fun j u hj => by
          have := (getElem?_seg _ _ _ _ _ hj).1
          rw [cell_of_same (hb.block b (lt_of_heap hw)), cell_of_cells hw]
          simpa using this
      refine ⟨_, ?_, fun w' hb => by simp only [Instr.loadAt, Instr.sureAddr, Sem.run_bind, Sem.run_pure, Result.andThen_ok]; exact hrun w' hb⟩
      cases e : (T t).agg with
      | true =>
        simp only [if_true]
        refine .agg _ _ (by rw [hlen, List.length_map, length_seg _ _ _ (by rw [hrl]; exact h1)]) (fun u hu => hone u (mem_seg hu)) fun j c u hc hu => ?_
        rw [List.getElem?_map] at hc
        obtain ⟨c', hc', rfl⟩ := Option.map_eq_some_iff.1 hc
        have a1 := (getElem?_seg _ _ _ _ _ hc').1
        have a2 := (getElem?_seg _ _ _ _ _ hu).1
        exact .d _ _ (hr i _ hrow (off + j) _ _ a1 (by simpa [Nat.add_assoc] using a2))
      | false =>
        have hs := h2 e
        have ho : i * sz + off < us.size := by omega
        have e1 : ((us.toList.drop (i * sz + off)).take (T t).size).getD 0 undef = us[i * sz + off] := by
          rw [hs]; simp [List.getD_eq_getElem?_getD, List.getElem?_drop, ho]
        simp only [Bool.false_eq_true, if_false, e1]
        exact .d _ _ (hr i _ hrow off _ _ (getD_of_lt _ _ _ (by omega)) (by simp [ho]))
    · rename_i cs hcs
      intro ⟨h1, h2, h3⟩
      cases hx with | rp _ _ _ _ b m hk =>
      exact run_aload_ptr hT hlt hB t hcs hk h1 h2 h3
    · intro h; exact h.elim
  · rename_i row off
    intro ⟨h1, h2, h3⟩
    cases hx with | dp _ _ b o u hb hc hr =>
    have hko := isOther_false h3
    have hlen : (((List.range row.length).map u |>.drop off).take (T t).size).length = (T t).size := length_seg _ _ _ (by simpa using h1)
    have hcell : ∀ j v, (((List.range row.length).map u |>.drop off).take (T t).size)[j]? = some v → v = u (off + j) ∧ off + j < row.length := fun j v hj => by
      have := (getElem?_seg _ _ _ _ _ hj).1
      rw [List.getElem?_map] at this
      obtain ⟨q, hq, rfl⟩ := Option.map_eq_some_iff.1 this
      obtain ⟨hq1, hq2⟩ := List.getElem?_eq_some_iff.1 hq
      simp at hq1 hq2
      exact ⟨by rw [← hq2], hq1⟩
    have hrun : ∀ w', Below w.heap.size w w' → (loadVar t ⟨b, o + off, none⟩).run P w' = .ok (if (T t).agg then .agg (((List.range row.length).map u |>.drop off).take (T t).size).toArray else (((List.range row.length).map u |>.drop off).take (T t).size).getD 0 undef) w' := fun w' hbl =>
      run_loadVar_seg hT t hko w' b (o + off) _ hlen h2 fun j v hj => by
        obtain ⟨rfl, hjl⟩ := hcell j v hj
        rw [cell_of_same (hbl.block b (hlt b hb)), Nat.add_assoc]
        exact hc (off + j) _ (List.getElem?_eq_getElem hjl)
    refine ⟨_, ?_, fun w' hbl => by simp only [Instr.loadAt, Instr.sureAddr, Sem.run_bind, Sem.run_pure, Result.andThen_ok]; exact hrun w' hbl⟩
    cases e : (T t).agg with
    | true =>
      simp only [if_true]
      refine .agg _ _ (by rw [hlen, List.length_map, length_seg _ _ _ h1]) (fun v hv => ?_) fun j c v hcj hu => ?_
      · obtain ⟨j, hj⟩ := List.mem_iff_getElem?.1 hv
        obtain ⟨rfl, hjl⟩ := hcell j v hj
        exact (hr (off + j) _ (List.getElem?_eq_getElem hjl)).one
      rw [List.getElem?_map] at hcj
      obtain ⟨c', hc', rfl⟩ := Option.map_eq_some_iff.1 hcj
      have a1 := (getElem?_seg _ _ _ _ _ hc').1
      obtain ⟨rfl, _⟩ := hcell j v hu
      exact .d _ _ (hr _ _ a1)
    | false =>
      have hs := h2 e
      have ho : off < row.length := by omega
      have e1 : (((List.range row.length).map u |>.drop off).take (T t).size).getD 0 undef = u off := by
        rw [hs]; simp [List.getD_eq_getElem?_getD, List.getElem?_drop, ho]
      simp only [Bool.false_eq_true, if_false, e1]
      exact .d _ _ (hr off _ (getD_of_lt _ _ _ ho))
  · intro h; exact h.elim

theorem run_fieldPlace {b o : Nat} {f : Field} {i : TypeInfo} (hi : P.info? f.type = some i) (hs : i.size ≠ 0) (w' : World) :
    (fieldPlace ⟨b, o, none⟩ f).run P w' = .ok ⟨b, o + f.offset, none⟩ w' := by
  simp [fieldPlace, sizeOf, typeInfo, hi, hs, Addr.add_lit]

theorem run_afld {T : TypeId → TI} (hT : TabOk P T) (t : TypeId) (i : Nat) (x : AV) (ux : Value) (hx : RepV ρ ok w x ux) (h : (afld (T t) i x).ok) :
    ∃ u, RepV ρ ok w (afld (T t) i x).v u ∧ ∀ w', (Instr.fieldAt t ux i).run P w' = .ok u w' := by
  revert h
  unfold afld
  split
  · rename_i fs hk
    obtain ⟨fields, hu, hfs, hf⟩ := und_struct hT hk
    split
    · rename_i o s ft k off hi
      intro _
      obtain ⟨f, hf1, hf2, hf3, hs, j, hj1, hj2⟩ := hf i o s ft hi
      cases hx with | ptr _ _ b m hk =>
      exact ⟨_, .ptr k (off + o) b m hk, fun w' => by simp [Instr.fieldAt, run_underlying hu, hf1, Instr.sureAddr, run_fieldPlace (hf3 ▸ hj1) (hj2 ▸ hs), hf2]⟩
    · rename_i o s ft k sz j off hi
      intro _
      obtain ⟨f, hf1, hf2, hf3, hs, q, hj1, hj2⟩ := hf i o s ft hi
      cases hx with | rp _ _ _ _ b m hk =>
      exact ⟨_, .rp k sz j (off + o) b m hk, fun w' => by simp [Instr.fieldAt, run_underlying hu, hf1, Instr.sureAddr, run_fieldPlace (hf3 ▸ hj1) (hj2 ▸ hs), hf2, Nat.add_assoc]⟩
    · rename_i o s ft row off hi
      intro _
      obtain ⟨f, hf1, hf2, hf3, hs, j, hj1, hj2⟩ := hf i o s ft hi
      cases hx with | dp _ _ b o' u hb hc hr =>
      exact ⟨_, .dp row (off + o) b o' u hb hc hr, fun w' => by simp [Instr.fieldAt, run_underlying hu, hf1, Instr.sureAddr, run_fieldPlace (hf3 ▸ hj1) (hj2 ▸ hs), hf2, Nat.add_assoc]⟩
    · intro h; exact h.elim
  · intro h; exact h.elim

theorem run_part {T : TypeId → TI} (hT : TabOk P T) (t : TypeId) (hk : (T t).kind ≠ .other) (us : List Value) (o : Nat) (cs : List AV) (hl : us.length = cs.length) (hfit : o + (T t).size ≤ cs.length)
    (h1 : (T t).agg = false → (T t).size = 1) (hone : ∀ u, u ∈ us → u.oneCell' = true)
    (hr : ∀ (j : Nat) (c : AV) (u : Value), cs[j]? = some c → us[j]? = some u → RepV ρ ok w c u) :
    ∃ u, RepV ρ ok w (if (T t).agg then .agg ((cs.drop o).take (T t).size) else cs.getD o .any) u ∧ ∀ w', (part t us.toArray o).run P w' = .ok u w' := by
  cases e : (T t).agg with
  | true =>
    refine ⟨.agg ((us.drop o).take (T t).size).toArray, ?_, fun w' => ?_⟩
    · simp only [if_true]
      refine .agg _ _ (by rw [length_seg _ _ _ (by omega), length_seg _ _ _ (by omega)]) (fun u hu => hone u (mem_seg hu)) fun j c u hc hu => ?_
      exact hr _ _ _ (getElem?_seg _ _ _ _ _ hc).1 (getElem?_seg _ _ _ _ _ hu).1
    · simp [part, run_isAgg_tab hT hk, e, run_sizeOf_tab hT hk, List.extract_eq_take_drop]
  | false =>
    have hs := h1 e
    have ho : o < us.length := by omega
    refine ⟨us[o], ?_, fun w' => ?_⟩
    · simp only [Bool.false_eq_true, if_false]
      exact hr o _ _ (getD_of_lt _ _ _ (by omega)) (List.getElem?_eq_getElem ho)
    · simp [part, run_isAgg_tab hT hk, e, ho]

theorem run_apart {T : TypeId → TI} (hT : TabOk P T) (t : TypeId) (i : Nat) (x : AV) (ux : Value) (hx : RepV ρ ok w x ux) (h : (apart T (T t) i x).ok)
    (h1 : ∀ t, (T t).kind ≠ .other → (T t).agg = false → (T t).size = 1) :
    ∃ u, RepV ρ ok w (apart T (T t) i x).v u ∧ ∀ w', (Instr.field t ux i).run P w' = .ok u w' := by
  revert h
  unfold apart
  split
  · rename_i fs hk
    obtain ⟨fields, hu, hfs, hf⟩ := und_struct hT hk
    split
    · rename_i o s ft cs hi
      intro ⟨hfit, hko, hst⟩
      have hko := isOther_false hko
      obtain ⟨f, hf1, hf2, hf3, hs, j, hj1, hj2⟩ := hf i o s ft hi
      cases hx with | agg _ us hl hone hr =>
      subst hst
      obtain ⟨u, hu1, hu2⟩ := run_part hT ft hko us o cs hl hfit (h1 ft hko) hone hr
      exact ⟨u, hu1, fun w' => by simp [Instr.field, run_underlying hu, hf1, asAgg, hf2, hf3, hu2]⟩
    · intro h; exact h.elim
  · intro h; exact h.elim

theorem run_aidxAddr {T : TypeId → TI} (hT : TabOk P T) (t : TypeId) (x y : AV) (ux uy : Value) (hx : RepV ρ ok w x ux) (hy : RepV ρ ok w y uy) (h : (aidxAddr T (T t) x y).ok) :
    ∃ u, RepV ρ ok w (aidxAddr T (T t) x y).v u ∧ ∀ w', (Instr.indexAt t ux uy).run P w' = .ok u w' := by
  revert h
  unfold aidxAddr
  split
  · rename_i kk i
    cases hy with | d _ _ hy => cases hy with | int _ _ =>
    split
    · rename_i e sz rows hk
      intro ⟨h0, hi, hs, hko⟩
      have hko := isOther_false hko
      cases hx with | d _ _ hx => cases hx with | sl _ _ A cap u hcap hsz hc hr =>
      have hi' : i.toNat < rows.length := by omega
      obtain ⟨b, o, rfl, hb, hcell⟩ := hc (by omega)
      have hrow := getD_of_lt rows i.toNat (T e).zero hi'
      refine ⟨.pointer (some ⟨b, o + i.toNat * sz + 0, none⟩), .dp _ 0 b (o + i.toNat * sz) (u i.toNat) hb (fun j c hj => ?_) (fun j c hj => hr _ _ hrow j c hj), fun w' => ?_⟩
      · have := hcell _ _ hrow j c hj
        rwa [Nat.add_assoc]
      · simp [Instr.indexAt, asIntOf, run_underlying (und_slice hT hk), h0, hi, run_sizeOf_tab hT hko, hs, Addr.add_lit]
    · rename_i e k sz off n hk
      intro ⟨h0, hi, hs, hko⟩
      have hko := isOther_false hko
      cases hx with
      | oslnil _ _ _ h => simp at hi; omega
      | osl _ _ _ _ b m cap hkk hm hn =>
      refine ⟨.pointer (some ⟨b, (off + i.toNat) * sz + 0, none⟩), .rp k sz _ 0 b m hkk, fun w' => ?_⟩
      simp [Instr.indexAt, asIntOf, run_underlying (und_slice hT hk), h0, hi, run_sizeOf_tab hT hko, hs, Addr.add_lit, Nat.add_mul]
    · rename_i n e k off hk
      intro ⟨h0, hi, hko⟩
      have hko := isOther_false hko
      cases hx with | ptr _ _ b m hkk =>
      refine ⟨_, .ptr k (off + i.toNat * (T e).size) b m hkk, fun w' => ?_⟩
      simp [Instr.indexAt, asIntOf, run_underlying (und_array hT hk), h0, hi, run_sizeOf_tab hT hko, Instr.sureAddr, Addr.add_lit]
    · intro h; exact h.elim
  · intro h; exact h.elim

theorem run_aidx {T : TypeId → TI} (hT : TabOk P T) (t : TypeId) (x y : AV) (ux uy : Value) (hx : RepV ρ ok w x ux) (hy : RepV ρ ok w y uy) (h : (aidx T (T t) x y).ok) :
    ∃ u, RepV ρ ok w (aidx T (T t) x y).v u ∧ ∀ w', (Instr.index t ux uy).run P w' = .ok u w' := by
  revert h
  unfold aidx
  split
  · rename_i kk i
    cases hy with | d _ _ hy => cases hy with | int _ _ =>
    split
    · rename_i l hk
      intro ⟨h0, hi⟩
      cases hx with | d _ _ hx => cases hx with | str _ =>
      have hi' : i.toNat < l.length := by omega
      have e1 : (⟨l.toArray⟩ : ByteArray)[i.toNat]? = some l[i.toNat] := by
        rw [getElem?_pos _ _ (by rw [mk_size]; exact hi')]
        rfl
      refine ⟨_, .d _ _ (.int _ _), fun w' => ?_⟩
      simp [Instr.index, asIntOf, run_underlying (und_str hT hk), h0, mkStr, e1, List.getD_eq_getElem?_getD, List.getElem?_eq_getElem hi']
    · rename_i n e cs hk
      intro ⟨h0, hi, h1, hl', hko⟩
      have hko := isOther_false hko
      cases hx with | agg _ us hl hone hr =>
      have hi' : i.toNat < n := by omega
      cases ha : (T e).agg with
      | true =>
        rw [ha] at hl'
        simp only [if_true] at hl'
        have hfit : i.toNat * (T e).size + (T e).size ≤ cs.length := by
          rw [hl', ← Nat.succ_mul]; exact Nat.mul_le_mul_right _ hi'
        obtain ⟨u, hu1, hu2⟩ := run_part hT e hko us (i.toNat * (T e).size) cs hl hfit h1 hone hr
        rw [ha] at hu1
        simp only [if_true] at hu1 ⊢
        exact ⟨u, hu1, fun w' => by simp [Instr.index, asIntOf, run_underlying (und_array hT hk), h0, hi, run_sizeOf_tab hT hko, hu2]⟩
      | false =>
        have hs := h1 ha
        rw [ha] at hl'
        simp only [Bool.false_eq_true, if_false] at hl'
        obtain ⟨u, hu1, hu2⟩ := run_part hT e hko us i.toNat cs hl (by omega) (fun _ => hs) hone hr
        rw [ha] at hu1
        simp only [Bool.false_eq_true, if_false] at hu1 ⊢
        exact ⟨u, hu1, fun w' => by simp [Instr.index, asIntOf, run_underlying (und_array hT hk), h0, hi, run_sizeOf_tab hT hko, hs, hu2]⟩
    · intro h; exact h.elim
  · intro h; exact h.elim
end
end Go.Proofs.YtfnilhdofopoeabDoor
