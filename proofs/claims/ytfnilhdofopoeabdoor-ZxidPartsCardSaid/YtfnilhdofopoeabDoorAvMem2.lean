/- Storing into memory of the call's own. It holds over any program whose types read as the table says. -/
import Derived.Test.YtfnilhdofopoeabDoorAvMem
namespace Go.Proofs.YtfnilhdofopoeabDoor
set_option linter.unusedVariables false
set_option linter.unusedSimpArgs false
open Go Go.RowKit

theorem spl_eq {α : Type} (l news : List α) (off : Nat) (h : off + news.length ≤ l.length) : spl l news off = l.take off ++ news ++ l.drop (off + news.length) := by
  unfold spl
  split
  · rename_i x
    apply List.ext_getElem?
    intro j
    rw [getElem?_splice _ _ _ h, List.getElem?_set]
    simp only [List.length_cons, List.length_nil] at h ⊢
    by_cases e : off = j
    · subst e
      rw [if_pos rfl, if_pos (by omega), if_pos (by omega)]
      simp
    · rw [if_neg e, if_neg (by omega)]
  · rfl

theorem length_spl {α : Type} (l news : List α) (off : Nat) (h : off + news.length ≤ l.length) : (spl l news off).length = l.length := by
  rw [spl_eq _ _ _ h, length_splice _ _ _ h]

section
variable {P : Program} {E : Ent} {ρ : List (Option (Nat × Nat))} {hp : List ABlk} {w : World}

theorem setB_setB (w : World) (b : Nat) (o o' : Obj) : setB (setB w b o) b o' = setB w b o' := by
  unfold setB
  simp

theorem setB_self (w : World) (b : Nat) (o : Obj) (h : w.heap[b]? = some o) : setB w b o = w := by
  obtain ⟨h1, h2⟩ := Array.getElem?_eq_some_iff.1 h
  cases w with
  | mk heap tape drawn os output =>
    simp only [setB]
    congr 1
    apply Array.ext
    · simp
    · intro i h3 h4
      simp only at h1 h2
      rw [Array.getElem_setIfInBounds]
      split
      · rename_i e; subst e; exact h2.symm
      · rfl

theorem setCell_setB (w : World) (g i : Nat) (cur : Array Value) (t : TypeId) (fz : Nat × Nat) (v : Value) (hg : w.heap[g]? = some (.cells cur t fz)) :
    w.setCell ⟨g, i, none⟩ v = setB w g (.cells (cur.setIfInBounds i v) t fz) := by
  obtain ⟨h1, h2⟩ := Array.getElem?_eq_some_iff.1 hg
  unfold setB World.setCell
  congr 1
  apply Array.ext
  · simp
  · intro j h3 h4
    rw [Array.getElem_modify, Array.getElem_setIfInBounds]
    split
    · rename_i e; subst e; simp [h2]
    · rfl

theorem run_store_fz (w : World) (g o : Nat) (cur : Array Value) (t : TypeId) (fz : Nat × Nat) (v : Value) (hg : w.heap[g]? = some (.cells cur t fz)) (ho : o < cur.size) (hfz : noFz cur fz)
    (h1 : v.oneCell' = true) : (store ⟨g, o, none⟩ v).run P w = .ok () (setB w g (.cells (cur.setIfInBounds o v) t fz)) := by
  have hcell : w.cell? ⟨g, o, none⟩ = some cur[o] := by rw [cell_of_cells hg]; simp [ho]
  have hfro : w.frozen? ⟨g, o, none⟩ = false := by
    have := hfz o ho
    simp [World.frozen?, hg]
    omega
  rw [run_store P w _ v _ h1, hcell]
  simp only [hfro]
  simp [setCell_setB w g o cur t fz v hg]

theorem run_storeCells_fz (g o : Nat) (t : TypeId) (fz : Nat × Nat) : ∀ (vs : List Value) (i : Nat) (cur : Array Value) (w : World), w.heap[g]? = some (.cells cur t fz) → o + i + vs.length ≤ cur.size → noFz cur fz → (∀ v ∈ vs, v.oneCell' = true) →
    (storeCells ⟨g, o, none⟩ vs i).run P w = .ok () (setB w g (.cells (cur.toList.take (o + i) ++ vs ++ cur.toList.drop (o + i + vs.length)).toArray t fz))
  | [], i, cur, w, hg, _, _, _ => by
    simp only [storeCells, List.append_nil, List.length_nil, Nat.add_zero, List.take_append_drop, Array.toArray_toList]
    rw [setB_self w g _ hg]
    rfl
  | v :: rest, i, cur, w, hg, hl, hfz, h1 => by
    have hi : o + i < cur.size := by simp at hl; omega
    have hst := run_store_fz (P := P) w g (o + i) cur t fz v hg hi hfz (h1 v (by simp))
    have ih := run_storeCells_fz g o t fz rest (i + 1) (cur.setIfInBounds (o + i) v) (setB w g (.cells (cur.setIfInBounds (o + i) v) t fz)) (setB_same _ _ (lt_of_heap hg)) (by simp at hl ⊢; omega)
      (fun j hj => hfz j (by simpa using hj)) (fun x hx => h1 x (by simp [hx]))
    simp only [storeCells, Addr.add_lit, Sem.run_bind, hst, Result.andThen_ok, ih, setB_setB]
    have e := list_seg_step cur.toList (o + i) v rest (by simp at hl ⊢; omega)
    have e' : (cur.setIfInBounds (o + i) v).toList.take (o + (i + 1)) ++ rest ++ (cur.setIfInBounds (o + i) v).toList.drop (o + (i + 1) + rest.length) = cur.toList.take (o + i) ++ v :: rest ++ cur.toList.drop (o + i + (v :: rest).length) := by
      simpa [Array.toList_setIfInBounds, Nat.add_assoc] using e
    rw [e']

theorem run_storeVar_fz {T : TypeId → TI} (hT : TabOk P T) (t : TypeId) (hk : (T t).kind ≠ .other) (g o : Nat) (ty : TypeId) (fz : Nat × Nat) (cur : Array Value) (v : Value) (hg : w.heap[g]? = some (.cells cur ty fz))
    (hsz : v.cells.size = (T t).size) (ho : o + (T t).size ≤ cur.size) (hfz : noFz cur fz) (h1 : ∀ x, x ∈ v.cells.toList → x.oneCell' = true) :
    (Instr.storeAt t (.pointer (some ⟨g, o, none⟩)) v).run P w = .ok () (setB w g (.cells (cur.toList.take o ++ v.cells.toList ++ cur.toList.drop (o + (T t).size)).toArray ty fz)) := by
  have := run_storeCells_fz (P := P) g o ty fz v.cells.toList 0 cur w hg (by simp [hsz]; exact ho) hfz h1
  simp only [Nat.add_zero, Array.length_toList, hsz] at this
  simp [Instr.storeAt, Instr.sureAddr, storeVar, run_sizeOf_tab hT hk, hsz, this]

theorem astore_sound {T : TypeId → TI} (hT : TabOk P T) (h : RepH E ρ hp w) (t : TypeId) (x v : AV) (ux uv : Value) (hx : RepV ρ (okB E ρ hp w) w x ux) (hv : RepV ρ (okB E ρ hp w) w v uv) (hk : (astore (T t) x v hp).ok) :
    ∃ w', Does E ρ hp w (.ok .skip w') (astore (T t) x v hp).v (astore (T t) x v hp).hp ∧ (Instr.storeAt t ux uv).run P w = .ok () w' := by
  revert hk
  unfold astore
  split
  · rename_i k off
    split
    · rename_i cs hcs
      intro ⟨ht, hl, hfit, hko⟩
      have hko := isOther_false hko
      cases hx with | ptr _ _ b m hkk =>
      obtain ⟨q1, us, ty, fz, hw, hm, hfz, hone, hsz, hr⟩ := h.blk k _ b m hcs hkk (by simp)
      obtain ⟨c1, c2, c3⟩ := acells_ok hv ht
      have hcs2 : uv.cells.size = (T t).size := by rw [← Array.length_toList, c1, hl]
      have hrun := run_storeVar_fz (P := P) hT t hko b off ty fz us uv hw hcs2 (by rw [hsz]; exact hfit) hfz.1 c2
      refine ⟨_, ⟨undef, _, _, .inr ⟨rfl, rfl⟩, HStep.set h hcs (by simp) (by simp) hkk hw (us' := (us.toList.take off ++ uv.cells.toList ++ us.toList.drop (off + (T t).size)).toArray) ?_ (fun l e => by cases e) ⟨?_, ?_, ?_⟩, .any _⟩, hrun⟩
      · simp; omega
      · intro u hu
        simp only [List.mem_append] at hu
        rcases hu with (hu | hu) | hu
        · exact hone u (List.mem_of_mem_take hu)
        · exact c2 u hu
        · exact hone u (List.mem_of_mem_drop hu)
      · rw [length_spl _ _ _ (by omega)]; simp; omega
      · intro j c u hc hu
        have hul : us.toList.length = cs.length := by simpa using hsz
        rw [spl_eq _ _ _ (by omega), getElem?_splice _ _ _ (by omega)] at hc
        have hu' : (us.toList.take off ++ uv.cells.toList ++ us.toList.drop (off + uv.cells.toList.length))[j]? = some u := by
          rw [Array.length_toList, hcs2]; simpa using hu
        rw [getElem?_splice _ _ _ (by rw [c1]; omega), c1] at hu'
        split at hc
        · rename_i hj; rw [if_pos hj] at hu'; exact c3 _ _ _ hc hu'
        · rename_i hj; rw [if_neg hj] at hu'; exact hr _ _ _ hc (by simpa using hu')
    · intro h; exact h.elim
  · rename_i k sz i off
    split
    · rename_i sz' rs ds hcs hds
      intro ⟨h0, ht, hl, hi, hfit, hko⟩
      subst h0
      have hko := isOther_false hko
      cases hx with | rp _ _ _ _ b m hkk =>
      obtain ⟨q1, us, ty, fz, hw, hm, hfz, hone, hrl, hsz, hr⟩ := h.blk k _ b m hcs hkk (by simp)
      obtain ⟨c1, c2, c3⟩ := acells_ok hv ht
      have hdm := dvsOf_get hds
      have hcl : (acells v).length = ds.length := by rw [hdm, List.length_map]
      have hcs2 : uv.cells.size = (T t).size := by rw [← Array.length_toList, c1, hcl, hl]
      have hrow := getD_of_lt rs i [] hi
      have hrlen : (rs.getD i []).length = sz := hrl _ (List.mem_of_getElem? hrow)
      have hbig : (i + 1) * sz ≤ rs.length * sz := Nat.mul_le_mul_right _ hi
      rw [Nat.add_mul] at hbig
      have hrun := run_storeVar_fz (P := P) hT t hko b (i * sz + off) ty fz us uv hw hcs2 (by omega) hfz.1 c2
      refine ⟨_, ⟨undef, _, _, .inr ⟨rfl, rfl⟩, HStep.set h hcs (by simp) (by simp) hkk hw (us' := (us.toList.take (i * sz + off) ++ uv.cells.toList ++ us.toList.drop (i * sz + off + (T t).size)).toArray) ?_ (fun l e => by cases e) ⟨?_, ?_, ?_, ?_⟩, .any _⟩, hrun⟩
      · simp; omega
      · intro u hu
        simp only [List.mem_append] at hu
        rcases hu with (hu | hu) | hu
        · exact hone u (List.mem_of_mem_take hu)
        · exact c2 u hu
        · exact hone u (List.mem_of_mem_drop hu)
      · intro r hr'
        rcases List.mem_or_eq_of_mem_set hr' with hr' | rfl
        · exact hrl r hr'
        · rw [length_spl _ _ _ (by omega), hrlen]
      · rw [List.length_set]; simp; omega
      · intro i' r hi' j c u hj hu
        have hu' : (us.toList.take (i * sz + off) ++ uv.cells.toList ++ us.toList.drop (i * sz + off + uv.cells.toList.length))[i' * sz + j]? = some u := by
          rw [Array.length_toList, hcs2]; simpa using hu
        rw [getElem?_splice _ _ _ (by simp; omega), c1, hcl] at hu'
        rcases getElem?_set_cases hi' with ⟨e, e', _⟩ | ⟨hne, h2⟩
        · subst e; subst e'
          rw [spl_eq _ _ _ (by omega), getElem?_splice _ _ _ (by omega)] at hj
          split at hj
          · rename_i hjj
            rw [if_pos (by omega)] at hu'
            have e2 : i' * sz + j - (i' * sz + off) = j - off := by omega
            rw [e2] at hu'
            have := c3 (j - off) (.d c) u (by rw [hdm, List.getElem?_map, hj]; rfl) hu'
            cases this with | d _ _ h => exact h
          · rename_i hjj
            rw [if_neg (by omega)] at hu'
            exact hr i' _ hrow j c u hj (by simpa using hu')
        · have hjl : j < sz := by rw [← hrl r (List.mem_of_getElem? h2)]; exact (List.getElem?_eq_some_iff.1 hj).1
          have hout : ¬ (i * sz + off ≤ i' * sz + j ∧ i' * sz + j < i * sz + off + ds.length) := by
            intro ⟨a1, a2⟩
            rcases Nat.lt_or_gt_of_ne hne with hlt | hgt
            · have : (i' + 1) * sz ≤ i * sz := Nat.mul_le_mul_right _ hlt
              rw [Nat.add_mul] at this; omega
            · have : (i + 1) * sz ≤ i' * sz := Nat.mul_le_mul_right _ hgt
              rw [Nat.add_mul] at this; omega
          rw [if_neg hout] at hu'
          exact hr i' r h2 j c u hj (by simpa using hu')
    · intro h; exact h.elim
  · intro h; exact h.elim

/-- A byte that is stored. -/
def u8val : AV → Option Int
  | .d (.int .u8 n) => some n
  | _ => none
def isU8 : TK → Bool
  | .int .u8 => true
  | _ => false
def astoreX (ti : TI) (x v : AV) (hp : List ABlk) : MR :=
  match x with
  | .rp k sz i off =>
    (match hp[k]? with
    | some (.bytes l) =>
      (match u8val v with
      | some n => ⟨sz = 1 ∧ off = 0 ∧ i < l.length ∧ 0 ≤ n ∧ n < 256 ∧ isU8 ti.kind = true, .any, hp.set k (.bytes (l.set i (UInt8.ofNat n.toNat)))⟩
      | none => ⟨False, .any, hp⟩)
    | _ => astore ti x v hp)
  | _ => astore ti x v hp

theorem u8val_eq {v : AV} {n : Int} (h : u8val v = some n) : v = .d (.int .u8 n) := by
  unfold u8val at h
  split at h
  · injection h with h; subst h; rfl
  · cases h

theorem isU8_eq {k : TK} (h : isU8 k = true) : k = .int .u8 := by
  unfold isU8 at h
  split at h
  · rfl
  · cases h

theorem astoreX_sound {T : TypeId → TI} (hT : TabOk P T) (h : RepH E ρ hp w) (t : TypeId) (x v : AV) (ux uv : Value) (hx : RepV ρ (okB E ρ hp w) w x ux) (hv : RepV ρ (okB E ρ hp w) w v uv) (hk : (astoreX (T t) x v hp).ok) :
    ∃ w', Does E ρ hp w (.ok .skip w') (astoreX (T t) x v hp).v (astoreX (T t) x v hp).hp ∧ (Instr.storeAt t ux uv).run P w = .ok () w' := by
  revert hk
  unfold astoreX
  split
  · rename_i k sz i off
    split
    · rename_i l hcs
      split
      · rename_i n hn
        intro ⟨h0, h00, hi, hn0, hn1, hu8⟩
        subst h0; subst h00
        have hv' := u8val_eq hn
        subst hv'
        have hk8 := isU8_eq hu8
        have hko : (T t).kind ≠ .other := by rw [hk8]; simp
        have hag : (T t).agg = false := by simp [TI.agg, hk8]
        cases hv with | d _ _ hv => cases hv with | int _ _ =>
        cases hx with | rp _ _ _ _ b m hkk =>
        obtain ⟨q1, us, ty, fz, hw, hm, hfz, hone, hrl, hsz, hr⟩ := h.blk k _ b m hcs hkk (by simp)
        have hil : i < us.size := by simp at hsz; omega
        obtain ⟨ii, z, hi1, hi2, hi3, hi4, hi5⟩ := (tab_und hT hko).info
        have hs1 : (T t).size = 1 := by
          rw [hag] at hi5
          simp only [Bool.false_eq_true, if_false] at hi5
          have := congrArg List.length hi5
          simp only [List.length_map, List.length_cons, List.length_nil] at this
          rw [← (tab_und hT hko).zl]; omega
        have hrun := run_storeVar_fz (P := P) hT t hko b (i * 1 + 0) ty fz us (.int .u8 n) hw (by rw [hs1]; rfl) (by omega) hfz.1 (by intro x hx; simp [Value.cells] at hx; subst hx; rfl)
        have hw8 : ((UInt8.ofNat n.toNat).toNat : Int) = n := by
          have : n.toNat % 256 = n.toNat := Nat.mod_eq_of_lt (by omega)
          simp [this]; omega
        have hmap : (l.set i (UInt8.ofNat n.toNat)).map u8row = (l.map u8row).set i (u8row (UInt8.ofNat n.toNat)) := by rw [List.map_set]
        refine ⟨_, ⟨undef, _, _, .inr ⟨rfl, rfl⟩, HStep.set h hcs (by simp) (by simp) hkk hw (us' := (us.toList.take (i * 1 + 0) ++ (Value.int .u8 n).cells.toList ++ us.toList.drop (i * 1 + 0 + (T t).size)).toArray) ?_ (fun l e => ⟨_, rfl⟩) ⟨?_, ?_, ?_, ?_⟩, .any _⟩, hrun⟩
        · simp [Value.cells, hs1]; omega
        · intro u hu
          simp only [List.mem_append] at hu
          rcases hu with (hu | hu) | hu
          · exact hone u (List.mem_of_mem_take hu)
          · simp [Value.cells] at hu; subst hu; rfl
          · exact hone u (List.mem_of_mem_drop hu)
        · intro r hr'; obtain ⟨b, _, rfl⟩ := List.mem_map.1 hr'; rfl
        · simp [Value.cells, hs1] at hsz ⊢; omega
        · intro i' r hi' j c u hj hu
          rw [hmap] at hi'
          have hu' : (us.toList.take (i * 1 + 0) ++ (Value.int .u8 n).cells.toList ++ us.toList.drop (i * 1 + 0 + (Value.int .u8 n).cells.toList.length))[i' * 1 + j]? = some u := by
            have : (Value.int .u8 n).cells.toList.length = (T t).size := by rw [hs1]; rfl
            rw [this]; simpa using hu
          rw [getElem?_splice _ _ _ (by simp [Value.cells]; omega)] at hu'
          rcases getElem?_set_cases hi' with ⟨e, e', _⟩ | ⟨hne, h2⟩
          · subst e; subst e'
            match j, hj with
            | 0, hj =>
              simp only [u8row, List.getElem?_cons_zero, Option.some.injEq] at hj; subst hj
              rw [if_pos (by simp [Value.cells])] at hu'
              simp [Value.cells] at hu'
              subst hu'
              rw [hw8]
              exact .int .u8 n
          · have hj0 : j = 0 := by
              have : r.length = 1 := hrl r (List.mem_of_getElem? h2)
              have := (List.getElem?_eq_some_iff.1 hj).1
              omega
            subst hj0
            rw [if_neg (by simp [Value.cells]; omega)] at hu'
            exact hr i' r h2 0 c u hj (by simpa using hu')
      · intro h; exact h.elim
    · intro hk; exact astore_sound hT h t _ v ux uv hx hv hk
  · intro hk; exact astore_sound hT h t _ v ux uv hx hv hk
end
end Go.Proofs.YtfnilhdofopoeabDoor
