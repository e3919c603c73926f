/- Structs compared: cell by cell. It holds over any program whose types read as the table says. -/
import Derived.Test.YtfnilhdofopoeabDoorAvPure
import Derived.Laws.StructEq
namespace Go.Proofs.YtfnilhdofopoeabDoor
set_option linter.unusedVariables false
set_option linter.unusedSimpArgs false
open Go Go.RowKit

def packV (P : Program) (t : TypeId) (us : List Value) : Value :=
  match P.underlying t with
  | some (.struct _) => .agg us.toArray
  | _ => us.headD undef

section
variable {P : Program} {ρ : List (Option (Nat × Nat))} {ok : Nat → Prop} {w : World}

def Reps (ρ : List (Option (Nat × Nat))) (ok : Nat → Prop) (w : World) (xs : List AV) (us : List Value) : Prop :=
  us.length = xs.length ∧ ∀ (j : Nat) (x : AV) (u : Value), xs[j]? = some x → us[j]? = some u → RepV ρ ok w x u

theorem eqLeaves_len : ∀ {ks : List TK} {xs ys : List AV}, (eqLeaves ks xs ys).1 → xs.length = ks.length ∧ ys.length = ks.length
  | [], [], [], _ => ⟨rfl, rfl⟩
  | _ :: ks, _ :: xs, _ :: ys, h => by
    have := eqLeaves_len (ks := ks) (xs := xs) (ys := ys) h.2
    simp [this.1, this.2]
  | [], [], _ :: _, h => by simp [eqLeaves] at h
  | [], _ :: _, _, h => by simp [eqLeaves] at h
  | _ :: _, [], _, h => by simp [eqLeaves] at h
  | _ :: _, _ :: _, [], h => by simp [eqLeaves] at h

theorem eqLeaves_append : ∀ (a b : List TK) (xs ys : List AV), (eqLeaves (a ++ b) xs ys).1 →
    (eqLeaves a (xs.take a.length) (ys.take a.length)).1 ∧ (eqLeaves b (xs.drop a.length) (ys.drop a.length)).1 ∧
    (eqLeaves (a ++ b) xs ys).2 = ((eqLeaves a (xs.take a.length) (ys.take a.length)).2 && (eqLeaves b (xs.drop a.length) (ys.drop a.length)).2)
  | [], b, xs, ys, h => by simpa [eqLeaves] using h
  | k :: a, b, x :: xs, y :: ys, h => by
    have ih := eqLeaves_append a b xs ys h.2
    refine ⟨⟨h.1, ih.1⟩, ih.2.1, ?_⟩
    have := ih.2.2
    simp only [List.cons_append, eqLeaves, List.length_cons, List.take_succ_cons, List.drop_succ_cons] at this ⊢
    rw [this, Bool.and_assoc]
  | _ :: _, _, [], _, h => by simp [eqLeaves] at h
  | _ :: _, _, _ :: _, [], h => by simp [eqLeaves] at h

theorem Reps.take {xs : List AV} {us : List Value} (h : Reps ρ ok w xs us) (n : Nat) : Reps ρ ok w (xs.take n) (us.take n) := by
  refine ⟨by simp [h.1], fun j x u hx hu => ?_⟩
  by_cases hj : j < n
  · rw [List.getElem?_take, if_pos hj] at hx hu
    exact h.2 j x u hx hu
  · rw [List.getElem?_take, if_neg hj] at hx
    cases hx
theorem Reps.drop {xs : List AV} {us : List Value} (h : Reps ρ ok w xs us) (n : Nat) : Reps ρ ok w (xs.drop n) (us.drop n) := by
  refine ⟨by simp [h.1], fun j x u hx hu => ?_⟩
  rw [List.getElem?_drop] at hx hu
  exact h.2 _ x u hx hu

theorem mkStr_beq (a b : List UInt8) : ((⟨a.toArray⟩ : ByteArray) == ⟨b.toArray⟩) = decide (a = b) := by
  show ((a.toArray : Array UInt8) == b.toArray) = _
  rw [Bool.eq_iff_iff]; simp

theorem cells_of_info {t : TypeId} {n : Nat} (h : P.cellsOf t = n) (hn : n ≠ 0) (w' : World) : (sizeOf t).run P w' = .ok n w' := by
  unfold Program.cellsOf at h
  cases hi : P.info? t with
  | none => simp [hi] at h; omega
  | some i => simp [hi] at h; simp [sizeOf, typeInfo, hi, h]

def flatTy (n : Nat) : TypeDesc → Prop
  | .struct _ => True
  | .array _ _ => False
  | _ => n = 1

theorem head_seg {us : List Value} {o : Nat} (h : o < us.length) : (List.take 1 (List.drop o us)).headD undef = us[o] := by
  rw [List.drop_eq_getElem_cons h]; rfl

theorem run_part_pack {t : TypeId} {d : TypeDesc} (hd : P.underlying t = some d) (ha : flatTy (P.cellsOf t) d) (hc : P.cellsOf t ≠ 0) (us : List Value) (o : Nat) (hl : o + P.cellsOf t ≤ us.length) (w' : World) :
    (part t us.toArray o).run P w' = .ok (packV P t ((us.drop o).take (P.cellsOf t))) w' := by
  cases d with
  | struct fs =>
    simp [part, isAgg, run_underlying hd, cells_of_info rfl hc, packV, hd, List.take_drop]
  | array n e => exact ha.elim
  | _ =>
    simp only [flatTy] at ha
    have hlt : o < us.length := by omega
    have hh := head_seg hlt
    simp only [packV, hd, ha]
    rw [hh]
    simp [part, isAgg, run_underlying hd, hlt]

theorem run_eqFields {m : Nat} (ih : ∀ (t : TypeId) (ks : List TK), leaves P m t = some ks → ∀ (xs ys : List AV) (us vs : List Value), Reps ρ ok w xs us → Reps ρ ok w ys vs → (eqLeaves ks xs ys).1 →
      ∀ (d : Nat) (w' : World), (Op.equalIn (d + m) t (packV P t us) (packV P t vs)).run P w' = .ok (eqLeaves ks xs ys).2 w') :
    ∀ (fs : List Field) (o : Nat) (ks : List TK), leavesF P (leaves P m) fs o = some ks → ∀ (xs ys : List AV) (us vs : List Value), Reps ρ ok w xs us → Reps ρ ok w ys vs → (eqLeaves ks (xs.drop o) (ys.drop o)).1 →
      ∀ (d : Nat) (w' : World), (Op.eqFields (d + m) us.toArray vs.toArray fs).run P w' = .ok (eqLeaves ks (xs.drop o) (ys.drop o)).2 w'
  | [], o, ks, h, xs, ys, us, vs, hu, hv, hk, d, w' => by
    simp [leavesF] at h
    subst h
    have := eqLeaves_len hk
    have e1 : xs.drop o = [] := List.eq_nil_of_length_eq_zero this.1
    have e2 : ys.drop o = [] := List.eq_nil_of_length_eq_zero this.2
    rw [e1, e2]
    simp [Op.eqFields, eqLeaves]
  | f :: fs, o, ks, h, xs, ys, us, vs, hu, hv, hk, d, w' => by
    simp only [leavesF] at h
    cases h1 : leaves P m f.type with
    | none => simp [h1] at h
    | some a =>
      cases h2 : leavesF P (leaves P m) fs (o + P.cellsOf f.type) with
      | none => simp [h1, h2] at h
      | some b =>
        simp only [h1, h2] at h
        split at h
        · rename_i hc
          obtain ⟨hn, ho, hl⟩ := hc
          injection h with h
          subst h
          obtain ⟨k1, k2, k3⟩ := eqLeaves_append a b _ _ hk
          have hlen := eqLeaves_len hk
          rw [List.drop_drop] at k2 k3
          rw [List.drop_drop] at k2 k3
          simp only [List.length_append] at hlen
          obtain ⟨hl, hpos⟩ := hl
          subst ho
          have hxl : f.offset + P.cellsOf f.type ≤ us.length := by
            have := hlen.1; rw [List.length_drop] at this
            have := hu.1
            omega
          have hyl : f.offset + P.cellsOf f.type ≤ vs.length := by
            have := hlen.2; rw [List.length_drop] at this
            have := hv.1
            omega
          have hdesc : ∃ dd, P.underlying f.type = some dd ∧ flatTy (P.cellsOf f.type) dd := by
            cases m with
            | zero => simp [leaves] at h1
            | succ m =>
              simp only [leaves] at h1
              split at h1
              · rename_i hu; injection h1 with h1; subst h1; exact ⟨_, hu, hl.symm⟩
              · rename_i hu; injection h1 with h1; subst h1; exact ⟨_, hu, hl.symm⟩
              · rename_i hu; injection h1 with h1; subst h1; exact ⟨_, hu, hl.symm⟩
              · rename_i hu; exact ⟨_, hu, trivial⟩
              · cases h1
          obtain ⟨dd, hdd, hdc⟩ := hdesc
          have p1 := run_part_pack hdd hdc (by omega) us f.offset hxl w'
          have p2 := run_part_pack hdd hdc (by omega) vs f.offset hyl w'
          rw [hl] at k1 k2 k3
          have q := ih f.type a h1 _ _ _ _ ((hu.drop f.offset).take (P.cellsOf f.type)) ((hv.drop f.offset).take (P.cellsOf f.type)) k1 d w'
          have r := run_eqFields ih fs (f.offset + P.cellsOf f.type) b h2 xs ys us vs hu hv k2 d w'
          rw [k3]
          simp only [Op.eqFields, if_pos hn, Sem.run_bind, p1, p2, q, Result.andThen_ok, Sem.run_ite]
          cases hb : (eqLeaves a (List.take (P.cellsOf f.type) (List.drop f.offset xs)) (List.take (P.cellsOf f.type) (List.drop f.offset ys))).2 with
          | true => simpa using r
          | false => simp
        · cases h

theorem eqLeaf_bool {x y : AV} (h : (eqLeaf .bool x y).1) : ∃ a b, x = .d (.bool a) ∧ y = .d (.bool b) := by
  unfold eqLeaf at h
  split at h <;> first | contradiction | exact ⟨_, _, rfl, rfl⟩ | exact h.elim
theorem eqLeaf_str {x y : AV} (h : (eqLeaf .str x y).1) : ∃ a b, x = .d (.str a) ∧ y = .d (.str b) := by
  unfold eqLeaf at h
  split at h <;> first | contradiction | exact ⟨_, _, rfl, rfl⟩ | exact h.elim
theorem eqLeaf_int {k : IntKind} {x y : AV} (h : (eqLeaf (.int k) x y).1) : ∃ a b, x = .d (.int k a) ∧ y = .d (.int k b) := by
  unfold eqLeaf at h
  split at h
  · rename_i k0 k1 a k2 b e
    injection e with e
    obtain ⟨rfl, rfl⟩ := h
    subst e
    exact ⟨_, _, rfl, rfl⟩
  all_goals first | contradiction | exact h.elim

theorem one_leaf {k : TK} {xs ys : List AV} {us vs : List Value} (hu : Reps ρ ok w xs us) (hv : Reps ρ ok w ys vs) (hk : (eqLeaves [k] xs ys).1) :
    ∃ x y u v, xs = [x] ∧ ys = [y] ∧ us = [u] ∧ vs = [v] ∧ RepV ρ ok w x u ∧ RepV ρ ok w y v ∧ (eqLeaf k x y).1 ∧ (eqLeaves [k] xs ys).2 = (eqLeaf k x y).2 := by
  obtain ⟨h1, h2⟩ := eqLeaves_len hk
  have h3 := hu.1
  have h4 := hv.1
  match xs, ys, us, vs, h1, h2, h3, h4 with
  | [x], [y], [u], [v], _, _, _, _ => exact ⟨x, y, u, v, rfl, rfl, rfl, rfl, hu.2 0 x u rfl rfl, hv.2 0 y v rfl rfl, hk.1, by simp [eqLeaves]⟩

theorem run_leaves : ∀ (m : Nat) (t : TypeId) (ks : List TK), leaves P m t = some ks → ∀ (xs ys : List AV) (us vs : List Value), Reps ρ ok w xs us → Reps ρ ok w ys vs → (eqLeaves ks xs ys).1 →
      ∀ (d : Nat) (w' : World), (Op.equalIn (d + m) t (packV P t us) (packV P t vs)).run P w' = .ok (eqLeaves ks xs ys).2 w'
  | 0, _, _, h, _, _, _, _, _, _, _, _, _ => by simp [leaves] at h
  | m + 1, t, ks, h, xs, ys, us, vs, hu, hv, hk, d, w' => by
    simp only [leaves] at h
    split at h
    · rename_i hd
      injection h with h
      subst h
      obtain ⟨x, y, u, v, rfl, rfl, rfl, rfl, hx, hy, hl, e⟩ := one_leaf hu hv hk
      rw [e]
      obtain ⟨a, b, rfl, rfl⟩ := eqLeaf_bool hl
      cases hx with | d _ _ hx => cases hx with | bool _ =>
      cases hy with | d _ _ hy => cases hy with | bool _ =>
      simp only [packV, hd, List.headD_cons]
      rw [show d + (m + 1) = (d + m) + 1 from rfl, run_equalIn_bool' w' (d + m) t a b hd]
      cases a <;> cases b <;> rfl
    · rename_i hd
      injection h with h
      subst h
      obtain ⟨x, y, u, v, rfl, rfl, rfl, rfl, hx, hy, hl, e⟩ := one_leaf hu hv hk
      rw [e]
      obtain ⟨a, b, rfl, rfl⟩ := eqLeaf_str hl
      cases hx with | d _ _ hx => cases hx with | str _ =>
      cases hy with | d _ _ hy => cases hy with | str _ =>
      simp only [packV, hd, List.headD_cons]
      have := mkStr_beq a b
      rw [show d + (m + 1) = (d + m) + 1 from rfl]
      simp [mkStr, Op.equalIn, run_underlying hd, this, eqLeaf]
    · rename_i k hd
      injection h with h
      subst h
      obtain ⟨x, y, u, v, rfl, rfl, rfl, rfl, hx, hy, hl, e⟩ := one_leaf hu hv hk
      rw [e]
      obtain ⟨a, b, rfl, rfl⟩ := eqLeaf_int hl
      cases hx with | d _ _ hx => cases hx with | int _ _ =>
      cases hy with | d _ _ hy => cases hy with | int _ _ =>
      simp only [packV, hd, List.headD_cons]
      rw [show d + (m + 1) = (d + m) + 1 from rfl, run_equalIn_int w' (d + m) t _ _ a b hd]
      simp only [eqLeaf]
      congr 1
    · rename_i fs hd
      split at h
      · cases h
      · rename_i hst
        have hf : P.fieldsOf t = fs := by simp [Program.fieldsOf, hd]
        have := run_eqFields (P := P) (ρ := ρ) (ok := ok) (w := w) (m := m) (fun t ks h => run_leaves m t ks h) fs.toList 0 ks h xs ys us vs hu hv (by simpa using hk) d w'
        simp only [packV, hd]
        rw [show d + (m + 1) = (d + m) + 1 from rfl, run_equalIn_struct w' (d + m) t _ _ (by rw [hf]; exact hd) (by simpa using hst), hf]
        simpa using this
    · cases h
end
end Go.Proofs.YtfnilhdofopoeabDoor
