/- Maps from texts to integers of the call's own: making one, asking it, and adding to what it holds. It holds over any program whose types read as the table says. -/
import Derived.Test.YtfnilhdofopoeabDoorAvMem4
namespace Go.Proofs.YtfnilhdofopoeabDoor
set_option linter.unusedVariables false
set_option linter.unusedSimpArgs false
open Go Go.RowKit

/-- Where a key stands among the entries. -/
def mfind (s : List UInt8) : List (List UInt8 × Int) → Option Nat
  | [] => none
  | (k, _) :: r => if s = k then some 0 else (mfind s r).map (· + 1)
def mval (l : List (List UInt8 × Int)) (s : List UInt8) : Int :=
  match mfind s l with
  | some i => (l.getD i ([], 0)).2
  | none => 0
def mplace (l : List (List UInt8 × Int)) (s : List UInt8) : Nat := (mfind s l).getD l.length
def mtouch (l : List (List UInt8 × Int)) (s : List UInt8) : List (List UInt8 × Int) := if (mfind s l).isSome then l else l ++ [(s, 0)]
def mput (l : List (List UInt8 × Int)) (i : Nat) (v : Int) : List (List UInt8 × Int) := l.modify i fun e => (e.1, v)
def mset (l : List (List UInt8 × Int)) (s : List UInt8) (v : Int) : List (List UInt8 × Int) :=
  match mfind s l with
  | some i => mput l i v
  | none => l ++ [(s, v)]

def isStrIntMap (T : TypeId → TI) (t : TypeId) : Prop :=
  match (T t).kind with
  | .map k e => (T k).kind = .str ∧ (T e).kind = .int .i64 ∧ (T e).zero = [.int .i64 0]
  | _ => False
def amakeMap (hp : List ABlk) : MR := ⟨True, .mp hp.length, hp ++ [.map []]⟩
def amapSet (T : TypeId → TI) (t : TypeId) (x k v : AV) (hp : List ABlk) : MR :=
  match x, k, v with
  | .mp j, .d (.str s), .d (.int .i64 n) =>
    (match hp[j]? with
    | some (.map l) => ⟨isStrIntMap T t, .any, hp.set j (.map (mset l s n))⟩
    | _ => ⟨False, .any, hp⟩)
  | _, _, _ => ⟨False, .any, hp⟩
def amapLook (T : TypeId → TI) (t : TypeId) (x k : AV) (hp : List ABlk) : PR :=
  match x, k with
  | .mp j, .d (.str s) =>
    (match hp[j]? with
    | some (.map l) => ⟨isStrIntMap T t, I (mval l s)⟩
    | _ => ⟨False, .any⟩)
  | _, _ => ⟨False, .any⟩

theorem mentryG_len : ∀ (i : Nat) (l : List (List UInt8 × Int)), (mentryG i l).length = l.length
  | _, [] => rfl
  | i, (k, v) :: r => by simp [mentryG, mentryG_len (i + 1) r]
theorem mentryG_get : ∀ (i j : Nat) (l : List (List UInt8 × Int)), (mentryG i l)[j]? = (l[j]?).map fun e => ⟨mkStr e.1, .int .i64 e.2, i + j⟩
  | _, _, [] => by simp [mentryG]
  | i, 0, (k, v) :: r => by simp [mentryG]
  | i, j + 1, (k, v) :: r => by
    rw [mentryG, List.getElem?_cons_succ, List.getElem?_cons_succ, mentryG_get (i + 1) j r]
    congr 1; funext e; congr 1; omega
theorem findNow_m (s : List UInt8) : ∀ (l : List (List UInt8 × Int)) (i j : Nat), Instr.findNow .string (mkStr s) (mentryG i l) j = some ((mfind s l).map fun p => (p + j, .int .i64 (l.getD p ([], 0)).2))
  | [], _, _ => rfl
  | (k, v) :: r, i, j => by
    rw [mentryG, Instr.findNow]
    have : Instr.sameNow .string (mkStr s) (mkStr k) = some (decide (s = k)) := by simp only [Instr.sameNow, mkStr, mkStr_beq]
    rw [this]
    by_cases e : s = k
    · subst e; simp [mfind]
    · rw [decide_eq_false e]
      simp only [findNow_m s r (i + 1) (j + 1), mfind, if_neg e, Option.map_map]
      congr 1
      cases mfind s r with
      | none => rfl
      | some p => simp; omega
theorem mfind_lt {s : List UInt8} : ∀ {l : List (List UInt8 × Int)} {p : Nat}, mfind s l = some p → p < l.length ∧ (l.getD p ([], 0)).1 = s
  | [], p, h => by cases h
  | (k, v) :: r, p, h => by
    unfold mfind at h
    by_cases e : s = k
    · rw [if_pos e] at h; cases h; exact ⟨by simp, e.symm⟩
    · rw [if_neg e] at h
      obtain ⟨q, hq, rfl⟩ := Option.map_eq_some_iff.1 h
      have := mfind_lt hq
      exact ⟨by simp; omega, by simpa using this.2⟩
theorem mfind_none {s : List UInt8} : ∀ {l : List (List UInt8 × Int)}, mfind s l = none ↔ ∀ e, e ∈ l → e.1 ≠ s
  | [] => by simp [mfind]
  | (k, v) :: r => by
    unfold mfind
    by_cases e : s = k
    · rw [if_pos e]; simp [e]
    · rw [if_neg e]
      simp only [Option.map_eq_none_iff, mfind_none (l := r), List.mem_cons, forall_eq_or_imp]
      exact ⟨fun h => ⟨fun h' => e h'.symm, h⟩, fun h => h.2⟩
theorem mfind_app {s : List UInt8} {t : List UInt8} {v : Int} : ∀ {l : List (List UInt8 × Int)}, mfind s (l ++ [(t, v)]) = match mfind s l with | some p => some p | none => if s = t then some l.length else none
  | [] => by simp [mfind]
  | (k, u) :: r => by
    simp only [List.cons_append, mfind, mfind_app (l := r)]
    by_cases e : s = k
    · simp [e]
    · rw [if_neg e, if_neg e]
      cases mfind s r with
      | some p => rfl
      | none => by_cases e2 : s = t <;> simp [e2]
theorem mfind_put {s : List UInt8} : ∀ {l : List (List UInt8 × Int)} {i : Nat} {v : Int}, mfind s (mput l i v) = mfind s l
  | [], i, v => by simp [mput, mfind]
  | (k, u) :: r, 0, v => by simp [mput, mfind]
  | (k, u) :: r, i + 1, v => by
    have := mfind_put (s := s) (l := r) (i := i) (v := v)
    simp only [mput] at this
    simp [mput, mfind, this]
theorem mplace_lt (l : List (List UInt8 × Int)) (s : List UInt8) : mplace l s < (mtouch l s).length := by
  unfold mplace mtouch
  cases h : mfind s l with
  | some p => simpa using (mfind_lt h).1
  | none => simp
theorem mset_eq (l : List (List UInt8 × Int)) (s : List UInt8) (v : Int) : mset l s v = mput (mtouch l s) (mplace l s) v := by
  unfold mset mtouch mplace
  cases h : mfind s l with
  | some p => simp
  | none =>
    simp only [Option.isSome_none, Bool.false_eq_true, if_false, Option.getD_none, mput]
    apply List.ext_getElem?
    intro j
    rw [List.getElem?_modify]
    rcases Nat.lt_trichotomy j l.length with h | h | h
    · rw [List.getElem?_append_left h, List.getElem?_append_left h]; cases l[j]? <;> simp [show ¬ l.length = j from by omega]
    · subst h; simp
    · rw [List.getElem?_eq_none (by simp; omega), List.getElem?_eq_none (by simp; omega)]; rfl
theorem mval_set (l : List (List UInt8 × Int)) (s t : List UInt8) (v : Int) : mval (mset l s v) t = if t = s then v else mval l t := by
  rw [mset_eq]
  have gp (m : List (List UInt8 × Int)) (i j : Nat) (v : Int) (h : i < m.length) : ((mput m i v).getD j ([], 0)).2 = if i = j then v else (m.getD j ([], 0)).2 := by
    simp only [mput, List.getD_eq_getElem?_getD, List.getElem?_modify]
    by_cases e : i = j
    · subst e; simp [List.getElem?_eq_getElem h]
    · simp only [e, if_false]; cases m[j]? <;> rfl
  have hp := mplace_lt l s
  unfold mval
  rw [mfind_put]
  by_cases e : t = s
  · subst e
    rw [if_pos rfl]
    cases h : mfind t l with
    | some p =>
      have h2 : mfind t (mtouch l t) = some p := by unfold mtouch; simp [h]
      have h3 : mplace l t = p := by unfold mplace; simp [h]
      rw [h2]
      simp only
      rw [gp _ _ _ _ hp, if_pos h3]
    | none =>
      have h2 : mfind t (mtouch l t) = some l.length := by unfold mtouch; simp [h, mfind_app]
      have h3 : mplace l t = l.length := by unfold mplace; simp [h]
      rw [h2]
      simp only
      rw [gp _ _ _ _ hp, if_pos h3]
  · rw [if_neg e]
    have h2 : mfind t (mtouch l s) = mfind t l := by
      unfold mtouch; split
      · rfl
      · rw [mfind_app]; cases mfind t l <;> simp [e]
    rw [h2]
    cases h : mfind t l with
    | none => rfl
    | some p =>
      simp only
      obtain ⟨a, b⟩ := mfind_lt h
      rw [gp _ _ _ _ hp, if_neg]
      · unfold mtouch; split
        · rfl
        · rw [List.getD_eq_getElem?_getD, List.getElem?_append_left a, List.getD_eq_getElem?_getD]
      · intro e2
        unfold mplace at e2
        cases h3 : mfind s l with
        | some q => rw [h3] at e2; simp at e2; subst e2; exact e (b.symm.trans (mfind_lt h3).2)
        | none => rw [h3] at e2; simp at e2; omega
/-- One more for a key. -/
def mbump (l : List (List UInt8 × Int)) (s : List UInt8) : List (List UInt8 × Int) := mset l s (mval l s + 1)
theorem mval_bump (l : List (List UInt8 × Int)) (s t : List UInt8) : mval (mbump l s) t = mval l t + if t = s then 1 else 0 := by
  unfold mbump
  rw [mval_set]
  by_cases e : t = s
  · subst e; simp
  · simp [e]
theorem mval_nil (s : List UInt8) : mval [] s = 0 := rfl

section
variable {P : Program} {E : Ent} {ρ : List (Option (Nat × Nat))} {hp : List ABlk} {w : World} {T : TypeId → TI}

theorem und_map (hT : TabOk P T) {t k e : TypeId} (hk : (T t).kind = .map k e) : P.underlying t = some (.map k e) := by
  obtain ⟨d, hd, h⟩ := (tab_und hT (t := t) (by rw [hk]; simp)).und
  rw [hk] at h; rw [hd, h]

theorem run_getM {b : Nat} {es : Array MapEntry} {clk : Nat} (hb : w.heap[b]? = some (.map es clk)) : (getObj b).run P w = .ok (.map es clk) w := by simp [getObj, Sem.run, hb]
theorem run_setM {b : Nat} {es : Array MapEntry} {clk : Nat} (o : Obj) (hb : w.heap[b]? = some (.map es clk)) : (setObj b o).run P w = .ok () (setB w b o) := by simp [setObj, Sem.run, hb, setB]

theorem amakeMap_sound (h : RepH E ρ hp w) (t : TypeId) :
    ∃ u w', Does E ρ hp w (.ok (.value u) w') (amakeMap hp).v (amakeMap hp).hp ∧ (Instr.makeMap t none).run P w = .ok u w' := by
  refine ⟨.map (some w.heap.size), pushB w (.map #[] 0), ⟨_, _, _, .inl rfl, HStep.pushO h _ 0 (.map []) rfl, ?_⟩, ?_⟩
  · refine .mp _ _ 0 ?_
    rw [← h.len]; simp
  · simp [Instr.makeMap, pushB]

theorem run_checkKey_str {k : TypeId} (hk : P.underlying k = some .string) (b : Bool) (s : List UInt8) : (Instr.checkKey b 10000 k (mkStr s)).run P w = .ok () w := by
  unfold Instr.checkKey
  simp [run_underlying hk, mkStr]
theorem run_findKey_str {k : TypeId} (hk : P.underlying k = some .string) (s : List UInt8) (l : List (List UInt8 × Int)) :
    (Instr.findKey k (mkStr s) (mentry l)).run P w = .ok ((mfind s l).map fun p => (p, .int .i64 (l.getD p ([], 0)).2)) w := by
  have := findNow_m s l 0 0
  simp only [Nat.add_zero] at this
  simp [Instr.findKey, run_underlying hk, mentry, this]
theorem mp_of {j : Nat} {u : Value} (h : RepV ρ (okB E ρ hp w) w (.mp j) u) : ∃ b m, u = .map (some b) ∧ ρ[j]? = some (some (b, m)) := by
  cases h with | mp _ b m h => exact ⟨b, m, rfl, h⟩
theorem map_of (h : RepH E ρ hp w) {j b m : Nat} {l : List (List UInt8 × Int)} (hj : hp[j]? = some (.map l)) (hk : ρ[j]? = some (some (b, m))) : w.heap[b]? = some (.map (mentry l).toArray l.length) := by
  obtain ⟨_, o, h1, h2⟩ := h.obj j _ b m hj hk (by simp)
  rw [h1]; exact congrArg some h2
theorem str_of {s : List UInt8} {u : Value} (h : RepV ρ (okB E ρ hp w) w (.d (.str s)) u) : u = mkStr s := by
  cases h with | d _ _ h => cases h with | str _ => rfl
theorem int_of {k : IntKind} {n : Int} {u : Value} (h : RepV ρ (okB E ρ hp w) w (.d (.int k n)) u) : u = .int k n := by
  cases h with | d _ _ h => cases h with | int _ _ => rfl

theorem mput_entry (l : List (List UInt8 × Int)) (i : Nat) (n : Int) : (mentry (mput l i n)).toArray = (mentry l).toArray.modify i fun e => { e with val := .int .i64 n } := by
  apply Array.ext'
  rw [Array.toList_modify]
  apply List.ext_getElem?
  intro j
  rw [List.getElem?_modify]
  simp only [mentry, mentryG_get, mput, List.getElem?_modify]
  by_cases e : i = j
  · subst e; cases l[i]? <;> simp
  · cases l[j]? <;> simp [e]
theorem mapp_entry (l : List (List UInt8 × Int)) (s : List UInt8) (v : Int) : (mentry (l ++ [(s, v)])).toArray = (mentry l).toArray.push ⟨mkStr s, .int .i64 v, l.length⟩ := by
  apply Array.ext'
  rw [Array.toList_push]
  apply List.ext_getElem?
  intro j
  simp only [mentry, mentryG_get]
  rcases Nat.lt_trichotomy j l.length with h | h | h
  · rw [List.getElem?_append_left h, List.getElem?_append_left (by rw [mentryG_len]; exact h), mentryG_get]
  · subst h
    rw [List.getElem?_append_right (Nat.le_refl _), List.getElem?_append_right (by rw [mentryG_len]; exact Nat.le_refl _), mentryG_len]; simp
  · rw [List.getElem?_append_right (by omega), List.getElem?_append_right (by rw [mentryG_len]; omega), mentryG_len]
    rw [List.getElem?_eq_none (by simp; omega), List.getElem?_eq_none (by simp; omega)]; rfl

theorem amapSet_sound (hT : TabOk P T) (h : RepH E ρ hp w) (t : TypeId) (x k v : AV) (ux uk uv : Value) (hx : RepV ρ (okB E ρ hp w) w x ux) (hk : RepV ρ (okB E ρ hp w) w k uk) (hv : RepV ρ (okB E ρ hp w) w v uv) (ho : (amapSet T t x k v hp).ok) :
    ∃ w', Does E ρ hp w (.ok .skip w') (amapSet T t x k v hp).v (amapSet T t x k v hp).hp ∧ (Instr.mapUpdate t ux uk uv).run P w = .ok () w' := by
  revert ho
  unfold amapSet
  split
  case h_2 => exact fun h => h.elim
  rename_i j s n
  split
  case h_2 => exact fun h => h.elim
  rename_i l hj
  intro ho
  simp only at ho ⊢
  obtain ⟨b, m, rfl, hb⟩ := mp_of hx
  have := str_of hk
  subst this
  have := int_of hv
  subst this
  unfold isStrIntMap at ho
  split at ho
  case h_2 => exact ho.elim
  rename_i kt et hkt
  obtain ⟨hs, hi, hz⟩ := ho
  have hm := map_of h hj hb
  have hgo := run_getM (P := P) hm
  have hso := fun o => run_setM (P := P) o hm
  have hu := und_map hT hkt
  have hus := und_str hT hs
  have hfk := run_findKey_str (P := P) (w := w) hus s l
  cases hf : mfind s l with
  | none =>
    have e1 : mset l s n = l ++ [(s, n)] := by unfold mset; simp [hf]
    rw [e1]
    rw [hf] at hfk
    simp only [Option.map_none] at hfk
    refine ⟨setB w b (.map ((mentry l).toArray.push ⟨mkStr s, .int .i64 n, l.length⟩) (l.length + 1)), ⟨_, _, _, .inr ⟨rfl, rfl⟩, HStep.setO h hj (by simp) (x' := .map (l ++ [(s, n)])) (by simp) hb ?_, .any _⟩, ?_⟩
    · show _ = Obj.map _ _
      rw [mapp_entry]; simp
    · simp [Instr.mapUpdate, run_underlying hu, hgo, hso, run_checkKey_str hus, hfk]
  | some p =>
    have e1 : mset l s n = mput l p n := by unfold mset; simp [hf]
    rw [e1]
    obtain ⟨hp1, hp2⟩ := mfind_lt hf
    rw [hf] at hfk
    simp only [Option.map_some] at hfk
    have he : (mentry l)[p]? = some ⟨mkStr s, .int .i64 (l.getD p ([], 0)).2, p⟩ := by
      rw [mentry, mentryG_get, List.getElem?_eq_getElem hp1]
      rw [List.getD_eq_getElem?_getD, List.getElem?_eq_getElem hp1] at hp2 ⊢
      simp at hp2; simp [hp2]
    have hmod : (mentry l).modify p (fun e => { e with key := mkStr s, val := .int .i64 n }) = mentry (mput l p n) := by
      have := congrArg Array.toList (mput_entry l p n)
      simp only [Array.toList_modify] at this
      rw [this]
      apply List.ext_getElem?
      intro j
      rw [List.getElem?_modify, List.getElem?_modify]
      by_cases e : p = j
      · subst e; rw [he]; simp
      · cases (mentry l)[j]? <;> simp [e]
    have hk2 : Instr.keyThatStays (mkStr s) (mkStr s) = pure (mkStr s) := by
      unfold Instr.keyThatStays
      simp [Instr.sameBits, mkStr, mkStr_beq]
    refine ⟨setB w b (.map (mentry (mput l p n)).toArray l.length), ⟨_, _, _, .inr ⟨rfl, rfl⟩, HStep.setO h hj (by simp) (x' := .map (mput l p n)) (by simp) hb ?_, .any _⟩, ?_⟩
    · show _ = Obj.map _ _
      simp [mput]
    · simp [Instr.mapUpdate, run_underlying hu, hgo, hso, run_checkKey_str hus, hfk, he, hk2, hmod, -List.getD_eq_getElem?_getD]

theorem amapLook_sound (hT : TabOk P T) (h : RepH E ρ hp w) (t : TypeId) (x k : AV) (ux uk : Value) (hx : RepV ρ (okB E ρ hp w) w x ux) (hk : RepV ρ (okB E ρ hp w) w k uk) (ho : (amapLook T t x k hp).ok) :
    ∃ u, RepV ρ (okB E ρ hp w) w (amapLook T t x k hp).v u ∧ (Instr.lookup t ux uk false).run P w = .ok u w := by
  revert ho
  unfold amapLook
  split
  case h_2 => exact fun h => h.elim
  rename_i j s
  split
  case h_2 => exact fun h => h.elim
  rename_i l hj
  intro ho
  simp only at ho ⊢
  obtain ⟨b, m, rfl, hb⟩ := mp_of hx
  have := str_of hk
  subst this
  unfold isStrIntMap at ho
  split at ho
  case h_2 => exact ho.elim
  rename_i kt et hkt
  obtain ⟨hs, hi, hz⟩ := ho
  have hm := map_of h hj hb
  have hgo := run_getM (P := P) hm
  have hso := fun o => run_setM (P := P) o hm
  have hu := und_map hT hkt
  have hus := und_str hT hs
  have hfk := run_findKey_str (P := P) (w := w) hus s l
  refine ⟨.int .i64 (mval l s), .d _ _ (.int _ _), ?_⟩
  cases hf : mfind s l with
  | none =>
    obtain ⟨z, hz1, _, hz2⟩ := run_zero (P := P) hT (t := et) (by rw [hi]; simp)
    have hz3 : z = .int .i64 0 := by
      unfold TI.agg at hz2
      rw [hi, hz] at hz2
      simpa [DV.val] using hz2
    subst hz3
    have e3 : mval l s = 0 := by unfold mval; simp [hf]
    rw [hf] at hfk
    simp only [Option.map_none] at hfk
    rw [e3]
    simp [Instr.lookup, run_underlying hu, hgo, hso, run_checkKey_str hus, hfk, hz1]
  | some p =>
    have e3 : mval l s = (l.getD p ([], 0)).2 := by unfold mval; simp [hf]
    rw [hf] at hfk
    simp only [Option.map_some] at hfk
    rw [e3]
    simp [Instr.lookup, run_underlying hu, hgo, hso, run_checkKey_str hus, hfk]
end
end Go.Proofs.YtfnilhdofopoeabDoor
