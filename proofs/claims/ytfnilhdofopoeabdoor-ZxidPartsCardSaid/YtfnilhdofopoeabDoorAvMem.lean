/- Operations that make or write memory: what they do to abstract values and to the call's own blocks. It holds over any program whose types read as the table says. -/
import Derived.Test.YtfnilhdofopoeabDoorAvHeap
namespace Go.Proofs.YtfnilhdofopoeabDoor
set_option linter.unusedVariables false
set_option linter.unusedSimpArgs false
open Go Go.RowKit

structure MR where
  ok : Prop
  v : AV
  hp : List ABlk

def dvOf : AV → Option DV
  | .d x => some x
  | _ => none
def dvsOf : List AV → Option (List DV)
  | [] => some []
  | x :: r => match dvOf x, dvsOf r with
    | some y, some l => some (y :: l)
    | _, _ => none
/-- Cells cut into rows, where all of them are data. -/
def chunk (sz : Nat) : Nat → List AV → Option (List (List DV))
  | 0, _ => some []
  | n + 1, cs => match dvsOf (cs.take sz), chunk sz n (cs.drop sz) with
    | some r, some l => some (r :: l)
    | _, _ => none
def blkOf (sz n : Nat) (cs : List AV) : ABlk :=
  match chunk sz n cs with
  | some rows => .rows sz rows
  | none => .cells cs
theorem blkOf_obj (sz n : Nat) (cs : List AV) : (blkOf sz n cs).isObj = false := by unfold blkOf; split <;> rfl

def aalloc (ti : TI) (hp : List ABlk) : MR := ⟨(ti.kind matches .other) = false, .ptr hp.length 0, hp ++ [.cells (ti.zero.map .d)]⟩
def abox (x : AV) (hp : List ABlk) : MR := ⟨gdok x ∧ isTup (strip x) = false, .ptr hp.length 0, hp ++ [.cells (acells (strip x))]⟩
def abuildSlice (T : TypeId → TI) (ti : TI) (len : Nat) (parts : List (Nat × AV)) (hp : List ABlk) : MR :=
  match ti.kind with
  | .slice e => ⟨len * (T e).size ≤ 2 ^ 24 ∧ 0 < (T e).size ∧ (fillA (fun i => some (i * (T e).size, (T e).size)) parts ((List.replicate len (T e).zero).flatten.map .d)).1 ∧ ((T e).kind matches .other) = false,
      .osl hp.length (T e).size 0 len, hp ++ [blkOf (T e).size len (fillA (fun i => some (i * (T e).size, (T e).size)) parts ((List.replicate len (T e).zero).flatten.map .d)).2]⟩
  | _ => ⟨False, .any, hp⟩
def amake (T : TypeId → TI) (ti : TI) (x y : AV) (hp : List ABlk) : MR :=
  match ti.kind, x, y with
  | .slice e, .d (.int _ l), .d (.int _ c) => ⟨0 ≤ l ∧ l ≤ c ∧ ((T e).bytes : Int) * c ≤ 281474976710656 ∧ c ≤ 9223372036854775807 ∧ 0 < (T e).size ∧ ((T e).kind matches .other) = false,
      .osl hp.length (T e).size 0 l.toNat, hp ++ [.rows (T e).size (List.replicate l.toNat (T e).zero)]⟩
  | _, _, _ => ⟨False, .any, hp⟩

def spl {α : Type} (l news : List α) (off : Nat) : List α :=
  match news with
  | [x] => l.set off x
  | _ => l.take off ++ news ++ l.drop (off + news.length)

def astore (ti : TI) (x v : AV) (hp : List ABlk) : MR :=
  match x with
  | .ptr k off =>
    (match hp[k]? with
    | some (.cells cs) => ⟨isTup v = false ∧ (acells v).length = ti.size ∧ off + ti.size ≤ cs.length ∧ (ti.kind matches .other) = false, .any, hp.set k (.cells (spl cs (acells v) off))⟩
    | _ => ⟨False, .any, hp⟩)
  | .rp k sz i off =>
    (match hp[k]?, dvsOf (acells v) with
    | some (.rows sz' rs), some ds => ⟨sz = sz' ∧ isTup v = false ∧ ds.length = ti.size ∧ i < rs.length ∧ off + ti.size ≤ sz ∧ (ti.kind matches .other) = false, .any, hp.set k (.rows sz' (rs.set i (spl (rs.getD i []) ds off)))⟩
    | _, _ => ⟨False, .any, hp⟩)
  | _ => ⟨False, .any, hp⟩

section
variable {P : Program} {E : Ent} {ρ : List (Option (Nat × Nat))} {hp : List ABlk} {w : World}

/-- The operation has run: its value, and memory behind it. -/
def Does (E : Ent) (ρ : List (Option (Nat × Nat))) (hp : List ABlk) (w : World) (r : Result Next) (v : AV) (hp' : List ABlk) : Prop :=
  ∃ u w' ρ', (r = .ok (.value u) w' ∨ (r = .ok .skip w' ∧ u = undef)) ∧ HStep E ρ hp w ρ' hp' w' ∧ RepV ρ' (okB E ρ' hp' w') w' v u

theorem dvsOf_get : ∀ {cs : List AV} {ds : List DV}, dvsOf cs = some ds → cs = ds.map .d
  | [], ds, h => by simp [dvsOf] at h; subst h; rfl
  | x :: r, ds, h => by
    cases x with
    | d y =>
      simp only [dvsOf, dvOf] at h
      cases hr : dvsOf r with
      | none => simp [hr] at h
      | some l =>
        simp [hr] at h
        subst h
        have := dvsOf_get hr
        simp [this]
    | _ => simp [dvsOf, dvOf] at h

theorem chunk_get {sz : Nat} : ∀ {n : Nat} {cs : List AV} {rows : List (List DV)}, chunk sz n cs = some rows → cs.length = n * sz →
    (∀ r, r ∈ rows → r.length = sz) ∧ rows.length = n ∧ ∀ (i : Nat) (r : List DV), rows[i]? = some r → ∀ (j : Nat) (c : DV), r[j]? = some c → cs[i * sz + j]? = some (.d c)
  | 0, cs, rows, h, hl => by simp [chunk] at h; subst h; simp
  | n + 1, cs, rows, h, hl => by
    simp only [chunk] at h
    cases h1 : dvsOf (cs.take sz) with
    | none => simp [h1] at h
    | some r0 =>
      cases h2 : chunk sz n (cs.drop sz) with
      | none => simp [h1, h2] at h
      | some l =>
        simp [h1, h2] at h
        subst h
        rw [Nat.add_mul] at hl
        obtain ⟨a1, a2, a3⟩ := chunk_get h2 (by simp; omega)
        have e1 := dvsOf_get h1
        have el : r0.length = sz := by
          have := congrArg List.length e1
          simp at this; omega
        refine ⟨fun r hr => ?_, by simp [a2], fun i r hi j c hj => ?_⟩
        · rcases List.mem_cons.1 hr with rfl | hr
          · exact el
          · exact a1 r hr
        · match i with
          | 0 =>
            simp at hi; subst hi
            have hjl : j < sz := el ▸ (List.getElem?_eq_some_iff.1 hj).1
            have : (cs.take sz)[j]? = some (.d c) := by rw [e1, List.getElem?_map, hj]; rfl
            rw [List.getElem?_take, if_pos hjl] at this
            simpa using this
          | i + 1 =>
            have := a3 i r (by simpa using hi) j c hj
            rw [List.getElem?_drop] at this
            rw [show (i + 1) * sz + j = sz + (i * sz + j) from by rw [Nat.add_mul]; omega]
            exact this

theorem repBlk_blkOf {ok : Nat → Prop} {us : Array Value} {sz n : Nat} {cs : List AV} (hsz : us.size = cs.length) (hcl : cs.length = n * sz) (hone : ∀ u, u ∈ us.toList → u.oneCell' = true)
    (hr : ∀ (j : Nat) (c : AV) (u : Value), cs[j]? = some c → us[j]? = some u → RepV ρ ok w c u) : RepBlk ρ ok w us (blkOf sz n cs) := by
  unfold blkOf
  split
  · rename_i rows hc
    obtain ⟨a1, a2, a3⟩ := chunk_get hc hcl
    refine ⟨hone, a1, by rw [a2, hsz, hcl]; exact Nat.le_refl _, fun i r hi j c u hj hu => ?_⟩
    have := hr _ _ _ (a3 i r hi j c hj) hu
    cases this with | d _ _ h => exact h
  · exact ⟨hone, hsz, hr⟩

theorem repBlk_cells {ok : Nat → Prop} {us : Array Value} {cs : List AV} (hsz : us.size = cs.length) (hone : ∀ u, u ∈ us.toList → u.oneCell' = true)
    (hr : ∀ (j : Nat) (c : AV) (u : Value), cs[j]? = some c → us[j]? = some u → RepV ρ ok w c u) : RepBlk ρ ok w us (.cells cs) := ⟨hone, hsz, hr⟩

theorem noFz0 (us : Array Value) : noFz us (0, 0) := fun j _ h => by omega
theorem plain0 (x : ABlk) (us : Array Value) : plain x us (0, 0) := .inr (by omega)

theorem rho_new {us : Array Value} {hp : List ABlk} (h : RepH E ρ hp w) : (ρ ++ [some (w.heap.size, us.size)])[hp.length]? = some (some (w.heap.size, us.size)) := by
  rw [← h.len]; simp

theorem aalloc_sound {T : TypeId → TI} (hT : TabOk P T) (h : RepH E ρ hp w) (t : TypeId) (hk : (aalloc (T t) hp).ok) :
    ∃ u, Does E ρ hp w (.ok (.value u) (pushB w (.cells ((T t).zero.map DV.val).toArray t))) (aalloc (T t) hp).v (aalloc (T t) hp).hp ∧
      (Instr.alloc t true (.tuple #[])).run P w = .ok u (pushB w (.cells ((T t).zero.map DV.val).toArray t)) := by
  have hko := isOther_false hk
  obtain ⟨z, hz1, hz2, _⟩ := run_zero (P := P) hT hko
  have hz3 : z.cells = ((T t).zero.map DV.val).toArray := by rw [← hz2]
  refine ⟨.pointer (some ⟨w.heap.size, 0, none⟩), ⟨_, _, _, .inl rfl, HStep.push h _ t (0, 0) (.cells ((T t).zero.map .d)) (noFz0 _) (plain0 _ _) (repBlk_cells (by simp) (fun u hu => zero_one hT hko u (by simpa using hu)) fun j c u hc hu => zero_rep hT hko j c u hc (by simpa using hu)), ?_⟩, ?_⟩
  · exact .ptr _ 0 _ _ (rho_new h)
  · simp [Instr.alloc, hz1, newVar, newRow, hz3, pushB]

theorem abox_sound (h : RepH E ρ hp w) (t : TypeId) (x : AV) (ux : Value) (hx : RepV ρ (okB E ρ hp w) w x ux) (hk : (abox x hp).ok) :
    ∃ u w', Does E ρ hp w (.ok (.value u) w') (abox x hp).v (abox x hp).hp ∧ (Instr.box t ux).run P w = .ok u w' := by
  obtain ⟨hg, ht⟩ := hk
  obtain ⟨h1, h2, h3⟩ := acells_ok (strip_ok hx hg) ht
  refine ⟨.pointer (some ⟨w.heap.size, 0, none⟩), pushB w (.cells ux.cells t), ⟨_, _, _, .inl rfl, HStep.push h _ t (0, 0) (.cells (acells (strip x))) (noFz0 _) (plain0 _ _) (repBlk_cells (by simpa using h1) h2 (fun j c u hc hu => h3 j c u hc (by simpa using hu))), .ptr _ 0 _ _ (rho_new h)⟩, ?_⟩
  simp [Instr.box, newVar, newRow, pushB]

theorem madeCells_list {T : TypeId → TI} (hT : TabOk P T) {e : TypeId} (hk : (T e).kind ≠ .other) {z : Value} (hz : z.cells.toList = (T e).zero.map DV.val) (hsz : 0 < (T e).size) (n : Nat) :
    ((Array.range (n * (T e).size)).map (z.cells[· % z.cells.size]!)).toList = ((List.replicate n (T e).zero).flatten).map DV.val := by
  have hzl := (tab_und hT hk).zl
  have hzs : z.cells.size = (T e).size := by rw [← Array.length_toList, hz, List.length_map, hzl]
  have key : ∀ n, (List.range (n * (T e).size)).map (fun i => z.cells[i % z.cells.size]!) = ((List.replicate n (T e).zero).flatten).map DV.val := by
    intro n
    induction n with
    | zero => simp
    | succ n ih =>
      rw [Nat.add_mul, Nat.one_mul, List.range_add, List.map_append, ih, List.replicate_succ', List.flatten_append, List.map_append]
      congr 1
      simp only [List.flatten_cons, List.flatten_nil, List.append_nil, ← hz, List.map_map]
      apply List.ext_getElem?
      intro j
      by_cases hj : j < (T e).size
      · have hj' : j < z.cells.size := by omega
        have em : (n * (T e).size + j) % (T e).size = j := by
          rw [Nat.add_comm, Nat.add_mul_mod_self_right, Nat.mod_eq_of_lt hj]
        simp [hj, hj', hzs, em]
      · rw [List.getElem?_eq_none (by simp; omega), List.getElem?_eq_none (by simp; omega)]
  have := key n
  simpa using this

theorem abuildSlice_sound {T : TypeId → TI} (hT : TabOk P T) (h : RepH E ρ hp w) (t : TypeId) (len : Nat) (parts : List (Nat × AV)) (vparts : List (Nat × Value)) (hl : vparts.length = parts.length)
    (hp' : ∀ (j : Nat) (x : Nat × AV) (y : Nat × Value), parts[j]? = some x → vparts[j]? = some y → y.1 = x.1 ∧ RepV ρ (okB E ρ hp w) w x.2 y.2) (hk : (abuildSlice T (T t) len parts hp).ok) :
    ∃ u w', Does E ρ hp w (.ok (.value u) w') (abuildSlice T (T t) len parts hp).v (abuildSlice T (T t) len parts hp).hp ∧ (Instr.buildSlice t len vparts.toArray).run P w = .ok u w' := by
  revert hk
  unfold abuildSlice
  split
  · rename_i e hke
    intro ⟨hlim, hpos, hfill, hko⟩
    have hko := isOther_false hko
    obtain ⟨z, hz1, hz2, _⟩ := run_zero (P := P) hT hko
    have hmade := madeCells_list hT hko hz2 hpos len
    obtain ⟨us, e1, e2, e3, e4⟩ := run_fillA (ρ := ρ) (ok := okB E ρ hp w) (w := w) (place := fun i => some (i * (T e).size, (T e).size)) parts vparts ((List.replicate len (T e).zero).flatten.map .d)
      ((Array.range (len * (T e).size)).map (z.cells[· % z.cells.size]!)) hl hp'
      (by rw [← Array.length_toList, hmade]; simp)
      (fun u hu => by
        rw [hmade] at hu
        obtain ⟨x, hx, rfl⟩ := List.mem_map.1 hu
        obtain ⟨l, hl1, hl2⟩ := List.mem_flatten.1 hx
        have := (List.mem_replicate.1 hl1).2
        subst this
        exact zero_one hT hko _ (List.mem_map.2 ⟨x, hl2, rfl⟩))
      (fun j c u hc hu => by
        have hu' : (((List.replicate len (T e).zero).flatten).map DV.val)[j]? = some u := by rw [← hmade, Array.getElem?_toList]; exact hu
        rw [List.getElem?_map] at hc hu'
        obtain ⟨x, hx, rfl⟩ := Option.map_eq_some_iff.1 hc
        rw [hx] at hu'
        simp at hu'
        subst hu'
        obtain ⟨l, hl1, hl2⟩ := List.mem_flatten.1 (List.mem_of_getElem? hx)
        have := (List.mem_replicate.1 hl1).2
        subst this
        have := (tab_und hT hko).one x hl2
        exact .d _ _ (rep_val this.1 this.2)) hfill
    have hlen : (fillA (fun i => some (i * (T e).size, (T e).size)) parts ((List.replicate len (T e).zero).flatten.map .d)).2.length = len * (T e).size := by
      have key : ∀ (parts : List (Nat × AV)) (cs : List AV), (fillA (fun i => some (i * (T e).size, (T e).size)) parts cs).1 → (fillA (fun i => some (i * (T e).size, (T e).size)) parts cs).2.length = cs.length := by
        intro parts
        induction parts with
        | nil => intro cs _; rfl
        | cons p rest ih =>
          intro cs hh
          obtain ⟨i, v⟩ := p
          simp only [fillA] at hh ⊢
          rw [ih _ hh.2.2.2, length_splice _ _ _ hh.2.1]
      rw [key _ _ hfill]
      have := (tab_und hT hko).zl
      have hrep : ∀ n : Nat, ((List.replicate n (T e).zero).flatten).length = n * (T e).size := by
        intro n
        induction n with
        | zero => simp
        | succ n ih => rw [List.replicate_succ, List.flatten_cons, List.length_append, ih, this, Nat.add_mul]; omega
      rw [List.length_map, hrep]
    refine ⟨.slice (some ⟨w.heap.size, 0, none⟩) len len, pushB w (.cells us e), ⟨_, _, _, .inl rfl, HStep.push h _ e (0, 0) (blkOf (T e).size len (fillA (fun i => some (i * (T e).size, (T e).size)) parts ((List.replicate len (T e).zero).flatten.map .d)).2) (noFz0 _) (plain0 _ _) (repBlk_blkOf e2 hlen e3 e4) (blkOf_obj _ _ _), ?_⟩, ?_⟩
    · have := RepV.osl (ρ := ρ ++ [some (w.heap.size, us.size)]) (ok := okB E (ρ ++ [some (w.heap.size, us.size)]) (hp ++ [blkOf (T e).size len (fillA (fun i => some (i * (T e).size, (T e).size)) parts ((List.replicate len (T e).zero).flatten.map .d)).2]) (pushB w (.cells us e))) (w := pushB w (.cells us e)) hp.length (T e).size 0 len w.heap.size us.size len (rho_new h) (by rw [e2, hlen, Nat.zero_add]) (Nat.le_refl _)
      simpa using this
    · have hlim' : ¬ (2 ^ 24 < len * (T e).size) := by omega
      by_cases hz0 : len * (T e).size = 0
      · have hz : (Array.range (len * (T e).size)).map (z.cells[· % z.cells.size]!) = #[] := by
          rw [hz0]; simp [Array.range_zero']
        rw [hz] at e1
        simp [Instr.buildSlice, run_underlying (und_slice hT hke), run_sizeOf_tab hT hko, hz0, Array.range_zero', e1, newRow, pushB]
      · simp [Instr.buildSlice, run_underlying (und_slice hT hke), run_sizeOf_tab hT hko, hlim', hz0, hz1, e1, newRow, pushB]
  · intro h; exact h.elim

theorem amake_sound {T : TypeId → TI} (hT : TabOk P T) (h : RepH E ρ hp w) (t : TypeId) (x y : AV) (ux uy : Value) (hx : RepV ρ (okB E ρ hp w) w x ux) (hy : RepV ρ (okB E ρ hp w) w y uy)
    (hk : (amake T (T t) x y hp).ok) :
    ∃ u w', Does E ρ hp w (.ok (.value u) w') (amake T (T t) x y hp).v (amake T (T t) x y hp).hp ∧ (Instr.makeSlice t ux uy).run P w = .ok u w' := by
  revert hk
  unfold amake
  split
  · rename_i e kl l kc c hke
    intro ⟨h0, hlc, hby, h63, hpos, hko⟩
    have hko := isOther_false hko
    cases hx with | d _ _ hx => cases hx with | int _ _ =>
    cases hy with | d _ _ hy => cases hy with | int _ _ =>
    obtain ⟨i, z, hi1, hi2, hi3, hi4, hi5⟩ := (tab_und hT hko).info
    obtain ⟨z', hz1, hz2, _⟩ := run_zero (P := P) hT hko
    have hzz : z' = z := by
      have := hz1 w
      simp [zeroValue, typeInfo, hi1, hi4] at this
      exact this.symm
    subst hzz
    have hrun := run_make (P := P) w t e i z' (und_slice hT hke) hi1 hi4 kl kc l c h0 hlc (by rw [hi3]; exact hby) h63
    rw [hi2] at hrun
    have hmade : (madeCells z'.cells (c.toNat * (T e).size)).toList = ((List.replicate c.toNat (T e).zero).flatten).map DV.val := madeCells_list hT hko hz2 hpos c.toNat
    refine ⟨_, pushB w (.cells (madeCells z'.cells (c.toNat * (T e).size)) e), ⟨_, _, _, .inl rfl, HStep.push h _ e (0, 0) (.rows (T e).size (List.replicate l.toNat (T e).zero)) (noFz0 _) (plain0 _ _) ⟨?_, ?_, ?_, ?_⟩, ?_⟩, hrun⟩
    · intro u hu
      rw [hmade] at hu
      obtain ⟨x, hx, rfl⟩ := List.mem_map.1 hu
      obtain ⟨q, hl1, hl2⟩ := List.mem_flatten.1 hx
      have := (List.mem_replicate.1 hl1).2
      subst this
      exact zero_one hT hko _ (List.mem_map.2 ⟨x, hl2, rfl⟩)
    · intro r hr
      rw [(List.mem_replicate.1 hr).2]
      exact (tab_und hT hko).zl
    · rw [size_madeCells, List.length_replicate]
      exact Nat.mul_le_mul_right _ (by omega)
    · intro q r hq j x u hj hu
      obtain ⟨hq1, hq2⟩ := List.getElem?_eq_some_iff.1 hq
      simp at hq1 hq2
      subst hq2
      have hjl : j < (T e).size := by rw [← (tab_und hT hko).zl]; exact (List.getElem?_eq_some_iff.1 hj).1
      have hzs : z'.cells.size = (T e).size := by rw [← Array.length_toList, hz2, List.length_map, (tab_und hT hko).zl]
      have hlt : q * (T e).size + j < c.toNat * (T e).size := by
        have : (q + 1) * (T e).size ≤ c.toNat * (T e).size := Nat.mul_le_mul_right _ (by omega)
        rw [Nat.add_mul] at this
        omega
      have em : (q * (T e).size + j) % (T e).size = j := by
        rw [Nat.add_comm, Nat.add_mul_mod_self_right, Nat.mod_eq_of_lt hjl]
      have hu2 : u = x.val := by
        have h1 : (z'.cells.toList)[j]? = some x.val := by rw [hz2, List.getElem?_map, hj]; rfl
        simp [madeCells, hlt, hzs, em] at hu
        have hjz : j < z'.cells.size := by omega
        rw [Array.getElem?_toList, Array.getElem?_eq_getElem hjz] at h1
        simp [hjz] at hu
        injection h1 with h1
        rw [← hu, h1]
      subst hu2
      have := (tab_und hT hko).one x (List.mem_of_getElem? hj)
      exact rep_val this.1 this.2
    · have := RepV.osl (ρ := ρ ++ [some (w.heap.size, (madeCells z'.cells (c.toNat * (T e).size)).size)]) (ok := okB E (ρ ++ [some (w.heap.size, (madeCells z'.cells (c.toNat * (T e).size)).size)]) (hp ++ [.rows (T e).size (List.replicate l.toNat (T e).zero)]) (pushB w (.cells (madeCells z'.cells (c.toNat * (T e).size)) e))) (w := pushB w (.cells (madeCells z'.cells (c.toNat * (T e).size)) e)) hp.length (T e).size 0 l.toNat w.heap.size _ c.toNat (rho_new h) (by rw [size_madeCells, Nat.zero_add]) (by omega)
      simpa using this
  · intro h; exact h.elim
end
end Go.Proofs.YtfnilhdofopoeabDoor
