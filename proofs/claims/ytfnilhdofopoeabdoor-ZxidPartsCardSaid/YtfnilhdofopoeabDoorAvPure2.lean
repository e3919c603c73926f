/- The model's pure operations do what the abstract ones say. It holds over any program whose types read as the table says. -/
import Derived.Test.YtfnilhdofopoeabDoorAvEq
namespace Go.Proofs.YtfnilhdofopoeabDoor
set_option linter.unusedVariables false
set_option linter.unusedSimpArgs false
open Go Go.RowKit

section
variable {P : Program} {ρ : List (Option (Nat × Nat))} {ok : Nat → Prop} {w : World}

theorem mk_toList (l : List UInt8) : (⟨l.toArray⟩ : ByteArray).toList = l := by
  simp [ByteArray.toList_eq]
theorem mk_size (l : List UInt8) : (⟨l.toArray⟩ : ByteArray).size = l.length := rfl
theorem mk_append (a b : List UInt8) : (⟨a.toArray⟩ : ByteArray) ++ ⟨b.toArray⟩ = ⟨(a ++ b).toArray⟩ := by
  apply ByteArray.ext
  simp
theorem mk_extract (l : List UInt8) (a b : Nat) : (⟨l.toArray⟩ : ByteArray).extract a b = ⟨((l.drop a).take (b - a)).toArray⟩ := by
  apply ByteArray.ext
  simp [ByteArray.data_extract, List.extract_eq_take_drop]
theorem mk_inj {a b : List UInt8} : ((⟨a.toArray⟩ : ByteArray) = ⟨b.toArray⟩) ↔ a = b := by
  constructor
  · intro h; have := congrArg ByteArray.data h; simpa using this
  · intro h; rw [h]

theorem beq_int (a b : Int) : (a == b) = decide (a = b) := by
  by_cases h : a = b
  · subst h; simp
  · rw [decide_eq_false h]; simpa using h
theorem beq_str (a b : List UInt8) : (a == b) = decide (a = b) := by
  by_cases h : a = b
  · subst h; simp
  · rw [decide_eq_false h]; simpa using h

theorem run_binInt (op : BinOp) (t : TypeId) (k k' : IntKind) (a b : Int) (h : (binInt op k k' a b).ok) :
    ∃ u, RepV ρ ok w (binInt op k k' a b).v u ∧ ∀ w', (Go.binOp op t (.int k a) (.int k' b)).run P w' = .ok u w' := by
  cases op <;> simp only [binInt] at h ⊢
  case quo =>
    obtain ⟨rfl, hb⟩ := h
    exact ⟨_, .d _ _ (.int _ _), fun w' => by simp [Go.binOp, Op.intDiv, hb]⟩
  case rem =>
    obtain ⟨rfl, hb⟩ := h
    exact ⟨_, .d _ _ (.int _ _), fun w' => by simp [Go.binOp, Op.intDiv, hb]⟩
  case shl => exact ⟨_, .d _ _ (.int _ _), fun w' => by simp only [Go.binOp]; rw [shift_shl _ _ _ _ h.1 h.2]; rfl⟩
  case shr => exact ⟨_, .d _ _ (.int _ _), fun w' => by simp only [Go.binOp]; rw [shift_shr _ _ _ _ h.1 h.2]; rfl⟩
  all_goals subst h
  case eql => exact ⟨_, .d _ _ (.bool _), fun w' => by simp [Go.binOp, Op.intCmp, beq_int]⟩
  case neq => exact ⟨_, .d _ _ (.bool _), fun w' => by simp [Go.binOp, Op.intCmp, bne, beq_int]⟩
  case lss => exact ⟨_, .d _ _ (.bool _), fun w' => by simp [Go.binOp, Op.intCmp]⟩
  case leq => exact ⟨_, .d _ _ (.bool _), fun w' => by simp [Go.binOp, Op.intCmp]⟩
  case gtr => exact ⟨_, .d _ _ (.bool _), fun w' => by simp [Go.binOp, Op.intCmp]⟩
  case geq => exact ⟨_, .d _ _ (.bool _), fun w' => by simp [Go.binOp, Op.intCmp]⟩
  case add => exact ⟨_, .d _ _ (.int _ _), fun w' => by simp [Go.binOp, Op.intArith]⟩
  case sub => exact ⟨_, .d _ _ (.int _ _), fun w' => by simp [Go.binOp, Op.intArith]⟩
  case mul => exact ⟨_, .d _ _ (.int _ _), fun w' => by simp [Go.binOp, Op.intArith]⟩
  case and => exact ⟨_, .d _ _ (.int _ _), fun w' => by simp [Go.binOp, intBits_and]⟩
  case or => exact ⟨_, .d _ _ (.int _ _), fun w' => by simp [Go.binOp, intBits_or]⟩
  case xor => exact ⟨_, .d _ _ (.int _ _), fun w' => by simp [Go.binOp, intBits_xor]⟩
  case andNot => exact ⟨_, .d _ _ (.int _ _), fun w' => by simp [Go.binOp, intBits_andNot]⟩

theorem max_i64 : IntKind.max .i64 = 9223372036854775807 := by decide

theorem run_binStr (op : BinOp) (t : TypeId) (a b : List UInt8) (h : (binStr op a b).ok) :
    ∃ u, RepV ρ ok w (binStr op a b).v u ∧ ∀ w', (Go.binOp op t (mkStr a) (mkStr b)).run P w' = .ok u w' := by
  have e : ∀ x : List UInt8, (⟨x.toArray⟩ : ByteArray).toList = x := mk_toList
  cases op <;> simp only [binStr] at h ⊢
  case add =>
    refine ⟨_, .d _ _ (.str _), fun w' => ?_⟩
    have hs : ¬ ((((⟨a.toArray⟩ : ByteArray).size + (⟨b.toArray⟩ : ByteArray).size : Nat) : Int) > IntKind.i64.max) := by
      rw [max_i64, mk_size, mk_size]; omega
    simp only [mkStr, Go.binOp, Op.stringOp, if_neg hs, Sem.run_pure, mk_append]
  case eql => exact ⟨_, .d _ _ (.bool _), fun w' => by simp [mkStr, Go.binOp, Op.stringOp, e, beq_str]⟩
  case neq => exact ⟨_, .d _ _ (.bool _), fun w' => by simp [mkStr, Go.binOp, Op.stringOp, e, beq_str]⟩
  case lss => exact ⟨_, .d _ _ (.bool _), fun w' => by simp [mkStr, Go.binOp, Op.stringOp, e, strLt]⟩
  case leq => exact ⟨_, .d _ _ (.bool _), fun w' => by simp [mkStr, Go.binOp, Op.stringOp, e, strLt, beq_str]⟩
  case gtr => exact ⟨_, .d _ _ (.bool _), fun w' => by simp [mkStr, Go.binOp, Op.stringOp, e, strLt, beq_str]⟩
  case geq => exact ⟨_, .d _ _ (.bool _), fun w' => by simp [mkStr, Go.binOp, Op.stringOp, e, strLt]⟩

theorem run_eql_bool (t : TypeId) (a b : Bool) (ht : P.underlying t = some .bool) (w' : World) :
    (Op.equal t (.bool a) (.bool b)).run P w' = .ok (a == b) w' := by
  have h : ∀ d : Nat, (Op.equalIn (d + 1) t (.bool a) (.bool b)).run P w' = .ok (a == b) w' := fun d => by
    simp [Op.equalIn, run_underlying ht]
  simp only [Op.equal, Op.maxDepth]
  exact h 9999

theorem run_binBool (ti : TI) (op : BinOp) (t : TypeId) (a b : Bool) (ht : ti.kind = .bool → P.underlying t = some .bool) (h : (binBool ti op a b).ok) :
    ∃ u, RepV ρ ok w (binBool ti op a b).v u ∧ ∀ w', (Go.binOp op t (.bool a) (.bool b)).run P w' = .ok u w' := by
  revert h
  unfold binBool
  split
  · rename_i hk; intro _; exact ⟨_, .d _ _ (.bool _), fun w' => by simp [Go.binOp, run_eql_bool t a b (ht hk)]⟩
  · rename_i hk; intro _; exact ⟨_, .d _ _ (.bool _), fun w' => by simp [Go.binOp, run_eql_bool t a b (ht hk)]⟩
  · intro h; exact h.elim

theorem tab_und {T : TypeId → TI} (hT : TabOk P T) {t : TypeId} (hk : (T t).kind ≠ .other) : TyOk P t (T t) := by
  have := hT t
  cases e : (T t).kind <;> simp only [e] at this hk <;> first | exact this | exact absurd rfl hk

theorem und_bool {T : TypeId → TI} (hT : TabOk P T) {t : TypeId} (hk : (T t).kind = .bool) : P.underlying t = some .bool := by
  obtain ⟨d, hd, h⟩ := (tab_und hT (t := t) (by rw [hk]; simp)).und
  rw [hk] at h; rw [hd, h]
theorem und_str {T : TypeId → TI} (hT : TabOk P T) {t : TypeId} (hk : (T t).kind = .str) : P.underlying t = some .string := by
  obtain ⟨d, hd, h⟩ := (tab_und hT (t := t) (by rw [hk]; simp)).und
  rw [hk] at h; rw [hd, h]
theorem und_int {T : TypeId → TI} (hT : TabOk P T) {t : TypeId} {k : IntKind} (hk : (T t).kind = .int k) : P.underlying t = some (.int k) := by
  obtain ⟨d, hd, h⟩ := (tab_und hT (t := t) (by rw [hk]; simp)).und
  rw [hk] at h; rw [hd, h]
theorem und_slice {T : TypeId → TI} (hT : TabOk P T) {t e : TypeId} (hk : (T t).kind = .slice e) : P.underlying t = some (.slice e) := by
  obtain ⟨d, hd, h⟩ := (tab_und hT (t := t) (by rw [hk]; simp)).und
  rw [hk] at h; rw [hd, h]
theorem und_array {T : TypeId → TI} (hT : TabOk P T) {t e : TypeId} {n : Nat} (hk : (T t).kind = .array n e) : P.underlying t = some (.array n e) := by
  obtain ⟨d, hd, h⟩ := (tab_und hT (t := t) (by rw [hk]; simp)).und
  rw [hk] at h; rw [hd, h]
theorem und_struct {T : TypeId → TI} (hT : TabOk P T) {t : TypeId} {fs : List (Nat × Nat × TypeId)} (hk : (T t).kind = .struct fs) :
    ∃ fields, P.underlying t = some (.struct fields) ∧ fields.size = fs.length ∧ fieldsOk P fields fs := by
  obtain ⟨d, hd, h⟩ := (tab_und hT (t := t) (by rw [hk]; simp)).und
  rw [hk] at h
  obtain ⟨fields, rfl, h1, h2⟩ := h
  exact ⟨fields, hd, h1, h2⟩
theorem tab_info {T : TypeId → TI} (hT : TabOk P T) {t : TypeId} (hk : (T t).kind ≠ .other) :
    ∃ i, P.info? t = some i ∧ i.size = (T t).size ∧ i.bytes = (T t).bytes := by
  obtain ⟨i, z, h1, h2, h3, _⟩ := (tab_und hT hk).info
  exact ⟨i, h1, h2, h3⟩
theorem run_sizeOf_tab {T : TypeId → TI} (hT : TabOk P T) {t : TypeId} (hk : (T t).kind ≠ .other) (w' : World) : (sizeOf t).run P w' = .ok (T t).size w' := by
  obtain ⟨i, h1, h2, _⟩ := tab_info hT hk
  simp [sizeOf, typeInfo, h1, h2]
theorem run_isAgg_tab {T : TypeId → TI} (hT : TabOk P T) {t : TypeId} (hk : (T t).kind ≠ .other) (w' : World) : (isAgg t).run P w' = .ok (T t).agg w' := by
  obtain ⟨d, hd, h⟩ := (tab_und hT hk).und
  cases e : (T t).kind with
  | other => exact absurd e hk
  | struct fs =>
    rw [e] at h
    obtain ⟨fields, rfl, _⟩ := h
    simp [isAgg, run_underlying hd, TI.agg, e]
  | func =>
    rw [e] at h
    obtain ⟨_, _, _, rfl⟩ := h
    simp [isAgg, run_underlying hd, TI.agg, e]
  | _ => rw [e] at h; subst h; simp [isAgg, run_underlying hd, TI.agg, e]

theorem isOther_false {k : TK} (h : (k matches .other) = false) : k ≠ .other := by
  intro e; subst e; simp at h

theorem und_pointer {T : TypeId → TI} (hT : TabOk P T) {t e : TypeId} (hk : (T t).kind = .pointer e) : P.underlying t = some (.pointer e) := by
  obtain ⟨d, hd, h⟩ := (tab_und hT (t := t) (by rw [hk]; simp)).und
  rw [hk] at h; rw [hd, h]
theorem rep_ptrNil {x : AV} {u : Value} (h : RepV ρ ok w x u) {b : Bool} (hb : ptrNil x = some b) : (b = true → u = .pointer none) ∧ (b = false → ∃ a, u = .pointer (some a)) := by
  unfold ptrNil at hb
  split at hb <;> cases hb
  · cases h with | ptr => exact ⟨(fun h => by cases h), fun _ => ⟨_, rfl⟩⟩
  · cases h with | rp => exact ⟨(fun h => by cases h), fun _ => ⟨_, rfl⟩⟩
  · cases h with | dp => exact ⟨(fun h => by cases h), fun _ => ⟨_, rfl⟩⟩
  · cases h with | d _ _ h => cases h with | sc _ _ => exact ⟨fun _ => rfl, (fun h => by cases h)⟩
theorem run_ptrNil {t e : TypeId} (ht : P.underlying t = some (.pointer e)) (p : Option Addr) (w' : World) :
    (Go.binOp .eql t (.pointer p) (.pointer none)).run P w' = .ok (.bool p.isNone) w' ∧ (Go.binOp .neq t (.pointer p) (.pointer none)).run P w' = .ok (.bool (!p.isNone)) w' := by
  have h : ∀ d : Nat, (Op.equalIn (d + 1) t (.pointer p) (.pointer none)).run P w' = .ok p.isNone w' := fun d => by
    cases p <;> simp [Op.equalIn, run_underlying ht]
  have h2 : (Op.equal t (.pointer p) (.pointer none)).run P w' = .ok p.isNone w' := h 9999
  constructor
  · simp [Go.binOp, h2]
  · simp [Go.binOp, h2]
theorem run_binPtr {T : TypeId → TI} (hT : TabOk P T) (op : BinOp) (t : TypeId) (x y : AV) (ux uy : Value) (hx : RepV ρ ok w x ux) (hy : RepV ρ ok w y uy) (h : (binPtr (T t) op x y).ok) :
    ∃ u, RepV ρ ok w (binPtr (T t) op x y).v u ∧ ∀ w', (Go.binOp op t ux uy).run P w' = .ok u w' ∧ ∀ ox oy, (eqGuard op t ox oy ux uy).run P w' = .ok () w' := by
  revert h
  unfold binPtr
  split
  · cases hy with | d _ _ hy => cases hy with | sc _ _ =>
    split
    · rename_i b e hb hk
      intro _
      obtain ⟨h1, h2⟩ := rep_ptrNil hx hb
      refine ⟨_, .d _ _ (.bool _), fun w' => ?_⟩
      cases b with
      | true => rw [h1 rfl]; exact ⟨(run_ptrNil (und_pointer hT hk) none w').1, fun ox oy => by simp [eqGuard]⟩
      | false => obtain ⟨a, e⟩ := h2 rfl; rw [e]; exact ⟨(run_ptrNil (und_pointer hT hk) (some a) w').1, fun ox oy => by simp [eqGuard]⟩
    · rename_i b e hb hk
      intro _
      obtain ⟨h1, h2⟩ := rep_ptrNil hx hb
      refine ⟨_, .d _ _ (.bool _), fun w' => ?_⟩
      cases b with
      | true => rw [h1 rfl]; exact ⟨(run_ptrNil (und_pointer hT hk) none w').2, fun ox oy => by simp [eqGuard]⟩
      | false => obtain ⟨a, e⟩ := h2 rfl; rw [e]; exact ⟨(run_ptrNil (und_pointer hT hk) (some a) w').2, fun ox oy => by simp [eqGuard]⟩
    · intro h; exact h.elim
  · intro h; exact h.elim

theorem run_abin {T : TypeId → TI} (hT : TabOk P T) (op : BinOp) (t : TypeId) (x y : AV) (ux uy : Value) (hx : RepV ρ ok w x ux) (hy : RepV ρ ok w y uy) (h : (abin (T t) op x y).ok) :
    ∃ u, RepV ρ ok w (abin (T t) op x y).v u ∧ ∀ w', (Go.binOp op t ux uy).run P w' = .ok u w' ∧ ∀ ox oy, (eqGuard op t ox oy ux uy).run P w' = .ok () w' := by
  revert h
  unfold abin
  split
  · intro h
    cases hx with | d _ _ hx => cases hx with | int k a =>
    cases hy with | d _ _ hy => cases hy with | int k' b =>
    obtain ⟨u, h1, h2⟩ := run_binInt (P := P) (ρ := ρ) (ok := ok) (w := w) op t _ _ _ _ h
    exact ⟨u, h1, fun w' => ⟨h2 w', fun ox oy => by cases op <;> simp [eqGuard]⟩⟩
  · intro h
    cases hx with | d _ _ hx => cases hx with | str a =>
    cases hy with | d _ _ hy => cases hy with | str b =>
    obtain ⟨u, h1, h2⟩ := run_binStr (P := P) (ρ := ρ) (ok := ok) (w := w) op t _ _ h
    exact ⟨u, h1, fun w' => ⟨h2 w', fun ox oy => by cases op <;> simp [eqGuard, mkStr]⟩⟩
  · intro h
    cases hx with | d _ _ hx => cases hx with | bool a =>
    cases hy with | d _ _ hy => cases hy with | bool b =>
    obtain ⟨u, h1, h2⟩ := run_binBool (P := P) (ρ := ρ) (ok := ok) (w := w) (T t) op t _ _ (fun hk => und_bool hT hk) h
    exact ⟨u, h1, fun w' => ⟨h2 w', fun ox oy => by cases op <;> simp [eqGuard]⟩⟩
  · rename_i xs ys
    cases hx with | agg _ us hul hu1 hur =>
    cases hy with | agg _ vs hvl hv1 hvr =>
    have main : ((T t).kind matches .other) = false → (T t).cmp ≠ [] → (eqLeaves (T t).cmp xs ys).1 → ∀ w', (Op.equalIn 10000 t (.agg us.toArray) (.agg vs.toArray)).run P w' = .ok (eqLeaves (T t).cmp xs ys).2 w' ∧ P.eqGuardType P.depth t = false := by
      intro hko hne hl w'
      have hty : TyOk P t (T t) := tab_und hT (by intro e; rw [e] at hko; simp at hko)
      obtain ⟨h1, h2, fs, hfs⟩ := hty.cmp hne
      have := run_leaves (P := P) (ρ := ρ) (ok := ok) (w := w) 8 t _ h1 xs ys us vs ⟨hul, hur⟩ ⟨hvl, hvr⟩ hl 9992 w'
      simp only [packV, hfs] at this
      exact ⟨this, h2⟩
    unfold binAgg
    split
    · intro ⟨hko, hne, hl⟩
      refine ⟨_, .d _ _ (.bool _), fun w' => ⟨?_, fun ox oy => ?_⟩⟩
      · rw [run_eql_struct, (main hko hne hl w').1]; rfl
      · exact run_eqGuard_agg w' .eql t ox oy _ _ (main hko hne hl w').2
    · intro ⟨hko, hne, hl⟩
      refine ⟨_, .d _ _ (.bool _), fun w' => ⟨?_, fun ox oy => ?_⟩⟩
      · rw [run_neq_struct, (main hko hne hl w').1]; rfl
      · exact run_eqGuard_agg w' .neq t ox oy _ _ (main hko hne hl w').2
    · intro h; exact h.elim
  · exact run_binPtr hT op t x y ux uy hx hy

theorem run_aun (op : UnOp) (x : AV) (ux : Value) (hx : RepV ρ ok w x ux) (h : (aun op x).ok) :
    ∃ u, RepV ρ ok w (aun op x).v u ∧ ∀ w', (Op.unary op ux).run P w' = .ok u w' := by
  revert h
  unfold aun
  split
  · cases hx with | d _ _ hx => cases hx with | bool b =>
    split
    · intro _; exact ⟨_, .d _ _ (.bool _), fun w' => by simp [Op.unary]⟩
    · intro h; exact h.elim
  · cases hx with | d _ _ hx => cases hx with | int k n =>
    split
    · intro _; exact ⟨_, .d _ _ (.int _ _), fun w' => by simp [Op.unary, Op.intArith]⟩
    · intro _; exact ⟨_, .d _ _ (.int _ _), fun w' => by simp [Op.unary, intBits_xor]⟩
    · intro h; exact h.elim
  · intro h; exact h.elim

theorem run_apick (c x y : AV) (uc ux uy : Value) (hc : RepV ρ ok w c uc) (hx : RepV ρ ok w x ux) (hy : RepV ρ ok w y uy) (h : (apick c x y).ok) :
    ∃ u, RepV ρ ok w (apick c x y).v u ∧ ∀ w', (do pure (Next.value (if ← asBool uc then ux else uy)) : Sem Next).run P w' = .ok (.value u) w' := by
  revert h
  unfold apick
  split
  · rename_i c' p q e1 e2 e3
    intro ⟨h1, h2, h3⟩
    have hc1 := strip_ok hc h1
    rw [e1] at hc1
    cases hc1 with | d _ _ hc1 =>
    cases hc1
    cases c' with
    | true =>
      have hx1 := strip_ok hx (h2 rfl)
      rw [e2] at hx1
      exact ⟨ux, hx1, fun w' => by simp [asBool]⟩
    | false =>
      have hy1 := strip_ok hy (h3 rfl)
      rw [e3] at hy1
      exact ⟨uy, hy1, fun w' => by simp [asBool]⟩
  · intro h; exact h.elim

theorem run_aext (i : Nat) (x : AV) (ux : Value) (hx : RepV ρ ok w x ux) (h : (aext i x).ok) :
    ∃ u, RepV ρ ok w (aext i x).v u ∧ ∀ w', (Instr.extract ux i).run P w' = .ok u w' := by
  revert h
  unfold aext
  split
  · rename_i vs
    intro h
    cases hx with | tup _ us hl hr =>
    have hi : i < us.length := by rw [hl]; exact h
    refine ⟨us[i], hr i _ _ ?_ (List.getElem?_eq_getElem hi), fun w' => by simp [Instr.extract, hi]⟩
    simp only [List.getD_eq_getElem?_getD, List.getElem?_eq_getElem h, Option.getD_some]
  · intro h; exact h.elim

theorem run_aconv {T : TypeId → TI} (hT : TabOk P T) (src dst : TypeId) (x : AV) (ux : Value) (hsrc : ∃ d, P.underlying src = some d) (hx : RepV ρ ok w x ux) (h : (aconv (T dst) x).ok) :
    ∃ u, RepV ρ ok w (aconv (T dst) x).v u ∧ ∀ w', (Go.convert src dst ux).run P w' = .ok u w' := by
  obtain ⟨ds, hs⟩ := hsrc
  revert h
  unfold aconv
  split
  · cases hx with | d _ _ hx => cases hx with | int k n =>
    split
    · rename_i k' hk
      intro _
      exact ⟨_, .d _ _ (.int _ _), fun w' => by simp [Go.convert, run_underlying hs, run_underlying (und_int hT hk), Conv.intToInt]⟩
    · intro h; exact h.elim
  · cases hx with | d _ _ hx => cases hx with | str l =>
    split
    · rename_i hk
      intro _
      exact ⟨_, .d _ _ (.str _), fun w' => by simp [Go.convert, run_underlying hs, run_underlying (und_str hT hk), mkStr]⟩
    · intro h; exact h.elim
  · intro h; exact h.elim

theorem run_alen {T : TypeId → TI} (hT : TabOk P T) (t ty : TypeId) (x : AV) (ux : Value) (hx : RepV ρ ok w x ux) (h : (alen (T t) x).ok) :
    ∃ u, RepV ρ ok w (alen (T t) x).v u ∧ ∀ w', (Builtin.len_ #[t] ty #[ux]).run P w' = .ok u w' := by
  revert h
  unfold alen
  split
  · cases hx with | d _ _ hx => cases hx with | str l =>
    split
    · rename_i hk
      intro _
      exact ⟨_, .d _ _ (.int _ _), fun w' => by simp [Builtin.len_, run_underlying (und_str hT hk), mkStr, mk_size, goInt]⟩
    · intro h; exact h.elim
  · cases hx with | d _ _ hx => cases hx with | sl sz rows A cap u hcap hsz hc hr =>
    split
    · rename_i hk
      intro _
      exact ⟨_, .d _ _ (.int _ _), fun w' => by simp [Builtin.len_, run_underlying (und_slice hT hk), goInt]⟩
    · intro h; exact h.elim
  · split
    · rename_i hk
      intro _
      cases hx with
      | osl k sz off n b m cap h hm hn => exact ⟨_, .d _ _ (.int _ _), fun w' => by simp [Builtin.len_, run_underlying (und_slice hT hk), goInt]⟩
      | oslnil k sz A h => exact ⟨_, .d _ _ (.int _ _), fun w' => by simp [Builtin.len_, run_underlying (und_slice hT hk), goInt]⟩
    · intro h; exact h.elim
  · cases hx with | d _ _ hx =>
    obtain ⟨A, rfl⟩ := sc_nil hx
    split
    · rename_i hk
      intro _
      exact ⟨_, .d _ _ (.int _ _), fun w' => by simp [Builtin.len_, run_underlying (und_slice hT hk), goInt]⟩
    · intro h; exact h.elim
  · intro h; exact h.elim

theorem run_amm (mx : Bool) (x y : AV) (ux uy : Value) (hx : RepV ρ ok w x ux) (hy : RepV ρ ok w y uy) (h : (amm mx x y).ok) :
    ∃ u, RepV ρ ok w (amm mx x y).v u ∧ ∀ w', (if mx then Builtin.max2 ux uy else Builtin.min2 ux uy : Sem Value).run P w' = .ok u w' := by
  revert h
  unfold amm
  split
  · cases hx with | d _ _ hx => cases hx with | int k a =>
    cases hy with | d _ _ hy => cases hy with | int k' b =>
    intro h
    refine ⟨_, .d _ _ (.int _ _), fun w' => ?_⟩
    cases mx <;> simp [Builtin.max2, Builtin.min2]
  · intro h; exact h.elim
end
end Go.Proofs.YtfnilhdofopoeabDoor
