/- All pure operations under one name: what the model's operation does is what the abstract one says, in every world that has grown out of this one. It holds over any program whose types read as the table says. -/
import Derived.Test.YtfnilhdofopoeabDoorAvPure4
namespace Go.Proofs.YtfnilhdofopoeabDoor
set_option linter.unusedVariables false
set_option linter.unusedSimpArgs false
open Go Go.RowKit

def g1 (x : AV) (f : AV → PR) : PR := ⟨gdok x ∧ (f (strip x)).ok, (f (strip x)).v⟩
def g2 (x y : AV) (f : AV → AV → PR) : PR := ⟨gdok x ∧ gdok y ∧ (f (strip x) (strip y)).ok, (f (strip x) (strip y)).v⟩
def gdoks : List AV → Prop
  | [] => True
  | x :: r => gdok x ∧ gdoks r
def gdokO : Option AV → Prop
  | none => True
  | some x => gdok x

/-- The room of a slice, where it is known. -/
def acap (ti : TI) (hp : List ABlk) : AV → PR
  | .osl k sz off _ =>
    (match ti.kind, hp[k]? with
    | .slice _, some (.full sz' rs) => ⟨sz = sz' ∧ 0 < sz ∧ off ≤ rs.length, I ((rs.length - off : Nat) : Int)⟩
    | _, _ => ⟨False, .any⟩)
  | _ => ⟨False, .any⟩

def abuiltin (T : TypeId → TI) (b : Builtin) (ts : List TypeId) (xs : List AV) : PR :=
  match b, ts, xs with
  | .len, [t], [x] => g1 x (alen (T t))
  | .min, _, [x, y] => g2 x y (amm false)
  | .max, _, [x, y] => g2 x y (amm true)
  | .max, _, [x, y, z] => ⟨(g2 x y (amm true)).ok ∧ (g2 (g2 x y (amm true)).v z (amm true)).ok, (g2 (g2 x y (amm true)).v z (amm true)).v⟩
  | _, _, _ => ⟨False, .any⟩

def apure (T : TypeId → TI) (hp : List ABlk) (vl : Operand → AV) : Op → PR
  | .move x => ⟨gdok (vl x), strip (vl x)⟩
  | .assign x => ⟨gdok (vl x), strip (vl x)⟩
  | .pick c a b => apick (vl c) (vl a) (vl b)
  | .load t x => g1 (vl x) (aload (T t) hp)
  | .nilCheck x => g1 (vl x) anil
  | .binOp op t x y _ => g2 (vl x) (vl y) (abin (T t) op)
  | .unOp op _ x => g1 (vl x) (aun op)
  | .convert src dst x => ⟨((T src).kind matches .other) = false ∧ (g1 (vl x) (aconv (T dst))).ok, (g1 (vl x) (aconv (T dst))).v⟩
  | .slice t x lo hi mx => ⟨gdok (vl x) ∧ gdokO (lo.map vl) ∧ gdokO (hi.map vl) ∧ gdokO (mx.map vl) ∧
      (aslice T (T t) hp (strip (vl x)) (lo.map fun y => strip (vl y)) (hi.map fun y => strip (vl y)) (mx.map fun y => strip (vl y))).ok,
      (aslice T (T t) hp (strip (vl x)) (lo.map fun y => strip (vl y)) (hi.map fun y => strip (vl y)) (mx.map fun y => strip (vl y))).v⟩
  | .fieldAddr t x i => g1 (vl x) (afld (T t) i)
  | .field t x i => g1 (vl x) (apart T (T t) i)
  | .indexAddr t x i => g2 (vl x) (vl i) (aidxAddr T (T t))
  | .index t x i => g2 (vl x) (vl i) (aidx T (T t))
  | .extract x i => g1 (vl x) (aext i)
  | .build t parts => ⟨gdoks (parts.toList.map fun p => vl p.2) ∧ (abuild T (T t) (parts.toList.map fun p => (p.1, strip (vl p.2)))).ok, (abuild T (T t) (parts.toList.map fun p => (p.1, strip (vl p.2)))).v⟩
  | .makeFunc (.func f) first caps => ⟨gdoks (first.toList.map vl) ∧ gdoks (caps.toList.map vl), .clo f (first.toList.map fun x => strip (vl x)) (caps.toList.map fun x => strip (vl x))⟩
  | .call { callee := .builtin .cap, args, argTypes } => (match args.toList, argTypes.toList with | [x], [t] => g1 (vl x) (acap (T t) hp) | _, _ => ⟨False, .any⟩)
  | .call { callee := .builtin b, args, argTypes } => abuiltin T b argTypes.toList (args.toList.map vl)
  | _ => ⟨False, .any⟩

section
variable {P : Program} {ρ : List (Option (Nat × Nat))} {ok : Nat → Prop} {w : World}

theorem run_acap {T : TypeId → TI} (hT : TabOk P T) {hp : List ABlk} (hB : Blks ρ ok w hp) (t ty : TypeId) (x : AV) (ux : Value) (hx : RepV ρ ok w x ux) (h : (acap (T t) hp x).ok) :
    ∃ u, RepV ρ ok w (acap (T t) hp x).v u ∧ ∀ w', (Builtin.cap_ #[t] ty #[ux]).run P w' = .ok u w' := by
  revert h
  unfold acap
  split
  · rename_i k sz off n
    split
    · rename_i e sz' rs hk hcs
      intro ⟨h1, h2, h3⟩
      subst h1
      cases hx with
      | oslnil _ _ A hkk => exact absurd hkk (hB.2 k _ _ hcs)
      | osl _ _ _ _ b m cap hkk hm hn =>
        obtain ⟨us, ty', fz, hw, hum, hone, hrl, hsz, hr⟩ := hB.1 k _ b m hcs hkk (by simp)
        have hcap : cap = rs.length - off := by
          rw [← hm] at hum
          rw [hum] at hsz
          have := Nat.eq_of_mul_eq_mul_right h2 hsz
          omega
        subst hcap
        exact ⟨_, .d _ _ (.int _ _), fun w' => by simp [Builtin.cap_, run_underlying (und_slice hT hk), goInt]⟩
    · intro h; exact h.elim
  · intro h; exact h.elim

theorem gdoks_get : ∀ {l : List AV} {j : Nat} {x : AV}, gdoks l → l[j]? = some x → gdok x
  | y :: r, 0, x, h, hx => by simp at hx; subst hx; exact h.1
  | y :: r, j + 1, x, h, hx => gdoks_get h.2 (by simpa using hx)

theorem size_one {T : TypeId → TI} (hT : TabOk P T) {t : TypeId} (hk : (T t).kind ≠ .other) (ha : (T t).agg = false) : (T t).size = 1 := by
  have h := tab_und hT hk
  obtain ⟨i, z, _, _, _, _, h5⟩ := h.info
  rw [ha] at h5
  simp only [Bool.false_eq_true, if_false] at h5
  have := congrArg List.length h5
  simp only [List.length_map, List.length_cons, List.length_nil] at this
  rw [← h.zl]; omega

theorem repO_map {vl : Operand → AV} {a : Act} (hv : ∀ x, RepV ρ ok w (vl x) (a.eval x)) {x : Option Operand} (h : gdokO (x.map vl)) :
    RepO ρ ok w (x.map fun y => strip (vl y)) (x.map a.eval) := by
  cases x with
  | none => trivial
  | some y => exact strip_ok (hv y) h

theorem run_abuiltin {T : TypeId → TI} (hT : TabOk P T) (b : Builtin) (ts : List TypeId) (ty : TypeId) (cs : Array Bool) (xs : List AV) (us : List Value) (hl : us.length = xs.length)
    (hr : ∀ (j : Nat) (x : AV) (u : Value), xs[j]? = some x → us[j]? = some u → RepV ρ ok w x u) (h : (abuiltin T b ts xs).ok) :
    ∃ u, RepV ρ ok w (abuiltin T b ts xs).v u ∧ ∀ w', (Go.builtin b ts.toArray ty cs us.toArray).run P w' = .ok (.value u) w' := by
  revert h
  unfold abuiltin
  split
  · rename_i t x
    match us, hl with
    | [ux], _ =>
      intro ⟨hg, hok⟩
      obtain ⟨u, h1, h2⟩ := run_alen (P := P) hT t ty (strip x) ux (strip_ok (hr 0 _ _ rfl rfl) hg) hok
      exact ⟨u, h1, fun w' => by simp [Go.builtin, h2]⟩
  · rename_i x y
    match us, hl with
    | [ux, uy], _ =>
      intro ⟨hg, hg', hok⟩
      obtain ⟨u, h1, h2⟩ := run_amm (P := P) false (strip x) (strip y) ux uy (strip_ok (hr 0 _ _ rfl rfl) hg) (strip_ok (hr 1 _ _ rfl rfl) hg') hok
      simp only [Bool.false_eq_true, if_false] at h2
      exact ⟨u, h1, fun w' => by simp [Go.builtin, Builtin.min_, List.foldlM, h2]⟩
  · rename_i x y
    match us, hl with
    | [ux, uy], _ =>
      intro ⟨hg, hg', hok⟩
      obtain ⟨u, h1, h2⟩ := run_amm (P := P) true (strip x) (strip y) ux uy (strip_ok (hr 0 _ _ rfl rfl) hg) (strip_ok (hr 1 _ _ rfl rfl) hg') hok
      simp only [if_true] at h2
      exact ⟨u, h1, fun w' => by simp [Go.builtin, Builtin.max_, List.foldlM, h2]⟩
  · rename_i x y z
    match us, hl with
    | [ux, uy, uz], _ =>
      intro ⟨⟨hg, hg', hok⟩, hg1, hg2, hok2⟩
      obtain ⟨u, h1, h2⟩ := run_amm (P := P) true (strip x) (strip y) ux uy (strip_ok (hr 0 _ _ rfl rfl) hg) (strip_ok (hr 1 _ _ rfl rfl) hg') hok
      obtain ⟨u', h1', h2'⟩ := run_amm (P := P) true (strip (g2 x y (amm true)).v) (strip z) u uz (strip_ok h1 hg1) (strip_ok (hr 2 _ _ rfl rfl) hg2) hok2
      simp only [if_true] at h2 h2'
      exact ⟨u', h1', fun w' => by simp [Go.builtin, Builtin.max_, List.foldlM, h2, h2']⟩
  · intro h; exact h.elim

def isLoad : Op → Bool
  | .load .. => true
  | _ => false
theorem apure_sound {T : TypeId → TI} (hT : TabOk P T) {hp : List ABlk} (hlt : ∀ b, ok b → b < w.heap.size) (hB : Blks ρ ok w hp) {vl : Operand → AV} {a : Act}
    (hv : ∀ x, RepV ρ ok w (vl x) (a.eval x)) (o : Oper) (h : (apure T hp vl o.op).ok) :
    ∃ u, RepV ρ ok w (apure T hp vl o.op).v u ∧ ∀ w', (isLoad o.op = true → Below w.heap.size w w') → (execOp a.eval o).run P w' = .ok (.value u) w' := by
  obtain ⟨dst, op, ty, pos, after, guard⟩ := o
  revert h
  simp only
  unfold apure
  split
  · rename_i x; intro h; exact ⟨_, strip_ok (hv x) h, fun w' _ => by simp [execOp]⟩
  · rename_i x; intro h; exact ⟨_, strip_ok (hv x) h, fun w' _ => by simp [execOp]⟩
  · rename_i c x y; intro h
    obtain ⟨u, h1, h2⟩ := run_apick (P := P) _ _ _ _ _ _ (hv c) (hv x) (hv y) h
    exact ⟨u, h1, fun w' _ => h2 w'⟩
  · rename_i t x; intro ⟨hg, h⟩
    obtain ⟨u, h1, h2⟩ := run_aload hT hlt hB t _ _ (strip_ok (hv x) hg) h
    exact ⟨u, h1, fun w' hb => by simp [execOp, h2 w' (hb rfl)]⟩
  · rename_i x; intro ⟨hg, h⟩
    have hx := strip_ok (hv x) hg
    revert h
    simp only [g1]
    unfold anil
    split
    · rename_i e; rw [e] at hx; intro _; generalize hu : a.eval x = ux at *; cases hx with | ptr _ _ b m h => exact ⟨_, .ptr _ _ b m h, fun w' _ => by simp [execOp, hu]⟩
    · rename_i e; rw [e] at hx; intro _; generalize hu : a.eval x = ux at *; cases hx with | rp _ _ _ _ b m h => exact ⟨_, .rp _ _ _ _ b m h, fun w' _ => by simp [execOp, hu]⟩
    · rename_i e; rw [e] at hx; intro _; generalize hu : a.eval x = ux at *; cases hx with | dp _ _ b o' q hb hc hr => exact ⟨_, .dp _ _ b o' q hb hc hr, fun w' _ => by simp [execOp, hu]⟩
    · rename_i e; rw [e] at hx; intro _; generalize hu : a.eval x = ux at *; cases hx with | clo _ _ _ us vs hl hl' hr hr' => exact ⟨_, .clo _ _ _ us vs hl hl' hr hr', fun w' _ => by simp [execOp, hu]⟩
    · intro h; exact h.elim
  · rename_i op t x y ty'; intro ⟨hg, hg', h⟩
    obtain ⟨u, h1, h2⟩ := run_abin (P := P) hT op t _ _ _ _ (strip_ok (hv x) hg) (strip_ok (hv y) hg') h
    exact ⟨u, h1, fun w' _ => by simp [execOp, (h2 w').1, (h2 w').2]⟩
  · rename_i op t x; intro ⟨hg, h⟩
    obtain ⟨u, h1, h2⟩ := run_aun (P := P) op _ _ (strip_ok (hv x) hg) h
    exact ⟨u, h1, fun w' _ => by simp [execOp, h2 w']⟩
  · rename_i src dst' x; intro ⟨hs, hg, h⟩
    obtain ⟨d, hd, _⟩ := (tab_und hT (isOther_false hs)).und
    obtain ⟨u, h1, h2⟩ := run_aconv (P := P) hT src dst' _ _ ⟨d, hd⟩ (strip_ok (hv x) hg) h
    exact ⟨u, h1, fun w' _ => by simp [execOp, h2 w']⟩
  · rename_i t x lo hi mx; intro ⟨hg, hg1, hg2, hg3, h⟩
    obtain ⟨u, h1, h2⟩ := run_aslice (P := P) hT hB t _ _ _ _ _ _ _ _ (strip_ok (hv x) hg) (repO_map hv hg1) (repO_map hv hg2) (repO_map hv hg3) h
    exact ⟨u, h1, fun w' _ => by simp [execOp, h2 w']⟩
  · rename_i t x i; intro ⟨hg, h⟩
    obtain ⟨u, h1, h2⟩ := run_afld (P := P) hT t i _ _ (strip_ok (hv x) hg) h
    exact ⟨u, h1, fun w' _ => by simp [execOp, h2 w']⟩
  · rename_i t x i; intro ⟨hg, h⟩
    obtain ⟨u, h1, h2⟩ := run_apart (P := P) hT t i _ _ (strip_ok (hv x) hg) h (fun t hk ha => size_one hT hk ha)
    exact ⟨u, h1, fun w' _ => by simp [execOp, h2 w']⟩
  · rename_i t x i; intro ⟨hg, hg', h⟩
    obtain ⟨u, h1, h2⟩ := run_aidxAddr (P := P) hT t _ _ _ _ (strip_ok (hv x) hg) (strip_ok (hv i) hg') h
    exact ⟨u, h1, fun w' _ => by simp [execOp, h2 w']⟩
  · rename_i t x i; intro ⟨hg, hg', h⟩
    obtain ⟨u, h1, h2⟩ := run_aidx (P := P) hT t _ _ _ _ (strip_ok (hv x) hg) (strip_ok (hv i) hg') h
    exact ⟨u, h1, fun w' _ => by simp [execOp, h2 w']⟩
  · rename_i x i; intro ⟨hg, h⟩
    obtain ⟨u, h1, h2⟩ := run_aext (P := P) i _ _ (strip_ok (hv x) hg) h
    exact ⟨u, h1, fun w' _ => by simp [execOp, h2 w']⟩
  · rename_i t parts; intro ⟨hg, h⟩
    obtain ⟨u, h1, h2⟩ := run_abuild (P := P) (ρ := ρ) (ok := ok) (w := w) hT t (parts.toList.map fun p => (p.1, strip (vl p.2))) (parts.toList.map fun p => (p.1, a.eval p.2)) (by simp)
      (fun j x y hx hy => by
        rw [List.getElem?_map] at hx hy
        obtain ⟨q, hq, rfl⟩ := Option.map_eq_some_iff.1 hx
        rw [hq] at hy
        simp at hy
        subst hy
        exact ⟨rfl, strip_ok (hv q.2) (gdoks_get hg (j := j) (by rw [List.getElem?_map, hq]; rfl))⟩) h
    refine ⟨u, h1, fun w' _ => ?_⟩
    have e : (parts.toList.map fun p => (p.1, a.eval p.2)).toArray = parts.map fun (i, x) => (i, a.eval x) := by
      apply Array.ext'; simp
    have := h2 w'
    rw [e] at this
    simp [execOp, this]
  · rename_i f first caps; intro ⟨hg, hg'⟩
    refine ⟨.func (.func f) (first.map a.eval) (caps.map a.eval), ?_, fun w' _ => by simp [execOp, Instr.makeFunc]⟩
    have := RepV.clo (ρ := ρ) (ok := ok) (w := w) f (first.toList.map fun x => strip (vl x)) (caps.toList.map fun x => strip (vl x)) (first.toList.map a.eval) (caps.toList.map a.eval) (by simp) (by simp)
      (fun j c u hc hu => by
        rw [List.getElem?_map] at hc hu
        obtain ⟨q, hq, rfl⟩ := Option.map_eq_some_iff.1 hc
        rw [hq] at hu; simp at hu; subst hu
        exact strip_ok (hv q) (gdoks_get hg (j := j) (by rw [List.getElem?_map, hq]; rfl)))
      (fun j c u hc hu => by
        rw [List.getElem?_map] at hc hu
        obtain ⟨q, hq, rfl⟩ := Option.map_eq_some_iff.1 hc
        rw [hq] at hu; simp at hu; subst hu
        exact strip_ok (hv q) (gdoks_get hg' (j := j) (by rw [List.getElem?_map, hq]; rfl)))
    have e1 : (first.toList.map a.eval).toArray = first.map a.eval := by apply Array.ext'; simp
    have e2 : (caps.toList.map a.eval).toArray = caps.map a.eval := by apply Array.ext'; simp
    rwa [e1, e2] at this
  · rename_i args argTypes; intro h
    split at h
    · rename_i x t hx ht
      have ea : args = #[x] := by apply Array.ext'; simpa using hx
      have et : argTypes = #[t] := by apply Array.ext'; simpa using ht
      subst ea; subst et
      obtain ⟨hg, h⟩ := h
      obtain ⟨u, h1, h2⟩ := run_acap (P := P) hT hB t ty _ _ (strip_ok (hv x) hg) h
      exact ⟨u, h1, fun w' _ => by simp [execOp, resolve, invoke, Go.builtin, h2 w']⟩
    · exact h.elim
  · rename_i b args argTypes _; intro h
    obtain ⟨u, h1, h2⟩ := run_abuiltin (P := P) (ρ := ρ) (ok := ok) (w := w) hT b argTypes.toList ty (args.map fun | .const _ => true | _ => false) (args.toList.map vl) (args.toList.map a.eval) (by simp)
      (fun j x u hx hu => by
        rw [List.getElem?_map] at hx hu
        obtain ⟨q, hq, rfl⟩ := Option.map_eq_some_iff.1 hx
        rw [hq] at hu; simp at hu; subst hu
        exact hv q) h
    refine ⟨u, h1, fun w' _ => ?_⟩
    have e1 : (args.toList.map a.eval).toArray = args.map a.eval := by apply Array.ext'; simp
    have e2 : argTypes.toList.toArray = argTypes := by simp
    have := h2 w'
    rw [e1, e2] at this
    simp only [execOp, resolve, invoke, Sem.run_bind, Sem.run_pure, Result.andThen_ok]
    exact this
  · intro h; exact h.elim
end
end Go.Proofs.YtfnilhdofopoeabDoor
