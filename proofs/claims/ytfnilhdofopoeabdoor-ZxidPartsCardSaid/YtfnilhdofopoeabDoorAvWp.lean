/- The abstract walk through a function's code, and that what it shows is so. It holds over any program whose types read as the table says. -/
import Derived.Test.YtfnilhdofopoeabDoorAvConv
namespace Go.Proofs.YtfnilhdofopoeabDoor
set_option linter.unusedVariables false
set_option linter.unusedSimpArgs false
open Go Go.RowKit

def valA (s : ASt) : Operand → AV
  | .tmp t => aget s.env t
  | .const (.int k n) => .d (.int k n)
  | .const (.bool b) => .d (.bool b)
  | .const (.string b) => .d (.str b.data.toList)
  | .const (.slice none 0 0) => .d (.sc (.slice none 0 0))
  | .const (.pointer none) => .d (.sc (.pointer none))
  | .func f => .d (.sc (.func (.func f) #[] #[]))
  | _ => .any

def gsel (want b : Bool) : Bool := bif want then b else !b

/-- Whether a guarded operation runs. -/
def aguard (want : Bool) : AV → Option Bool
  | .d (.bool b) => some (gsel want b)
  | .gd g (.d (.bool b)) => some (g && gsel want b)
  | _ => none

def dstAt (ops : Array Oper) (env : List (Nat × AV)) (j : Nat) : AV :=
  match (ops[j]?).bind (·.dst) with
  | some t => aget env t
  | none => .any

/-- A contract of a function: what it is handed, the blocks that it may write, what it hands back. -/
def goFn (P : Program) (g : FuncId) : Prop := ∃ fn, P.funcs[g]? = some fn ∧ (fn.name == "runtime.NumGoroutine") = false ∧ fn.body.isNone = false

def RepVs (ρ : List (Option (Nat × Nat))) (ok : Nat → Prop) (w : World) (xs : List AV) (us : List Value) : Prop :=
  us.length = xs.length ∧ ∀ (j : Nat) (x : AV) (u : Value), xs[j]? = some x → us[j]? = some u → RepV ρ ok w x u

def acall (P : Program) (hp : List ABlk) (g : FuncId) (xs : List AV) (R : AV → List ABlk → Prop) : Prop :=
  goFn P g ∧ ∀ (E : Ent) (w : World) (us : List Value), E.w0 = w → RepH E E.ρ0 hp w → RepVs E.ρ0 (okB E E.ρ0 hp w) w xs us →
    Calls P g us.toArray w fun e w' => ∃ u v hp' ρ', e = .returned u ∧ R v hp' ∧ RepH E ρ' hp' w' ∧ (∀ (k : Nat) (p : Option (Nat × Nat)), E.ρ0[k]? = some p → ρ'[k]? = some p) ∧ RepV ρ' (okB E ρ' hp' w') w' v u

/-- A call in the midst of a walk. -/
def acallH (P : Program) (hp : List ABlk) (g : FuncId) (xs : List AV) (K : AV → List ABlk → Prop) : Prop :=
  goFn P g ∧ ∀ (E : Ent) (ρ : List (Option (Nat × Nat))) (w : World) (us : List Value), RepH E ρ hp w → RepVs ρ (okB E ρ hp w) w xs us →
    Calls P g us.toArray w fun e w' => ∃ u v hp' ρ', e = .returned u ∧ K v hp' ∧ HStep E ρ hp w ρ' hp' w' ∧ RepV ρ' (okB E ρ' hp' w') w' v u

/-- A call that only reckons: one value, and no old block turned. -/
def acallQ (P : Program) (hp : List ABlk) (g : FuncId) (xs : List AV) (x : AV) : Prop :=
  goFn P g ∧ ∀ (E : Ent) (ρ : List (Option (Nat × Nat))) (w : World) (us : List Value), RepH E ρ hp w → RepVs ρ (okB E ρ hp w) w xs us →
    ∃ u, RepV ρ (okB E ρ hp w) w x u ∧ ∀ w', Below w.heap.size w w' → Calls P g us.toArray w' fun e w'' => e = .returned u ∧ Below w'.heap.size w' w''


/-- What bears this mark is left as it stands while a region is reckoned: what follows a call, and the two ways of a guard. -/
structure Tok {α : Type} (x : α) where

/-- A function without a body: the model's own entry answers at once. -/
def aextQ (P : Program) (hp : List ABlk) (g : FuncId) (xs : List AV) (x : AV) : Prop :=
  ∀ (E : Ent) (ρ : List (Option (Nat × Nat))) (w : World) (us : List Value), RepH E ρ hp w → RepVs ρ (okB E ρ hp w) w xs us →
    ∃ u, RepV ρ (okB E ρ hp w) w x u ∧ ∀ w', Below w.heap.size w w' → (callFunc g us.toArray).run P w' = .ok (.value u) w'

def acallQK (P : Program) (hp : List ABlk) (g : FuncId) (xs : List AV) (K : AV → Prop) (_ : Tok K) : Prop := ∃ v, (acallQ P hp g xs v ∨ aextQ P hp g xs v) ∧ K v
def acallG (P : Program) (np : Nat) (hp : List ABlk) (g : FuncId) (xs : List AV) (K : AV → List ABlk → Prop) : Prop :=
  goFn P g ∧ ∀ (E : Ent) (ρ : List (Option (Nat × Nat))) (w : World) (us : List Value), E.ρ0.length = np → RepH E ρ hp w → RepVs ρ (okB E ρ hp w) w xs us →
    Calls P g us.toArray w fun e w' => ∃ u v hp' ρ', e = .returned u ∧ K v hp' ∧ HStep E ρ hp w ρ' hp' w' ∧ RepV ρ' (okB E ρ' hp' w') w' v u
def acallHK (P : Program) (np : Nat) (hp : List ABlk) (g : FuncId) (xs : List AV) (K : AV → List ABlk → Prop) (_ : Tok K) : Prop := acallG P np hp g xs K ∨ ∃ v, aextQ P hp g xs v ∧ K v hp
theorem acallHK_of {P : Program} {np : Nat} {hp : List ABlk} {g : FuncId} {xs : List AV} {K : AV → List ABlk → Prop} {t : Tok K} (h : acallH P hp g xs K) : acallHK P np hp g xs K t :=
  .inl ⟨h.1, fun E ρ w us _ => h.2 E ρ w us⟩

/-- Who is called, and with what ahead and behind. -/
def acallee : AV → Option (FuncId × List AV × List AV)
  | .d (.sc (.func (.func g) first caps)) => if first.size = 0 ∧ caps.size = 0 then some (g, [], []) else none
  | .clo g first caps => some (g, first, caps)
  | _ => none

/-- What stands in for a result that was not computed. -/
def ajunk (ti : TI) : AV :=
  match ti.kind with
  | .int k => .d (.int k 0)
  | .str => .d (.str [])
  | .slice _ => .d (.sc (.slice none 0 0))
  | _ => if ti.size = 1 then .d (.bool false) else .agg (ti.zero.map AV.d)

def isPure : Op → Bool
  | .move _ | .assign _ | .pick .. | .load .. | .nilCheck _ | .binOp .. | .unOp .. | .slice .. | .fieldAddr .. | .field .. | .indexAddr .. | .index .. | .extract .. | .build .. | .makeFunc .. => true
  | .call { callee := .builtin .cap, .. } | .call { callee := .builtin .len, .. } | .call { callee := .builtin .min, .. } | .call { callee := .builtin .max, .. } => true
  | _ => false

section
variable (P : Program) (T : TypeId → TI)

/-- An operation that makes or writes memory, or calls. -/
def astepM (s : ASt) (dst : Option Tmp) (op : Op) (K : ASt → Prop) : Prop :=
  match op with
  | .alloc t => (aalloc (T t) s.hp).ok ∧ K { s with env := aput s.env dst (aalloc (T t) s.hp).v, hp := (aalloc (T t) s.hp).hp }
  | .box _ x => (abox (valA s x) s.hp).ok ∧ K { s with env := aput s.env dst (abox (valA s x) s.hp).v, hp := (abox (valA s x) s.hp).hp }
  | .buildSlice t len parts => gdoks (parts.toList.map fun p => valA s p.2) ∧ (bsParts s.np s.hp (parts.toList.map fun p => (p.1, strip (valA s p.2)))).1 ∧
      (abuildSlice T (T t) len (bsParts s.np s.hp (parts.toList.map fun p => (p.1, strip (valA s p.2)))).2.1 (bsParts s.np s.hp (parts.toList.map fun p => (p.1, strip (valA s p.2)))).2.2).ok ∧
      K { s with env := aput s.env dst (abuildSlice T (T t) len (bsParts s.np s.hp (parts.toList.map fun p => (p.1, strip (valA s p.2)))).2.1 (bsParts s.np s.hp (parts.toList.map fun p => (p.1, strip (valA s p.2)))).2.2).v, hp := (abuildSlice T (T t) len (bsParts s.np s.hp (parts.toList.map fun p => (p.1, strip (valA s p.2)))).2.1 (bsParts s.np s.hp (parts.toList.map fun p => (p.1, strip (valA s p.2)))).2.2).hp }
  | .makeSlice t x y => gdok (valA s x) ∧ gdok (valA s y) ∧ (amake T (T t) (strip (valA s x)) (strip (valA s y)) s.hp).ok ∧
      K { s with env := aput s.env dst (amake T (T t) (strip (valA s x)) (strip (valA s y)) s.hp).v, hp := (amake T (T t) (strip (valA s x)) (strip (valA s y)) s.hp).hp }
  | .store t x y => gdok (valA s x) ∧ gdok (valA s y) ∧ (astoreX (T t) (strip (valA s x)) (strip (valA s y)) s.hp).ok ∧
      K { s with env := aput s.env dst .any, hp := (astoreX (T t) (strip (valA s x)) (strip (valA s y)) s.hp).hp }
  | .convert src dt x => (aconvM T s.hp src dt (valA s x)).ok ∧ K { s with env := aput s.env dst (aconvM T s.hp src dt (valA s x)).v, hp := (aconvM T s.hp src dt (valA s x)).hp }
  | .makeMap _ none => (amakeMap s.hp).ok ∧ K { s with env := aput s.env dst (amakeMap s.hp).v, hp := (amakeMap s.hp).hp }
  | .mapUpdate t x k v => gdok (valA s x) ∧ gdok (valA s k) ∧ gdok (valA s v) ∧ (amapSet T t (strip (valA s x)) (strip (valA s k)) (strip (valA s v)) s.hp).ok ∧
      K { s with env := aput s.env dst .any, hp := (amapSet T t (strip (valA s x)) (strip (valA s k)) (strip (valA s v)) s.hp).hp }
  | .lookup t x k false => gdok (valA s x) ∧ gdok (valA s k) ∧ (amapLook T t (strip (valA s x)) (strip (valA s k)) s.hp).ok ∧
      K { s with env := aput s.env dst (amapLook T t (strip (valA s x)) (strip (valA s k)) s.hp).v }
  | .call { callee := .builtin .append, args, argTypes } =>
    (match args.toList, argTypes.toList with
    | [x, y], [t, t'] => gdok (valA s x) ∧ gdok (valA s y) ∧ (aappendF T t t' (strip (valA s x)) (strip (valA s y)) s.hp).ok ∧
        K { s with env := aput s.env dst (aappendF T t t' (strip (valA s x)) (strip (valA s y)) s.hp).v, hp := (aappendF T t t' (strip (valA s x)) (strip (valA s y)) s.hp).hp }
    | _, _ => False)
  | .call { callee := .builtin .copy, args, argTypes } =>
    (match args.toList, argTypes.toList with
    | [x, y], [t, t'] => gdok (valA s x) ∧ gdok (valA s y) ∧ (strip (valA s y) matches .d (.str _)) = false ∧ (acopy T t t' (strip (valA s x)) (strip (valA s y)) s.hp).ok ∧
        K { s with env := aput s.env dst (acopy T t t' (strip (valA s x)) (strip (valA s y)) s.hp).v, hp := (acopy T t t' (strip (valA s x)) (strip (valA s y)) s.hp).hp }
    | _, _ => False)
  | .call { callee := .builtin .clear, args, argTypes } =>
    (match args.toList, argTypes.toList with
    | [x], [t] => gdok (valA s x) ∧ (aclear T t (strip (valA s x)) s.hp).ok ∧
        K { s with env := aput s.env dst (aclear T t (strip (valA s x)) s.hp).v, hp := (aclear T t (strip (valA s x)) s.hp).hp }
    | _, _ => False)
  | .call { callee := .value f, args, .. } =>
    (match acallee (strip (valA s f)) with
    | some (g, first, caps) => gdok (valA s f) ∧ gdoks (args.toList.map (valA s)) ∧ acallHK P s.np s.hp g (first ++ args.toList.map (fun x => strip (valA s x)) ++ caps) (fun v hp => K { s with env := aput s.env dst v, hp := hp }) ⟨⟩
    | none => False)
  | _ => False

def aunder (g : Bool) (p : Prop × Prop) (_ : Tok p) : Prop := (g = true → p.1) ∧ (g = false → p.2)
theorem aunder_true {p : Prop × Prop} (t : Tok p) : aunder true p t = p.1 := by simp [aunder]
theorem aunder_false {p : Prop × Prop} (t : Tok p) : aunder false p t = p.2 := by simp [aunder]
theorem aunder_i {g : Bool} {p q : Prop} {t : Tok (p, q)} (h1 : g = true → p) (h2 : g = false → q) : aunder g (p, q) t := ⟨h1, h2⟩

/-- A slice compared with nil: what is known of it is how long it is. -/
def nilLen (ti : TI) (v : AV) : Option Nat :=
  match ti.kind, v with
  | .slice _, .d (.sl _ rows) => some rows.length
  | .slice _, .osl _ _ _ n => some n
  | .slice _, .d (.sc (.slice none 0 0)) => some 0
  | _, _ => none
def nilCmp (vl : Operand → AV) : Op → Option (Bool × Nat)
  | .binOp .eql t x (.const (.slice none 0 0)) _ => (nilLen (T t) (vl x)).map fun n => (false, n)
  | .binOp .neq t x (.const (.slice none 0 0)) _ => (nilLen (T t) (vl x)).map fun n => (true, n)
  | _ => none
def anilCmp (ops : Array Oper) (s : ASt) (o : Oper) (neg : Bool) (n : Nat) (K : ASt → Prop) : Prop :=
  match o.guard with
  | none => dstOk s.nt o.dst ∧ ∀ b : Bool, (0 < n → b = false) → K { s with env := aput s.env o.dst (.d (.bool (b != neg))) }
  | some (j, want) =>
    match aguard want (dstAt ops s.env j) with
    | none => False
    | some g => dstOk s.nt o.dst ∧ ∀ b : Bool, (0 < n → b = false) → K { s with env := aput s.env o.dst (.gd g (.d (.bool (b != neg)))) }

/-- One operation. -/
def astep0 (ops : Array Oper) (s : ASt) (o : Oper) (K : ASt → Prop) : Prop :=
  match o.guard with
  | none =>
    if isPure o.op then (apure T s.hp (valA s) o.op).ok ∧ dstOk s.nt o.dst ∧ K { s with env := aput s.env o.dst (apure T s.hp (valA s) o.op).v }
    else dstOk s.nt o.dst ∧ astepM P T s o.dst o.op K
  | some (j, want) =>
    match aguard want (dstAt ops s.env j) with
    | none => False
    | some g =>
      if isPure o.op then (g = true → (apure T s.hp (valA s) o.op).ok) ∧ dstOk s.nt o.dst ∧ K { s with env := aput s.env o.dst (.gd g (apure T s.hp (valA s) o.op).v) }
      else dstOk s.nt o.dst ∧ aunder g (astepM P T s o.dst o.op K, K { s with env := aput s.env o.dst (.gd false (ajunk (T o.type))) }) ⟨⟩

def astep (ops : Array Oper) (s : ASt) (o : Oper) (K : ASt → Prop) : Prop :=
  match nilCmp T (valA s) o.op with
  | some (neg, n) => anilCmp ops s o neg n K
  | none => astep0 P T ops s o K

def aops (ops : Array Oper) (Q : ASt → Prop) : List Oper → ASt → Prop
  | [], s => Q s
  | o :: r, s => astep P T ops s o (aops ops Q r)

/-- One operation of a region whose order is open: it leaves memory alone. -/
def astepQ0 (ops : Array Oper) (s : ASt) (o : Oper) (K : ASt → Prop) : Prop :=
  match o.guard with
  | none =>
    if isPure o.op then (apure T s.hp (valA s) o.op).ok ∧ dstOk s.nt o.dst ∧ K { s with env := aput s.env o.dst (apure T s.hp (valA s) o.op).v }
    else match o.op with
      | .convert src dst x => (aconvX T s.hp src dst (valA s x)).ok ∧ dstOk s.nt o.dst ∧ K { s with env := aput s.env o.dst (aconvX T s.hp src dst (valA s x)).v }
      | .call { callee := .value f, args, .. } =>
        (match acallee (strip (valA s f)) with
        | some (g, first, caps) => gdok (valA s f) ∧ gdoks (args.toList.map (valA s)) ∧ dstOk s.nt o.dst ∧ acallQK P s.hp g (first ++ args.toList.map (fun x => strip (valA s x)) ++ caps) (fun v => K { s with env := aput s.env o.dst v }) ⟨⟩
        | none => False)
      | _ => False
  | some (j, want) =>
    match aguard want (dstAt ops s.env j) with
    | none => False
    | some g =>
      if isPure o.op then (g = true → (apure T s.hp (valA s) o.op).ok) ∧ dstOk s.nt o.dst ∧ K { s with env := aput s.env o.dst (.gd g (apure T s.hp (valA s) o.op).v) }
      else match o.op with
        | .call { callee := .value f, args, .. } =>
          (match acallee (strip (valA s f)) with
          | some (h, first, caps) => dstOk s.nt o.dst ∧ aunder g (gdok (valA s f) ∧ gdoks (args.toList.map (valA s)) ∧ acallQK P s.hp h (first ++ args.toList.map (fun x => strip (valA s x)) ++ caps) (fun v => K { s with env := aput s.env o.dst v }) ⟨⟩,
              K { s with env := aput s.env o.dst (.gd false (ajunk (T o.type))) }) ⟨⟩
          | none => False)
        | .convert src dst x => (g = true → (aconvX T s.hp src dst (valA s x)).ok) ∧ dstOk s.nt o.dst ∧ K { s with env := aput s.env o.dst (.gd g (aconvX T s.hp src dst (valA s x)).v) }
        | _ => False

def astepQ (ops : Array Oper) (s : ASt) (o : Oper) (K : ASt → Prop) : Prop :=
  match nilCmp T (valA s) o.op with
  | some (neg, n) => anilCmp ops s o neg n K
  | none => astepQ0 P T ops s o K

def aopsQ (ops : Array Oper) (Q : ASt → Prop) : List Oper → ASt → Prop
  | [], s => Q s
  | o :: r, s => astepQ P T ops s o (aopsQ ops Q r)

def acond (c : AV) (p q : Prop) : Prop :=
  match c with
  | .d (.bool b) => (b = true → p) ∧ (b = false → q)
  | _ => False

/-- What a piece of code does, said of the model itself. -/
def AWP (c : Code) (s : ASt) (Q : Exit → ASt → Prop) : Prop :=
  ∀ (E : Ent) (ρ : List (Option (Nat × Nat))) (a : Act) (w : World), Rep E s ρ a w → c.wp P (fun e a' w' => ∃ s' ρ', Rep E s' ρ' a' w' ∧ Q e s') a w

def isCallOp : Op → Bool
  | .call { callee := .value _, .. } => true
  | .convert .. => true
  | _ => false

/-- Do all operations of a region only reckon, read or call? -/
def calm (ops : Array Oper) : Bool := ops.toList.all fun o => isPure o.op || isCallOp o.op

def awp : Code → ASt → (Exit → ASt → Prop) → Prop
  | .skip, s, Q => Q .normal s
  | .region id ops draw, s, Q => match draw with
    | false => aops P T ops (Q .normal) ops.toList s
    | true => if calm ops then Region.lexB .any ops = true ∧ aopsQ P T ops (Q .normal) ops.toList s else AWP P (.region id ops true) s Q
  | .seq a b, s, Q => awp a s fun e s' => match e with
    | .normal => awp b s' Q
    | e => Q e s'
  | .cond c x y, s, Q => acond (valA s c) (awp x s Q) (awp y s Q)
  | .block id c, s, Q => awp c s fun e s' => match e with
    | .exit i => if i = id then Q .normal s' else Q (.exit i) s'
    | e => Q e s'
  | .exit id, s, Q => Q (.exit id) s
  | .ret, s, Q => Q .ret s
  | c, s, Q => AWP P c s Q
end
end Go.Proofs.YtfnilhdofopoeabDoor
