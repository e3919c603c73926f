/- The table of types is checked by reckoning; values that may stand for one another at a call. It holds over any program; no condition. -/
import Derived.Test.YtfnilhdofopoeabDoorAvCall
namespace Go.Proofs.YtfnilhdofopoeabDoor
set_option linter.unusedVariables false
set_option linter.unusedSimpArgs false
open Go Go.RowKit

def valEq (v : Value) (d : DV) : Bool :=
  match d, v with
  | .int k n, .int k' n' => k == k' && n == n'
  | .bool b, .bool b' => b == b'
  | .str l, .string s => s.data.toList == l
  | .sc (.pointer none), .pointer none => true
  | .sc (.slice none 0 0), .slice none 0 0 => true
  | .sc (.map none), .map none => true
  | .sc .nilFunc, .nilFunc => true
  | .sc .nilIface, .nilIface => true
  | _, _ => false

theorem valEq_ok {v : Value} {d : DV} (h : valEq v d = true) : v = d.val ∧ d.val.oneCell' = true ∧ ∀ sz rs, d ≠ .sl sz rs := by
  unfold valEq at h
  split at h
  · simp at h; obtain ⟨rfl, rfl⟩ := h; exact ⟨rfl, rfl, by simp⟩
  · simp at h; subst h; exact ⟨rfl, rfl, by simp⟩
  · rename_i l s
    simp at h; subst h; exact ⟨by simp [DV.val, mkStr], rfl, by simp⟩
  · exact ⟨rfl, rfl, by simp⟩
  · exact ⟨rfl, rfl, by simp⟩
  · exact ⟨rfl, rfl, by simp⟩
  · exact ⟨rfl, rfl, by simp⟩
  · exact ⟨rfl, rfl, by simp⟩
  · cases h

def valsEq : List Value → List DV → Bool
  | [], [] => true
  | v :: l, d :: r => valEq v d && valsEq l r
  | _, _ => false

theorem valsEq_ok : ∀ {l : List Value} {r : List DV}, valsEq l r = true → l = r.map DV.val ∧ ∀ x, x ∈ r → x.val.oneCell' = true ∧ ∀ sz rs, x ≠ .sl sz rs
  | [], [], _ => ⟨rfl, by simp⟩
  | v :: l, d :: r, h => by
    simp only [valsEq, Bool.and_eq_true] at h
    obtain ⟨h1, h2, h3⟩ := valEq_ok h.1
    obtain ⟨h4, h5⟩ := valsEq_ok h.2
    refine ⟨by rw [List.map_cons, ← h1, ← h4], fun x hx => ?_⟩
    rcases List.mem_cons.1 hx with rfl | hx
    · exact ⟨h2, h3⟩
    · exact h5 x hx
  | [], _ :: _, h => by simp [valsEq] at h
  | _ :: _, [], h => by simp [valsEq] at h

def sizeIs (P : Program) (t s : Nat) : Bool := match P.info? t with | some i => i.size == s && !(s == 0) | none => false

def fieldsEq (P : Program) : List Field → List (Nat × Nat × TypeId) → Bool
  | [], [] => true
  | f :: l, (o, s, t) :: r => f.offset == o && f.type == t && sizeIs P t s && fieldsEq P l r
  | _, _ => false

theorem fieldsEq_ok {P : Program} : ∀ {l : List Field} {r : List (Nat × Nat × TypeId)}, fieldsEq P l r = true → l.length = r.length ∧
    ∀ (j : Nat) (o s t : Nat), r[j]? = some (o, s, t) → ∃ f, l[j]? = some f ∧ f.offset = o ∧ f.type = t ∧ s ≠ 0 ∧ ∃ i, P.info? t = some i ∧ i.size = s
  | [], [], _ => ⟨rfl, by simp⟩
  | f :: l, (o, s, t) :: r, h => by
    simp only [fieldsEq, Bool.and_eq_true, beq_iff_eq] at h
    obtain ⟨⟨⟨h1, h2⟩, h3⟩, h4⟩ := h
    obtain ⟨h5, h6⟩ := fieldsEq_ok h4
    refine ⟨by simp [h5], fun j o' s' t' hj => ?_⟩
    match j with
    | 0 =>
      simp at hj
      obtain ⟨rfl, rfl, rfl⟩ := hj
      unfold sizeIs at h3
      cases hi : P.info? t with
      | none => simp [hi] at h3
      | some i =>
        simp [hi] at h3
        exact ⟨f, rfl, h1, h2, h3.2, i, rfl, h3.1⟩
    | j + 1 => simpa using h6 j o' s' t' (by simpa using hj)
  | [], _ :: _, h => by simp [fieldsEq] at h
  | _ :: _, [], h => by simp [fieldsEq] at h

def kindEq (P : Program) (d : TypeDesc) (k : TK) : Bool :=
  match k, d with
  | .int a, .int b => a == b
  | .bool, .bool => true
  | .str, .string => true
  | .slice a, .slice b => a == b
  | .struct fs, .struct fields => fieldsEq P fields.toList fs
  | .array n e, .array n' e' => n == n' && e == e'
  | .pointer e, .pointer e' => e == e'
  | .map a b, .map a' b' => a == a' && b == b'
  | .func, .func _ _ _ => true
  | _, _ => false

theorem kindEq_ok {P : Program} {d : TypeDesc} {k : TK} (h : kindEq P d k = true) : kindOk P d k := by
  unfold kindEq at h
  split at h
  · simp at h; subst h; rfl
  · rfl
  · rfl
  · simp at h; subst h; rfl
  · rename_i fs fields
    obtain ⟨h1, h2⟩ := fieldsEq_ok h
    exact ⟨fields, rfl, by simpa using h1, fun j o s t hj => by
      obtain ⟨f, q1, q2⟩ := h2 j o s t hj
      exact ⟨f, by simpa using q1, q2⟩⟩
  · simp at h; obtain ⟨rfl, rfl⟩ := h; rfl
  · simp at h; subst h; rfl
  · simp at h; obtain ⟨rfl, rfl⟩ := h; rfl
  · exact ⟨_, _, _, rfl⟩
  · cases h

def zeroEq (z : Option Value) (ti : TI) : Bool :=
  match z with
  | some (.agg cs) => ti.agg && valsEq cs.toList ti.zero
  | some v => !ti.agg && valsEq [v] ti.zero
  | none => false

def tkEq : TK → TK → Bool
  | .int k, .int k' => k == k'
  | .bool, .bool => true
  | .str, .str => true
  | _, _ => false
def tksEq : List TK → List TK → Bool
  | [], [] => true
  | a :: l, b :: r => tkEq a b && tksEq l r
  | _, _ => false
theorem tksEq_ok : ∀ {l r : List TK}, tksEq l r = true → l = r
  | [], [], _ => rfl
  | a :: l, b :: r, h => by
    simp only [tksEq, Bool.and_eq_true] at h
    rw [tksEq_ok h.2]
    have h1 := h.1
    unfold tkEq at h1
    split at h1 <;> first | rfl | (simp at h1; rw [h1]) | cases h1
  | [], _ :: _, h => by simp [tksEq] at h
  | _ :: _, [], h => by simp [tksEq] at h
def cmpEq (P : Program) (t : TypeId) (ks : List TK) : Bool :=
  (match leaves P 8 t with | some l => tksEq l ks | none => false) && !(P.eqGuardType P.depth t) && (match P.underlying t with | some (.struct _) => true | _ => false)
theorem cmpEq_ok {P : Program} {t : TypeId} {ks : List TK} (h : cmpEq P t ks = true) : cmpOk P t ks := by
  simp only [cmpEq, Bool.and_eq_true, Bool.not_eq_true'] at h
  obtain ⟨⟨h1, h2⟩, h3⟩ := h
  refine ⟨?_, h2, ?_⟩
  · split at h1
    · rename_i l e; rw [e, tksEq_ok h1]
    · cases h1
  · split at h3
    · rename_i fs e; exact ⟨fs, e⟩
    · cases h3

def tyCheck (P : Program) (t : TypeId) (ti : TI) : Bool :=
  match P.info? t, P.underlying t with
  | some i, some d => i.size == ti.size && i.bytes == ti.bytes && zeroEq i.zero ti && kindEq P d ti.kind && ti.zero.length == ti.size && (ti.cmp.isEmpty || cmpEq P t ti.cmp)
  | _, _ => false

theorem tyCheck_ok {P : Program} {t : TypeId} {ti : TI} (h : tyCheck P t ti = true) : TyOk P t ti := by
  unfold tyCheck at h
  split at h
  · rename_i i d hi hd
    simp only [Bool.and_eq_true, beq_iff_eq] at h
    obtain ⟨⟨⟨⟨⟨h1, h2⟩, h3⟩, h4⟩, h5⟩, hcm⟩ := h
    have hcm : ti.cmp ≠ [] → cmpOk P t ti.cmp := fun hne => by
      simp only [Bool.or_eq_true, List.isEmpty_iff] at hcm
      rcases hcm with e | e
      · exact absurd e hne
      · exact cmpEq_ok e
    unfold zeroEq at h3
    split at h3
    · rename_i cs hz
      simp only [Bool.and_eq_true] at h3
      obtain ⟨h6, h7⟩ := h3
      obtain ⟨h8, h9⟩ := valsEq_ok h7
      refine ⟨⟨i, _, hi, h1, h2, hz, ?_⟩, ⟨d, hd, kindEq_ok h4⟩, h9, h5, hcm⟩
      rw [if_pos h6, ← h8]
    · rename_i v _ hz
      simp only [Bool.and_eq_true, Bool.not_eq_true'] at h3
      obtain ⟨h6, h7⟩ := h3
      obtain ⟨h8, h9⟩ := valsEq_ok h7
      refine ⟨⟨i, _, hi, h1, h2, hz, ?_⟩, ⟨d, hd, kindEq_ok h4⟩, h9, h5, hcm⟩
      rw [h6, if_neg (by simp), ← h8]
    · cases h3
  · cases h

def TI.none : TI := { size := 0, bytes := 0, zero := [], kind := .other }

def tabOf (l : List (Nat × TI)) (t : TypeId) : TI :=
  match l with
  | [] => TI.none
  | (k, ti) :: r => if k = t then ti else tabOf r t

theorem tabOk_of {P : Program} : ∀ {l : List (Nat × TI)}, (∀ p, p ∈ l → tyCheck P p.1 p.2 = true) → TabOk P (tabOf l)
  | [], _, t => by simp [tabOf, TI.none]
  | (k, ti) :: r, h, t => by
    have ih := tabOk_of (l := r) (fun p hp => h p (List.mem_cons_of_mem _ hp)) t
    by_cases e : k = t
    · subst e
      have := tyCheck_ok (h (k, ti) (by simp))
      simp only [tabOf, if_true]
      cases ti.kind <;> first | trivial | exact this
    · simp only [tabOf, if_neg e]
      exact ih

/-! ### nil where data is wanted -/
mutual
def coeD : DV → DV → Prop
  | .sc (.slice none 0 0), .sl _ [] => True
  | .sl n rs, .sl m qs => n = m ∧ coeRs rs qs
  | x, y => x = y
def coeRs : List (List DV) → List (List DV) → Prop
  | [], [] => True
  | r :: rs, q :: qs => coeRw r q ∧ coeRs rs qs
  | _, _ => False
def coeRw : List DV → List DV → Prop
  | [], [] => True
  | x :: r, y :: q => coeD x y ∧ coeRw r q
  | _, _ => False
end
mutual
def coeV : AV → AV → Prop
  | .d x, .d y => x = y ∨ coeD x y
  | .agg xs, .agg ys => coeL xs ys
  | .tup xs, .tup ys => coeL xs ys
  | x, y => x = y
def coeL : List AV → List AV → Prop
  | [], [] => True
  | x :: r, y :: l => coeV x y ∧ coeL r l
  | _, _ => False
end

theorem coeRw_get : ∀ {xs ys : List DV}, coeRw xs ys → xs.length = ys.length ∧ ∀ (j : Nat) (x y : DV), xs[j]? = some x → ys[j]? = some y → coeD x y
  | [], [], _ => ⟨rfl, by simp⟩
  | x :: r, y :: l, h => by
    simp only [coeRw] at h
    obtain ⟨h1, h2⟩ := coeRw_get h.2
    refine ⟨by simp [h1], fun j a b ha hb => ?_⟩
    match j with
    | 0 => simp at ha hb; subst ha; subst hb; exact h.1
    | j + 1 => exact h2 j a b (by simpa using ha) (by simpa using hb)
  | [], _ :: _, h => by simp [coeRw] at h
  | _ :: _, [], h => by simp [coeRw] at h
theorem coeRs_get : ∀ {xs ys : List (List DV)}, coeRs xs ys → xs.length = ys.length ∧ ∀ (j : Nat) (x y : List DV), xs[j]? = some x → ys[j]? = some y → coeRw x y
  | [], [], _ => ⟨rfl, by simp⟩
  | x :: r, y :: l, h => by
    simp only [coeRs] at h
    obtain ⟨h1, h2⟩ := coeRs_get h.2
    refine ⟨by simp [h1], fun j a b ha hb => ?_⟩
    match j with
    | 0 => simp at ha hb; subst ha; subst hb; exact h.1
    | j + 1 => exact h2 j a b (by simpa using ha) (by simpa using hb)
  | [], _ :: _, h => by simp [coeRs] at h
  | _ :: _, [], h => by simp [coeRs] at h

theorem coeL_get : ∀ {xs ys : List AV}, coeL xs ys → xs.length = ys.length ∧ ∀ (j : Nat) (x y : AV), xs[j]? = some x → ys[j]? = some y → coeV x y
  | [], [], _ => ⟨rfl, by simp⟩
  | x :: r, y :: l, h => by
    simp only [coeL] at h
    obtain ⟨h1, h2⟩ := coeL_get h.2
    refine ⟨by simp [h1], fun j a b ha hb => ?_⟩
    match j with
    | 0 => simp at ha hb; subst ha; subst hb; exact h.1
    | j + 1 => exact h2 j a b (by simpa using ha) (by simpa using hb)
  | [], _ :: _, h => by simp [coeL] at h
  | _ :: _, [], h => by simp [coeL] at h

theorem coeD_rep {ok : Nat → Prop} {w : World} {x : DV} {v : Value} (h : RepD ok w x v) : ∀ y, coeD x y → RepD ok w y v := by
  induction h with
  | int k n => intro y hc; have : DV.int k n = y := by cases y <;> (simp only [coeD] at hc; exact hc)
               subst this; exact .int k n
  | bool b => intro y hc; have : DV.bool b = y := by cases y <;> (simp only [coeD] at hc; exact hc)
              subst this; exact .bool b
  | str l => intro y hc; have : DV.str l = y := by cases y <;> (simp only [coeD] at hc; exact hc)
             subst this; exact .str l
  | sc v h =>
    intro y hc
    unfold coeD at hc
    split at hc
    · rename_i sz e
      injection e with e
      subst e
      exact .sl sz [] none 0 (fun _ _ => undef) (by simp) (by simp) (by simp) (by simp)
    · rename_i e; cases e
    · subst hc; exact .sc v h
  | sc0 A =>
    intro y hc
    unfold coeD at hc
    split at hc
    · rename_i sz e
      exact .sl sz [] A 0 (fun _ _ => undef) (by simp) (by simp) (by simp) (by simp)
    · rename_i e; cases e
    · subst hc; exact .sc0 A
  | sl sz rows A cap u hcap hsz hc hr ih =>
    intro y hco
    unfold coeD at hco
    split at hco
    · rename_i e; cases e
    · rename_i n rs m qs e
      injection e with e1 e2
      subst e1; subst e2
      obtain ⟨e3, hco⟩ := hco
      subst e3
      obtain ⟨hl, hg⟩ := coeRs_get hco
      have back : ∀ (i : Nat) (r' : List DV), qs[i]? = some r' → ∃ r, rows[i]? = some r ∧ coeRw r r' := fun i r' hi => by
        have hlt : i < rows.length := by rw [hl]; exact (List.getElem?_eq_some_iff.1 hi).1
        exact ⟨_, List.getElem?_eq_getElem hlt, hg i _ r' (List.getElem?_eq_getElem hlt) hi⟩
      rw [hl]
      refine .sl sz qs A cap u (by rw [← hl]; exact hcap) (fun r' hr' => ?_) (fun hp => ?_) fun i r' hi j c' hj => ?_
      · obtain ⟨i, hi⟩ := List.mem_iff_getElem?.1 hr'
        obtain ⟨r, h1, h2⟩ := back i r' hi
        rw [← (coeRw_get h2).1]; exact hsz r (List.mem_of_getElem? h1)
      · obtain ⟨b, o, h1, h2, h3⟩ := hc (by rw [hl]; exact hp)
        refine ⟨b, o, h1, h2, fun i r' hi j c' hj => ?_⟩
        obtain ⟨r, h4, h5⟩ := back i r' hi
        have hlt : j < r.length := by rw [(coeRw_get h5).1]; exact (List.getElem?_eq_some_iff.1 hj).1
        exact h3 i r h4 j _ (List.getElem?_eq_getElem hlt)
      · obtain ⟨r, h4, h5⟩ := back i r' hi
        have hlt : j < r.length := by rw [(coeRw_get h5).1]; exact (List.getElem?_eq_some_iff.1 hj).1
        exact ih i r h4 j _ (List.getElem?_eq_getElem hlt) c' ((coeRw_get h5).2 j _ c' (List.getElem?_eq_getElem hlt) hj)
    · subst hco; exact .sl sz rows A cap u hcap hsz hc hr

theorem coe_rep {ρ : List (Option (Nat × Nat))} {ok : Nat → Prop} {w : World} {x : AV} {u : Value} (h : RepV ρ ok w x u) : ∀ y, coeV x y → RepV ρ ok w y u := by
  induction h with
  | agg cs us hl h1 hr ih =>
    intro y hc
    unfold coeV at hc
    split at hc
    · rename_i e; cases e
    · rename_i xs ys e
      injection e with e
      subst e
      obtain ⟨q1, q2⟩ := coeL_get hc
      refine .agg _ _ (by rw [hl, q1]) h1 fun j c u hcj hu => ?_
      have hj : j < cs.length := by rw [q1]; exact (List.getElem?_eq_some_iff.1 hcj).1
      exact ih j _ u (List.getElem?_eq_getElem hj) hu c (q2 j _ c (List.getElem?_eq_getElem hj) hcj)
    · rename_i e; cases e
    · subst hc; exact .agg cs us hl h1 hr
  | d x v h =>
    intro y hc
    unfold coeV at hc
    split at hc
    · rename_i a b e
      injection e with e
      subst e
      rcases hc with hc | hc
      · subst hc; exact .d _ _ h
      · exact .d _ _ (coeD_rep h _ hc)
    · rename_i e; cases e
    · rename_i e; cases e
    · subst hc; exact .d x v h
  | tup cs us hl hr ih =>
    intro y hc
    unfold coeV at hc
    split at hc
    · rename_i e; cases e
    · rename_i e; cases e
    · rename_i xs ys e
      injection e with e
      subst e
      obtain ⟨q1, q2⟩ := coeL_get hc
      refine .tup _ _ (by rw [hl, q1]) fun j c u hcj hu => ?_
      have hj : j < cs.length := by rw [q1]; exact (List.getElem?_eq_some_iff.1 hcj).1
      exact ih j _ u (List.getElem?_eq_getElem hj) hu c (q2 j _ c (List.getElem?_eq_getElem hj) hcj)
    · subst hc; exact .tup cs us hl hr
  | ptr k off b m h => intro y hc; have : AV.ptr k off = y := by cases y <;> (simp only [coeV] at hc; exact hc)
                       subst this; exact .ptr k off b m h
  | rp k sz i off b m h => intro y hc; have : AV.rp k sz i off = y := by cases y <;> (simp only [coeV] at hc; exact hc)
                           subst this; exact .rp k sz i off b m h
  | osl k sz off n b m cap h hm hn => intro y hc; have : AV.osl k sz off n = y := by cases y <;> (simp only [coeV] at hc; exact hc)
                                      subst this; exact .osl k sz off n b m cap h hm hn
  | oslnil k sz A h =>
    intro y hc
    have : AV.osl k sz 0 0 = y := by cases y <;> (simp only [coeV] at hc; exact hc)
    subst this; exact .oslnil k sz A h
  | dp row off b o u hb hc' hr => intro y hc; have : AV.dp row off = y := by cases y <;> (simp only [coeV] at hc; exact hc)
                                  subst this; exact .dp row off b o u hb hc' hr
  | clo f first caps us vs hl hl' hr hr' _ _ => intro y hc; have : AV.clo f first caps = y := by cases y <;> (simp only [coeV] at hc; exact hc)
                                                subst this; exact .clo f first caps us vs hl hl' hr hr'
  | gd g v u ht hf _ => intro y hc; have : AV.gd g v = y := by cases y <;> (simp only [coeV] at hc; exact hc)
                        subst this; exact .gd g v u ht hf
  | mp k b m h => intro y hc; have : AV.mp k = y := by cases y <;> (simp only [coeV] at hc; exact hc)
                  subst this; exact .mp k b m h
  | any u => intro y hc; have : AV.any = y := by cases y <;> first | rfl | (simp only [coeV] at hc; exact hc)
             subst this; exact .any u

mutual
theorem coeV_refl : ∀ (x : AV), coeV x x
  | .d x => by simp [coeV]
  | .agg xs => by simp only [coeV]; exact coeL_refl xs
  | .tup xs => by simp only [coeV]; exact coeL_refl xs
  | .ptr _ _ => by simp only [coeV]
  | .rp _ _ _ _ => by simp only [coeV]
  | .osl _ _ _ _ => by simp only [coeV]
  | .dp _ _ => by simp only [coeV]
  | .clo _ _ _ => by simp only [coeV]
  | .gd _ _ => by simp only [coeV]
  | .mp _ => by simp only [coeV]
  | .any => by simp only [coeV]
theorem coeL_refl : ∀ (xs : List AV), coeL xs xs
  | [] => by simp only [coeL]
  | x :: r => by simp only [coeL]; exact ⟨coeV_refl x, coeL_refl r⟩
end

theorem acall.coe {P : Program} {hp : List ABlk} {g : FuncId} {xs ys : List AV} {R : AV → List ABlk → Prop} (c : acall P hp g ys R) (h : coeL xs ys) : acall P hp g xs R := by
  refine ⟨c.1, fun E w us h1 h2 h3 => c.2 E w us h1 h2 ?_⟩
  obtain ⟨q1, q2⟩ := coeL_get h
  refine ⟨by rw [h3.1, q1], fun j y u hy hu => ?_⟩
  have hj : j < xs.length := by rw [q1]; exact (List.getElem?_eq_some_iff.1 hy).1
  exact coe_rep (h3.2 j _ u (List.getElem?_eq_getElem hj) hu) y (q2 j _ y (List.getElem?_eq_getElem hj) hy)

theorem AOut.coe {np : Nat} {hp : List ABlk} {v v' : AV} {R : AV → List ABlk → Prop} (hc : coeV v v') (h : AOut np hp v' R) : AOut np hp v R :=
  fun E ρ w u h1 h2 h3 h4 => h E ρ w u h1 h2 h3 (coe_rep h4 v' hc)
end Go.Proofs.YtfnilhdofopoeabDoor
