/- Slicing, struct literals, function literals; and all pure operations under one name. It holds over any program whose types read as the table says. -/
import Derived.Test.YtfnilhdofopoeabDoorAvPure3
namespace Go.Proofs.YtfnilhdofopoeabDoor
set_option linter.unusedVariables false
set_option linter.unusedSimpArgs false
open Go Go.RowKit

def abnd (d : Int) : Option AV → Int
  | some (.d (.int _ i)) => i
  | _ => d
def abndOk : Option AV → Prop
  | none => True
  | some (.d (.int _ _)) => True
  | _ => False

def aslStr (l : List UInt8) (lo hi mx : Option AV) (a b : Int) : PR :=
  ⟨mx = none ∧ abndOk lo ∧ abndOk hi ∧ 0 ≤ a ∧ a ≤ b ∧ b ≤ l.length, .d (.str ((l.drop a.toNat).take (b.toNat - a.toNat)))⟩
def aslSl (te : TI) (sz : Nat) (rows : List (List DV)) (lo hi mx : Option AV) (a b m : Int) : PR :=
  ⟨abndOk lo ∧ abndOk hi ∧ abndOk mx ∧ (mx = none ∨ hi ≠ none) ∧ 0 ≤ a ∧ a ≤ b ∧ b ≤ m ∧ m ≤ rows.length ∧ te.size = sz ∧ (te.kind matches .other) = false, if mx.isSome = true ∧ m = 0 then .d (.sc (.slice none 0 0)) else .d (.sl sz ((rows.drop a.toNat).take (b.toNat - a.toNat)))⟩
def aslOwn (te : TI) (k sz off n : Nat) (lo hi mx : Option AV) (a b m : Int) : PR :=
  ⟨abndOk lo ∧ abndOk hi ∧ abndOk mx ∧ (mx = none ∨ hi ≠ none) ∧ 0 ≤ a ∧ a ≤ b ∧ b ≤ m ∧ m ≤ n ∧ te.size = sz ∧ (te.kind matches .other) = false,
      if mx.isSome = true then .any else if a.toNat = 0 then .osl k sz off b.toNat else if a.toNat < m.toNat then .osl k sz (off + a.toNat) (b.toNat - a.toNat) else .d (.sl sz [])⟩
/-- .. of a row whose room is known. -/
def aslFull (te : TI) (k sz off N : Nat) (lo hi mx : Option AV) (a b m : Int) : PR :=
  ⟨abndOk lo ∧ abndOk hi ∧ abndOk mx ∧ (mx = none ∨ hi ≠ none) ∧ 0 ≤ a ∧ a ≤ b ∧ b ≤ m ∧ m ≤ (N : Int) - off ∧ off ≤ N ∧ 0 < sz ∧ te.size = sz ∧ (te.kind matches .other) = false,
      if mx.isSome = true then .any else if a.toNat = 0 then .osl k sz off b.toNat else if a.toNat < N - off then .osl k sz (off + a.toNat) (b.toNat - a.toNat) else .d (.sl sz [])⟩
def aslOwnF (te : TI) (hp : List ABlk) (k sz off n : Nat) (lo hi mx : Option AV) : PR :=
  match hp[k]? with
  | some (.full sz' rs) => ⟨sz = sz' ∧ (aslFull te k sz off rs.length lo hi mx (abnd 0 lo) (abnd n hi) (abnd ((rs.length : Int) - off) mx)).ok, (aslFull te k sz off rs.length lo hi mx (abnd 0 lo) (abnd n hi) (abnd ((rs.length : Int) - off) mx)).v⟩
  | _ => aslOwn te k sz off n lo hi mx (abnd 0 lo) (abnd n hi) (abnd n mx)
def aslArr (te : TI) (n k : Nat) (blk : Option ABlk) (lo hi mx : Option AV) (a b : Int) : PR :=
  match blk with
  | some (.cells cs) => ⟨mx = none ∧ abndOk lo ∧ abndOk hi ∧ 0 ≤ a ∧ a ≤ b ∧ b ≤ n ∧ a < n ∧ cs.length = n * te.size ∧ (te.kind matches .other) = false, .osl k te.size a.toNat (b.toNat - a.toNat)⟩
  | _ => ⟨False, .any⟩

def aslice (T : TypeId → TI) (ti : TI) (hp : List ABlk) (x : AV) (lo hi mx : Option AV) : PR :=
  match ti.kind, x with
  | .str, .d (.str l) => aslStr l lo hi mx (abnd 0 lo) (abnd l.length hi)
  | .slice e, .d (.sl sz rows) => aslSl (T e) sz rows lo hi mx (abnd 0 lo) (abnd rows.length hi) (abnd rows.length mx)
  | .slice e, .osl k sz off n => aslOwnF (T e) hp k sz off n lo hi mx
  | .array n e, .ptr k 0 => aslArr (T e) n k hp[k]? lo hi mx (abnd 0 lo) (abnd n hi)
  | _, _ => ⟨False, .any⟩

def acells : AV → List AV
  | .agg cs => cs
  | v => [v]

def isTup : AV → Bool
  | .tup _ => true
  | .gd _ _ => true
  | .any => true
  | _ => false

def fillA (place : Nat → Option (Nat × Nat)) : List (Nat × AV) → List AV → Prop × List AV
  | [], cs => (True, cs)
  | (i, v) :: rest, cs =>
    match place i with
    | none => (False, cs)
    | some (off, size) =>
      let r := fillA place rest (cs.take off ++ acells v ++ cs.drop (off + (acells v).length))
      ((acells v).length = size ∧ off + (acells v).length ≤ cs.length ∧ (isTup v = false) ∧ r.1, r.2)

def abuild (T : TypeId → TI) (ti : TI) (parts : List (Nat × AV)) : PR :=
  match ti.kind with
  | .struct fs =>
    let r := fillA (fun i => (fs[i]?).map fun f => (f.1, f.2.1)) parts (ti.zero.map .d)
    ⟨r.1, .agg r.2⟩
  | .array _ e =>
    let r := fillA (fun i => some (i * (T e).size, (T e).size)) parts (ti.zero.map .d)
    ⟨r.1 ∧ ((T e).kind matches .other) = false, .agg r.2⟩
  | _ => ⟨False, .any⟩

section
variable {P : Program} {ρ : List (Option (Nat × Nat))} {ok : Nat → Prop} {w : World}

def RepO (ρ : List (Option (Nat × Nat))) (ok : Nat → Prop) (w : World) : Option AV → Option Value → Prop
  | none, none => True
  | some x, some u => RepV ρ ok w x u
  | _, _ => False

theorem run_sliceBound {y : Nat} {code : BoundsCode} {k : IntKind} {i : Int} (h : 0 ≤ i ∧ i ≤ y) (w' : World) : (Instr.sliceBound (.int k i) y code).run P w' = .ok i.toNat w' := by
  simp [Instr.sliceBound, asIntOf, h]

theorem bnd_val {x : Option AV} {u : Option Value} (h : RepO ρ ok w x u) (hk : abndOk x) : (x = none ∧ u = none) ∨ ∃ k i, x = some (.d (.int k i)) ∧ u = some (.int k i) := by
  match x, u, h with
  | none, none, _ => exact .inl ⟨rfl, rfl⟩
  | some x, some u, h =>
    right
    unfold abndOk at hk
    split at hk
    · rename_i e; cases e
    · rename_i k i e
      injection e with e
      subst e
      cases h with | d _ _ h => cases h with | int k i => exact ⟨k, i, rfl, rfl⟩
    · exact hk.elim

theorem run_sliceBounds {isSlice : Bool} {len cap : Nat} {lo hi mx : Option AV} {ulo uhi umx : Option Value} (h1 : RepO ρ ok w lo ulo) (h2 : RepO ρ ok w hi uhi) (h3 : RepO ρ ok w mx umx)
    (k1 : abndOk lo) (k2 : abndOk hi) (k3 : abndOk mx) (hm : mx = none ∨ hi ≠ none) (dm : Int) (hdm : mx = none → dm = cap) (hm2 : abnd dm mx ≤ cap)
    (h0 : 0 ≤ abnd 0 lo) (hab : abnd 0 lo ≤ abnd len hi) (hbm : abnd len hi ≤ abnd dm mx) (w' : World) :
    (Instr.sliceBounds isSlice len cap ulo uhi umx).run P w' = .ok ((abnd 0 lo).toNat, (abnd len hi).toNat, (abnd dm mx).toNat) w' := by
  rcases bnd_val h3 k3 with ⟨rfl, rfl⟩ | ⟨km, im, rfl, rfl⟩
  · have := hdm rfl
    subst this
    rcases bnd_val h2 k2 with ⟨rfl, rfl⟩ | ⟨kh, ih, rfl, rfl⟩
    · rcases bnd_val h1 k1 with ⟨rfl, rfl⟩ | ⟨kl, il, rfl, rfl⟩
      · simp [Instr.sliceBounds, abnd]
      · simp only [abnd] at *
        simp [Instr.sliceBounds, run_sliceBound (P := P) (w' := w') (i := il) (y := len) ⟨h0, hab⟩]
    · simp only [abnd] at hbm hab
      have hh := run_sliceBound (P := P) (w' := w') (k := kh) (i := ih) (y := cap) (code := if isSlice then .sliceAcap else .sliceAlen) ⟨Int.le_trans h0 hab, hbm⟩
      have ec : ((ih.toNat : Nat) : Int) = ih := Int.toNat_of_nonneg (Int.le_trans h0 hab)
      rcases bnd_val h1 k1 with ⟨rfl, rfl⟩ | ⟨kl, il, rfl, rfl⟩
      · simp [Instr.sliceBounds, abnd, hh]
      · simp only [abnd] at *
        simp [Instr.sliceBounds, hh, run_sliceBound (P := P) (w' := w') (i := il) (y := ih.toNat) ⟨h0, by rw [ec]; exact hab⟩]
  · rcases bnd_val h2 k2 with ⟨rfl, rfl⟩ | ⟨kh, ih, rfl, rfl⟩
    · rcases hm with hm | hm
      · cases hm
      · exact absurd rfl hm
    · simp only [abnd] at hbm hab hm2
      have hm' := run_sliceBound (P := P) (w' := w') (k := km) (i := im) (y := cap) (code := if isSlice then .slice3Acap else .slice3Alen) ⟨Int.le_trans (Int.le_trans h0 hab) hbm, hm2⟩
      have em : ((im.toNat : Nat) : Int) = im := Int.toNat_of_nonneg (Int.le_trans (Int.le_trans h0 hab) hbm)
      have hh := run_sliceBound (P := P) (w' := w') (k := kh) (i := ih) (y := im.toNat) (code := .slice3B) ⟨Int.le_trans h0 hab, by rw [em]; exact hbm⟩
      have ec : ((ih.toNat : Nat) : Int) = ih := Int.toNat_of_nonneg (Int.le_trans h0 hab)
      rcases bnd_val h1 k1 with ⟨rfl, rfl⟩ | ⟨kl, il, rfl, rfl⟩
      · simp [Instr.sliceBounds, abnd, hh, hm']
      · simp only [abnd] at *
        simp [Instr.sliceBounds, hh, hm', run_sliceBound (P := P) (w' := w') (i := il) (y := ih.toNat) ⟨h0, by rw [ec]; exact hab⟩]

theorem run_aslice {T : TypeId → TI} (hT : TabOk P T) {hp : List ABlk} (hB : Blks ρ ok w hp) (t : TypeId) (x : AV) (ux : Value) (lo hi mx : Option AV) (ulo uhi umx : Option Value)
    (hx : RepV ρ ok w x ux) (h1 : RepO ρ ok w lo ulo) (h2 : RepO ρ ok w hi uhi) (h3 : RepO ρ ok w mx umx) (h : (aslice T (T t) hp x lo hi mx).ok) :
    ∃ u, RepV ρ ok w (aslice T (T t) hp x lo hi mx).v u ∧ ∀ w', (Instr.sliceAt t ux ulo uhi umx).run P w' = .ok u w' := by
  revert h
  unfold aslice
  split
  · rename_i l hk
    intro ⟨hmx, k1, k2, h0, hab, hb⟩
    subst hmx
    cases hx with | d _ _ hx => cases hx with | str _ =>
    refine ⟨_, .d _ _ (.str _), fun w' => ?_⟩
    have hs := run_sliceBounds (P := P) (isSlice := false) (len := l.length) (cap := l.length) h1 h2 h3 k1 k2 trivial (.inl rfl) l.length (fun _ => rfl) (by simp [abnd]) h0 hab (by simpa [abnd] using hb) w'
    cases umx with
    | some _ => exact h3.elim
    | none =>
      simp [Instr.sliceAt, Instr.slice, run_underlying (und_str hT hk), mkStr, mk_size, hs, mk_extract]
  · rename_i e sz rows hk
    intro ⟨k1, k2, k3, hm, h0, hab, hbm, hmr, hs, hko⟩
    have hko := isOther_false hko
    cases hx with | d _ _ hx => cases hx with | sl _ _ A cap u hcap hsz hc hr =>
    have hmc : ∃ dm, (mx = none → dm = (cap : Int)) ∧ abnd dm mx ≤ cap ∧ abnd rows.length hi ≤ abnd dm mx := by
      rcases bnd_val h3 k3 with ⟨rfl, rfl⟩ | ⟨km, im, rfl, rfl⟩
      · refine ⟨cap, fun _ => rfl, Int.le_refl _, ?_⟩
        simp only [abnd] at *
        omega
      · refine ⟨0, (fun hh => by cases hh), ?_, hbm⟩
        simp only [abnd] at *
        omega
    obtain ⟨dm, hdm1, hdm2, hdm3⟩ := hmc
    have hb := fun w' => run_sliceBounds (P := P) (isSlice := true) (len := rows.length) (cap := cap) h1 h2 h3 k1 k2 k3 hm dm hdm1 hdm2 h0 hab hdm3 w'
    have hmn : mx.isSome = true → abnd dm mx = abnd rows.length mx := by
      rcases bnd_val h3 k3 with ⟨rfl, rfl⟩ | ⟨km, im, rfl, rfl⟩
      · intro h; cases h
      · intro _; rfl
    generalize abnd 0 lo = a at *
    generalize abnd rows.length hi = b at *
    generalize abnd rows.length mx = mn at *
    generalize abnd dm mx = m at *
    have hlen : ((rows.drop a.toNat).take (b.toNat - a.toNat)).length = b.toNat - a.toNat := length_seg _ _ _ (by omega)
    refine ⟨.slice (if m.toNat = a.toNat then A else A.map (·.add (a.toNat * sz))) (b.toNat - a.toNat) (m.toNat - a.toNat), ?_, fun w' => ?_⟩
    · simp only [aslSl]
      split
      · rename_i h00
        have e1 := h00.2
        have e3 : m = mn := hmn h00.1
        have ea : a.toNat = 0 := by omega
        have eb : b.toNat = 0 := by omega
        have em : m.toNat = 0 := by omega
        rw [ea, eb, em]
        exact .d _ _ (.sc0 _)
      · generalize hL : (rows.drop a.toNat).take (b.toNat - a.toNat) = L at hlen ⊢
        rw [← hlen]
        refine .d _ _ (.sl sz L _ _ (fun i j => u (a.toNat + i) j) (by rw [hlen]; omega) (fun r hr' => hsz r (by subst hL; exact mem_seg hr')) (fun hp => ?_) fun i r hi' j c hj => ?_)
        · rw [hlen] at hp
          obtain ⟨bb, o, rfl, hbb, hcell⟩ := hc (by omega)
          refine ⟨bb, o + a.toNat * sz, ?_, hbb, fun i r hi' j c hj => ?_⟩
          · rw [if_neg (by omega)]; simp [Addr.add_lit]
          · subst hL
            have := hcell _ r (getElem?_seg _ _ _ _ _ hi').1 j c hj
            rw [Nat.add_mul] at this
            rw [← this]
            congr 2
            omega
        · subst hL; exact hr _ r (getElem?_seg _ _ _ _ _ hi').1 j c hj
    · simp [Instr.sliceAt, Instr.slice, run_underlying (und_slice hT hk), hb w', run_sizeOf_tab hT hko, hs]
  · rename_i e k sz off n hk
    by_cases hF : ∃ sz' rs, hp[k]? = some (.full sz' rs)
    · obtain ⟨sz', rs, hcs⟩ := hF
      simp only [aslOwnF, hcs]
      intro ⟨hss, k1, k2, k3, hm, h0, hab, hbm, hmN, hoN, hpos, hs, hko⟩
      subst hss
      have hko := isOther_false hko
      cases hx with
      | oslnil _ _ A hkk => exact absurd hkk (hB.2 k _ _ hcs)
      | osl _ _ _ _ bb m' cap hkk hm' hn =>
      obtain ⟨us, ty, fz, hw, hmm, hone, hrl, hsz, hr⟩ := hB.1 k _ bb m' hcs hkk (by simp)
      have hcap : cap = rs.length - off := by
        rw [← hm'] at hmm
        rw [hmm] at hsz
        have := Nat.eq_of_mul_eq_mul_right hpos hsz
        omega
      have hdm : ((rs.length : Int) - off) = (cap : Int) := by omega
      rw [hdm] at hbm hmN ⊢
      have hNc : rs.length - off = cap := hcap.symm
      have hb := fun w' => run_sliceBounds (P := P) (isSlice := true) (len := n) (cap := cap) h1 h2 h3 k1 k2 k3 hm (cap : Int) (fun _ => rfl) hmN h0 hab hbm w'
      have hm4 : ¬ mx.isSome = true → (abnd (cap : Int) mx).toNat = cap := by
        rcases bnd_val h3 k3 with ⟨rfl, rfl⟩ | ⟨km, im, rfl, rfl⟩
        · intro _; simp only [abnd]; omega
        · intro h; simp at h
      generalize abnd 0 lo = a at *
      generalize abnd n hi = b at *
      generalize abnd (cap : Int) mx = mm at *
      refine ⟨.slice (if mm.toNat = a.toNat then some ⟨bb, off * sz, none⟩ else some ⟨bb, off * sz + a.toNat * sz, none⟩) (b.toNat - a.toNat) (mm.toNat - a.toNat), ?_, fun w' => ?_⟩
      · simp only [aslFull]
        by_cases hmx : mx.isSome = true
        · rw [if_pos hmx]; exact .any _
        rw [if_neg hmx, hm4 hmx, hNc]
        have hm5 := hm4 hmx
        by_cases ha : a.toNat = 0
        · rw [if_pos ha, ha]
          have : (if cap = 0 then some (⟨bb, off * sz, none⟩ : Addr) else some ⟨bb, off * sz + 0 * sz, none⟩) = some ⟨bb, off * sz, none⟩ := by simp
          rw [this]
          exact .osl k sz off _ bb m' _ hkk (by rw [Nat.sub_zero]; exact hm') (by omega)
        · rw [if_neg ha]
          by_cases han : a.toNat < cap
          · rw [if_pos han, if_neg (by omega), ← Nat.add_mul]
            exact .osl k sz (off + a.toNat) _ bb m' (cap - a.toNat) hkk (by rw [Nat.add_assoc, ← hm']; congr 1; omega) (by omega)
          · rw [if_neg han]
            have : b.toNat - a.toNat = ([] : List (List DV)).length := by simp; omega
            rw [this]
            exact .d _ _ (.sl sz [] _ _ (fun _ _ => undef) (by simp) (by simp) (by simp) (by simp))
      · simp [Instr.sliceAt, Instr.slice, run_underlying (und_slice hT hk), hb w', run_sizeOf_tab hT hko, hs, Addr.add_lit]
    have hEq : aslOwnF (T e) hp k sz off n lo hi mx = aslOwn (T e) k sz off n lo hi mx (abnd 0 lo) (abnd n hi) (abnd n mx) := by
      unfold aslOwnF
      split
      · rename_i sz' rs hcs; exact absurd ⟨_, _, hcs⟩ hF
      · rfl
    rw [hEq]
    intro ⟨k1, k2, k3, hm, h0, hab, hbm, hmr, hs, hko⟩
    have hko := isOther_false hko
    cases hx with
    | oslnil _ _ A hkk =>
      have hmc : ∃ dm : Int, (mx = none → dm = ((0 : Nat) : Int)) ∧ abnd dm mx ≤ (0 : Nat) ∧ abnd (0 : Nat) hi ≤ abnd dm mx := by
        rcases bnd_val h3 k3 with ⟨rfl, rfl⟩ | ⟨km, im, rfl, rfl⟩
        · refine ⟨0, fun _ => rfl, Int.le_refl _, ?_⟩
          simp only [abnd] at *
          omega
        · refine ⟨0, (fun hh => by cases hh), ?_, hbm⟩
          simp only [abnd] at *
          omega
      obtain ⟨dm, hdm1, hdm2, hdm3⟩ := hmc
      have hb := fun w' => run_sliceBounds (P := P) (isSlice := true) (len := 0) (cap := 0) h1 h2 h3 k1 k2 k3 hm dm hdm1 hdm2 h0 hab hdm3 w'
      generalize abnd 0 lo = a at *
      generalize abnd (0 : Nat) hi = b at *
      generalize abnd dm mx = m at *
      have ea : a.toNat = 0 := by omega
      have eb : b.toNat = 0 := by omega
      have em : m.toNat = 0 := by omega
      refine ⟨.slice A 0 0, ?_, fun w' => ?_⟩
      · simp only [aslOwn, ea, eb, if_true]
        split
        · exact .any _
        · exact .oslnil k sz A hkk
      · have := hb w'
        rw [ea, eb, em] at this
        simp [Instr.sliceAt, Instr.slice, run_underlying (und_slice hT hk), this, run_sizeOf_tab hT hko]
    | osl _ _ _ _ bb m' cap hkk hm' hn =>
    have hmc : ∃ dm, (mx = none → dm = (cap : Int)) ∧ abnd dm mx ≤ cap ∧ abnd n hi ≤ abnd dm mx := by
      rcases bnd_val h3 k3 with ⟨rfl, rfl⟩ | ⟨km, im, rfl, rfl⟩
      · refine ⟨cap, fun _ => rfl, Int.le_refl _, ?_⟩
        simp only [abnd] at *
        omega
      · refine ⟨0, (fun hh => by cases hh), ?_, hbm⟩
        simp only [abnd] at *
        omega
    obtain ⟨dm, hdm1, hdm2, hdm3⟩ := hmc
    have hb := fun w' => run_sliceBounds (P := P) (isSlice := true) (len := n) (cap := cap) h1 h2 h3 k1 k2 k3 hm dm hdm1 hdm2 h0 hab hdm3 w'
    have hmn : abnd n mx ≤ abnd dm mx := by
      rcases bnd_val h3 k3 with ⟨rfl, rfl⟩ | ⟨km, im, rfl, rfl⟩
      · simp only [abnd, hdm1 rfl]; omega
      · simp only [abnd]; exact Int.le_refl _
    have hdm4 : ¬ mx.isSome = true → abnd dm mx = (cap : Int) := by
      rcases bnd_val h3 k3 with ⟨rfl, rfl⟩ | ⟨km, im, rfl, rfl⟩
      · intro _; simp only [abnd]; exact hdm1 rfl
      · intro h; simp at h
    generalize abnd 0 lo = a at *
    generalize abnd n hi = b at *
    generalize abnd n mx = mn at *
    generalize abnd dm mx = m at *
    refine ⟨.slice (if m.toNat = a.toNat then some ⟨bb, off * sz, none⟩ else some ⟨bb, off * sz + a.toNat * sz, none⟩) (b.toNat - a.toNat) (m.toNat - a.toNat), ?_, fun w' => ?_⟩
    · have hmc' : m.toNat ≤ cap := by omega
      have hbm' : b ≤ m := by omega
      simp only [aslOwn]
      by_cases hmx : mx.isSome = true
      · rw [if_pos hmx]; exact .any _
      rw [if_neg hmx]
      have hmcap : m.toNat = cap := by have := hdm4 hmx; omega
      have hmn2 : mn ≤ m := hmn
      clear hmn
      subst hmcap
      by_cases ha : a.toNat = 0
      · rw [if_pos ha, ha]
        have : (if m.toNat = 0 then some (⟨bb, off * sz, none⟩ : Addr) else some ⟨bb, off * sz + 0 * sz, none⟩) = some ⟨bb, off * sz, none⟩ := by simp
        rw [this]
        exact .osl k sz off _ bb m' _ hkk (by simpa using hm') (by omega)
      · rw [if_neg ha]
        by_cases han : a.toNat < mn.toNat
        · rw [if_pos han, if_neg (by omega), ← Nat.add_mul]
          exact .osl k sz (off + a.toNat) _ bb m' (m.toNat - a.toNat) hkk (by rw [Nat.add_assoc, ← hm']; congr 1; omega) (by omega)
        · rw [if_neg han]
          have : b.toNat - a.toNat = ([] : List (List DV)).length := by simp; omega
          rw [this]
          exact .d _ _ (.sl sz [] _ _ (fun _ _ => undef) (by simp) (by simp) (by simp) (by simp))
    · simp [Instr.sliceAt, Instr.slice, run_underlying (und_slice hT hk), hb w', run_sizeOf_tab hT hko, hs, Addr.add_lit]
  · rename_i n e k hk
    unfold aslArr
    split
    · rename_i cs hcs
      intro ⟨hmx, k1, k2, h0, hab, hbn, han, hcl, hko⟩
      subst hmx
      have hko := isOther_false hko
      cases hx with | ptr _ _ bb m' hkk =>
      obtain ⟨us, ty, fz, hw, hm, hone, hl, hr⟩ := hB.1 k _ bb m' hcs hkk (by simp)
      have hb := fun w' => run_sliceBounds (P := P) (isSlice := false) (len := n) (cap := n) h1 h2 h3 k1 k2 trivial (.inl rfl) n (fun _ => rfl) (by simp [abnd]) h0 hab (by simpa [abnd] using hbn) w'
      cases umx with
      | some _ => exact h3.elim
      | none =>
        generalize abnd 0 lo = a at *
        generalize abnd n hi = b at *
        simp only [abnd, Int.toNat_natCast] at hb
        refine ⟨.slice (some ⟨bb, a.toNat * (T e).size, none⟩) (b.toNat - a.toNat) (n - a.toNat), .osl k (T e).size a.toNat _ bb m' (n - a.toNat) hkk ?_ (by omega), fun w' => ?_⟩
        · rw [← hm, hl, hcl]; congr 1; omega
        · have hne : ¬ n = a.toNat := by omega
          simp [Instr.sliceAt, run_underlying (und_array hT hk), Instr.sureAddr, hb w', run_sizeOf_tab hT hko, hne, Addr.add_lit]
    · intro h; exact h.elim
  · intro h; exact h.elim

theorem getElem?_splice {α : Type} (l news : List α) (off : Nat) (h : off + news.length ≤ l.length) (j : Nat) :
    (l.take off ++ news ++ l.drop (off + news.length))[j]? = if off ≤ j ∧ j < off + news.length then news[j - off]? else l[j]? := by
  have h1 : (l.take off).length = off := by simp; omega
  by_cases hj : j < off
  · rw [if_neg (by omega), List.append_assoc, List.getElem?_append_left (by omega), List.getElem?_take, if_pos hj]
  · by_cases hj2 : j < off + news.length
    · rw [if_pos (by omega), List.getElem?_append_left (by simp; omega), List.getElem?_append_right (by omega), h1]
    · rw [if_neg (by omega), List.getElem?_append_right (by simp; omega), List.getElem?_drop]
      congr 1
      simp
      omega

theorem length_splice {α : Type} (l news : List α) (off : Nat) (h : off + news.length ≤ l.length) : (l.take off ++ news ++ l.drop (off + news.length)).length = l.length := by
  simp; omega

theorem foldl_set (off : Nat) : ∀ (vs : List Value) (i : Nat) (cur : Array Value), off + i + vs.length ≤ cur.size →
    (vs.zipIdx i).foldl (fun cs (x : Value × Nat) => cs.setIfInBounds (off + x.2) x.1) cur = (cur.toList.take (off + i) ++ vs ++ cur.toList.drop (off + i + vs.length)).toArray
  | [], i, cur, _ => by simp
  | v :: rest, i, cur, h => by
    simp only [List.zipIdx_cons, List.foldl_cons]
    simp only [List.length_cons] at h
    rw [foldl_set off rest (i + 1) (cur.setIfInBounds (off + i) v) (by simp; omega)]
    congr 1
    apply List.ext_getElem?
    intro j
    have hl := getElem?_splice cur.toList (v :: rest) (off + i) (by simp; omega) j
    have hr := getElem?_splice (cur.setIfInBounds (off + i) v).toList rest (off + (i + 1)) (by simp; omega) j
    rw [hl, hr]
    simp only [List.length_cons, Array.toList_setIfInBounds, List.getElem?_set, Array.length_toList]
    by_cases h1 : off + (i + 1) ≤ j ∧ j < off + (i + 1) + rest.length
    · rw [if_pos h1, if_pos (by omega)]
      rw [show j - (off + i) = (j - (off + (i + 1))) + 1 from by omega]
      simp
    · rw [if_neg h1]
      by_cases h2 : off + i = j
      · rw [if_pos h2, if_pos (by omega), if_pos (by omega)]
        rw [show j - (off + i) = 0 from by omega]
        simp
      · rw [if_neg h2, if_neg (by omega)]

theorem acells_ok {v : AV} {u : Value} (h : RepV ρ ok w v u) (ht : isTup v = false) : u.cells.toList.length = (acells v).length ∧ (∀ x, x ∈ u.cells.toList → x.oneCell' = true) ∧
    ∀ (j : Nat) (c : AV) (x : Value), (acells v)[j]? = some c → u.cells.toList[j]? = some x → RepV ρ ok w c x := by
  have one : ∀ (v : AV) (u : Value), RepV ρ ok w v u → u.cells = #[u] → acells v = [v] → u.oneCell' = true → u.cells.toList.length = (acells v).length ∧ (∀ x, x ∈ u.cells.toList → x.oneCell' = true) ∧
      ∀ (j : Nat) (c : AV) (x : Value), (acells v)[j]? = some c → u.cells.toList[j]? = some x → RepV ρ ok w c x := by
    intro v u h h1 h2 h3
    rw [h1, h2]
    refine ⟨rfl, by simpa using h3, fun j c x hc hx => ?_⟩
    match j with
    | 0 => simp at hc hx; subst hc; subst hx; exact h
    | j + 1 => simp at hc
  cases v with
  | agg cs => cases h with | agg _ us hl h1 hr => exact ⟨by simpa [Value.cells, acells] using hl, by simpa [Value.cells] using h1, by simpa [Value.cells, acells] using hr⟩
  | tup _ => simp [isTup] at ht
  | any => simp [isTup] at ht
  | gd _ _ => simp [isTup] at ht
  | d x =>
    have hd := h
    cases hd with | d _ _ hd =>
    have ho := hd.one
    refine one _ _ h ?_ rfl ho
    cases u <;> first | rfl | simp [Value.oneCell'] at ho
  | ptr _ _ => have hd := h; cases hd; exact one _ _ h rfl rfl rfl
  | rp _ _ _ _ => have hd := h; cases hd; exact one _ _ h rfl rfl rfl
  | osl _ _ _ _ => have hd := h; cases hd <;> exact one _ _ h rfl rfl rfl
  | dp _ _ => have hd := h; cases hd; exact one _ _ h rfl rfl rfl
  | clo _ _ _ => have hd := h; cases hd; exact one _ _ h rfl rfl rfl
  | mp _ => have hd := h; cases hd; exact one _ _ h rfl rfl rfl

/-- A literal's parts, laid one after the other. -/
theorem run_fillA {place : Nat → Option (Nat × Nat)} : ∀ (parts : List (Nat × AV)) (vparts : List (Nat × Value)) (cs : List AV) (us : Array Value),
    (vparts.length = parts.length) → (∀ (j : Nat) (x : Nat × AV) (y : Nat × Value), parts[j]? = some x → vparts[j]? = some y → y.1 = x.1 ∧ RepV ρ ok w x.2 y.2) →
    us.size = cs.length → (∀ u, u ∈ us.toList → u.oneCell' = true) → (∀ (j : Nat) (c : AV) (u : Value), cs[j]? = some c → us[j]? = some u → RepV ρ ok w c u) →
    (fillA place parts cs).1 → ∃ us', Instr.fill place us vparts = some us' ∧ us'.size = (fillA place parts cs).2.length ∧ (∀ u, u ∈ us'.toList → u.oneCell' = true) ∧
      ∀ (j : Nat) (c : AV) (u : Value), (fillA place parts cs).2[j]? = some c → us'[j]? = some u → RepV ρ ok w c u
  | [], vparts, cs, us, hl, _, hsz, hone, hr, _ => by
    have : vparts = [] := by simpa using hl
    subst this
    exact ⟨us, rfl, hsz, hone, hr⟩
  | (i, v) :: rest, vparts, cs, us, hl, hp, hsz, hone, hr, hok => by
    match vparts, hl with
    | (i', u) :: vrest, hl =>
      obtain ⟨hi, hv⟩ := hp 0 _ _ rfl rfl
      simp only at hi hv
      subst hi
      simp only [fillA] at hok ⊢
      cases hpl : place i' with
      | none => simp [hpl] at hok
      | some q =>
        obtain ⟨off, size⟩ := q
        simp only [hpl] at hok ⊢
        obtain ⟨h1, h2, h3, h4⟩ := hok
        obtain ⟨hc1, hc2, hc3⟩ := acells_ok hv h3
        have hcs : u.cells.size = (acells v).length := by rw [← Array.length_toList]; exact hc1
        have hul : us.toList.length = cs.length := by simpa using hsz
        have hfold := foldl_set off u.cells.toList 0 us (by simp only [Nat.add_zero, Array.length_toList]; omega)
        simp only [Nat.add_zero] at hfold
        have hz : (u.cells.zipIdx.foldl (fun cs (x : Value × Nat) => cs.setIfInBounds (off + x.2) x.1) us) = (us.toList.take off ++ u.cells.toList ++ us.toList.drop (off + u.cells.toList.length)).toArray := by
          rw [← hfold, ← Array.foldl_toList]
          simp
        have ih := run_fillA (place := place) rest vrest (cs.take off ++ acells v ++ cs.drop (off + (acells v).length)) (us.toList.take off ++ u.cells.toList ++ us.toList.drop (off + u.cells.toList.length)).toArray
          (by simpa using hl) (fun j x y hx hy => hp (j + 1) x y (by simpa using hx) (by simpa using hy))
          (by rw [List.size_toArray, length_splice _ _ _ (by rw [hc1, hul]; exact h2), length_splice _ _ _ h2]; simpa using hsz)
          (by
            intro x hx
            simp only [List.mem_append] at hx
            rcases hx with (hx | hx) | hx
            · exact hone x (List.mem_of_mem_take hx)
            · exact hc2 x hx
            · exact hone x (List.mem_of_mem_drop hx))
          (by
            intro j c x hc hx
            rw [getElem?_splice _ _ _ h2] at hc
            simp only [List.getElem?_toArray] at hx
            rw [getElem?_splice _ _ _ (by rw [hc1, hul]; exact h2), hc1] at hx
            split at hc
            · rename_i hj; rw [if_pos hj] at hx; exact hc3 _ _ _ hc hx
            · rename_i hj; rw [if_neg hj] at hx; exact hr _ _ _ hc (by simpa using hx)) h4
        obtain ⟨us', e1, e2, e3, e4⟩ := ih
        refine ⟨us', ?_, e2, e3, e4⟩
        have hng : ¬ (u.cells.size ≠ size ∨ us.size < off + u.cells.size) := by omega
        simp only [Instr.fill, hpl]
        rw [← e1, ← hz]
        simp [hng]

theorem run_zero {T : TypeId → TI} (hT : TabOk P T) {t : TypeId} (hk : (T t).kind ≠ .other) :
    ∃ z, (∀ w', (zeroValue t).run P w' = .ok z w') ∧ z.cells.toList = (T t).zero.map DV.val ∧ (if (T t).agg then z = .agg ((T t).zero.map DV.val).toArray else [z] = (T t).zero.map DV.val) := by
  obtain ⟨i, z, h1, h2, h3, h4, h5⟩ := (tab_und hT hk).info
  refine ⟨z, fun w' => by simp [zeroValue, typeInfo, h1, h4], ?_, h5⟩
  cases e : (T t).agg with
  | true => rw [e] at h5; simp only [if_true] at h5; subst h5; simp [Value.cells]
  | false =>
    rw [e] at h5; simp only [Bool.false_eq_true, if_false] at h5
    have hone := (tab_und hT hk).one
    rw [← h5]
    have : z.oneCell' = true := by
      match hz : (T t).zero, h5 with
      | [x], h5 =>
        have := hone x (by rw [hz]; simp)
        simp at h5
        rw [h5]; exact this.1
      | [], h5 => simp at h5
      | _ :: _ :: _, h5 => simp at h5
    cases z <;> first | rfl | simp [Value.oneCell'] at this

theorem rep_val {x : DV} (h1 : x.val.oneCell' = true) (h2 : ∀ sz rs, x ≠ .sl sz rs) : RepD ok w x x.val := by
  cases x with
  | int k n => exact .int k n
  | bool b => exact .bool b
  | str l => exact .str l
  | sl sz rs => exact absurd rfl (h2 sz rs)
  | sc v => exact .sc v h1

theorem zero_rep {T : TypeId → TI} (hT : TabOk P T) {t : TypeId} (hk : (T t).kind ≠ .other) (j : Nat) (c : AV) (u : Value) (hc : ((T t).zero.map AV.d)[j]? = some c)
    (hu : ((T t).zero.map DV.val)[j]? = some u) : RepV ρ ok w c u := by
  rw [List.getElem?_map] at hc hu
  obtain ⟨x, hx, rfl⟩ := Option.map_eq_some_iff.1 hc
  rw [hx] at hu
  simp at hu
  subst hu
  have := (tab_und hT hk).one x (List.mem_of_getElem? hx)
  exact .d _ _ (rep_val this.1 this.2)

theorem zero_one {T : TypeId → TI} (hT : TabOk P T) {t : TypeId} (hk : (T t).kind ≠ .other) (u : Value) (hu : u ∈ (T t).zero.map DV.val) : u.oneCell' = true := by
  obtain ⟨x, hx, rfl⟩ := List.mem_map.1 hu
  exact ((tab_und hT hk).one x hx).1

theorem run_mapM_places {fields : Array Field} {fs : List (Nat × Nat × TypeId)} (hl : fields.size = fs.length) (hf : fieldsOk P fields fs) (w' : World) :
    (fields.mapM fun f => do pure (f.offset, ← sizeOf f.type) : Sem (Array (Nat × Nat))).run P w' = .ok (fs.map fun f => (f.1, f.2.1)).toArray w' := by
  have key : ∀ (l : List Field) (gs : List (Nat × Nat × TypeId)) , l.length = gs.length →
      (∀ (j : Nat) (o s t : Nat), gs[j]? = some (o, s, t) → ∃ f, l[j]? = some f ∧ f.offset = o ∧ f.type = t ∧ s ≠ 0 ∧ ∃ i, P.info? t = some i ∧ i.size = s) →
      (l.mapM (fun f => do pure (f.offset, ← sizeOf f.type) : Field → Sem (Nat × Nat))).run P w' = .ok (gs.map fun f => (f.1, f.2.1)) w' := by
    intro l
    induction l with
    | nil => intro gs hl _; have : gs = [] := by simpa using hl.symm
             subst this; simp
    | cons f l ih =>
      intro gs hl hf
      match gs, hl with
      | (o, s, t) :: gs, hl =>
        obtain ⟨f', h1, h2, h3, h4, i, h5, h6⟩ := hf 0 o s t rfl
        simp at h1
        subst h1
        have := ih gs (by simpa using hl) (fun j o s t hj => by
          obtain ⟨f'', q1, q2⟩ := hf (j + 1) o s t (by simpa using hj)
          exact ⟨f'', by simpa using q1, q2⟩)
        simp [List.mapM_cons, sizeOf, typeInfo, h3, h5, h2, h6] at this ⊢
        rw [this]
        rfl
  have := key fields.toList fs (by simpa using hl) (fun j o s t hj => by
    obtain ⟨f, q1, q2⟩ := hf j o s t hj
    exact ⟨f, by simpa using q1, q2⟩)
  rw [Array.mapM_eq_mapM_toList]
  simp only [Sem.run_map, this, Result.andThen_ok]

theorem run_abuild {T : TypeId → TI} (hT : TabOk P T) (t : TypeId) (parts : List (Nat × AV)) (vparts : List (Nat × Value)) (hl : vparts.length = parts.length)
    (hp : ∀ (j : Nat) (x : Nat × AV) (y : Nat × Value), parts[j]? = some x → vparts[j]? = some y → y.1 = x.1 ∧ RepV ρ ok w x.2 y.2) (h : (abuild T (T t) parts).ok) :
    ∃ u, RepV ρ ok w (abuild T (T t) parts).v u ∧ ∀ w', (Instr.build t vparts.toArray).run P w' = .ok u w' := by
  revert h
  unfold abuild
  split
  · rename_i fs hk
    intro h
    have hko : (T t).kind ≠ .other := by rw [hk]; simp
    obtain ⟨fields, hu, hfs, hf⟩ := und_struct hT hk
    obtain ⟨z, hz1, hz2, hz3⟩ := run_zero hT hko
    obtain ⟨us', e1, e2, e3, e4⟩ := run_fillA (ρ := ρ) (ok := ok) (w := w) (place := fun i => (fs[i]?).map fun f => (f.1, f.2.1)) parts vparts ((T t).zero.map .d) z.cells hl hp
      (by rw [← Array.length_toList, hz2]; simp) (fun u hu => zero_one hT hko u (hz2 ▸ hu)) (fun j c u hc hu' => zero_rep hT hko j c u hc (by rw [← hz2]; simpa using hu')) h
    refine ⟨.agg us', ?_, fun w' => ?_⟩
    · have := RepV.agg (ρ := ρ) (ok := ok) (w := w) _ us'.toList (by simpa using e2) e3 (fun j c u hc hu => e4 j c u hc (by simpa using hu))
      simpa using this
    · have hm := run_mapM_places (P := P) hfs hf w'
      simp only [bind_pure_comp] at hm
      simp [Instr.build, hz1, run_underlying hu, hm, e1]
  · rename_i n e hk
    intro ⟨h, hke⟩
    have hke := isOther_false hke
    have hko : (T t).kind ≠ .other := by rw [hk]; simp
    obtain ⟨z, hz1, hz2, hz3⟩ := run_zero hT hko
    obtain ⟨us', e1, e2, e3, e4⟩ := run_fillA (ρ := ρ) (ok := ok) (w := w) (place := fun i => some (i * (T e).size, (T e).size)) parts vparts ((T t).zero.map .d) z.cells hl hp
      (by rw [← Array.length_toList, hz2]; simp) (fun u hu => zero_one hT hko u (hz2 ▸ hu)) (fun j c u hc hu' => zero_rep hT hko j c u hc (by rw [← hz2]; simpa using hu')) h
    refine ⟨.agg us', ?_, fun w' => ?_⟩
    · have := RepV.agg (ρ := ρ) (ok := ok) (w := w) _ us'.toList (by simpa using e2) e3 (fun j c u hc hu => e4 j c u hc (by simpa using hu))
      simpa using this
    · simp [Instr.build, hz1, run_underlying (und_array hT hk), run_sizeOf_tab hT hke, e1]
  · intro h; exact h.elim
end
end Go.Proofs.YtfnilhdofopoeabDoor
