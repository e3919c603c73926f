/- Strings to bytes and back; other conversions. It holds over any program whose types read as the table says. -/
import Derived.Test.YtfnilhdofopoeabDoorAvFrz
import Derived.Laws.IdiomStrings
namespace Go.Proofs.YtfnilhdofopoeabDoor
set_option linter.unusedVariables false
set_option linter.unusedSimpArgs false
open Go Go.RowKit

def okU8 : List DV → Prop
  | [.int .u8 n] => 0 ≤ n ∧ n < 256
  | _ => False
def ub : List DV → UInt8
  | [.int .u8 n] => UInt8.ofNat n.toNat
  | _ => 0
def okU8s (rows : List (List DV)) : Prop := ∀ r, r ∈ rows → okU8 r
theorem ub_row (b : UInt8) : ub (u8row b) = b := by simp [ub, u8row]
theorem ub_rows (l : List UInt8) : (l.map u8row).map ub = l := by
  rw [List.map_map]
  conv => rhs; rw [← List.map_id l]
  exact List.map_congr_left fun b _ => ub_row b
theorem okU8_row (b : UInt8) : okU8 (u8row b) := by
  simp only [okU8, u8row]; have := b.toNat_lt; omega
theorem okU8s_rows (l : List UInt8) : okU8s (l.map u8row) := fun r hr => by
  obtain ⟨b, _, rfl⟩ := List.mem_map.1 hr
  exact okU8_row b

def srcB (hp : List ABlk) : AV → Prop × List (List DV)
  | .d (.str _) => (False, [])
  | x => srcRows hp 1 x
theorem srcB_eq (hp : List ABlk) (x : AV) (h : ∀ l, x ≠ .d (.str l)) : srcB hp x = srcRows hp 1 x := by
  unfold srcB; split
  · exact absurd rfl (h _)
  · rfl

/-- A conversion that makes no memory. -/
def aconvX (T : TypeId → TI) (hp : List ABlk) (src dst : TypeId) (vx : AV) : PR :=
  match (T src).kind, (T dst).kind with
  | .slice e, .str => ⟨gdok vx ∧ (match (T e).kind with | .int .u8 => True | _ => False) ∧ (srcB hp (strip vx)).1 ∧ okU8s (srcB hp (strip vx)).2, .d (.str ((srcB hp (strip vx)).2.map ub))⟩
  | k, _ => ⟨(k matches .other) = false ∧ (g1 vx (aconv (T dst))).ok, (g1 vx (aconv (T dst))).v⟩

/-- A conversion that may make memory. -/
def aconvM (T : TypeId → TI) (hp : List ABlk) (src dst : TypeId) (vx : AV) : MR :=
  match (T src).kind, (T dst).kind, strip vx with
  | .str, .slice e, .d (.str l) => ⟨gdok vx ∧ (match (T e).kind with | .int .u8 => True | _ => False), .osl hp.length 1 0 l.length, hp ++ [.bytes l]⟩
  | _, _, _ => ⟨(aconvX T hp src dst vx).ok, (aconvX T hp src dst vx).v, hp⟩

section
variable {P : Program} {E : Ent} {ρ : List (Option (Nat × Nat))} {hp : List ABlk} {w : World}

theorem kind_u8 {T : TypeId → TI} {e : TypeId} (h : match (T e).kind with | .int .u8 => True | _ => False) : (T e).kind = .int .u8 := by
  split at h
  · assumption
  · exact h.elim

theorem addr_add (b o j : Nat) : (Addr.mk b o none).add j = ⟨b, o + j, none⟩ := by
  unfold Addr.add
  by_cases h : j = 0
  · simp [h]
  · simp [h]

/-- The cells of a source of bytes. -/
theorem src_cells (hB : Blks ρ (okB E ρ hp w) w hp) {x : AV} {u : Value} (hx : RepV ρ (okB E ρ hp w) w x u) (h : (srcRows hp 1 x).1) (h8 : okU8s (srcRows hp 1 x).2)
    {e dst src : TypeId} (hs : P.underlying src = some (.slice e)) (he : P.underlying e = some (.int .u8)) (hd : P.underlying dst = some .string) (hstr : ∀ l, x ≠ .d (.str l)) :
    ∀ w', Below w.heap.size w w' → (convert src dst u).run P w' = .ok (mkStr ((srcRows hp 1 x).2.map ub)) w' := by
  have hnil : ∀ (A : Option Addr) (c : Nat) (w' : World), (convert src dst (.slice A 0 c)).run P w' = .ok (mkStr []) w' := by
    intro A c w'
    cases A with
    | none =>
      rw [run_convert_bytes_string w' src dst e none 0 c hs he hd]
      rfl
    | some a => exact run_convert_bytes_back w' src dst e a c [] hs he hd (fun j hj => by simp at hj)
  have hcell : ∀ {c : List DV} {v : Value} {ok : Nat → Prop}, okU8 c → ∀ y, c[0]? = some y → RepD ok w y v → v = .int .u8 ((ub c).toNat : Int) := by
    intro c v ok h y hy hr
    unfold okU8 at h
    split at h
    · rename_i n
      simp at hy; subst hy
      cases hr
      simp only [ub]
      have : n.toNat % 256 = n.toNat := Nat.mod_eq_of_lt (by omega)
      simp [this]; omega
    · exact h.elim
  unfold srcRows at h h8 ⊢
  split at h
  · rename_i sz' rows
    simp only at h h8 ⊢
    subst h
    cases hx with | d _ _ hx => cases hx with | sl _ _ A cap uu hcap hsz hc hr =>
    intro w' hb
    by_cases h0 : 0 < rows.length
    · obtain ⟨b, o, rfl, hb1, hcells⟩ := hc h0
      have := run_convert_bytes_back (P := P) w' src dst e ⟨b, o, none⟩ cap (rows.map ub) hs he hd (fun j hj => by
        have hjl : j < rows.length := by simpa using hj
        have hrow : rows[j]? = some rows[j] := List.getElem?_eq_getElem hjl
        have hlen := hsz _ (List.getElem_mem hjl)
        have h0' : (rows[j])[0]? = some ((rows[j])[0]'(by omega)) := List.getElem?_eq_getElem (by omega)
        have q := hcells j _ hrow 0 _ h0'
        have q2 := hcell (h8 _ (List.getElem_mem hjl)) _ h0' (hr j _ hrow 0 _ h0')
        rw [q2] at q
        have hbl : w'.heap[b]? = w.heap[b]? := hb.block b hb1.2.1
        have q3 := (cell_of_same (o := o + (j * 1 + 0)) hbl).trans q
        simp only [Nat.mul_one, Nat.add_zero] at q3
        rw [addr_add, List.getElem_map]; exact q3)
      simpa [mkStr] using this
    · have : rows = [] := List.eq_nil_of_length_eq_zero (by omega)
      subst this
      exact hnil _ _ _
  · exact absurd rfl (hstr _)
  · simp only
    cases hx with | d _ _ hx =>
    obtain ⟨A, rfl⟩ := sc_nil hx
    intro w' _
    exact hnil _ _ _
  · rename_i k sz' off n
    split at h
    · rename_i sz2 rs hk
      simp only [hk] at h h8 ⊢
      obtain ⟨e1, e2, e3⟩ := h
      subst e1; subst e2
      intro w' hb
      cases hx with
      | oslnil _ _ A hk' => simpa using hnil _ _ _
      | osl _ _ _ _ b m cap hρ hm hn =>
        obtain ⟨us, ty, fz, hw, hum, hone, hrl, hsz, hr⟩ := hB.1 k _ b m hk hρ (by simp)
        have hlen : ((rs.drop off).take n).length = n := length_seg _ _ _ e3
        have hbl : w'.heap[b]? = w.heap[b]? := hb.block b (lt_of_heap hw)
        have := run_convert_bytes_back (P := P) w' src dst e ⟨b, off * 1, none⟩ cap (((rs.drop off).take n).map ub) hs he hd (fun j hj => by
          have hjl : j < ((rs.drop off).take n).length := by simpa using hj
          have hrow : ((rs.drop off).take n)[j]? = some ((rs.drop off).take n)[j] := List.getElem?_eq_getElem hjl
          have hrow' := (getElem?_seg _ _ _ _ _ hrow).1
          have hl1 := hrl _ (List.mem_of_getElem? hrow')
          have h0' : (((rs.drop off).take n)[j])[0]? = some ((((rs.drop off).take n)[j])[0]'(by omega)) := List.getElem?_eq_getElem (by omega)
          have hlt : off + j < rs.length := (List.getElem?_eq_some_iff.1 hrow').1
          have hcu : us[(off + j) * 1 + 0]? = some (us[(off + j) * 1 + 0]'(by omega)) := Array.getElem?_eq_getElem (by omega)
          have q2 := hcell (h8 _ (List.getElem_mem hjl)) _ h0' (hr (off + j) _ hrow' 0 _ _ h0' hcu)
          have q : w.cell? ⟨b, (off + j) * 1 + 0, none⟩ = some (us[(off + j) * 1 + 0]'(by omega)) := by rw [cell_of_cells hw]; exact hcu
          rw [q2] at q
          have q3 := (cell_of_same (o := (off + j) * 1 + 0) hbl).trans q
          simp only [Nat.mul_one, Nat.add_zero] at q3
          rw [addr_add, List.getElem_map, Nat.mul_one]; exact q3)
        rw [List.length_map, hlen] at this
        exact this
    · rename_i sz2 rs hk
      simp only [hk] at h h8 ⊢
      obtain ⟨e1, e2, e3⟩ := h
      subst e1; subst e2
      intro w' hb
      cases hx with
      | oslnil _ _ A hk' => simpa using hnil _ _ _
      | osl _ _ _ _ b m cap hρ hm hn =>
        obtain ⟨us, ty, fz, hw, hum, hone, hrl, hsz, hr⟩ := hB.1 k _ b m hk hρ (by simp)
        have hlen : ((rs.drop off).take n).length = n := length_seg _ _ _ e3
        have hbl : w'.heap[b]? = w.heap[b]? := hb.block b (lt_of_heap hw)
        have := run_convert_bytes_back (P := P) w' src dst e ⟨b, off * 1, none⟩ cap (((rs.drop off).take n).map ub) hs he hd (fun j hj => by
          have hjl : j < ((rs.drop off).take n).length := by simpa using hj
          have hrow : ((rs.drop off).take n)[j]? = some ((rs.drop off).take n)[j] := List.getElem?_eq_getElem hjl
          have hrow' := (getElem?_seg _ _ _ _ _ hrow).1
          have hl1 := hrl _ (List.mem_of_getElem? hrow')
          have h0' : (((rs.drop off).take n)[j])[0]? = some ((((rs.drop off).take n)[j])[0]'(by omega)) := List.getElem?_eq_getElem (by omega)
          have hlt : off + j < rs.length := (List.getElem?_eq_some_iff.1 hrow').1
          have hcu : us[(off + j) * 1 + 0]? = some (us[(off + j) * 1 + 0]'(by omega)) := Array.getElem?_eq_getElem (by omega)
          have q2 := hcell (h8 _ (List.getElem_mem hjl)) _ h0' (hr (off + j) _ hrow' 0 _ _ h0' hcu)
          have q : w.cell? ⟨b, (off + j) * 1 + 0, none⟩ = some (us[(off + j) * 1 + 0]'(by omega)) := by rw [cell_of_cells hw]; exact hcu
          rw [q2] at q
          have q3 := (cell_of_same (o := (off + j) * 1 + 0) hbl).trans q
          simp only [Nat.mul_one, Nat.add_zero] at q3
          rw [addr_add, List.getElem_map, Nat.mul_one]; exact q3)
        rw [List.length_map, hlen] at this
        exact this
    · rename_i l hk
      simp only [hk] at h h8 ⊢
      obtain ⟨e1, _, e3⟩ := h
      subst e1
      generalize hrs : l.map u8row = rs at *
      intro w' hb
      cases hx with
      | oslnil _ _ A hk' => simpa using hnil _ _ _
      | osl _ _ _ _ b m cap hρ hm hn =>
        obtain ⟨us, ty, fz, hw, hum, hone, hrl, hsz, hr⟩ := hB.1 k _ b m hk hρ (by simp)
        rw [hrs] at hrl hsz hr
        have hlen : ((rs.drop off).take n).length = n := length_seg _ _ _ e3
        have hbl : w'.heap[b]? = w.heap[b]? := hb.block b (lt_of_heap hw)
        have := run_convert_bytes_back (P := P) w' src dst e ⟨b, off * 1, none⟩ cap (((rs.drop off).take n).map ub) hs he hd (fun j hj => by
          have hjl : j < ((rs.drop off).take n).length := by simpa using hj
          have hrow : ((rs.drop off).take n)[j]? = some ((rs.drop off).take n)[j] := List.getElem?_eq_getElem hjl
          have hrow' := (getElem?_seg _ _ _ _ _ hrow).1
          have hl1 := hrl _ (List.mem_of_getElem? hrow')
          have h0' : (((rs.drop off).take n)[j])[0]? = some ((((rs.drop off).take n)[j])[0]'(by omega)) := List.getElem?_eq_getElem (by omega)
          have hlt : off + j < rs.length := (List.getElem?_eq_some_iff.1 hrow').1
          have hcu : us[(off + j) * 1 + 0]? = some (us[(off + j) * 1 + 0]'(by omega)) := Array.getElem?_eq_getElem (by omega)
          have q2 := hcell (h8 _ (List.getElem_mem hjl)) _ h0' (hr (off + j) _ hrow' 0 _ _ h0' hcu)
          have q : w.cell? ⟨b, (off + j) * 1 + 0, none⟩ = some (us[(off + j) * 1 + 0]'(by omega)) := by rw [cell_of_cells hw]; exact hcu
          rw [q2] at q
          have q3 := (cell_of_same (o := (off + j) * 1 + 0) hbl).trans q
          simp only [Nat.mul_one, Nat.add_zero] at q3
          rw [addr_add, List.getElem_map, Nat.mul_one]; exact q3)
        rw [List.length_map, hlen] at this
        exact this
    · exact h.elim
  · exact h.elim

theorem bytesRow_new (T : TypeId → TI) (ok : Nat → Prop) (l : List UInt8) (cap : Nat) : RepBlk ρ ok w (bytesRow ⟨l.toArray⟩ cap) (.bytes l) := by
  refine ⟨fun u hu => ?_, fun r hr => ?_, ?_, fun i r hi j c u hj hu => ?_⟩
  · simp only [bytesRow, Array.toList_append, List.mem_append, Array.toList_map, List.mem_map, Array.toList_replicate, List.mem_replicate] at hu
    rcases hu with ⟨b, _, rfl⟩ | ⟨_, rfl⟩ <;> rfl
  · obtain ⟨b, _, rfl⟩ := List.mem_map.1 hr; rfl
  · simp [bytesRow]
  · rw [List.getElem?_map] at hi
    obtain ⟨b, hb, rfl⟩ := Option.map_eq_some_iff.1 hi
    match j, hj with
    | 0, hj =>
      simp [u8row] at hj; subst hj
      have hil : i < l.length := (List.getElem?_eq_some_iff.1 hb).1
      simp only [bytesRow, Nat.mul_one, Nat.add_zero] at hu
      rw [Array.getElem?_append_left (by simpa using hil)] at hu
      simp [hb] at hu
      subst hu
      exact .int _ _
    | j + 1, hj => simp [u8row] at hj

theorem aconvX_sound {T : TypeId → TI} (hT : TabOk P T) {a : Act} (hB : Blks ρ (okB E ρ hp w) w hp) (hlt : ∀ b, okB E ρ hp w b → b < w.heap.size) {src dst : TypeId} {vx : AV} {x : Operand} (hx : RepV ρ (okB E ρ hp w) w vx (a.eval x))
    (hk : (aconvX T hp src dst vx).ok) : ∃ u, RepV ρ (okB E ρ hp w) w (aconvX T hp src dst vx).v u ∧ ∀ w', Below w.heap.size w w' → (convert src dst (a.eval x)).run P w' = .ok u w' := by
  revert hk
  unfold aconvX
  split
  · rename_i e hs hd
    intro ⟨hg, h8, h1, h2⟩
    have hx' := strip_ok hx hg
    have hstr : ∀ l, strip vx ≠ .d (.str l) := fun l hl => by rw [hl] at h1; exact h1
    rw [srcB_eq _ _ hstr] at h1 h2 ⊢
    exact ⟨_, .d _ _ (.str _), src_cells hB hx' h1 h2 (und_slice hT hs) (und_int hT (kind_u8 h8)) (und_str hT hd) hstr⟩
  · rename_i k k' hne
    intro ⟨h1, h2⟩
    obtain ⟨hg, h2⟩ := h2
    obtain ⟨u, hu, hr⟩ := run_aconv (P := P) hT src dst _ _ (let ⟨d, hd⟩ := (tab_und hT (isOther_false h1)).und; ⟨d, hd.1⟩) (strip_ok hx hg) h2
    exact ⟨u, hu, fun w' _ => hr w'⟩

theorem aconvM_sound {T : TypeId → TI} (hT : TabOk P T) {a : Act} (h : RepH E ρ hp w) {src dst : TypeId} {vx : AV} {x : Operand} (hx : RepV ρ (okB E ρ hp w) w vx (a.eval x))
    (hk : (aconvM T hp src dst vx).ok) : ∃ u w' ρ', RepV ρ' (okB E ρ' (aconvM T hp src dst vx).hp w') w' (aconvM T hp src dst vx).v u ∧ HStep E ρ hp w ρ' (aconvM T hp src dst vx).hp w' ∧ (convert src dst (a.eval x)).run P w = .ok u w' := by
  revert hk
  unfold aconvM
  split
  · rename_i e l hs hd hv
    intro ⟨hg, h8⟩
    have hx' := strip_ok hx hg
    rw [hv] at hx'
    generalize hu : a.eval x = u at hx'
    cases hx' with | d _ _ hx' => cases hx' with | str _ =>
    have hrun := run_bytes_of_string (P := P) w src dst e ⟨l.toArray⟩ (und_str hT hs) (und_slice hT hd) (und_int hT (kind_u8 h8))
    have hd0 : Below w.heap.size w w.drew := ⟨rfl, rfl, rfl, Nat.le_refl _, fun _ _ => rfl⟩
    have h0 := HStep.below h hd0
    have hb := bytesRow_new (ρ := ρ) (w := w.drew) T (okB E ρ hp w.drew) l (grownCap w l.length 0 e)
    have hsz : (bytesRow ⟨l.toArray⟩ (grownCap w l.length 0 e)).size = l.length + (grownCap w l.length 0 e - l.length) := by simp [bytesRow, mk_size]
    have hge : l.length ≤ grownCap w l.length 0 e := by
      have := grownCap_ge w l.length 0 e
      omega
    have hp1 := HStep.push h0.heap (bytesRow ⟨l.toArray⟩ (grownCap w l.length 0 e)) e ((bytesRow ⟨l.toArray⟩ (grownCap w l.length 0 e)).size, (bytesRow ⟨l.toArray⟩ (grownCap w l.length 0 e)).size + 1) (.bytes l)
      (fun j hj hh => by omega) (.inl ⟨_, rfl⟩) hb
    refine ⟨_, _, _, ?_, h0.trans hp1, hrun⟩
    have := RepV.osl (ρ := ρ ++ [some (w.drew.heap.size, (bytesRow ⟨l.toArray⟩ (grownCap w l.length 0 e)).size)]) (ok := okB E (ρ ++ [some (w.drew.heap.size, (bytesRow ⟨l.toArray⟩ (grownCap w l.length 0 e)).size)]) (hp ++ [.bytes l]) (pushB w.drew (.cells (bytesRow ⟨l.toArray⟩ (grownCap w l.length 0 e)) e ((bytesRow ⟨l.toArray⟩ (grownCap w l.length 0 e)).size, (bytesRow ⟨l.toArray⟩ (grownCap w l.length 0 e)).size + 1))))
      (w := pushB w.drew (.cells (bytesRow ⟨l.toArray⟩ (grownCap w l.length 0 e)) e ((bytesRow ⟨l.toArray⟩ (grownCap w l.length 0 e)).size, (bytesRow ⟨l.toArray⟩ (grownCap w l.length 0 e)).size + 1)))
      hp.length 1 0 l.length w.drew.heap.size (bytesRow ⟨l.toArray⟩ (grownCap w l.length 0 e)).size (grownCap w l.length 0 e) (by rw [← h.len]; simp) (by rw [hsz]; simp only [Nat.zero_add, Nat.mul_one]; omega) hge
    exact this
  · intro hk
    obtain ⟨u, hu, hr⟩ := aconvX_sound hT h.blks (fun b hb => hb.2.1) hx hk
    have hb0 : Below w.heap.size w w := ⟨rfl, rfl, rfl, Nat.le_refl _, fun _ _ => rfl⟩
    exact ⟨u, w, ρ, hu, HStep.below h hb0, hr w hb0⟩
end
end Go.Proofs.YtfnilhdofopoeabDoor
