/- Rows whose room is known: how much it is, what is appended to them; copying and clearing. It holds over any program whose types read as the table says. -/
import Derived.Test.YtfnilhdofopoeabDoorAvMem3
import Derived.Lib.AppendZerosOnto
namespace Go.Proofs.YtfnilhdofopoeabDoor
set_option linter.unusedVariables false
set_option linter.unusedSimpArgs false
open Go Go.RowKit

/-- What is appended: rows, or so many zero values. -/
def srcApp (te : TI) (tk : TK) (hp : List ABlk) (x : AV) : Prop × List (List DV) :=
  match tk, x with
  | .int _, .d (.int _ m) => (0 < m, List.replicate m.toNat te.zero)
  | _, _ => (srcTy tk ∧ (srcRows hp te.size x).1, (srcRows hp te.size x).2)
def isIntK : TK → Bool
  | .int _ => true
  | _ => false
def appFull (te : TI) (tk : TK) (hp : List ABlk) (x : AV) (k sz sz' off n : Nat) (rs : List (List DV)) : MR :=
  ⟨sz = te.size ∧ sz' = te.size ∧ off = 0 ∧ n ≤ rs.length ∧ (srcApp te tk hp x).1 ∧ (isIntK tk = true → rs.length < n + (srcApp te tk hp x).2.length) ∧ 0 < te.size ∧ 0 < te.bytes ∧ (te.kind matches .other) = false ∧ (n + (srcApp te tk hp x).2.length) * te.bytes ≤ 140737488355328,
    if n + (srcApp te tk hp x).2.length ≤ rs.length then .osl k te.size 0 (n + (srcApp te tk hp x).2.length) else .osl hp.length te.size 0 (n + (srcApp te tk hp x).2.length),
    if n + (srcApp te tk hp x).2.length ≤ rs.length then hp.set k (.full te.size (rs.take n ++ (srcApp te tk hp x).2 ++ rs.drop (n + (srcApp te tk hp x).2.length))) else hp ++ [.rows te.size (rs.take n ++ (srcApp te tk hp x).2)]⟩
def aappendF (T : TypeId → TI) (t t' : TypeId) (s x : AV) (hp : List ABlk) : MR :=
  match (T t).kind, s with
  | .slice e, .osl k sz off n =>
    (match hp[k]? with
    | some (.full sz' rs) => appFull (T e) (T t').kind hp x k sz sz' off n rs
    | _ => aappend T t t' s x hp)
  | _, _ => aappend T t t' s x hp

def copyTo (te : TI) (src : Prop × List (List DV)) (k sz sz' off n : Nat) (rs : List (List DV)) (hp : List ABlk) (f : List (List DV) → ABlk) : MR :=
  ⟨sz = te.size ∧ sz' = te.size ∧ 0 < te.size ∧ off + n ≤ rs.length ∧ src.1 ∧ (te.kind matches .other) = false, I ((src.2.take n).length : Int), hp.set k (f (rs.take off ++ src.2.take n ++ rs.drop (off + (src.2.take n).length)))⟩
def isSlK : TK → Prop
  | .slice _ => True
  | _ => False
/-- 'copy' between arrays of the call's own, of elements of one cell. -/
def copyCells (te : TI) (k sz off n : Nat) (cs : List AV) (s : AV) (hp : List ABlk) : MR :=
  match s with
  | .osl k' sz' off' n' =>
    (match hp[k']? with
    | some (.cells cs') => ⟨te.size = 1 ∧ sz = 1 ∧ sz' = 1 ∧ (te.kind matches .other) = false ∧ off + min n n' ≤ cs.length ∧ off' + min n n' ≤ cs'.length, I ((min n n' : Nat) : Int), hp.set k (.cells (cs.take off ++ (cs'.drop off').take (min n n') ++ cs.drop (off + min n n')))⟩
    | _ => ⟨False, .any, hp⟩)
  | _ => ⟨False, .any, hp⟩
/-- 'copy' into a row of the call's own. -/
def acopy (T : TypeId → TI) (t t' : TypeId) (d s : AV) (hp : List ABlk) : MR :=
  match (T t).kind, d with
  | .slice e, .osl k sz off n =>
    (match hp[k]? with
    | some (.rows sz' rs) => copyTo (T e) (isSlK (T t').kind ∧ (srcRows hp (T e).size s).1, (srcRows hp (T e).size s).2) k sz sz' off n rs hp (.rows sz')
    | some (.full sz' rs) => copyTo (T e) (isSlK (T t').kind ∧ (srcRows hp (T e).size s).1, (srcRows hp (T e).size s).2) k sz sz' off n rs hp (.full sz')
    | some (.cells cs) => copyCells (T e) k sz off n cs s hp
    | _ => ⟨False, .any, hp⟩)
  | _, _ => ⟨False, .any, hp⟩

def clearTo (te : TI) (k sz sz' off n : Nat) (rs : List (List DV)) (hp : List ABlk) (f : List (List DV) → ABlk) : MR :=
  ⟨sz = te.size ∧ sz' = te.size ∧ 0 < te.size ∧ off + n ≤ rs.length ∧ (te.kind matches .other) = false, .any, hp.set k (f (rs.take off ++ List.replicate n te.zero ++ rs.drop (off + n)))⟩
/-- 'clear' of a row of the call's own. -/
def aclear (T : TypeId → TI) (t : TypeId) (s : AV) (hp : List ABlk) : MR :=
  match (T t).kind, s with
  | .slice e, .osl k sz off n =>
    (match hp[k]? with
    | some (.rows sz' rs) => clearTo (T e) k sz sz' off n rs hp (.rows sz')
    | some (.full sz' rs) => clearTo (T e) k sz sz' off n rs hp (.full sz')
    | _ => ⟨False, .any, hp⟩)
  | .slice _, .d (.sl _ []) => ⟨True, .any, hp⟩
  | .slice _, .d (.sc (.slice none 0 0)) => ⟨True, .any, hp⟩
  | _, _ => ⟨False, .any, hp⟩

section
variable {P : Program} {E : Ent} {ρ ρ' ρ2 : List (Option (Nat × Nat))} {hp hp' : List ABlk} {w w' : World} {ok : Nat → Prop}

/-- A row of which a part is written. -/
theorem rows_splice {us : Array Value} {sz off : Nat} {rs nr : List (List DV)} {news : List Value} (hone : ∀ u, u ∈ us.toList → u.oneCell' = true) (hrl : ∀ r, r ∈ rs → r.length = sz) (hsz : rs.length * sz ≤ us.size)
    (hr : ∀ (i : Nat) (r : List DV), rs[i]? = some r → ∀ (j : Nat) (c : DV) (u : Value), r[j]? = some c → us[i * sz + j]? = some u → RepD ok w c u)
    (hnl : news.length = nr.length * sz) (hn1 : ∀ v, v ∈ news → v.oneCell' = true) (hnr : ∀ r, r ∈ nr → r.length = sz)
    (hn : ∀ (i : Nat) (r : List DV), nr[i]? = some r → ∀ (j : Nat) (c : DV) (v : Value), r[j]? = some c → news[i * sz + j]? = some v → RepD ok w c v) (hfit : off + nr.length ≤ rs.length) :
    let us' := (us.toList.take (off * sz) ++ news ++ us.toList.drop (off * sz + news.length)).toArray
    us'.size = us.size ∧ (∀ u, u ∈ us'.toList → u.oneCell' = true) ∧ (∀ r, r ∈ rs.take off ++ nr ++ rs.drop (off + nr.length) → r.length = sz) ∧ (rs.take off ++ nr ++ rs.drop (off + nr.length)).length = rs.length ∧
      ∀ (i : Nat) (r : List DV), (rs.take off ++ nr ++ rs.drop (off + nr.length))[i]? = some r → ∀ (j : Nat) (c : DV) (u : Value), r[j]? = some c → us'[i * sz + j]? = some u → RepD ok w c u := by
  have hbig : off * sz + news.length ≤ us.toList.length := by
    rw [hnl, ← Nat.add_mul, Array.length_toList]
    exact Nat.le_trans (Nat.mul_le_mul_right _ hfit) hsz
  refine ⟨?_, fun u hu => ?_, fun r hr' => ?_, length_splice _ _ _ hfit, fun i r hi j c u hj hu => ?_⟩
  · have := length_splice us.toList news (off * sz) hbig
    simpa using this
  · simp only [List.mem_append] at hu
    rcases hu with (hu | hu) | hu
    · exact hone u (List.mem_of_mem_take hu)
    · exact hn1 u hu
    · exact hone u (List.mem_of_mem_drop hu)
  · simp only [List.mem_append] at hr'
    rcases hr' with (hr' | hr') | hr'
    · exact hrl r (List.mem_of_mem_take hr')
    · exact hnr r hr'
    · exact hrl r (List.mem_of_mem_drop hr')
  · rw [getElem?_splice _ _ _ hfit] at hi
    have hu' : (us.toList.take (off * sz) ++ news ++ us.toList.drop (off * sz + news.length))[i * sz + j]? = some u := by simpa using hu
    rw [getElem?_splice _ _ _ hbig] at hu'
    by_cases hin : off ≤ i ∧ i < off + nr.length
    · rw [if_pos hin] at hi
      have hjl : j < sz := by rw [← hnr r (List.mem_of_getElem? hi)]; exact (List.getElem?_eq_some_iff.1 hj).1
      have e1 : i * sz = off * sz + (i - off) * sz := by rw [← Nat.add_mul]; congr 1; omega
      have e2 : (i - off + 1) * sz ≤ nr.length * sz := Nat.mul_le_mul_right _ (by omega)
      rw [Nat.add_mul] at e2
      rw [if_pos (by omega)] at hu'
      have e3 : i * sz + j - off * sz = (i - off) * sz + j := by omega
      rw [e3] at hu'
      exact hn _ r hi j c u hj hu'
    · rw [if_neg hin] at hi
      have hjl : j < sz := by rw [← hrl r (List.mem_of_getElem? hi)]; exact (List.getElem?_eq_some_iff.1 hj).1
      have : ¬ (off * sz ≤ i * sz + j ∧ i * sz + j < off * sz + news.length) := by
        intro ⟨h1, h2⟩
        rw [hnl] at h2
        rcases Nat.lt_or_ge i off with h3 | h3
        · have : (i + 1) * sz ≤ off * sz := Nat.mul_le_mul_right _ h3
          rw [Nat.add_mul] at this; omega
        · have h4 : off + nr.length ≤ i := by omega
          have : (off + nr.length) * sz ≤ i * sz := Nat.mul_le_mul_right _ h4
          rw [Nat.add_mul] at this; omega
      rw [if_neg this] at hu'
      exact hr i r hi j c u hj (by simpa using hu')

/-- What a row of the call's own is known to hold, whether or not its room is known. -/
def isRow (x : ABlk) (sz : Nat) (rs : List (List DV)) (f : List (List DV) → ABlk) : Prop := (x = .rows sz rs ∧ f = .rows sz) ∨ (x = .full sz rs ∧ f = .full sz)

/-- Cells are written into a row. -/
theorem HStep.splice (h : RepH E ρ hp w) {k sz off : Nat} {rs nr : List (List DV)} {x : ABlk} {f : List (List DV) → ABlk} {news : List Value} (hx : hp[k]? = some x) (hf : isRow x sz rs f) {b m : Nat} (hk : ρ[k]? = some (some (b, m)))
    (hnl : news.length = nr.length * sz) (hn1 : ∀ v, v ∈ news → v.oneCell' = true) (hnr : ∀ r, r ∈ nr → r.length = sz)
    (hn : ∀ (i : Nat) (r : List DV), nr[i]? = some r → ∀ (j : Nat) (c : DV) (v : Value), r[j]? = some c → news[i * sz + j]? = some v → RepD (okB E ρ hp w) w c v) (hfit : off + nr.length ≤ rs.length) :
    ∃ us ty fz, w.heap[b]? = some (.cells us ty fz) ∧ us.size = m ∧ (noFz us fz ∧ plain x us fz) ∧ off * sz + news.length ≤ us.size ∧ HStep E ρ hp w ρ (hp.set k (f (rs.take off ++ nr ++ rs.drop (off + nr.length)))) (setB w b (.cells (us.toList.take (off * sz) ++ news ++ us.toList.drop (off * sz + news.length)).toArray ty fz)) := by
  rcases hf with ⟨rfl, rfl⟩ | ⟨rfl, rfl⟩
  · obtain ⟨q1, us, ty, fz, hw, hm, hfz, hone, hrl, hsz, hr⟩ := h.blk k _ b m hx hk (by simp)
    obtain ⟨c1, c2, c3, c4, c5⟩ := rows_splice hone hrl hsz hr hnl hn1 hnr hn hfit
    refine ⟨us, ty, fz, hw, hm, hfz, ?_, HStep.set h hx (by simp) (by simp) hk hw c1 (fun l e => by cases e) ⟨c2, c3, by rw [c4, c1]; exact hsz, c5⟩⟩
    rw [hnl, ← Nat.add_mul]; exact Nat.le_trans (Nat.mul_le_mul_right _ hfit) hsz
  · obtain ⟨q1, us, ty, fz, hw, hm, hfz, hone, hrl, hsz, hr⟩ := h.blk k _ b m hx hk (by simp)
    obtain ⟨c1, c2, c3, c4, c5⟩ := rows_splice hone hrl (Nat.le_of_eq hsz) hr hnl hn1 hnr hn hfit
    refine ⟨us, ty, fz, hw, hm, hfz, ?_, HStep.set h hx (by simp) (by simp) hk hw c1 (fun l e => by cases e) ⟨c2, c3, by rw [c4, c1]; exact hsz, c5⟩⟩
    rw [hnl, ← Nat.add_mul, ← hsz]; exact Nat.mul_le_mul_right _ hfit

theorem first_len (sz L : Nat) (A : Option Addr) (n n' c : Nat) : Builtin.firstCells sz L (.slice A n c) = Builtin.firstCells sz L (.slice A n' c) := by cases A <;> rfl

theorem SrcPre (hB : Blks ρ ok w hp) {sz : Nat} (hpos : 0 < sz) {y : AV} {A : Option Addr} {n n' c : Nat} {src : List (List DV)} (m : Nat) (hy : RepV ρ ok w y (.slice A n' c)) (h : (srcRows hp sz y).1) (hs : (srcRows hp sz y).2 = src.take m) :
    ∃ news : List Value, news.length = (src.take m).length * sz ∧ (∀ v, v ∈ news → v.oneCell' = true) ∧ (∀ r, r ∈ src.take m → r.length = sz) ∧
      (∀ (i : Nat) (r : List DV), (src.take m)[i]? = some r → ∀ (j : Nat) (c : DV) (v : Value), r[j]? = some c → news[i * sz + j]? = some v → RepD ok w c v) ∧
      ∀ W : World, W.heap = w.heap → (Builtin.firstCells sz (src.take m).length (.slice A n c)).run P W = .ok news.toArray W := by
  obtain ⟨news, n1, n2, n3, n4, n5⟩ := src_ok (P := P) hB hpos hy h
  rw [hs] at n1 n3 n4 n5
  exact ⟨news, n1, n2, n3, n4, fun W hW => by rw [first_len sz _ A n n' c]; exact (n5 W hW).2⟩

/-- The first rows of a source. -/
theorem src_pre (hB : Blks ρ ok w hp) {sz : Nat} (hpos : 0 < sz) {x : AV} {u : Value} (hx : RepV ρ ok w x u) (h : (srcRows hp sz x).1) (hns : ∀ l, x ≠ .d (.str l)) (m : Nat) :
    ∃ news : List Value, news.length = ((srcRows hp sz x).2.take m).length * sz ∧ (∀ v, v ∈ news → v.oneCell' = true) ∧ (∀ r, r ∈ (srcRows hp sz x).2.take m → r.length = sz) ∧
      (∀ (i : Nat) (r : List DV), ((srcRows hp sz x).2.take m)[i]? = some r → ∀ (j : Nat) (c : DV) (v : Value), r[j]? = some c → news[i * sz + j]? = some v → RepD ok w c v) ∧
      ∀ W : World, W.heap = w.heap → (Builtin.firstCells sz ((srcRows hp sz x).2.take m).length u).run P W = .ok news.toArray W := by
  have h0 := h
  unfold srcRows at h
  split at h
  · rename_i sz' rows
    have h := h
    simp only at h
    subst h
    simp only [srcRows]
    cases hx with | d _ _ hx => cases hx with | sl _ _ A cap u hcap hsz hc hr =>
    refine SrcPre (n' := (rows.take m).length) hB hpos m (y := .d (.sl sz' (rows.take m))) (.d _ _ (.sl sz' (rows.take m) A cap u (by simp; omega) (fun r hr' => hsz r (List.mem_of_mem_take hr')) (fun hp => ?_) fun i r hi j c hj => ?_)) (by simp [srcRows]) (by simp [srcRows])
    · obtain ⟨b, o, hA, hb, hcell⟩ := hc (by simp at hp; omega)
      refine ⟨b, o, hA, hb, fun i r hi j c hj => hcell i r ?_ j c hj⟩
      rw [List.getElem?_take] at hi; split at hi
      · exact hi
      · cases hi
    · refine hr i r ?_ j c hj
      rw [List.getElem?_take] at hi; split at hi
      · exact hi
      · cases hi
  · rename_i l; exact absurd rfl (hns l)
  · cases hx with | d _ _ hx =>
    obtain ⟨A, rfl⟩ := sc_nil hx
    simp only [srcRows]
    exact SrcPre (n' := 0) hB hpos m (y := .d (.sc (.slice none 0 0))) (.d _ _ (.sc0 A)) (by simp [srcRows]) (by simp [srcRows])
  · rename_i k sz' off n
    split at h
    · rename_i sz'' rs hcs
      obtain ⟨rfl, rfl, hfit⟩ := h
      simp only [srcRows, hcs]
      cases hx with
      | oslnil _ _ A hkk => exact SrcPre (n' := 0) hB hpos m (y := .osl k sz'' 0 0) (.oslnil k sz'' A hkk) (by simp [srcRows, hcs]) (by simp [srcRows, hcs])
      | osl _ _ _ _ b mm cap hkk hm hn =>
        exact SrcPre (n' := min m n) hB hpos m (y := .osl k sz'' off (min m n)) (.osl k sz'' off _ b mm cap hkk hm (by omega)) (by simp only [srcRows, hcs]; exact ⟨trivial, trivial, by omega⟩) (by simp only [srcRows, hcs]; rw [List.take_take])
    · rename_i sz'' rs hcs
      obtain ⟨rfl, rfl, hfit⟩ := h
      simp only [srcRows, hcs]
      cases hx with
      | oslnil _ _ A hkk => exact absurd hkk (hB.2 k _ _ hcs)
      | osl _ _ _ _ b mm cap hkk hm hn =>
        exact SrcPre (n' := min m n) hB hpos m (y := .osl k sz'' off (min m n)) (.osl k sz'' off _ b mm cap hkk hm (by omega)) (by simp only [srcRows, hcs]; exact ⟨trivial, trivial, by omega⟩) (by simp only [srcRows, hcs]; rw [List.take_take])
    · rename_i l hcs
      obtain ⟨rfl, h1, hfit⟩ := h
      simp only [srcRows, hcs]
      cases hx with
      | oslnil _ _ A hkk => exact SrcPre (n' := 0) hB hpos m (y := .osl k sz' 0 0) (.oslnil k sz' A hkk) (by simp [srcRows, hcs, h1]) (by simp [srcRows, hcs])
      | osl _ _ _ _ b mm cap hkk hm hn =>
        exact SrcPre (n' := min m n) hB hpos m (y := .osl k sz' off (min m n)) (.osl k sz' off _ b mm cap hkk hm (by omega)) (by simp only [srcRows, hcs]; exact ⟨trivial, h1, by omega⟩) (by simp only [srcRows, hcs]; rw [List.take_take])
    · exact h.elim
  · exact h.elim

theorem src_slice {x0 : AV} {u : Value} {sz : Nat} (hx : RepV ρ ok w x0 u) (h : (srcRows hp sz x0).1) (hns : ∀ l, x0 ≠ .d (.str l)) : ∃ A n c, u = .slice A n c ∧ n = (srcRows hp sz x0).2.length := by
  unfold srcRows at h
  split at h
  · cases hx with | d _ _ hx => cases hx with | sl _ _ A cap u hcap hsz hc hr => exact ⟨_, _, _, rfl, by simp [srcRows]⟩
  · rename_i l; exact absurd rfl (hns l)
  · cases hx with | d _ _ hx =>
    obtain ⟨A, rfl⟩ := sc_nil hx
    exact ⟨_, _, _, rfl, by simp [srcRows]⟩
  · rename_i k sz' off n
    split at h
    · rename_i sz'' rs hcs
      obtain ⟨rfl, rfl, hfit⟩ := h
      cases hx with
      | oslnil _ _ A hkk => exact ⟨_, _, _, rfl, by simp [srcRows, hcs]⟩
      | osl _ _ _ _ b mm cap hkk hm hn => exact ⟨_, _, _, rfl, by simp only [srcRows, hcs]; rw [length_seg _ _ _ hfit]⟩
    · rename_i sz'' rs hcs
      obtain ⟨rfl, rfl, hfit⟩ := h
      cases hx with
      | oslnil _ _ A hkk => exact ⟨_, _, _, rfl, by simp [srcRows, hcs]⟩
      | osl _ _ _ _ b mm cap hkk hm hn => exact ⟨_, _, _, rfl, by simp only [srcRows, hcs]; rw [length_seg _ _ _ hfit]⟩
    · rename_i l hcs
      obtain ⟨rfl, h1, hfit⟩ := h
      cases hx with
      | oslnil _ _ A hkk => exact ⟨_, _, _, rfl, by simp [srcRows, hcs]⟩
      | osl _ _ _ _ b mm cap hkk hm hn => exact ⟨_, _, _, rfl, by simp only [srcRows, hcs]; rw [length_seg _ _ _ hfit]⟩
    · exact h.elim
  · exact h.elim

theorem set_same {α : Type} {l : List α} {k : Nat} {x : α} (h : l[k]? = some x) : l.set k x = l := by
  apply List.ext_getElem?
  intro j
  rw [List.getElem?_set]
  split
  · rename_i e; subst e
    split
    · exact h.symm
    · rename_i h2; rw [List.getElem?_eq_none (by omega)] at h; cases h
  · rfl

theorem run_copy_to (w w' : World) (t xt ty e : TypeId) (i : TypeInfo) (ht : P.underlying t = some (.slice e)) (hi : P.info? e = some i) (A B : Option Addr) (ln c dLen dCap L : Nat) (hL : Nat.min ln dLen = L) (news : List Value)
    (h5 : (Builtin.firstCells i.size L (.slice A ln c)).run P w = .ok news.toArray w) (hst : ∀ a, B = some a → (storeCells a news).run P w = .ok () w') (hn : B = none → w' = w) :
    (Builtin.copy_ #[t, xt] ty #[.slice B dLen dCap, .slice A ln c]).run P w = .ok (goInt L) w' := by
  subst hL
  cases B with
  | none => have := hn rfl; subst this; simp [Builtin.copy_, run_underlying ht, Builtin.lenOf, sizeOf, typeInfo, hi, h5]
  | some a => have := hst a rfl; simp [Builtin.copy_, run_underlying ht, Builtin.lenOf, sizeOf, typeInfo, hi, h5, this]

theorem copyTo_sound {T : TypeId → TI} (hT : TabOk P T) (h : RepH E ρ hp w) (t xt ty e : TypeId) (ht : P.underlying t = some (.slice e)) {k sz sz' off n : Nat} {rs : List (List DV)} {x : ABlk} {f : List (List DV) → ABlk} (hx : hp[k]? = some x) (hf : isRow x sz' rs f)
    (s : AV) (us ud : Value) (hs : RepV ρ (okB E ρ hp w) w s us) (hd : RepV ρ (okB E ρ hp w) w (.osl k sz off n) ud) (hns : ∀ l, s ≠ .d (.str l))
    (hk : (copyTo (T e) (isSlK (T xt).kind ∧ (srcRows hp (T e).size s).1, (srcRows hp (T e).size s).2) k sz sz' off n rs hp f).ok) :
    ∃ u w', Does E ρ hp w (.ok (.value u) w') (copyTo (T e) (isSlK (T xt).kind ∧ (srcRows hp (T e).size s).1, (srcRows hp (T e).size s).2) k sz sz' off n rs hp f).v (copyTo (T e) (isSlK (T xt).kind ∧ (srcRows hp (T e).size s).1, (srcRows hp (T e).size s).2) k sz sz' off n rs hp f).hp ∧ (Builtin.copy_ #[t, xt] ty #[ud, us]).run P w = .ok u w' := by
  obtain ⟨k1, k2, hpos, hfit, ⟨hsk, hsrc⟩, hko⟩ := hk
  subst k1; subst k2
  have hko := isOther_false hko
  obtain ⟨i, z, hi1, hi2, hi3, hi4, hi5⟩ := (tab_und hT hko).info
  obtain ⟨A, ln, c, rfl, hln⟩ := src_slice hs hsrc hns
  simp only [copyTo]
  obtain ⟨news, n1, n2, n3, n4, n5⟩ := src_pre (P := P) h.blks hpos hs hsrc hns n
  generalize hrows : (srcRows hp (T e).size s).2 = src at *
  have hmin : Nat.min ln n = (src.take n).length := by rw [List.length_take, hln]; exact Nat.min_comm _ _
  cases hd with
  | oslnil _ _ B hkk =>
    have e0 : src.take 0 = [] := by simp
    rw [e0] at *
    have hnn : news = [] := List.eq_nil_of_length_eq_zero (by simpa using n1)
    have hrs : hp.set k (f (rs.take 0 ++ [] ++ rs.drop (0 + ([] : List (List DV)).length))) = hp := by
      simp only [List.take_zero, List.nil_append, List.length_nil, Nat.add_zero, List.drop_zero]
      rcases hf with ⟨rfl, rfl⟩ | ⟨rfl, rfl⟩ <;> exact set_same hx
    rw [hrs]
    refine ⟨goInt 0, w, ⟨_, w, ρ, .inl rfl, HStep.below h ⟨rfl, rfl, rfl, Nat.le_refl _, fun _ _ => rfl⟩, .d _ _ (.int _ _)⟩, ?_⟩
    have h5 := n5 w rfl
    subst hnn
    exact run_copy_to w w t xt ty e i ht hi1 A B ln c 0 0 0 (Nat.min_zero _) [] (by rw [hi2]; exact h5) (fun a _ => by simp [storeCells]) fun _ => rfl
  | osl _ _ _ _ b m cap hkk hm hn =>
    obtain ⟨us, ty', fz, hw, hum, hfz, hbig, hst⟩ := HStep.splice h hx hf hkk (off := off) (nr := src.take n) n1 n2 n3 n4 (by have : (src.take n).length ≤ n := List.length_take_le _ _; omega)
    refine ⟨goInt (src.take n).length, _, ⟨_, _, ρ, .inl rfl, hst, .d _ _ (.int _ _)⟩, ?_⟩
    have hrun := run_storeCells_fz (P := P) b (off * (T e).size) ty' fz news 0 us w hw (by simpa using hbig) hfz.1 n2
    simp only [Nat.add_zero] at hrun
    exact run_copy_to w _ t xt ty e i ht hi1 A _ ln c n cap _ hmin news (by rw [hi2]; exact n5 w rfl) (fun a ha => by injection ha with ha; subst ha; exact hrun) (fun h => by cases h)

theorem copyCells_sound {T : TypeId → TI} (hT : TabOk P T) (h : RepH E ρ hp w) (t xt ty e : TypeId) (ht : P.underlying t = some (.slice e)) {k sz off n : Nat} {cs : List AV} (hx : hp[k]? = some (.cells cs))
    (s : AV) (us ud : Value) (hs : RepV ρ (okB E ρ hp w) w s us) (hd : RepV ρ (okB E ρ hp w) w (.osl k sz off n) ud) (hk : (copyCells (T e) k sz off n cs s hp).ok) :
    ∃ u w', Does E ρ hp w (.ok (.value u) w') (copyCells (T e) k sz off n cs s hp).v (copyCells (T e) k sz off n cs s hp).hp ∧ (Builtin.copy_ #[t, xt] ty #[ud, us]).run P w = .ok u w' := by
  revert hk
  unfold copyCells
  split
  · rename_i k' sz' off' n'
    split
    · rename_i cs' hcs
      rintro ⟨k1, rfl, rfl, hko, f1, f2⟩
      have hko := isOther_false hko
      obtain ⟨i, z, hi1, hi2, hi3, hi4, hi5⟩ := (tab_und hT hko).info
      rw [k1] at hi2
      -- what is read
      obtain ⟨A, c, news, rfl, n1, n2, n3, n4⟩ : ∃ (A : Option Addr) (c : Nat) (news : List Value), us = .slice A n' c ∧ news.length = min n n' ∧ (∀ v, v ∈ news → v.oneCell' = true) ∧
          (∀ (j : Nat) (x : AV) (v : Value), ((cs'.drop off').take (min n n'))[j]? = some x → news[j]? = some v → RepV ρ (okB E ρ hp w) w x v) ∧ (Builtin.firstCells 1 (min n n') (.slice A n' c)).run P w = .ok news.toArray w := by
        cases hs with
        | oslnil _ _ A hkk => exact ⟨A, 0, [], rfl, by simp, by simp, by simp, by have := run_first_nil (P := P) 1 A w; simpa using this⟩
        | osl _ _ _ _ b m cap hkk hm hn =>
          obtain ⟨us, ty, fz, hw, hum, hone, hsz, hr⟩ := h.blks.1 k' _ b m hcs hkk (by simp)
          have hbig : off' + min n n' ≤ us.toList.length := by rw [Array.length_toList]; omega
          have hnl : ((us.toList.drop off').take (min n n')).length = min n n' := length_seg _ _ _ hbig
          refine ⟨_, cap, (us.toList.drop off').take (min n n'), rfl, hnl, fun v hv => hone v (mem_seg hv), fun j x v hj hv => ?_, ?_⟩
          · have a1 := (getElem?_seg _ _ _ _ _ hj).1
            have a2 := (getElem?_seg _ _ _ _ _ hv).1
            exact hr _ _ _ a1 (by simpa using a2)
          · simp only [Builtin.firstCells, Nat.mul_one]
            have := load_seg (P := P) w b off' ((us.toList.drop off').take (min n n')) fun j v hj => by
              have := (getElem?_seg _ _ _ _ _ hj).1
              rw [cell_of_cells hw]
              simpa using this
            rwa [hnl] at this
      have hmin : Nat.min n' n = min n n' := Nat.min_comm _ _
      cases hd with
      | oslnil _ _ B hkk =>
        have e0 : min 0 n' = 0 := by omega
        have hnn : news = [] := List.eq_nil_of_length_eq_zero (by omega)
        subst hnn
        simp only [e0, List.take_zero, List.nil_append, Nat.add_zero, List.drop_zero]
        rw [set_same hx]
        refine ⟨goInt 0, w, ⟨_, w, ρ, .inl rfl, HStep.below h ⟨rfl, rfl, rfl, Nat.le_refl _, fun _ _ => rfl⟩, .d _ _ (.int _ _)⟩, ?_⟩
        rw [e0] at n4
        exact run_copy_to w w t xt ty e i ht hi1 A B n' c 0 0 0 (Nat.min_zero _) [] (by rw [hi2]; exact n4) (fun a _ => by simp [storeCells]) fun _ => rfl
      | osl _ _ _ _ b m cap hkk hm hn =>
        obtain ⟨q1, us, ty', fz, hw, hum, hfz, hone, hsz, hr⟩ := h.blk k _ b m hx hkk (by simp)
        have hsz : us.size = cs.length := hsz
        have hbig : off + news.length ≤ us.toList.length := by rw [show us.toList.length = us.size from Array.length_toList]; omega
        have hlen : (cs.take off ++ (cs'.drop off').take (min n n') ++ cs.drop (off + min n n')).length = cs.length := by
          have : ((cs'.drop off').take (min n n')).length = min n n' := length_seg _ _ _ f2
          have := length_splice cs ((cs'.drop off').take (min n n')) off (by omega)
          simp at this ⊢; omega
        have hst : HStep E ρ hp w ρ (hp.set k (.cells (cs.take off ++ (cs'.drop off').take (min n n') ++ cs.drop (off + min n n')))) (setB w b (.cells (us.toList.take off ++ news ++ us.toList.drop (off + news.length)).toArray ty' fz)) := by
          have hl := length_splice us.toList news off hbig
          refine HStep.set h hx (by simp) (by simp) hkk hw (by simpa using hl) (fun l e => by cases e) ⟨fun u hu => ?_, ?_, fun j x u hj hu => ?_⟩
          · simp only [List.mem_append] at hu
            rcases hu with (hu | hu) | hu
            · exact hone u (Array.mem_toList_iff.1 (List.mem_of_mem_take hu) |> Array.mem_toList_iff.2)
            · exact n2 u hu
            · exact hone u (List.mem_of_mem_drop hu)
          · rw [hlen, ← hsz]; simpa using hl
          · have hn2 : ((cs'.drop off').take (min n n')).length = min n n' := length_seg _ _ _ f2
            have hj2 : (cs.take off ++ (cs'.drop off').take (min n n') ++ cs.drop (off + ((cs'.drop off').take (min n n')).length))[j]? = some x := by rw [hn2]; exact hj
            rw [getElem?_splice _ _ _ (by omega)] at hj2
            have hu' : (us.toList.take off ++ news ++ us.toList.drop (off + news.length))[j]? = some u := by simpa using hu
            rw [getElem?_splice _ _ _ hbig] at hu'
            by_cases hin : off ≤ j ∧ j < off + min n n'
            · rw [if_pos (by omega)] at hj2 hu'
              exact n3 _ _ _ hj2 hu'
            · rw [if_neg (by omega)] at hj2 hu'
              exact hr _ _ _ hj2 (by simpa using hu')
        refine ⟨goInt (min n n' : Nat), _, ⟨_, _, ρ, .inl rfl, hst, .d _ _ (.int _ _)⟩, ?_⟩
        have hrun := run_storeCells_fz (P := P) b off ty' fz news 0 us w hw (by simpa using hbig) hfz.1 n2
        simp only [Nat.add_zero] at hrun
        rw [Nat.mul_one]
        exact run_copy_to w _ t xt ty e i ht hi1 A _ n' c n cap _ hmin news (by rw [hi2]; exact n4) (fun a ha => by injection ha with ha; subst ha; exact hrun) (fun h => by cases h)
    · intro h; exact h.elim
  · intro h; exact h.elim

theorem acopy_sound {T : TypeId → TI} (hT : TabOk P T) (h : RepH E ρ hp w) (t xt ty : TypeId) (d s : AV) (ud us : Value) (hd : RepV ρ (okB E ρ hp w) w d ud) (hs : RepV ρ (okB E ρ hp w) w s us) (hns : ∀ l, s ≠ .d (.str l))
    (hk : (acopy T t xt d s hp).ok) : ∃ u w', Does E ρ hp w (.ok (.value u) w') (acopy T t xt d s hp).v (acopy T t xt d s hp).hp ∧ (Builtin.copy_ #[t, xt] ty #[ud, us]).run P w = .ok u w' := by
  revert hk
  unfold acopy
  split
  · rename_i e k sz off n hke
    split
    · rename_i sz' rs hcs; intro hk; exact copyTo_sound hT h t xt ty e (und_slice hT hke) hcs (.inl ⟨rfl, rfl⟩) s us ud hs hd hns hk
    · rename_i sz' rs hcs; intro hk; exact copyTo_sound hT h t xt ty e (und_slice hT hke) hcs (.inr ⟨rfl, rfl⟩) s us ud hs hd hns hk
    · rename_i cs hcs; intro hk; exact copyCells_sound hT h t xt ty e (und_slice hT hke) hcs s us ud hs hd hk
    · intro h; exact h.elim
  · intro h; exact h.elim

/-- Zero values, cell by cell. -/
theorem zeroCells_get (z : Array Value) (n i j : Nat) (hi : i < n) (hj : j < z.size) : (Builtin.zeroCells z n)[i * z.size + j]? = some z[j] := by
  have h1 : i * z.size + j < n * z.size := by
    have : (i + 1) * z.size ≤ n * z.size := Nat.mul_le_mul_right _ hi
    rw [Nat.add_mul] at this; omega
  have h2 : (i * z.size + j) % z.size = j := by rw [Nat.add_comm, Nat.add_mul_mod_self_right, Nat.mod_eq_of_lt hj]
  simp only [Builtin.zeroCells, Array.getElem?_map]
  rw [Array.getElem?_eq_getElem (by simpa using h1)]
  simp [h2, hj]

theorem zero_rows {T : TypeId → TI} (hT : TabOk P T) {e : TypeId} (hko : (T e).kind ≠ .other) {z : Value} (hz : z.cells.toList = (T e).zero.map DV.val) (n : Nat) :
    (Builtin.zeroCells z.cells n).toList.length = (List.replicate n (T e).zero).length * (T e).size ∧ (∀ v, v ∈ (Builtin.zeroCells z.cells n).toList → v.oneCell' = true) ∧ (∀ r, r ∈ List.replicate n (T e).zero → r.length = (T e).size) ∧
      (∀ (i : Nat) (r : List DV), (List.replicate n (T e).zero)[i]? = some r → ∀ (j : Nat) (c : DV) (v : Value), r[j]? = some c → (Builtin.zeroCells z.cells n).toList[i * (T e).size + j]? = some v → RepD ok w c v) := by
  have hzs : z.cells.size = (T e).size := by rw [← Array.length_toList, hz, List.length_map, (tab_und hT hko).zl]
  refine ⟨by rw [Array.length_toList, size_zeroCells, hzs, List.length_replicate], fun v hv => zeroCells_one hT hko hz n v hv, fun r hr => by rw [List.eq_of_mem_replicate hr]; exact (tab_und hT hko).zl, fun i r hi j c v hj hv => ?_⟩
  have hil : i < n := by have := (List.getElem?_eq_some_iff.1 hi).1; simpa using this
  have hr : r = (T e).zero := List.eq_of_mem_replicate (List.mem_of_getElem? hi)
  subst hr
  have hjl : j < z.cells.size := by rw [hzs, ← (tab_und hT hko).zl]; exact (List.getElem?_eq_some_iff.1 hj).1
  have h1 := zeroCells_get z.cells n i j hil hjl
  rw [hzs, ← Array.getElem?_toList, hv] at h1
  injection h1 with h1
  have h2 : z.cells.toList[j]? = some (c.val) := by rw [hz, List.getElem?_map, hj]; rfl
  rw [Array.getElem?_toList, Array.getElem?_eq_getElem hjl] at h2
  injection h2 with h2
  rw [h1, h2]
  have := (tab_und hT hko).one c (List.mem_of_getElem? hj)
  exact rep_val this.1 this.2

theorem clearTo_sound {T : TypeId → TI} (hT : TabOk P T) (h : RepH E ρ hp w) (t ty e : TypeId) (ht : P.underlying t = some (.slice e)) {k sz sz' off n : Nat} {rs : List (List DV)} {x : ABlk} {f : List (List DV) → ABlk} (hx : hp[k]? = some x) (hf : isRow x sz' rs f)
    (ud : Value) (hd : RepV ρ (okB E ρ hp w) w (.osl k sz off n) ud) (hk : (clearTo (T e) k sz sz' off n rs hp f).ok) :
    ∃ u w', Does E ρ hp w (.ok (.value u) w') (clearTo (T e) k sz sz' off n rs hp f).v (clearTo (T e) k sz sz' off n rs hp f).hp ∧ (Builtin.clear_ #[t] ty #[ud]).run P w = .ok u w' := by
  obtain ⟨k1, k2, hpos, hfit, hko⟩ := hk
  subst k1; subst k2
  have hko := isOther_false hko
  obtain ⟨z', hz1, hz2, _⟩ := run_zero (P := P) hT hko
  simp only [clearTo]
  obtain ⟨n1, n2, n3, n4⟩ := zero_rows (P := P) (w := w) (ok := okB E ρ hp w) hT hko hz2 n
  have hlen : (List.replicate n (T e).zero).length = n := List.length_replicate
  cases hd with
  | oslnil _ _ B hkk =>
    have hrs : hp.set k (f (rs.take 0 ++ List.replicate 0 (T e).zero ++ rs.drop (0 + 0))) = hp := by
      simp only [List.take_zero, List.replicate_zero, List.nil_append, Nat.add_zero, List.drop_zero]
      rcases hf with ⟨rfl, rfl⟩ | ⟨rfl, rfl⟩ <;> exact set_same hx
    rw [hrs]
    exact ⟨.tuple #[], w, ⟨_, w, ρ, .inl rfl, HStep.below h ⟨rfl, rfl, rfl, Nat.le_refl _, fun _ _ => rfl⟩, .any _⟩, by cases B <;> simp [Builtin.clear_, run_underlying ht]⟩
  | osl _ _ _ _ b m cap hkk hm hn =>
    obtain ⟨us, ty', fz, hw, hum, hfz, hbig, hst⟩ := HStep.splice h hx hf hkk (off := off) (nr := List.replicate n (T e).zero) n1 n2 n3 n4 (by rw [hlen]; exact hfit)
    rw [hlen] at hst
    by_cases hn0 : n = 0
    · subst hn0
      have hrs : hp.set k (f (rs.take off ++ List.replicate 0 (T e).zero ++ rs.drop (off + 0))) = hp := by
        simp only [List.replicate_zero, List.append_nil, Nat.add_zero, List.take_append_drop]
        rcases hf with ⟨rfl, rfl⟩ | ⟨rfl, rfl⟩ <;> exact set_same hx
      rw [hrs]
      exact ⟨.tuple #[], w, ⟨_, w, ρ, .inl rfl, HStep.below h ⟨rfl, rfl, rfl, Nat.le_refl _, fun _ _ => rfl⟩, .any _⟩, by simp [Builtin.clear_, run_underlying ht]⟩
    · refine ⟨.tuple #[], _, ⟨_, _, ρ, .inl rfl, hst, .any _⟩, ?_⟩
      have hrun := run_storeCells_fz (P := P) b (off * (T e).size) ty' fz (Builtin.zeroCells z'.cells n).toList 0 us w hw (by simpa using hbig) hfz.1 n2
      simp only [Nat.add_zero] at hrun
      obtain ⟨n', rfl⟩ : ∃ n', n = n' + 1 := ⟨n - 1, by omega⟩
      simp [Builtin.clear_, run_underlying ht, hz1, hrun]

theorem aclear_sound {T : TypeId → TI} (hT : TabOk P T) (h : RepH E ρ hp w) (t ty : TypeId) (s : AV) (us : Value) (hs : RepV ρ (okB E ρ hp w) w s us) (hk : (aclear T t s hp).ok) :
    ∃ u w', Does E ρ hp w (.ok (.value u) w') (aclear T t s hp).v (aclear T t s hp).hp ∧ (Builtin.clear_ #[t] ty #[us]).run P w = .ok u w' := by
  revert hk
  unfold aclear
  split
  · rename_i e k sz off n hke
    split
    · rename_i sz' rs hcs; intro hk; exact clearTo_sound hT h t ty e (und_slice hT hke) hcs (.inl ⟨rfl, rfl⟩) us hs hk
    · rename_i sz' rs hcs; intro hk; exact clearTo_sound hT h t ty e (und_slice hT hke) hcs (.inr ⟨rfl, rfl⟩) us hs hk
    · intro h; exact h.elim
  · rename_i e sz hke
    intro _
    cases hs with | d _ _ hx => cases hx with | sl _ _ A cap u hcap hsz hc hr =>
    exact ⟨.tuple #[], w, ⟨_, w, ρ, .inl rfl, HStep.below h ⟨rfl, rfl, rfl, Nat.le_refl _, fun _ _ => rfl⟩, .any _⟩, by cases A <;> simp [Builtin.clear_, run_underlying (und_slice hT hke)]⟩
  · rename_i e hke
    intro _
    cases hs with | d _ _ hx =>
    obtain ⟨A, rfl⟩ := sc_nil hx
    exact ⟨.tuple #[], w, ⟨_, w, ρ, .inl rfl, HStep.below h ⟨rfl, rfl, rfl, Nat.le_refl _, fun _ _ => rfl⟩, .any _⟩, by cases A <;> simp [Builtin.clear_, run_underlying (und_slice hT hke)]⟩
  · intro h; exact h.elim

theorem appFull_sound {T : TypeId → TI} (hT : TabOk P T) (h : RepH E ρ hp w) (t xt ty e : TypeId) (ht : P.underlying t = some (.slice e)) {k sz sz' off n : Nat} {rs : List (List DV)} (hcs : hp[k]? = some (.full sz' rs)) (x : AV) (us ux : Value)
    (hs : RepV ρ (okB E ρ hp w) w (.osl k sz off n) us) (hx : RepV ρ (okB E ρ hp w) w x ux) (hk : (appFull (T e) (T xt).kind hp x k sz sz' off n rs).ok) :
    ∃ u w', Does E ρ hp w (.ok (.value u) w') (appFull (T e) (T xt).kind hp x k sz sz' off n rs).v (appFull (T e) (T xt).kind hp x k sz sz' off n rs).hp ∧ (Builtin.append_ #[t, xt] ty #[us, ux]).run P w = .ok u w' := by
  obtain ⟨k1, k2, k3, hnr, hsrc, hint, hpos, hby, hko, hbig⟩ := hk
  subst k1; subst k2; subst k3
  have hko := isOther_false hko
  obtain ⟨i, z, hi1, hi2, hi3, hi4, hi5⟩ := (tab_und hT hko).info
  obtain ⟨z', hz1, hz2, _⟩ := run_zero (P := P) hT hko
  have hzz : z' = z := by
    have := hz1 w
    simp [zeroValue, typeInfo, hi1, hi4] at this
    exact this.symm
  subst hzz
  have hzs : z'.cells.size = (T e).size := by rw [← Array.length_toList, hz2, List.length_map, (tab_und hT hko).zl]
  simp only [appFull]
  have hd0 : Below w.heap.size w w.drew := ⟨rfl, rfl, rfl, Nat.le_refl _, fun _ _ => rfl⟩
  have hst0 := HStep.below h hd0
  cases hs with
  | oslnil _ _ A hkk => exact absurd hkk (h.blks.2 k _ _ hcs)
  | osl _ _ _ _ b m cap hkk hm hn =>
  obtain ⟨q1, cur, tt, fz, hw, hcm, hfz, hone, hrl, hsz, hr⟩ := h.blk k _ b m hcs hkk (by simp)
  have hcap : cap = rs.length := by
    rw [← hm] at hcm
    rw [hcm] at hsz
    have := Nat.eq_of_mul_eq_mul_right hpos hsz
    omega
  -- what the row holds till now
  have hs' : RepV ρ (okB E ρ hp w) w (.osl k (T e).size 0 n) (.slice (some ⟨b, 0 * (T e).size, none⟩) n cap) := .osl k (T e).size 0 n b m cap hkk hm hn
  obtain ⟨olds, o1, o2, o3, o4, o5⟩ := src_ok (P := P) h.blks hpos hs' (by simp only [srcRows, hcs]; exact ⟨trivial, trivial, by omega⟩)
  simp only [srcRows, hcs, List.drop_zero] at o1 o2 o3 o4 o5
  have hon : (rs.take n).length = n := by simp; omega
  rw [hon] at o1 o5
  -- what is appended
  have happ : ∃ news : List Value, news.length = (srcApp (T e) (T xt).kind hp x).2.length * (T e).size ∧ (∀ v, v ∈ news → v.oneCell' = true) ∧ (∀ r, r ∈ (srcApp (T e) (T xt).kind hp x).2 → r.length = (T e).size) ∧
      (∀ (i : Nat) (r : List DV), (srcApp (T e) (T xt).kind hp x).2[i]? = some r → ∀ (j : Nat) (c : DV) (v : Value), r[j]? = some c → news[i * (T e).size + j]? = some v → RepD (okB E ρ hp w) w c v) ∧
      ((n + (srcApp (T e) (T xt).kind hp x).2.length ≤ rs.length → ∃ wz, (Builtin.append_ #[t, xt] ty #[.slice (some ⟨b, 0 * (T e).size, none⟩) n cap, ux]).run P w = .ok (.slice (some ⟨b, 0, none⟩) (n + (srcApp (T e) (T xt).kind hp x).2.length) cap) wz ∧ wz = setB w b (.cells (cur.toList.take (n * (T e).size) ++ news ++ cur.toList.drop (n * (T e).size + news.length)).toArray tt fz)) ∧
      (rs.length < n + (srcApp (T e) (T xt).kind hp x).2.length → (Builtin.append_ #[t, xt] ty #[.slice (some ⟨b, 0 * (T e).size, none⟩) n cap, ux]).run P w = .ok (.slice (some ⟨w.heap.size, 0, none⟩) (n + (srcApp (T e) (T xt).kind hp x).2.length) (grownCap w (n + (srcApp (T e) (T xt).kind hp x).2.length) cap e))
        (w.drew.alloc (.cells (olds.toArray ++ news.toArray ++ Builtin.zeroCells z'.cells (grownCap w (n + (srcApp (T e) (T xt).kind hp x).2.length) cap e - (n + (srcApp (T e) (T xt).kind hp x).2.length))) e)))) := by
    revert hsrc hint hbig
    unfold srcApp
    split
    · rename_i kn kq mm hkx
      intro hsrc hint hbig
      simp only at hsrc hbig hint ⊢
      cases hx with | d _ _ hx => cases hx with | int _ _ =>
      obtain ⟨a1, a2, a3, a4⟩ := zero_rows (P := P) (w := w) (ok := okB E ρ hp w) hT hko hz2 mm.toNat
      have hgr := hint (by simp [hkx, isIntK])
      simp only [List.length_replicate] at hbig hgr ⊢
      refine ⟨(Builtin.zeroCells z'.cells mm.toNat).toList, by simpa using a1, a2, a3, a4, fun h => by omega, fun _ => ?_⟩
      have hmm : ((mm.toNat : Nat) : Int) = mm := by omega
      have h63 : n + mm.toNat ≤ 140737488355328 := Nat.le_trans (Nat.le_mul_of_pos_right _ hby) hbig
      have hmb : mm.toNat * (T e).bytes ≤ 140737488355328 := Nat.le_trans (Nat.mul_le_mul_right _ (by omega)) hbig
      have := Lib.run_append_grow_zeros (P := P) w t xt ty e i z' kq kn ht (und_int hT hkx) hi1 hi4 (some ⟨b, 0 * (T e).size, none⟩) n cap olds (by rw [hi2]; exact (o5 w.drew rfl).2) mm.toNat (by omega) (by rw [hi2]; exact hpos) (by omega) (by omega) (by rw [hi3]; omega) (by rw [hi3]; exact growslice_fits (by omega) hbig)
      rw [hmm] at this
      simpa using this
    · rename_i hno
      intro hsrc hint hbig
      obtain ⟨hty, hsrc⟩ := hsrc
      obtain ⟨news, n1, n2, n3, n4, n5⟩ := src_ok (P := P) h.blks hpos hx hsrc
      simp only at hbig ⊢
      generalize hrows : (srcRows hp (T e).size _).2 = src at *
      refine ⟨news, n1, n2, n3, n4, fun hroom => ?_, fun hgr => ?_⟩
      · have e0 := n5 w rfl
        have hfit : n * (T e).size + news.length ≤ cur.size := by
          rw [n1, ← Nat.add_mul, ← hsz]; exact Nat.mul_le_mul_right _ hroom
        have hrun := run_append_room' (P := P) w t xt ty e i ht hi1 (notInt_src hT hty) b 0 n cap cur tt fz hw hfz.1 ux src.length news e0.1 (by rw [hi2]; exact e0.2) n2 (by omega) (by rw [hi2, Nat.zero_add]; exact hfit)
        rw [hi2, Nat.zero_add] at hrun
        exact ⟨_, by simpa using hrun, rfl⟩
      · exact run_append_grow' (P := P) w t xt ty e i z' ht hi1 hi4 (notInt_src hT hty) (by rw [hi3]; exact hby) _ n cap olds (fun W hW => by rw [hi2]; exact (o5 W hW).2) ux src.length news
          (fun W hW => by rw [hi2]; exact n5 W hW) (by omega) (by rw [hi3]; exact hbig)
  obtain ⟨news, n1, n2, n3, n4, hroom, hgrow⟩ := happ
  generalize hrows : (srcApp (T e) (T xt).kind hp x).2 = src at *
  by_cases hc : n + src.length ≤ rs.length
  · rw [if_pos hc, if_pos hc]
    obtain ⟨wz, hrun, hwz⟩ := hroom hc
    obtain ⟨us, ty', fz', hw', hum, hfz', hbig', hst⟩ := HStep.splice h hcs (.inr ⟨rfl, rfl⟩) hkk (off := n) (nr := src) n1 n2 n3 n4 hc
    rw [hw] at hw'
    injection hw' with hw'; injection hw' with e1 e2 e3
    subst e1; subst e2; subst e3; subst hwz
    refine ⟨_, _, ⟨_, _, ρ, .inl rfl, hst, ?_⟩, hrun⟩
    have := RepV.osl (ρ := ρ) (ok := okB E ρ (hp.set k (.full (T e).size (rs.take n ++ src ++ rs.drop (n + src.length)))) (setB w b (.cells (cur.toList.take (n * (T e).size) ++ news ++ cur.toList.drop (n * (T e).size + news.length)).toArray tt fz)))
      (w := setB w b (.cells (cur.toList.take (n * (T e).size) ++ news ++ cur.toList.drop (n * (T e).size + news.length)).toArray tt fz)) k (T e).size 0 (n + src.length) b m cap hkk hm (by omega)
    simpa using this
  · rw [if_neg hc, if_neg hc]
    have hrun := hgrow (by omega)
    have hge := grownCap_ge w (n + src.length) cap e
    have hst1 := HStep.push hst0.heap (olds.toArray ++ news.toArray ++ Builtin.zeroCells z'.cells (grownCap w (n + src.length) cap e - (n + src.length))) e (0, 0) (.rows (T e).size (rs.take n ++ src)) (noFz0 _) (plain0 _ _)
      (grown_blk (ρ := ρ) (w := w.drew) (ok := okB E ρ hp w.drew) (spare := Builtin.zeroCells z'.cells (grownCap w (n + src.length) cap e - (n + src.length))) (olds := olds) (news := news)
        (by rw [hon]; exact o1) o3 o2 (fun i r hi j c v hj hv => (o4 i r hi j c v hj hv).mono (okB_below hd0)) n1 n3 n2 (fun i r hi j c v hj hv => (n4 i r hi j c v hj hv).mono (okB_below hd0)) (fun v hv => zeroCells_one hT hko hz2 _ v hv) (by simp))
    refine ⟨_, _, ⟨_, _, _, .inl rfl, hst0.trans hst1, ?_⟩, hrun⟩
    have hsz2 : (olds.toArray ++ news.toArray ++ Builtin.zeroCells z'.cells (grownCap w (n + src.length) cap e - (n + src.length))).size = (0 + grownCap w (n + src.length) cap e) * (T e).size := by
      simp only [Array.size_append, List.size_toArray, size_zeroCells, hzs, n1, o1]
      rw [Nat.zero_add, ← Nat.add_mul, ← Nat.add_mul]; congr 1; omega
    have := RepV.osl (ρ := ρ ++ [some (w.drew.heap.size, (olds.toArray ++ news.toArray ++ Builtin.zeroCells z'.cells (grownCap w (n + src.length) cap e - (n + src.length))).size)])
      (ok := okB E (ρ ++ [some (w.drew.heap.size, (olds.toArray ++ news.toArray ++ Builtin.zeroCells z'.cells (grownCap w (n + src.length) cap e - (n + src.length))).size)]) (hp ++ [.rows (T e).size (rs.take n ++ src)]) (pushB w.drew (.cells (olds.toArray ++ news.toArray ++ Builtin.zeroCells z'.cells (grownCap w (n + src.length) cap e - (n + src.length))) e)))
      (w := pushB w.drew (.cells (olds.toArray ++ news.toArray ++ Builtin.zeroCells z'.cells (grownCap w (n + src.length) cap e - (n + src.length))) e))
      hp.length (T e).size 0 (n + src.length) w.drew.heap.size _ (grownCap w (n + src.length) cap e) (by rw [← h.len]; simp) hsz2.symm hge
    simpa using this

theorem aappendF_sound {T : TypeId → TI} (hT : TabOk P T) (h : RepH E ρ hp w) (t xt ty : TypeId) (s x : AV) (us ux : Value)
    (hs : RepV ρ (okB E ρ hp w) w s us) (hx : RepV ρ (okB E ρ hp w) w x ux) (hk : (aappendF T t xt s x hp).ok) :
    ∃ u w', Does E ρ hp w (.ok (.value u) w') (aappendF T t xt s x hp).v (aappendF T t xt s x hp).hp ∧ (Builtin.append_ #[t, xt] ty #[us, ux]).run P w = .ok u w' := by
  revert hk
  unfold aappendF
  split
  · rename_i e k sz off n hke
    split
    · rename_i sz' rs hcs; intro hk; exact appFull_sound hT h t xt ty e (und_slice hT hke) hcs x us ux hs hx hk
    · intro hk; exact aappend_sound hT h t xt ty _ x us ux hs hx hk
  · intro hk; exact aappend_sound hT h t xt ty _ x us ux hs hx hk
end
end Go.Proofs.YtfnilhdofopoeabDoor
