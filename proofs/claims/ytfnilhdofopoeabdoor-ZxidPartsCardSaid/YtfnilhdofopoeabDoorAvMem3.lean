/- append onto a row of the call's own (or nil), from any source that is data; strings to bytes and back. It holds over any program whose types read as the table says. -/
import Derived.Test.YtfnilhdofopoeabDoorAvMem2
namespace Go.Proofs.YtfnilhdofopoeabDoor
set_option linter.unusedVariables false
set_option linter.unusedSimpArgs false
open Go Go.RowKit

/-- The rows of a source. -/
def srcRows (hp : List ABlk) (sz : Nat) : AV → Prop × List (List DV)
  | .d (.sl sz' rows) => (sz' = sz, rows)
  | .d (.str l) => (sz = 1, l.map u8row)
  | .d (.sc (.slice none 0 0)) => (True, [])
  | .osl k sz' off n =>
    match hp[k]? with
    | some (.rows sz'' rs) => (sz' = sz ∧ sz'' = sz ∧ off + n ≤ rs.length, (rs.drop off).take n)
    | some (.full sz'' rs) => (sz' = sz ∧ sz'' = sz ∧ off + n ≤ rs.length, (rs.drop off).take n)
    | some (.bytes l) => (sz' = sz ∧ 1 = sz ∧ off + n ≤ (l.map u8row).length, ((l.map u8row).drop off).take n)
    | _ => (False, [])
  | _ => (False, [])

def srcTy : TK → Prop
  | .slice _ => True
  | .str => True
  | _ => False

def appTo (te : TI) (tk : TK) (hp : List ABlk) (x : AV) : AV → MR
  | .d (.sc (.slice none 0 0)) =>
    ⟨(srcRows hp te.size x).1 ∧ srcTy tk ∧ 0 < te.size ∧ 0 < te.bytes ∧ (te.kind matches .other) = false ∧ (srcRows hp te.size x).2.length * te.bytes ≤ 140737488355328,
      .osl hp.length te.size 0 (srcRows hp te.size x).2.length, hp ++ [.rows te.size (srcRows hp te.size x).2]⟩
  | .osl k sz off n =>
    (match hp[k]? with
    | some (.rows sz' rs) =>
      ⟨sz = te.size ∧ sz' = te.size ∧ off = 0 ∧ n ≤ rs.length ∧ (srcRows hp te.size x).1 ∧ srcTy tk ∧ 0 < te.size ∧ 0 < te.bytes ∧ (te.kind matches .other) = false ∧ (n + (srcRows hp te.size x).2.length) * te.bytes ≤ 140737488355328,
        .osl hp.length te.size 0 (n + (srcRows hp te.size x).2.length), hp.set k .dead ++ [.rows te.size (rs.take n ++ (srcRows hp te.size x).2)]⟩
    | _ => ⟨False, .any, hp⟩)
  | _ => ⟨False, .any, hp⟩

def aappend (T : TypeId → TI) (t t' : TypeId) (s x : AV) (hp : List ABlk) : MR :=
  match (T t).kind with
  | .slice e => appTo (T e) (T t').kind hp x s
  | _ => ⟨False, .any, hp⟩

section
variable {P : Program} {E : Ent} {ρ ρ' ρ2 : List (Option (Nat × Nat))} {hp hp' : List ABlk} {w w' : World} {ok : Nat → Prop}

theorem run_first_nil (sz : Nat) (A : Option Addr) (W : World) : (Builtin.firstCells sz 0 (.slice A 0 0)).run P W = .ok #[] W := by
  cases A <;> simp [Builtin.firstCells, loadCells, loadCellsFrom]

/-- A source's cells: what they stand for, and that they are read in every world of the same memory. -/
def SrcOk (P : Program) (ok : Nat → Prop) (w : World) (sz : Nat) (rows : List (List DV)) (u : Value) (news : List Value) : Prop :=
  news.length = rows.length * sz ∧ (∀ v, v ∈ news → v.oneCell' = true) ∧ (∀ r, r ∈ rows → r.length = sz) ∧
  (∀ (i : Nat) (r : List DV), rows[i]? = some r → ∀ (j : Nat) (c : DV) (v : Value), r[j]? = some c → news[i * sz + j]? = some v → RepD ok w c v) ∧
  ∀ W : World, W.heap = w.heap → (Builtin.lenOf u).run P W = .ok rows.length W ∧ (Builtin.firstCells sz rows.length u).run P W = .ok news.toArray W

theorem cell_of_heap {w W : World} (h : W.heap = w.heap) (a : Addr) : W.cell? a = w.cell? a := by simp [World.cell?, h]

theorem src_ok (hB : Blks ρ ok w hp) {sz : Nat} (hpos : 0 < sz) {x : AV} {u : Value} (hx : RepV ρ ok w x u) (h : (srcRows hp sz x).1) :
    ∃ news, SrcOk P ok w sz (srcRows hp sz x).2 u news := by
  revert h
  unfold srcRows
  split
  · rename_i sz' rows
    intro h0
    simp only at h0
    subst h0
    cases hx with | d _ _ hx => cases hx with | sl _ _ A cap f hcap hsz hc hr =>
    by_cases h0 : rows.length = 0
    · have : rows = [] := List.eq_nil_of_length_eq_zero h0
      subst this
      refine ⟨[], by simp, by simp, by simp, by simp, fun W hW => ⟨by simp [Builtin.lenOf], ?_⟩⟩
      cases A <;> simp [Builtin.firstCells, loadCells, loadCellsFrom]
    · obtain ⟨b, o, rfl, hb, hcell⟩ := hc (by omega)
      have hq : ∀ q, q < rows.length * sz' → ∃ r, rows[q / sz']? = some r ∧ q % sz' < r.length := by
        intro q hq
        have hd : q / sz' < rows.length := by rw [Nat.div_lt_iff_lt_mul hpos]; exact hq
        refine ⟨rows[q / sz'], List.getElem?_eq_getElem hd, ?_⟩
        rw [hsz _ (List.getElem_mem hd)]
        exact Nat.mod_lt _ hpos
      refine ⟨(List.range (rows.length * sz')).map fun q => f (q / sz') (q % sz'), by simp, fun v hv => ?_, hsz, fun i r hi j c v hj hv => ?_, fun W hW => ⟨by simp [Builtin.lenOf], ?_⟩⟩
      · obtain ⟨q, hq1, rfl⟩ := List.mem_map.1 hv
        obtain ⟨r, hr1, hr2⟩ := hq q (by simpa using hq1)
        exact (hr _ r hr1 _ _ (List.getElem?_eq_getElem hr2)).one
      · have hjl : j < sz' := by rw [← hsz r (List.mem_of_getElem? hi)]; exact (List.getElem?_eq_some_iff.1 hj).1
        rw [List.getElem?_map] at hv
        obtain ⟨q, hq1, rfl⟩ := Option.map_eq_some_iff.1 hv
        obtain ⟨hq2, hq3⟩ := List.getElem?_eq_some_iff.1 hq1
        simp at hq3
        subst hq3
        have e1 : (i * sz' + j) / sz' = i := by
          rw [Nat.add_comm, Nat.add_mul_div_right _ _ hpos, Nat.div_eq_of_lt hjl, Nat.zero_add]
        have e2 : (i * sz' + j) % sz' = j := by
          rw [Nat.add_comm, Nat.add_mul_mod_self_right, Nat.mod_eq_of_lt hjl]
        rw [e1, e2]
        exact hr i r hi j c hj
      · simp only [Builtin.firstCells]
        exact run_loadCells W ⟨b, o, none⟩ (rows.length * sz') (fun q => f (q / sz') (q % sz')) fun q hq1 => by
          obtain ⟨r, hr1, hr2⟩ := hq q hq1
          rw [Addr.add_lit, cell_of_heap hW]
          have := hcell _ r hr1 _ _ (List.getElem?_eq_getElem hr2)
          rwa [show q / sz' * sz' + q % sz' = q from by rw [Nat.mul_comm]; exact Nat.div_add_mod q sz'] at this
  · rename_i l
    intro h0
    simp only at h0
    subst h0
    cases hx with | d _ _ hx => cases hx with | str _ =>
    refine ⟨l.map fun b => .int .u8 b.toNat, by simp, fun v hv => ?_, fun r hr => ?_, fun i r hi j c v hj hv => ?_, fun W hW => ⟨by simp [Builtin.lenOf, mkStr, mk_size], ?_⟩⟩
    · obtain ⟨b, _, rfl⟩ := List.mem_map.1 hv; rfl
    · obtain ⟨b, _, rfl⟩ := List.mem_map.1 hr; rfl
    · rw [List.getElem?_map] at hi
      obtain ⟨b, hb, rfl⟩ := Option.map_eq_some_iff.1 hi
      match j with
      | 0 =>
        simp [u8row] at hj
        subst hj
        rw [List.getElem?_map] at hv
        simp [hb] at hv
        subst hv
        exact .int _ _
      | j + 1 => simp [u8row] at hj
    · have : (⟨l.toArray⟩ : ByteArray).extract 0 l.length = ⟨l.toArray⟩ := by rw [mk_extract]; simp
      simp [Builtin.firstCells, mkStr, this]
  · cases hx with | d _ _ hx =>
    obtain ⟨A, rfl⟩ := sc_nil hx
    intro _
    exact ⟨[], by simp, by simp, by simp, by simp, fun W hW => ⟨by simp [Builtin.lenOf], by have := run_first_nil (P := P) sz A W; simpa using this⟩⟩
  · rename_i k sz' off n
    split
    · rename_i sz'' rs hcs
      intro ⟨h0, h1, hfit⟩
      subst h0; subst h1
      cases hx with
      | oslnil _ _ A hk =>
        refine ⟨[], by simp, by simp, by simp, by simp, fun W hW => ⟨by simp [Builtin.lenOf], by have := run_first_nil (P := P) sz'' A W; simpa using this⟩⟩
      | osl _ _ _ _ b m cap hk hm hn =>
        obtain ⟨us, ty, fz, hw, hum, hone, hrl, hsz, hr⟩ := hB.1 k _ b m hcs hk (by simp)
        have hlen : ((rs.drop off).take n).length = n := length_seg _ _ _ hfit
        have hbig : off * sz'' + n * sz'' ≤ us.size := by
          have : (off + n) * sz'' ≤ rs.length * sz'' := Nat.mul_le_mul_right _ hfit
          rw [Nat.add_mul] at this; omega
        have hnl : ((us.toList.drop (off * sz'')).take (n * sz'')).length = n * sz'' := length_seg _ _ _ (by simpa using hbig)
        refine ⟨(us.toList.drop (off * sz'')).take (n * sz''), by rw [hnl, hlen], fun v hv => hone v (mem_seg hv), fun r hr' => hrl r (mem_seg hr'), fun i r hi j c v hj hv => ?_, fun W hW => ⟨by simp [Builtin.lenOf, hlen], ?_⟩⟩
        · have a1 := (getElem?_seg _ _ _ _ _ hi).1
          have a2 := (getElem?_seg _ _ _ _ _ hv).1
          refine hr (off + i) r a1 j c v hj ?_
          rw [Nat.add_mul, Nat.add_assoc]
          simpa using a2
        · rw [hlen]
          simp only [Builtin.firstCells]
          have := load_seg (P := P) W b (off * sz'') ((us.toList.drop (off * sz'')).take (n * sz'')) fun j v hj => by
            have := (getElem?_seg _ _ _ _ _ hj).1
            rw [cell_of_heap hW, cell_of_cells hw]
            simpa using this
          rwa [hnl] at this
    · rename_i sz'' rs hcs
      intro ⟨h0, h1, hfit⟩
      subst h0; subst h1
      cases hx with
      | oslnil _ _ A hk =>
        refine ⟨[], by simp, by simp, by simp, by simp, fun W hW => ⟨by simp [Builtin.lenOf], by have := run_first_nil (P := P) sz'' A W; simpa using this⟩⟩
      | osl _ _ _ _ b m cap hk hm hn =>
        obtain ⟨us, ty, fz, hw, hum, hone, hrl, hsz, hr⟩ := hB.1 k _ b m hcs hk (by simp)
        have hlen : ((rs.drop off).take n).length = n := length_seg _ _ _ hfit
        have hbig : off * sz'' + n * sz'' ≤ us.size := by
          have : (off + n) * sz'' ≤ rs.length * sz'' := Nat.mul_le_mul_right _ hfit
          rw [Nat.add_mul] at this; omega
        have hnl : ((us.toList.drop (off * sz'')).take (n * sz'')).length = n * sz'' := length_seg _ _ _ (by simpa using hbig)
        refine ⟨(us.toList.drop (off * sz'')).take (n * sz''), by rw [hnl, hlen], fun v hv => hone v (mem_seg hv), fun r hr' => hrl r (mem_seg hr'), fun i r hi j c v hj hv => ?_, fun W hW => ⟨by simp [Builtin.lenOf, hlen], ?_⟩⟩
        · have a1 := (getElem?_seg _ _ _ _ _ hi).1
          have a2 := (getElem?_seg _ _ _ _ _ hv).1
          refine hr (off + i) r a1 j c v hj ?_
          rw [Nat.add_mul, Nat.add_assoc]
          simpa using a2
        · rw [hlen]
          simp only [Builtin.firstCells]
          have := load_seg (P := P) W b (off * sz'') ((us.toList.drop (off * sz'')).take (n * sz'')) fun j v hj => by
            have := (getElem?_seg _ _ _ _ _ hj).1
            rw [cell_of_heap hW, cell_of_cells hw]
            simpa using this
          rwa [hnl] at this
    · rename_i l hcs
      intro ⟨h0, h1, hfit⟩
      subst h0
      generalize hrs : l.map u8row = rs at *
      cases hx with
      | oslnil _ _ A hk =>
        refine ⟨[], by simp, by simp, by simp, by simp, fun W hW => ⟨by simp [Builtin.lenOf], by have := run_first_nil (P := P) sz' A W; simpa using this⟩⟩
      | osl _ _ _ _ b m cap hk hm hn =>
        obtain ⟨us, ty, fz, hw, hum, hone, hrl, hsz, hr⟩ := hB.1 k _ b m hcs hk (by simp)
        rw [hrs] at hsz hr hrl; rw [h1] at hsz hr hrl
        have hlen : ((rs.drop off).take n).length = n := length_seg _ _ _ hfit
        have hbig : off * sz' + n * sz' ≤ us.size := by
          have : (off + n) * sz' ≤ rs.length * sz' := Nat.mul_le_mul_right _ hfit
          rw [Nat.add_mul] at this; omega
        have hnl : ((us.toList.drop (off * sz')).take (n * sz')).length = n * sz' := length_seg _ _ _ (by simpa using hbig)
        refine ⟨(us.toList.drop (off * sz')).take (n * sz'), by rw [hnl, hlen], fun v hv => hone v (mem_seg hv), fun r hr' => hrl r (mem_seg hr'), fun i r hi j c v hj hv => ?_, fun W hW => ⟨by simp [Builtin.lenOf, hlen], ?_⟩⟩
        · have a1 := (getElem?_seg _ _ _ _ _ hi).1
          have a2 := (getElem?_seg _ _ _ _ _ hv).1
          refine hr (off + i) r a1 j c v hj ?_
          rw [Nat.add_mul, Nat.add_assoc]
          simpa using a2
        · rw [hlen]
          simp only [Builtin.firstCells]
          have := load_seg (P := P) W b (off * sz') ((us.toList.drop (off * sz')).take (n * sz')) fun j v hj => by
            have := (getElem?_seg _ _ _ _ _ hj).1
            rw [cell_of_heap hW, cell_of_cells hw]
            simpa using this
          rwa [hnl] at this
    · intro h; exact h.elim
  · intro h; exact h.elim

/-- A block is known under a new place in the list. -/
theorem HStep.move (h : RepH E ρ hp w) {k : Nat} {x : ABlk} (hx : hp[k]? = some x) (hd : x ≠ .dead) {p : Option (Nat × Nat)} (hk : ρ[k]? = some p) :
    HStep E ρ hp w (ρ ++ [p]) (hp.set k .dead ++ [x]) w := by
  have hkl : k < hp.length := (List.getElem?_eq_some_iff.1 hx).1
  have hset : (hp.set k .dead).length = hp.length := by simp
  have hup : ∀ (k : Nat) (q : Option (Nat × Nat)), ρ[k]? = some q → (ρ ++ [p])[k]? = some q := fun k q hk => get_append_old hk
  -- who is live now was so before
  have back : ∀ (j : Nat) (y : ABlk) (q : Option (Nat × Nat)), (hp.set k .dead ++ [x])[j]? = some y → y ≠ .dead → (ρ ++ [p])[j]? = some q →
      (j ≠ k ∧ j < hp.length ∧ hp[j]? = some y ∧ ρ[j]? = some q) ∨ (j = hp.length ∧ y = x ∧ q = p) := by
    intro j y q hy hyd hj
    rcases get_append_lt hy with ⟨h1, h2⟩ | ⟨h1, h2⟩
    · rcases getElem?_set_cases h2 with ⟨_, e, _⟩ | ⟨hne, h3⟩
      · exact absurd e hyd
      · rcases get_append_lt hj with ⟨_, h4⟩ | ⟨h4, _⟩
        · exact .inl ⟨hne, by rw [hset] at h1; exact h1, h3, h4⟩
        · have := h.len; rw [hset] at h1; omega
    · rcases get_append_lt hj with ⟨h3, _⟩ | ⟨_, h4⟩
      · have := h.len; rw [hset] at h1; omega
      · exact .inr ⟨by rw [h1, hset], h2, h4⟩
  have hlive : ∀ b, Live (ρ ++ [p]) (hp.set k .dead ++ [x]) b → Live ρ hp b := by
    intro b ⟨j, y, m, hy, hyd, hj⟩
    rcases back j y _ hy hyd hj with ⟨_, _, h3, h4⟩ | ⟨_, _, h4⟩
    · exact ⟨j, y, m, h3, hyd, h4⟩
    · exact ⟨k, x, m, hx, hd, by rw [hk, h4]⟩
  have hok : ∀ b, okB E ρ hp w b → okB E (ρ ++ [p]) (hp.set k .dead ++ [x]) w b ∧ w.heap[b]? = w.heap[b]? := fun b ⟨h1, h2, h3⟩ => ⟨⟨h1, h2, fun hl => h3 (hlive b hl)⟩, rfl⟩
  refine ⟨⟨by simp [h.len], fun j y b m hy hj hyd => ?_, fun j y hy hj => ?_, fun j j' y y' b m m' hy hy' hyd hyd' hj hj' => ?_, h.fr⟩, hup, hok⟩
  · rcases back j y _ hy hyd hj with ⟨_, _, h3, h4⟩ | ⟨_, e, h4⟩
    · obtain ⟨q1, o, q2, q3⟩ := h.obj j y b m h3 h4 hyd
      exact ⟨q1, o, q2, q3.mono hup hok⟩
    · subst e
      obtain ⟨q1, o, q2, q3⟩ := h.obj k y b m hx (by rw [hk, h4]) hd
      exact ⟨q1, o, q2, q3.mono hup hok⟩
  · by_cases hyd : y = .dead
    · exact .inl hyd
    · rcases back j y _ hy hyd hj with ⟨_, _, h3, h4⟩ | ⟨_, e, h4⟩
      · exact h.nil j y h3 h4
      · subst e; exact h.nil k y hx (by rw [hk, h4])
  · rcases back j y _ hy hyd hj with ⟨a1, a2, a3, a4⟩ | ⟨a1, a2, a3⟩
    · rcases back j' y' _ hy' hyd' hj' with ⟨b1, b2, b3, b4⟩ | ⟨b1, b2, b3⟩
      · exact h.inj j j' y y' b m m' a3 b3 hyd hyd' a4 b4
      · exact absurd (h.inj j k y x b m m' a3 hx hyd hd a4 (by rw [hk, b3])) a1
    · rcases back j' y' _ hy' hyd' hj' with ⟨b1, b2, b3, b4⟩ | ⟨b1, b2, b3⟩
      · exact absurd (h.inj j' k y' x b m' m b3 hx hyd' hd b4 (by rw [hk, a3])) b1
      · omega

def notInt (P : Program) (t : TypeId) : Prop := ∃ d, P.underlying t = some d ∧ ∀ k, d ≠ .int k

theorem notInt_src {T : TypeId → TI} (hT : TabOk P T) {t : TypeId} (h : srcTy (T t).kind) : notInt P t := by
  cases e : (T t).kind with
  | slice x => exact ⟨_, und_slice hT e, fun k hk => by cases hk⟩
  | str => exact ⟨_, und_str hT e, fun k hk => by cases hk⟩
  | _ => rw [e] at h; exact h.elim

theorem run_append_room' (w : World) (t xt ty e : TypeId) (i : TypeInfo) (ht : P.underlying t = some (.slice e)) (hi : P.info? e = some i) (hxt : notInt P xt)
    (g o sLen sCap : Nat) (cur : Array Value) (tt : TypeId) (fz : Nat × Nat) (hg : w.heap[g]? = some (.cells cur tt fz)) (hfz : noFz cur fz) (x : Value) (m : Nat) (news : List Value)
    (hlen : (Builtin.lenOf x).run P w = .ok m w) (hf : (Builtin.firstCells i.size m x).run P w = .ok news.toArray w) (h1 : ∀ u ∈ news, u.oneCell' = true)
    (hroom : sLen + m ≤ sCap) (hfit : o + sLen * i.size + news.length ≤ cur.size) :
    (Builtin.append_ #[t, xt] ty #[.slice (some ⟨g, o, none⟩) sLen sCap, x]).run P w =
      .ok (.slice (some ⟨g, o, none⟩) (sLen + m) sCap) (setB w g (.cells (cur.toList.take (o + sLen * i.size) ++ news ++ cur.toList.drop (o + sLen * i.size + news.length)).toArray tt fz)) := by
  obtain ⟨d, hd, hdn⟩ := hxt
  have hst := run_storeCells_fz (P := P) g (o + sLen * i.size) tt fz news 0 cur w hg (by simpa using hfit) hfz h1
  simp only [Nat.add_zero] at hst
  have hm : (match d with | .int _ => true | _ => false) = false := by cases d <;> first | rfl | exact absurd rfl (hdn _)
  simp [Builtin.append_, run_underlying ht, run_underlying hd, hm, sizeOf, typeInfo, hi, hlen, hroom, hf, Addr.add_lit, hst]

theorem run_append_grow' (w : World) (t xt ty e : TypeId) (i : TypeInfo) (z : Value) (ht : P.underlying t = some (.slice e)) (hi : P.info? e = some i) (hz : i.zero = some z) (hxt : notInt P xt) (hby : 0 < i.bytes)
    (base : Option Addr) (sLen sCap : Nat) (olds : List Value) (holds : ∀ W : World, W.heap = w.heap → (Builtin.firstCells i.size sLen (.slice base sLen sCap)).run P W = .ok olds.toArray W) (x : Value) (m : Nat) (news : List Value)
    (hsrc : ∀ W : World, W.heap = w.heap → (Builtin.lenOf x).run P W = .ok m W ∧ (Builtin.firstCells i.size m x).run P W = .ok news.toArray W)
    (hg : sCap < sLen + m) (hb : (sLen + m) * i.bytes ≤ 140737488355328) :
    (Builtin.append_ #[t, xt] ty #[.slice base sLen sCap, x]).run P w =
      .ok (.slice (some ⟨w.heap.size, 0, none⟩) (sLen + m) (grownCap w (sLen + m) sCap e))
        (w.drew.alloc (.cells (olds.toArray ++ news.toArray ++ Builtin.zeroCells z.cells (grownCap w (sLen + m) sCap e - (sLen + m))) e)) := by
  obtain ⟨d, hd, hdn⟩ := hxt
  have hn : ¬ (sLen + m ≤ sCap) := by omega
  have hfit := growslice_fits (old := sCap) hg hb
  have hfit' : ¬ (281474976710656 < Builtin.nextslicecap (sLen + m) sCap * i.bytes) := by omega
  have hb0 : i.bytes ≠ 0 := by omega
  have e1 := (hsrc w rfl).1
  have e2 := (hsrc w.drew rfl).2
  have e3 := holds w.drew rfl
  have hm : (match d with | .int _ => true | _ => false) = false := by cases d <;> first | rfl | exact absurd rfl (hdn _)
  simp [Builtin.append_, run_underlying ht, run_underlying hd, hm, sizeOf, typeInfo, hi, hz, e1, hn, hfit', hb0, zeroValue, Question.forced, e2, e3, newRow, grownCap, ← Array.append_assoc]

theorem zeroCells_one {T : TypeId → TI} (hT : TabOk P T) {e : TypeId} (hk : (T e).kind ≠ .other) {z : Value} (hz : z.cells.toList = (T e).zero.map DV.val) (n : Nat) (u : Value) (hu : u ∈ (Builtin.zeroCells z.cells n).toList) : u.oneCell' = true := by
  have hpos : ∀ i : Nat, i < n * z.cells.size → i % z.cells.size < z.cells.size := fun i hi => Nat.mod_lt _ (by
    rcases Nat.eq_zero_or_pos z.cells.size with h | h
    · rw [h] at hi; omega
    · exact h)
  simp only [Builtin.zeroCells, Array.toList_map, List.mem_map] at hu
  obtain ⟨i, hi, rfl⟩ := hu
  have hi' : i < n * z.cells.size := by simpa using hi
  have hm := hpos i hi'
  have : z.cells[i % z.cells.size]! ∈ z.cells.toList := by
    rw [getElem!_pos z.cells _ hm]; exact Array.getElem_mem_toList hm
  rw [hz] at this
  exact zero_one hT hk _ this

/-- A row that has just been grown. -/
theorem grown_blk {ok : Nat → Prop} {us spare : Array Value} {sz : Nat} {rs src : List (List DV)} {olds news : List Value} (hlo : olds.length = rs.length * sz) (hlr : ∀ r, r ∈ rs → r.length = sz)
    (ho1 : ∀ v, v ∈ olds → v.oneCell' = true) (hor : ∀ (i : Nat) (r : List DV), rs[i]? = some r → ∀ (j : Nat) (c : DV) (v : Value), r[j]? = some c → olds[i * sz + j]? = some v → RepD ok w c v)
    (hln : news.length = src.length * sz) (hls : ∀ r, r ∈ src → r.length = sz) (hn1 : ∀ v, v ∈ news → v.oneCell' = true)
    (hnr : ∀ (i : Nat) (r : List DV), src[i]? = some r → ∀ (j : Nat) (c : DV) (v : Value), r[j]? = some c → news[i * sz + j]? = some v → RepD ok w c v)
    (hs1 : ∀ v, v ∈ spare.toList → v.oneCell' = true) (hus : us.toList = olds ++ news ++ spare.toList) : RepBlk ρ ok w us (.rows sz (rs ++ src)) := by
  refine ⟨fun u hu => ?_, fun r hr => ?_, ?_, fun i r hi j c u hj hu => ?_⟩
  · rw [hus] at hu
    simp only [List.mem_append] at hu
    rcases hu with (hu | hu) | hu
    · exact ho1 u hu
    · exact hn1 u hu
    · exact hs1 u hu
  · rcases List.mem_append.1 hr with hr | hr
    · exact hlr r hr
    · exact hls r hr
  · rw [← Array.length_toList, hus]
    simp only [List.length_append, hlo, hln, Nat.add_mul]
    omega
  · have hjl : j < sz := by
      have hr : r ∈ rs ++ src := List.mem_of_getElem? hi
      have : r.length = sz := by
        rcases List.mem_append.1 hr with hr | hr
        · exact hlr r hr
        · exact hls r hr
      rw [← this]; exact (List.getElem?_eq_some_iff.1 hj).1
    rw [← Array.getElem?_toList, hus, List.append_assoc] at hu
    by_cases hlt : i < rs.length
    · rw [List.getElem?_append_left hlt] at hi
      have : i * sz + j < olds.length := by
        rw [hlo]
        have : (i + 1) * sz ≤ rs.length * sz := Nat.mul_le_mul_right _ hlt
        rw [Nat.add_mul] at this; omega
      rw [List.getElem?_append_left this] at hu
      exact hor i r hi j c u hj hu
    · rw [List.getElem?_append_right (by omega)] at hi
      have hil : i - rs.length < src.length := (List.getElem?_eq_some_iff.1 hi).1
      have e1 : i * sz + j - olds.length = (i - rs.length) * sz + j := by
        rw [hlo, Nat.sub_mul]
        have : rs.length * sz ≤ i * sz := Nat.mul_le_mul_right _ (by omega)
        omega
      have e2 : (i - rs.length) * sz + j < news.length := by
        rw [hln]
        have : (i - rs.length + 1) * sz ≤ src.length * sz := Nat.mul_le_mul_right _ hil
        rw [Nat.add_mul] at this; omega
      have : olds.length ≤ i * sz + j := by
        rw [hlo]
        have : rs.length * sz ≤ i * sz := Nat.mul_le_mul_right _ (by omega)
        omega
      rw [List.getElem?_append_right this, e1, List.getElem?_append_left e2] at hu
      exact hnr _ r hi j c u hj hu

theorem appTo_sound {T : TypeId → TI} (hT : TabOk P T) (h : RepH E ρ hp w) (t xt ty e : TypeId) (ht : P.underlying t = some (.slice e)) (s x : AV) (us ux : Value)
    (hs : RepV ρ (okB E ρ hp w) w s us) (hx : RepV ρ (okB E ρ hp w) w x ux) (hk : (appTo (T e) (T xt).kind hp x s).ok) :
    ∃ u w', Does E ρ hp w (.ok (.value u) w') (appTo (T e) (T xt).kind hp x s).v (appTo (T e) (T xt).kind hp x s).hp ∧ (Builtin.append_ #[t, xt] ty #[us, ux]).run P w = .ok u w' := by
  revert hk
  unfold appTo
  split
  · intro ⟨hsrc, hty, hpos, hby, hko, hbig⟩
    have hko := isOther_false hko
    cases hs with | d _ _ hs =>
    obtain ⟨A, rfl⟩ := sc_nil hs
    obtain ⟨i, z, hi1, hi2, hi3, hi4, hi5⟩ := (tab_und hT hko).info
    obtain ⟨z', hz1, hz2, _⟩ := run_zero (P := P) hT hko
    have hzz : z' = z := by
      have := hz1 w
      simp [zeroValue, typeInfo, hi1, hi4] at this
      exact this.symm
    subst hzz
    obtain ⟨news, n1, n2, n3, n4, n5⟩ := src_ok (P := P) h.blks hpos hx hsrc
    generalize hrows : (srcRows hp (T e).size x).2 = src at *
    by_cases h0 : src.length = 0
    · have : src = [] := List.eq_nil_of_length_eq_zero h0
      subst this
      have hst := HStep.nilRow h (T e).size
      refine ⟨.slice A 0 0, w, ⟨_, w, _, .inl rfl, hst, ?_⟩, ?_⟩
      · have : (ρ ++ [none])[hp.length]? = some none := by rw [← h.len]; simp
        exact .oslnil _ _ A this
      · have e1 := (n5 w rfl).1
        have e2 := (n5 w rfl).2
        obtain ⟨d, hd, hdn⟩ := notInt_src hT hty
        have hm : (match d with | .int _ => true | _ => false) = false := by cases d <;> first | rfl | exact absurd rfl (hdn _)
        simp only [List.length_nil] at e1 e2
        have hnn : news = [] := List.eq_nil_of_length_eq_zero (by simpa using n1)
        subst hnn
        cases A <;> simp [Builtin.append_, run_underlying ht, run_underlying hd, hm, sizeOf, typeInfo, hi1, hi2, e1, e2, storeCells]
    · have hrun := run_append_grow' (P := P) w t xt ty e i z' ht hi1 hi4 (notInt_src hT hty) (by rw [hi3]; exact hby) A 0 0 [] (fun W _ => by have := run_first_nil (P := P) i.size A W; simpa using this) ux src.length news
        (fun W hW => by rw [hi2]; exact n5 W hW) (by omega) (by rw [Nat.zero_add, hi3]; exact hbig)
      rw [Nat.zero_add] at hrun
      have hd0 : Below w.heap.size w w.drew := ⟨rfl, rfl, rfl, Nat.le_refl _, fun _ _ => rfl⟩
      have hge := grownCap_ge w src.length 0 e
      have hst0 := HStep.below h hd0
      have hzs : z'.cells.size = (T e).size := by rw [← Array.length_toList, hz2, List.length_map, (tab_und hT hko).zl]
      have hst1 := HStep.push hst0.heap (([] : List Value).toArray ++ news.toArray ++ Builtin.zeroCells z'.cells (grownCap w src.length 0 e - src.length)) e (0, 0) (.rows (T e).size src) (noFz0 _) (plain0 _ _)
        (by
          have := grown_blk (ρ := ρ) (w := w.drew) (ok := okB E ρ hp w.drew) (us := ([] : List Value).toArray ++ news.toArray ++ Builtin.zeroCells z'.cells (grownCap w src.length 0 e - src.length)) (spare := Builtin.zeroCells z'.cells (grownCap w src.length 0 e - src.length)) (sz := (T e).size) (rs := []) (src := src) (olds := []) (news := news)
            (by simp) (by simp) (by simp) (by simp) n1 n3 n2 (fun i r hi j c v hj hv => (n4 i r hi j c v hj hv).mono (okB_below hd0)) (fun v hv => zeroCells_one hT hko hz2 _ v hv) (by simp)
          simpa using this)
      refine ⟨_, _, ⟨_, _, _, .inl rfl, hst0.trans hst1, ?_⟩, hrun⟩
      have hsz : (([] : List Value).toArray ++ news.toArray ++ Builtin.zeroCells z'.cells (grownCap w src.length 0 e - src.length)).size = (0 + grownCap w src.length 0 e) * (T e).size := by
        simp only [Array.size_append, List.size_toArray, List.length_nil, size_zeroCells, hzs, n1]
        rw [Nat.zero_add, Nat.zero_add, ← Nat.add_mul]; congr 1; omega
      have := RepV.osl (ρ := ρ ++ [some (w.drew.heap.size, (([] : List Value).toArray ++ news.toArray ++ Builtin.zeroCells z'.cells (grownCap w src.length 0 e - src.length)).size)])
        (ok := okB E (ρ ++ [some (w.drew.heap.size, (([] : List Value).toArray ++ news.toArray ++ Builtin.zeroCells z'.cells (grownCap w src.length 0 e - src.length)).size)]) (hp ++ [.rows (T e).size src]) (pushB w.drew (.cells (([] : List Value).toArray ++ news.toArray ++ Builtin.zeroCells z'.cells (grownCap w src.length 0 e - src.length)) e)))
        (w := pushB w.drew (.cells (([] : List Value).toArray ++ news.toArray ++ Builtin.zeroCells z'.cells (grownCap w src.length 0 e - src.length)) e))
        hp.length (T e).size 0 src.length w.drew.heap.size _ (grownCap w src.length 0 e) (by rw [← h.len]; simp) hsz.symm hge
      simpa using this
  · rename_i k sz off n
    split
    · rename_i sz' rs hcs
      intro ⟨hs1, hs2, hoff, hnl, hsrc, hty, hpos, hby, hko, hbig⟩
      subst hs1; subst hs2; subst hoff
      have hko := isOther_false hko
      obtain ⟨i, z, hi1, hi2, hi3, hi4, hi5⟩ := (tab_und hT hko).info
      obtain ⟨z', hz1, hz2, _⟩ := run_zero (P := P) hT hko
      have hzz : z' = z := by
        have := hz1 w
        simp [zeroValue, typeInfo, hi1, hi4] at this
        exact this.symm
      subst hzz
      obtain ⟨news, n1, n2, n3, n4, n5⟩ := src_ok (P := P) h.blks hpos hx hsrc
      -- what the row holds till now
      obtain ⟨olds, o1, o2, o3, o4, o5⟩ := src_ok (P := P) h.blks hpos hs (by simp only [srcRows, hcs]; exact ⟨trivial, trivial, by omega⟩)
      simp only [srcRows, hcs, List.drop_zero] at o1 o2 o3 o4 o5
      have hon : (rs.take n).length = n := by simp; omega
      rw [hon] at o1 o5
      generalize hrows : (srcRows hp (T e).size x).2 = src at *
      have hd0 : Below w.heap.size w w.drew := ⟨rfl, rfl, rfl, Nat.le_refl _, fun _ _ => rfl⟩
      have hst0 := HStep.below h hd0
      have hzs : z'.cells.size = (T e).size := by rw [← Array.length_toList, hz2, List.length_map, (tab_und hT hko).zl]
      have grow : ∀ (base : Option Addr) (cap : Nat), us = .slice base n cap → cap < n + src.length →
          ∃ u w', Does E ρ hp w (.ok (.value u) w') (.osl hp.length (T e).size 0 (n + src.length)) (hp.set k .dead ++ [.rows (T e).size (rs.take n ++ src)]) ∧ (Builtin.append_ #[t, xt] ty #[us, ux]).run P w = .ok u w' := by
        intro base cap hus hgc
        subst hus
        have hrun := run_append_grow' (P := P) w t xt ty e i z' ht hi1 hi4 (notInt_src hT hty) (by rw [hi3]; exact hby) base n cap olds (fun W hW => by rw [hi2]; exact (o5 W hW).2) ux src.length news
          (fun W hW => by rw [hi2]; exact n5 W hW) hgc (by rw [hi3]; exact hbig)
        have hge := grownCap_ge w (n + src.length) cap e
        have hst1 := HStep.push hst0.heap (olds.toArray ++ news.toArray ++ Builtin.zeroCells z'.cells (grownCap w (n + src.length) cap e - (n + src.length))) e (0, 0) (.rows (T e).size (rs.take n ++ src)) (noFz0 _) (plain0 _ _)
          (grown_blk (ρ := ρ) (w := w.drew) (ok := okB E ρ hp w.drew) (spare := Builtin.zeroCells z'.cells (grownCap w (n + src.length) cap e - (n + src.length))) (olds := olds) (news := news)
            (by rw [hon]; exact o1) o3 o2 (fun i r hi j c v hj hv => (o4 i r hi j c v hj hv).mono (okB_below hd0)) n1 n3 n2 (fun i r hi j c v hj hv => (n4 i r hi j c v hj hv).mono (okB_below hd0)) (fun v hv => zeroCells_one hT hko hz2 _ v hv) (by simp))
        have hst2 := HStep.kill hst1.heap k
        have hkl : k < hp.length := (List.getElem?_eq_some_iff.1 hcs).1
        rw [List.set_append_left _ _ hkl] at hst2
        refine ⟨_, _, ⟨_, _, _, .inl rfl, (hst0.trans hst1).trans hst2, ?_⟩, hrun⟩
        have hsz : (olds.toArray ++ news.toArray ++ Builtin.zeroCells z'.cells (grownCap w (n + src.length) cap e - (n + src.length))).size = (0 + grownCap w (n + src.length) cap e) * (T e).size := by
          simp only [Array.size_append, List.size_toArray, size_zeroCells, hzs, n1, o1]
          rw [Nat.zero_add, ← Nat.add_mul, ← Nat.add_mul]; congr 1; omega
        have := RepV.osl (ρ := ρ ++ [some (w.drew.heap.size, (olds.toArray ++ news.toArray ++ Builtin.zeroCells z'.cells (grownCap w (n + src.length) cap e - (n + src.length))).size)])
          (ok := okB E (ρ ++ [some (w.drew.heap.size, (olds.toArray ++ news.toArray ++ Builtin.zeroCells z'.cells (grownCap w (n + src.length) cap e - (n + src.length))).size)]) (hp.set k .dead ++ [.rows (T e).size (rs.take n ++ src)]) (pushB w.drew (.cells (olds.toArray ++ news.toArray ++ Builtin.zeroCells z'.cells (grownCap w (n + src.length) cap e - (n + src.length))) e)))
          (w := pushB w.drew (.cells (olds.toArray ++ news.toArray ++ Builtin.zeroCells z'.cells (grownCap w (n + src.length) cap e - (n + src.length))) e))
          hp.length (T e).size 0 (n + src.length) w.drew.heap.size _ (grownCap w (n + src.length) cap e) (by rw [← h.len]; simp) hsz.symm hge
        simpa using this
      cases hs with
      | oslnil _ _ A hkk =>
        have hrs : rs = [] := by
          rcases h.nil k _ hcs hkk with h1 | ⟨_, h1⟩
          · cases h1
          · injection h1
        subst hrs
        by_cases h0 : src.length = 0
        · have : src = [] := List.eq_nil_of_length_eq_zero h0
          subst this
          have hst := HStep.move h hcs (by simp) hkk
          refine ⟨.slice A 0 0, w, ⟨_, w, _, .inl rfl, by simpa using hst, ?_⟩, ?_⟩
          · have : (ρ ++ [none])[hp.length]? = some none := by rw [← h.len]; simp
            exact .oslnil _ _ A this
          · have e1 := (n5 w rfl).1
            have e2 := (n5 w rfl).2
            obtain ⟨d, hd, hdn⟩ := notInt_src hT hty
            have hm : (match d with | .int _ => true | _ => false) = false := by cases d <;> first | rfl | exact absurd rfl (hdn _)
            simp only [List.length_nil] at e1 e2
            have hnn : news = [] := List.eq_nil_of_length_eq_zero (by simpa using n1)
            subst hnn
            cases A <;> simp [Builtin.append_, run_underlying ht, run_underlying hd, hm, sizeOf, typeInfo, hi1, hi2, e1, e2, storeCells]
        · exact grow A 0 rfl (by omega)
      | osl _ _ _ _ b m cap hkk hm hn =>
        by_cases hroom : n + src.length ≤ cap
        · obtain ⟨q1, cur, tt, fz, hw, hcm, hfz, hone, hrl, hsz, hr⟩ := h.blk k _ b m hcs hkk (by simp)
          have hcap : cap * (T e).size ≤ cur.size := by rw [hcm]; rw [Nat.zero_add] at hm; exact Nat.le_of_eq hm
          have hfit : n * (T e).size + news.length ≤ cur.size := by
            rw [n1, ← Nat.add_mul]; exact Nat.le_trans (Nat.mul_le_mul_right _ hroom) hcap
          have e0 := n5 w rfl
          have hrun := run_append_room' (P := P) w t xt ty e i ht hi1 (notInt_src hT hty) b 0 n cap cur tt fz hw hfz.1 ux src.length news e0.1 (by rw [hi2]; exact e0.2) n2 hroom (by rw [hi2, Nat.zero_add]; exact hfit)
          rw [hi2, Nat.zero_add] at hrun
          have hst1 := HStep.set h hcs (by simp) (x' := .rows (T e).size (rs.take n ++ src)) (by simp) hkk hw (us' := (cur.toList.take (n * (T e).size) ++ news ++ cur.toList.drop (n * (T e).size + news.length)).toArray) (by simp; omega) (fun l e => by cases e)
            (by
              have hcl : (cur.toList.take (n * (T e).size)).length = n * (T e).size := by simp; omega
              exact grown_blk (ρ := ρ) (w := w) (ok := okB E ρ hp w) (spare := (cur.toList.drop (n * (T e).size + news.length)).toArray) (olds := cur.toList.take (n * (T e).size)) (news := news)
                (by rw [hcl, hon]) (fun r hr' => hrl r (List.mem_of_mem_take hr')) (fun v hv => hone v (List.mem_of_mem_take hv))
                (fun i r hi j c v hj hv => by
                  rw [List.getElem?_take] at hi hv
                  split at hi
                  · split at hv
                    · exact hr i r hi j c v hj (by simpa using hv)
                    · cases hv
                  · cases hi)
                n1 n3 n2 n4 (fun v hv => hone v (List.mem_of_mem_drop (by simpa using hv))) (by simp))
          have hgk : (hp.set k (.rows (T e).size (rs.take n ++ src)))[k]? = some (.rows (T e).size (rs.take n ++ src)) := by
            have := (List.getElem?_eq_some_iff.1 hcs).1
            simp [this]
          have hst2 := HStep.move hst1.heap hgk (by simp) hkk
          rw [List.set_set] at hst2
          refine ⟨_, _, ⟨_, _, _, .inl rfl, hst1.trans hst2, ?_⟩, by simpa using hrun⟩
          have := RepV.osl (ρ := ρ ++ [some (b, m)]) (ok := okB E (ρ ++ [some (b, m)]) (hp.set k .dead ++ [.rows (T e).size (rs.take n ++ src)]) (setB w b (.cells (cur.toList.take (n * (T e).size) ++ news ++ cur.toList.drop (n * (T e).size + news.length)).toArray tt fz)))
            (w := setB w b (.cells (cur.toList.take (n * (T e).size) ++ news ++ cur.toList.drop (n * (T e).size + news.length)).toArray tt fz)) hp.length (T e).size 0 (n + src.length) b m cap (by rw [← h.len]; simp) hm hroom
          simpa using this
        · exact grow (some ⟨b, 0, none⟩) cap (by simp) (by omega)
    · intro h; exact h.elim
  · intro h; exact h.elim

theorem aappend_sound {T : TypeId → TI} (hT : TabOk P T) (h : RepH E ρ hp w) (t xt ty : TypeId) (s x : AV) (us ux : Value)
    (hs : RepV ρ (okB E ρ hp w) w s us) (hx : RepV ρ (okB E ρ hp w) w x ux) (hk : (aappend T t xt s x hp).ok) :
    ∃ u w', Does E ρ hp w (.ok (.value u) w') (aappend T t xt s x hp).v (aappend T t xt s x hp).hp ∧ (Builtin.append_ #[t, xt] ty #[us, ux]).run P w = .ok u w' := by
  revert hk
  unfold aappend
  split
  · rename_i e hke; intro hk; exact appTo_sound hT h t xt ty e (und_slice hT hke) s x us ux hs hx hk
  · intro h; exact h.elim
end
end Go.Proofs.YtfnilhdofopoeabDoor
