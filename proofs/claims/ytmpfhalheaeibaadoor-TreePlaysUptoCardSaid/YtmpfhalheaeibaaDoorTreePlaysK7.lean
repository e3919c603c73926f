/- A part of what TreePlays leans on: texts of this claim, one behind the other. No condition. -/
import Derived.RangeFuncNested
import Derived.RangeFuncBound
import Derived.RangeFuncCalls
import Derived.RangeFuncLeaves
import Derived.Shelf.Abstract
import Derived.Shelf.RegionOpen
import Derived.WalkKit
import Derived.OwnWalkIn
import Derived.TacticsInMore
import Derived.LoopNIn
import Derived.LoopIn
import Derived.Laws.BitsAllLaws
import Derived.Laws.BitsLemmas
import Derived.IntWalk
import Derived.Test.YtmpfhalheaeibaaDoorTreePlaysK6
namespace Go.Proofs.YtmpfhalheaeibaaDoor
set_option linter.unusedVariables false
set_option linter.unusedSimpArgs false
open Go Go.RowKit Go.Shelf
attribute [local go_sem] Oper.semAt_some
set_option maxRecDepth 100000
set_option linter.unusedSimpArgs false
def lenAt (W : World) (b : Nat) : Nat := match W.cell? ⟨b, 0, none⟩ with
  | some (.string s) => s.size
  | _ => 0
def splitB : List UInt8 → List (List UInt8)
  | [] => [[]]
  | c :: r => if c = 47 then [] :: splitB r else match splitB r with
    | p :: ps => (c :: p) :: ps
    | [] => [[c]]
def allNamed (r : List UInt8) : Bool := (splitB r).all namedP
theorem splitB_ne (r : List UInt8) : splitB r ≠ [] := by
  induction r with
  | nil => simp [splitB]
  | cons c r ih =>
    unfold splitB
    split
    · simp
    · split <;> simp
theorem idx_cases (r : List UInt8) : (Lib.indexByte r 47 = -1 ∧ splitB r = [r]) ∨ ∃ i : Nat, Lib.indexByte r 47 = (i : Int) ∧ i < r.length ∧ splitB r = r.take i :: splitB (r.drop (i + 1)) := by
  induction r with
  | nil => exact .inl ⟨rfl, rfl⟩
  | cons c r ih =>
    by_cases h : c = 47
    · subst h
      exact .inr ⟨0, by simp [Lib.indexByte], by simp, by simp [splitB]⟩
    · rcases ih with ⟨e1, e2⟩ | ⟨i, e1, e2, e3⟩
      · refine .inl ⟨by simp [Lib.indexByte, h, e1], by simp [splitB, h, e2]⟩
      · refine .inr ⟨i + 1, ?_, by simp; omega, by simp [splitB, h, e3]⟩
        simp only [Lib.indexByte, e1]
        rw [if_neg (by simpa using h), if_neg (by simp)]
        omega
theorem index_calls (r : List UInt8) (W : World) (ht : TabsAt W) : Calls Tryd.prog 182 #[mkStr r, mkStr [47]] W fun e W' => e = .returned (.int .i64 (Lib.indexByte r 47)) ∧ Below W.heap.size W W' :=
  calls_of_acall (index1_c r 47) rfl rfl W ht
set_option maxHeartbeats 2000000 in
theorem split1 (n l Bs Bp Bv : Nat) (J : List UInt8 → World → Prop) (Jx : World → Prop)
    (hc : ∀ r W, J r W → W.cell? ⟨Bs, 0, none⟩ = some (mkStr r) ∧ W.frozen? ⟨Bs, 0, none⟩ = false ∧ W.cell? ⟨Bp, 0, none⟩ = some (mkStr [47]) ∧ W.cell? ⟨Bv, 0, none⟩ = some (.int .i64 0))
    (hs : ∀ r r' W, J r W → J r' (W.setCell ⟨Bs, 0, none⟩ (mkStr r'))) (hb : ∀ r W W', J r W → Below W.heap.size W W' → J r W') (ht : ∀ r W, J r W → TabsAt W)
    (hY : ∀ r W p, J r W → p.length ≤ 200 → YieldAt Fence.wide (n - 1) Tryd.prog l #[mkStr p] W (fun e W' => (e = .returned (.bool true) ∧ namedP p = true ∧ J r W') ∨ (e = .returned (.bool false) ∧ namedP p = false ∧ Jx W')))
    (r0 : List UInt8) (hr0 : r0.length ≤ 200) (W : World) (h0 : J r0 W) :
    CallsIn Fence.wide n Tryd.prog 180 #[.func (.yield l) #[] #[], .pointer (some ⟨Bp, 0, none⟩), .pointer (some ⟨Bs, 0, none⟩), .pointer (some ⟨Bv, 0, none⟩)] W fun e W' =>
      (∃ v, e = .returned v) ∧ ((allNamed r0 = true ∧ ∃ r, J r W') ∨ (allNamed r0 = false ∧ Jx W')) := by
  refine callsIn_of_wp Tryd.func180 rfl trivial ?_ rfl
  simp only [Tryd.ntmps180, List.size_toArray, List.length_cons, List.length_nil, Nat.reduceAdd, Nat.reduceSub, Array.replicate_succ, Array.replicate_zero, List.push_toArray, List.append_toArray, List.nil_append, List.cons_append]
  unfold mkStr at hc
  obtain ⟨h1, h2, h3, h4⟩ := hc _ _ h0
  gi_wp2
  gi_loopw [] (fun wr => ∃ r, J r wr ∧ r.length ≤ 200 ∧ allNamed r0 = allNamed r) (fun wr => lenAt wr Bs)
  case atStart => exact ⟨r0, h0, hr0, rfl⟩
  case round =>
    obtain ⟨r, hJ, hrl, hal⟩ := hrel
    obtain ⟨q1, q2, q3, q4⟩ := hc _ _ hJ
    have hm0 : lenAt wr Bs = r.length := by unfold lenAt; rw [q1]; simp [ByteArray.size]
    gi_wp2
    refine ⟨trivial, fun h => by simp [Fence.wide] at h, (callsIn_wide.2 (show Calls _ _ #[.string ⟨r.toArray⟩, .string ⟨#[47]⟩] _ _ from index_calls r wr (ht _ _ hJ))).mono ?_⟩
    rintro e w' ⟨rfl, hbl⟩
    have hJ' := hb _ _ _ hJ hbl
    clear q1 q2 q3 q4
    obtain ⟨q1, q2, q3, q4⟩ := hc _ _ hJ'
    rcases idx_cases r with ⟨ei, es⟩ | ⟨i, ei, hil, es⟩
    · rw [ei]
      have ea : allNamed r = namedP r := by unfold allNamed; rw [es]; simp
      obtain ⟨fn, tmps, assign, body, hy, hR⟩ := hY r w' r hJ' hrl
      unfold mkStr at hy
      gi_wp2
      refine ⟨fun h => by simp [Fence.wide] at h, hR.mono ?_⟩
      rintro e W3 (⟨rfl, hn, hJ3⟩ | ⟨rfl, hn, hJx3⟩)
      · gi_wp2
        go_end0
        exact ⟨⟨_, rfl⟩, .inl ⟨by rw [hal, ea, hn], r, hJ3⟩⟩
      · gi_wp2
        go_end0
        exact ⟨⟨_, rfl⟩, .inr ⟨by rw [hal, ea, hn], hJx3⟩⟩
    · rw [ei]
      have e0 : mkStr (r.take i) = .string ((⟨r.toArray⟩ : ByteArray).extract 0 i) := by unfold mkStr; rw [mk_extract]; simp
      have ea : allNamed r = (namedP (r.take i) && allNamed (r.drop (i + 1))) := by unfold allNamed; rw [es]; simp
      obtain ⟨fn, tmps, assign, body, hy, hR⟩ := hY r w' (r.take i) hJ' (by rw [List.length_take]; omega)
      rw [e0] at hy
      gi_wp2
      refine ⟨fun h => by simp [Fence.wide] at h, hR.mono ?_⟩
      rintro e W3 (⟨rfl, hn, hJ3⟩ | ⟨rfl, hn, hJx3⟩)
      · obtain ⟨t1, t2, t3, t4⟩ := hc _ _ hJ3
        gi_wp2
        have e2 : Value.string ((⟨r.toArray⟩ : ByteArray).extract (i + 1) r.length) = mkStr (r.drop (i + 1)) := by
          unfold mkStr; rw [mk_extract, List.take_of_length_le (by simp)]
        have hJ4 := hs r (r.drop (i + 1)) W3 hJ3
        rw [e2]
        refine ⟨⟨_, hJ4, by rw [List.length_drop]; omega, by rw [hal, ea, hn]; rfl⟩, ?_⟩
        rw [hm0]
        unfold lenAt
        rw [(hc _ _ hJ4).1]
        simp [ByteArray.size]; omega
      · gi_wp2
        refine bodyPost_ret (results_none rfl _ _ _) rfl ?_
        exact ⟨⟨_, rfl⟩, .inr ⟨by rw [hal, ea, hn]; rfl, hJx3⟩⟩
theorem named_calls (p : List UInt8) (h : p.length ≤ 200) (W : World) (ht : TabsAt W) : Calls Tryd.prog 97 #[.string ⟨p.toArray⟩] W fun e W' => e = .returned (.bool (namedP p)) ∧ Below W.heap.size W W' :=
  calls_of_acall (named_c p (by unfold okS; omega)) rfl rfl W ht
theorem prefix_calls (p : List UInt8) (h : okS p) (W : World) (ht : TabsAt W) : Calls Tryd.prog 139 #[.string ⟨p.toArray⟩, .string ⟨#[47]⟩] W fun e W' => e = .returned (.bool (decide (1 ≤ p.length ∧ p.take 1 = [47]))) ∧ Below W.heap.size W W' :=
  calls_of_acall (hasPrefix_c p [47] (by unfold okS; decide) h) rfl rfl W ht
theorem splitSeq_w (s : List UInt8) (w : World) : Calls Tryd.prog 140 #[.string ⟨s.toArray⟩, .string ⟨#[47]⟩] w fun e w' =>
    e = .returned (.func (.func 180) #[] #[.pointer (some ⟨w.heap.size + 1, 0, none⟩), .pointer (some ⟨w.heap.size, 0, none⟩), .pointer (some ⟨w.heap.size + 2, 0, none⟩)]) ∧
      ∃ a b c, w' = ((w.alloc (.cells #[.string ⟨s.toArray⟩] a)).alloc (.cells #[.string ⟨#[47]⟩] b)).alloc (.cells #[.int .i64 0] c) := by
  go_enter Tryd.func140, Tryd.ntmps140
  go_wp2
  go_ret
  exact ⟨rfl, _, _, _, rfl⟩
def goodP (s : List UInt8) : Bool := decide (s = [47]) || (decide (s.length ≤ 200) && (decide (1 ≤ s.length ∧ s.take 1 = [47]) && allNamed (s.drop 1)))
structure GJ (w : World) (B : Nat) (rec : Loop) (r : List UInt8) (W : World) : Prop where
  below : Below w.heap.size w W
  res : W.cell? ⟨w.heap.size, 0, none⟩ = some (.bool false)
  resf : W.frozen? ⟨w.heap.size, 0, none⟩ = false
  s : W.cell? ⟨B, 0, none⟩ = some (mkStr r)
  sf : W.frozen? ⟨B, 0, none⟩ = false
  p : W.cell? ⟨B + 1, 0, none⟩ = some (mkStr [47])
  v : W.cell? ⟨B + 2, 0, none⟩ = some (.int .i64 0)
  d : W.heap[B + 3]? = some (.deferred (some []))
  l : W.heap[B + 4]? = some (.loop rec)
theorem cell_other {W : World} {k k' : Nat} {v : Value} (h : k ≠ k') : (W.setCell ⟨k, 0, none⟩ v).cell? ⟨k', 0, none⟩ = W.cell? ⟨k', 0, none⟩ := by
  have : (⟨k, 0, none⟩ : Addr) ≠ ⟨k', 0, none⟩ := fun e => h (by injection e)
  simp [World.cell?_setCell_other, this]
theorem heap_lt {W : World} {k : Nat} {o : Obj} (h : W.heap[k]? = some o) : k < W.heap.size := (Array.getElem?_eq_some_iff.1 h).1
section
variable {w W W' : World} {B : Nat} {rec : Loop} {r : List UInt8}
theorem GJ.write (hB : w.heap.size < B) (h : GJ w B rec r W) (r' : List UInt8) : GJ w B rec r' (W.setCell ⟨B, 0, none⟩ (mkStr r')) :=
  ⟨h.below.setCell (by simp only; omega) _, by rw [cell_other (by omega)]; exact h.res, by rw [World.frozen?_setCell]; exact h.resf, World.cell?_setCell_same' _ _ _ (by rw [h.s]; rfl), by rw [World.frozen?_setCell]; exact h.sf,
    by rw [cell_other (by omega)]; exact h.p, by rw [cell_other (by omega)]; exact h.v, by rw [Below.heap_setCell _ _ _ _ (by simp only; omega)]; exact h.d, by rw [Below.heap_setCell _ _ _ _ (by simp only; omega)]; exact h.l⟩
theorem GJ.mark (hB : w.heap.size < B) (h : GJ w B rec r W) : GJ w B rec r (W.setCell ⟨w.heap.size, 0, none⟩ (.bool false)) :=
  ⟨h.below.setCell (Nat.le_refl _) _, World.cell?_setCell_same' _ _ _ (by rw [h.res]; rfl), by rw [World.frozen?_setCell]; exact h.resf, by rw [cell_other (by omega)]; exact h.s, by rw [World.frozen?_setCell]; exact h.sf,
    by rw [cell_other (by omega)]; exact h.p, by rw [cell_other (by omega)]; exact h.v, by rw [Below.heap_setCell _ _ _ _ (by simp only; omega)]; exact h.d, by rw [Below.heap_setCell _ _ _ _ (by simp only; omega)]; exact h.l⟩
theorem GJ.grow (hB : w.heap.size < B) (h : GJ w B rec r W) (hb : Below W.heap.size W W') : GJ w B rec r W' := by
  have hl := heap_lt h.l
  exact ⟨h.below.trans (hb.mono h.below.size), by rw [hb.cell (by simp only; omega)]; exact h.res, by rw [hb.frozen (by simp only; omega)]; exact h.resf, by rw [hb.cell (by simp only; omega)]; exact h.s, by rw [hb.frozen (by simp only; omega)]; exact h.sf,
    by rw [hb.cell (by simp only; omega)]; exact h.p, by rw [hb.cell (by simp only; omega)]; exact h.v, by rw [hb.block _ (by omega)]; exact h.d, by rw [hb.block _ (by omega)]; exact h.l⟩
theorem GJ.turn (hB : w.heap.size < B) (h : GJ w B rec r W) (rec' : Loop) : GJ w B rec' r (W.putObj (B + 4) (.loop rec')) := by
  have hl := heap_lt h.l
  have hcell : ∀ k, k ≠ B + 4 → (W.putObj (B + 4) (.loop rec')).cell? ⟨k, 0, none⟩ = W.cell? ⟨k, 0, none⟩ := fun k hk => World.cell?_of_block (World.putObj_heap_other hk)
  have hfz : ∀ k, k ≠ B + 4 → (W.putObj (B + 4) (.loop rec')).frozen? ⟨k, 0, none⟩ = W.frozen? ⟨k, 0, none⟩ := fun k hk => World.frozen?_of_block (World.putObj_heap_other hk)
  exact ⟨h.below.trans ⟨rfl, rfl, rfl, by simp, fun k hk => World.putObj_heap_other (by omega)⟩, by rw [hcell _ (by omega)]; exact h.res, by rw [hfz _ (by omega)]; exact h.resf, by rw [hcell _ (by omega)]; exact h.s, by rw [hfz _ (by omega)]; exact h.sf,
    by rw [hcell _ (by omega)]; exact h.p, by rw [hcell _ (by omega)]; exact h.v, by rw [World.putObj_heap_other (by omega)]; exact h.d, World.putObj_heap_same hl⟩
end
theorem wpIn_split {assign body : Code} {Q : Exit → Act → World → Prop} {tm : Array Value} {pt : Tmp} {g : Operand} {w W0 : World} {B : Nat} (a₁ : Value → Act) (hB : w.heap.size < B) (htw : TabsAt w)
    (hg : Act.eval { tmps := tm, defers := [] } g = .func (.func 180) #[] #[.pointer (some ⟨B + 1, 0, none⟩), .pointer (some ⟨B, 0, none⟩), .pointer (some ⟨B + 2, 0, none⟩)])
    (r0 : List UInt8) (hr0 : r0.length ≤ 200) (hsz : W0.heap.size = B + 3) (hJ0 : ∀ rec, GJ w B rec r0 ((W0.alloc (.deferred (some []))).alloc (.loop rec)))
    (hassign : ∀ (l : Nat) (x : Value) (W : World) (K : Act → World → Prop), K (a₁ x) W → assign.wpIn (Fence.wide.inRound l) 7 Tryd.prog (Exit.then K (fun _ _ _ => False)) { tmps := tm.setIfInBounds pt x, defers := [] } W)
    (hbody : ∀ (l : Nat) (x : List UInt8) (W : World), TabsAt W → x.length ≤ 200 → w.heap.size < W.heap.size → W.cell? ⟨w.heap.size, 0, none⟩ = some (.bool false) → W.frozen? ⟨w.heap.size, 0, none⟩ = false →
      body.wpIn (Fence.wide.inRound l) 7 Tryd.prog (fun e _ W' => (e = .normal ∧ namedP x = true ∧ Below W.heap.size W W') ∨ (e = .ret ∧ namedP x = false ∧ ∃ W2, Below W.heap.size W W2 ∧ W' = W2.setCell ⟨w.heap.size, 0, none⟩ (.bool false))) (a₁ (mkStr x)) W)
    (hdone : ∀ (W : World) (rec : Loop) (r : List UInt8), allNamed r0 = true → GJ w B rec r W → Q .normal { tmps := tm, defers := [{ target := .collected (B + 3), args := #[] }] } W)
    (hstop : ∀ (W : World) (rec : Loop) (r : List UInt8), allNamed r0 = false → GJ w B rec r W → Code.ret.wpIn Fence.wide 9 Tryd.prog Q { tmps := tm, defers := [{ target := .collected (B + 3), args := #[] }] } W) :
    (Code.rangeFunc g #[pt] assign body).wpIn Fence.wide 9 Tryd.prog Q { tmps := tm, defers := [] } W0 := by
  refine wpIn_rangeFunc ?_
  intro fn hfn
  obtain ⟨rec, hrec⟩ : ∃ rec : LoopState → Option Code → Loop, rec = fun st pe => { state := st, pending := pe, fn := fn, tmps := tm, params := #[pt], assign := assign, body := body, defers := B + 3 } := ⟨_, rfl⟩
  have hr : ∀ st pe, rec st pe = { state := st, pending := pe, fn := fn, tmps := tm, params := #[pt], assign := assign, body := body, defers := B + 3 } := fun st pe => by rw [hrec]
  have hJ := hJ0 (rec .ready none)
  obtain ⟨W1, hW1⟩ : ∃ W1, (W0.alloc (.deferred (some []))).alloc (.loop (rec .ready none)) = W1 := ⟨_, rfl⟩
  rw [hW1] at hJ
  refine ⟨B + 4, [{ target := .collected (B + 3), args := #[] }], W1,
    { target := .fn (.func 180) #[.pointer (some ⟨B + 1, 0, none⟩), .pointer (some ⟨B, 0, none⟩), .pointer (some ⟨B + 2, 0, none⟩)], args := #[.func (.yield (B + 4)) #[] #[]] }, W1, 180,
    #[.func (.yield (B + 4)) #[] #[], .pointer (some ⟨B + 1, 0, none⟩), .pointer (some ⟨B, 0, none⟩), .pointer (some ⟨B + 2, 0, none⟩)], W1, ?_, ?_, fun _ _ => trivial, ?_, fun h => by simp [Fence.wide] at h, ?_⟩
  · have := run_enterLoop_outer (P := Tryd.prog) (w := W0) fn tm #[pt] assign body
    rw [hsz, show B + 3 + 1 = B + 4 from rfl, ← hr, hW1] at this
    exact this
  · simp only [resolve, hg]
    simp [go_sem]
  · simp [invoke, go_sem, enters_of Tryd.func180 (by kernel_rfl) rfl]
  · refine (split1 8 (B + 4) B (B + 1) (B + 2) (fun r W => GJ w B (rec .ready none) r W) (fun W => ∃ r, GJ w B (rec .done (some .ret)) r W) (fun r W h => ⟨h.s, h.sf, h.p, h.v⟩)
      (fun r r' W h => h.write hB r') (fun r W W' h hb => h.grow hB hb) (fun r W h => htw.below h.below) ?_ r0 hr0 W1 hJ).mono ?_
    · intro r W x hj hx
      have hy := run_yield (P := Tryd.prog) (args := #[mkStr x]) hj.l (by rw [hr]; rfl)
      rw [hr] at hy
      have hy2 : (Instr.yield (B + 4) #[mkStr x]).run Tryd.prog W = .ok (.round (B + 4) fn (tm.setIfInBounds pt (mkStr x)) assign body) W := by rw [hy]; simp
      refine ⟨fn, _, assign, body, hy2, roundIn_of_wpIn hfn ?_⟩
      refine hassign _ (mkStr x) W _ ?_
      refine ⟨_, run_beginRound hj.l (by rw [hr]), ?_⟩
      have hj2 := hj.turn hB ({ rec .ready none with state := .busy })
      have hl2 := heap_lt hj2.l
      have hl3 := Nat.lt_trans (show w.heap.size < B + 4 by omega) hl2
      refine wpIn_mono (hbody _ x _ (htw.below hj2.below) hx hl3 hj2.res hj2.resf) ?_
      rintro e a3 W3 (⟨rfl, hn, hb3⟩ | ⟨rfl, hn, W2, hb2, rfl⟩)
      · have hj3 := hj2.grow hB hb3
        have := run_endRound (P := Tryd.prog) none hj3.l
        refine ⟨_, _, this, .inl ⟨rfl, hn, ?_⟩⟩
        have hj4 := hj3.turn hB (rec .ready none)
        rw [hr] at hj4
        rw [hr]
        exact hj4
      · have hj3 := (hj2.grow hB hb2).mark hB
        have := run_endRound (P := Tryd.prog) (some .ret) hj3.l
        refine ⟨_, _, this, .inr ⟨rfl, hn, r, ?_⟩⟩
        have hj4 := hj3.turn hB (rec .done (some .ret))
        simp only [hr] at hj4 ⊢
        exact hj4
    · rintro e W2 ⟨⟨v, rfl⟩, (⟨ha, r, hj⟩ | ⟨ha, r, hj⟩)⟩
      · have := run_endLoop (P := Tryd.prog) hj.l (by rw [hr]; simp)
        exact ⟨_, _, this, by rw [hr]; exact hdone _ _ r ha (hj.turn hB _)⟩
      · have := run_endLoop (P := Tryd.prog) hj.l (by rw [hr]; simp)
        exact ⟨_, _, this, by rw [hr]; exact hstop _ _ r ha (hj.turn hB _)⟩
theorem three_cells {w w' : World} {r : List UInt8} (hb : Below w.heap.size w w') (hB : w.heap.size < w'.heap.size) (c1 : w'.cell? ⟨w.heap.size, 0, none⟩ = some (.bool false)) (c2 : w'.frozen? ⟨w.heap.size, 0, none⟩ = false) (ta tb tc : TypeId) (rec : Loop) :
    GJ w w'.heap.size rec r (((((w'.alloc (.cells #[.string ⟨r.toArray⟩] ta)).alloc (.cells #[.string ⟨#[47]⟩] tb)).alloc (.cells #[.int .i64 0] tc)).alloc (.deferred (some []))).alloc (.loop rec)) := by
  obtain ⟨W1, h1⟩ : ∃ W1, w'.alloc (.cells #[.string ⟨r.toArray⟩] ta) = W1 := ⟨_, rfl⟩
  have a1 := World.alloc_heap_new w' (.cells #[.string ⟨r.toArray⟩] ta)
  have s1 : W1.heap.size = w'.heap.size + 1 := by rw [← h1, World.size_alloc]
  have k1 : ∀ k, k < w'.heap.size → W1.heap[k]? = w'.heap[k]? := fun k hk => by rw [← h1]; exact Below.heap_alloc _ _ _ hk
  rw [h1] at a1 ⊢
  obtain ⟨W2, h2⟩ : ∃ W2, W1.alloc (.cells #[.string ⟨#[47]⟩] tb) = W2 := ⟨_, rfl⟩
  have a2 := World.alloc_heap_new W1 (.cells #[.string ⟨#[47]⟩] tb)
  have s2 : W2.heap.size = w'.heap.size + 2 := by rw [← h2, World.size_alloc, s1]
  have k2 : ∀ k, k < W1.heap.size → W2.heap[k]? = W1.heap[k]? := fun k hk => by rw [← h2]; exact Below.heap_alloc _ _ _ hk
  rw [h2, s1] at a2
  rw [h2]
  obtain ⟨W3, h3⟩ : ∃ W3, W2.alloc (.cells #[.int .i64 0] tc) = W3 := ⟨_, rfl⟩
  have a3 := World.alloc_heap_new W2 (.cells #[.int .i64 0] tc)
  have s3 : W3.heap.size = w'.heap.size + 3 := by rw [← h3, World.size_alloc, s2]
  have k3 : ∀ k, k < W2.heap.size → W3.heap[k]? = W2.heap[k]? := fun k hk => by rw [← h3]; exact Below.heap_alloc _ _ _ hk
  rw [h3, s2] at a3
  rw [h3]
  obtain ⟨W4, h4⟩ : ∃ W4, W3.alloc (.deferred (some [])) = W4 := ⟨_, rfl⟩
  have a4 := World.alloc_heap_new W3 (.deferred (some []))
  have s4 : W4.heap.size = w'.heap.size + 4 := by rw [← h4, World.size_alloc, s3]
  have k4 : ∀ k, k < W3.heap.size → W4.heap[k]? = W3.heap[k]? := fun k hk => by rw [← h4]; exact Below.heap_alloc _ _ _ hk
  rw [h4, s3] at a4
  rw [h4]
  obtain ⟨W5, h5⟩ : ∃ W5, W4.alloc (.loop rec) = W5 := ⟨_, rfl⟩
  have a5 := World.alloc_heap_new W4 (.loop rec)
  have s5 : W5.heap.size = w'.heap.size + 5 := by rw [← h5, World.size_alloc, s4]
  have k5 : ∀ k, k < W4.heap.size → W5.heap[k]? = W4.heap[k]? := fun k hk => by rw [← h5]; exact Below.heap_alloc _ _ _ hk
  rw [h5, s4] at a5
  rw [h5]
  have hbb : Below w'.heap.size w' W5 := by
    rw [← h5, ← h4, ← h3, ← h2, ← h1]
    exact (((((Below.refl _ w').alloc (Nat.le_refl _) _).alloc (by simp) _).alloc (by simp; omega) _).alloc (by simp; omega) _).alloc (by simp; omega) _
  have hk : ∀ k, k < w'.heap.size → W5.heap[k]? = w'.heap[k]? := fun k hk => hbb.block k hk
  have e0 : W5.heap[w'.heap.size]? = some (.cells #[.string ⟨r.toArray⟩] ta) := by rw [k5 _ (by omega), k4 _ (by omega), k3 _ (by omega), k2 _ (by omega)]; exact a1
  have e1 : W5.heap[w'.heap.size + 1]? = some (.cells #[.string ⟨#[47]⟩] tb) := by rw [k5 _ (by omega), k4 _ (by omega), k3 _ (by omega)]; exact a2
  have e2 : W5.heap[w'.heap.size + 2]? = some (.cells #[.int .i64 0] tc) := by rw [k5 _ (by omega), k4 _ (by omega)]; exact a3
  exact ⟨hb.trans (hbb.mono (by omega)), by rw [World.cell?_of_block (hk _ hB)]; exact c1, by rw [World.frozen?_of_block (hk _ hB)]; exact c2,
    by rw [cell_of_cells e0]; rfl, by rw [frozen_cells e0]; rfl, by rw [cell_of_cells e1]; rfl, by rw [cell_of_cells e2]; rfl, by rw [k5 _ (by omega)]; exact a4, a5⟩
theorem good_res (tmps : Array Value) (W : World) (b : Nat) (v : Bool) (ht : tmps.getD 2 undef = .pointer (some ⟨b, 0, none⟩)) (hc : W.cell? ⟨b, 0, none⟩ = some (.bool v)) : (results Tryd.f90 tmps).run Tryd.prog W = .ok (.bool v) W := by
  rw [results_eq, Tryd.results90]
  simp [resVar, ht, go_sem, hc]
theorem cell_new (W : World) (v : Value) (t : TypeId) : (W.alloc (.cells #[v] t)).cell? ⟨W.heap.size, 0, none⟩ = some v ∧ (W.alloc (.cells #[v] t)).frozen? ⟨W.heap.size, 0, none⟩ = false := by
  have e := World.alloc_heap_new W (.cells #[v] t)
  exact ⟨by rw [cell_of_cells e]; rfl, by rw [frozen_cells e]; rfl⟩
set_option maxHeartbeats 4000000 in
theorem good_in (s : List UInt8) (h : okS s) (w : World) (htw : TabsAt w) : CallsIn Fence.wide 9 Tryd.prog 90 #[.string ⟨s.toArray⟩] w fun e w' => e = .returned (.bool (goodP s)) ∧ Below w.heap.size w w' := by
  refine callsIn_of_wp_marks Tryd.func90 rfl trivial ?_ rfl
  simp only [Tryd.ntmps90, List.size_toArray, List.length_cons, List.length_nil, Nat.reduceAdd, Nat.reduceSub, Array.replicate_succ, Array.replicate_zero, List.push_toArray, List.append_toArray, List.nil_append, List.cons_append]
  have hA := cell_new w (.bool false) 4
  have hB := cell_new w (.bool true) 4
  have hbA : Below w.heap.size w (w.alloc (.cells #[.bool false] 4)) := (Below.refl _ w).alloc (Nat.le_refl _) _
  have hbB : Below w.heap.size w (w.alloc (.cells #[.bool true] 4)) := (Below.refl _ w).alloc (Nat.le_refl _) _
  by_cases h1 : s = [47]
  · subst h1
    gi_wp2
    exact ⟨_, good_res _ _ w.heap.size true rfl hB.1, rfl, hbB⟩
  have g1 : goodP s = (decide (s.length ≤ 200) && (decide (1 ≤ s.length ∧ s.take 1 = [47]) && allNamed (s.drop 1))) := by unfold goodP; rw [decide_eq_false h1, Bool.false_or]
  by_cases h2 : 200 < s.length
  · have g2 : goodP s = false := by rw [g1, decide_eq_false (by omega), Bool.false_and]
    gi_wp2
    · rename_i hx; exact absurd (by simpa using hx) h1
    · refine ⟨trivial, ?_⟩
      gi_wp2
      exact ⟨_, good_res _ _ w.heap.size false rfl hA.1, by rw [g2], hbA⟩
  · have g2 : goodP s = (decide (1 ≤ s.length ∧ s.take 1 = [47]) && allNamed (s.drop 1)) := by rw [g1, decide_eq_true (by omega), Bool.true_and]
    gi_wp2
    · rename_i hx; exact absurd (by simpa using hx) h1
    refine ⟨trivial, (callsIn_wide.2 (prefix_calls s h _ (htw.below hbA))).mono ?_⟩
    rintro e w' ⟨rfl, hbl⟩
    have hbl' := hbA.trans (hbl.mono hbA.size)
    have c1 : w'.cell? ⟨w.heap.size, 0, none⟩ = some (.bool false) := by rw [hbl.cell (by simp)]; exact hA.1
    have c2 : w'.frozen? ⟨w.heap.size, 0, none⟩ = false := by rw [hbl.frozen (by simp)]; exact hA.2
    have hszB : w.heap.size < w'.heap.size := by have := hbl.size; simp at this; omega
    by_cases h3 : 1 ≤ s.length ∧ s.take 1 = [47]
    · have g3 : goodP s = allNamed s.tail := by rw [g2, decide_eq_true h3, Bool.true_and, List.drop_one]
      rw [decide_eq_true h3]
      have e1 : (⟨s.toArray⟩ : ByteArray).extract 1 s.length = ⟨s.tail.toArray⟩ := by rw [mk_extract, List.take_of_length_le (by simp), List.drop_one]
      gi_wp2
      refine ⟨trivial, (callsIn_wide.2 (splitSeq_w s.tail w')).mono ?_⟩
      rintro e w2 ⟨rfl, ta, tb, tc, rfl⟩
      gi_wp2
      refine wpIn_split (w := w) (B := w'.heap.size) (fun x => { tmps := #[.string ⟨s.toArray⟩, undef, .pointer (some ⟨w.heap.size, 0, none⟩), x, .string ⟨s.toArray⟩, .bool false, .string ⟨s.toArray⟩, .int .i64 s.length, .bool (decide (200 < (s.length : Int))), .bool (decide (200 < (s.length : Int))), .string ⟨s.toArray⟩, .bool true, .bool false, .bool (decide (200 < (s.length : Int))), .string ⟨s.toArray⟩, .string ⟨s.tail.toArray⟩, .func (.func 180) #[] #[.pointer (some ⟨w'.heap.size + 1, 0, none⟩), .pointer (some ⟨w'.heap.size, 0, none⟩), .pointer (some ⟨w'.heap.size + 2, 0, none⟩)], x, undef, undef, undef], defers := [] })
        hszB htw rfl s.tail (by simp; omega) (by simp [World.size_alloc]) (fun rec => three_cells hbl' hszB c1 c2 _ _ _ _) ?_ ?_ ?_ ?_
      · intro l x W K hK
        gi_wp2
        exact hK
      · intro l x W htW hx hlt q1 q2
        gi_wp2
        refine ⟨trivial, ((callsIn_wide.2 (named_calls x hx W htW)).inRound l).mono ?_⟩
        rintro e w3 ⟨rfl, hb3⟩
        have u1 : w3.cell? ⟨w.heap.size, 0, none⟩ = some (.bool false) := by rw [hb3.cell (by simp only; omega)]; exact q1
        have u2 : w3.frozen? ⟨w.heap.size, 0, none⟩ = false := by rw [hb3.frozen (by simp only; omega)]; exact q2
        by_cases hn : namedP x = true
        · rw [hn]
          gi_wp2
        · rw [Bool.not_eq_true] at hn
          rw [hn]
          gi_wp2
          exact ⟨w3, hb3, rfl⟩
      · intro W rec r ha hj
        have r1 := hj.res
        have r2 := hj.resf
        gi_wp2
        refine ⟨by simp, .inl ⟨_, _, rfl, run_takeDeferred (ds := []) (by rw [Below.heap_setCell _ _ _ _ (by simp only; omega)]; exact hj.d), ?_⟩⟩
        refine ⟨_, good_res _ _ w.heap.size true rfl ?_, by rw [g3, ha], ?_⟩
        · rw [World.cell?_of_block (World.putObj_heap_other (by simp only; omega))]
          exact World.cell?_setCell_same' _ _ _ (by rw [r1]; rfl)
        · exact (hj.below.setCell (by simp) _).trans ⟨rfl, rfl, rfl, by simp, fun k hk => World.putObj_heap_other (by omega)⟩
      · intro W rec r ha hj
        gi_wp2
        refine ⟨by simp, .inl ⟨_, _, rfl, run_takeDeferred (ds := []) hj.d, ?_⟩⟩
        refine ⟨_, good_res _ _ w.heap.size false rfl ?_, by rw [g3, ha], ?_⟩
        · rw [World.cell?_of_block (World.putObj_heap_other (by simp only; omega))]
          exact hj.res
        · exact hj.below.trans ⟨rfl, rfl, rfl, by simp, fun k hk => World.putObj_heap_other (by omega)⟩
    · have g3 : goodP s = false := by rw [g2, decide_eq_false h3, Bool.false_and]
      rw [decide_eq_false h3]
      gi_wp2
      exact ⟨_, good_res _ _ w.heap.size false rfl (World.cell?_setCell_same' _ _ _ (by rw [c1]; rfl)), by rw [g3], hbl'.setCell (by simp) _⟩
theorem acall_of_below {P : Program} {g : FuncId} {xs : List AV} {x : AV} {us : List Value} {u : Value} (hg : goFn P g) (hxs : scalL xs = some us) (hx : scalV x = some u)
    (h : ∀ w : World, TabsAt w → Calls P g us.toArray w fun e w' => e = .returned u ∧ Below w.heap.size w w') : acall P [] g xs (ret x) := by
  refine ⟨hg, fun E w vs hw hH hvs => ?_⟩
  have e : vs = us := by
    obtain ⟨h1, h2⟩ := scalL_get hxs
    refine List.ext_getElem? fun j => ?_
    by_cases hj : j < xs.length
    · obtain ⟨u', hu, hs⟩ := h2 j _ (List.getElem?_eq_getElem hj)
      have hv : vs[j]? = some (vs[j]'(by rw [hvs.1]; exact hj)) := List.getElem?_eq_getElem _
      rw [hv, hu, scal_eq (hvs.2 j _ _ (List.getElem?_eq_getElem hj) hv) u' hs]
    · rw [List.getElem?_eq_none (by rw [hvs.1]; omega), List.getElem?_eq_none (by omega)]
  subst e
  refine (h w (hw ▸ E.hT)).mono fun e w' ⟨h1, h2⟩ => ?_
  have h0 : E.ρ0 = [] := List.eq_nil_of_length_eq_zero (by rw [hH.len]; rfl)
  refine ⟨u, x, [], [], h1, ⟨rfl, rfl⟩, ?_, fun k p hk => ?_, scal_rep x u hx⟩
  · rw [h0] at hH; exact hH.below h2
  · rw [h0] at hk; exact hk
theorem good_c (s : List UInt8) (h : okS s) : acall Tryd.prog [] 90 [S s] (ret (B (goodP s))) :=
  acall_of_below ⟨_, Tryd.func90, by kernel_rfl, by kernel_rfl⟩ rfl rfl fun w ht => callsIn_wide.1 (good_in s h w ht)
end Go.Proofs.YtmpfhalheaeibaaDoor
namespace Go.Proofs.YtmpfhalheaeibaaDoor
set_option linter.unusedVariables false
set_option linter.unusedSimpArgs false
open Go Go.RowKit
set_option maxRecDepth 100000
set_option linter.unusedSimpArgs false
theorem splitB_len (r : List UInt8) : 0 < (splitB r).length := by
  have := splitB_ne r
  exact List.length_pos_iff.2 this
theorem splitB_snoc (a : List UInt8) (c : UInt8) : splitB (a ++ [c]) = if c = 47 then splitB a ++ [[]] else (splitB a).set ((splitB a).length - 1) ((splitB a).getD ((splitB a).length - 1) [] ++ [c]) := by
  induction a with
  | nil => by_cases h : c = 47 <;> simp [splitB, h]
  | cons x a ih =>
    have hl := splitB_len a
    by_cases hx : x = 47
    · have e : splitB (x :: a ++ [c]) = [] :: splitB (a ++ [c]) := by simp [splitB, hx]
      have e2 : splitB (x :: a) = [] :: splitB a := by simp [splitB, hx]
      rw [e, e2, ih]
      by_cases h : c = 47
      · simp [h]
      · rw [if_neg h, if_neg h]
        obtain ⟨n, hn⟩ : ∃ n, (splitB a).length = n + 1 := ⟨_, (Nat.succ_pred_eq_of_pos hl).symm⟩
        simp [hn]
    · cases hp : splitB a with
      | nil => exact absurd hp (splitB_ne a)
      | cons p ps =>
        have e2 : splitB (x :: a) = (x :: p) :: ps := by simp [splitB, hx, hp]
        rw [hp] at ih
        have e : ∀ q qs, splitB (a ++ [c]) = q :: qs → splitB (x :: a ++ [c]) = (x :: q) :: qs := fun q qs hq => by
          show splitB (x :: (a ++ [c])) = _
          rw [splitB, if_neg hx, hq]
        by_cases h : c = 47
        · rw [if_pos h] at ih ⊢
          rw [e _ _ ih, e2]; rfl
        · rw [if_neg h] at ih ⊢
          cases ps with
          | nil => rw [e _ _ ih, e2]; rfl
          | cons q qs =>
            have ih2 : splitB (a ++ [c]) = p :: (q :: qs).set qs.length ((q :: qs).getD qs.length [] ++ [c]) := by rw [ih]; rfl
            rw [e _ _ ih2, e2]; rfl
theorem splitB_take (s : List UInt8) (k : Nat) (h : k < s.length) : splitB (s.take (k + 1)) = if s.getD k 0 = 47 then splitB (s.take k) ++ [[]] else (splitB (s.take k)).set ((splitB (s.take k)).length - 1) ((splitB (s.take k)).getD ((splitB (s.take k)).length - 1) [] ++ [s.getD k 0]) := by
  have : s.take (k + 1) = s.take k ++ [s.getD k 0] := take_snoc s k h
  rw [this, splitB_snoc]
theorem splitB_le (s : List UInt8) : (splitB s).length ≤ s.length + 1 := by
  induction s with
  | nil => simp [splitB]
  | cons c s ih =>
    unfold splitB
    split
    · simp; omega
    · split
      · rename_i e; rw [e] at ih; simp at ih ⊢; omega
      · simp
theorem splitB_nil : splitB [] = [[]] := rfl
theorem piece_le (s : List UInt8) : ∀ p, p ∈ splitB s → p.length ≤ s.length := by
  induction s with
  | nil => intro p hp; simp [splitB] at hp; simp [hp]
  | cons c s ih =>
    intro p hp
    unfold splitB at hp
    split at hp
    · rcases List.mem_cons.1 hp with rfl | hp
      · simp
      · have := ih p hp; simp; omega
    · split at hp
      · rename_i q qs e
        rcases List.mem_cons.1 hp with rfl | hp
        · have := ih q (by rw [e]; simp); simp; omega
        · have := ih p (by rw [e]; simp [hp]); simp; omega
      · simp at hp; subst hp; simp
theorem toNat_pr2 (n : Nat) : ((n : Int) - 1).toNat = n - 1 := by omega
theorem srow_rgetD (l : List (List UInt8)) (i : Nat) (z : List DV) (h : i < l.length) : (l.map srow).getD i z = srow (l.getD i []) := getD_row srow l i z h
theorem srow_rset (l : List (List UInt8)) (i : Nat) (x : List UInt8) : (l.map srow).set i [.str x] = (l.set i x).map srow := by rw [List.map_set]; rfl
theorem srow_rsnoc (l : List (List UInt8)) (x : List UInt8) : l.map srow ++ [[.str x]] = (l ++ [x]).map srow := by rw [List.map_append]; rfl
theorem okU8_one (b : UInt8) : okU8s [[.int .u8 (b.toNat : Int)]] = True := eq_true (okU8s_rows [b])
theorem u8_47 {b : UInt8} (h : (b.toNat : Int) = 47) : b = 47 := by
  have h2 : b.toNat = (47 : UInt8).toNat := by have : (47 : UInt8).toNat = 47 := rfl; omega
  exact UInt8.toNat_inj.1 h2
theorem take_drop_map (l : List (List UInt8)) : List.take (l.length - 1) (List.drop 1 (l.map srow)) = (l.drop 1).map srow := by
  rw [← List.map_drop]; exact List.take_of_length_le (by simp)
theorem steps_c (s : List UInt8) (h : s.length ≤ 1048576) : acall Tryd.prog [] 138 [S s] (ret (.d (.sl 1 ((splitB s).map srow)))) := by
  refine acall_of tabOk Tryd.func138 rfl (by kernel_rfl) (by simp [Tryd.ntmps138]) ?_; simp only [Tryd.ntmps138, Tryd.results138, List.toList_toArray, apar, List.length_nil, List.length_cons, Nat.reduceAdd]
  (repeat' first
| (with_reducible refine AR.f ?_)
| refine blkA_x (by decide) ?_
| (with_reducible refine AWP.cond rfl ?_ ?_ <;> intro hc <;> (try simp only [hcs, beq_iff_eq, ge_iff_le, gt_iff_lt] at hc))
| ((first | ((first | (with_reducible first | refine zR ?_ | refine zQ (by decide +kernel) ?_ | refine zD (by decide +kernel) ?_ | refine zE (by decide +kernel) ?_ | refine zG (by decide +kernel) ?_)); intro K hK) | ((first | (with_reducible refine aunder_i ?_ ?_ <;> intro hg) | with_reducible intro hg) <;> (first | (exfalso; simp at hg; done) | (have hg' := hg; (try simp only [hcs, beq_iff_eq, ge_iff_le, gt_iff_lt] at hg'); (try simp only [hg]))))) <;> (try simp (disch := omega) only [go_sem, wrap_n]) <;> (repeat' with_reducible refine And.intro ?_ ?_) <;> (try (with_reducible refine hK _ ?_; clear hK K)))
| omega)
  refine AWP.loopB (ι := Nat) (fun k => k ≤ s.length) (fun k => s.length - k) [8, 9] (fun k => [(10, I k), (3, .osl 0 1 0 (splitB (s.take k)).length)]) (fun k => [.rows 1 ((splitB (s.take k)).map srow), .bytes s]) 0 ?_ ?_ ?_
  · omega
  · simp only [go_sem, splitB_nil, srow]; (refine SImp.same ?_; simp (disch := omega) only [go_sem, wrap_n, Int.natCast_add, splitB_nil])
  intro k hk
  have hl := splitB_len (s.take k)
  have hle := splitB_le (s.take k)
  have htl : (s.take k).length = k := by simp; omega
  have hpl : ((splitB (s.take k)).getD ((splitB (s.take k)).length - 1) []).length ≤ k := by
    have := piece_le (s.take k) _ (mem_getD (splitB (s.take k)) [] (k := (splitB (s.take k)).length - 1) (by omega))
    omega
  simp only [go_sem]
  (repeat' first
| (with_reducible refine AR.f ?_)
| refine blkA_x (by decide) ?_
| (with_reducible refine AWP.cond rfl ?_ ?_ <;> intro hc <;> (try simp only [hcs, beq_iff_eq, ge_iff_le, gt_iff_lt] at hc))
| ((first | ((first | refine zP (Plan.takes [0, 1, 2, 3, 4, 6] (.fork 5 (Plan.takes [7, 8, 9, 10, 11] .done) 7 (.fork 5 (Plan.takes [8, 9, 10, 11] .done) 8 (Plan.takes [5, 9, 10, 11] .done)))) (by decide +kernel) ?_ | (with_reducible first | refine zR ?_ | refine zQ (by decide +kernel) ?_ | refine zD (by decide +kernel) ?_ | refine zE (by decide +kernel) ?_ | refine zG (by decide +kernel) ?_)); intro K hK) | ((first | (with_reducible refine aunder_i ?_ ?_ <;> intro hg) | with_reducible intro hg) <;> (first | (exfalso; simp at hg; done) | (have hg' := hg; (try simp only [hcs, beq_iff_eq, ge_iff_le, gt_iff_lt] at hg'); (try simp only [hg]))))) <;> (try simp (disch := omega) only [go_sem, wrap_n, u8g, srow_rgetD, srow, srow_rset, srow_rsnoc, toNat_pr2, okU8_one, UInt8.ofNat_toNat]) <;> (repeat' with_reducible refine And.intro ?_ ?_) <;> (try (with_reducible refine hK _ ?_; clear hK K)))
| omega)
  · refine ⟨k + 1, by omega, by omega, ?_⟩
    rw [splitB_take _ _ (by assumption), if_pos (u8_47 hc)]
    (refine SImp.frame [3, 1] rfl (by intro k hk; first | (simp at hk <;> (simp; omega)) | (simp only [List.mem_cons, List.not_mem_nil, or_false] at hk; simp only [List.length_cons, List.length_nil]; omega)) (by decide) (fun k hk => by first | omega | (rcases k with _ | _ | _ | _ | _ | _ | _ | _ | k <;> first | rfl | omega)) ?_ ?_ <;> simp (disch := omega) only [go_sem, wrap_n, Int.natCast_add, List.length_append] <;> (try rfl))
  iterate 3
    · refine ⟨k + 1, by omega, by omega, ?_⟩
      rw [splitB_take _ _ (by assumption), if_neg (fun e => hc (by rw [e]; rfl))]
      (refine SImp.frame [0, 1] rfl (by intro k hk; first | (simp at hk <;> (simp; omega)) | (simp only [List.mem_cons, List.not_mem_nil, or_false] at hk; simp only [List.length_cons, List.length_nil]; omega)) (by decide) (fun k hk => by first | omega | (rcases k with _ | _ | _ | _ | _ | _ | _ | _ | k <;> first | rfl | omega)) ?_ ?_ <;> simp (disch := omega) only [go_sem, wrap_n, Int.natCast_add, List.length_set] <;> (try rfl))
  · have e : k = s.length := by omega
    subst e
    simp only [List.take_length]
    (refine zF rfl ?_ ?_ ?_ ?_; (iterate 3 (focus ((try simp (disch := omega) only [go_sem, wrap_n]) <;> (try omega) <;> fail))); (try simp (disch := omega) only [go_sem, wrap_n, I, B, S, inj, List.cons.injEq, and_true, true_and, and_self]))
def goodL (s : List UInt8) : Bool := decide (s = [47]) || (decide (s.length ≤ 200) && (decide ((splitB s).getD 0 [] = []) && (decide (2 ≤ (splitB s).length) && ((splitB s).drop 1).all namedP)))
theorem goodL_eq (s : List UInt8) : goodL s = goodP s := by
  unfold goodL goodP
  congr 2
  cases s with
  | nil => simp [splitB]
  | cons c r =>
    by_cases h : c = 47
    · subst h
      have := splitB_len r
      simp [splitB, allNamed]
      intro _; omega
    · have hn : ∃ p ps, splitB (c :: r) = (c :: p) :: ps := by
        cases hp : splitB r with
        | nil => exact absurd hp (splitB_ne r)
        | cons p ps => exact ⟨p, ps, by simp [splitB, h, hp]⟩
      obtain ⟨p, ps, e⟩ := hn
      rw [e]
      simp [h]
theorem ref_good_c (s : List UInt8) (h : s.length ≤ 1048576) : acall Tryd.prog [] 87 [S s] (ret (B (goodP s))) := by
  rw [← goodL_eq]
  have hl := splitB_len s
  refine acall_of tabOk Tryd.func87 rfl (by kernel_rfl) (by simp [Tryd.ntmps87]) ?_; simp only [Tryd.ntmps87, Tryd.results87, List.toList_toArray, apar, List.length_nil, List.length_cons, Nat.reduceAdd]
  (repeat' first
| (with_reducible refine AR.f ?_)
| refine blkA_x (by decide) ?_
| (with_reducible refine AWP.cond rfl ?_ ?_ <;> intro hc <;> (try simp only [hcs, beq_iff_eq, ge_iff_le, gt_iff_lt] at hc))
| ((first | ((first | (with_reducible first | refine zR ?_ | refine zQ (by decide +kernel) ?_ | refine zD (by decide +kernel) ?_ | refine zE (by decide +kernel) ?_ | refine zG (by decide +kernel) ?_)); intro K hK) | ((first | refine zA (steps_c s h) ?_ ?_ ?_ ?_ ?_); (focus exact rfl); (focus exact rfl); iterate 2 (focus ((try simp (disch := omega) only [go_sem, wrap_n, srow_rgetD, srow, take_drop_map, Nat.min_self]) <;> (try omega) <;> fail))) | ((first | refine zN (steps_c s h) rfl ?_ ?_); (focus ((try simp (disch := omega) only [go_sem, wrap_n, srow_rgetD, srow, take_drop_map, Nat.min_self]) <;> (try omega) <;> fail))) | (first | ((first | refine zX (steps_c s h) rfl ?_ ?_ | refine acallH_anyx (steps_c s h) ?_ ?_); (focus ((try simp (disch := omega) only [go_sem, wrap_n, srow_rgetD, srow, take_drop_map, Nat.min_self]) <;> (try omega) <;> fail)))) | ((first | (with_reducible refine aunder_i ?_ ?_ <;> intro hg) | with_reducible intro hg) <;> (first | (exfalso; simp at hg; done) | (have hg' := hg; (try simp only [hcs, beq_iff_eq, ge_iff_le, gt_iff_lt] at hg'); (try simp only [hg]))))) <;> (try simp (disch := omega) only [go_sem, wrap_n, srow_rgetD, srow, take_drop_map, Nat.min_self]) <;> (repeat' with_reducible refine And.intro ?_ ?_) <;> (try (with_reducible refine hK _ ?_; clear hK K)))
| omega)
  · (refine zF rfl ?_ ?_ ?_ ?_; (iterate 3 (focus ((try simp (disch := omega) only [go_sem, wrap_n]) <;> (try omega) <;> fail))); (try simp (disch := omega) only [go_sem, wrap_n, I, B, S, inj, List.cons.injEq, and_true, true_and, and_self]))
    unfold goodL; rw [decide_eq_true hc, Bool.true_or]
  · (refine zF rfl ?_ ?_ ?_ ?_; (iterate 3 (focus ((try simp (disch := omega) only [go_sem, wrap_n]) <;> (try omega) <;> fail))); (try simp (disch := omega) only [go_sem, wrap_n, I, B, S, inj, List.cons.injEq, and_true, true_and, and_self]))
    unfold goodL
    rw [decide_eq_false (by assumption), Bool.false_or]
    rcases hc with (c | c) | c
    · rw [decide_eq_false (p := s.length ≤ 200) (by omega), Bool.false_and]
    · rw [decide_eq_false c, Bool.false_and, Bool.and_false]
    · rw [decide_eq_false (p := 2 ≤ (splitB s).length) (by omega), Bool.false_and, Bool.and_false, Bool.and_false]
  have g : goodL s = ((splitB s).drop 1).all namedP := by
    unfold goodL
    rw [decide_eq_false (by assumption), Bool.false_or, decide_eq_true (p := s.length ≤ 200) (by omega), decide_eq_true hc.1.2, decide_eq_true (p := 2 ≤ (splitB s).length) (by omega)]; rfl
  rw [g]
  have hml : ((splitB s).drop 1).length = (splitB s).length - 1 := by simp
  have hle := splitB_le s
  have hpl : ∀ p, p ∈ (splitB s).drop 1 → okS p := fun p hp => by
    have := piece_le s p (List.mem_of_mem_drop hp)
    unfold okS; omega
  generalize (splitB s).drop 1 = m at *
  refine AWP.loopS (ι := Nat) (fun k => k ≤ m.length ∧ ∀ j, j < k → namedP (m.getD j []) = true) (fun k => m.length - k) [25, 26] (fun k => [(27, I k)]) 0 ?_ (by simp (disch := omega) only [go_sem, wrap_n, hml]) ?_
  · exact ⟨by omega, by omega⟩
  intro k ⟨hk, hk2⟩
  simp only [go_sem]
  have hpk : okS (m.getD k []) := by
    by_cases e : k < m.length
    · exact hpl _ (mem_getD m [] e)
    · rw [List.getD_eq_getElem?_getD, List.getElem?_eq_none (by omega)]; show okS []; unfold okS; decide
  (repeat' first
| (with_reducible refine AR.f ?_)
| refine blkA_x (by decide) ?_
| (with_reducible refine AWP.cond rfl ?_ ?_ <;> intro hc <;> (try simp only [hcs, beq_iff_eq, ge_iff_le, gt_iff_lt] at hc))
| ((first | ((first | (with_reducible first | refine zR ?_ | refine zQ (by decide +kernel) ?_ | refine zD (by decide +kernel) ?_ | refine zE (by decide +kernel) ?_ | refine zG (by decide +kernel) ?_)); intro K hK) | ((first | refine acallH_sc (ref_named_c _ hpk) rfl rfl ?_ ?_ ?_ | refine acallQ_sc (ref_named_c _ hpk) rfl rfl ?_ ?_ ?_); iterate 2 (focus ((try simp (disch := omega) only [go_sem, wrap_n, srow_rgetD, srow]) <;> (try omega) <;> fail))) | ((first | refine zN (ref_named_c _ hpk) rfl ?_ ?_); (focus ((try simp (disch := omega) only [go_sem, wrap_n, srow_rgetD, srow]) <;> (try omega) <;> fail))) | (first | ((first | refine zX (ref_named_c _ hpk) rfl ?_ ?_ | refine acallH_anyx (ref_named_c _ hpk) ?_ ?_); (focus ((try simp (disch := omega) only [go_sem, wrap_n, srow_rgetD, srow]) <;> (try omega) <;> fail)))) | ((first | (with_reducible refine aunder_i ?_ ?_ <;> intro hg) | with_reducible intro hg) <;> (first | (exfalso; simp at hg; done) | (have hg' := hg; (try simp only [hcs, beq_iff_eq, ge_iff_le, gt_iff_lt] at hg'); (try simp only [hg]))))) <;> (try simp (disch := omega) only [go_sem, wrap_n, srow_rgetD, srow]) <;> (repeat' with_reducible refine And.intro ?_ ?_) <;> (try (with_reducible refine hK _ ?_; clear hK K)))
| omega)
  · (refine zF rfl ?_ ?_ ?_ ?_; (iterate 3 (focus ((try simp (disch := omega) only [go_sem, wrap_n]) <;> (try omega) <;> fail))); (try simp (disch := omega) only [go_sem, wrap_n, I, B, S, inj, List.cons.injEq, and_true, true_and, and_self]))
    symm; exact all_not (d := []) (by omega : k < m.length) hc
  · refine ⟨k + 1, ⟨by omega, fun j hj => ?_⟩, by omega, ?_⟩
    · by_cases e : j = k
      · subst e; exact hc
      · exact hk2 j (by omega)
    (refine SImp.same ?_; simp (disch := omega) only [go_sem, wrap_n, Int.natCast_add])
  · (refine zF rfl ?_ ?_ ?_ ?_; (iterate 3 (focus ((try simp (disch := omega) only [go_sem, wrap_n]) <;> (try omega) <;> fail))); (try simp (disch := omega) only [go_sem, wrap_n, I, B, S, inj, List.cons.injEq, and_true, true_and, and_self]))
    symm; exact all_full namedP m [] fun j hj => hk2 j (by omega)
end Go.Proofs.YtmpfhalheaeibaaDoor
namespace Go.Proofs.YtmpfhalheaeibaaDoor
set_option linter.unusedVariables false
set_option linter.unusedSimpArgs false
open Go Go.RowKit
set_option maxRecDepth 100000
set_option linter.unusedSimpArgs false
end Go.Proofs.YtmpfhalheaeibaaDoor
namespace Go.Proofs.YtmpfhalheaeibaaDoor
set_option linter.unusedVariables false
set_option linter.unusedSimpArgs false
open Go Go.RowKit
set_option maxRecDepth 100000
set_option linter.unusedSimpArgs false
theorem goodP_len {s : List UInt8} (h : goodP s = true) : s.length ≤ 200 := by
  unfold goodP at h
  rw [Bool.or_eq_true, decide_eq_true_eq, Bool.and_eq_true, decide_eq_true_eq] at h
  rcases h with h | h
  · subst h; decide
  · exact h.1
theorem namedP_len {s : List UInt8} (h : namedP s = true) : s.length ≤ 40 := by
  unfold namedP at h
  rw [Bool.and_eq_true, Bool.and_eq_true, decide_eq_true_eq] at h
  have := h.2.2; omega
end Go.Proofs.YtmpfhalheaeibaaDoor
namespace Go.Proofs.YtmpfhalheaeibaaDoor
set_option linter.unusedVariables false
set_option linter.unusedSimpArgs false
open Go Go.RowKit
set_option maxRecDepth 100000
set_option linter.unusedSimpArgs false
def joinL : List (List UInt8) → List UInt8
  | [] => []
  | p :: ps => 47 :: (p ++ joinL ps)
def pathOf (ps : List (List UInt8)) : List UInt8 := if ps = [] then [47] else joinL ps
theorem joinL_app (a b : List (List UInt8)) : joinL (a ++ b) = joinL a ++ joinL b := by
  induction a with
  | nil => rfl
  | cons p a ih => simp [joinL, ih]
theorem splitB_47 (b : List UInt8) : splitB (47 :: b) = [] :: splitB b := by simp [splitB]
theorem splitB_other {c : UInt8} (h : ¬ c = 47) (r : List UInt8) : splitB (c :: r) = match splitB r with
    | p :: ps => (c :: p) :: ps
    | [] => [[c]] := by simp only [splitB, if_neg h] <;> (cases splitB r <;> rfl)
theorem splitB_app (a b : List UInt8) : splitB (a ++ 47 :: b) = splitB a ++ splitB b := by
  induction a with
  | nil => exact splitB_47 b
  | cons c a ih =>
    by_cases h : c = 47
    · subst h
      rw [List.cons_append, splitB_47, splitB_47, ih]; rfl
    · rw [List.cons_append, splitB_other h, splitB_other h, ih]
      cases hs : splitB a with
      | nil => exact absurd hs (splitB_ne a)
      | cons p ps => rfl
theorem splitB_no {p : List UInt8} (h : (47 : UInt8) ∉ p) : splitB p = [p] := by
  induction p with
  | nil => rfl
  | cons c p ih =>
    rw [List.mem_cons, not_or] at h
    rw [splitB_other (fun e => h.1 e.symm), ih h.2]
theorem splitB_join {p : List UInt8} {ps : List (List UInt8)} (hp : (47 : UInt8) ∉ p) (h : ∀ q, q ∈ ps → (47 : UInt8) ∉ q) : splitB (p ++ joinL ps) = p :: ps := by
  induction ps generalizing p with
  | nil => rw [joinL, List.append_nil, splitB_no hp]
  | cons q ps ih =>
    rw [joinL, splitB_app, splitB_no hp, ih (h q (by simp)) (fun x hx => h x (List.mem_cons_of_mem _ hx))]; rfl
theorem splitB_joinL {ps : List (List UInt8)} (h : ∀ q, q ∈ ps → (47 : UInt8) ∉ q) : splitB (joinL ps) = [] :: ps :=
  splitB_join (p := []) (by simp) h
theorem join_splitB : ∀ (r : List UInt8), ∃ q qs, splitB r = q :: qs ∧ r = q ++ joinL qs
  | [] => ⟨[], [], rfl, rfl⟩
  | c :: r => by
    obtain ⟨q, qs, e1, e2⟩ := join_splitB r
    by_cases h : c = 47
    · subst h
      exact ⟨[], q :: qs, by rw [splitB_47, e1], by rw [e2]; rfl⟩
    · refine ⟨c :: q, qs, ?_, by rw [e2]; rfl⟩
      rw [splitB_other h, e1]
theorem named_no {p : List UInt8} (h : namedP p = true) : (47 : UInt8) ∉ p := by
  intro hm
  unfold namedP at h
  rw [Bool.and_eq_true, List.all_eq_true] at h
  have := h.1 _ hm
  revert this; decide
def stepsOf (s : List UInt8) : List (List UInt8) := if s = [47] then [] else splitB (s.drop 1)
theorem good_path {s : List UInt8} (h : goodP s = true) : s = pathOf (stepsOf s) ∧ (∀ q, q ∈ stepsOf s → namedP q = true) ∧ s.length ≤ 200 ∧ ∀ q, q ∈ stepsOf s → (47 : UInt8) ∉ q := by
  have hl := goodP_len h
  have key : s = pathOf (stepsOf s) ∧ (∀ q, q ∈ stepsOf s → namedP q = true) := by
    unfold stepsOf
    by_cases h47 : s = [47]
    · rw [if_pos h47]
      exact ⟨by rw [h47]; rfl, by simp⟩
    · rw [if_neg h47]
      unfold goodP at h
      rw [decide_eq_false h47, Bool.false_or, Bool.and_eq_true, Bool.and_eq_true, decide_eq_true_eq, decide_eq_true_eq] at h
      obtain ⟨_, ⟨h1, h2⟩, h3⟩ := h
      cases s with
      | nil => simp at h1
      | cons c r =>
        have hc : c = 47 := by simpa using h2
        subst hc
        obtain ⟨q, qs, e1, e2⟩ := join_splitB r
        refine ⟨?_, fun x hx => ?_⟩
        · show 47 :: r = pathOf (splitB r)
          rw [e1]
          unfold pathOf
          rw [if_neg (by simp), joinL, ← e2]
        · unfold allNamed at h3
          exact List.all_eq_true.1 h3 x hx
  exact ⟨key.1, key.2, hl, fun q hq => named_no (key.2 q hq)⟩
theorem joinL_ne {ps : List (List UInt8)} (h : ps ≠ []) : joinL ps ≠ [] := by
  cases ps with
  | nil => exact absurd rfl h
  | cons p ps => simp [joinL]
theorem joinL_47 {ps : List (List UInt8)} (hn : ∀ q, q ∈ ps → namedP q = true) : joinL ps ≠ [47] := by
  cases ps with
  | nil => simp [joinL]
  | cons p ps =>
    intro h
    have hp := hn p (by simp)
    rw [joinL, List.cons.injEq] at h
    have h2 := List.append_eq_nil_iff.1 h.2
    rw [h2.1] at hp
    revert hp; decide
theorem pathOf_47 {ps : List (List UInt8)} (hn : ∀ q, q ∈ ps → namedP q = true) : pathOf ps = [47] ↔ ps = [] := by
  unfold pathOf
  split
  · rename_i h; exact iff_of_true rfl h
  · rename_i h; exact iff_of_false (joinL_47 hn) h
theorem steps_pathOf {ps : List (List UInt8)} (hn : ∀ q, q ∈ ps → namedP q = true) : stepsOf (pathOf ps) = ps := by
  unfold stepsOf
  split
  · rename_i h; exact ((pathOf_47 hn).1 h).symm
  · rename_i h
    have h0 : ps ≠ [] := fun e => h ((pathOf_47 hn).2 e)
    unfold pathOf
    rw [if_neg h0]
    cases ps with
    | nil => exact absurd rfl h0
    | cons p ps =>
      show splitB (p ++ joinL ps) = _
      exact splitB_join (named_no (hn p (by simp))) fun q hq => named_no (hn q (List.mem_cons_of_mem _ hq))
theorem splitB_pathOf {ps : List (List UInt8)} (h : ∀ q, q ∈ ps → namedP q = true) (h0 : ps ≠ []) : splitB (pathOf ps) = [] :: ps := by
  unfold pathOf
  rw [if_neg h0]
  exact splitB_joinL fun q hq => named_no (h q hq)
theorem good_pathOf {ps : List (List UInt8)} (hn : ∀ q, q ∈ ps → namedP q = true) (hl : (pathOf ps).length ≤ 200) : goodP (pathOf ps) = true := by
  unfold goodP
  by_cases h0 : ps = []
  · subst h0; rfl
  · have e := steps_pathOf hn
    unfold stepsOf at e
    rw [if_neg (fun h => h0 ((pathOf_47 hn).1 h))] at e
    rw [decide_eq_true hl, Bool.true_and]
    unfold allNamed
    rw [e, List.all_eq_true.2 hn, Bool.and_true, Bool.or_eq_true, decide_eq_true_eq]
    refine .inr ?_
    rw [decide_eq_true_eq]
    unfold pathOf
    rw [if_neg h0]
    cases ps with
    | nil => exact absurd rfl h0
    | cons p ps => simp [joinL]
theorem joinL_take (ps : List (List UInt8)) (k : Nat) : (joinL (ps.take k)).length ≤ (joinL ps).length := by
  have := joinL_app (ps.take k) (ps.drop k)
  rw [List.take_append_drop] at this
  rw [this, List.length_append]; omega
def splitP (s : List UInt8) : (List UInt8 × List UInt8) × Int := if goodP s = true then (if stepsOf s = [] then (([], []), 7) else ((pathOf ((stepsOf s).take ((stepsOf s).length - 1)), (stepsOf s).getD ((stepsOf s).length - 1) []), 0)) else (([], []), 2)
theorem split_bad {s : List UInt8} (h : ¬ goodP s = true) : splitP s = (([], []), 2) := by unfold splitP; rw [if_neg h]
theorem split_root : splitP [47] = (([], []), 7) := by rfl
theorem split_snoc {ps : List (List UInt8)} {p : List UInt8} (hn : ∀ q, q ∈ ps ++ [p] → namedP q = true) (hl : (pathOf (ps ++ [p])).length ≤ 200) : splitP (pathOf (ps ++ [p])) = ((pathOf ps, p), 0) := by
  unfold splitP
  rw [if_pos (good_pathOf hn hl), steps_pathOf hn, if_neg (by simp), List.length_append, List.length_singleton, Nat.add_sub_cancel, List.take_left']
  · simp
  · rfl
theorem good_cases {s : List UInt8} (h : goodP s = true) : s = [47] ∨ ∃ ps p, (∀ q, q ∈ ps ++ [p] → namedP q = true) ∧ s = pathOf (ps ++ [p]) ∧ (pathOf (ps ++ [p])).length ≤ 200 ∧ pathOf (ps ++ [p]) = joinL ps ++ 47 :: p := by
  obtain ⟨h1, h2, h3, h4⟩ := good_path h
  rcases List.eq_nil_or_concat (stepsOf s) with e | ⟨ps, p, e⟩
  · left; rw [h1, e]; rfl
  · right
    rw [List.concat_eq_append] at e
    rw [e] at h1 h2
    refine ⟨ps, p, h2, h1, by rw [← h1]; exact h3, ?_⟩
    unfold pathOf
    rw [if_neg (by simp), joinL_app]
    simp [joinL]
theorem len_cat (a b : List UInt8) (c : UInt8) : (a ++ c :: b).length = a.length + b.length + 1 := by simp; omega
theorem cat_get_lt (a b : List UInt8) (c d : UInt8) (j : Nat) (h : j < b.length) : (a ++ c :: b).getD (a.length + b.length - j) d = b.getD (b.length - 1 - j) d := by
  rw [List.getD_eq_getElem?_getD, List.getElem?_append_right (by omega), show a.length + b.length - j - a.length = (b.length - 1 - j) + 1 from by omega, List.getElem?_cons_succ, ← List.getD_eq_getElem?_getD]
theorem cat_get_eq (a b : List UInt8) (c d : UInt8) : (a ++ c :: b).getD a.length d = c := by
  rw [List.getD_eq_getElem?_getD, List.getElem?_append_right (by omega), Nat.sub_self]; rfl
theorem lastB_c (a b : List UInt8) (c : UInt8) (hc : c ∉ b) (hs : okS (a ++ c :: b)) : acall Tryd.prog [] 170 [S (a ++ c :: b), .d (.int .u8 c.toNat)] (ret (I a.length)) := by
  unfold okS at hs
  have hlen := len_cat a b c
  rw [hlen] at hs
  have hst : ((a.length + b.length + 1 : Nat) : Int) - 1 = ((a.length + b.length : Nat) : Int) := by omega
  refine acall_of tabOk Tryd.func170 rfl (by kernel_rfl) (by simp [Tryd.ntmps170]) ?_; simp only [Tryd.ntmps170, Tryd.results170, List.toList_toArray, apar, List.length_nil, List.length_cons, Nat.reduceAdd]
  (repeat' first
| (with_reducible refine AR.f ?_)
| refine blkA_x (by decide) ?_
| (with_reducible refine AWP.cond rfl ?_ ?_ <;> intro hc <;> (try simp only [hcs, beq_iff_eq, ge_iff_le, gt_iff_lt] at hc))
| ((first | ((first | (with_reducible first | refine zR ?_ | refine zQ (by decide +kernel) ?_ | refine zD (by decide +kernel) ?_ | refine zE (by decide +kernel) ?_ | refine zG (by decide +kernel) ?_)); intro K hK) | ((first | (with_reducible refine aunder_i ?_ ?_ <;> intro hg) | with_reducible intro hg) <;> (first | (exfalso; simp at hg; done) | (have hg' := hg; (try simp only [hcs, beq_iff_eq, ge_iff_le, gt_iff_lt] at hg'); (try simp only [hg]))))) <;> (try simp (disch := omega) only [go_sem, wrap_n, hlen]) <;> (repeat' with_reducible refine And.intro ?_ ?_) <;> (try (with_reducible refine hK _ ?_; clear hK K)))
| omega)
  refine AWP.loopS (ι := Nat) (fun j => j ≤ b.length) (fun j => b.length - j) [0, 1] (fun j => [(5, I ((a.length + b.length - j : Nat) : Int))]) 0 ?_ (by simp (disch := omega) only [go_sem, wrap_n, hst, Nat.sub_zero]) ?_
  · omega
  intro j hj
  simp only [go_sem]
  (repeat' first
| (with_reducible refine AR.f ?_)
| refine blkA_x (by decide) ?_
| (with_reducible refine AWP.cond rfl ?_ ?_ <;> intro hc <;> (try simp only [hcs, beq_iff_eq, ge_iff_le, gt_iff_lt] at hc))
| ((first | ((first | (with_reducible first | refine zR ?_ | refine zQ (by decide +kernel) ?_ | refine zD (by decide +kernel) ?_ | refine zE (by decide +kernel) ?_ | refine zG (by decide +kernel) ?_)); intro K hK) | ((first | (with_reducible refine aunder_i ?_ ?_ <;> intro hg) | with_reducible intro hg) <;> (first | (exfalso; simp at hg; done) | (have hg' := hg; (try simp only [hcs, beq_iff_eq, ge_iff_le, gt_iff_lt] at hg'); (try simp only [hg]))))) <;> (try simp (disch := omega) only [go_sem, wrap_n, hlen]) <;> (repeat' with_reducible refine And.intro ?_ ?_) <;> (try (with_reducible refine hK _ ?_; clear hK K)))
| omega)
  · by_cases e : j = b.length
    · subst e
      (refine zF rfl ?_ ?_ ?_ ?_; (iterate 3 (focus ((try simp (disch := omega) only [go_sem, wrap_n, Nat.add_sub_cancel]) <;> (try omega) <;> fail))); (try simp (disch := omega) only [go_sem, wrap_n, Nat.add_sub_cancel, I, B, S, inj, List.cons.injEq, and_true, true_and, and_self]))
    · have hlt : j < b.length := by omega
      rw [cat_get_lt a b c 0 j hlt] at hc
      exfalso
      have hb : b.getD (b.length - 1 - j) 0 = c := UInt8.toNat.inj (Int.ofNat_inj.1 hc)
      rw [List.getD_eq_getElem?_getD, List.getElem?_eq_getElem (by omega)] at hb
      have hin := List.getElem_mem (l := b) (n := b.length - 1 - j) (by omega)
      rw [show b[b.length - 1 - j] = c from hb] at hin
      exact absurd hin (by assumption)
  · by_cases e : j = b.length
    · subst e
      exfalso
      rw [Nat.add_sub_cancel, cat_get_eq] at hc
      exact hc rfl
    · refine ⟨j + 1, by omega, by omega, ?_⟩
      have e1 : ((a.length + b.length - (j + 1) : Nat) : Int) = ((a.length + b.length - j : Nat) : Int) - 1 := by omega
      rw [e1]
      (refine SImp.same ?_; simp (disch := omega) only [go_sem, wrap_n, Int.natCast_add])
  all_goals (exfalso; omega)
theorem lastIndex_c (a b : List UInt8) (c : UInt8) (hc : c ∉ b) (hs : okS (a ++ c :: b)) : acall Tryd.prog [] 141 [S (a ++ c :: b), .d (.int .u8 c.toNat)] (ret (I a.length)) := by
  refine acall_of tabOk Tryd.func141 rfl (by kernel_rfl) (by simp [Tryd.ntmps141]) ?_; simp only [Tryd.ntmps141, Tryd.results141, List.toList_toArray, apar, List.length_nil, List.length_cons, Nat.reduceAdd]
  (repeat' first
| (with_reducible refine AR.f ?_)
| refine blkA_x (by decide) ?_
| (with_reducible refine AWP.cond rfl ?_ ?_ <;> intro hc <;> (try simp only [hcs, beq_iff_eq, ge_iff_le, gt_iff_lt] at hc))
| ((first | ((first | (with_reducible first | refine zR ?_ | refine zQ (by decide +kernel) ?_ | refine zD (by decide +kernel) ?_ | refine zE (by decide +kernel) ?_ | refine zG (by decide +kernel) ?_)); intro K hK) | ((first | refine zA (lastB_c a b c hc hs) ?_ ?_ ?_ ?_ ?_); (focus exact rfl); (focus exact rfl); iterate 2 (focus ((try simp (disch := omega) only [go_sem, wrap_n]) <;> (try omega) <;> fail))) | ((first | refine zN (lastB_c a b c hc hs) rfl ?_ ?_); (focus ((try simp (disch := omega) only [go_sem, wrap_n]) <;> (try omega) <;> fail))) | (first | ((first | refine zX (lastB_c a b c hc hs) rfl ?_ ?_ | refine acallH_anyx (lastB_c a b c hc hs) ?_ ?_); (focus ((try simp (disch := omega) only [go_sem, wrap_n]) <;> (try omega) <;> fail)))) | ((first | (with_reducible refine aunder_i ?_ ?_ <;> intro hg) | with_reducible intro hg) <;> (first | (exfalso; simp at hg; done) | (have hg' := hg; (try simp only [hcs, beq_iff_eq, ge_iff_le, gt_iff_lt] at hg'); (try simp only [hg]))))) <;> (try simp (disch := omega) only [go_sem, wrap_n]) <;> (repeat' with_reducible refine And.intro ?_ ?_) <;> (try (with_reducible refine hK _ ?_; clear hK K)))
| omega)
  (refine zF rfl ?_ ?_ ?_ ?_; (iterate 3 (focus ((try simp (disch := omega) only [go_sem, wrap_n]) <;> (try omega) <;> fail))); (try simp (disch := omega) only [go_sem, wrap_n, I, B, S, inj, List.cons.injEq, and_true, true_and, and_self]))
theorem split_c (s : List UInt8) (hs : okS s) : acall Tryd.prog [] 91 [S s] (ret (.tup [S (splitP s).1.1, S (splitP s).1.2, I (splitP s).2])) := by
  by_cases h : goodP s = true
  case neg =>
    rw [split_bad h]
    refine acall_of tabOk Tryd.func91 rfl (by kernel_rfl) (by simp [Tryd.ntmps91]) ?_; simp only [Tryd.ntmps91, Tryd.results91, List.toList_toArray, apar, List.length_nil, List.length_cons, Nat.reduceAdd]
    (repeat' first
  | (with_reducible refine AR.f ?_)
  | refine blkA_x (by decide) ?_
  | (with_reducible refine AWP.cond rfl ?_ ?_ <;> intro hc <;> (try simp only [hcs, beq_iff_eq, ge_iff_le, gt_iff_lt] at hc))
  | ((first | ((first | (with_reducible first | refine zR ?_ | refine zQ (by decide +kernel) ?_ | refine zD (by decide +kernel) ?_ | refine zE (by decide +kernel) ?_ | refine zG (by decide +kernel) ?_)); intro K hK) | ((first | refine zA ((good_c s hs).re (congrArg B (eq_false_of_ne_true h))) ?_ ?_ ?_ ?_ ?_); (focus exact rfl); (focus exact rfl); iterate 2 (focus ((try simp (disch := omega) only [go_sem, wrap_n]) <;> (try omega) <;> fail))) | ((first | refine zN ((good_c s hs).re (congrArg B (eq_false_of_ne_true h))) rfl ?_ ?_); (focus ((try simp (disch := omega) only [go_sem, wrap_n]) <;> (try omega) <;> fail))) | (first | ((first | refine zX ((good_c s hs).re (congrArg B (eq_false_of_ne_true h))) rfl ?_ ?_ | refine acallH_anyx ((good_c s hs).re (congrArg B (eq_false_of_ne_true h))) ?_ ?_); (focus ((try simp (disch := omega) only [go_sem, wrap_n]) <;> (try omega) <;> fail)))) | ((first | (with_reducible refine aunder_i ?_ ?_ <;> intro hg) | with_reducible intro hg) <;> (first | (exfalso; simp at hg; done) | (have hg' := hg; (try simp only [hcs, beq_iff_eq, ge_iff_le, gt_iff_lt] at hg'); (try simp only [hg]))))) <;> (try simp (disch := omega) only [go_sem, wrap_n]) <;> (repeat' with_reducible refine And.intro ?_ ?_) <;> (try (with_reducible refine hK _ ?_; clear hK K)))
  | omega)
    (refine zF rfl ?_ ?_ ?_ ?_; (iterate 3 (focus ((try simp (disch := omega) only [go_sem, wrap_n]) <;> (try omega) <;> fail))); (try simp (disch := omega) only [go_sem, wrap_n, I, B, S, inj, List.cons.injEq, and_true, true_and, and_self]))
  rcases good_cases h with rfl | ⟨ps, p, hn, e, hl, hj⟩
  · rw [split_root]
    refine acall_of tabOk Tryd.func91 rfl (by kernel_rfl) (by simp [Tryd.ntmps91]) ?_; simp only [Tryd.ntmps91, Tryd.results91, List.toList_toArray, apar, List.length_nil, List.length_cons, Nat.reduceAdd]
    (repeat' first
  | (with_reducible refine AR.f ?_)
  | refine blkA_x (by decide) ?_
  | (with_reducible refine AWP.cond rfl ?_ ?_ <;> intro hc <;> (try simp only [hcs, beq_iff_eq, ge_iff_le, gt_iff_lt] at hc))
  | ((first | ((first | (with_reducible first | refine zR ?_ | refine zQ (by decide +kernel) ?_ | refine zD (by decide +kernel) ?_ | refine zE (by decide +kernel) ?_ | refine zG (by decide +kernel) ?_)); intro K hK) | ((first | refine zA ((good_c [47] hs).re (congrArg B h)) ?_ ?_ ?_ ?_ ?_); (focus exact rfl); (focus exact rfl); iterate 2 (focus ((try simp (disch := omega) only [go_sem, wrap_n]) <;> (try omega) <;> fail))) | ((first | refine zN ((good_c [47] hs).re (congrArg B h)) rfl ?_ ?_); (focus ((try simp (disch := omega) only [go_sem, wrap_n]) <;> (try omega) <;> fail))) | (first | ((first | refine zX ((good_c [47] hs).re (congrArg B h)) rfl ?_ ?_ | refine acallH_anyx ((good_c [47] hs).re (congrArg B h)) ?_ ?_); (focus ((try simp (disch := omega) only [go_sem, wrap_n]) <;> (try omega) <;> fail)))) | ((first | (with_reducible refine aunder_i ?_ ?_ <;> intro hg) | with_reducible intro hg) <;> (first | (exfalso; simp at hg; done) | (have hg' := hg; (try simp only [hcs, beq_iff_eq, ge_iff_le, gt_iff_lt] at hg'); (try simp only [hg]))))) <;> (try simp (disch := omega) only [go_sem, wrap_n]) <;> (repeat' with_reducible refine And.intro ?_ ?_) <;> (try (with_reducible refine hK _ ?_; clear hK K)))
  | omega)
    (refine zF rfl ?_ ?_ ?_ ?_; (iterate 3 (focus ((try simp (disch := omega) only [go_sem, wrap_n]) <;> (try omega) <;> fail))); (try simp (disch := omega) only [go_sem, wrap_n, I, B, S, inj, List.cons.injEq, and_true, true_and, and_self]))
  have hsp := split_snoc hn hl
  rw [← e] at hsp hl
  rw [hsp]
  rw [hj] at e
  have hp := named_no (hn p (by simp))
  have hlen := len_cat (joinL ps) p 47
  rw [← e] at hlen
  have hp0 : p ≠ [] := fun h1 => by
    have := hn p (by simp)
    rw [h1] at this; revert this; decide
  have hpl := List.length_pos_iff.2 hp0
  have h47 : ¬ s = [47] := fun h0 => by
    rw [h0, List.length_singleton] at hlen; omega
  have hlast : acall Tryd.prog [] 141 [S (joinL ps ++ 47 :: p), .d (.int .u8 47)] (ret (I (joinL ps).length)) := lastIndex_c (joinL ps) p 47 hp (by rw [← e]; exact hs)
  rw [← e] at hlast
  refine acall_of tabOk Tryd.func91 rfl (by kernel_rfl) (by simp [Tryd.ntmps91]) ?_; simp only [Tryd.ntmps91, Tryd.results91, List.toList_toArray, apar, List.length_nil, List.length_cons, Nat.reduceAdd]
  (repeat' first
| (with_reducible refine AR.f ?_)
| refine blkA_x (by decide) ?_
| (with_reducible refine AWP.cond rfl ?_ ?_ <;> intro hc <;> (try simp only [hcs, beq_iff_eq, ge_iff_le, gt_iff_lt] at hc))
| ((first | ((first | (with_reducible first | refine zR ?_ | refine zQ (by decide +kernel) ?_ | refine zD (by decide +kernel) ?_ | refine zE (by decide +kernel) ?_ | refine zG (by decide +kernel) ?_)); intro K hK) | ((first | refine zA ((good_c s hs).re (congrArg B h)) ?_ ?_ ?_ ?_ ?_ | refine zA hlast ?_ ?_ ?_ ?_ ?_); (focus exact rfl); (focus exact rfl); iterate 2 (focus ((try simp (disch := omega) only [go_sem, wrap_n, h47]) <;> (try omega) <;> fail))) | ((first | refine zN ((good_c s hs).re (congrArg B h)) rfl ?_ ?_ | refine zN hlast rfl ?_ ?_); (focus ((try simp (disch := omega) only [go_sem, wrap_n, h47]) <;> (try omega) <;> fail))) | (first | ((first | refine zX ((good_c s hs).re (congrArg B h)) rfl ?_ ?_ | refine acallH_anyx ((good_c s hs).re (congrArg B h)) ?_ ?_); (focus ((try simp (disch := omega) only [go_sem, wrap_n, h47]) <;> (try omega) <;> fail))) | ((first | refine zX hlast rfl ?_ ?_ | refine acallH_anyx hlast ?_ ?_); (focus ((try simp (disch := omega) only [go_sem, wrap_n, h47]) <;> (try omega) <;> fail)))) | ((first | (with_reducible refine aunder_i ?_ ?_ <;> intro hg) | with_reducible intro hg) <;> (first | (exfalso; simp at hg; done) | (have hg' := hg; (try simp only [hcs, beq_iff_eq, ge_iff_le, gt_iff_lt] at hg'); (try simp only [hg]))))) <;> (try simp (disch := omega) only [go_sem, wrap_n, h47]) <;> (repeat' with_reducible refine And.intro ?_ ?_) <;> (try (with_reducible refine hK _ ?_; clear hK K)))
| omega)
  · have e0 : joinL ps = [] := List.eq_nil_of_length_eq_zero hc
    have eps : ps = [] := Decidable.byContradiction fun h => joinL_ne h e0
    have e1 : List.take (s.length - 1) (List.drop 1 s) = p := by
      rw [List.take_of_length_le (by simp), e, e0]; rfl
    have e2 : pathOf ps = [47] := by rw [eps]; rfl
    rw [e2]
    (refine zF rfl ?_ ?_ ?_ ?_; (iterate 3 (focus ((try simp (disch := omega) only [go_sem, wrap_n, e1]) <;> (try omega) <;> fail))); (try simp (disch := omega) only [go_sem, wrap_n, e1, I, B, S, inj, List.cons.injEq, and_true, true_and, and_self]))
  · have eps : ps ≠ [] := fun h => hc (by rw [h]; rfl)
    have e1 : List.take (s.length - ((joinL ps).length + 1)) (List.drop ((joinL ps).length + 1) s) = p := by
      rw [List.take_of_length_le (by simp), e, ← List.drop_drop, List.drop_left]; rfl
    have e2 : pathOf ps = joinL ps := by unfold pathOf; rw [if_neg eps]
    have e3 : List.take (joinL ps).length s = joinL ps := by rw [e, List.take_left]
    have e4 : (((joinL ps).length : Int) + 1).toNat = (joinL ps).length + 1 := by omega
    rw [e2]
    (refine zF rfl ?_ ?_ ?_ ?_; (iterate 3 (focus ((try simp (disch := omega) only [go_sem, wrap_n, e4, e1, e3, Nat.sub_zero]) <;> (try omega) <;> fail))); (try simp (disch := omega) only [go_sem, wrap_n, e4, e1, e3, Nat.sub_zero, I, B, S, inj, List.cons.injEq, and_true, true_and, and_self]))
theorem joinL_snoc (ps : List (List UInt8)) (p : List UInt8) : joinL (ps ++ [p]) = joinL ps ++ 47 :: p := by
  rw [joinL_app]; simp [joinL]
theorem ref_split_c (s : List UInt8) (hs : s.length ≤ 1048576) : acall Tryd.prog [] 88 [S s] (ret (.tup [S (splitP s).1.1, S (splitP s).1.2, I (splitP s).2])) := by
  by_cases h : goodP s = true
  case neg =>
    rw [split_bad h]
    refine acall_of tabOk Tryd.func88 rfl (by kernel_rfl) (by simp [Tryd.ntmps88]) ?_; simp only [Tryd.ntmps88, Tryd.results88, List.toList_toArray, apar, List.length_nil, List.length_cons, Nat.reduceAdd]
    (repeat' first
  | (with_reducible refine AR.f ?_)
  | refine blkA_x (by decide) ?_
  | (with_reducible refine AWP.cond rfl ?_ ?_ <;> intro hc <;> (try simp only [hcs, beq_iff_eq, ge_iff_le, gt_iff_lt] at hc))
  | ((first | ((first | (with_reducible first | refine zR ?_ | refine zQ (by decide +kernel) ?_ | refine zD (by decide +kernel) ?_ | refine zE (by decide +kernel) ?_ | refine zG (by decide +kernel) ?_)); intro K hK) | ((first | refine zA ((ref_good_c s hs).re (congrArg B (eq_false_of_ne_true h))) ?_ ?_ ?_ ?_ ?_); (focus exact rfl); (focus exact rfl); iterate 2 (focus ((try simp (disch := omega) only [go_sem, wrap_n]) <;> (try omega) <;> fail))) | ((first | refine zN ((ref_good_c s hs).re (congrArg B (eq_false_of_ne_true h))) rfl ?_ ?_); (focus ((try simp (disch := omega) only [go_sem, wrap_n]) <;> (try omega) <;> fail))) | (first | ((first | refine zX ((ref_good_c s hs).re (congrArg B (eq_false_of_ne_true h))) rfl ?_ ?_ | refine acallH_anyx ((ref_good_c s hs).re (congrArg B (eq_false_of_ne_true h))) ?_ ?_); (focus ((try simp (disch := omega) only [go_sem, wrap_n]) <;> (try omega) <;> fail)))) | ((first | (with_reducible refine aunder_i ?_ ?_ <;> intro hg) | with_reducible intro hg) <;> (first | (exfalso; simp at hg; done) | (have hg' := hg; (try simp only [hcs, beq_iff_eq, ge_iff_le, gt_iff_lt] at hg'); (try simp only [hg]))))) <;> (try simp (disch := omega) only [go_sem, wrap_n]) <;> (repeat' with_reducible refine And.intro ?_ ?_) <;> (try (with_reducible refine hK _ ?_; clear hK K)))
  | omega)
    (refine zF rfl ?_ ?_ ?_ ?_; (iterate 3 (focus ((try simp (disch := omega) only [go_sem, wrap_n]) <;> (try omega) <;> fail))); (try simp (disch := omega) only [go_sem, wrap_n, I, B, S, inj, List.cons.injEq, and_true, true_and, and_self]))
  rcases good_cases h with rfl | ⟨ps, p, hn, e, hl, hj⟩
  · rw [split_root]
    refine acall_of tabOk Tryd.func88 rfl (by kernel_rfl) (by simp [Tryd.ntmps88]) ?_; simp only [Tryd.ntmps88, Tryd.results88, List.toList_toArray, apar, List.length_nil, List.length_cons, Nat.reduceAdd]
    (repeat' first
  | (with_reducible refine AR.f ?_)
  | refine blkA_x (by decide) ?_
  | (with_reducible refine AWP.cond rfl ?_ ?_ <;> intro hc <;> (try simp only [hcs, beq_iff_eq, ge_iff_le, gt_iff_lt] at hc))
  | ((first | ((first | (with_reducible first | refine zR ?_ | refine zQ (by decide +kernel) ?_ | refine zD (by decide +kernel) ?_ | refine zE (by decide +kernel) ?_ | refine zG (by decide +kernel) ?_)); intro K hK) | ((first | refine zA ((ref_good_c [47] hs).re (congrArg B h)) ?_ ?_ ?_ ?_ ?_); (focus exact rfl); (focus exact rfl); iterate 2 (focus ((try simp (disch := omega) only [go_sem, wrap_n]) <;> (try omega) <;> fail))) | ((first | refine zN ((ref_good_c [47] hs).re (congrArg B h)) rfl ?_ ?_); (focus ((try simp (disch := omega) only [go_sem, wrap_n]) <;> (try omega) <;> fail))) | (first | ((first | refine zX ((ref_good_c [47] hs).re (congrArg B h)) rfl ?_ ?_ | refine acallH_anyx ((ref_good_c [47] hs).re (congrArg B h)) ?_ ?_); (focus ((try simp (disch := omega) only [go_sem, wrap_n]) <;> (try omega) <;> fail)))) | ((first | (with_reducible refine aunder_i ?_ ?_ <;> intro hg) | with_reducible intro hg) <;> (first | (exfalso; simp at hg; done) | (have hg' := hg; (try simp only [hcs, beq_iff_eq, ge_iff_le, gt_iff_lt] at hg'); (try simp only [hg]))))) <;> (try simp (disch := omega) only [go_sem, wrap_n]) <;> (repeat' with_reducible refine And.intro ?_ ?_) <;> (try (with_reducible refine hK _ ?_; clear hK K)))
  | omega)
    (refine zF rfl ?_ ?_ ?_ ?_; (iterate 3 (focus ((try simp (disch := omega) only [go_sem, wrap_n]) <;> (try omega) <;> fail))); (try simp (disch := omega) only [go_sem, wrap_n, I, B, S, inj, List.cons.injEq, and_true, true_and, and_self]))
  have hsp := split_snoc hn hl
  have hpieces := splitB_pathOf hn (by simp)
  rw [← e] at hsp hl hpieces
  rw [hsp]
  rw [hj] at e
  have hn47 : ¬ s = [47] := fun h0 => by
    rw [h0] at hpieces
    have h2 := hn p (by simp)
    have h3 : ps ++ [p] = [[]] := by
      have : splitB [47] = [[], []] := rfl
      rw [this, List.cons.injEq] at hpieces
      exact hpieces.2.symm
    have h4 : p ∈ ps ++ [p] := by simp
    rw [h3, List.mem_singleton] at h4
    rw [h4] at h2; revert h2; decide
  have hst := (steps_c s hs).re (by rw [hpieces])
  have hjl : (joinL ps).length ≤ 200 := by
    have := len_cat (joinL ps) p 47
    rw [← e] at this; omega
  have hpl : ps.length + 1 ≤ 201 := by
    have := splitB_le s
    rw [hpieces] at this
    simp at this; omega
  have en : ((ps.length + 1 + 1 : Nat) : Int) - 1 = ((ps.length + 1 : Nat) : Int) := by omega
  have em : min ps.length (ps.length + 1) = ps.length := by omega
  have etk : List.take ps.length (List.map srow (ps ++ [p])) = List.map srow ps := by simp
  have eg : ([DV.str []] :: List.map srow (ps ++ [p])).getD (ps.length + 1) [] = srow p := by
    rw [List.getD_eq_getElem?_getD, List.getElem?_cons_succ, List.map_append, List.getElem?_append_right (by simp)]; simp
  refine acall_of tabOk Tryd.func88 rfl (by kernel_rfl) (by simp [Tryd.ntmps88]) ?_; simp only [Tryd.ntmps88, Tryd.results88, List.toList_toArray, apar, List.length_nil, List.length_cons, Nat.reduceAdd]
  (repeat' first
| (with_reducible refine AR.f ?_)
| refine blkA_x (by decide) ?_
| (with_reducible refine AWP.cond rfl ?_ ?_ <;> intro hc <;> (try simp only [hcs, beq_iff_eq, ge_iff_le, gt_iff_lt] at hc))
| ((first | ((first | (with_reducible first | refine zR ?_ | refine zQ (by decide +kernel) ?_ | refine zD (by decide +kernel) ?_ | refine zE (by decide +kernel) ?_ | refine zG (by decide +kernel) ?_)); intro K hK) | ((first | refine zA ((ref_good_c s hs).re (congrArg B h)) ?_ ?_ ?_ ?_ ?_ | refine zA hst ?_ ?_ ?_ ?_ ?_); (focus exact rfl); (focus exact rfl); iterate 2 (focus ((try simp (disch := omega) only [go_sem, wrap_n, hn47, en, em, etk, eg, Nat.add_sub_cancel]) <;> (try omega) <;> fail))) | ((first | refine zN ((ref_good_c s hs).re (congrArg B h)) rfl ?_ ?_ | refine zN hst rfl ?_ ?_); (focus ((try simp (disch := omega) only [go_sem, wrap_n, hn47, en, em, etk, eg, Nat.add_sub_cancel]) <;> (try omega) <;> fail))) | (first | ((first | refine zX ((ref_good_c s hs).re (congrArg B h)) rfl ?_ ?_ | refine acallH_anyx ((ref_good_c s hs).re (congrArg B h)) ?_ ?_); (focus ((try simp (disch := omega) only [go_sem, wrap_n, hn47, en, em, etk, eg, Nat.add_sub_cancel]) <;> (try omega) <;> fail))) | ((first | refine zX hst rfl ?_ ?_ | refine acallH_anyx hst ?_ ?_); (focus ((try simp (disch := omega) only [go_sem, wrap_n, hn47, en, em, etk, eg, Nat.add_sub_cancel]) <;> (try omega) <;> fail)))) | ((first | (with_reducible refine aunder_i ?_ ?_ <;> intro hg) | with_reducible intro hg) <;> (first | (exfalso; simp at hg; done) | (have hg' := hg; (try simp only [hcs, beq_iff_eq, ge_iff_le, gt_iff_lt] at hg'); (try simp only [hg]))))) <;> (try simp (disch := omega) only [go_sem, wrap_n, hn47, en, em, etk, eg, Nat.add_sub_cancel]) <;> (repeat' with_reducible refine And.intro ?_ ?_) <;> (try (with_reducible refine hK _ ?_; clear hK K)))
| omega)
  refine AWP.loopS (ι := Nat) (fun k => k ≤ ps.length) (fun k => ps.length - k) [5, 6, 22, 23] (fun k => [(7, S (joinL (ps.take k))), (24, I k)]) 0 ?_ (by simp (disch := omega) only [go_sem, wrap_n, joinL]) ?_
  · omega
  intro k hk
  have hkl := joinL_take ps k
  have hgk : (ps.getD k []).length ≤ 40 := by
    by_cases hk2 : k < ps.length
    · exact namedP_len (hn _ (List.mem_append_left _ (mem_getD ps [] hk2)))
    · rw [List.getD_eq_getElem?_getD, List.getElem?_eq_none (by omega)]; exact Nat.zero_le _
  have egd : (ps ++ [p]).getD ps.length default = p := by
    rw [List.getD_eq_getElem?_getD, List.getElem?_append_right (Nat.le_refl _), Nat.sub_self]; rfl
  simp only [go_sem]
  (repeat' first
| (with_reducible refine AR.f ?_)
| refine blkA_x (by decide) ?_
| (with_reducible refine AWP.cond rfl ?_ ?_ <;> intro hc <;> (try simp only [hcs, beq_iff_eq, ge_iff_le, gt_iff_lt] at hc))
| ((first | ((first | (with_reducible first | refine zR ?_ | refine zQ (by decide +kernel) ?_ | refine zD (by decide +kernel) ?_ | refine zE (by decide +kernel) ?_ | refine zG (by decide +kernel) ?_)); intro K hK) | ((first | (with_reducible refine aunder_i ?_ ?_ <;> intro hg) | with_reducible intro hg) <;> (first | (exfalso; simp at hg; done) | (have hg' := hg; (try simp only [hcs, beq_iff_eq, ge_iff_le, gt_iff_lt] at hg'); (try simp only [hg]))))) <;> (try simp (disch := omega) only [go_sem, wrap_n, srow_rgetD, srow, en, eg]) <;> (repeat' with_reducible refine And.intro ?_ ?_) <;> (try (with_reducible refine hK _ ?_; clear hK K)))
| omega)
  · refine ⟨k + 1, by omega, by omega, ?_⟩
    have ets : ps.take (k + 1) = ps.take k ++ [ps.getD k []] := take_snoc ps k (by assumption)
    rw [ets, joinL_snoc]
    (refine SImp.same ?_; simp (disch := omega) only [go_sem, wrap_n, Int.natCast_add])
  · have ek : k = ps.length := by omega
    rw [ek, List.take_length] at hc
    have eps : ps = [] := Decidable.byContradiction fun h => joinL_ne h hc
    have e2 : pathOf ps = [47] := by rw [eps]; rfl
    rw [e2]
    (refine zF rfl ?_ ?_ ?_ ?_; (iterate 3 (focus ((try simp (disch := omega) only [go_sem, wrap_n, egd]) <;> (try omega) <;> fail))); (try simp (disch := omega) only [go_sem, wrap_n, egd, I, B, S, inj, List.cons.injEq, and_true, true_and, and_self]))
  · have ek : k = ps.length := by omega
    subst ek
    rw [List.take_length] at *
    have eps : ps ≠ [] := fun h => hc (by rw [h]; rfl)
    have e2 : pathOf ps = joinL ps := by unfold pathOf; rw [if_neg eps]
    rw [e2]
    (refine zF rfl ?_ ?_ ?_ ?_; (iterate 3 (focus ((try simp (disch := omega) only [go_sem, wrap_n, egd]) <;> (try omega) <;> fail))); (try simp (disch := omega) only [go_sem, wrap_n, egd, I, B, S, inj, List.cons.injEq, and_true, true_and, and_self]))
/-! Depth. -/
end Go.Proofs.YtmpfhalheaeibaaDoor
namespace Go.Proofs.YtmpfhalheaeibaaDoor
set_option linter.unusedVariables false
set_option linter.unusedSimpArgs false
open Go Go.RowKit
set_option maxRecDepth 100000
set_option linter.unusedSimpArgs false
def badZ (e c : Int) : Prop := e < 0 ∨ 2147483647 < e ∨ c < 0 ∨ 2147483647 < c
instance (e c : Int) : Decidable (badZ e c) := by unfold badZ; infer_instance
def two (p : Int × Int) : AV := .tup [I p.1, I p.2]
def goodZ (z : Int) : Prop := 0 ≤ z ∧ z < 4611686018427387904
instance (z : Int) : Decidable (goodZ z) := by unfold goodZ; infer_instance
theorem zgood_c (z : Int) : acall Tryd.prog [] 89 [I z] (ret (B (decide (goodZ z)))) := by
  refine acall_of tabOk Tryd.func89 rfl (by kernel_rfl) (by simp [Tryd.ntmps89]) ?_; simp only [Tryd.ntmps89, Tryd.results89, List.toList_toArray, apar, List.length_nil, List.length_cons, Nat.reduceAdd]
  repeat' first
    | with_reducible refine AWP.seq ?_
    | with_reducible refine thenA_n ?_
    | with_reducible refine thenA_r ?_
    | with_reducible refine thenA_e ?_
    | with_reducible refine blkA_n ?_
    | with_reducible refine blkA_r ?_
    | with_reducible refine blkA_e ?_
    | with_reducible refine blkA_x (by decide) ?_
    | with_reducible refine AWP.skip ?_
    | with_reducible refine AWP.ret ?_
    | with_reducible refine AWP.exit ?_
    | with_reducible refine AWP.block ?_
    | (with_reducible refine AWP.cond rfl ?_ ?_ <;> intro _)
    | (with_reducible refine AWP.region tabOk ?_; intro K hK; simp only [go_sem, ↓reduceIte, reduceCtorEq, Nat.reduceAdd, Nat.reduceSub, Nat.reduceMul, Nat.reducePow, Nat.reduceDiv, Nat.reduceMod, Nat.reduceLT, Nat.reduceLeDiff, Nat.reduceEqDiff, Nat.reduceBEq, Int.reduceToNat, Int.reduceLT, Int.reduceLE, Int.reduceAdd, Int.reduceSub, Int.reduceMul, Int.reducePow, Int.reduceNeg, Int.reduceEq, Int.toNat_natCast, Int.cast_ofNat_Int, Bool.not_eq_true', Bool.not_eq_false', ge_iff_le, gt_iff_lt, ne_eq, not_false_eq_true, not_true_eq_false, Nat.one_ne_zero, beq_self_eq_true, Bool.bne_false, Nat.zero_add, true_and]; (repeat' with_reducible apply And.intro) <;> (try (with_reducible refine hK _ ?_; clear hK K)))
    | (with_reducible refine AWP.quiet mixed tabOk (by kernel_rfl) ?_; intro K hK; simp only [go_sem, ↓reduceIte, reduceCtorEq, Nat.reduceAdd, Nat.reduceSub, Nat.reduceMul, Nat.reducePow, Nat.reduceDiv, Nat.reduceMod, Nat.reduceLT, Nat.reduceLeDiff, Nat.reduceEqDiff, Nat.reduceBEq, Int.reduceToNat, Int.reduceLT, Int.reduceLE, Int.reduceAdd, Int.reduceSub, Int.reduceMul, Int.reducePow, Int.reduceNeg, Int.reduceEq, Int.toNat_natCast, Int.cast_ofNat_Int, Bool.not_eq_true', Bool.not_eq_false', ge_iff_le, gt_iff_lt, ne_eq, not_false_eq_true, not_true_eq_false, Nat.one_ne_zero, beq_self_eq_true, Bool.bne_false, Nat.zero_add, true_and]; (repeat' with_reducible apply And.intro) <;> (try (with_reducible refine hK _ ?_; clear hK K)))
    | (intro hg; first | (exfalso; simp at hg; done) | ((try simp only [hg, go_sem, ↓reduceIte, reduceCtorEq, Nat.reduceAdd, Nat.reduceSub, Nat.reduceMul, Nat.reducePow, Nat.reduceDiv, Nat.reduceMod, Nat.reduceLT, Nat.reduceLeDiff, Nat.reduceEqDiff, Nat.reduceBEq, Int.reduceToNat, Int.reduceLT, Int.reduceLE, Int.reduceAdd, Int.reduceSub, Int.reduceMul, Int.reducePow, Int.reduceNeg, Int.reduceEq, Int.toNat_natCast, Int.cast_ofNat_Int, Bool.not_eq_true', Bool.not_eq_false', ge_iff_le, gt_iff_lt, ne_eq, not_false_eq_true, not_true_eq_false, Nat.one_ne_zero, beq_self_eq_true, Bool.bne_false, Nat.zero_add, true_and]) <;> (repeat' with_reducible refine And.intro ?_ ?_) <;> (try (with_reducible refine hK _ ?_; clear hK K))))
    | omega
  all_goals try (refine aend_ret ?_ rfl ?_ ?_ ?_ ?_; (focus (first | exact .inl rfl | exact .inr rfl)); (focus (simp only [go_sem, ↓reduceIte, reduceCtorEq, Nat.reduceAdd, Nat.reduceSub, Nat.reduceMul, Nat.reducePow, Nat.reduceDiv, Nat.reduceMod, Nat.reduceLT, Nat.reduceLeDiff, Nat.reduceEqDiff, Nat.reduceBEq, Int.reduceToNat, Int.reduceLT, Int.reduceLE, Int.reduceAdd, Int.reduceSub, Int.reduceMul, Int.reducePow, Int.reduceNeg, Int.reduceEq, Int.toNat_natCast, Int.cast_ofNat_Int, Bool.not_eq_true', Bool.not_eq_false', ge_iff_le, gt_iff_lt, ne_eq, not_false_eq_true, not_true_eq_false, Nat.one_ne_zero, beq_self_eq_true, Bool.bne_false, Nat.zero_add, two]; first | done | omega)); (focus (simp only [go_sem, ↓reduceIte, reduceCtorEq, Nat.reduceAdd, Nat.reduceSub, Nat.reduceMul, Nat.reducePow, Nat.reduceDiv, Nat.reduceMod, Nat.reduceLT, Nat.reduceLeDiff, Nat.reduceEqDiff, Nat.reduceBEq, Int.reduceToNat, Int.reduceLT, Int.reduceLE, Int.reduceAdd, Int.reduceSub, Int.reduceMul, Int.reducePow, Int.reduceNeg, Int.reduceEq, Int.toNat_natCast, Int.cast_ofNat_Int, Bool.not_eq_true', Bool.not_eq_false', ge_iff_le, gt_iff_lt, ne_eq, not_false_eq_true, not_true_eq_false, Nat.one_ne_zero, beq_self_eq_true, Bool.bne_false, Nat.zero_add, two]; done)); (focus (simp only [go_sem, ↓reduceIte, reduceCtorEq, Nat.reduceAdd, Nat.reduceSub, Nat.reduceMul, Nat.reducePow, Nat.reduceDiv, Nat.reduceMod, Nat.reduceLT, Nat.reduceLeDiff, Nat.reduceEqDiff, Nat.reduceBEq, Int.reduceToNat, Int.reduceLT, Int.reduceLE, Int.reduceAdd, Int.reduceSub, Int.reduceMul, Int.reducePow, Int.reduceNeg, Int.reduceEq, Int.toNat_natCast, Int.cast_ofNat_Int, Bool.not_eq_true', Bool.not_eq_false', ge_iff_le, gt_iff_lt, ne_eq, not_false_eq_true, not_true_eq_false, Nat.one_ne_zero, beq_self_eq_true, Bool.bne_false, Nat.zero_add, two]; done)); simp only [go_sem, ↓reduceIte, reduceCtorEq, Nat.reduceAdd, Nat.reduceSub, Nat.reduceMul, Nat.reducePow, Nat.reduceDiv, Nat.reduceMod, Nat.reduceLT, Nat.reduceLeDiff, Nat.reduceEqDiff, Nat.reduceBEq, Int.reduceToNat, Int.reduceLT, Int.reduceLE, Int.reduceAdd, Int.reduceSub, Int.reduceMul, Int.reducePow, Int.reduceNeg, Int.reduceEq, Int.toNat_natCast, Int.cast_ofNat_Int, Bool.not_eq_true', Bool.not_eq_false', ge_iff_le, gt_iff_lt, ne_eq, not_false_eq_true, not_true_eq_false, Nat.one_ne_zero, beq_self_eq_true, Bool.bne_false, Nat.zero_add, two, I, B, S, AV.d.injEq, DV.int.injEq, DV.bool.injEq, DV.str.injEq, DV.sl.injEq, AV.tup.injEq, AV.agg.injEq, List.cons.injEq, and_true, true_and, and_self])
  unfold goodZ; exact (Bool.decide_and _ _).symm
theorem ref_zgood_c (z : Int) (hz : okI z) : acall Tryd.prog [] 86 [I z] (ret (B (decide (goodZ z)))) := by
  refine acall_of tabOk Tryd.func86 rfl (by kernel_rfl) (by simp [Tryd.ntmps86]) ?_; simp only [Tryd.ntmps86, Tryd.results86, List.toList_toArray, apar, List.length_nil, List.length_cons, Nat.reduceAdd]
  repeat' first
    | with_reducible refine AWP.seq ?_
    | with_reducible refine thenA_n ?_
    | with_reducible refine thenA_r ?_
    | with_reducible refine thenA_e ?_
    | with_reducible refine blkA_n ?_
    | with_reducible refine blkA_r ?_
    | with_reducible refine blkA_e ?_
    | with_reducible refine blkA_x (by decide) ?_
    | with_reducible refine AWP.skip ?_
    | with_reducible refine AWP.ret ?_
    | with_reducible refine AWP.exit ?_
    | with_reducible refine AWP.block ?_
    | (with_reducible refine AWP.cond rfl ?_ ?_ <;> intro _)
    | (with_reducible refine AWP.region tabOk ?_; intro K hK; simp only [go_sem, ↓reduceIte, reduceCtorEq, Nat.reduceAdd, Nat.reduceSub, Nat.reduceMul, Nat.reducePow, Nat.reduceDiv, Nat.reduceMod, Nat.reduceLT, Nat.reduceLeDiff, Nat.reduceEqDiff, Nat.reduceBEq, Int.reduceToNat, Int.reduceLT, Int.reduceLE, Int.reduceAdd, Int.reduceSub, Int.reduceMul, Int.reducePow, Int.reduceNeg, Int.reduceEq, Int.toNat_natCast, Int.cast_ofNat_Int, Bool.not_eq_true', Bool.not_eq_false', ge_iff_le, gt_iff_lt, ne_eq, not_false_eq_true, not_true_eq_false, Nat.one_ne_zero, beq_self_eq_true, Bool.bne_false, Nat.zero_add, true_and]; (repeat' with_reducible apply And.intro) <;> (try (with_reducible refine hK _ ?_; clear hK K)))
    | (with_reducible refine AWP.quiet mixed tabOk (by kernel_rfl) ?_; intro K hK; simp only [go_sem, ↓reduceIte, reduceCtorEq, Nat.reduceAdd, Nat.reduceSub, Nat.reduceMul, Nat.reducePow, Nat.reduceDiv, Nat.reduceMod, Nat.reduceLT, Nat.reduceLeDiff, Nat.reduceEqDiff, Nat.reduceBEq, Int.reduceToNat, Int.reduceLT, Int.reduceLE, Int.reduceAdd, Int.reduceSub, Int.reduceMul, Int.reducePow, Int.reduceNeg, Int.reduceEq, Int.toNat_natCast, Int.cast_ofNat_Int, Bool.not_eq_true', Bool.not_eq_false', ge_iff_le, gt_iff_lt, ne_eq, not_false_eq_true, not_true_eq_false, Nat.one_ne_zero, beq_self_eq_true, Bool.bne_false, Nat.zero_add, true_and]; (repeat' with_reducible apply And.intro) <;> (try (with_reducible refine hK _ ?_; clear hK K)))
    | (intro hg; first | (exfalso; simp at hg; done) | ((try simp only [hg, go_sem, ↓reduceIte, reduceCtorEq, Nat.reduceAdd, Nat.reduceSub, Nat.reduceMul, Nat.reducePow, Nat.reduceDiv, Nat.reduceMod, Nat.reduceLT, Nat.reduceLeDiff, Nat.reduceEqDiff, Nat.reduceBEq, Int.reduceToNat, Int.reduceLT, Int.reduceLE, Int.reduceAdd, Int.reduceSub, Int.reduceMul, Int.reducePow, Int.reduceNeg, Int.reduceEq, Int.toNat_natCast, Int.cast_ofNat_Int, Bool.not_eq_true', Bool.not_eq_false', ge_iff_le, gt_iff_lt, ne_eq, not_false_eq_true, not_true_eq_false, Nat.one_ne_zero, beq_self_eq_true, Bool.bne_false, Nat.zero_add, true_and]) <;> (repeat' with_reducible refine And.intro ?_ ?_) <;> (try (with_reducible refine hK _ ?_; clear hK K))))
    | omega
  all_goals try (refine aend_ret ?_ rfl ?_ ?_ ?_ ?_; (focus (first | exact .inl rfl | exact .inr rfl)); (focus (simp only [go_sem, ↓reduceIte, reduceCtorEq, Nat.reduceAdd, Nat.reduceSub, Nat.reduceMul, Nat.reducePow, Nat.reduceDiv, Nat.reduceMod, Nat.reduceLT, Nat.reduceLeDiff, Nat.reduceEqDiff, Nat.reduceBEq, Int.reduceToNat, Int.reduceLT, Int.reduceLE, Int.reduceAdd, Int.reduceSub, Int.reduceMul, Int.reducePow, Int.reduceNeg, Int.reduceEq, Int.toNat_natCast, Int.cast_ofNat_Int, Bool.not_eq_true', Bool.not_eq_false', ge_iff_le, gt_iff_lt, ne_eq, not_false_eq_true, not_true_eq_false, Nat.one_ne_zero, beq_self_eq_true, Bool.bne_false, Nat.zero_add, true_and]; first | done | omega)); (focus (simp only [go_sem, ↓reduceIte, reduceCtorEq, Nat.reduceAdd, Nat.reduceSub, Nat.reduceMul, Nat.reducePow, Nat.reduceDiv, Nat.reduceMod, Nat.reduceLT, Nat.reduceLeDiff, Nat.reduceEqDiff, Nat.reduceBEq, Int.reduceToNat, Int.reduceLT, Int.reduceLE, Int.reduceAdd, Int.reduceSub, Int.reduceMul, Int.reducePow, Int.reduceNeg, Int.reduceEq, Int.toNat_natCast, Int.cast_ofNat_Int, Bool.not_eq_true', Bool.not_eq_false', ge_iff_le, gt_iff_lt, ne_eq, not_false_eq_true, not_true_eq_false, Nat.one_ne_zero, beq_self_eq_true, Bool.bne_false, Nat.zero_add, true_and]; done)); (focus (simp only [go_sem, ↓reduceIte, reduceCtorEq, Nat.reduceAdd, Nat.reduceSub, Nat.reduceMul, Nat.reducePow, Nat.reduceDiv, Nat.reduceMod, Nat.reduceLT, Nat.reduceLeDiff, Nat.reduceEqDiff, Nat.reduceBEq, Int.reduceToNat, Int.reduceLT, Int.reduceLE, Int.reduceAdd, Int.reduceSub, Int.reduceMul, Int.reducePow, Int.reduceNeg, Int.reduceEq, Int.toNat_natCast, Int.cast_ofNat_Int, Bool.not_eq_true', Bool.not_eq_false', ge_iff_le, gt_iff_lt, ne_eq, not_false_eq_true, not_true_eq_false, Nat.one_ne_zero, beq_self_eq_true, Bool.bne_false, Nat.zero_add, true_and]; done)); simp only [go_sem, ↓reduceIte, reduceCtorEq, Nat.reduceAdd, Nat.reduceSub, Nat.reduceMul, Nat.reducePow, Nat.reduceDiv, Nat.reduceMod, Nat.reduceLT, Nat.reduceLeDiff, Nat.reduceEqDiff, Nat.reduceBEq, Int.reduceToNat, Int.reduceLT, Int.reduceLE, Int.reduceAdd, Int.reduceSub, Int.reduceMul, Int.reducePow, Int.reduceNeg, Int.reduceEq, Int.toNat_natCast, Int.cast_ofNat_Int, Bool.not_eq_true', Bool.not_eq_false', ge_iff_le, gt_iff_lt, ne_eq, not_false_eq_true, not_true_eq_false, Nat.one_ne_zero, beq_self_eq_true, Bool.bne_false, Nat.zero_add, true_and, I, B, S, AV.d.injEq, DV.int.injEq, DV.bool.injEq, DV.str.injEq, DV.sl.injEq, AV.tup.injEq, AV.agg.injEq, List.cons.injEq, and_true, true_and, and_self])
  have e : ∀ h : 0 ≤ z, z.tdiv 2147483648 = z / 2147483648 := fun h => Int.tdiv_eq_ediv_of_nonneg h
  rw [Bool.eq_iff_iff]
  simp only [Bool.and_eq_true, decide_eq_true_eq]
  unfold goodZ
  constructor
  · intro ⟨h, h2⟩
    have e := e h
    rw [wrap_in _ ⟨by omega, by omega⟩] at h2
    omega
  · intro ⟨h, h2⟩
    have e := e h
    refine ⟨h, ?_⟩
    rw [wrap_in _ ⟨by omega, by omega⟩]
    omega
end Go.Proofs.YtmpfhalheaeibaaDoor
namespace Go.Proofs.YtmpfhalheaeibaaDoor
set_option linter.unusedVariables false
set_option linter.unusedSimpArgs false
open Go Go.RowKit
set_option maxRecDepth 100000
set_option linter.unusedSimpArgs false
def pathsT (t : ATree) : List (List UInt8) := t.nodes.map ANode.path
def nd (t : ATree) (k : Nat) : ANode := t.nodes.getD k default
def sessOk (l : List Int) (k : Nat) : Prop := 1 ≤ l.getD k default ∧ l.getD k default ≤ 2147483647 ∧ (0 < k → l.getD (k - 1) default < l.getD k default)
instance (l : List Int) (k : Nat) : Decidable (sessOk l k) := by unfold sessOk; infer_instance
def nodeA (t : ATree) (k : Nat) : Prop := goodP (nd t k).path = true ∧ (nd t k).data.length ≤ 256 ∧ (0 < k → (nd t (k - 1)).path < (nd t k).path)
instance (t : ATree) (k : Nat) : Decidable (nodeA t k) := by unfold nodeA; infer_instance
def statB (t : ATree) (s : AStat) : Prop := 0 ≤ s.version ∧ s.version ≤ 2147483647 ∧ 0 ≤ s.cversion ∧ s.cversion ≤ 2147483647 ∧ 0 ≤ s.czxid ∧ s.czxid ≤ s.mzxid ∧ s.czxid ≤ s.pzxid ∧ s.mzxid ≤ t.zxid ∧ s.pzxid ≤ t.zxid
instance (t : ATree) (s : AStat) : Decidable (statB t s) := by unfold statB; infer_instance
def ownB (t : ATree) (s : AStat) : Prop := s.owner ≠ 0 → s.owner ∈ t.sessions ∧ s.kids = 0
instance (t : ATree) (s : AStat) : Decidable (ownB t s) := by unfold ownB; infer_instance
def dirT (t : ATree) (k : Nat) : List UInt8 := (splitP (nd t k).path).1.1
def kidsN (t : ATree) (p : List UInt8) (n : Nat) : Nat := ((List.range n).filter fun j => decide (dirT t j = p)).length
def upB (t : ATree) (k : Nat) : Prop := k = 0 ∨ dirT t k ∈ pathsT t
instance (t : ATree) (k : Nat) : Decidable (upB t k) := by unfold upB; infer_instance
def headOk (t : ATree) : Prop := 1 ≤ t.nodes.length ∧ t.nodes.length ≤ 400 ∧ (nd t 0).path = [47] ∧ (nd t 0).stat.owner = 0 ∧ goodZ t.zxid
instance (t : ATree) : Decidable (headOk t) := by unfold headOk; infer_instance
def goodTr (t : ATree) : Bool := decide (headOk t ∧ (∀ k, k < t.sessions.length → sessOk t.sessions k) ∧ (∀ k, k < t.nodes.length → nodeA t k) ∧
  ∀ k, k < t.nodes.length → statB t (nd t k).stat ∧ ownB t (nd t k).stat ∧ upB t k ∧ (nd t k).stat.kids = kidsN t (nd t k).path t.nodes.length)
theorem goodTr_iff {t : ATree} : goodTr t = true ↔ headOk t ∧ (∀ k, k < t.sessions.length → sessOk t.sessions k) ∧ (∀ k, k < t.nodes.length → nodeA t k) ∧
    ∀ k, k < t.nodes.length → statB t (nd t k).stat ∧ ownB t (nd t k).stat ∧ upB t k ∧ (nd t k).stat.kids = kidsN t (nd t k).path t.nodes.length := by unfold goodTr; rw [decide_eq_true_eq]
theorem pathsT_get (t : ATree) (k : Nat) : (pathsT t).getD k [] = (nd t k).path := getD_map ANode.path t.nodes k default
theorem pathsT_len (t : ATree) : (pathsT t).length = t.nodes.length := by unfold pathsT; simp
theorem rises_sess {l : List Int} (h : ∀ k, k < l.length → sessOk l k) : RisesI l := fun k hk => by
  have := (h (k + 1) (by omega)).2.2 (by omega)
  simpa using this
theorem rises_paths {t : ATree} (h : ∀ k, k < t.nodes.length → nodeA t k) : Rises (pathsT t) := fun k hk => by
  rw [pathsT_len] at hk
  have := (h (k + 1) hk).2.2 (by omega)
  rw [pathsT_get, pathsT_get]
  simpa using this
theorem good_rises {t : ATree} (h : goodTr t = true) : Rises (pathsT t) := rises_paths (goodTr_iff.1 h).2.2.1
theorem good_sess {t : ATree} (h : goodTr t = true) : RisesI t.sessions := rises_sess (goodTr_iff.1 h).2.1
theorem good_root {t : ATree} (h : goodTr t = true) : headOk t := (goodTr_iff.1 h).1
theorem findU_c (t : ATree) (key : List UInt8) (h : t.nodes.length * 88 ≤ 140737488351232) : acall Tryd.prog [] 92 [t.av, S key] (ret (.tup [I (bsN (pathsT t) key), B (foundN (pathsT t) key)])) := by
  unfold pathsT
  refine acall_of tabOk Tryd.func92 rfl (by kernel_rfl) (by simp [Tryd.ntmps92]) ?_; simp only [Tryd.ntmps92, Tryd.results92, List.toList_toArray, apar, List.length_nil, List.length_cons, Nat.reduceAdd]
  (repeat' first
| (with_reducible refine AR.f ?_)
| refine blkA_x (by decide) ?_
| (with_reducible refine AWP.cond rfl ?_ ?_ <;> intro hc <;> (try simp only [hcs, beq_iff_eq, ge_iff_le, gt_iff_lt] at hc))
| ((first | ((first | (with_reducible first | refine zR ?_ | refine zQ (by decide +kernel) ?_ | refine zD (by decide +kernel) ?_ | refine zE (by decide +kernel) ?_ | refine zG (by decide +kernel) ?_)); intro K hK) | ((first | refine zA (bsNodeU_c t.nodes key h) ?_ ?_ ?_ ?_ ?_); (focus exact rfl); (focus exact rfl); iterate 2 (focus ((try simp (disch := omega) only [go_sem, wrap_n]) <;> (try omega) <;> fail))) | ((first | refine zN (bsNodeU_c t.nodes key h) rfl ?_ ?_); (focus ((try simp (disch := omega) only [go_sem, wrap_n]) <;> (try omega) <;> fail))) | (first | ((first | refine zX (bsNodeU_c t.nodes key h) rfl ?_ ?_ | refine acallH_anyx (bsNodeU_c t.nodes key h) ?_ ?_); (focus ((try simp (disch := omega) only [go_sem, wrap_n]) <;> (try omega) <;> fail)))) | ((first | (with_reducible refine aunder_i ?_ ?_ <;> intro hg) | with_reducible intro hg) <;> (first | (exfalso; simp at hg; done) | (have hg' := hg; (try simp only [hcs, beq_iff_eq, ge_iff_le, gt_iff_lt] at hg'); (try simp only [hg]))))) <;> (try simp (disch := omega) only [go_sem, wrap_n]) <;> (repeat' with_reducible refine And.intro ?_ ?_) <;> (try (with_reducible refine hK _ ?_; clear hK K)))
| omega)
  (refine zF rfl ?_ ?_ ?_ ?_; (iterate 3 (focus ((try simp (disch := omega) only [go_sem, wrap_n]) <;> (try omega) <;> fail))); (try simp (disch := omega) only [go_sem, wrap_n, I, B, S, inj, List.cons.injEq, and_true, true_and, and_self]))
theorem findT_c (t : ATree) (key : List UInt8) (h : t.nodes.length * 88 ≤ 140737488351232) (hr : Rises (pathsT t)) : acall Tryd.prog [] 92 [t.av, S key] (ret (.tup [I (place (pathsT t) key), B (decide (key ∈ pathsT t))])) := by
  have := findU_c t key h
  rwa [bsN_rises hr, foundN_rises hr] at this
theorem open_c (t : ATree) (s : Int) (h : t.sessions.length * 8 ≤ 140737488351232) (hr : RisesI t.sessions) : acall Tryd.prog [] 40 [t.av, I s] (ret (B (decide (s ∈ t.sessions)))) := by
  refine acall_of tabOk Tryd.func40 rfl (by kernel_rfl) (by simp [Tryd.ntmps40]) ?_; simp only [Tryd.ntmps40, Tryd.results40, List.toList_toArray, apar, List.length_nil, List.length_cons, Nat.reduceAdd]
  (repeat' first
| (with_reducible refine AR.f ?_)
| refine blkA_x (by decide) ?_
| (with_reducible refine AWP.cond rfl ?_ ?_ <;> intro hc <;> (try simp only [hcs, beq_iff_eq, ge_iff_le, gt_iff_lt] at hc))
| ((first | ((first | (with_reducible first | refine zR ?_ | refine zQ (by decide +kernel) ?_ | refine zD (by decide +kernel) ?_ | refine zE (by decide +kernel) ?_ | refine zG (by decide +kernel) ?_)); intro K hK) | ((first | refine zA (bsInt_c t.sessions s h hr) ?_ ?_ ?_ ?_ ?_); (focus exact rfl); (focus exact rfl); iterate 2 (focus ((try simp (disch := omega) only [go_sem, wrap_n]) <;> (try omega) <;> fail))) | ((first | refine zN (bsInt_c t.sessions s h hr) rfl ?_ ?_); (focus ((try simp (disch := omega) only [go_sem, wrap_n]) <;> (try omega) <;> fail))) | (first | ((first | refine zX (bsInt_c t.sessions s h hr) rfl ?_ ?_ | refine acallH_anyx (bsInt_c t.sessions s h hr) ?_ ?_); (focus ((try simp (disch := omega) only [go_sem, wrap_n]) <;> (try omega) <;> fail)))) | ((first | (with_reducible refine aunder_i ?_ ?_ <;> intro hg) | with_reducible intro hg) <;> (first | (exfalso; simp at hg; done) | (have hg' := hg; (try simp only [hcs, beq_iff_eq, ge_iff_le, gt_iff_lt] at hg'); (try simp only [hg]))))) <;> (try simp (disch := omega) only [go_sem, wrap_n]) <;> (repeat' with_reducible refine And.intro ?_ ?_) <;> (try (with_reducible refine hK _ ?_; clear hK K)))
| omega)
  (refine zF rfl ?_ ?_ ?_ ?_; (iterate 3 (focus ((try simp (disch := omega) only [go_sem, wrap_n]) <;> (try omega) <;> fail))); (try simp (disch := omega) only [go_sem, wrap_n, I, B, S, inj, List.cons.injEq, and_true, true_and, and_self]))
def getT (t : ATree) (key : List UInt8) : ANode × Int := if key ∈ pathsT t then (nd t (place (pathsT t) key), 0) else (default, 7)
theorem getT_c (t : ATree) (key : List UInt8) (h : t.nodes.length * 88 ≤ 140737488351232) (hr : Rises (pathsT t)) : acall Tryd.prog [] 35 [t.av, S key] (ret (.tup [(getT t key).1.av, I (getT t key).2])) := by
  by_cases hm : key ∈ pathsT t
  · have hp := (place_found hr hm).1
    rw [pathsT_len] at hp
    unfold getT
    rw [if_pos hm]
    refine acall_of tabOk Tryd.func35 rfl (by kernel_rfl) (by simp [Tryd.ntmps35]) ?_; simp only [Tryd.ntmps35, Tryd.results35, List.toList_toArray, apar, List.length_nil, List.length_cons, Nat.reduceAdd]
    (repeat' first
  | (with_reducible refine AR.f ?_)
  | refine blkA_x (by decide) ?_
  | (with_reducible refine AWP.cond rfl ?_ ?_ <;> intro hc <;> (try simp only [hcs, beq_iff_eq, ge_iff_le, gt_iff_lt] at hc))
  | ((first | ((first | (with_reducible first | refine zR ?_ | refine zQ (by decide +kernel) ?_ | refine zD (by decide +kernel) ?_ | refine zE (by decide +kernel) ?_ | refine zG (by decide +kernel) ?_)); intro K hK) | ((first | refine zA ((findT_c t key h hr).re (by rw [decide_eq_true hm])) ?_ ?_ ?_ ?_ ?_); (focus exact rfl); (focus exact rfl); iterate 2 (focus ((try simp (disch := omega) only [go_sem, wrap_n]) <;> (try omega) <;> fail))) | ((first | refine zN ((findT_c t key h hr).re (by rw [decide_eq_true hm])) rfl ?_ ?_); (focus ((try simp (disch := omega) only [go_sem, wrap_n]) <;> (try omega) <;> fail))) | (first | ((first | refine zX ((findT_c t key h hr).re (by rw [decide_eq_true hm])) rfl ?_ ?_ | refine acallH_anyx ((findT_c t key h hr).re (by rw [decide_eq_true hm])) ?_ ?_); (focus ((try simp (disch := omega) only [go_sem, wrap_n]) <;> (try omega) <;> fail)))) | ((first | (with_reducible refine aunder_i ?_ ?_ <;> intro hg) | with_reducible intro hg) <;> (first | (exfalso; simp at hg; done) | (have hg' := hg; (try simp only [hcs, beq_iff_eq, ge_iff_le, gt_iff_lt] at hg'); (try simp only [hg]))))) <;> (try simp (disch := omega) only [go_sem, wrap_n]) <;> (repeat' with_reducible refine And.intro ?_ ?_) <;> (try (with_reducible refine hK _ ?_; clear hK K)))
  | omega)
    (refine zF rfl ?_ ?_ ?_ ?_; (iterate 3 (focus ((try simp (disch := omega) only [go_sem, wrap_n, nd]) <;> (try omega) <;> fail))); (try simp (disch := omega) only [go_sem, wrap_n, nd, I, B, S, inj, List.cons.injEq, and_true, true_and, and_self]))
  · unfold getT
    rw [if_neg hm]
    refine acall_of tabOk Tryd.func35 rfl (by kernel_rfl) (by simp [Tryd.ntmps35]) ?_; simp only [Tryd.ntmps35, Tryd.results35, List.toList_toArray, apar, List.length_nil, List.length_cons, Nat.reduceAdd]
    (repeat' first
  | (with_reducible refine AR.f ?_)
  | refine blkA_x (by decide) ?_
  | (with_reducible refine AWP.cond rfl ?_ ?_ <;> intro hc <;> (try simp only [hcs, beq_iff_eq, ge_iff_le, gt_iff_lt] at hc))
  | ((first | ((first | (with_reducible first | refine zR ?_ | refine zQ (by decide +kernel) ?_ | refine zD (by decide +kernel) ?_ | refine zE (by decide +kernel) ?_ | refine zG (by decide +kernel) ?_)); intro K hK) | ((first | refine zA ((findT_c t key h hr).re (by rw [decide_eq_false hm])) ?_ ?_ ?_ ?_ ?_); (focus exact rfl); (focus exact rfl); iterate 2 (focus ((try simp (disch := omega) only [go_sem, wrap_n]) <;> (try omega) <;> fail))) | ((first | refine zN ((findT_c t key h hr).re (by rw [decide_eq_false hm])) rfl ?_ ?_); (focus ((try simp (disch := omega) only [go_sem, wrap_n]) <;> (try omega) <;> fail))) | (first | ((first | refine zX ((findT_c t key h hr).re (by rw [decide_eq_false hm])) rfl ?_ ?_ | refine acallH_anyx ((findT_c t key h hr).re (by rw [decide_eq_false hm])) ?_ ?_); (focus ((try simp (disch := omega) only [go_sem, wrap_n]) <;> (try omega) <;> fail)))) | ((first | (with_reducible refine aunder_i ?_ ?_ <;> intro hg) | with_reducible intro hg) <;> (first | (exfalso; simp at hg; done) | (have hg' := hg; (try simp only [hcs, beq_iff_eq, ge_iff_le, gt_iff_lt] at hg'); (try simp only [hg]))))) <;> (try simp (disch := omega) only [go_sem, wrap_n]) <;> (repeat' with_reducible refine And.intro ?_ ?_) <;> (try (with_reducible refine hK _ ?_; clear hK K)))
  | omega)
    (refine zF rfl ?_ ?_ ?_ ?_; (iterate 3 (focus ((try simp (disch := omega) only [go_sem, wrap_n, default]) <;> (try omega) <;> fail))); (try simp (disch := omega) only [go_sem, wrap_n, default, I, B, S, inj, List.cons.injEq, and_true, true_and, and_self]))
def t00 : ATree := ⟨0, [⟨[47], [], ⟨0, 0, 0, 0, 0, 0, 0⟩⟩], []⟩
theorem new_c : acall Tryd.prog [] 39 [] (ret t00.av) := by
  refine acall_of tabOk Tryd.func39 rfl (by kernel_rfl) (by simp [Tryd.ntmps39]) ?_; simp only [Tryd.ntmps39, Tryd.results39, List.toList_toArray, apar, List.length_nil, List.length_cons, Nat.reduceAdd]
  (repeat' first
| (with_reducible refine AR.f ?_)
| refine blkA_x (by decide) ?_
| (with_reducible refine AWP.cond rfl ?_ ?_ <;> intro hc <;> (try simp only [hcs, beq_iff_eq, ge_iff_le, gt_iff_lt] at hc))
| ((first | ((first | (with_reducible first | refine zR ?_ | refine zQ (by decide +kernel) ?_ | refine zD (by decide +kernel) ?_ | refine zE (by decide +kernel) ?_ | refine zG (by decide +kernel) ?_)); intro K hK) | ((first | (with_reducible refine aunder_i ?_ ?_ <;> intro hg) | with_reducible intro hg) <;> (first | (exfalso; simp at hg; done) | (have hg' := hg; (try simp only [hcs, beq_iff_eq, ge_iff_le, gt_iff_lt] at hg'); (try simp only [hg]))))) <;> (try simp (disch := omega) only [go_sem, wrap_n]) <;> (repeat' with_reducible refine And.intro ?_ ?_) <;> (try (with_reducible refine hK _ ?_; clear hK K)))
| omega)
  (refine zF rfl ?_ ?_ ?_ ?_; (iterate 3 (focus ((try simp (disch := omega) only [go_sem, wrap_n, t00]) <;> (try omega) <;> fail))); (try simp (disch := omega) only [go_sem, wrap_n, t00, I, B, S, inj, List.cons.injEq, and_true, true_and, and_self]))
theorem ref_new_c : acall Tryd.prog [] 31 [] (ret t00.av) := by
  refine acall_of tabOk Tryd.func31 rfl (by kernel_rfl) (by simp [Tryd.ntmps31]) ?_; simp only [Tryd.ntmps31, Tryd.results31, List.toList_toArray, apar, List.length_nil, List.length_cons, Nat.reduceAdd]
  (repeat' first
| (with_reducible refine AR.f ?_)
| refine blkA_x (by decide) ?_
| (with_reducible refine AWP.cond rfl ?_ ?_ <;> intro hc <;> (try simp only [hcs, beq_iff_eq, ge_iff_le, gt_iff_lt] at hc))
| ((first | ((first | (with_reducible first | refine zR ?_ | refine zQ (by decide +kernel) ?_ | refine zD (by decide +kernel) ?_ | refine zE (by decide +kernel) ?_ | refine zG (by decide +kernel) ?_)); intro K hK) | ((first | (with_reducible refine aunder_i ?_ ?_ <;> intro hg) | with_reducible intro hg) <;> (first | (exfalso; simp at hg; done) | (have hg' := hg; (try simp only [hcs, beq_iff_eq, ge_iff_le, gt_iff_lt] at hg'); (try simp only [hg]))))) <;> (try simp (disch := omega) only [go_sem, wrap_n]) <;> (repeat' with_reducible refine And.intro ?_ ?_) <;> (try (with_reducible refine hK _ ?_; clear hK K)))
| omega)
  (refine zF rfl ?_ ?_ ?_ ?_; (iterate 3 (focus ((try simp (disch := omega) only [go_sem, wrap_n, t00]) <;> (try omega) <;> fail))); (try simp (disch := omega) only [go_sem, wrap_n, t00, I, B, S, inj, List.cons.injEq, and_true, true_and, and_self]))
theorem node_okS {t : ATree} (hw : t.wf) (k : Nat) : okS (t.nodes.getD k default).path ∧ okS (t.nodes.getD k default).data := by
  by_cases e : k < t.nodes.length
  · have := hw.2.1.2 _ (getD_mem t.nodes k e)
    exact ⟨this.1, this.2.1⟩
  · rw [List.getD_eq_getElem?_getD, List.getElem?_eq_none (by omega)]; exact ⟨show okS [] by unfold okS; decide, show okS [] by unfold okS; decide⟩
end Go.Proofs.YtmpfhalheaeibaaDoor
namespace Go.Proofs.YtmpfhalheaeibaaDoor
set_option linter.unusedVariables false
set_option linter.unusedSimpArgs false
open Go Go.RowKit
set_option maxRecDepth 100000
set_option linter.unusedSimpArgs false
theorem split_ne {s : List UInt8} (h : (splitP s).2 = 0) : (splitP s).1.1 ≠ [] := by
  unfold splitP at h ⊢
  split at h
  · rename_i hg
    split at h
    · cases h
    · rename_i h0
      rw [if_pos hg, if_neg h0]
      show pathOf _ ≠ []
      unfold pathOf
      split
      · decide
      · rename_i h1; exact joinL_ne h1
  · cases h
theorem split_err {s : List UInt8} (h : ¬ (splitP s).2 = 0) : (splitP s).1.1 = [] := by
  unfold splitP at h ⊢
  split at h
  · rename_i hg
    split at h
    · rename_i h0; rw [if_pos hg, if_pos h0]
    · exact absurd rfl h
  · rename_i hg; rw [if_neg hg]
theorem goodP_ne {s : List UInt8} (h : goodP s = true) : s ≠ [] := by rintro rfl; revert h; decide
theorem kidsN_zero (t : ATree) (p : List UInt8) : kidsN t p 0 = 0 := rfl
theorem kidsN_succ (t : ATree) (p : List UInt8) (k : Nat) : kidsN t p (k + 1) = kidsN t p k + if dirT t k = p then 1 else 0 := by
  unfold kidsN
  rw [List.range_succ, List.filter_append, List.length_append]
  by_cases e : dirT t k = p
  · rw [if_pos e, List.filter_cons_of_pos (by simpa using e)]; rfl
  · rw [if_neg e, List.filter_cons_of_neg (by simpa using e)]; rfl
theorem kidsN_le (t : ATree) (p : List UInt8) (k : Nat) : kidsN t p k ≤ k := by
  unfold kidsN
  exact Nat.le_trans (List.length_filter_le _ _) (by rw [List.length_range]; exact Nat.le_refl _)
theorem goodTr_no {t : ATree} (h : goodTr t = true → False) : goodTr t = false := by
  cases e : goodTr t
  · rfl
  · exact (h e).elim
theorem head_no {t : ATree} (h : ¬ headOk t) : false = goodTr t := (goodTr_no fun h2 => h (good_root h2)).symm
theorem sess_no {t : ATree} {k : Nat} (hk : k < t.sessions.length) (h : ¬ sessOk t.sessions k) : false = goodTr t := (goodTr_no fun h2 => h ((goodTr_iff.1 h2).2.1 k hk)).symm
theorem nodeA_no {t : ATree} {k : Nat} (hk : k < t.nodes.length) (h : ¬ nodeA t k) : false = goodTr t := (goodTr_no fun h2 => h ((goodTr_iff.1 h2).2.2.1 k hk)).symm
theorem nodeB_no {t : ATree} {k : Nat} (hk : k < t.nodes.length) (h : ¬ (statB t (nd t k).stat ∧ ownB t (nd t k).stat ∧ upB t k ∧ (nd t k).stat.kids = kidsN t (nd t k).path t.nodes.length)) : false = goodTr t := (goodTr_no fun h2 => h ((goodTr_iff.1 h2).2.2.2 k hk)).symm
def condP (t : ATree) (i : Nat) : Prop := ((((((((((goodP (nd t i).path = true ∧ ((nd t i).data.length : Int) ≤ 256) ∧ ((i : Int) ≤ 0 ∨ (nd t (i - 1)).path < (nd t i).path)) ∧ 0 ≤ (nd t i).stat.version) ∧ (nd t i).stat.version ≤ 2147483647) ∧ 0 ≤ (nd t i).stat.cversion) ∧ (nd t i).stat.cversion ≤ 2147483647) ∧
  0 ≤ (nd t i).stat.czxid) ∧ (nd t i).stat.czxid ≤ (nd t i).stat.mzxid) ∧ (nd t i).stat.czxid ≤ (nd t i).stat.pzxid) ∧ (nd t i).stat.mzxid ≤ t.zxid) ∧ (nd t i).stat.pzxid ≤ t.zxid
theorem condP_ok {t : ATree} {i : Nat} (h : condP t i) : nodeA t i ∧ statB t (nd t i).stat := by
  obtain ⟨⟨⟨⟨⟨⟨⟨⟨⟨⟨⟨h1, h2⟩, h3⟩, h4⟩, h5⟩, h6⟩, h7⟩, h8⟩, h9⟩, h10⟩, h11⟩, h12⟩ := h
  exact ⟨⟨h1, by omega, fun h0 => h3.resolve_left (by omega)⟩, h4, h5, h6, h7, h8, h9, h10, h11, h12⟩
theorem root_of {s : List UInt8} (hg : goodP s = true) (h : ¬ (splitP s).2 = 0) : s = [47] := by
  unfold splitP at h
  rw [if_pos hg] at h
  split at h
  · rename_i h0
    have := (good_path hg).1
    rw [h0] at this; exact this
  · exact absurd rfl h
theorem first_lt {t : ATree} : ∀ {i : Nat}, (∀ j, j ≤ i → nodeA t j) → 0 < i → (nd t 0).path < (nd t i).path
  | 0, _, h => by omega
  | i + 1, h, _ => by
    have := (h (i + 1) (Nat.le_refl _)).2.2 (by omega)
    rw [Nat.add_sub_cancel] at this
    by_cases e : i = 0
    · subst e; exact this
    · exact List.lt_trans (first_lt (fun j hj => h j (by omega)) (by omega)) this
theorem upB_err {t : ATree} {i : Nat} (hh : headOk t) (hA : ∀ j, j ≤ i → nodeA t j) (he : ¬ (splitP (nd t i).path).2 = 0) : upB t i := by
  by_cases e : i = 0
  · exact .inl e
  · have h1 := first_lt hA (by omega)
    rw [root_of (hA i (Nat.le_refl _)).1 he, hh.2.2.1] at h1
    exact absurd h1 (List.lt_irrefl _)
theorem up_no {t : ATree} {i : Nat} (hi : i < t.nodes.length) (h0 : (splitP (nd t i).path).2 = 0) (h : foundN (pathsT t) (splitP (nd t i).path).1.1 = false) : false = goodTr t := by
  refine (goodTr_no fun h2 => ?_).symm
  rw [foundN_rises (good_rises h2), decide_eq_false_iff_not] at h
  rcases ((goodTr_iff.1 h2).2.2.2 i hi).2.2.1 with e | e
  · subst e
    rw [(good_root h2).2.2.1] at h0
    exact absurd h0 (by decide)
  · exact h e
theorem own_no {t : ATree} {i : Nat} (hi : i < t.nodes.length) (h0 : ¬ (nd t i).stat.owner = 0) (h : ¬ (nd t i).stat.owner ∈ t.sessions ∨ ¬ (nd t i).stat.kids = 0) : false = goodTr t :=
  nodeB_no hi fun ⟨_, ho, _, _⟩ => by
    obtain ⟨a, b⟩ := ho h0
    rcases h with h | h
    · exact h a
    · exact h b
structure TLoop (t : ATree) (i : Nat) (m : List (List UInt8 × Int)) : Prop where
  le : i ≤ t.nodes.length
  ok : ∀ j, j < i → nodeA t j ∧ statB t (nd t j).stat ∧ ownB t (nd t j).stat ∧ upB t j
  cnt : ∀ p, p ≠ [] → mval m p = (kidsN t p i : Nat)
theorem tloop_a {t : ATree} {i : Nat} {m : List (List UInt8 × Int)} (h : TLoop t i m) (hi : i < t.nodes.length) (hc : condP t i) (ho : ownB t (nd t i).stat) (h0 : (splitP (nd t i).path).2 = 0) (hf : foundN (pathsT t) (splitP (nd t i).path).1.1 = true) :
    TLoop t (i + 1) (mset m (splitP (nd t i).path).1.1 (mval m (splitP (nd t i).path).1.1 + 1)) := by
  refine ⟨by omega, fun j hj => ?_, fun p hp => ?_⟩
  · by_cases e : j = i
    · subst e; obtain ⟨a, b⟩ := condP_ok hc; exact ⟨a, b, ho, .inr (foundN_mem hf)⟩
    · exact h.ok j (by omega)
  · have := mval_bump m (splitP (nd t i).path).1.1 p
    unfold mbump at this
    rw [this, h.cnt p hp, kidsN_succ]
    by_cases e : p = (splitP (nd t i).path).1.1
    · rw [if_pos e, if_pos (show dirT t i = p from e.symm)]; omega
    · rw [if_neg e, if_neg (show ¬ dirT t i = p from fun e2 => e e2.symm)]; omega
theorem tloop_b {t : ATree} {i : Nat} {m : List (List UInt8 × Int)} (h : TLoop t i m) (hh : headOk t) (hi : i < t.nodes.length) (hc : condP t i) (ho : ownB t (nd t i).stat) (h0 : ¬ (splitP (nd t i).path).2 = 0) : TLoop t (i + 1) m := by
  obtain ⟨a, b⟩ := condP_ok hc
  have hA : ∀ j, j ≤ i → nodeA t j := fun j hj => by
    by_cases e : j = i
    · subst e; exact a
    · exact (h.ok j (by omega)).1
  refine ⟨by omega, fun j hj => ?_, fun p hp => ?_⟩
  · by_cases e : j = i
    · subst e; exact ⟨a, b, ho, upB_err hh hA h0⟩
    · exact h.ok j (by omega)
  · rw [h.cnt p hp, kidsN_succ, if_neg (show ¬ dirT t i = p from fun e2 => hp (e2.symm.trans (split_err h0)))]; rfl
theorem tloop_w {t : ATree} {i : Nat} {m : List (List UInt8 × Int)} (h : TLoop t i m) (h4 : t.nodes.length ≤ 400) (h0 : (splitP (nd t i).path).2 = 0) : IntKind.i64.wrap (mval m (splitP (nd t i).path).1.1 + 1) = mval m (splitP (nd t i).path).1.1 + 1 := by
  have a := h.cnt _ (split_ne h0)
  have b := kidsN_le t (splitP (nd t i).path).1.1 i
  have c := h.le
  simp [IntKind.wrap, IntKind.bits, IntKind.signed]; omega
theorem own_yes {t : ATree} {i : Nat} (h : (nd t i).stat.owner ∈ t.sessions ∧ (nd t i).stat.kids = 0) : ownB t (nd t i).stat := fun _ => h
theorem own_zero {t : ATree} {i : Nat} (h : (nd t i).stat.owner = 0) : ownB t (nd t i).stat := fun h2 => absurd h h2
theorem tgood_end {t : ATree} {m : List (List UInt8 × Int)} (hh : headOk t) (hs : ∀ j, j < t.sessions.length → sessOk t.sessions j) (h : TLoop t t.nodes.length m) (hk : ∀ j, j < t.nodes.length → (nd t j).stat.kids = mval m (nd t j).path) : goodTr t = true := by
  refine goodTr_iff.2 ⟨hh, hs, fun k hk => (h.ok k hk).1, fun k hk2 => ?_⟩
  obtain ⟨a, b, c, d⟩ := h.ok k hk2
  refine ⟨b, c, d, ?_⟩
  rw [hk k hk2, h.cnt _ (goodP_ne a.1)]
theorem kids_no {t : ATree} {m : List (List UInt8 × Int)} {k : Nat} (h : TLoop t t.nodes.length m) (hk : k < t.nodes.length) (hc : ¬ (nd t k).stat.kids = mval m (nd t k).path) : false = goodTr t :=
  nodeB_no hk fun ⟨_, _, _, h2⟩ => hc (by rw [h2, h.cnt _ (goodP_ne (h.ok k hk).1.1)])
set_option maxHeartbeats 8000000 in
theorem tgood_c (t : ATree) (hw : t.wf) : acall Tryd.prog [] 34 [t.av] (ret (B (goodTr t))) := by
  have hok := node_okS hw
  obtain ⟨hz, ⟨hn, hnw⟩, ⟨hs, hsw⟩⟩ := hw
  refine acall_of tabOk Tryd.func34 rfl (by kernel_rfl) (by simp [Tryd.ntmps34]) ?_; simp only [Tryd.ntmps34, Tryd.results34, List.toList_toArray, apar, List.length_nil, List.length_cons, Nat.reduceAdd]
  (repeat' first
| (with_reducible refine AR.f ?_)
| refine blkA_x (by decide) ?_
| (with_reducible refine AWP.cond rfl ?_ ?_ <;> intro hc <;> (try simp only [hcs, beq_iff_eq, ge_iff_le, gt_iff_lt] at hc))
| ((first | ((first | (with_reducible first | refine zR ?_ | refine zQ (by decide +kernel) ?_ | refine zD (by decide +kernel) ?_ | refine zE (by decide +kernel) ?_ | refine zG (by decide +kernel) ?_)); intro K hK) | ((first | refine zA (zgood_c t.zxid) ?_ ?_ ?_ ?_ ?_); (focus exact rfl); (focus exact rfl); iterate 2 (focus ((try simp (disch := omega) only [go_sem, wrap_n]) <;> (try omega) <;> fail))) | ((first | refine zN (zgood_c t.zxid) rfl ?_ ?_); (focus ((try simp (disch := omega) only [go_sem, wrap_n]) <;> (try omega) <;> fail))) | (first | ((first | refine zX (zgood_c t.zxid) rfl ?_ ?_ | refine acallH_anyx (zgood_c t.zxid) ?_ ?_); (focus ((try simp (disch := omega) only [go_sem, wrap_n]) <;> (try omega) <;> fail)))) | ((first | (with_reducible refine aunder_i ?_ ?_ <;> intro hg) | with_reducible intro hg) <;> (first | (exfalso; simp at hg; done) | (have hg' := hg; (try simp only [hcs, beq_iff_eq, ge_iff_le, gt_iff_lt] at hg'); (try simp only [hg]))))) <;> (try simp (disch := omega) only [go_sem, wrap_n]) <;> (repeat' with_reducible refine And.intro ?_ ?_) <;> (try (with_reducible refine hK _ ?_; clear hK K)))
| omega)
  · (refine zF rfl ?_ ?_ ?_ ?_; (iterate 3 (focus ((try simp (disch := omega) only [go_sem, wrap_n]) <;> (try omega) <;> fail))); (try simp (disch := omega) only [go_sem, wrap_n, I, B, S, inj, List.cons.injEq, and_true, true_and, and_self]))
    refine head_no fun ⟨a1, a2, a3, a4, a5⟩ => ?_
    rcases hc with (((h | h) | h) | h) | h
    · omega
    · omega
    · exact h a3
    · exact h a4
    · exact h a5
  rotate_left
  · simp_all
  · (refine zF rfl ?_ ?_ ?_ ?_; (iterate 3 (focus ((try simp (disch := omega) only [go_sem, wrap_n]) <;> (try omega) <;> fail))); (try simp (disch := omega) only [go_sem, wrap_n, I, B, S, inj, List.cons.injEq, and_true, true_and, and_self]))
    refine head_no fun ⟨a1, a2, a3, a4, a5⟩ => ?_
    rcases hg' with ((h | h) | h) | h
    · omega
    · omega
    · exact h a3
    · exact h a4
  have hhead : headOk t := ⟨by omega, by omega, hc.1.1.2, hc.1.2, hc.2⟩
  have h400 : t.nodes.length ≤ 400 := by omega
  clear hc hg
  refine AWP.loopS (ι := Nat) (fun k => k ≤ t.sessions.length ∧ ∀ j, j < k → sessOk t.sessions j) (fun k => t.sessions.length - k) [1, 50, 51] (fun k => [(52, I k)]) 0 ?_ (by simp (disch := omega) only [go_sem, wrap_n, true_and]) ?_
  · exact ⟨by omega, fun j hj => by omega⟩
  intro k ⟨hk, hk2⟩
  simp only [go_sem]
  (repeat' first
| (with_reducible refine AR.f ?_)
| refine blkA_x (by decide) ?_
| (with_reducible refine AWP.cond rfl ?_ ?_ <;> intro hc <;> (try simp only [hcs, beq_iff_eq, ge_iff_le, gt_iff_lt] at hc))
| ((first | ((first | (with_reducible first | refine zR ?_ | refine zQ (by decide +kernel) ?_ | refine zD (by decide +kernel) ?_ | refine zE (by decide +kernel) ?_ | refine zG (by decide +kernel) ?_)); intro K hK) | ((first | (with_reducible refine aunder_i ?_ ?_ <;> intro hg) | with_reducible intro hg) <;> (first | (exfalso; simp at hg; done) | (have hg' := hg; (try simp only [hcs, beq_iff_eq, ge_iff_le, gt_iff_lt] at hg'); (try simp only [hg]))))) <;> (try simp (disch := omega) only [go_sem, wrap_n, toNat_pr2]) <;> (repeat' with_reducible refine And.intro ?_ ?_) <;> (try (with_reducible refine hK _ ?_; clear hK K)))
| omega)
  · (refine zF rfl ?_ ?_ ?_ ?_; (iterate 3 (focus ((try simp (disch := omega) only [go_sem, wrap_n]) <;> (try omega) <;> fail))); (try simp (disch := omega) only [go_sem, wrap_n, I, B, S, inj, List.cons.injEq, and_true, true_and, and_self]))
    refine sess_no (k := k) (by omega) fun ⟨a1, a2, a3⟩ => ?_
    rcases hc with (h | h) | h
    · omega
    · omega
    · exact absurd (a3 (by omega)) (by omega)
  · refine ⟨k + 1, ⟨by omega, fun j hj => ?_⟩, by omega, ?_⟩
    · by_cases e : j = k
      · subst e; exact ⟨hc.1.1, hc.1.2, fun h0 => hc.2.resolve_left (by omega)⟩
      · exact hk2 j (by omega)
    (refine SImp.same ?_; simp (disch := omega) only [go_sem, wrap_n, Int.natCast_add])
  have hss : ∀ j, j < t.sessions.length → sessOk t.sessions j := fun j hj => hk2 j (by omega)
  have hri := rises_sess hss
  clear hk2 hk hc
  refine AWP.loopB (ι := Nat × List (List UInt8 × Int)) (fun v => TLoop t v.1 v.2) (fun v => t.nodes.length - v.1) [1, 5, 80, 81] (fun v => [(82, I v.1)]) (fun v => [.cells [.d (.int .i64 t.zxid), .d (.sl 9 (t.nodes.map ANode.row)), .d (.sl 1 (t.sessions.map irow))], .map v.2]) (0, []) ?_ ?_ ?_
  · exact ⟨by simp, fun j hj => by simp at hj, fun p hp => rfl⟩
  · simp only [go_sem]; (refine SImp.same ?_; simp (disch := omega) only [go_sem, wrap_n, Int.natCast_add])
  intro ⟨i, m⟩ hT
  simp only at hT
  have hokk := (hok i).1
  have hokd := (hok i).2
  have hle := hT.le
  simp only [go_sem]
  (repeat' first
| (with_reducible refine AR.f ?_)
| refine blkA_x (by decide) ?_
| (with_reducible refine AWP.cond rfl ?_ ?_ <;> intro hc <;> (try simp only [hcs, beq_iff_eq, ge_iff_le, gt_iff_lt] at hc))
| ((first | ((first | (with_reducible first | refine zR ?_ | refine zQ (by decide +kernel) ?_ | refine zD (by decide +kernel) ?_ | refine zE (by decide +kernel) ?_ | refine zG (by decide +kernel) ?_)); intro K hK) | ((first | refine acallH_sc (good_c _ hokk) rfl rfl ?_ ?_ ?_ | refine acallQ_sc (good_c _ hokk) rfl rfl ?_ ?_ ?_ | refine acallH_sc (open_c t _ hs hri) rfl rfl ?_ ?_ ?_ | refine acallQ_sc (open_c t _ hs hri) rfl rfl ?_ ?_ ?_ | refine acallH_sc (split_c _ hokk) rfl rfl ?_ ?_ ?_ | refine acallQ_sc (split_c _ hokk) rfl rfl ?_ ?_ ?_ | refine acallH_sc (findU_c t _ hn) rfl rfl ?_ ?_ ?_ | refine acallQ_sc (findU_c t _ hn) rfl rfl ?_ ?_ ?_); iterate 2 (focus ((try simp (disch := omega) only [go_sem, wrap_n, toNat_pr2, strLt_eq, List.append_eq]) <;> (try omega) <;> fail))) | ((first | refine zN (good_c _ hokk) rfl ?_ ?_ | refine zN (open_c t _ hs hri) rfl ?_ ?_ | refine zN (split_c _ hokk) rfl ?_ ?_ | refine zN (findU_c t _ hn) rfl ?_ ?_); (focus ((try simp (disch := omega) only [go_sem, wrap_n, toNat_pr2, strLt_eq, List.append_eq]) <;> (try omega) <;> fail))) | (first | ((first | refine zX (good_c _ hokk) rfl ?_ ?_ | refine acallH_anyx (good_c _ hokk) ?_ ?_); (focus ((try simp (disch := omega) only [go_sem, wrap_n, toNat_pr2, strLt_eq, List.append_eq]) <;> (try omega) <;> fail))) | ((first | refine zX (open_c t _ hs hri) rfl ?_ ?_ | refine acallH_anyx (open_c t _ hs hri) ?_ ?_); (focus ((try simp (disch := omega) only [go_sem, wrap_n, toNat_pr2, strLt_eq, List.append_eq]) <;> (try omega) <;> fail))) | ((first | refine zX (split_c _ hokk) rfl ?_ ?_ | refine acallH_anyx (split_c _ hokk) ?_ ?_); (focus ((try simp (disch := omega) only [go_sem, wrap_n, toNat_pr2, strLt_eq, List.append_eq]) <;> (try omega) <;> fail))) | ((first | refine zX (findU_c t _ hn) rfl ?_ ?_ | refine acallH_anyx (findU_c t _ hn) ?_ ?_); (focus ((try simp (disch := omega) only [go_sem, wrap_n, toNat_pr2, strLt_eq, List.append_eq]) <;> (try omega) <;> fail)))) | ((first | (with_reducible refine aunder_i ?_ ?_ <;> intro hg) | with_reducible intro hg) <;> (first | (exfalso; simp at hg; done) | (have hg' := hg; (try simp only [hcs, beq_iff_eq, ge_iff_le, gt_iff_lt] at hg'); (try simp only [hg]))))) <;> (try simp (disch := omega) only [go_sem, wrap_n, toNat_pr2, strLt_eq, List.append_eq]) <;> (repeat' with_reducible refine And.intro ?_ ?_) <;> (try (with_reducible refine hK _ ?_; clear hK K)))
| omega)
  · (refine zF rfl ?_ ?_ ?_ ?_; (iterate 3 (focus ((try simp (disch := omega) only [go_sem, wrap_n]) <;> (try omega) <;> fail))); (try simp (disch := omega) only [go_sem, wrap_n, I, B, S, inj, List.cons.injEq, and_true, true_and, and_self]))
    refine (goodTr_no fun h2 => ?_).symm
    obtain ⟨a1, a2, a3⟩ := (goodTr_iff.1 h2).2.2.1 i (by assumption)
    obtain ⟨b1, b2, b3, b4, b5, b6, b7, b8, b9⟩ := ((goodTr_iff.1 h2).2.2.2 i (by assumption)).1
    unfold nd at a1 a2 a3 b1 b2 b3 b4 b5 b6 b7 b8 b9
    rcases hc with ((((((((((h | h) | h) | h) | h) | h) | h) | h) | h) | h) | h) | h
    · rw [a1] at h; cases h
    · omega
    · exact h.2 (a3 (by omega))
    all_goals omega
  · (refine zF rfl ?_ ?_ ?_ ?_; (iterate 3 (focus ((try simp (disch := omega) only [go_sem, wrap_n]) <;> (try omega) <;> fail))); (try simp (disch := omega) only [go_sem, wrap_n, I, B, S, inj, List.cons.injEq, and_true, true_and, and_self]))
    exact own_no (i := i) (by assumption) hg' hc
  · (refine zF rfl ?_ ?_ ?_ ?_; (iterate 3 (focus ((try simp (disch := omega) only [go_sem, wrap_n]) <;> (try omega) <;> fail))); (try simp (disch := omega) only [go_sem, wrap_n, I, B, S, inj, List.cons.injEq, and_true, true_and, and_self]))
    exact up_no (i := i) (by assumption) (by assumption) hc
  · refine ⟨(i + 1, _), tloop_a hT (by assumption) (by assumption) (own_yes (by assumption)) (by assumption) hc, by simp only; omega, ?_⟩
    have hw1 := tloop_w hT h400 (by assumption)
    unfold nd at hw1 ⊢
    (refine SImp.frame [0, 1] rfl (by intro k hk; first | (simp at hk <;> (simp; omega)) | (simp only [List.mem_cons, List.not_mem_nil, or_false] at hk; simp only [List.length_cons, List.length_nil]; omega)) (by decide) (fun k hk => by first | omega | (rcases k with _ | _ | _ | _ | _ | _ | _ | _ | k <;> first | rfl | omega)) ?_ ?_ <;> simp (disch := omega) only [go_sem, wrap_n, Int.natCast_add, hw1] <;> (try rfl))
  · refine ⟨(i + 1, m), tloop_b hT hhead (by assumption) (by assumption) (own_yes (by assumption)) hc, by simp only; omega, ?_⟩
    (refine SImp.frame [0, 1] rfl (by intro k hk; first | (simp at hk <;> (simp; omega)) | (simp only [List.mem_cons, List.not_mem_nil, or_false] at hk; simp only [List.length_cons, List.length_nil]; omega)) (by decide) (fun k hk => by first | omega | (rcases k with _ | _ | _ | _ | _ | _ | _ | _ | k <;> first | rfl | omega)) ?_ ?_ <;> simp (disch := omega) only [go_sem, wrap_n, Int.natCast_add, true_and] <;> (try rfl))
  · (refine zF rfl ?_ ?_ ?_ ?_; (iterate 3 (focus ((try simp (disch := omega) only [go_sem, wrap_n]) <;> (try omega) <;> fail))); (try simp (disch := omega) only [go_sem, wrap_n, I, B, S, inj, List.cons.injEq, and_true, true_and, and_self]))
    exact up_no (i := i) (by assumption) (by assumption) hc
  · refine ⟨(i + 1, _), tloop_a hT (by assumption) (by assumption) (own_zero hg') (by assumption) hc, by simp only; omega, ?_⟩
    have hw1 := tloop_w hT h400 (by assumption)
    unfold nd at hw1 ⊢
    (refine SImp.frame [0, 1] rfl (by intro k hk; first | (simp at hk <;> (simp; omega)) | (simp only [List.mem_cons, List.not_mem_nil, or_false] at hk; simp only [List.length_cons, List.length_nil]; omega)) (by decide) (fun k hk => by first | omega | (rcases k with _ | _ | _ | _ | _ | _ | _ | _ | k <;> first | rfl | omega)) ?_ ?_ <;> simp (disch := omega) only [go_sem, wrap_n, Int.natCast_add, hw1] <;> (try rfl))
  · refine ⟨(i + 1, m), tloop_b hT hhead (by assumption) (by assumption) (own_zero hg') hc, by simp only; omega, ?_⟩
    (refine SImp.frame [0, 1] rfl (by intro k hk; first | (simp at hk <;> (simp; omega)) | (simp only [List.mem_cons, List.not_mem_nil, or_false] at hk; simp only [List.length_cons, List.length_nil]; omega)) (by decide) (fun k hk => by first | omega | (rcases k with _ | _ | _ | _ | _ | _ | _ | _ | k <;> first | rfl | omega)) ?_ ?_ <;> simp (disch := omega) only [go_sem, wrap_n, Int.natCast_add, true_and] <;> (try rfl))
  obtain rfl : i = t.nodes.length := by omega
  clear hc
  refine AWP.loopB (ι := Nat) (fun k => k ≤ t.nodes.length ∧ ∀ j, j < k → (nd t j).stat.kids = mval m (nd t j).path) (fun k => t.nodes.length - k) [5, 206, 207] (fun k => [(208, I k)]) (fun k => [.cells [.d (.int .i64 t.zxid), .d (.sl 9 (t.nodes.map ANode.row)), .d (.sl 1 (t.sessions.map irow))], .map m]) 0 ?_ ?_ ?_
  · exact ⟨by omega, fun j hj => by omega⟩
  · simp only [go_sem]; (refine SImp.same ?_; simp (disch := omega) only [go_sem, wrap_n, Int.natCast_add])
  intro j ⟨hj, hj2⟩
  simp only [go_sem]
  (repeat' first
| (with_reducible refine AR.f ?_)
| refine blkA_x (by decide) ?_
| (with_reducible refine AWP.cond rfl ?_ ?_ <;> intro hc <;> (try simp only [hcs, beq_iff_eq, ge_iff_le, gt_iff_lt] at hc))
| ((first | ((first | (with_reducible first | refine zR ?_ | refine zQ (by decide +kernel) ?_ | refine zD (by decide +kernel) ?_ | refine zE (by decide +kernel) ?_ | refine zG (by decide +kernel) ?_)); intro K hK) | ((first | (with_reducible refine aunder_i ?_ ?_ <;> intro hg) | with_reducible intro hg) <;> (first | (exfalso; simp at hg; done) | (have hg' := hg; (try simp only [hcs, beq_iff_eq, ge_iff_le, gt_iff_lt] at hg'); (try simp only [hg]))))) <;> (try simp (disch := omega) only [go_sem, wrap_n]) <;> (repeat' with_reducible refine And.intro ?_ ?_) <;> (try (with_reducible refine hK _ ?_; clear hK K)))
| omega)
  · (refine zF rfl ?_ ?_ ?_ ?_; (iterate 3 (focus ((try simp (disch := omega) only [go_sem, wrap_n]) <;> (try omega) <;> fail))); (try simp (disch := omega) only [go_sem, wrap_n, I, B, S, inj, List.cons.injEq, and_true, true_and, and_self]))
    exact kids_no (k := j) hT (by assumption) hc
  · refine ⟨j + 1, ⟨by omega, fun q hq => ?_⟩, by omega, ?_⟩
    · by_cases e : q = j
      · subst e; exact hc
      · exact hj2 q (by omega)
    (refine SImp.frame [0, 1] rfl (by intro k hk; first | (simp at hk <;> (simp; omega)) | (simp only [List.mem_cons, List.not_mem_nil, or_false] at hk; simp only [List.length_cons, List.length_nil]; omega)) (by decide) (fun k hk => by first | omega | (rcases k with _ | _ | _ | _ | _ | _ | _ | _ | k <;> first | rfl | omega)) ?_ ?_ <;> simp (disch := omega) only [go_sem, wrap_n, Int.natCast_add, true_and] <;> (try rfl))
  · (refine zF rfl ?_ ?_ ?_ ?_; (iterate 3 (focus ((try simp (disch := omega) only [go_sem, wrap_n]) <;> (try omega) <;> fail))); (try simp (disch := omega) only [go_sem, wrap_n, I, B, S, inj, List.cons.injEq, and_true, true_and, and_self]))
    exact (tgood_end hhead hss hT (fun q hq => hj2 q (by omega))).symm
end Go.Proofs.YtmpfhalheaeibaaDoor
