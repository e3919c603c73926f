/- A part of what PrepMakes leans on: texts of this claim, one behind the other. No condition. -/
import Derived.RangeFuncNested
import Derived.RangeFuncBound
import Derived.RangeFuncCalls
import Derived.RangeFuncLeaves
import Derived.Shelf.Abstract
import Derived.Shelf.RegionOpen
import Derived.WalkKit
import Derived.OwnWalkIn
import Derived.TacticsInMore
import Derived.LoopNIn
import Derived.LoopIn
import Derived.Laws.BitsAllLaws
import Derived.Laws.BitsLemmas
import Derived.IntWalk
import Derived.Test.YtmpfhalheaeibaaDoorPrepMakesK6
namespace Go.Proofs.YtmpfhalheaeibaaDoor
set_option linter.unusedVariables false
set_option linter.unusedSimpArgs false
open Go Go.RowKit Go.Shelf
attribute [local go_sem] Oper.semAt_some
set_option maxRecDepth 100000
set_option linter.unusedSimpArgs false
def lenAt (W : World) (b : Nat) : Nat := match W.cell? ⟨b, 0, none⟩ with
  | some (.string s) => s.size
  | _ => 0
def splitB : List UInt8 → List (List UInt8)
  | [] => [[]]
  | c :: r => if c = 47 then [] :: splitB r else match splitB r with
    | p :: ps => (c :: p) :: ps
    | [] => [[c]]
def allNamed (r : List UInt8) : Bool := (splitB r).all namedP
theorem splitB_ne (r : List UInt8) : splitB r ≠ [] := by
  induction r with
  | nil => simp [splitB]
  | cons c r ih =>
    unfold splitB
    split
    · simp
    · split <;> simp
theorem idx_cases (r : List UInt8) : (Lib.indexByte r 47 = -1 ∧ splitB r = [r]) ∨ ∃ i : Nat, Lib.indexByte r 47 = (i : Int) ∧ i < r.length ∧ splitB r = r.take i :: splitB (r.drop (i + 1)) := by
  induction r with
  | nil => exact .inl ⟨rfl, rfl⟩
  | cons c r ih =>
    by_cases h : c = 47
    · subst h
      exact .inr ⟨0, by simp [Lib.indexByte], by simp, by simp [splitB]⟩
    · rcases ih with ⟨e1, e2⟩ | ⟨i, e1, e2, e3⟩
      · refine .inl ⟨by simp [Lib.indexByte, h, e1], by simp [splitB, h, e2]⟩
      · refine .inr ⟨i + 1, ?_, by simp; omega, by simp [splitB, h, e3]⟩
        simp only [Lib.indexByte, e1]
        rw [if_neg (by simpa using h), if_neg (by simp)]
        omega
theorem index_calls (r : List UInt8) (W : World) (ht : TabsAt W) : Calls Tryd.prog 182 #[mkStr r, mkStr [47]] W fun e W' => e = .returned (.int .i64 (Lib.indexByte r 47)) ∧ Below W.heap.size W W' :=
  calls_of_acall (index1_c r 47) rfl rfl W ht
set_option maxHeartbeats 2000000 in
theorem split1 (n l Bs Bp Bv : Nat) (J : List UInt8 → World → Prop) (Jx : World → Prop)
    (hc : ∀ r W, J r W → W.cell? ⟨Bs, 0, none⟩ = some (mkStr r) ∧ W.frozen? ⟨Bs, 0, none⟩ = false ∧ W.cell? ⟨Bp, 0, none⟩ = some (mkStr [47]) ∧ W.cell? ⟨Bv, 0, none⟩ = some (.int .i64 0))
    (hs : ∀ r r' W, J r W → J r' (W.setCell ⟨Bs, 0, none⟩ (mkStr r'))) (hb : ∀ r W W', J r W → Below W.heap.size W W' → J r W') (ht : ∀ r W, J r W → TabsAt W)
    (hY : ∀ r W p, J r W → p.length ≤ 200 → YieldAt Fence.wide (n - 1) Tryd.prog l #[mkStr p] W (fun e W' => (e = .returned (.bool true) ∧ namedP p = true ∧ J r W') ∨ (e = .returned (.bool false) ∧ namedP p = false ∧ Jx W')))
    (r0 : List UInt8) (hr0 : r0.length ≤ 200) (W : World) (h0 : J r0 W) :
    CallsIn Fence.wide n Tryd.prog 180 #[.func (.yield l) #[] #[], .pointer (some ⟨Bp, 0, none⟩), .pointer (some ⟨Bs, 0, none⟩), .pointer (some ⟨Bv, 0, none⟩)] W fun e W' =>
      (∃ v, e = .returned v) ∧ ((allNamed r0 = true ∧ ∃ r, J r W') ∨ (allNamed r0 = false ∧ Jx W')) := by
  refine callsIn_of_wp Tryd.func180 rfl trivial ?_ rfl
  simp only [Tryd.ntmps180, List.size_toArray, List.length_cons, List.length_nil, Nat.reduceAdd, Nat.reduceSub, Array.replicate_succ, Array.replicate_zero, List.push_toArray, List.append_toArray, List.nil_append, List.cons_append]
  unfold mkStr at hc
  obtain ⟨h1, h2, h3, h4⟩ := hc _ _ h0
  gi_wp2
  gi_loopw [] (fun wr => ∃ r, J r wr ∧ r.length ≤ 200 ∧ allNamed r0 = allNamed r) (fun wr => lenAt wr Bs)
  case atStart => exact ⟨r0, h0, hr0, rfl⟩
  case round =>
    obtain ⟨r, hJ, hrl, hal⟩ := hrel
    obtain ⟨q1, q2, q3, q4⟩ := hc _ _ hJ
    have hm0 : lenAt wr Bs = r.length := by unfold lenAt; rw [q1]; simp [ByteArray.size]
    gi_wp2
    refine ⟨trivial, fun h => by simp [Fence.wide] at h, (callsIn_wide.2 (show Calls _ _ #[.string ⟨r.toArray⟩, .string ⟨#[47]⟩] _ _ from index_calls r wr (ht _ _ hJ))).mono ?_⟩
    rintro e w' ⟨rfl, hbl⟩
    have hJ' := hb _ _ _ hJ hbl
    clear q1 q2 q3 q4
    obtain ⟨q1, q2, q3, q4⟩ := hc _ _ hJ'
    rcases idx_cases r with ⟨ei, es⟩ | ⟨i, ei, hil, es⟩
    · rw [ei]
      have ea : allNamed r = namedP r := by unfold allNamed; rw [es]; simp
      obtain ⟨fn, tmps, assign, body, hy, hR⟩ := hY r w' r hJ' hrl
      unfold mkStr at hy
      gi_wp2
      refine ⟨fun h => by simp [Fence.wide] at h, hR.mono ?_⟩
      rintro e W3 (⟨rfl, hn, hJ3⟩ | ⟨rfl, hn, hJx3⟩)
      · gi_wp2
        go_end0
        exact ⟨⟨_, rfl⟩, .inl ⟨by rw [hal, ea, hn], r, hJ3⟩⟩
      · gi_wp2
        go_end0
        exact ⟨⟨_, rfl⟩, .inr ⟨by rw [hal, ea, hn], hJx3⟩⟩
    · rw [ei]
      have e0 : mkStr (r.take i) = .string ((⟨r.toArray⟩ : ByteArray).extract 0 i) := by unfold mkStr; rw [mk_extract]; simp
      have ea : allNamed r = (namedP (r.take i) && allNamed (r.drop (i + 1))) := by unfold allNamed; rw [es]; simp
      obtain ⟨fn, tmps, assign, body, hy, hR⟩ := hY r w' (r.take i) hJ' (by rw [List.length_take]; omega)
      rw [e0] at hy
      gi_wp2
      refine ⟨fun h => by simp [Fence.wide] at h, hR.mono ?_⟩
      rintro e W3 (⟨rfl, hn, hJ3⟩ | ⟨rfl, hn, hJx3⟩)
      · obtain ⟨t1, t2, t3, t4⟩ := hc _ _ hJ3
        gi_wp2
        have e2 : Value.string ((⟨r.toArray⟩ : ByteArray).extract (i + 1) r.length) = mkStr (r.drop (i + 1)) := by
          unfold mkStr; rw [mk_extract, List.take_of_length_le (by simp)]
        have hJ4 := hs r (r.drop (i + 1)) W3 hJ3
        rw [e2]
        refine ⟨⟨_, hJ4, by rw [List.length_drop]; omega, by rw [hal, ea, hn]; rfl⟩, ?_⟩
        rw [hm0]
        unfold lenAt
        rw [(hc _ _ hJ4).1]
        simp [ByteArray.size]; omega
      · gi_wp2
        refine bodyPost_ret (results_none rfl _ _ _) rfl ?_
        exact ⟨⟨_, rfl⟩, .inr ⟨by rw [hal, ea, hn]; rfl, hJx3⟩⟩
theorem named_calls (p : List UInt8) (h : p.length ≤ 200) (W : World) (ht : TabsAt W) : Calls Tryd.prog 97 #[.string ⟨p.toArray⟩] W fun e W' => e = .returned (.bool (namedP p)) ∧ Below W.heap.size W W' :=
  calls_of_acall (named_c p (by unfold okS; omega)) rfl rfl W ht
theorem prefix_calls (p : List UInt8) (h : okS p) (W : World) (ht : TabsAt W) : Calls Tryd.prog 139 #[.string ⟨p.toArray⟩, .string ⟨#[47]⟩] W fun e W' => e = .returned (.bool (decide (1 ≤ p.length ∧ p.take 1 = [47]))) ∧ Below W.heap.size W W' :=
  calls_of_acall (hasPrefix_c p [47] (by unfold okS; decide) h) rfl rfl W ht
theorem splitSeq_w (s : List UInt8) (w : World) : Calls Tryd.prog 140 #[.string ⟨s.toArray⟩, .string ⟨#[47]⟩] w fun e w' =>
    e = .returned (.func (.func 180) #[] #[.pointer (some ⟨w.heap.size + 1, 0, none⟩), .pointer (some ⟨w.heap.size, 0, none⟩), .pointer (some ⟨w.heap.size + 2, 0, none⟩)]) ∧
      ∃ a b c, w' = ((w.alloc (.cells #[.string ⟨s.toArray⟩] a)).alloc (.cells #[.string ⟨#[47]⟩] b)).alloc (.cells #[.int .i64 0] c) := by
  go_enter Tryd.func140, Tryd.ntmps140
  go_wp2
  go_ret
  exact ⟨rfl, _, _, _, rfl⟩
def goodP (s : List UInt8) : Bool := decide (s = [47]) || (decide (s.length ≤ 200) && (decide (1 ≤ s.length ∧ s.take 1 = [47]) && allNamed (s.drop 1)))
structure GJ (w : World) (B : Nat) (rec : Loop) (r : List UInt8) (W : World) : Prop where
  below : Below w.heap.size w W
  res : W.cell? ⟨w.heap.size, 0, none⟩ = some (.bool false)
  resf : W.frozen? ⟨w.heap.size, 0, none⟩ = false
  s : W.cell? ⟨B, 0, none⟩ = some (mkStr r)
  sf : W.frozen? ⟨B, 0, none⟩ = false
  p : W.cell? ⟨B + 1, 0, none⟩ = some (mkStr [47])
  v : W.cell? ⟨B + 2, 0, none⟩ = some (.int .i64 0)
  d : W.heap[B + 3]? = some (.deferred (some []))
  l : W.heap[B + 4]? = some (.loop rec)
theorem cell_other {W : World} {k k' : Nat} {v : Value} (h : k ≠ k') : (W.setCell ⟨k, 0, none⟩ v).cell? ⟨k', 0, none⟩ = W.cell? ⟨k', 0, none⟩ := by
  have : (⟨k, 0, none⟩ : Addr) ≠ ⟨k', 0, none⟩ := fun e => h (by injection e)
  simp [World.cell?_setCell_other, this]
theorem heap_lt {W : World} {k : Nat} {o : Obj} (h : W.heap[k]? = some o) : k < W.heap.size := (Array.getElem?_eq_some_iff.1 h).1
section
variable {w W W' : World} {B : Nat} {rec : Loop} {r : List UInt8}
theorem GJ.write (hB : w.heap.size < B) (h : GJ w B rec r W) (r' : List UInt8) : GJ w B rec r' (W.setCell ⟨B, 0, none⟩ (mkStr r')) :=
  ⟨h.below.setCell (by simp only; omega) _, by rw [cell_other (by omega)]; exact h.res, by rw [World.frozen?_setCell]; exact h.resf, World.cell?_setCell_same' _ _ _ (by rw [h.s]; rfl), by rw [World.frozen?_setCell]; exact h.sf,
    by rw [cell_other (by omega)]; exact h.p, by rw [cell_other (by omega)]; exact h.v, by rw [Below.heap_setCell _ _ _ _ (by simp only; omega)]; exact h.d, by rw [Below.heap_setCell _ _ _ _ (by simp only; omega)]; exact h.l⟩
theorem GJ.mark (hB : w.heap.size < B) (h : GJ w B rec r W) : GJ w B rec r (W.setCell ⟨w.heap.size, 0, none⟩ (.bool false)) :=
  ⟨h.below.setCell (Nat.le_refl _) _, World.cell?_setCell_same' _ _ _ (by rw [h.res]; rfl), by rw [World.frozen?_setCell]; exact h.resf, by rw [cell_other (by omega)]; exact h.s, by rw [World.frozen?_setCell]; exact h.sf,
    by rw [cell_other (by omega)]; exact h.p, by rw [cell_other (by omega)]; exact h.v, by rw [Below.heap_setCell _ _ _ _ (by simp only; omega)]; exact h.d, by rw [Below.heap_setCell _ _ _ _ (by simp only; omega)]; exact h.l⟩
theorem GJ.grow (hB : w.heap.size < B) (h : GJ w B rec r W) (hb : Below W.heap.size W W') : GJ w B rec r W' := by
  have hl := heap_lt h.l
  exact ⟨h.below.trans (hb.mono h.below.size), by rw [hb.cell (by simp only; omega)]; exact h.res, by rw [hb.frozen (by simp only; omega)]; exact h.resf, by rw [hb.cell (by simp only; omega)]; exact h.s, by rw [hb.frozen (by simp only; omega)]; exact h.sf,
    by rw [hb.cell (by simp only; omega)]; exact h.p, by rw [hb.cell (by simp only; omega)]; exact h.v, by rw [hb.block _ (by omega)]; exact h.d, by rw [hb.block _ (by omega)]; exact h.l⟩
theorem GJ.turn (hB : w.heap.size < B) (h : GJ w B rec r W) (rec' : Loop) : GJ w B rec' r (W.putObj (B + 4) (.loop rec')) := by
  have hl := heap_lt h.l
  have hcell : ∀ k, k ≠ B + 4 → (W.putObj (B + 4) (.loop rec')).cell? ⟨k, 0, none⟩ = W.cell? ⟨k, 0, none⟩ := fun k hk => World.cell?_of_block (World.putObj_heap_other hk)
  have hfz : ∀ k, k ≠ B + 4 → (W.putObj (B + 4) (.loop rec')).frozen? ⟨k, 0, none⟩ = W.frozen? ⟨k, 0, none⟩ := fun k hk => World.frozen?_of_block (World.putObj_heap_other hk)
  exact ⟨h.below.trans ⟨rfl, rfl, rfl, by simp, fun k hk => World.putObj_heap_other (by omega)⟩, by rw [hcell _ (by omega)]; exact h.res, by rw [hfz _ (by omega)]; exact h.resf, by rw [hcell _ (by omega)]; exact h.s, by rw [hfz _ (by omega)]; exact h.sf,
    by rw [hcell _ (by omega)]; exact h.p, by rw [hcell _ (by omega)]; exact h.v, by rw [World.putObj_heap_other (by omega)]; exact h.d, World.putObj_heap_same hl⟩
end
theorem wpIn_split {assign body : Code} {Q : Exit → Act → World → Prop} {tm : Array Value} {pt : Tmp} {g : Operand} {w W0 : World} {B : Nat} (a₁ : Value → Act) (hB : w.heap.size < B) (htw : TabsAt w)
    (hg : Act.eval { tmps := tm, defers := [] } g = .func (.func 180) #[] #[.pointer (some ⟨B + 1, 0, none⟩), .pointer (some ⟨B, 0, none⟩), .pointer (some ⟨B + 2, 0, none⟩)])
    (r0 : List UInt8) (hr0 : r0.length ≤ 200) (hsz : W0.heap.size = B + 3) (hJ0 : ∀ rec, GJ w B rec r0 ((W0.alloc (.deferred (some []))).alloc (.loop rec)))
    (hassign : ∀ (l : Nat) (x : Value) (W : World) (K : Act → World → Prop), K (a₁ x) W → assign.wpIn (Fence.wide.inRound l) 7 Tryd.prog (Exit.then K (fun _ _ _ => False)) { tmps := tm.setIfInBounds pt x, defers := [] } W)
    (hbody : ∀ (l : Nat) (x : List UInt8) (W : World), TabsAt W → x.length ≤ 200 → w.heap.size < W.heap.size → W.cell? ⟨w.heap.size, 0, none⟩ = some (.bool false) → W.frozen? ⟨w.heap.size, 0, none⟩ = false →
      body.wpIn (Fence.wide.inRound l) 7 Tryd.prog (fun e _ W' => (e = .normal ∧ namedP x = true ∧ Below W.heap.size W W') ∨ (e = .ret ∧ namedP x = false ∧ ∃ W2, Below W.heap.size W W2 ∧ W' = W2.setCell ⟨w.heap.size, 0, none⟩ (.bool false))) (a₁ (mkStr x)) W)
    (hdone : ∀ (W : World) (rec : Loop) (r : List UInt8), allNamed r0 = true → GJ w B rec r W → Q .normal { tmps := tm, defers := [{ target := .collected (B + 3), args := #[] }] } W)
    (hstop : ∀ (W : World) (rec : Loop) (r : List UInt8), allNamed r0 = false → GJ w B rec r W → Code.ret.wpIn Fence.wide 9 Tryd.prog Q { tmps := tm, defers := [{ target := .collected (B + 3), args := #[] }] } W) :
    (Code.rangeFunc g #[pt] assign body).wpIn Fence.wide 9 Tryd.prog Q { tmps := tm, defers := [] } W0 := by
  refine wpIn_rangeFunc ?_
  intro fn hfn
  obtain ⟨rec, hrec⟩ : ∃ rec : LoopState → Option Code → Loop, rec = fun st pe => { state := st, pending := pe, fn := fn, tmps := tm, params := #[pt], assign := assign, body := body, defers := B + 3 } := ⟨_, rfl⟩
  have hr : ∀ st pe, rec st pe = { state := st, pending := pe, fn := fn, tmps := tm, params := #[pt], assign := assign, body := body, defers := B + 3 } := fun st pe => by rw [hrec]
  have hJ := hJ0 (rec .ready none)
  obtain ⟨W1, hW1⟩ : ∃ W1, (W0.alloc (.deferred (some []))).alloc (.loop (rec .ready none)) = W1 := ⟨_, rfl⟩
  rw [hW1] at hJ
  refine ⟨B + 4, [{ target := .collected (B + 3), args := #[] }], W1,
    { target := .fn (.func 180) #[.pointer (some ⟨B + 1, 0, none⟩), .pointer (some ⟨B, 0, none⟩), .pointer (some ⟨B + 2, 0, none⟩)], args := #[.func (.yield (B + 4)) #[] #[]] }, W1, 180,
    #[.func (.yield (B + 4)) #[] #[], .pointer (some ⟨B + 1, 0, none⟩), .pointer (some ⟨B, 0, none⟩), .pointer (some ⟨B + 2, 0, none⟩)], W1, ?_, ?_, fun _ _ => trivial, ?_, fun h => by simp [Fence.wide] at h, ?_⟩
  · have := run_enterLoop_outer (P := Tryd.prog) (w := W0) fn tm #[pt] assign body
    rw [hsz, show B + 3 + 1 = B + 4 from rfl, ← hr, hW1] at this
    exact this
  · simp only [resolve, hg]
    simp [go_sem]
  · simp [invoke, go_sem, enters_of Tryd.func180 (by kernel_rfl) rfl]
  · refine (split1 8 (B + 4) B (B + 1) (B + 2) (fun r W => GJ w B (rec .ready none) r W) (fun W => ∃ r, GJ w B (rec .done (some .ret)) r W) (fun r W h => ⟨h.s, h.sf, h.p, h.v⟩)
      (fun r r' W h => h.write hB r') (fun r W W' h hb => h.grow hB hb) (fun r W h => htw.below h.below) ?_ r0 hr0 W1 hJ).mono ?_
    · intro r W x hj hx
      have hy := run_yield (P := Tryd.prog) (args := #[mkStr x]) hj.l (by rw [hr]; rfl)
      rw [hr] at hy
      have hy2 : (Instr.yield (B + 4) #[mkStr x]).run Tryd.prog W = .ok (.round (B + 4) fn (tm.setIfInBounds pt (mkStr x)) assign body) W := by rw [hy]; simp
      refine ⟨fn, _, assign, body, hy2, roundIn_of_wpIn hfn ?_⟩
      refine hassign _ (mkStr x) W _ ?_
      refine ⟨_, run_beginRound hj.l (by rw [hr]), ?_⟩
      have hj2 := hj.turn hB ({ rec .ready none with state := .busy })
      have hl2 := heap_lt hj2.l
      have hl3 := Nat.lt_trans (show w.heap.size < B + 4 by omega) hl2
      refine wpIn_mono (hbody _ x _ (htw.below hj2.below) hx hl3 hj2.res hj2.resf) ?_
      rintro e a3 W3 (⟨rfl, hn, hb3⟩ | ⟨rfl, hn, W2, hb2, rfl⟩)
      · have hj3 := hj2.grow hB hb3
        have := run_endRound (P := Tryd.prog) none hj3.l
        refine ⟨_, _, this, .inl ⟨rfl, hn, ?_⟩⟩
        have hj4 := hj3.turn hB (rec .ready none)
        rw [hr] at hj4
        rw [hr]
        exact hj4
      · have hj3 := (hj2.grow hB hb2).mark hB
        have := run_endRound (P := Tryd.prog) (some .ret) hj3.l
        refine ⟨_, _, this, .inr ⟨rfl, hn, r, ?_⟩⟩
        have hj4 := hj3.turn hB (rec .done (some .ret))
        simp only [hr] at hj4 ⊢
        exact hj4
    · rintro e W2 ⟨⟨v, rfl⟩, (⟨ha, r, hj⟩ | ⟨ha, r, hj⟩)⟩
      · have := run_endLoop (P := Tryd.prog) hj.l (by rw [hr]; simp)
        exact ⟨_, _, this, by rw [hr]; exact hdone _ _ r ha (hj.turn hB _)⟩
      · have := run_endLoop (P := Tryd.prog) hj.l (by rw [hr]; simp)
        exact ⟨_, _, this, by rw [hr]; exact hstop _ _ r ha (hj.turn hB _)⟩
theorem three_cells {w w' : World} {r : List UInt8} (hb : Below w.heap.size w w') (hB : w.heap.size < w'.heap.size) (c1 : w'.cell? ⟨w.heap.size, 0, none⟩ = some (.bool false)) (c2 : w'.frozen? ⟨w.heap.size, 0, none⟩ = false) (ta tb tc : TypeId) (rec : Loop) :
    GJ w w'.heap.size rec r (((((w'.alloc (.cells #[.string ⟨r.toArray⟩] ta)).alloc (.cells #[.string ⟨#[47]⟩] tb)).alloc (.cells #[.int .i64 0] tc)).alloc (.deferred (some []))).alloc (.loop rec)) := by
  obtain ⟨W1, h1⟩ : ∃ W1, w'.alloc (.cells #[.string ⟨r.toArray⟩] ta) = W1 := ⟨_, rfl⟩
  have a1 := World.alloc_heap_new w' (.cells #[.string ⟨r.toArray⟩] ta)
  have s1 : W1.heap.size = w'.heap.size + 1 := by rw [← h1, World.size_alloc]
  have k1 : ∀ k, k < w'.heap.size → W1.heap[k]? = w'.heap[k]? := fun k hk => by rw [← h1]; exact Below.heap_alloc _ _ _ hk
  rw [h1] at a1 ⊢
  obtain ⟨W2, h2⟩ : ∃ W2, W1.alloc (.cells #[.string ⟨#[47]⟩] tb) = W2 := ⟨_, rfl⟩
  have a2 := World.alloc_heap_new W1 (.cells #[.string ⟨#[47]⟩] tb)
  have s2 : W2.heap.size = w'.heap.size + 2 := by rw [← h2, World.size_alloc, s1]
  have k2 : ∀ k, k < W1.heap.size → W2.heap[k]? = W1.heap[k]? := fun k hk => by rw [← h2]; exact Below.heap_alloc _ _ _ hk
  rw [h2, s1] at a2
  rw [h2]
  obtain ⟨W3, h3⟩ : ∃ W3, W2.alloc (.cells #[.int .i64 0] tc) = W3 := ⟨_, rfl⟩
  have a3 := World.alloc_heap_new W2 (.cells #[.int .i64 0] tc)
  have s3 : W3.heap.size = w'.heap.size + 3 := by rw [← h3, World.size_alloc, s2]
  have k3 : ∀ k, k < W2.heap.size → W3.heap[k]? = W2.heap[k]? := fun k hk => by rw [← h3]; exact Below.heap_alloc _ _ _ hk
  rw [h3, s2] at a3
  rw [h3]
  obtain ⟨W4, h4⟩ : ∃ W4, W3.alloc (.deferred (some [])) = W4 := ⟨_, rfl⟩
  have a4 := World.alloc_heap_new W3 (.deferred (some []))
  have s4 : W4.heap.size = w'.heap.size + 4 := by rw [← h4, World.size_alloc, s3]
  have k4 : ∀ k, k < W3.heap.size → W4.heap[k]? = W3.heap[k]? := fun k hk => by rw [← h4]; exact Below.heap_alloc _ _ _ hk
  rw [h4, s3] at a4
  rw [h4]
  obtain ⟨W5, h5⟩ : ∃ W5, W4.alloc (.loop rec) = W5 := ⟨_, rfl⟩
  have a5 := World.alloc_heap_new W4 (.loop rec)
  have s5 : W5.heap.size = w'.heap.size + 5 := by rw [← h5, World.size_alloc, s4]
  have k5 : ∀ k, k < W4.heap.size → W5.heap[k]? = W4.heap[k]? := fun k hk => by rw [← h5]; exact Below.heap_alloc _ _ _ hk
  rw [h5, s4] at a5
  rw [h5]
  have hbb : Below w'.heap.size w' W5 := by
    rw [← h5, ← h4, ← h3, ← h2, ← h1]
    exact (((((Below.refl _ w').alloc (Nat.le_refl _) _).alloc (by simp) _).alloc (by simp; omega) _).alloc (by simp; omega) _).alloc (by simp; omega) _
  have hk : ∀ k, k < w'.heap.size → W5.heap[k]? = w'.heap[k]? := fun k hk => hbb.block k hk
  have e0 : W5.heap[w'.heap.size]? = some (.cells #[.string ⟨r.toArray⟩] ta) := by rw [k5 _ (by omega), k4 _ (by omega), k3 _ (by omega), k2 _ (by omega)]; exact a1
  have e1 : W5.heap[w'.heap.size + 1]? = some (.cells #[.string ⟨#[47]⟩] tb) := by rw [k5 _ (by omega), k4 _ (by omega), k3 _ (by omega)]; exact a2
  have e2 : W5.heap[w'.heap.size + 2]? = some (.cells #[.int .i64 0] tc) := by rw [k5 _ (by omega), k4 _ (by omega)]; exact a3
  exact ⟨hb.trans (hbb.mono (by omega)), by rw [World.cell?_of_block (hk _ hB)]; exact c1, by rw [World.frozen?_of_block (hk _ hB)]; exact c2,
    by rw [cell_of_cells e0]; rfl, by rw [frozen_cells e0]; rfl, by rw [cell_of_cells e1]; rfl, by rw [cell_of_cells e2]; rfl, by rw [k5 _ (by omega)]; exact a4, a5⟩
theorem good_res (tmps : Array Value) (W : World) (b : Nat) (v : Bool) (ht : tmps.getD 2 undef = .pointer (some ⟨b, 0, none⟩)) (hc : W.cell? ⟨b, 0, none⟩ = some (.bool v)) : (results Tryd.f90 tmps).run Tryd.prog W = .ok (.bool v) W := by
  rw [results_eq, Tryd.results90]
  simp [resVar, ht, go_sem, hc]
theorem cell_new (W : World) (v : Value) (t : TypeId) : (W.alloc (.cells #[v] t)).cell? ⟨W.heap.size, 0, none⟩ = some v ∧ (W.alloc (.cells #[v] t)).frozen? ⟨W.heap.size, 0, none⟩ = false := by
  have e := World.alloc_heap_new W (.cells #[v] t)
  exact ⟨by rw [cell_of_cells e]; rfl, by rw [frozen_cells e]; rfl⟩
set_option maxHeartbeats 4000000 in
theorem good_in (s : List UInt8) (h : okS s) (w : World) (htw : TabsAt w) : CallsIn Fence.wide 9 Tryd.prog 90 #[.string ⟨s.toArray⟩] w fun e w' => e = .returned (.bool (goodP s)) ∧ Below w.heap.size w w' := by
  refine callsIn_of_wp_marks Tryd.func90 rfl trivial ?_ rfl
  simp only [Tryd.ntmps90, List.size_toArray, List.length_cons, List.length_nil, Nat.reduceAdd, Nat.reduceSub, Array.replicate_succ, Array.replicate_zero, List.push_toArray, List.append_toArray, List.nil_append, List.cons_append]
  have hA := cell_new w (.bool false) 4
  have hB := cell_new w (.bool true) 4
  have hbA : Below w.heap.size w (w.alloc (.cells #[.bool false] 4)) := (Below.refl _ w).alloc (Nat.le_refl _) _
  have hbB : Below w.heap.size w (w.alloc (.cells #[.bool true] 4)) := (Below.refl _ w).alloc (Nat.le_refl _) _
  by_cases h1 : s = [47]
  · subst h1
    gi_wp2
    exact ⟨_, good_res _ _ w.heap.size true rfl hB.1, rfl, hbB⟩
  have g1 : goodP s = (decide (s.length ≤ 200) && (decide (1 ≤ s.length ∧ s.take 1 = [47]) && allNamed (s.drop 1))) := by unfold goodP; rw [decide_eq_false h1, Bool.false_or]
  by_cases h2 : 200 < s.length
  · have g2 : goodP s = false := by rw [g1, decide_eq_false (by omega), Bool.false_and]
    gi_wp2
    · rename_i hx; exact absurd (by simpa using hx) h1
    · refine ⟨trivial, ?_⟩
      gi_wp2
      exact ⟨_, good_res _ _ w.heap.size false rfl hA.1, by rw [g2], hbA⟩
  · have g2 : goodP s = (decide (1 ≤ s.length ∧ s.take 1 = [47]) && allNamed (s.drop 1)) := by rw [g1, decide_eq_true (by omega), Bool.true_and]
    gi_wp2
    · rename_i hx; exact absurd (by simpa using hx) h1
    refine ⟨trivial, (callsIn_wide.2 (prefix_calls s h _ (htw.below hbA))).mono ?_⟩
    rintro e w' ⟨rfl, hbl⟩
    have hbl' := hbA.trans (hbl.mono hbA.size)
    have c1 : w'.cell? ⟨w.heap.size, 0, none⟩ = some (.bool false) := by rw [hbl.cell (by simp)]; exact hA.1
    have c2 : w'.frozen? ⟨w.heap.size, 0, none⟩ = false := by rw [hbl.frozen (by simp)]; exact hA.2
    have hszB : w.heap.size < w'.heap.size := by have := hbl.size; simp at this; omega
    by_cases h3 : 1 ≤ s.length ∧ s.take 1 = [47]
    · have g3 : goodP s = allNamed s.tail := by rw [g2, decide_eq_true h3, Bool.true_and, List.drop_one]
      rw [decide_eq_true h3]
      have e1 : (⟨s.toArray⟩ : ByteArray).extract 1 s.length = ⟨s.tail.toArray⟩ := by rw [mk_extract, List.take_of_length_le (by simp), List.drop_one]
      gi_wp2
      refine ⟨trivial, (callsIn_wide.2 (splitSeq_w s.tail w')).mono ?_⟩
      rintro e w2 ⟨rfl, ta, tb, tc, rfl⟩
      gi_wp2
      refine wpIn_split (w := w) (B := w'.heap.size) (fun x => { tmps := #[.string ⟨s.toArray⟩, undef, .pointer (some ⟨w.heap.size, 0, none⟩), x, .string ⟨s.toArray⟩, .bool false, .string ⟨s.toArray⟩, .int .i64 s.length, .bool (decide (200 < (s.length : Int))), .bool (decide (200 < (s.length : Int))), .string ⟨s.toArray⟩, .bool true, .bool false, .bool (decide (200 < (s.length : Int))), .string ⟨s.toArray⟩, .string ⟨s.tail.toArray⟩, .func (.func 180) #[] #[.pointer (some ⟨w'.heap.size + 1, 0, none⟩), .pointer (some ⟨w'.heap.size, 0, none⟩), .pointer (some ⟨w'.heap.size + 2, 0, none⟩)], x, undef, undef, undef], defers := [] })
        hszB htw rfl s.tail (by simp; omega) (by simp [World.size_alloc]) (fun rec => three_cells hbl' hszB c1 c2 _ _ _ _) ?_ ?_ ?_ ?_
      · intro l x W K hK
        gi_wp2
        exact hK
      · intro l x W htW hx hlt q1 q2
        gi_wp2
        refine ⟨trivial, ((callsIn_wide.2 (named_calls x hx W htW)).inRound l).mono ?_⟩
        rintro e w3 ⟨rfl, hb3⟩
        have u1 : w3.cell? ⟨w.heap.size, 0, none⟩ = some (.bool false) := by rw [hb3.cell (by simp only; omega)]; exact q1
        have u2 : w3.frozen? ⟨w.heap.size, 0, none⟩ = false := by rw [hb3.frozen (by simp only; omega)]; exact q2
        by_cases hn : namedP x = true
        · rw [hn]
          gi_wp2
        · rw [Bool.not_eq_true] at hn
          rw [hn]
          gi_wp2
          exact ⟨w3, hb3, rfl⟩
      · intro W rec r ha hj
        have r1 := hj.res
        have r2 := hj.resf
        gi_wp2
        refine ⟨by simp, .inl ⟨_, _, rfl, run_takeDeferred (ds := []) (by rw [Below.heap_setCell _ _ _ _ (by simp only; omega)]; exact hj.d), ?_⟩⟩
        refine ⟨_, good_res _ _ w.heap.size true rfl ?_, by rw [g3, ha], ?_⟩
        · rw [World.cell?_of_block (World.putObj_heap_other (by simp only; omega))]
          exact World.cell?_setCell_same' _ _ _ (by rw [r1]; rfl)
        · exact (hj.below.setCell (by simp) _).trans ⟨rfl, rfl, rfl, by simp, fun k hk => World.putObj_heap_other (by omega)⟩
      · intro W rec r ha hj
        gi_wp2
        refine ⟨by simp, .inl ⟨_, _, rfl, run_takeDeferred (ds := []) hj.d, ?_⟩⟩
        refine ⟨_, good_res _ _ w.heap.size false rfl ?_, by rw [g3, ha], ?_⟩
        · rw [World.cell?_of_block (World.putObj_heap_other (by simp only; omega))]
          exact hj.res
        · exact hj.below.trans ⟨rfl, rfl, rfl, by simp, fun k hk => World.putObj_heap_other (by omega)⟩
    · have g3 : goodP s = false := by rw [g2, decide_eq_false h3, Bool.false_and]
      rw [decide_eq_false h3]
      gi_wp2
      exact ⟨_, good_res _ _ w.heap.size false rfl (World.cell?_setCell_same' _ _ _ (by rw [c1]; rfl)), by rw [g3], hbl'.setCell (by simp) _⟩
theorem acall_of_below {P : Program} {g : FuncId} {xs : List AV} {x : AV} {us : List Value} {u : Value} (hg : goFn P g) (hxs : scalL xs = some us) (hx : scalV x = some u)
    (h : ∀ w : World, TabsAt w → Calls P g us.toArray w fun e w' => e = .returned u ∧ Below w.heap.size w w') : acall P [] g xs (ret x) := by
  refine ⟨hg, fun E w vs hw hH hvs => ?_⟩
  have e : vs = us := by
    obtain ⟨h1, h2⟩ := scalL_get hxs
    refine List.ext_getElem? fun j => ?_
    by_cases hj : j < xs.length
    · obtain ⟨u', hu, hs⟩ := h2 j _ (List.getElem?_eq_getElem hj)
      have hv : vs[j]? = some (vs[j]'(by rw [hvs.1]; exact hj)) := List.getElem?_eq_getElem _
      rw [hv, hu, scal_eq (hvs.2 j _ _ (List.getElem?_eq_getElem hj) hv) u' hs]
    · rw [List.getElem?_eq_none (by rw [hvs.1]; omega), List.getElem?_eq_none (by omega)]
  subst e
  refine (h w (hw ▸ E.hT)).mono fun e w' ⟨h1, h2⟩ => ?_
  have h0 : E.ρ0 = [] := List.eq_nil_of_length_eq_zero (by rw [hH.len]; rfl)
  refine ⟨u, x, [], [], h1, ⟨rfl, rfl⟩, ?_, fun k p hk => ?_, scal_rep x u hx⟩
  · rw [h0] at hH; exact hH.below h2
  · rw [h0] at hk; exact hk
theorem good_c (s : List UInt8) (h : okS s) : acall Tryd.prog [] 90 [S s] (ret (B (goodP s))) :=
  acall_of_below ⟨_, Tryd.func90, by kernel_rfl, by kernel_rfl⟩ rfl rfl fun w ht => callsIn_wide.1 (good_in s h w ht)
end Go.Proofs.YtmpfhalheaeibaaDoor
namespace Go.Proofs.YtmpfhalheaeibaaDoor
set_option linter.unusedVariables false
set_option linter.unusedSimpArgs false
open Go Go.RowKit
set_option maxRecDepth 100000
set_option linter.unusedSimpArgs false
theorem splitB_len (r : List UInt8) : 0 < (splitB r).length := by
  have := splitB_ne r
  exact List.length_pos_iff.2 this
theorem splitB_snoc (a : List UInt8) (c : UInt8) : splitB (a ++ [c]) = if c = 47 then splitB a ++ [[]] else (splitB a).set ((splitB a).length - 1) ((splitB a).getD ((splitB a).length - 1) [] ++ [c]) := by
  induction a with
  | nil => by_cases h : c = 47 <;> simp [splitB, h]
  | cons x a ih =>
    have hl := splitB_len a
    by_cases hx : x = 47
    · have e : splitB (x :: a ++ [c]) = [] :: splitB (a ++ [c]) := by simp [splitB, hx]
      have e2 : splitB (x :: a) = [] :: splitB a := by simp [splitB, hx]
      rw [e, e2, ih]
      by_cases h : c = 47
      · simp [h]
      · rw [if_neg h, if_neg h]
        obtain ⟨n, hn⟩ : ∃ n, (splitB a).length = n + 1 := ⟨_, (Nat.succ_pred_eq_of_pos hl).symm⟩
        simp [hn]
    · cases hp : splitB a with
      | nil => exact absurd hp (splitB_ne a)
      | cons p ps =>
        have e2 : splitB (x :: a) = (x :: p) :: ps := by simp [splitB, hx, hp]
        rw [hp] at ih
        have e : ∀ q qs, splitB (a ++ [c]) = q :: qs → splitB (x :: a ++ [c]) = (x :: q) :: qs := fun q qs hq => by
          show splitB (x :: (a ++ [c])) = _
          rw [splitB, if_neg hx, hq]
        by_cases h : c = 47
        · rw [if_pos h] at ih ⊢
          rw [e _ _ ih, e2]; rfl
        · rw [if_neg h] at ih ⊢
          cases ps with
          | nil => rw [e _ _ ih, e2]; rfl
          | cons q qs =>
            have ih2 : splitB (a ++ [c]) = p :: (q :: qs).set qs.length ((q :: qs).getD qs.length [] ++ [c]) := by rw [ih]; rfl
            rw [e _ _ ih2, e2]; rfl
theorem splitB_take (s : List UInt8) (k : Nat) (h : k < s.length) : splitB (s.take (k + 1)) = if s.getD k 0 = 47 then splitB (s.take k) ++ [[]] else (splitB (s.take k)).set ((splitB (s.take k)).length - 1) ((splitB (s.take k)).getD ((splitB (s.take k)).length - 1) [] ++ [s.getD k 0]) := by
  have : s.take (k + 1) = s.take k ++ [s.getD k 0] := take_snoc s k h
  rw [this, splitB_snoc]
theorem splitB_le (s : List UInt8) : (splitB s).length ≤ s.length + 1 := by
  induction s with
  | nil => simp [splitB]
  | cons c s ih =>
    unfold splitB
    split
    · simp; omega
    · split
      · rename_i e; rw [e] at ih; simp at ih ⊢; omega
      · simp
theorem splitB_nil : splitB [] = [[]] := rfl
theorem piece_le (s : List UInt8) : ∀ p, p ∈ splitB s → p.length ≤ s.length := by
  induction s with
  | nil => intro p hp; simp [splitB] at hp; simp [hp]
  | cons c s ih =>
    intro p hp
    unfold splitB at hp
    split at hp
    · rcases List.mem_cons.1 hp with rfl | hp
      · simp
      · have := ih p hp; simp; omega
    · split at hp
      · rename_i q qs e
        rcases List.mem_cons.1 hp with rfl | hp
        · have := ih q (by rw [e]; simp); simp; omega
        · have := ih p (by rw [e]; simp [hp]); simp; omega
      · simp at hp; subst hp; simp
theorem toNat_pr2 (n : Nat) : ((n : Int) - 1).toNat = n - 1 := by omega
theorem srow_rgetD (l : List (List UInt8)) (i : Nat) (z : List DV) (h : i < l.length) : (l.map srow).getD i z = srow (l.getD i []) := getD_row srow l i z h
theorem srow_rset (l : List (List UInt8)) (i : Nat) (x : List UInt8) : (l.map srow).set i [.str x] = (l.set i x).map srow := by rw [List.map_set]; rfl
theorem srow_rsnoc (l : List (List UInt8)) (x : List UInt8) : l.map srow ++ [[.str x]] = (l ++ [x]).map srow := by rw [List.map_append]; rfl
theorem okU8_one (b : UInt8) : okU8s [[.int .u8 (b.toNat : Int)]] = True := eq_true (okU8s_rows [b])
theorem u8_47 {b : UInt8} (h : (b.toNat : Int) = 47) : b = 47 := by
  have h2 : b.toNat = (47 : UInt8).toNat := by have : (47 : UInt8).toNat = 47 := rfl; omega
  exact UInt8.toNat_inj.1 h2
theorem take_drop_map (l : List (List UInt8)) : List.take (l.length - 1) (List.drop 1 (l.map srow)) = (l.drop 1).map srow := by
  rw [← List.map_drop]; exact List.take_of_length_le (by simp)
theorem steps_c (s : List UInt8) (h : s.length ≤ 1048576) : acall Tryd.prog [] 138 [S s] (ret (.d (.sl 1 ((splitB s).map srow)))) := by
  refine zi tabOk Tryd.func138 rfl (by kernel_rfl) (by simp [Tryd.ntmps138]) ?_; simp only [Tryd.ntmps138, Tryd.results138, List.toList_toArray, apar, List.length_nil, List.length_cons, Nat.reduceAdd]
  (repeat' first
| (with_reducible refine AR.f ?_)
| refine zb (by decide) ?_
| (with_reducible refine AWP.cond rfl ?_ ?_ <;> intro hc <;> (try simp only [hcs, beq_iff_eq, ge_iff_le, gt_iff_lt] at hc))
| ((first | ((first | (with_reducible first | refine zR ?_ | refine zQ (by decide +kernel) ?_ | refine zD (by decide +kernel) ?_ | refine zE (by decide +kernel) ?_ | refine zG (by decide +kernel) ?_)); intro K hK) | ((first | (with_reducible refine zu ?_ ?_ <;> intro hg) | with_reducible intro hg) <;> (first | (exfalso; simp at hg; done) | (have hg' := hg; (try simp only [hcs, beq_iff_eq, ge_iff_le, gt_iff_lt] at hg'); (try simp only [hg]))))) <;> (try simp (disch := omega) only [go_sem, wn]) <;> (repeat' with_reducible refine And.intro ?_ ?_) <;> (try (with_reducible refine hK _ ?_; clear hK K)))
| omega)
  refine AWP.loopB (ι := Nat) (fun k => k ≤ s.length) (fun k => s.length - k) [8, 9] (fun k => [(10, I k), (3, .osl 0 1 0 (splitB (s.take k)).length)]) (fun k => [.rows 1 ((splitB (s.take k)).map srow), .bytes s]) 0 ?_ ?_ ?_
  · omega
  · simp only [go_sem, splitB_nil, srow]; (refine SImp.same ?_; simp (disch := omega) only [go_sem, wn, Int.natCast_add, splitB_nil])
  intro k hk
  have hl := splitB_len (s.take k)
  have hle := splitB_le (s.take k)
  have htl : (s.take k).length = k := by simp; omega
  have hpl : ((splitB (s.take k)).getD ((splitB (s.take k)).length - 1) []).length ≤ k := by
    have := piece_le (s.take k) _ (mem_getD (splitB (s.take k)) [] (k := (splitB (s.take k)).length - 1) (by omega))
    omega
  simp only [go_sem]
  (repeat' first
| (with_reducible refine AR.f ?_)
| refine zb (by decide) ?_
| (with_reducible refine AWP.cond rfl ?_ ?_ <;> intro hc <;> (try simp only [hcs, beq_iff_eq, ge_iff_le, gt_iff_lt] at hc))
| ((first | ((first | refine zP (Plan.takes [0, 1, 2, 3, 4, 6] (.fork 5 (Plan.takes [7, 8, 9, 10, 11] .done) 7 (.fork 5 (Plan.takes [8, 9, 10, 11] .done) 8 (Plan.takes [5, 9, 10, 11] .done)))) (by decide +kernel) ?_ | (with_reducible first | refine zR ?_ | refine zQ (by decide +kernel) ?_ | refine zD (by decide +kernel) ?_ | refine zE (by decide +kernel) ?_ | refine zG (by decide +kernel) ?_)); intro K hK) | ((first | (with_reducible refine zu ?_ ?_ <;> intro hg) | with_reducible intro hg) <;> (first | (exfalso; simp at hg; done) | (have hg' := hg; (try simp only [hcs, beq_iff_eq, ge_iff_le, gt_iff_lt] at hg'); (try simp only [hg]))))) <;> (try simp (disch := omega) only [go_sem, wn, u8g, srow_rgetD, srow, srow_rset, srow_rsnoc, toNat_pr2, okU8_one, UInt8.ofNat_toNat]) <;> (repeat' with_reducible refine And.intro ?_ ?_) <;> (try (with_reducible refine hK _ ?_; clear hK K)))
| omega)
  · refine ⟨k + 1, by omega, by omega, ?_⟩
    rw [splitB_take _ _ (by assumption), if_pos (u8_47 hc)]
    (refine SImp.frame [3, 1] rfl (by intro k hk; first | (simp at hk <;> (simp; omega)) | (simp only [List.mem_cons, List.not_mem_nil, or_false] at hk; simp only [List.length_cons, List.length_nil]; omega)) (by decide) (fun k hk => by first | omega | (rcases k with _ | _ | _ | _ | _ | _ | _ | _ | k <;> first | rfl | omega)) ?_ ?_ <;> simp (disch := omega) only [go_sem, wn, Int.natCast_add, List.length_append] <;> (try rfl))
  iterate 3
    · refine ⟨k + 1, by omega, by omega, ?_⟩
      rw [splitB_take _ _ (by assumption), if_neg (fun e => hc (by rw [e]; rfl))]
      (refine SImp.frame [0, 1] rfl (by intro k hk; first | (simp at hk <;> (simp; omega)) | (simp only [List.mem_cons, List.not_mem_nil, or_false] at hk; simp only [List.length_cons, List.length_nil]; omega)) (by decide) (fun k hk => by first | omega | (rcases k with _ | _ | _ | _ | _ | _ | _ | _ | k <;> first | rfl | omega)) ?_ ?_ <;> simp (disch := omega) only [go_sem, wn, Int.natCast_add, List.length_set] <;> (try rfl))
  · have e : k = s.length := by omega
    subst e
    simp only [List.take_length]
    (refine zF rfl ?_ ?_ ?_ ?_; (iterate 3 (focus ((try simp (disch := omega) only [go_sem, wn]) <;> (try omega) <;> fail))); (try simp (disch := omega) only [go_sem, wn, I, B, S, inj, List.cons.injEq, and_true, true_and, and_self]))
def goodL (s : List UInt8) : Bool := decide (s = [47]) || (decide (s.length ≤ 200) && (decide ((splitB s).getD 0 [] = []) && (decide (2 ≤ (splitB s).length) && ((splitB s).drop 1).all namedP)))
theorem goodL_eq (s : List UInt8) : goodL s = goodP s := by
  unfold goodL goodP
  congr 2
  cases s with
  | nil => simp [splitB]
  | cons c r =>
    by_cases h : c = 47
    · subst h
      have := splitB_len r
      simp [splitB, allNamed]
      intro _; omega
    · have hn : ∃ p ps, splitB (c :: r) = (c :: p) :: ps := by
        cases hp : splitB r with
        | nil => exact absurd hp (splitB_ne r)
        | cons p ps => exact ⟨p, ps, by simp [splitB, h, hp]⟩
      obtain ⟨p, ps, e⟩ := hn
      rw [e]
      simp [h]
theorem ref_good_c (s : List UInt8) (h : s.length ≤ 1048576) : acall Tryd.prog [] 87 [S s] (ret (B (goodP s))) := by
  rw [← goodL_eq]
  have hl := splitB_len s
  refine zi tabOk Tryd.func87 rfl (by kernel_rfl) (by simp [Tryd.ntmps87]) ?_; simp only [Tryd.ntmps87, Tryd.results87, List.toList_toArray, apar, List.length_nil, List.length_cons, Nat.reduceAdd]
  (repeat' first
| (with_reducible refine AR.f ?_)
| refine zb (by decide) ?_
| (with_reducible refine AWP.cond rfl ?_ ?_ <;> intro hc <;> (try simp only [hcs, beq_iff_eq, ge_iff_le, gt_iff_lt] at hc))
| ((first | ((first | (with_reducible first | refine zR ?_ | refine zQ (by decide +kernel) ?_ | refine zD (by decide +kernel) ?_ | refine zE (by decide +kernel) ?_ | refine zG (by decide +kernel) ?_)); intro K hK) | ((first | refine zA (steps_c s h) ?_ ?_ ?_ ?_ ?_); (focus exact rfl); (focus exact rfl); iterate 2 (focus ((try simp (disch := omega) only [go_sem, wn, srow_rgetD, srow, take_drop_map, Nat.min_self]) <;> (try omega) <;> fail))) | ((first | refine zN (steps_c s h) rfl ?_ ?_); (focus ((try simp (disch := omega) only [go_sem, wn, srow_rgetD, srow, take_drop_map, Nat.min_self]) <;> (try omega) <;> fail))) | (first | ((first | refine zX (steps_c s h) rfl ?_ ?_ | refine zy (steps_c s h) ?_ ?_); (focus ((try simp (disch := omega) only [go_sem, wn, srow_rgetD, srow, take_drop_map, Nat.min_self]) <;> (try omega) <;> fail)))) | ((first | (with_reducible refine zu ?_ ?_ <;> intro hg) | with_reducible intro hg) <;> (first | (exfalso; simp at hg; done) | (have hg' := hg; (try simp only [hcs, beq_iff_eq, ge_iff_le, gt_iff_lt] at hg'); (try simp only [hg]))))) <;> (try simp (disch := omega) only [go_sem, wn, srow_rgetD, srow, take_drop_map, Nat.min_self]) <;> (repeat' with_reducible refine And.intro ?_ ?_) <;> (try (with_reducible refine hK _ ?_; clear hK K)))
| omega)
  · (refine zF rfl ?_ ?_ ?_ ?_; (iterate 3 (focus ((try simp (disch := omega) only [go_sem, wn]) <;> (try omega) <;> fail))); (try simp (disch := omega) only [go_sem, wn, I, B, S, inj, List.cons.injEq, and_true, true_and, and_self]))
    unfold goodL; rw [decide_eq_true hc, Bool.true_or]
  · (refine zF rfl ?_ ?_ ?_ ?_; (iterate 3 (focus ((try simp (disch := omega) only [go_sem, wn]) <;> (try omega) <;> fail))); (try simp (disch := omega) only [go_sem, wn, I, B, S, inj, List.cons.injEq, and_true, true_and, and_self]))
    unfold goodL
    rw [decide_eq_false (by assumption), Bool.false_or]
    rcases hc with (c | c) | c
    · rw [decide_eq_false (p := s.length ≤ 200) (by omega), Bool.false_and]
    · rw [decide_eq_false c, Bool.false_and, Bool.and_false]
    · rw [decide_eq_false (p := 2 ≤ (splitB s).length) (by omega), Bool.false_and, Bool.and_false, Bool.and_false]
  have g : goodL s = ((splitB s).drop 1).all namedP := by
    unfold goodL
    rw [decide_eq_false (by assumption), Bool.false_or, decide_eq_true (p := s.length ≤ 200) (by omega), decide_eq_true hc.1.2, decide_eq_true (p := 2 ≤ (splitB s).length) (by omega)]; rfl
  rw [g]
  have hml : ((splitB s).drop 1).length = (splitB s).length - 1 := by simp
  have hle := splitB_le s
  have hpl : ∀ p, p ∈ (splitB s).drop 1 → okS p := fun p hp => by
    have := piece_le s p (List.mem_of_mem_drop hp)
    unfold okS; omega
  generalize (splitB s).drop 1 = m at *
  refine AWP.loopS (ι := Nat) (fun k => k ≤ m.length ∧ ∀ j, j < k → namedP (m.getD j []) = true) (fun k => m.length - k) [25, 26] (fun k => [(27, I k)]) 0 ?_ (by simp (disch := omega) only [go_sem, wn, hml]) ?_
  · exact ⟨by omega, by omega⟩
  intro k ⟨hk, hk2⟩
  simp only [go_sem]
  have hpk : okS (m.getD k []) := by
    by_cases e : k < m.length
    · exact hpl _ (mem_getD m [] e)
    · rw [List.getD_eq_getElem?_getD, List.getElem?_eq_none (by omega)]; show okS []; unfold okS; decide
  (repeat' first
| (with_reducible refine AR.f ?_)
| refine zb (by decide) ?_
| (with_reducible refine AWP.cond rfl ?_ ?_ <;> intro hc <;> (try simp only [hcs, beq_iff_eq, ge_iff_le, gt_iff_lt] at hc))
| ((first | ((first | (with_reducible first | refine zR ?_ | refine zQ (by decide +kernel) ?_ | refine zD (by decide +kernel) ?_ | refine zE (by decide +kernel) ?_ | refine zG (by decide +kernel) ?_)); intro K hK) | ((first | refine acallH_sc (ref_named_c _ hpk) rfl rfl ?_ ?_ ?_ | refine acallQ_sc (ref_named_c _ hpk) rfl rfl ?_ ?_ ?_); iterate 2 (focus ((try simp (disch := omega) only [go_sem, wn, srow_rgetD, srow]) <;> (try omega) <;> fail))) | ((first | refine zN (ref_named_c _ hpk) rfl ?_ ?_); (focus ((try simp (disch := omega) only [go_sem, wn, srow_rgetD, srow]) <;> (try omega) <;> fail))) | (first | ((first | refine zX (ref_named_c _ hpk) rfl ?_ ?_ | refine zy (ref_named_c _ hpk) ?_ ?_); (focus ((try simp (disch := omega) only [go_sem, wn, srow_rgetD, srow]) <;> (try omega) <;> fail)))) | ((first | (with_reducible refine zu ?_ ?_ <;> intro hg) | with_reducible intro hg) <;> (first | (exfalso; simp at hg; done) | (have hg' := hg; (try simp only [hcs, beq_iff_eq, ge_iff_le, gt_iff_lt] at hg'); (try simp only [hg]))))) <;> (try simp (disch := omega) only [go_sem, wn, srow_rgetD, srow]) <;> (repeat' with_reducible refine And.intro ?_ ?_) <;> (try (with_reducible refine hK _ ?_; clear hK K)))
| omega)
  · (refine zF rfl ?_ ?_ ?_ ?_; (iterate 3 (focus ((try simp (disch := omega) only [go_sem, wn]) <;> (try omega) <;> fail))); (try simp (disch := omega) only [go_sem, wn, I, B, S, inj, List.cons.injEq, and_true, true_and, and_self]))
    symm; exact all_not (d := []) (by omega : k < m.length) hc
  · refine ⟨k + 1, ⟨by omega, fun j hj => ?_⟩, by omega, ?_⟩
    · by_cases e : j = k
      · subst e; exact hc
      · exact hk2 j (by omega)
    (refine SImp.same ?_; simp (disch := omega) only [go_sem, wn, Int.natCast_add])
  · (refine zF rfl ?_ ?_ ?_ ?_; (iterate 3 (focus ((try simp (disch := omega) only [go_sem, wn]) <;> (try omega) <;> fail))); (try simp (disch := omega) only [go_sem, wn, I, B, S, inj, List.cons.injEq, and_true, true_and, and_self]))
    symm; exact all_full namedP m [] fun j hj => hk2 j (by omega)
end Go.Proofs.YtmpfhalheaeibaaDoor
namespace Go.Proofs.YtmpfhalheaeibaaDoor
set_option linter.unusedVariables false
set_option linter.unusedSimpArgs false
open Go Go.RowKit
set_option maxRecDepth 100000
set_option linter.unusedSimpArgs false
def dig (n : Nat) : UInt8 := UInt8.ofNat (48 + n % 10)
def digK (k n : Nat) : List UInt8 := (List.range k).map fun i => dig (n / 10 ^ (k - 1 - i))
def decB (n : Nat) : List UInt8 := if h : n < 10 then [dig n] else decB (n / 10) ++ [dig n]
theorem decB_lt {n : Nat} (h : n < 10) : decB n = [dig n] := by rw [decB, dif_pos h]
theorem decB_ge {n : Nat} (h : ¬ n < 10) : decB n = decB (n / 10) ++ [dig n] := by rw [decB, dif_neg h]
theorem digK_succ (k n : Nat) : digK (k + 1) n = digK k (n / 10) ++ [dig n] := by
  unfold digK
  rw [List.range_succ, List.map_append]
  congr 1
  · refine List.map_congr_left fun i hi => ?_
    have hi := List.mem_range.1 hi
    rw [Nat.div_div_eq_div_mul, ← Nat.pow_succ', show k + 1 - 1 - i = (k - 1 - i) + 1 from by omega]
  · simp
theorem digK_zero (k : Nat) : digK k 0 = List.replicate k 48 := by
  unfold digK
  refine List.ext_getElem (by simp) fun i h1 h2 => ?_
  simp [dig]
theorem decB_pad : ∀ (k n : Nat), n < 10 ^ (k + 1) → (decB n).length ≤ k + 1 ∧ List.replicate (k + 1 - (decB n).length) 48 ++ decB n = digK (k + 1) n
  | 0, n, h => by
    rw [decB_lt (by simpa using h), digK_succ]
    exact ⟨by simp, by simp [digK]⟩
  | k + 1, n, h => by
    rw [digK_succ]
    by_cases h10 : n < 10
    · have e : n / 10 = 0 := by omega
      rw [decB_lt h10, e, digK_zero]
      exact ⟨by simp, by simp⟩
    · obtain ⟨h1, h2⟩ := decB_pad k (n / 10) (by rw [Nat.pow_succ] at h; omega)
      rw [decB_ge h10, ← h2]
      refine ⟨by simp; omega, ?_⟩
      rw [List.length_append, List.length_singleton, show k + 1 + 1 - ((decB (n / 10)).length + 1) = k + 1 - (decB (n / 10)).length from by omega, List.append_assoc]
theorem decB_len {n : Nat} (h : n < 10 ^ 20) : (decB n).length ≤ 20 := (decB_pad 19 n h).1
theorem dig_toNat (n : Nat) : (dig n).toNat = 48 + n % 10 := by unfold dig; rw [UInt8.toNat_ofNat']; omega
theorem wrap_dig (n : Nat) : IntKind.u8.wrap (48 + ((n % 10 : Nat) : Int)) = ((dig n).toNat : Int) := by
  rw [dig_toNat]; simp [IntKind.wrap, IntKind.bits, IntKind.signed]; omega
theorem tmod10 (n : Nat) : (n : Int).tmod 10 = ((n % 10 : Nat) : Int) := by rw [Int.tmod_eq_emod_of_nonneg (by omega)]; omega
theorem tdiv10 (n : Nat) : (n : Int).tdiv 10 = ((n / 10 : Nat) : Int) := by rw [Int.tdiv_eq_ediv_of_nonneg (by omega)]; omega
theorem okU8_one' (b : UInt8) : okU8s [[.int .u8 (b.toNat : Int)]] = True := eq_true (okU8s_rows [b])
theorem decimal_c (n : Nat) (h : n ≤ 9223372036854775807) : acall Tryd.prog [] 159 [I n] (ret (S (decB n))) := by
  induction n using Nat.strongRecOn with
  | _ n ih =>
    have hl := decB_len (n := n / 10) (by omega)
    by_cases h10 : n < 10
    · rw [decB_lt h10]
      refine zi tabOk Tryd.func159 rfl (by kernel_rfl) (by simp [Tryd.ntmps159]) ?_; simp only [Tryd.ntmps159, Tryd.results159, List.toList_toArray, apar, List.length_nil, List.length_cons, Nat.reduceAdd]
      (repeat' first
    | (with_reducible refine AR.f ?_)
    | refine zb (by decide) ?_
    | (with_reducible refine AWP.cond rfl ?_ ?_ <;> intro hc <;> (try simp only [hcs, beq_iff_eq, ge_iff_le, gt_iff_lt] at hc))
    | ((first | ((first | (with_reducible first | refine zR ?_ | refine zQ (by decide +kernel) ?_ | refine zD (by decide +kernel) ?_ | refine zE (by decide +kernel) ?_ | refine zG (by decide +kernel) ?_)); intro K hK) | ((first | (with_reducible refine zu ?_ ?_ <;> intro hg) | with_reducible intro hg) <;> (first | (exfalso; simp at hg; done) | (have hg' := hg; (try simp only [hcs, beq_iff_eq, ge_iff_le, gt_iff_lt] at hg'); (try simp only [hg]))))) <;> (try simp (disch := omega) only [go_sem, wn, tmod10, tdiv10, wrap_dig, okU8_one', UInt8.ofNat_toNat]) <;> (repeat' with_reducible refine And.intro ?_ ?_) <;> (try (with_reducible refine hK _ ?_; clear hK K)))
    | omega)
      (refine zF rfl ?_ ?_ ?_ ?_; (iterate 3 (focus ((try simp (disch := omega) only [go_sem, wn]) <;> (try omega) <;> fail))); (try simp (disch := omega) only [go_sem, wn, I, B, S, inj, List.cons.injEq, and_true, true_and, and_self]))
    · rw [decB_ge h10]
      refine zi tabOk Tryd.func159 rfl (by kernel_rfl) (by simp [Tryd.ntmps159]) ?_; simp only [Tryd.ntmps159, Tryd.results159, List.toList_toArray, apar, List.length_nil, List.length_cons, Nat.reduceAdd]
      (repeat' first
    | (with_reducible refine AR.f ?_)
    | refine zb (by decide) ?_
    | (with_reducible refine AWP.cond rfl ?_ ?_ <;> intro hc <;> (try simp only [hcs, beq_iff_eq, ge_iff_le, gt_iff_lt] at hc))
    | ((first | ((first | (with_reducible first | refine zR ?_ | refine zQ (by decide +kernel) ?_ | refine zD (by decide +kernel) ?_ | refine zE (by decide +kernel) ?_ | refine zG (by decide +kernel) ?_)); intro K hK) | ((first | refine zA (ih (n / 10) (by omega) (by omega)) ?_ ?_ ?_ ?_ ?_); (focus exact rfl); (focus exact rfl); iterate 2 (focus ((try simp (disch := omega) only [go_sem, wn, tmod10, tdiv10, wrap_dig, okU8_one', UInt8.ofNat_toNat]) <;> (try omega) <;> fail))) | ((first | refine zN (ih (n / 10) (by omega) (by omega)) rfl ?_ ?_); (focus ((try simp (disch := omega) only [go_sem, wn, tmod10, tdiv10, wrap_dig, okU8_one', UInt8.ofNat_toNat]) <;> (try omega) <;> fail))) | (first | ((first | refine zX (ih (n / 10) (by omega) (by omega)) rfl ?_ ?_ | refine zy (ih (n / 10) (by omega) (by omega)) ?_ ?_); (focus ((try simp (disch := omega) only [go_sem, wn, tmod10, tdiv10, wrap_dig, okU8_one', UInt8.ofNat_toNat]) <;> (try omega) <;> fail)))) | ((first | (with_reducible refine zu ?_ ?_ <;> intro hg) | with_reducible intro hg) <;> (first | (exfalso; simp at hg; done) | (have hg' := hg; (try simp only [hcs, beq_iff_eq, ge_iff_le, gt_iff_lt] at hg'); (try simp only [hg]))))) <;> (try simp (disch := omega) only [go_sem, wn, tmod10, tdiv10, wrap_dig, okU8_one', UInt8.ofNat_toNat]) <;> (repeat' with_reducible refine And.intro ?_ ?_) <;> (try (with_reducible refine hK _ ?_; clear hK K)))
    | omega)
      (refine zF rfl ?_ ?_ ?_ ?_; (iterate 3 (focus ((try simp (disch := omega) only [go_sem, wn]) <;> (try omega) <;> fail))); (try simp (disch := omega) only [go_sem, wn, I, B, S, inj, List.cons.injEq, and_true, true_and, and_self]))
end Go.Proofs.YtmpfhalheaeibaaDoor
namespace Go.Proofs.YtmpfhalheaeibaaDoor
set_option linter.unusedVariables false
set_option linter.unusedSimpArgs false
open Go Go.RowKit
set_option maxRecDepth 100000
set_option linter.unusedSimpArgs false
theorem goodP_len {s : List UInt8} (h : goodP s = true) : s.length ≤ 200 := by
  unfold goodP at h
  rw [Bool.or_eq_true, decide_eq_true_eq, Bool.and_eq_true, decide_eq_true_eq] at h
  rcases h with h | h
  · subst h; decide
  · exact h.1
theorem namedP_len {s : List UInt8} (h : namedP s = true) : s.length ≤ 40 := by
  unfold namedP at h
  rw [Bool.and_eq_true, Bool.and_eq_true, decide_eq_true_eq] at h
  have := h.2.2; omega
def joinS (dir name : List UInt8) : List UInt8 := if dir = [47] then 47 :: name else dir ++ 47 :: name
def joinP (dir name : List UInt8) : List UInt8 × Int := if goodP dir = true ∧ namedP name = true then (if 200 < (joinS dir name).length then ([], 1) else (joinS dir name, 0)) else ([], 2)
theorem joinP_bad {dir name : List UInt8} (h : ¬ (goodP dir = true ∧ namedP name = true)) : joinP dir name = ([], 2) := by unfold joinP; rw [if_neg h]
theorem joinP_long {dir name : List UInt8} (h1 : goodP dir = true) (h2 : namedP name = true) (h : 200 < (joinS dir name).length) : joinP dir name = ([], 1) := by unfold joinP; rw [if_pos ⟨h1, h2⟩, if_pos h]
theorem joinP_ok {dir name : List UInt8} (h1 : goodP dir = true) (h2 : namedP name = true) (h : (joinS dir name).length ≤ 200) : joinP dir name = (joinS dir name, 0) := by unfold joinP; rw [if_pos ⟨h1, h2⟩, if_neg (by omega)]
theorem joinS_root (name : List UInt8) : joinS [47] name = 47 :: name := by unfold joinS; rw [if_pos rfl]
theorem joinS_ne {dir : List UInt8} (h : ¬ dir = [47]) (name : List UInt8) : joinS dir name = dir ++ 47 :: name := by unfold joinS; rw [if_neg h]
theorem join_c (dir name : List UInt8) (hd : okS dir) (hn : okS name) : acall Tryd.prog [] 100 [S dir, S name] (ret (.tup [S (joinP dir name).1, I (joinP dir name).2])) := by
  have hn' := hn
  unfold okS at hn'
  by_cases h1 : goodP dir = true
  case neg =>
    rw [joinP_bad (fun h => h1 h.1)]
    refine zi tabOk Tryd.func100 rfl (by kernel_rfl) (by simp [Tryd.ntmps100]) ?_; simp only [Tryd.ntmps100, Tryd.results100, List.toList_toArray, apar, List.length_nil, List.length_cons, Nat.reduceAdd]
    (repeat' first
  | (with_reducible refine AR.f ?_)
  | refine zb (by decide) ?_
  | (with_reducible refine AWP.cond rfl ?_ ?_ <;> intro hc <;> (try simp only [hcs, beq_iff_eq, ge_iff_le, gt_iff_lt] at hc))
  | ((first | ((first | (with_reducible first | refine zR ?_ | refine zQ (by decide +kernel) ?_ | refine zD (by decide +kernel) ?_ | refine zE (by decide +kernel) ?_ | refine zG (by decide +kernel) ?_)); intro K hK) | ((first | refine zA ((good_c dir hd).re (congrArg B (eq_false_of_ne_true h1))) ?_ ?_ ?_ ?_ ?_); (focus exact rfl); (focus exact rfl); iterate 2 (focus ((try simp (disch := omega) only [go_sem, wn]) <;> (try omega) <;> fail))) | ((first | refine zN ((good_c dir hd).re (congrArg B (eq_false_of_ne_true h1))) rfl ?_ ?_); (focus ((try simp (disch := omega) only [go_sem, wn]) <;> (try omega) <;> fail))) | (first | ((first | refine zX ((good_c dir hd).re (congrArg B (eq_false_of_ne_true h1))) rfl ?_ ?_ | refine zy ((good_c dir hd).re (congrArg B (eq_false_of_ne_true h1))) ?_ ?_); (focus ((try simp (disch := omega) only [go_sem, wn]) <;> (try omega) <;> fail)))) | ((first | (with_reducible refine zu ?_ ?_ <;> intro hg) | with_reducible intro hg) <;> (first | (exfalso; simp at hg; done) | (have hg' := hg; (try simp only [hcs, beq_iff_eq, ge_iff_le, gt_iff_lt] at hg'); (try simp only [hg]))))) <;> (try simp (disch := omega) only [go_sem, wn]) <;> (repeat' with_reducible refine And.intro ?_ ?_) <;> (try (with_reducible refine hK _ ?_; clear hK K)))
  | omega)
    (refine zF rfl ?_ ?_ ?_ ?_; (iterate 3 (focus ((try simp (disch := omega) only [go_sem, wn]) <;> (try omega) <;> fail))); (try simp (disch := omega) only [go_sem, wn, I, B, S, inj, List.cons.injEq, and_true, true_and, and_self]))
  by_cases h2 : namedP name = true
  case neg =>
    rw [joinP_bad (fun h => h2 h.2)]
    refine zi tabOk Tryd.func100 rfl (by kernel_rfl) (by simp [Tryd.ntmps100]) ?_; simp only [Tryd.ntmps100, Tryd.results100, List.toList_toArray, apar, List.length_nil, List.length_cons, Nat.reduceAdd]
    (repeat' first
  | (with_reducible refine AR.f ?_)
  | refine zb (by decide) ?_
  | (with_reducible refine AWP.cond rfl ?_ ?_ <;> intro hc <;> (try simp only [hcs, beq_iff_eq, ge_iff_le, gt_iff_lt] at hc))
  | ((first | ((first | (with_reducible first | refine zR ?_ | refine zQ (by decide +kernel) ?_ | refine zD (by decide +kernel) ?_ | refine zE (by decide +kernel) ?_ | refine zG (by decide +kernel) ?_)); intro K hK) | ((first | refine zA ((good_c dir hd).re (by rw [h1])) ?_ ?_ ?_ ?_ ?_ | refine zA ((named_c name hn).re (congrArg B (eq_false_of_ne_true h2))) ?_ ?_ ?_ ?_ ?_); (focus exact rfl); (focus exact rfl); iterate 2 (focus ((try simp (disch := omega) only [go_sem, wn]) <;> (try omega) <;> fail))) | ((first | refine zN ((good_c dir hd).re (by rw [h1])) rfl ?_ ?_ | refine zN ((named_c name hn).re (congrArg B (eq_false_of_ne_true h2))) rfl ?_ ?_); (focus ((try simp (disch := omega) only [go_sem, wn]) <;> (try omega) <;> fail))) | (first | ((first | refine zX ((good_c dir hd).re (by rw [h1])) rfl ?_ ?_ | refine zy ((good_c dir hd).re (by rw [h1])) ?_ ?_); (focus ((try simp (disch := omega) only [go_sem, wn]) <;> (try omega) <;> fail))) | ((first | refine zX ((named_c name hn).re (congrArg B (eq_false_of_ne_true h2))) rfl ?_ ?_ | refine zy ((named_c name hn).re (congrArg B (eq_false_of_ne_true h2))) ?_ ?_); (focus ((try simp (disch := omega) only [go_sem, wn]) <;> (try omega) <;> fail)))) | ((first | (with_reducible refine zu ?_ ?_ <;> intro hg) | with_reducible intro hg) <;> (first | (exfalso; simp at hg; done) | (have hg' := hg; (try simp only [hcs, beq_iff_eq, ge_iff_le, gt_iff_lt] at hg'); (try simp only [hg]))))) <;> (try simp (disch := omega) only [go_sem, wn]) <;> (repeat' with_reducible refine And.intro ?_ ?_) <;> (try (with_reducible refine hK _ ?_; clear hK K)))
  | omega)
    (refine zF rfl ?_ ?_ ?_ ?_; (iterate 3 (focus ((try simp (disch := omega) only [go_sem, wn]) <;> (try omega) <;> fail))); (try simp (disch := omega) only [go_sem, wn, I, B, S, inj, List.cons.injEq, and_true, true_and, and_self]))
  have g1 := goodP_len h1
  have g2 := namedP_len h2
  refine zi tabOk Tryd.func100 rfl (by kernel_rfl) (by simp [Tryd.ntmps100]) ?_; simp only [Tryd.ntmps100, Tryd.results100, List.toList_toArray, apar, List.length_nil, List.length_cons, Nat.reduceAdd]
  (repeat' first
| (with_reducible refine AR.f ?_)
| refine zb (by decide) ?_
| (with_reducible refine AWP.cond rfl ?_ ?_ <;> intro hc <;> (try simp only [hcs, beq_iff_eq, ge_iff_le, gt_iff_lt] at hc))
| ((first | ((first | (with_reducible first | refine zR ?_ | refine zQ (by decide +kernel) ?_ | refine zD (by decide +kernel) ?_ | refine zE (by decide +kernel) ?_ | refine zG (by decide +kernel) ?_)); intro K hK) | ((first | refine zA ((good_c dir hd).re (by rw [h1])) ?_ ?_ ?_ ?_ ?_ | refine zA ((named_c name hn).re (by rw [h2])) ?_ ?_ ?_ ?_ ?_); (focus exact rfl); (focus exact rfl); iterate 2 (focus ((try simp (disch := omega) only [go_sem, wn, List.append_assoc, List.cons_append, List.nil_append, List.singleton_append]) <;> (try omega) <;> fail))) | ((first | refine zN ((good_c dir hd).re (by rw [h1])) rfl ?_ ?_ | refine zN ((named_c name hn).re (by rw [h2])) rfl ?_ ?_); (focus ((try simp (disch := omega) only [go_sem, wn, List.append_assoc, List.cons_append, List.nil_append, List.singleton_append]) <;> (try omega) <;> fail))) | (first | ((first | refine zX ((good_c dir hd).re (by rw [h1])) rfl ?_ ?_ | refine zy ((good_c dir hd).re (by rw [h1])) ?_ ?_); (focus ((try simp (disch := omega) only [go_sem, wn, List.append_assoc, List.cons_append, List.nil_append, List.singleton_append]) <;> (try omega) <;> fail))) | ((first | refine zX ((named_c name hn).re (by rw [h2])) rfl ?_ ?_ | refine zy ((named_c name hn).re (by rw [h2])) ?_ ?_); (focus ((try simp (disch := omega) only [go_sem, wn, List.append_assoc, List.cons_append, List.nil_append, List.singleton_append]) <;> (try omega) <;> fail)))) | ((first | (with_reducible refine zu ?_ ?_ <;> intro hg) | with_reducible intro hg) <;> (first | (exfalso; simp at hg; done) | (have hg' := hg; (try simp only [hcs, beq_iff_eq, ge_iff_le, gt_iff_lt] at hg'); (try simp only [hg]))))) <;> (try simp (disch := omega) only [go_sem, wn, List.append_assoc, List.cons_append, List.nil_append, List.singleton_append]) <;> (repeat' with_reducible refine And.intro ?_ ?_) <;> (try (with_reducible refine hK _ ?_; clear hK K)))
| omega)
  all_goals rcases Decidable.em (dir = [47]) with e | e
  all_goals first
    | (exfalso; simp_all; done)
    | (have hl : 200 < (joinS dir name).length := by (first | rw [e, joinS_root, List.length_cons] | rw [joinS_ne e, List.length_append, List.length_cons]) <;> (try simp [e] at hc) <;> omega
       rw [joinP_long h1 h2 hl]; (refine zF rfl ?_ ?_ ?_ ?_; (iterate 3 (focus ((try simp (disch := omega) only [go_sem, wn]) <;> (try omega) <;> fail))); (try simp (disch := omega) only [go_sem, wn, I, B, S, inj, List.cons.injEq, and_true, true_and, and_self])))
    | (have hl : (joinS dir name).length ≤ 200 := by (first | rw [e, joinS_root, List.length_cons] | rw [joinS_ne e, List.length_append, List.length_cons]) <;> (try simp [e] at hc) <;> omega
       rw [joinP_ok h1 h2 hl]; (first | rw [e, joinS_root] | rw [joinS_ne e]); (refine zF rfl ?_ ?_ ?_ ?_; (iterate 3 (focus ((try simp (disch := omega) only [go_sem, wn, List.cons_append, List.nil_append]) <;> (try omega) <;> fail))); (try simp (disch := omega) only [go_sem, wn, List.cons_append, List.nil_append, I, B, S, inj, List.cons.injEq, and_true, true_and, and_self])))
theorem ref_join_c (dir name : List UInt8) (hd : dir.length ≤ 1048576) (hn : okS name) : acall Tryd.prog [] 101 [S dir, S name] (ret (.tup [S (joinP dir name).1, I (joinP dir name).2])) := by
  have hn' := hn
  unfold okS at hn'
  by_cases h1 : goodP dir = true
  case neg =>
    rw [joinP_bad (fun h => h1 h.1)]
    refine zi tabOk Tryd.func101 rfl (by kernel_rfl) (by simp [Tryd.ntmps101]) ?_; simp only [Tryd.ntmps101, Tryd.results101, List.toList_toArray, apar, List.length_nil, List.length_cons, Nat.reduceAdd]
    (repeat' first
  | (with_reducible refine AR.f ?_)
  | refine zb (by decide) ?_
  | (with_reducible refine AWP.cond rfl ?_ ?_ <;> intro hc <;> (try simp only [hcs, beq_iff_eq, ge_iff_le, gt_iff_lt] at hc))
  | ((first | ((first | (with_reducible first | refine zR ?_ | refine zQ (by decide +kernel) ?_ | refine zD (by decide +kernel) ?_ | refine zE (by decide +kernel) ?_ | refine zG (by decide +kernel) ?_)); intro K hK) | ((first | refine zA ((ref_good_c dir hd).re (congrArg B (eq_false_of_ne_true h1))) ?_ ?_ ?_ ?_ ?_); (focus exact rfl); (focus exact rfl); iterate 2 (focus ((try simp (disch := omega) only [go_sem, wn]) <;> (try omega) <;> fail))) | ((first | refine zN ((ref_good_c dir hd).re (congrArg B (eq_false_of_ne_true h1))) rfl ?_ ?_); (focus ((try simp (disch := omega) only [go_sem, wn]) <;> (try omega) <;> fail))) | (first | ((first | refine zX ((ref_good_c dir hd).re (congrArg B (eq_false_of_ne_true h1))) rfl ?_ ?_ | refine zy ((ref_good_c dir hd).re (congrArg B (eq_false_of_ne_true h1))) ?_ ?_); (focus ((try simp (disch := omega) only [go_sem, wn]) <;> (try omega) <;> fail)))) | ((first | (with_reducible refine zu ?_ ?_ <;> intro hg) | with_reducible intro hg) <;> (first | (exfalso; simp at hg; done) | (have hg' := hg; (try simp only [hcs, beq_iff_eq, ge_iff_le, gt_iff_lt] at hg'); (try simp only [hg]))))) <;> (try simp (disch := omega) only [go_sem, wn]) <;> (repeat' with_reducible refine And.intro ?_ ?_) <;> (try (with_reducible refine hK _ ?_; clear hK K)))
  | omega)
    (refine zF rfl ?_ ?_ ?_ ?_; (iterate 3 (focus ((try simp (disch := omega) only [go_sem, wn]) <;> (try omega) <;> fail))); (try simp (disch := omega) only [go_sem, wn, I, B, S, inj, List.cons.injEq, and_true, true_and, and_self]))
  by_cases h2 : namedP name = true
  case neg =>
    rw [joinP_bad (fun h => h2 h.2)]
    refine zi tabOk Tryd.func101 rfl (by kernel_rfl) (by simp [Tryd.ntmps101]) ?_; simp only [Tryd.ntmps101, Tryd.results101, List.toList_toArray, apar, List.length_nil, List.length_cons, Nat.reduceAdd]
    (repeat' first
  | (with_reducible refine AR.f ?_)
  | refine zb (by decide) ?_
  | (with_reducible refine AWP.cond rfl ?_ ?_ <;> intro hc <;> (try simp only [hcs, beq_iff_eq, ge_iff_le, gt_iff_lt] at hc))
  | ((first | ((first | (with_reducible first | refine zR ?_ | refine zQ (by decide +kernel) ?_ | refine zD (by decide +kernel) ?_ | refine zE (by decide +kernel) ?_ | refine zG (by decide +kernel) ?_)); intro K hK) | ((first | refine zA ((ref_good_c dir hd).re (by rw [h1])) ?_ ?_ ?_ ?_ ?_ | refine zA ((ref_named_c name hn).re (congrArg B (eq_false_of_ne_true h2))) ?_ ?_ ?_ ?_ ?_); (focus exact rfl); (focus exact rfl); iterate 2 (focus ((try simp (disch := omega) only [go_sem, wn]) <;> (try omega) <;> fail))) | ((first | refine zN ((ref_good_c dir hd).re (by rw [h1])) rfl ?_ ?_ | refine zN ((ref_named_c name hn).re (congrArg B (eq_false_of_ne_true h2))) rfl ?_ ?_); (focus ((try simp (disch := omega) only [go_sem, wn]) <;> (try omega) <;> fail))) | (first | ((first | refine zX ((ref_good_c dir hd).re (by rw [h1])) rfl ?_ ?_ | refine zy ((ref_good_c dir hd).re (by rw [h1])) ?_ ?_); (focus ((try simp (disch := omega) only [go_sem, wn]) <;> (try omega) <;> fail))) | ((first | refine zX ((ref_named_c name hn).re (congrArg B (eq_false_of_ne_true h2))) rfl ?_ ?_ | refine zy ((ref_named_c name hn).re (congrArg B (eq_false_of_ne_true h2))) ?_ ?_); (focus ((try simp (disch := omega) only [go_sem, wn]) <;> (try omega) <;> fail)))) | ((first | (with_reducible refine zu ?_ ?_ <;> intro hg) | with_reducible intro hg) <;> (first | (exfalso; simp at hg; done) | (have hg' := hg; (try simp only [hcs, beq_iff_eq, ge_iff_le, gt_iff_lt] at hg'); (try simp only [hg]))))) <;> (try simp (disch := omega) only [go_sem, wn]) <;> (repeat' with_reducible refine And.intro ?_ ?_) <;> (try (with_reducible refine hK _ ?_; clear hK K)))
  | omega)
    (refine zF rfl ?_ ?_ ?_ ?_; (iterate 3 (focus ((try simp (disch := omega) only [go_sem, wn]) <;> (try omega) <;> fail))); (try simp (disch := omega) only [go_sem, wn, I, B, S, inj, List.cons.injEq, and_true, true_and, and_self]))
  have g1 := goodP_len h1
  have g2 := namedP_len h2
  refine zi tabOk Tryd.func101 rfl (by kernel_rfl) (by simp [Tryd.ntmps101]) ?_; simp only [Tryd.ntmps101, Tryd.results101, List.toList_toArray, apar, List.length_nil, List.length_cons, Nat.reduceAdd]
  (repeat' first
| (with_reducible refine AR.f ?_)
| refine zb (by decide) ?_
| (with_reducible refine AWP.cond rfl ?_ ?_ <;> intro hc <;> (try simp only [hcs, beq_iff_eq, ge_iff_le, gt_iff_lt] at hc))
| ((first | ((first | (with_reducible first | refine zR ?_ | refine zQ (by decide +kernel) ?_ | refine zD (by decide +kernel) ?_ | refine zE (by decide +kernel) ?_ | refine zG (by decide +kernel) ?_)); intro K hK) | ((first | refine zA ((ref_good_c dir hd).re (by rw [h1])) ?_ ?_ ?_ ?_ ?_ | refine zA ((ref_named_c name hn).re (by rw [h2])) ?_ ?_ ?_ ?_ ?_); (focus exact rfl); (focus exact rfl); iterate 2 (focus ((try simp (disch := omega) only [go_sem, wn, List.append_assoc, List.cons_append, List.nil_append, List.singleton_append]) <;> (try omega) <;> fail))) | ((first | refine zN ((ref_good_c dir hd).re (by rw [h1])) rfl ?_ ?_ | refine zN ((ref_named_c name hn).re (by rw [h2])) rfl ?_ ?_); (focus ((try simp (disch := omega) only [go_sem, wn, List.append_assoc, List.cons_append, List.nil_append, List.singleton_append]) <;> (try omega) <;> fail))) | (first | ((first | refine zX ((ref_good_c dir hd).re (by rw [h1])) rfl ?_ ?_ | refine zy ((ref_good_c dir hd).re (by rw [h1])) ?_ ?_); (focus ((try simp (disch := omega) only [go_sem, wn, List.append_assoc, List.cons_append, List.nil_append, List.singleton_append]) <;> (try omega) <;> fail))) | ((first | refine zX ((ref_named_c name hn).re (by rw [h2])) rfl ?_ ?_ | refine zy ((ref_named_c name hn).re (by rw [h2])) ?_ ?_); (focus ((try simp (disch := omega) only [go_sem, wn, List.append_assoc, List.cons_append, List.nil_append, List.singleton_append]) <;> (try omega) <;> fail)))) | ((first | (with_reducible refine zu ?_ ?_ <;> intro hg) | with_reducible intro hg) <;> (first | (exfalso; simp at hg; done) | (have hg' := hg; (try simp only [hcs, beq_iff_eq, ge_iff_le, gt_iff_lt] at hg'); (try simp only [hg]))))) <;> (try simp (disch := omega) only [go_sem, wn, List.append_assoc, List.cons_append, List.nil_append, List.singleton_append]) <;> (repeat' with_reducible refine And.intro ?_ ?_) <;> (try (with_reducible refine hK _ ?_; clear hK K)))
| omega)
  all_goals rcases Decidable.em (dir = [47]) with e | e
  all_goals first
    | (exfalso; simp_all; done)
    | (have hl : 200 < (joinS dir name).length := by (first | rw [e, joinS_root, List.length_cons] | rw [joinS_ne e, List.length_append, List.length_cons]) <;> (try simp [e] at hc) <;> omega
       rw [joinP_long h1 h2 hl]; (refine zF rfl ?_ ?_ ?_ ?_; (iterate 3 (focus ((try simp (disch := omega) only [go_sem, wn]) <;> (try omega) <;> fail))); (try simp (disch := omega) only [go_sem, wn, I, B, S, inj, List.cons.injEq, and_true, true_and, and_self])))
    | (have hl : (joinS dir name).length ≤ 200 := by (first | rw [e, joinS_root, List.length_cons] | rw [joinS_ne e, List.length_append, List.length_cons]) <;> (try simp [e] at hc) <;> omega
       rw [joinP_ok h1 h2 hl]; (first | rw [e, joinS_root] | rw [joinS_ne e]); (refine zF rfl ?_ ?_ ?_ ?_; (iterate 3 (focus ((try simp (disch := omega) only [go_sem, wn, List.cons_append, List.nil_append]) <;> (try omega) <;> fail))); (try simp (disch := omega) only [go_sem, wn, List.cons_append, List.nil_append, I, B, S, inj, List.cons.injEq, and_true, true_and, and_self])))
theorem digK_cons (j n : Nat) : digK (j + 1) n = dig (n / 10 ^ j) :: digK j n := by
  unfold digK
  rw [List.range_succ_eq_map, List.map_cons, List.map_map]
  congr 1
  refine List.map_congr_left fun i _ => ?_
  show dig (n / 10 ^ (j + 1 - 1 - (i + 1))) = dig (n / 10 ^ (j - 1 - i))
  rw [show j + 1 - 1 - (i + 1) = j - 1 - i from by omega]
theorem digK_len (k n : Nat) : (digK k n).length = k := by simp [digK]
theorem digK_more {j n : Nat} (h : n / 10 ^ j = 0) : ∀ m, digK (j + m) n = List.replicate m 48 ++ digK j n
  | 0 => rfl
  | m + 1 => by
    have e : n / 10 ^ (j + m) = 0 := by rw [Nat.pow_add, ← Nat.div_div_eq_div_mul, h, Nat.zero_div]
    rw [← Nat.add_assoc, digK_cons, digK_more h m, e, List.replicate_succ]; rfl
def serT (name : List UInt8) (n : Nat) : List UInt8 := name ++ digK 10 n
def serP (name : List UInt8) (n : Int) : List UInt8 × Int := if n < 0 ∨ 2147483647 < n then ([], 3) else if namedP (serT name n.toNat) = true then (serT name n.toNat, 0) else ([], 2)
def serB (name : List UInt8) (n j : Nat) : List UInt8 := name ++ (List.replicate (10 - j) 48 ++ digK j n)
theorem serB_len (name : List UInt8) (n j : Nat) (h : j ≤ 10) : (serB name n j).length = name.length + 10 := by
  unfold serB; rw [List.length_append, List.length_append, List.length_replicate, digK_len]; omega
theorem serB_set (name : List UInt8) (n j : Nat) (h : j < 10) : (serB name n j).set (name.length + 9 - j) (dig (n / 10 ^ j)) = serB name n (j + 1) := by
  unfold serB
  rw [show 10 - j = (10 - (j + 1)) + 1 from by omega, List.replicate_succ', digK_cons, List.append_assoc, List.set_append_right _ _ (by omega), List.set_append_right _ _ (by simp; omega)]
  rw [List.length_replicate, show name.length + 9 - j - name.length - (10 - (j + 1)) = 0 from by omega]; rfl
theorem serB_end (name : List UInt8) (n j : Nat) (h : n / 10 ^ j = 0) (hj : j ≤ 10) : serB name n j = serT name n := by
  unfold serB serT
  rw [← digK_more h, show j + (10 - j) = 10 from by omega]
theorem serP_bad {name : List UInt8} {n : Int} (h : n < 0 ∨ 2147483647 < n) : serP name n = ([], 3) := by unfold serP; rw [if_pos h]
theorem serP_ok {name : List UInt8} {n : Nat} (h : n ≤ 2147483647) (h2 : namedP (serT name n) = true) : serP name n = (serT name n, 0) := by unfold serP; rw [if_neg (by omega)]; exact if_pos h2
theorem serP_no {name : List UInt8} {n : Nat} (h : n ≤ 2147483647) (h2 : ¬ namedP (serT name n) = true) : serP name n = ([], 2) := by unfold serP; rw [if_neg (by omega)]; exact if_neg h2
theorem serB_zero (name : List UInt8) (n : Nat) : name ++ [48, 48, 48, 48, 48, 48, 48, 48, 48, 48] = serB name n 0 := rfl
theorem take_rows {l : List UInt8} {n : Nat} (h : l.length = n) : List.take n (l.map u8row) = l.map u8row := List.take_of_length_le (by rw [List.length_map]; omega)
theorem serial_c (name : List UInt8) (n : Int) (hn : name.length ≤ 1048576) (hi : okI n) : acall Tryd.prog [] 158 [S name, I n] (ret (.tup [S (serP name n).1, I (serP name n).2])) := by
  unfold okI at hi
  by_cases hb : n < 0 ∨ 2147483647 < n
  · rw [serP_bad hb]
    refine zi tabOk Tryd.func158 rfl (by kernel_rfl) (by simp [Tryd.ntmps158]) ?_; simp only [Tryd.ntmps158, Tryd.results158, List.toList_toArray, apar, List.length_nil, List.length_cons, Nat.reduceAdd]
    (repeat' first
  | (with_reducible refine AR.f ?_)
  | refine zb (by decide) ?_
  | (with_reducible refine AWP.cond rfl ?_ ?_ <;> intro hc <;> (try simp only [hcs, beq_iff_eq, ge_iff_le, gt_iff_lt] at hc))
  | ((first | ((first | (with_reducible first | refine zR ?_ | refine zQ (by decide +kernel) ?_ | refine zD (by decide +kernel) ?_ | refine zE (by decide +kernel) ?_ | refine zG (by decide +kernel) ?_)); intro K hK) | ((first | (with_reducible refine zu ?_ ?_ <;> intro hg) | with_reducible intro hg) <;> (first | (exfalso; simp at hg; done) | (have hg' := hg; (try simp only [hcs, beq_iff_eq, ge_iff_le, gt_iff_lt] at hg'); (try simp only [hg]))))) <;> (try simp (disch := omega) only [go_sem, wn]) <;> (repeat' with_reducible refine And.intro ?_ ?_) <;> (try (with_reducible refine hK _ ?_; clear hK K)))
  | omega)
    all_goals first | omega | skip
    all_goals (refine zF rfl ?_ ?_ ?_ ?_; (iterate 3 (focus ((try simp (disch := omega) only [go_sem, wn]) <;> (try omega) <;> fail))); (try simp (disch := omega) only [go_sem, wn, I, B, S, inj, List.cons.injEq, and_true, true_and, and_self]))
  obtain ⟨m, rfl⟩ := Int.eq_ofNat_of_zero_le (a := n) (by omega)
  have hm : m ≤ 2147483647 := by omega
  refine zi tabOk Tryd.func158 rfl (by kernel_rfl) (by simp [Tryd.ntmps158]) ?_; simp only [Tryd.ntmps158, Tryd.results158, List.toList_toArray, apar, List.length_nil, List.length_cons, Nat.reduceAdd]
  (repeat' first
| (with_reducible refine AR.f ?_)
| refine zb (by decide) ?_
| (with_reducible refine AWP.cond rfl ?_ ?_ <;> intro hc <;> (try simp only [hcs, beq_iff_eq, ge_iff_le, gt_iff_lt] at hc))
| ((first | ((first | (with_reducible first | refine zR ?_ | refine zQ (by decide +kernel) ?_ | refine zD (by decide +kernel) ?_ | refine zE (by decide +kernel) ?_ | refine zG (by decide +kernel) ?_)); intro K hK) | ((first | (with_reducible refine zu ?_ ?_ <;> intro hg) | with_reducible intro hg) <;> (first | (exfalso; simp at hg; done) | (have hg' := hg; (try simp only [hcs, beq_iff_eq, ge_iff_le, gt_iff_lt] at hg'); (try simp only [hg]))))) <;> (try simp (disch := omega) only [go_sem, wn, serB_zero, serB_len, Nat.zero_le]) <;> (repeat' with_reducible refine And.intro ?_ ?_) <;> (try (with_reducible refine hK _ ?_; clear hK K)))
| omega)
  have hlz := serB_len name m 0 (by omega)
  refine AWP.loopB (ι := Nat) (fun j => j ≤ 10) (fun j => 10 - j) [6] (fun j => [(1, I ((m / 10 ^ j : Nat) : Int)), (7, I ((name.length : Int) + 9 - j))]) (fun j => [.bytes (serB name m j)]) 0 ?_ ?_ ?_
  · omega
  · simp only [go_sem]; (refine SImp.same ?_; simp (disch := omega) only [go_sem, wn, Int.natCast_add, serB_zero, Nat.pow_zero, Nat.div_one]); congr 2; omega
  intro j hj
  have hl := serB_len name m j hj
  have hq : m / 10 ^ j ≤ 2147483647 := Nat.le_trans (Nat.div_le_self _ _) hm
  simp only [go_sem]
  by_cases h0 : m / 10 ^ j = 0
  · have he := serB_end name m j h0 hj
    rw [he] at hl
    have hk := take_rows hl
    rw [he, h0]
    have hq : okS (serT name m) := by unfold okS; omega
    (repeat' first
  | (with_reducible refine AR.f ?_)
  | refine zb (by decide) ?_
  | (with_reducible refine AWP.cond rfl ?_ ?_ <;> intro hc <;> (try simp only [hcs, beq_iff_eq, ge_iff_le, gt_iff_lt] at hc))
  | ((first | ((first | (with_reducible first | refine zR ?_ | refine zQ (by decide +kernel) ?_ | refine zD (by decide +kernel) ?_ | refine zE (by decide +kernel) ?_ | refine zG (by decide +kernel) ?_)); intro K hK) | ((first | refine zA (named_c (serT name m) hq) ?_ ?_ ?_ ?_ ?_); (focus exact rfl); (focus exact rfl); iterate 2 (focus ((try simp (disch := omega) only [go_sem, wn, hk]) <;> (try omega) <;> fail))) | ((first | refine zN (named_c (serT name m) hq) rfl ?_ ?_); (focus ((try simp (disch := omega) only [go_sem, wn, hk]) <;> (try omega) <;> fail))) | (first | ((first | refine zX (named_c (serT name m) hq) rfl ?_ ?_ | refine zy (named_c (serT name m) hq) ?_ ?_); (focus ((try simp (disch := omega) only [go_sem, wn, hk]) <;> (try omega) <;> fail)))) | ((first | (with_reducible refine zu ?_ ?_ <;> intro hg) | with_reducible intro hg) <;> (first | (exfalso; simp at hg; done) | (have hg' := hg; (try simp only [hcs, beq_iff_eq, ge_iff_le, gt_iff_lt] at hg'); (try simp only [hg]))))) <;> (try simp (disch := omega) only [go_sem, wn, hk]) <;> (repeat' with_reducible refine And.intro ?_ ?_) <;> (try (with_reducible refine hK _ ?_; clear hK K)))
  | omega)
    · rw [serP_no hm (by rw [hc]; decide)]; (refine zF rfl ?_ ?_ ?_ ?_; (iterate 3 (focus ((try simp (disch := omega) only [go_sem, wn, hk]) <;> (try omega) <;> fail))); (try simp (disch := omega) only [go_sem, wn, hk, I, B, S, inj, List.cons.injEq, and_true, true_and, and_self]))
    · rw [serP_ok hm hc]; (refine zF rfl ?_ ?_ ?_ ?_; (iterate 3 (focus ((try simp (disch := omega) only [go_sem, wn, hk]) <;> (try omega) <;> fail))); (try simp (disch := omega) only [go_sem, wn, hk, I, B, S, inj, List.cons.injEq, and_true, true_and, and_self]))
  have hj10 : j < 10 := by
    refine Nat.lt_of_le_of_ne hj fun e => h0 ?_
    subst e; exact Nat.div_eq_of_lt (by omega)
  have hd := (dig (m / 10 ^ j)).toNat_lt
  (repeat' first
| (with_reducible refine AR.f ?_)
| refine zb (by decide) ?_
| (with_reducible refine AWP.cond rfl ?_ ?_ <;> intro hc <;> (try simp only [hcs, beq_iff_eq, ge_iff_le, gt_iff_lt] at hc))
| ((first | ((first | (with_reducible first | refine zR ?_ | refine zQ (by decide +kernel) ?_ | refine zD (by decide +kernel) ?_ | refine zE (by decide +kernel) ?_ | refine zG (by decide +kernel) ?_)); intro K hK) | ((first | (with_reducible refine zu ?_ ?_ <;> intro hg) | with_reducible intro hg) <;> (first | (exfalso; simp at hg; done) | (have hg' := hg; (try simp only [hcs, beq_iff_eq, ge_iff_le, gt_iff_lt] at hg'); (try simp only [hg]))))) <;> (try simp (disch := omega) only [go_sem, wn, tmod10, tdiv10, wrap_dig, okU8_one', UInt8.ofNat_toNat]) <;> (repeat' with_reducible refine And.intro ?_ ?_) <;> (try (with_reducible refine hK _ ?_; clear hK K)))
| omega)
  all_goals first | omega | skip
  · refine ⟨j + 1, by omega, by omega, ?_⟩
    rw [show ((name.length : Int) + 9 - j).toNat = name.length + 9 - j from by omega, serB_set name m j hj10, Nat.pow_succ, ← Nat.div_div_eq_div_mul]
    (refine SImp.same ?_; simp (disch := omega) only [go_sem, wn, Int.natCast_add])
    congr 2; omega
  all_goals exact absurd (Nat.le_zero.1 (Int.ofNat_le.1 hc)) h0
theorem ref_serial_c (name : List UInt8) (n : Int) (hn : name.length ≤ 1048576) (hi : okI n) : acall Tryd.prog [] 117 [S name, I n] (ret (.tup [S (serP name n).1, I (serP name n).2])) := by
  unfold okI at hi
  by_cases hb : n < 0 ∨ 2147483647 < n
  · rw [serP_bad hb]
    refine zi tabOk Tryd.func117 rfl (by kernel_rfl) (by simp [Tryd.ntmps117]) ?_; simp only [Tryd.ntmps117, Tryd.results117, List.toList_toArray, apar, List.length_nil, List.length_cons, Nat.reduceAdd]
    (repeat' first
  | (with_reducible refine AR.f ?_)
  | refine zb (by decide) ?_
  | (with_reducible refine AWP.cond rfl ?_ ?_ <;> intro hc <;> (try simp only [hcs, beq_iff_eq, ge_iff_le, gt_iff_lt] at hc))
  | ((first | ((first | (with_reducible first | refine zR ?_ | refine zQ (by decide +kernel) ?_ | refine zD (by decide +kernel) ?_ | refine zE (by decide +kernel) ?_ | refine zG (by decide +kernel) ?_)); intro K hK) | ((first | (with_reducible refine zu ?_ ?_ <;> intro hg) | with_reducible intro hg) <;> (first | (exfalso; simp at hg; done) | (have hg' := hg; (try simp only [hcs, beq_iff_eq, ge_iff_le, gt_iff_lt] at hg'); (try simp only [hg]))))) <;> (try simp (disch := omega) only [go_sem, wn]) <;> (repeat' with_reducible refine And.intro ?_ ?_) <;> (try (with_reducible refine hK _ ?_; clear hK K)))
  | omega)
    all_goals first | omega | skip
    all_goals (refine zF rfl ?_ ?_ ?_ ?_; (iterate 3 (focus ((try simp (disch := omega) only [go_sem, wn]) <;> (try omega) <;> fail))); (try simp (disch := omega) only [go_sem, wn, I, B, S, inj, List.cons.injEq, and_true, true_and, and_self]))
  obtain ⟨m, rfl⟩ := Int.eq_ofNat_of_zero_le (a := n) (by omega)
  have hm : m ≤ 2147483647 := by omega
  obtain ⟨hdl, hdp⟩ := decB_pad 9 m (by omega)
  refine zi tabOk Tryd.func117 rfl (by kernel_rfl) (by simp [Tryd.ntmps117]) ?_; simp only [Tryd.ntmps117, Tryd.results117, List.toList_toArray, apar, List.length_nil, List.length_cons, Nat.reduceAdd]
  (repeat' first
| (with_reducible refine AR.f ?_)
| refine zb (by decide) ?_
| (with_reducible refine AWP.cond rfl ?_ ?_ <;> intro hc <;> (try simp only [hcs, beq_iff_eq, ge_iff_le, gt_iff_lt] at hc))
| ((first | ((first | (with_reducible first | refine zR ?_ | refine zQ (by decide +kernel) ?_ | refine zD (by decide +kernel) ?_ | refine zE (by decide +kernel) ?_ | refine zG (by decide +kernel) ?_)); intro K hK) | ((first | refine zA (decimal_c m (by omega)) ?_ ?_ ?_ ?_ ?_); (focus exact rfl); (focus exact rfl); iterate 2 (focus ((try simp (disch := omega) only [go_sem, wn]) <;> (try omega) <;> fail))) | ((first | refine zN (decimal_c m (by omega)) rfl ?_ ?_); (focus ((try simp (disch := omega) only [go_sem, wn]) <;> (try omega) <;> fail))) | (first | ((first | refine zX (decimal_c m (by omega)) rfl ?_ ?_ | refine zy (decimal_c m (by omega)) ?_ ?_); (focus ((try simp (disch := omega) only [go_sem, wn]) <;> (try omega) <;> fail)))) | ((first | (with_reducible refine zu ?_ ?_ <;> intro hg) | with_reducible intro hg) <;> (first | (exfalso; simp at hg; done) | (have hg' := hg; (try simp only [hcs, beq_iff_eq, ge_iff_le, gt_iff_lt] at hg'); (try simp only [hg]))))) <;> (try simp (disch := omega) only [go_sem, wn]) <;> (repeat' with_reducible refine And.intro ?_ ?_) <;> (try (with_reducible refine hK _ ?_; clear hK K)))
| omega)
  refine AWP.loopS (ι := Nat) (fun j => j ≤ 10 - (decB m).length) (fun j => 10 - (decB m).length - j) [0] (fun j => [(6, S (List.replicate j 48 ++ decB m))]) 0 ?_ (by simp (disch := omega) only [go_sem, wn, true_and]) ?_
  · omega
  intro j hj
  have hl : (List.replicate j (48 : UInt8) ++ decB m).length = j + (decB m).length := by simp
  simp only [go_sem]
  by_cases h0 : j = 10 - (decB m).length
  · subst h0
    rw [hdp]
    have hkl := digK_len 10 m
    have hq : okS (name ++ digK 10 m) := by unfold okS; rw [List.length_append, digK_len]; omega
    (repeat' first
  | (with_reducible refine AR.f ?_)
  | refine zb (by decide) ?_
  | (with_reducible refine AWP.cond rfl ?_ ?_ <;> intro hc <;> (try simp only [hcs, beq_iff_eq, ge_iff_le, gt_iff_lt] at hc))
  | ((first | ((first | (with_reducible first | refine zR ?_ | refine zQ (by decide +kernel) ?_ | refine zD (by decide +kernel) ?_ | refine zE (by decide +kernel) ?_ | refine zG (by decide +kernel) ?_)); intro K hK) | ((first | refine zA (ref_named_c (name ++ digK 10 m) hq) ?_ ?_ ?_ ?_ ?_); (focus exact rfl); (focus exact rfl); iterate 2 (focus ((try simp (disch := omega) only [go_sem, wn, hkl]) <;> (try omega) <;> fail))) | ((first | refine zN (ref_named_c (name ++ digK 10 m) hq) rfl ?_ ?_); (focus ((try simp (disch := omega) only [go_sem, wn, hkl]) <;> (try omega) <;> fail))) | (first | ((first | refine zX (ref_named_c (name ++ digK 10 m) hq) rfl ?_ ?_ | refine zy (ref_named_c (name ++ digK 10 m) hq) ?_ ?_); (focus ((try simp (disch := omega) only [go_sem, wn, hkl]) <;> (try omega) <;> fail)))) | ((first | (with_reducible refine zu ?_ ?_ <;> intro hg) | with_reducible intro hg) <;> (first | (exfalso; simp at hg; done) | (have hg' := hg; (try simp only [hcs, beq_iff_eq, ge_iff_le, gt_iff_lt] at hg'); (try simp only [hg]))))) <;> (try simp (disch := omega) only [go_sem, wn, hkl]) <;> (repeat' with_reducible refine And.intro ?_ ?_) <;> (try (with_reducible refine hK _ ?_; clear hK K)))
  | omega)
    · rw [serP_no hm (by rw [show serT name m = name ++ digK 10 m from rfl, hc]; decide)]; (refine zF rfl ?_ ?_ ?_ ?_; (iterate 3 (focus ((try simp (disch := omega) only [go_sem, wn]) <;> (try omega) <;> fail))); (try simp (disch := omega) only [go_sem, wn, I, B, S, inj, List.cons.injEq, and_true, true_and, and_self]))
    · rw [serP_ok hm hc]; (refine zF rfl ?_ ?_ ?_ ?_; (iterate 3 (focus ((try simp (disch := omega) only [go_sem, wn, serT]) <;> (try omega) <;> fail))); (try simp (disch := omega) only [go_sem, wn, serT, I, B, S, inj, List.cons.injEq, and_true, true_and, and_self]))
  (repeat' first
| (with_reducible refine AR.f ?_)
| refine zb (by decide) ?_
| (with_reducible refine AWP.cond rfl ?_ ?_ <;> intro hc <;> (try simp only [hcs, beq_iff_eq, ge_iff_le, gt_iff_lt] at hc))
| ((first | ((first | (with_reducible first | refine zR ?_ | refine zQ (by decide +kernel) ?_ | refine zD (by decide +kernel) ?_ | refine zE (by decide +kernel) ?_ | refine zG (by decide +kernel) ?_)); intro K hK) | ((first | (with_reducible refine zu ?_ ?_ <;> intro hg) | with_reducible intro hg) <;> (first | (exfalso; simp at hg; done) | (have hg' := hg; (try simp only [hcs, beq_iff_eq, ge_iff_le, gt_iff_lt] at hg'); (try simp only [hg]))))) <;> (try simp (disch := omega) only [go_sem, wn]) <;> (repeat' with_reducible refine And.intro ?_ ?_) <;> (try (with_reducible refine hK _ ?_; clear hK K)))
| omega)
  · refine ⟨j + 1, by omega, by omega, ?_⟩
    (refine SImp.same ?_; simp (disch := omega) only [go_sem, wn, Int.natCast_add, List.replicate_succ, List.cons_append])
  all_goals (exfalso; omega)
end Go.Proofs.YtmpfhalheaeibaaDoor
namespace Go.Proofs.YtmpfhalheaeibaaDoor
set_option linter.unusedVariables false
set_option linter.unusedSimpArgs false
open Go Go.RowKit
set_option maxRecDepth 100000
set_option linter.unusedSimpArgs false
def joinL : List (List UInt8) → List UInt8
  | [] => []
  | p :: ps => 47 :: (p ++ joinL ps)
def pathOf (ps : List (List UInt8)) : List UInt8 := if ps = [] then [47] else joinL ps
theorem joinL_app (a b : List (List UInt8)) : joinL (a ++ b) = joinL a ++ joinL b := by
  induction a with
  | nil => rfl
  | cons p a ih => simp [joinL, ih]
theorem splitB_47 (b : List UInt8) : splitB (47 :: b) = [] :: splitB b := by simp [splitB]
theorem splitB_other {c : UInt8} (h : ¬ c = 47) (r : List UInt8) : splitB (c :: r) = match splitB r with
    | p :: ps => (c :: p) :: ps
    | [] => [[c]] := by simp only [splitB, if_neg h] <;> (cases splitB r <;> rfl)
theorem splitB_app (a b : List UInt8) : splitB (a ++ 47 :: b) = splitB a ++ splitB b := by
  induction a with
  | nil => exact splitB_47 b
  | cons c a ih =>
    by_cases h : c = 47
    · subst h
      rw [List.cons_append, splitB_47, splitB_47, ih]; rfl
    · rw [List.cons_append, splitB_other h, splitB_other h, ih]
      cases hs : splitB a with
      | nil => exact absurd hs (splitB_ne a)
      | cons p ps => rfl
theorem splitB_no {p : List UInt8} (h : (47 : UInt8) ∉ p) : splitB p = [p] := by
  induction p with
  | nil => rfl
  | cons c p ih =>
    rw [List.mem_cons, not_or] at h
    rw [splitB_other (fun e => h.1 e.symm), ih h.2]
theorem splitB_join {p : List UInt8} {ps : List (List UInt8)} (hp : (47 : UInt8) ∉ p) (h : ∀ q, q ∈ ps → (47 : UInt8) ∉ q) : splitB (p ++ joinL ps) = p :: ps := by
  induction ps generalizing p with
  | nil => rw [joinL, List.append_nil, splitB_no hp]
  | cons q ps ih =>
    rw [joinL, splitB_app, splitB_no hp, ih (h q (by simp)) (fun x hx => h x (List.mem_cons_of_mem _ hx))]; rfl
theorem splitB_joinL {ps : List (List UInt8)} (h : ∀ q, q ∈ ps → (47 : UInt8) ∉ q) : splitB (joinL ps) = [] :: ps :=
  splitB_join (p := []) (by simp) h
theorem join_splitB : ∀ (r : List UInt8), ∃ q qs, splitB r = q :: qs ∧ r = q ++ joinL qs
  | [] => ⟨[], [], rfl, rfl⟩
  | c :: r => by
    obtain ⟨q, qs, e1, e2⟩ := join_splitB r
    by_cases h : c = 47
    · subst h
      exact ⟨[], q :: qs, by rw [splitB_47, e1], by rw [e2]; rfl⟩
    · refine ⟨c :: q, qs, ?_, by rw [e2]; rfl⟩
      rw [splitB_other h, e1]
theorem named_no {p : List UInt8} (h : namedP p = true) : (47 : UInt8) ∉ p := by
  intro hm
  unfold namedP at h
  rw [Bool.and_eq_true, List.all_eq_true] at h
  have := h.1 _ hm
  revert this; decide
def stepsOf (s : List UInt8) : List (List UInt8) := if s = [47] then [] else splitB (s.drop 1)
theorem good_path {s : List UInt8} (h : goodP s = true) : s = pathOf (stepsOf s) ∧ (∀ q, q ∈ stepsOf s → namedP q = true) ∧ s.length ≤ 200 ∧ ∀ q, q ∈ stepsOf s → (47 : UInt8) ∉ q := by
  have hl := goodP_len h
  have key : s = pathOf (stepsOf s) ∧ (∀ q, q ∈ stepsOf s → namedP q = true) := by
    unfold stepsOf
    by_cases h47 : s = [47]
    · rw [if_pos h47]
      exact ⟨by rw [h47]; rfl, by simp⟩
    · rw [if_neg h47]
      unfold goodP at h
      rw [decide_eq_false h47, Bool.false_or, Bool.and_eq_true, Bool.and_eq_true, decide_eq_true_eq, decide_eq_true_eq] at h
      obtain ⟨_, ⟨h1, h2⟩, h3⟩ := h
      cases s with
      | nil => simp at h1
      | cons c r =>
        have hc : c = 47 := by simpa using h2
        subst hc
        obtain ⟨q, qs, e1, e2⟩ := join_splitB r
        refine ⟨?_, fun x hx => ?_⟩
        · show 47 :: r = pathOf (splitB r)
          rw [e1]
          unfold pathOf
          rw [if_neg (by simp), joinL, ← e2]
        · unfold allNamed at h3
          exact List.all_eq_true.1 h3 x hx
  exact ⟨key.1, key.2, hl, fun q hq => named_no (key.2 q hq)⟩
theorem joinL_ne {ps : List (List UInt8)} (h : ps ≠ []) : joinL ps ≠ [] := by
  cases ps with
  | nil => exact absurd rfl h
  | cons p ps => simp [joinL]
theorem joinL_47 {ps : List (List UInt8)} (hn : ∀ q, q ∈ ps → namedP q = true) : joinL ps ≠ [47] := by
  cases ps with
  | nil => simp [joinL]
  | cons p ps =>
    intro h
    have hp := hn p (by simp)
    rw [joinL, List.cons.injEq] at h
    have h2 := List.append_eq_nil_iff.1 h.2
    rw [h2.1] at hp
    revert hp; decide
theorem pathOf_47 {ps : List (List UInt8)} (hn : ∀ q, q ∈ ps → namedP q = true) : pathOf ps = [47] ↔ ps = [] := by
  unfold pathOf
  split
  · rename_i h; exact iff_of_true rfl h
  · rename_i h; exact iff_of_false (joinL_47 hn) h
theorem steps_pathOf {ps : List (List UInt8)} (hn : ∀ q, q ∈ ps → namedP q = true) : stepsOf (pathOf ps) = ps := by
  unfold stepsOf
  split
  · rename_i h; exact ((pathOf_47 hn).1 h).symm
  · rename_i h
    have h0 : ps ≠ [] := fun e => h ((pathOf_47 hn).2 e)
    unfold pathOf
    rw [if_neg h0]
    cases ps with
    | nil => exact absurd rfl h0
    | cons p ps =>
      show splitB (p ++ joinL ps) = _
      exact splitB_join (named_no (hn p (by simp))) fun q hq => named_no (hn q (List.mem_cons_of_mem _ hq))
theorem splitB_pathOf {ps : List (List UInt8)} (h : ∀ q, q ∈ ps → namedP q = true) (h0 : ps ≠ []) : splitB (pathOf ps) = [] :: ps := by
  unfold pathOf
  rw [if_neg h0]
  exact splitB_joinL fun q hq => named_no (h q hq)
theorem good_pathOf {ps : List (List UInt8)} (hn : ∀ q, q ∈ ps → namedP q = true) (hl : (pathOf ps).length ≤ 200) : goodP (pathOf ps) = true := by
  unfold goodP
  by_cases h0 : ps = []
  · subst h0; rfl
  · have e := steps_pathOf hn
    unfold stepsOf at e
    rw [if_neg (fun h => h0 ((pathOf_47 hn).1 h))] at e
    rw [decide_eq_true hl, Bool.true_and]
    unfold allNamed
    rw [e, List.all_eq_true.2 hn, Bool.and_true, Bool.or_eq_true, decide_eq_true_eq]
    refine .inr ?_
    rw [decide_eq_true_eq]
    unfold pathOf
    rw [if_neg h0]
    cases ps with
    | nil => exact absurd rfl h0
    | cons p ps => simp [joinL]
theorem joinL_take (ps : List (List UInt8)) (k : Nat) : (joinL (ps.take k)).length ≤ (joinL ps).length := by
  have := joinL_app (ps.take k) (ps.drop k)
  rw [List.take_append_drop] at this
  rw [this, List.length_append]; omega
theorem pathOf_take {ps : List (List UInt8)} (k : Nat) (h : (pathOf ps).length ≤ 200) : (pathOf (ps.take k)).length ≤ 200 := by
  have := joinL_take ps k
  unfold pathOf at *
  split at h
  · rename_i e; subst e; simp
  · split
    · simp
    · omega
def splitP (s : List UInt8) : (List UInt8 × List UInt8) × Int := if goodP s = true then (if stepsOf s = [] then (([], []), 7) else ((pathOf ((stepsOf s).take ((stepsOf s).length - 1)), (stepsOf s).getD ((stepsOf s).length - 1) []), 0)) else (([], []), 2)
theorem split_bad {s : List UInt8} (h : ¬ goodP s = true) : splitP s = (([], []), 2) := by unfold splitP; rw [if_neg h]
theorem split_root : splitP [47] = (([], []), 7) := by rfl
theorem split_snoc {ps : List (List UInt8)} {p : List UInt8} (hn : ∀ q, q ∈ ps ++ [p] → namedP q = true) (hl : (pathOf (ps ++ [p])).length ≤ 200) : splitP (pathOf (ps ++ [p])) = ((pathOf ps, p), 0) := by
  unfold splitP
  rw [if_pos (good_pathOf hn hl), steps_pathOf hn, if_neg (by simp), List.length_append, List.length_singleton, Nat.add_sub_cancel, List.take_left']
  · simp
  · rfl
theorem good_cases {s : List UInt8} (h : goodP s = true) : s = [47] ∨ ∃ ps p, (∀ q, q ∈ ps ++ [p] → namedP q = true) ∧ s = pathOf (ps ++ [p]) ∧ (pathOf (ps ++ [p])).length ≤ 200 ∧ pathOf (ps ++ [p]) = joinL ps ++ 47 :: p := by
  obtain ⟨h1, h2, h3, h4⟩ := good_path h
  rcases List.eq_nil_or_concat (stepsOf s) with e | ⟨ps, p, e⟩
  · left; rw [h1, e]; rfl
  · right
    rw [List.concat_eq_append] at e
    rw [e] at h1 h2
    refine ⟨ps, p, h2, h1, by rw [← h1]; exact h3, ?_⟩
    unfold pathOf
    rw [if_neg (by simp), joinL_app]
    simp [joinL]
theorem len_cat (a b : List UInt8) (c : UInt8) : (a ++ c :: b).length = a.length + b.length + 1 := by simp; omega
theorem cat_get_lt (a b : List UInt8) (c d : UInt8) (j : Nat) (h : j < b.length) : (a ++ c :: b).getD (a.length + b.length - j) d = b.getD (b.length - 1 - j) d := by
  rw [List.getD_eq_getElem?_getD, List.getElem?_append_right (by omega), show a.length + b.length - j - a.length = (b.length - 1 - j) + 1 from by omega, List.getElem?_cons_succ, ← List.getD_eq_getElem?_getD]
theorem cat_get_eq (a b : List UInt8) (c d : UInt8) : (a ++ c :: b).getD a.length d = c := by
  rw [List.getD_eq_getElem?_getD, List.getElem?_append_right (by omega), Nat.sub_self]; rfl
theorem lastB_c (a b : List UInt8) (c : UInt8) (hc : c ∉ b) (hs : okS (a ++ c :: b)) : acall Tryd.prog [] 170 [S (a ++ c :: b), .d (.int .u8 c.toNat)] (ret (I a.length)) := by
  unfold okS at hs
  have hlen := len_cat a b c
  rw [hlen] at hs
  have hst : ((a.length + b.length + 1 : Nat) : Int) - 1 = ((a.length + b.length : Nat) : Int) := by omega
  refine zi tabOk Tryd.func170 rfl (by kernel_rfl) (by simp [Tryd.ntmps170]) ?_; simp only [Tryd.ntmps170, Tryd.results170, List.toList_toArray, apar, List.length_nil, List.length_cons, Nat.reduceAdd]
  (repeat' first
| (with_reducible refine AR.f ?_)
| refine zb (by decide) ?_
| (with_reducible refine AWP.cond rfl ?_ ?_ <;> intro hc <;> (try simp only [hcs, beq_iff_eq, ge_iff_le, gt_iff_lt] at hc))
| ((first | ((first | (with_reducible first | refine zR ?_ | refine zQ (by decide +kernel) ?_ | refine zD (by decide +kernel) ?_ | refine zE (by decide +kernel) ?_ | refine zG (by decide +kernel) ?_)); intro K hK) | ((first | (with_reducible refine zu ?_ ?_ <;> intro hg) | with_reducible intro hg) <;> (first | (exfalso; simp at hg; done) | (have hg' := hg; (try simp only [hcs, beq_iff_eq, ge_iff_le, gt_iff_lt] at hg'); (try simp only [hg]))))) <;> (try simp (disch := omega) only [go_sem, wn, hlen]) <;> (repeat' with_reducible refine And.intro ?_ ?_) <;> (try (with_reducible refine hK _ ?_; clear hK K)))
| omega)
  refine AWP.loopS (ι := Nat) (fun j => j ≤ b.length) (fun j => b.length - j) [0, 1] (fun j => [(5, I ((a.length + b.length - j : Nat) : Int))]) 0 ?_ (by simp (disch := omega) only [go_sem, wn, hst, Nat.sub_zero]) ?_
  · omega
  intro j hj
  simp only [go_sem]
  (repeat' first
| (with_reducible refine AR.f ?_)
| refine zb (by decide) ?_
| (with_reducible refine AWP.cond rfl ?_ ?_ <;> intro hc <;> (try simp only [hcs, beq_iff_eq, ge_iff_le, gt_iff_lt] at hc))
| ((first | ((first | (with_reducible first | refine zR ?_ | refine zQ (by decide +kernel) ?_ | refine zD (by decide +kernel) ?_ | refine zE (by decide +kernel) ?_ | refine zG (by decide +kernel) ?_)); intro K hK) | ((first | (with_reducible refine zu ?_ ?_ <;> intro hg) | with_reducible intro hg) <;> (first | (exfalso; simp at hg; done) | (have hg' := hg; (try simp only [hcs, beq_iff_eq, ge_iff_le, gt_iff_lt] at hg'); (try simp only [hg]))))) <;> (try simp (disch := omega) only [go_sem, wn, hlen]) <;> (repeat' with_reducible refine And.intro ?_ ?_) <;> (try (with_reducible refine hK _ ?_; clear hK K)))
| omega)
  · by_cases e : j = b.length
    · subst e
      (refine zF rfl ?_ ?_ ?_ ?_; (iterate 3 (focus ((try simp (disch := omega) only [go_sem, wn, Nat.add_sub_cancel]) <;> (try omega) <;> fail))); (try simp (disch := omega) only [go_sem, wn, Nat.add_sub_cancel, I, B, S, inj, List.cons.injEq, and_true, true_and, and_self]))
    · have hlt : j < b.length := by omega
      rw [cat_get_lt a b c 0 j hlt] at hc
      exfalso
      have hb : b.getD (b.length - 1 - j) 0 = c := UInt8.toNat.inj (Int.ofNat_inj.1 hc)
      rw [List.getD_eq_getElem?_getD, List.getElem?_eq_getElem (by omega)] at hb
      have hin := List.getElem_mem (l := b) (n := b.length - 1 - j) (by omega)
      rw [show b[b.length - 1 - j] = c from hb] at hin
      exact absurd hin (by assumption)
  · by_cases e : j = b.length
    · subst e
      exfalso
      rw [Nat.add_sub_cancel, cat_get_eq] at hc
      exact hc rfl
    · refine ⟨j + 1, by omega, by omega, ?_⟩
      have e1 : ((a.length + b.length - (j + 1) : Nat) : Int) = ((a.length + b.length - j : Nat) : Int) - 1 := by omega
      rw [e1]
      (refine SImp.same ?_; simp (disch := omega) only [go_sem, wn, Int.natCast_add])
  all_goals (exfalso; omega)
theorem lastIndex_c (a b : List UInt8) (c : UInt8) (hc : c ∉ b) (hs : okS (a ++ c :: b)) : acall Tryd.prog [] 141 [S (a ++ c :: b), .d (.int .u8 c.toNat)] (ret (I a.length)) := by
  refine zi tabOk Tryd.func141 rfl (by kernel_rfl) (by simp [Tryd.ntmps141]) ?_; simp only [Tryd.ntmps141, Tryd.results141, List.toList_toArray, apar, List.length_nil, List.length_cons, Nat.reduceAdd]
  (repeat' first
| (with_reducible refine AR.f ?_)
| refine zb (by decide) ?_
| (with_reducible refine AWP.cond rfl ?_ ?_ <;> intro hc <;> (try simp only [hcs, beq_iff_eq, ge_iff_le, gt_iff_lt] at hc))
| ((first | ((first | (with_reducible first | refine zR ?_ | refine zQ (by decide +kernel) ?_ | refine zD (by decide +kernel) ?_ | refine zE (by decide +kernel) ?_ | refine zG (by decide +kernel) ?_)); intro K hK) | ((first | refine zA (lastB_c a b c hc hs) ?_ ?_ ?_ ?_ ?_); (focus exact rfl); (focus exact rfl); iterate 2 (focus ((try simp (disch := omega) only [go_sem, wn]) <;> (try omega) <;> fail))) | ((first | refine zN (lastB_c a b c hc hs) rfl ?_ ?_); (focus ((try simp (disch := omega) only [go_sem, wn]) <;> (try omega) <;> fail))) | (first | ((first | refine zX (lastB_c a b c hc hs) rfl ?_ ?_ | refine zy (lastB_c a b c hc hs) ?_ ?_); (focus ((try simp (disch := omega) only [go_sem, wn]) <;> (try omega) <;> fail)))) | ((first | (with_reducible refine zu ?_ ?_ <;> intro hg) | with_reducible intro hg) <;> (first | (exfalso; simp at hg; done) | (have hg' := hg; (try simp only [hcs, beq_iff_eq, ge_iff_le, gt_iff_lt] at hg'); (try simp only [hg]))))) <;> (try simp (disch := omega) only [go_sem, wn]) <;> (repeat' with_reducible refine And.intro ?_ ?_) <;> (try (with_reducible refine hK _ ?_; clear hK K)))
| omega)
  (refine zF rfl ?_ ?_ ?_ ?_; (iterate 3 (focus ((try simp (disch := omega) only [go_sem, wn]) <;> (try omega) <;> fail))); (try simp (disch := omega) only [go_sem, wn, I, B, S, inj, List.cons.injEq, and_true, true_and, and_self]))
theorem split_c (s : List UInt8) (hs : okS s) : acall Tryd.prog [] 91 [S s] (ret (.tup [S (splitP s).1.1, S (splitP s).1.2, I (splitP s).2])) := by
  by_cases h : goodP s = true
  case neg =>
    rw [split_bad h]
    refine zi tabOk Tryd.func91 rfl (by kernel_rfl) (by simp [Tryd.ntmps91]) ?_; simp only [Tryd.ntmps91, Tryd.results91, List.toList_toArray, apar, List.length_nil, List.length_cons, Nat.reduceAdd]
    (repeat' first
  | (with_reducible refine AR.f ?_)
  | refine zb (by decide) ?_
  | (with_reducible refine AWP.cond rfl ?_ ?_ <;> intro hc <;> (try simp only [hcs, beq_iff_eq, ge_iff_le, gt_iff_lt] at hc))
  | ((first | ((first | (with_reducible first | refine zR ?_ | refine zQ (by decide +kernel) ?_ | refine zD (by decide +kernel) ?_ | refine zE (by decide +kernel) ?_ | refine zG (by decide +kernel) ?_)); intro K hK) | ((first | refine zA ((good_c s hs).re (congrArg B (eq_false_of_ne_true h))) ?_ ?_ ?_ ?_ ?_); (focus exact rfl); (focus exact rfl); iterate 2 (focus ((try simp (disch := omega) only [go_sem, wn]) <;> (try omega) <;> fail))) | ((first | refine zN ((good_c s hs).re (congrArg B (eq_false_of_ne_true h))) rfl ?_ ?_); (focus ((try simp (disch := omega) only [go_sem, wn]) <;> (try omega) <;> fail))) | (first | ((first | refine zX ((good_c s hs).re (congrArg B (eq_false_of_ne_true h))) rfl ?_ ?_ | refine zy ((good_c s hs).re (congrArg B (eq_false_of_ne_true h))) ?_ ?_); (focus ((try simp (disch := omega) only [go_sem, wn]) <;> (try omega) <;> fail)))) | ((first | (with_reducible refine zu ?_ ?_ <;> intro hg) | with_reducible intro hg) <;> (first | (exfalso; simp at hg; done) | (have hg' := hg; (try simp only [hcs, beq_iff_eq, ge_iff_le, gt_iff_lt] at hg'); (try simp only [hg]))))) <;> (try simp (disch := omega) only [go_sem, wn]) <;> (repeat' with_reducible refine And.intro ?_ ?_) <;> (try (with_reducible refine hK _ ?_; clear hK K)))
  | omega)
    (refine zF rfl ?_ ?_ ?_ ?_; (iterate 3 (focus ((try simp (disch := omega) only [go_sem, wn]) <;> (try omega) <;> fail))); (try simp (disch := omega) only [go_sem, wn, I, B, S, inj, List.cons.injEq, and_true, true_and, and_self]))
  rcases good_cases h with rfl | ⟨ps, p, hn, e, hl, hj⟩
  · rw [split_root]
    refine zi tabOk Tryd.func91 rfl (by kernel_rfl) (by simp [Tryd.ntmps91]) ?_; simp only [Tryd.ntmps91, Tryd.results91, List.toList_toArray, apar, List.length_nil, List.length_cons, Nat.reduceAdd]
    (repeat' first
  | (with_reducible refine AR.f ?_)
  | refine zb (by decide) ?_
  | (with_reducible refine AWP.cond rfl ?_ ?_ <;> intro hc <;> (try simp only [hcs, beq_iff_eq, ge_iff_le, gt_iff_lt] at hc))
  | ((first | ((first | (with_reducible first | refine zR ?_ | refine zQ (by decide +kernel) ?_ | refine zD (by decide +kernel) ?_ | refine zE (by decide +kernel) ?_ | refine zG (by decide +kernel) ?_)); intro K hK) | ((first | refine zA ((good_c [47] hs).re (congrArg B h)) ?_ ?_ ?_ ?_ ?_); (focus exact rfl); (focus exact rfl); iterate 2 (focus ((try simp (disch := omega) only [go_sem, wn]) <;> (try omega) <;> fail))) | ((first | refine zN ((good_c [47] hs).re (congrArg B h)) rfl ?_ ?_); (focus ((try simp (disch := omega) only [go_sem, wn]) <;> (try omega) <;> fail))) | (first | ((first | refine zX ((good_c [47] hs).re (congrArg B h)) rfl ?_ ?_ | refine zy ((good_c [47] hs).re (congrArg B h)) ?_ ?_); (focus ((try simp (disch := omega) only [go_sem, wn]) <;> (try omega) <;> fail)))) | ((first | (with_reducible refine zu ?_ ?_ <;> intro hg) | with_reducible intro hg) <;> (first | (exfalso; simp at hg; done) | (have hg' := hg; (try simp only [hcs, beq_iff_eq, ge_iff_le, gt_iff_lt] at hg'); (try simp only [hg]))))) <;> (try simp (disch := omega) only [go_sem, wn]) <;> (repeat' with_reducible refine And.intro ?_ ?_) <;> (try (with_reducible refine hK _ ?_; clear hK K)))
  | omega)
    (refine zF rfl ?_ ?_ ?_ ?_; (iterate 3 (focus ((try simp (disch := omega) only [go_sem, wn]) <;> (try omega) <;> fail))); (try simp (disch := omega) only [go_sem, wn, I, B, S, inj, List.cons.injEq, and_true, true_and, and_self]))
  have hsp := split_snoc hn hl
  rw [← e] at hsp hl
  rw [hsp]
  rw [hj] at e
  have hp := named_no (hn p (by simp))
  have hlen := len_cat (joinL ps) p 47
  rw [← e] at hlen
  have hp0 : p ≠ [] := fun h1 => by
    have := hn p (by simp)
    rw [h1] at this; revert this; decide
  have hpl := List.length_pos_iff.2 hp0
  have h47 : ¬ s = [47] := fun h0 => by
    rw [h0, List.length_singleton] at hlen; omega
  have hlast : acall Tryd.prog [] 141 [S (joinL ps ++ 47 :: p), .d (.int .u8 47)] (ret (I (joinL ps).length)) := lastIndex_c (joinL ps) p 47 hp (by rw [← e]; exact hs)
  rw [← e] at hlast
  refine zi tabOk Tryd.func91 rfl (by kernel_rfl) (by simp [Tryd.ntmps91]) ?_; simp only [Tryd.ntmps91, Tryd.results91, List.toList_toArray, apar, List.length_nil, List.length_cons, Nat.reduceAdd]
  (repeat' first
| (with_reducible refine AR.f ?_)
| refine zb (by decide) ?_
| (with_reducible refine AWP.cond rfl ?_ ?_ <;> intro hc <;> (try simp only [hcs, beq_iff_eq, ge_iff_le, gt_iff_lt] at hc))
| ((first | ((first | (with_reducible first | refine zR ?_ | refine zQ (by decide +kernel) ?_ | refine zD (by decide +kernel) ?_ | refine zE (by decide +kernel) ?_ | refine zG (by decide +kernel) ?_)); intro K hK) | ((first | refine zA ((good_c s hs).re (congrArg B h)) ?_ ?_ ?_ ?_ ?_ | refine zA hlast ?_ ?_ ?_ ?_ ?_); (focus exact rfl); (focus exact rfl); iterate 2 (focus ((try simp (disch := omega) only [go_sem, wn, h47]) <;> (try omega) <;> fail))) | ((first | refine zN ((good_c s hs).re (congrArg B h)) rfl ?_ ?_ | refine zN hlast rfl ?_ ?_); (focus ((try simp (disch := omega) only [go_sem, wn, h47]) <;> (try omega) <;> fail))) | (first | ((first | refine zX ((good_c s hs).re (congrArg B h)) rfl ?_ ?_ | refine zy ((good_c s hs).re (congrArg B h)) ?_ ?_); (focus ((try simp (disch := omega) only [go_sem, wn, h47]) <;> (try omega) <;> fail))) | ((first | refine zX hlast rfl ?_ ?_ | refine zy hlast ?_ ?_); (focus ((try simp (disch := omega) only [go_sem, wn, h47]) <;> (try omega) <;> fail)))) | ((first | (with_reducible refine zu ?_ ?_ <;> intro hg) | with_reducible intro hg) <;> (first | (exfalso; simp at hg; done) | (have hg' := hg; (try simp only [hcs, beq_iff_eq, ge_iff_le, gt_iff_lt] at hg'); (try simp only [hg]))))) <;> (try simp (disch := omega) only [go_sem, wn, h47]) <;> (repeat' with_reducible refine And.intro ?_ ?_) <;> (try (with_reducible refine hK _ ?_; clear hK K)))
| omega)
  · have e0 : joinL ps = [] := List.eq_nil_of_length_eq_zero hc
    have eps : ps = [] := Decidable.byContradiction fun h => joinL_ne h e0
    have e1 : List.take (s.length - 1) (List.drop 1 s) = p := by
      rw [List.take_of_length_le (by simp), e, e0]; rfl
    have e2 : pathOf ps = [47] := by rw [eps]; rfl
    rw [e2]
    (refine zF rfl ?_ ?_ ?_ ?_; (iterate 3 (focus ((try simp (disch := omega) only [go_sem, wn, e1]) <;> (try omega) <;> fail))); (try simp (disch := omega) only [go_sem, wn, e1, I, B, S, inj, List.cons.injEq, and_true, true_and, and_self]))
  · have eps : ps ≠ [] := fun h => hc (by rw [h]; rfl)
    have e1 : List.take (s.length - ((joinL ps).length + 1)) (List.drop ((joinL ps).length + 1) s) = p := by
      rw [List.take_of_length_le (by simp), e, ← List.drop_drop, List.drop_left]; rfl
    have e2 : pathOf ps = joinL ps := by unfold pathOf; rw [if_neg eps]
    have e3 : List.take (joinL ps).length s = joinL ps := by rw [e, List.take_left]
    have e4 : (((joinL ps).length : Int) + 1).toNat = (joinL ps).length + 1 := by omega
    rw [e2]
    (refine zF rfl ?_ ?_ ?_ ?_; (iterate 3 (focus ((try simp (disch := omega) only [go_sem, wn, e4, e1, e3, Nat.sub_zero]) <;> (try omega) <;> fail))); (try simp (disch := omega) only [go_sem, wn, e4, e1, e3, Nat.sub_zero, I, B, S, inj, List.cons.injEq, and_true, true_and, and_self]))
theorem joinL_snoc (ps : List (List UInt8)) (p : List UInt8) : joinL (ps ++ [p]) = joinL ps ++ 47 :: p := by
  rw [joinL_app]; simp [joinL]
theorem ref_split_c (s : List UInt8) (hs : s.length ≤ 1048576) : acall Tryd.prog [] 88 [S s] (ret (.tup [S (splitP s).1.1, S (splitP s).1.2, I (splitP s).2])) := by
  by_cases h : goodP s = true
  case neg =>
    rw [split_bad h]
    refine zi tabOk Tryd.func88 rfl (by kernel_rfl) (by simp [Tryd.ntmps88]) ?_; simp only [Tryd.ntmps88, Tryd.results88, List.toList_toArray, apar, List.length_nil, List.length_cons, Nat.reduceAdd]
    (repeat' first
  | (with_reducible refine AR.f ?_)
  | refine zb (by decide) ?_
  | (with_reducible refine AWP.cond rfl ?_ ?_ <;> intro hc <;> (try simp only [hcs, beq_iff_eq, ge_iff_le, gt_iff_lt] at hc))
  | ((first | ((first | (with_reducible first | refine zR ?_ | refine zQ (by decide +kernel) ?_ | refine zD (by decide +kernel) ?_ | refine zE (by decide +kernel) ?_ | refine zG (by decide +kernel) ?_)); intro K hK) | ((first | refine zA ((ref_good_c s hs).re (congrArg B (eq_false_of_ne_true h))) ?_ ?_ ?_ ?_ ?_); (focus exact rfl); (focus exact rfl); iterate 2 (focus ((try simp (disch := omega) only [go_sem, wn]) <;> (try omega) <;> fail))) | ((first | refine zN ((ref_good_c s hs).re (congrArg B (eq_false_of_ne_true h))) rfl ?_ ?_); (focus ((try simp (disch := omega) only [go_sem, wn]) <;> (try omega) <;> fail))) | (first | ((first | refine zX ((ref_good_c s hs).re (congrArg B (eq_false_of_ne_true h))) rfl ?_ ?_ | refine zy ((ref_good_c s hs).re (congrArg B (eq_false_of_ne_true h))) ?_ ?_); (focus ((try simp (disch := omega) only [go_sem, wn]) <;> (try omega) <;> fail)))) | ((first | (with_reducible refine zu ?_ ?_ <;> intro hg) | with_reducible intro hg) <;> (first | (exfalso; simp at hg; done) | (have hg' := hg; (try simp only [hcs, beq_iff_eq, ge_iff_le, gt_iff_lt] at hg'); (try simp only [hg]))))) <;> (try simp (disch := omega) only [go_sem, wn]) <;> (repeat' with_reducible refine And.intro ?_ ?_) <;> (try (with_reducible refine hK _ ?_; clear hK K)))
  | omega)
    (refine zF rfl ?_ ?_ ?_ ?_; (iterate 3 (focus ((try simp (disch := omega) only [go_sem, wn]) <;> (try omega) <;> fail))); (try simp (disch := omega) only [go_sem, wn, I, B, S, inj, List.cons.injEq, and_true, true_and, and_self]))
  rcases good_cases h with rfl | ⟨ps, p, hn, e, hl, hj⟩
  · rw [split_root]
    refine zi tabOk Tryd.func88 rfl (by kernel_rfl) (by simp [Tryd.ntmps88]) ?_; simp only [Tryd.ntmps88, Tryd.results88, List.toList_toArray, apar, List.length_nil, List.length_cons, Nat.reduceAdd]
    (repeat' first
  | (with_reducible refine AR.f ?_)
  | refine zb (by decide) ?_
  | (with_reducible refine AWP.cond rfl ?_ ?_ <;> intro hc <;> (try simp only [hcs, beq_iff_eq, ge_iff_le, gt_iff_lt] at hc))
  | ((first | ((first | (with_reducible first | refine zR ?_ | refine zQ (by decide +kernel) ?_ | refine zD (by decide +kernel) ?_ | refine zE (by decide +kernel) ?_ | refine zG (by decide +kernel) ?_)); intro K hK) | ((first | refine zA ((ref_good_c [47] hs).re (congrArg B h)) ?_ ?_ ?_ ?_ ?_); (focus exact rfl); (focus exact rfl); iterate 2 (focus ((try simp (disch := omega) only [go_sem, wn]) <;> (try omega) <;> fail))) | ((first | refine zN ((ref_good_c [47] hs).re (congrArg B h)) rfl ?_ ?_); (focus ((try simp (disch := omega) only [go_sem, wn]) <;> (try omega) <;> fail))) | (first | ((first | refine zX ((ref_good_c [47] hs).re (congrArg B h)) rfl ?_ ?_ | refine zy ((ref_good_c [47] hs).re (congrArg B h)) ?_ ?_); (focus ((try simp (disch := omega) only [go_sem, wn]) <;> (try omega) <;> fail)))) | ((first | (with_reducible refine zu ?_ ?_ <;> intro hg) | with_reducible intro hg) <;> (first | (exfalso; simp at hg; done) | (have hg' := hg; (try simp only [hcs, beq_iff_eq, ge_iff_le, gt_iff_lt] at hg'); (try simp only [hg]))))) <;> (try simp (disch := omega) only [go_sem, wn]) <;> (repeat' with_reducible refine And.intro ?_ ?_) <;> (try (with_reducible refine hK _ ?_; clear hK K)))
  | omega)
    (refine zF rfl ?_ ?_ ?_ ?_; (iterate 3 (focus ((try simp (disch := omega) only [go_sem, wn]) <;> (try omega) <;> fail))); (try simp (disch := omega) only [go_sem, wn, I, B, S, inj, List.cons.injEq, and_true, true_and, and_self]))
  have hsp := split_snoc hn hl
  have hpieces := splitB_pathOf hn (by simp)
  rw [← e] at hsp hl hpieces
  rw [hsp]
  rw [hj] at e
  have hn47 : ¬ s = [47] := fun h0 => by
    rw [h0] at hpieces
    have h2 := hn p (by simp)
    have h3 : ps ++ [p] = [[]] := by
      have : splitB [47] = [[], []] := rfl
      rw [this, List.cons.injEq] at hpieces
      exact hpieces.2.symm
    have h4 : p ∈ ps ++ [p] := by simp
    rw [h3, List.mem_singleton] at h4
    rw [h4] at h2; revert h2; decide
  have hst := (steps_c s hs).re (by rw [hpieces])
  have hjl : (joinL ps).length ≤ 200 := by
    have := len_cat (joinL ps) p 47
    rw [← e] at this; omega
  have hpl : ps.length + 1 ≤ 201 := by
    have := splitB_le s
    rw [hpieces] at this
    simp at this; omega
  have en : ((ps.length + 1 + 1 : Nat) : Int) - 1 = ((ps.length + 1 : Nat) : Int) := by omega
  have em : min ps.length (ps.length + 1) = ps.length := by omega
  have etk : List.take ps.length (List.map srow (ps ++ [p])) = List.map srow ps := by simp
  have eg : ([DV.str []] :: List.map srow (ps ++ [p])).getD (ps.length + 1) [] = srow p := by
    rw [List.getD_eq_getElem?_getD, List.getElem?_cons_succ, List.map_append, List.getElem?_append_right (by simp)]; simp
  refine zi tabOk Tryd.func88 rfl (by kernel_rfl) (by simp [Tryd.ntmps88]) ?_; simp only [Tryd.ntmps88, Tryd.results88, List.toList_toArray, apar, List.length_nil, List.length_cons, Nat.reduceAdd]
  (repeat' first
| (with_reducible refine AR.f ?_)
| refine zb (by decide) ?_
| (with_reducible refine AWP.cond rfl ?_ ?_ <;> intro hc <;> (try simp only [hcs, beq_iff_eq, ge_iff_le, gt_iff_lt] at hc))
| ((first | ((first | (with_reducible first | refine zR ?_ | refine zQ (by decide +kernel) ?_ | refine zD (by decide +kernel) ?_ | refine zE (by decide +kernel) ?_ | refine zG (by decide +kernel) ?_)); intro K hK) | ((first | refine zA ((ref_good_c s hs).re (congrArg B h)) ?_ ?_ ?_ ?_ ?_ | refine zA hst ?_ ?_ ?_ ?_ ?_); (focus exact rfl); (focus exact rfl); iterate 2 (focus ((try simp (disch := omega) only [go_sem, wn, hn47, en, em, etk, eg, Nat.add_sub_cancel]) <;> (try omega) <;> fail))) | ((first | refine zN ((ref_good_c s hs).re (congrArg B h)) rfl ?_ ?_ | refine zN hst rfl ?_ ?_); (focus ((try simp (disch := omega) only [go_sem, wn, hn47, en, em, etk, eg, Nat.add_sub_cancel]) <;> (try omega) <;> fail))) | (first | ((first | refine zX ((ref_good_c s hs).re (congrArg B h)) rfl ?_ ?_ | refine zy ((ref_good_c s hs).re (congrArg B h)) ?_ ?_); (focus ((try simp (disch := omega) only [go_sem, wn, hn47, en, em, etk, eg, Nat.add_sub_cancel]) <;> (try omega) <;> fail))) | ((first | refine zX hst rfl ?_ ?_ | refine zy hst ?_ ?_); (focus ((try simp (disch := omega) only [go_sem, wn, hn47, en, em, etk, eg, Nat.add_sub_cancel]) <;> (try omega) <;> fail)))) | ((first | (with_reducible refine zu ?_ ?_ <;> intro hg) | with_reducible intro hg) <;> (first | (exfalso; simp at hg; done) | (have hg' := hg; (try simp only [hcs, beq_iff_eq, ge_iff_le, gt_iff_lt] at hg'); (try simp only [hg]))))) <;> (try simp (disch := omega) only [go_sem, wn, hn47, en, em, etk, eg, Nat.add_sub_cancel]) <;> (repeat' with_reducible refine And.intro ?_ ?_) <;> (try (with_reducible refine hK _ ?_; clear hK K)))
| omega)
  refine AWP.loopS (ι := Nat) (fun k => k ≤ ps.length) (fun k => ps.length - k) [5, 6, 22, 23] (fun k => [(7, S (joinL (ps.take k))), (24, I k)]) 0 ?_ (by simp (disch := omega) only [go_sem, wn, joinL]) ?_
  · omega
  intro k hk
  have hkl := joinL_take ps k
  have hgk : (ps.getD k []).length ≤ 40 := by
    by_cases hk2 : k < ps.length
    · exact namedP_len (hn _ (List.mem_append_left _ (mem_getD ps [] hk2)))
    · rw [List.getD_eq_getElem?_getD, List.getElem?_eq_none (by omega)]; exact Nat.zero_le _
  have egd : (ps ++ [p]).getD ps.length default = p := by
    rw [List.getD_eq_getElem?_getD, List.getElem?_append_right (Nat.le_refl _), Nat.sub_self]; rfl
  simp only [go_sem]
  (repeat' first
| (with_reducible refine AR.f ?_)
| refine zb (by decide) ?_
| (with_reducible refine AWP.cond rfl ?_ ?_ <;> intro hc <;> (try simp only [hcs, beq_iff_eq, ge_iff_le, gt_iff_lt] at hc))
| ((first | ((first | (with_reducible first | refine zR ?_ | refine zQ (by decide +kernel) ?_ | refine zD (by decide +kernel) ?_ | refine zE (by decide +kernel) ?_ | refine zG (by decide +kernel) ?_)); intro K hK) | ((first | (with_reducible refine zu ?_ ?_ <;> intro hg) | with_reducible intro hg) <;> (first | (exfalso; simp at hg; done) | (have hg' := hg; (try simp only [hcs, beq_iff_eq, ge_iff_le, gt_iff_lt] at hg'); (try simp only [hg]))))) <;> (try simp (disch := omega) only [go_sem, wn, srow_rgetD, srow, en, eg]) <;> (repeat' with_reducible refine And.intro ?_ ?_) <;> (try (with_reducible refine hK _ ?_; clear hK K)))
| omega)
  · refine ⟨k + 1, by omega, by omega, ?_⟩
    have ets : ps.take (k + 1) = ps.take k ++ [ps.getD k []] := take_snoc ps k (by assumption)
    rw [ets, joinL_snoc]
    (refine SImp.same ?_; simp (disch := omega) only [go_sem, wn, Int.natCast_add])
  · have ek : k = ps.length := by omega
    rw [ek, List.take_length] at hc
    have eps : ps = [] := Decidable.byContradiction fun h => joinL_ne h hc
    have e2 : pathOf ps = [47] := by rw [eps]; rfl
    rw [e2]
    (refine zF rfl ?_ ?_ ?_ ?_; (iterate 3 (focus ((try simp (disch := omega) only [go_sem, wn, egd]) <;> (try omega) <;> fail))); (try simp (disch := omega) only [go_sem, wn, egd, I, B, S, inj, List.cons.injEq, and_true, true_and, and_self]))
  · have ek : k = ps.length := by omega
    subst ek
    rw [List.take_length] at *
    have eps : ps ≠ [] := fun h => hc (by rw [h]; rfl)
    have e2 : pathOf ps = joinL ps := by unfold pathOf; rw [if_neg eps]
    rw [e2]
    (refine zF rfl ?_ ?_ ?_ ?_; (iterate 3 (focus ((try simp (disch := omega) only [go_sem, wn, egd]) <;> (try omega) <;> fail))); (try simp (disch := omega) only [go_sem, wn, egd, I, B, S, inj, List.cons.injEq, and_true, true_and, and_self]))
/-! Depth. -/
end Go.Proofs.YtmpfhalheaeibaaDoor
namespace Go.Proofs.YtmpfhalheaeibaaDoor
set_option linter.unusedVariables false
set_option linter.unusedSimpArgs false
open Go Go.RowKit
set_option maxRecDepth 100000
set_option linter.unusedSimpArgs false
def badZ (e c : Int) : Prop := e < 0 ∨ 2147483647 < e ∨ c < 0 ∨ 2147483647 < c
instance (e c : Int) : Decidable (badZ e c) := by unfold badZ; infer_instance
def two (p : Int × Int) : AV := .tup [I p.1, I p.2]
def goodZ (z : Int) : Prop := 0 ≤ z ∧ z < 4611686018427387904
instance (z : Int) : Decidable (goodZ z) := by unfold goodZ; infer_instance
theorem zgood_c (z : Int) : acall Tryd.prog [] 89 [I z] (ret (B (decide (goodZ z)))) := by
  refine zi tabOk Tryd.func89 rfl (by kernel_rfl) (by simp [Tryd.ntmps89]) ?_; simp only [Tryd.ntmps89, Tryd.results89, List.toList_toArray, apar, List.length_nil, List.length_cons, Nat.reduceAdd]
  repeat' first
    | with_reducible refine AWP.seq ?_
    | with_reducible refine thenA_n ?_
    | with_reducible refine thenA_r ?_
    | with_reducible refine thenA_e ?_
    | with_reducible refine blkA_n ?_
    | with_reducible refine blkA_r ?_
    | with_reducible refine blkA_e ?_
    | with_reducible refine zb (by decide) ?_
    | with_reducible refine AWP.skip ?_
    | with_reducible refine AWP.ret ?_
    | with_reducible refine AWP.exit ?_
    | with_reducible refine AWP.block ?_
    | (with_reducible refine AWP.cond rfl ?_ ?_ <;> intro _)
    | (with_reducible refine AWP.region tabOk ?_; intro K hK; simp only [go_sem, ↓reduceIte, reduceCtorEq, Nat.reduceAdd, Nat.reduceSub, Nat.reduceMul, Nat.reducePow, Nat.reduceDiv, Nat.reduceMod, Nat.reduceLT, Nat.reduceLeDiff, Nat.reduceEqDiff, Nat.reduceBEq, Int.reduceToNat, Int.reduceLT, Int.reduceLE, Int.reduceAdd, Int.reduceSub, Int.reduceMul, Int.reducePow, Int.reduceNeg, Int.reduceEq, Int.toNat_natCast, Int.cast_ofNat_Int, Bool.not_eq_true', Bool.not_eq_false', ge_iff_le, gt_iff_lt, ne_eq, not_false_eq_true, not_true_eq_false, Nat.one_ne_zero, beq_self_eq_true, Bool.bne_false, Nat.zero_add, true_and]; (repeat' with_reducible apply And.intro) <;> (try (with_reducible refine hK _ ?_; clear hK K)))
    | (with_reducible refine AWP.quiet mixed tabOk (by kernel_rfl) ?_; intro K hK; simp only [go_sem, ↓reduceIte, reduceCtorEq, Nat.reduceAdd, Nat.reduceSub, Nat.reduceMul, Nat.reducePow, Nat.reduceDiv, Nat.reduceMod, Nat.reduceLT, Nat.reduceLeDiff, Nat.reduceEqDiff, Nat.reduceBEq, Int.reduceToNat, Int.reduceLT, Int.reduceLE, Int.reduceAdd, Int.reduceSub, Int.reduceMul, Int.reducePow, Int.reduceNeg, Int.reduceEq, Int.toNat_natCast, Int.cast_ofNat_Int, Bool.not_eq_true', Bool.not_eq_false', ge_iff_le, gt_iff_lt, ne_eq, not_false_eq_true, not_true_eq_false, Nat.one_ne_zero, beq_self_eq_true, Bool.bne_false, Nat.zero_add, true_and]; (repeat' with_reducible apply And.intro) <;> (try (with_reducible refine hK _ ?_; clear hK K)))
    | (intro hg; first | (exfalso; simp at hg; done) | ((try simp only [hg, go_sem, ↓reduceIte, reduceCtorEq, Nat.reduceAdd, Nat.reduceSub, Nat.reduceMul, Nat.reducePow, Nat.reduceDiv, Nat.reduceMod, Nat.reduceLT, Nat.reduceLeDiff, Nat.reduceEqDiff, Nat.reduceBEq, Int.reduceToNat, Int.reduceLT, Int.reduceLE, Int.reduceAdd, Int.reduceSub, Int.reduceMul, Int.reducePow, Int.reduceNeg, Int.reduceEq, Int.toNat_natCast, Int.cast_ofNat_Int, Bool.not_eq_true', Bool.not_eq_false', ge_iff_le, gt_iff_lt, ne_eq, not_false_eq_true, not_true_eq_false, Nat.one_ne_zero, beq_self_eq_true, Bool.bne_false, Nat.zero_add, true_and]) <;> (repeat' with_reducible refine And.intro ?_ ?_) <;> (try (with_reducible refine hK _ ?_; clear hK K))))
    | omega
  all_goals try (refine aend_ret ?_ rfl ?_ ?_ ?_ ?_; (focus (first | exact .inl rfl | exact .inr rfl)); (focus (simp only [go_sem, ↓reduceIte, reduceCtorEq, Nat.reduceAdd, Nat.reduceSub, Nat.reduceMul, Nat.reducePow, Nat.reduceDiv, Nat.reduceMod, Nat.reduceLT, Nat.reduceLeDiff, Nat.reduceEqDiff, Nat.reduceBEq, Int.reduceToNat, Int.reduceLT, Int.reduceLE, Int.reduceAdd, Int.reduceSub, Int.reduceMul, Int.reducePow, Int.reduceNeg, Int.reduceEq, Int.toNat_natCast, Int.cast_ofNat_Int, Bool.not_eq_true', Bool.not_eq_false', ge_iff_le, gt_iff_lt, ne_eq, not_false_eq_true, not_true_eq_false, Nat.one_ne_zero, beq_self_eq_true, Bool.bne_false, Nat.zero_add, two]; first | done | omega)); (focus (simp only [go_sem, ↓reduceIte, reduceCtorEq, Nat.reduceAdd, Nat.reduceSub, Nat.reduceMul, Nat.reducePow, Nat.reduceDiv, Nat.reduceMod, Nat.reduceLT, Nat.reduceLeDiff, Nat.reduceEqDiff, Nat.reduceBEq, Int.reduceToNat, Int.reduceLT, Int.reduceLE, Int.reduceAdd, Int.reduceSub, Int.reduceMul, Int.reducePow, Int.reduceNeg, Int.reduceEq, Int.toNat_natCast, Int.cast_ofNat_Int, Bool.not_eq_true', Bool.not_eq_false', ge_iff_le, gt_iff_lt, ne_eq, not_false_eq_true, not_true_eq_false, Nat.one_ne_zero, beq_self_eq_true, Bool.bne_false, Nat.zero_add, two]; done)); (focus (simp only [go_sem, ↓reduceIte, reduceCtorEq, Nat.reduceAdd, Nat.reduceSub, Nat.reduceMul, Nat.reducePow, Nat.reduceDiv, Nat.reduceMod, Nat.reduceLT, Nat.reduceLeDiff, Nat.reduceEqDiff, Nat.reduceBEq, Int.reduceToNat, Int.reduceLT, Int.reduceLE, Int.reduceAdd, Int.reduceSub, Int.reduceMul, Int.reducePow, Int.reduceNeg, Int.reduceEq, Int.toNat_natCast, Int.cast_ofNat_Int, Bool.not_eq_true', Bool.not_eq_false', ge_iff_le, gt_iff_lt, ne_eq, not_false_eq_true, not_true_eq_false, Nat.one_ne_zero, beq_self_eq_true, Bool.bne_false, Nat.zero_add, two]; done)); simp only [go_sem, ↓reduceIte, reduceCtorEq, Nat.reduceAdd, Nat.reduceSub, Nat.reduceMul, Nat.reducePow, Nat.reduceDiv, Nat.reduceMod, Nat.reduceLT, Nat.reduceLeDiff, Nat.reduceEqDiff, Nat.reduceBEq, Int.reduceToNat, Int.reduceLT, Int.reduceLE, Int.reduceAdd, Int.reduceSub, Int.reduceMul, Int.reducePow, Int.reduceNeg, Int.reduceEq, Int.toNat_natCast, Int.cast_ofNat_Int, Bool.not_eq_true', Bool.not_eq_false', ge_iff_le, gt_iff_lt, ne_eq, not_false_eq_true, not_true_eq_false, Nat.one_ne_zero, beq_self_eq_true, Bool.bne_false, Nat.zero_add, two, I, B, S, AV.d.injEq, DV.int.injEq, DV.bool.injEq, DV.str.injEq, DV.sl.injEq, AV.tup.injEq, AV.agg.injEq, List.cons.injEq, and_true, true_and, and_self])
  unfold goodZ; exact (Bool.decide_and _ _).symm
theorem ref_zgood_c (z : Int) (hz : okI z) : acall Tryd.prog [] 86 [I z] (ret (B (decide (goodZ z)))) := by
  refine zi tabOk Tryd.func86 rfl (by kernel_rfl) (by simp [Tryd.ntmps86]) ?_; simp only [Tryd.ntmps86, Tryd.results86, List.toList_toArray, apar, List.length_nil, List.length_cons, Nat.reduceAdd]
  repeat' first
    | with_reducible refine AWP.seq ?_
    | with_reducible refine thenA_n ?_
    | with_reducible refine thenA_r ?_
    | with_reducible refine thenA_e ?_
    | with_reducible refine blkA_n ?_
    | with_reducible refine blkA_r ?_
    | with_reducible refine blkA_e ?_
    | with_reducible refine zb (by decide) ?_
    | with_reducible refine AWP.skip ?_
    | with_reducible refine AWP.ret ?_
    | with_reducible refine AWP.exit ?_
    | with_reducible refine AWP.block ?_
    | (with_reducible refine AWP.cond rfl ?_ ?_ <;> intro _)
    | (with_reducible refine AWP.region tabOk ?_; intro K hK; simp only [go_sem, ↓reduceIte, reduceCtorEq, Nat.reduceAdd, Nat.reduceSub, Nat.reduceMul, Nat.reducePow, Nat.reduceDiv, Nat.reduceMod, Nat.reduceLT, Nat.reduceLeDiff, Nat.reduceEqDiff, Nat.reduceBEq, Int.reduceToNat, Int.reduceLT, Int.reduceLE, Int.reduceAdd, Int.reduceSub, Int.reduceMul, Int.reducePow, Int.reduceNeg, Int.reduceEq, Int.toNat_natCast, Int.cast_ofNat_Int, Bool.not_eq_true', Bool.not_eq_false', ge_iff_le, gt_iff_lt, ne_eq, not_false_eq_true, not_true_eq_false, Nat.one_ne_zero, beq_self_eq_true, Bool.bne_false, Nat.zero_add, true_and]; (repeat' with_reducible apply And.intro) <;> (try (with_reducible refine hK _ ?_; clear hK K)))
    | (with_reducible refine AWP.quiet mixed tabOk (by kernel_rfl) ?_; intro K hK; simp only [go_sem, ↓reduceIte, reduceCtorEq, Nat.reduceAdd, Nat.reduceSub, Nat.reduceMul, Nat.reducePow, Nat.reduceDiv, Nat.reduceMod, Nat.reduceLT, Nat.reduceLeDiff, Nat.reduceEqDiff, Nat.reduceBEq, Int.reduceToNat, Int.reduceLT, Int.reduceLE, Int.reduceAdd, Int.reduceSub, Int.reduceMul, Int.reducePow, Int.reduceNeg, Int.reduceEq, Int.toNat_natCast, Int.cast_ofNat_Int, Bool.not_eq_true', Bool.not_eq_false', ge_iff_le, gt_iff_lt, ne_eq, not_false_eq_true, not_true_eq_false, Nat.one_ne_zero, beq_self_eq_true, Bool.bne_false, Nat.zero_add, true_and]; (repeat' with_reducible apply And.intro) <;> (try (with_reducible refine hK _ ?_; clear hK K)))
    | (intro hg; first | (exfalso; simp at hg; done) | ((try simp only [hg, go_sem, ↓reduceIte, reduceCtorEq, Nat.reduceAdd, Nat.reduceSub, Nat.reduceMul, Nat.reducePow, Nat.reduceDiv, Nat.reduceMod, Nat.reduceLT, Nat.reduceLeDiff, Nat.reduceEqDiff, Nat.reduceBEq, Int.reduceToNat, Int.reduceLT, Int.reduceLE, Int.reduceAdd, Int.reduceSub, Int.reduceMul, Int.reducePow, Int.reduceNeg, Int.reduceEq, Int.toNat_natCast, Int.cast_ofNat_Int, Bool.not_eq_true', Bool.not_eq_false', ge_iff_le, gt_iff_lt, ne_eq, not_false_eq_true, not_true_eq_false, Nat.one_ne_zero, beq_self_eq_true, Bool.bne_false, Nat.zero_add, true_and]) <;> (repeat' with_reducible refine And.intro ?_ ?_) <;> (try (with_reducible refine hK _ ?_; clear hK K))))
    | omega
  all_goals try (refine aend_ret ?_ rfl ?_ ?_ ?_ ?_; (focus (first | exact .inl rfl | exact .inr rfl)); (focus (simp only [go_sem, ↓reduceIte, reduceCtorEq, Nat.reduceAdd, Nat.reduceSub, Nat.reduceMul, Nat.reducePow, Nat.reduceDiv, Nat.reduceMod, Nat.reduceLT, Nat.reduceLeDiff, Nat.reduceEqDiff, Nat.reduceBEq, Int.reduceToNat, Int.reduceLT, Int.reduceLE, Int.reduceAdd, Int.reduceSub, Int.reduceMul, Int.reducePow, Int.reduceNeg, Int.reduceEq, Int.toNat_natCast, Int.cast_ofNat_Int, Bool.not_eq_true', Bool.not_eq_false', ge_iff_le, gt_iff_lt, ne_eq, not_false_eq_true, not_true_eq_false, Nat.one_ne_zero, beq_self_eq_true, Bool.bne_false, Nat.zero_add, true_and]; first | done | omega)); (focus (simp only [go_sem, ↓reduceIte, reduceCtorEq, Nat.reduceAdd, Nat.reduceSub, Nat.reduceMul, Nat.reducePow, Nat.reduceDiv, Nat.reduceMod, Nat.reduceLT, Nat.reduceLeDiff, Nat.reduceEqDiff, Nat.reduceBEq, Int.reduceToNat, Int.reduceLT, Int.reduceLE, Int.reduceAdd, Int.reduceSub, Int.reduceMul, Int.reducePow, Int.reduceNeg, Int.reduceEq, Int.toNat_natCast, Int.cast_ofNat_Int, Bool.not_eq_true', Bool.not_eq_false', ge_iff_le, gt_iff_lt, ne_eq, not_false_eq_true, not_true_eq_false, Nat.one_ne_zero, beq_self_eq_true, Bool.bne_false, Nat.zero_add, true_and]; done)); (focus (simp only [go_sem, ↓reduceIte, reduceCtorEq, Nat.reduceAdd, Nat.reduceSub, Nat.reduceMul, Nat.reducePow, Nat.reduceDiv, Nat.reduceMod, Nat.reduceLT, Nat.reduceLeDiff, Nat.reduceEqDiff, Nat.reduceBEq, Int.reduceToNat, Int.reduceLT, Int.reduceLE, Int.reduceAdd, Int.reduceSub, Int.reduceMul, Int.reducePow, Int.reduceNeg, Int.reduceEq, Int.toNat_natCast, Int.cast_ofNat_Int, Bool.not_eq_true', Bool.not_eq_false', ge_iff_le, gt_iff_lt, ne_eq, not_false_eq_true, not_true_eq_false, Nat.one_ne_zero, beq_self_eq_true, Bool.bne_false, Nat.zero_add, true_and]; done)); simp only [go_sem, ↓reduceIte, reduceCtorEq, Nat.reduceAdd, Nat.reduceSub, Nat.reduceMul, Nat.reducePow, Nat.reduceDiv, Nat.reduceMod, Nat.reduceLT, Nat.reduceLeDiff, Nat.reduceEqDiff, Nat.reduceBEq, Int.reduceToNat, Int.reduceLT, Int.reduceLE, Int.reduceAdd, Int.reduceSub, Int.reduceMul, Int.reducePow, Int.reduceNeg, Int.reduceEq, Int.toNat_natCast, Int.cast_ofNat_Int, Bool.not_eq_true', Bool.not_eq_false', ge_iff_le, gt_iff_lt, ne_eq, not_false_eq_true, not_true_eq_false, Nat.one_ne_zero, beq_self_eq_true, Bool.bne_false, Nat.zero_add, true_and, I, B, S, AV.d.injEq, DV.int.injEq, DV.bool.injEq, DV.str.injEq, DV.sl.injEq, AV.tup.injEq, AV.agg.injEq, List.cons.injEq, and_true, true_and, and_self])
  have e : ∀ h : 0 ≤ z, z.tdiv 2147483648 = z / 2147483648 := fun h => Int.tdiv_eq_ediv_of_nonneg h
  rw [Bool.eq_iff_iff]
  simp only [Bool.and_eq_true, decide_eq_true_eq]
  unfold goodZ
  constructor
  · intro ⟨h, h2⟩
    have e := e h
    rw [wrap_in _ ⟨by omega, by omega⟩] at h2
    omega
  · intro ⟨h, h2⟩
    have e := e h
    refine ⟨h, ?_⟩
    rw [wrap_in _ ⟨by omega, by omega⟩]
    omega
end Go.Proofs.YtmpfhalheaeibaaDoor
