/- A part of what StoreFollows leans on: texts of this claim, one behind the other. No condition. -/
import Derived.RangeFuncNested
import Derived.RangeFuncBound
import Derived.RangeFuncCalls
import Derived.RangeFuncLeaves
import Derived.Shelf.Abstract
import Derived.Shelf.RegionOpen
import Derived.WalkKit
import Derived.OwnWalkIn
import Derived.TacticsInMore
import Derived.LoopNIn
import Derived.LoopIn
import Derived.Lib.Bytealg
import Derived.Sort.Walk0
import Derived.Laws.BitsAllLaws
import Derived.Laws.BitsLemmas
import Derived.IntWalk
import Derived.Test.YtainmipdnjcbkaaGreatDoorStoreFollowsK6
namespace Go.Proofs.YtainmipdnjcbkaaGreatDoor
set_option linter.unusedVariables false
set_option linter.unusedSimpArgs false
open Go Go.RowKit Go.Shelf
attribute [local go_sem] Oper.semAt_some
set_option maxRecDepth 100000
set_option linter.unusedSimpArgs false
def lenAt (W : World) (b : Nat) : Nat := match W.cell? ⟨b, 0, none⟩ with
  | some (.string s) => s.size
  | _ => 0
def splitB : List UInt8 → List (List UInt8)
  | [] => [[]]
  | c :: r => if c = 47 then [] :: splitB r else match splitB r with
    | p :: ps => (c :: p) :: ps
    | [] => [[c]]
def allNamed (r : List UInt8) : Bool := (splitB r).all namedP
theorem splitB_ne (r : List UInt8) : splitB r ≠ [] := by
  induction r with
  | nil => simp [splitB]
  | cons c r ih =>
    unfold splitB
    split
    · simp
    · split <;> simp
theorem idx_cases (r : List UInt8) : (Lib.indexByte r 47 = -1 ∧ splitB r = [r]) ∨ ∃ i : Nat, Lib.indexByte r 47 = (i : Int) ∧ i < r.length ∧ splitB r = r.take i :: splitB (r.drop (i + 1)) := by
  induction r with
  | nil => exact .inl ⟨rfl, rfl⟩
  | cons c r ih =>
    by_cases h : c = 47
    · subst h
      exact .inr ⟨0, by simp [Lib.indexByte], by simp, by simp [splitB]⟩
    · rcases ih with ⟨e1, e2⟩ | ⟨i, e1, e2, e3⟩
      · refine .inl ⟨by simp [Lib.indexByte, h, e1], by simp [splitB, h, e2]⟩
      · refine .inr ⟨i + 1, ?_, by simp; omega, by simp [splitB, h, e3]⟩
        simp only [Lib.indexByte, e1]
        rw [if_neg (by simpa using h), if_neg (by simp)]
        omega
theorem index_calls (r : List UInt8) (W : World) (ht : TabsAt W) : Calls Tryz.prog 266 #[mkStr r, mkStr [47]] W fun e W' => e = .returned (.int .i64 (Lib.indexByte r 47)) ∧ Below W.heap.size W W' :=
  calls_of_acall (index1_c r 47) rfl rfl W ht
set_option maxHeartbeats 2000000 in
theorem split1 (n l Bs Bp Bv : Nat) (J : List UInt8 → World → Prop) (Jx : World → Prop)
    (hc : ∀ r W, J r W → W.cell? ⟨Bs, 0, none⟩ = some (mkStr r) ∧ W.frozen? ⟨Bs, 0, none⟩ = false ∧ W.cell? ⟨Bp, 0, none⟩ = some (mkStr [47]) ∧ W.cell? ⟨Bv, 0, none⟩ = some (.int .i64 0))
    (hs : ∀ r r' W, J r W → J r' (W.setCell ⟨Bs, 0, none⟩ (mkStr r'))) (hb : ∀ r W W', J r W → Below W.heap.size W W' → J r W') (ht : ∀ r W, J r W → TabsAt W)
    (hY : ∀ r W p, J r W → p.length ≤ 200 → YieldAt Fence.wide (n - 1) Tryz.prog l #[mkStr p] W (fun e W' => (e = .returned (.bool true) ∧ namedP p = true ∧ J r W') ∨ (e = .returned (.bool false) ∧ namedP p = false ∧ Jx W')))
    (r0 : List UInt8) (hr0 : r0.length ≤ 200) (W : World) (h0 : J r0 W) :
    CallsIn Fence.wide n Tryz.prog 264 #[.func (.yield l) #[] #[], .pointer (some ⟨Bp, 0, none⟩), .pointer (some ⟨Bs, 0, none⟩), .pointer (some ⟨Bv, 0, none⟩)] W fun e W' =>
      (∃ v, e = .returned v) ∧ ((allNamed r0 = true ∧ ∃ r, J r W') ∨ (allNamed r0 = false ∧ Jx W')) := by
  refine callsIn_of_wp Tryz.func264 rfl trivial ?_ rfl
  simp only [Tryz.ntmps264, List.size_toArray, List.length_cons, List.length_nil, Nat.reduceAdd, Nat.reduceSub, Array.replicate_succ, Array.replicate_zero, List.push_toArray, List.append_toArray, List.nil_append, List.cons_append]
  unfold mkStr at hc
  obtain ⟨h1, h2, h3, h4⟩ := hc _ _ h0
  gi_wp2
  gi_loopw [] (fun wr => ∃ r, J r wr ∧ r.length ≤ 200 ∧ allNamed r0 = allNamed r) (fun wr => lenAt wr Bs)
  case atStart => exact ⟨r0, h0, hr0, rfl⟩
  case round =>
    obtain ⟨r, hJ, hrl, hal⟩ := hrel
    obtain ⟨q1, q2, q3, q4⟩ := hc _ _ hJ
    have hm0 : lenAt wr Bs = r.length := by unfold lenAt; rw [q1]; simp [ByteArray.size]
    gi_wp2
    refine ⟨trivial, fun h => by simp [Fence.wide] at h, (callsIn_wide.2 (show Calls _ _ #[.string ⟨r.toArray⟩, .string ⟨#[47]⟩] _ _ from index_calls r wr (ht _ _ hJ))).mono ?_⟩
    rintro e w' ⟨rfl, hbl⟩
    have hJ' := hb _ _ _ hJ hbl
    clear q1 q2 q3 q4
    obtain ⟨q1, q2, q3, q4⟩ := hc _ _ hJ'
    rcases idx_cases r with ⟨ei, es⟩ | ⟨i, ei, hil, es⟩
    · rw [ei]
      have ea : allNamed r = namedP r := by unfold allNamed; rw [es]; simp
      obtain ⟨fn, tmps, assign, body, hy, hR⟩ := hY r w' r hJ' hrl
      unfold mkStr at hy
      gi_wp2
      refine ⟨fun h => by simp [Fence.wide] at h, hR.mono ?_⟩
      rintro e W3 (⟨rfl, hn, hJ3⟩ | ⟨rfl, hn, hJx3⟩)
      · gi_wp2
        go_end0
        exact ⟨⟨_, rfl⟩, .inl ⟨by rw [hal, ea, hn], r, hJ3⟩⟩
      · gi_wp2
        go_end0
        exact ⟨⟨_, rfl⟩, .inr ⟨by rw [hal, ea, hn], hJx3⟩⟩
    · rw [ei]
      have e0 : mkStr (r.take i) = .string ((⟨r.toArray⟩ : ByteArray).extract 0 i) := by unfold mkStr; rw [mk_extract]; simp
      have ea : allNamed r = (namedP (r.take i) && allNamed (r.drop (i + 1))) := by unfold allNamed; rw [es]; simp
      obtain ⟨fn, tmps, assign, body, hy, hR⟩ := hY r w' (r.take i) hJ' (by rw [List.length_take]; omega)
      rw [e0] at hy
      gi_wp2
      refine ⟨fun h => by simp [Fence.wide] at h, hR.mono ?_⟩
      rintro e W3 (⟨rfl, hn, hJ3⟩ | ⟨rfl, hn, hJx3⟩)
      · obtain ⟨t1, t2, t3, t4⟩ := hc _ _ hJ3
        gi_wp2
        have e2 : Value.string ((⟨r.toArray⟩ : ByteArray).extract (i + 1) r.length) = mkStr (r.drop (i + 1)) := by
          unfold mkStr; rw [mk_extract, List.take_of_length_le (by simp)]
        have hJ4 := hs r (r.drop (i + 1)) W3 hJ3
        rw [e2]
        refine ⟨⟨_, hJ4, by rw [List.length_drop]; omega, by rw [hal, ea, hn]; rfl⟩, ?_⟩
        rw [hm0]
        unfold lenAt
        rw [(hc _ _ hJ4).1]
        simp [ByteArray.size]; omega
      · gi_wp2
        refine bodyPost_ret (results_none rfl _ _ _) rfl ?_
        exact ⟨⟨_, rfl⟩, .inr ⟨by rw [hal, ea, hn]; rfl, hJx3⟩⟩
theorem named_calls (p : List UInt8) (h : p.length ≤ 200) (W : World) (ht : TabsAt W) : Calls Tryz.prog 116 #[.string ⟨p.toArray⟩] W fun e W' => e = .returned (.bool (namedP p)) ∧ Below W.heap.size W W' :=
  calls_of_acall (named_c p (by unfold okS; omega)) rfl rfl W ht
theorem prefix_calls (p : List UInt8) (h : okS p) (W : World) (ht : TabsAt W) : Calls Tryz.prog 181 #[.string ⟨p.toArray⟩, .string ⟨#[47]⟩] W fun e W' => e = .returned (.bool (decide (1 ≤ p.length ∧ p.take 1 = [47]))) ∧ Below W.heap.size W W' :=
  calls_of_acall (hasPrefix_c p [47] (by unfold okS; decide) h) rfl rfl W ht
theorem splitSeq_w (s : List UInt8) (w : World) : Calls Tryz.prog 182 #[.string ⟨s.toArray⟩, .string ⟨#[47]⟩] w fun e w' =>
    e = .returned (.func (.func 264) #[] #[.pointer (some ⟨w.heap.size + 1, 0, none⟩), .pointer (some ⟨w.heap.size, 0, none⟩), .pointer (some ⟨w.heap.size + 2, 0, none⟩)]) ∧
      ∃ a b c, w' = ((w.alloc (.cells #[.string ⟨s.toArray⟩] a)).alloc (.cells #[.string ⟨#[47]⟩] b)).alloc (.cells #[.int .i64 0] c) := by
  go_enter Tryz.func182, Tryz.ntmps182
  go_wp2
  go_ret
  exact ⟨rfl, _, _, _, rfl⟩
def goodP (s : List UInt8) : Bool := decide (s = [47]) || (decide (s.length ≤ 200) && (decide (1 ≤ s.length ∧ s.take 1 = [47]) && allNamed (s.drop 1)))
structure GJ (w : World) (B : Nat) (rec : Loop) (r : List UInt8) (W : World) : Prop where
  below : Below w.heap.size w W
  res : W.cell? ⟨w.heap.size, 0, none⟩ = some (.bool false)
  resf : W.frozen? ⟨w.heap.size, 0, none⟩ = false
  s : W.cell? ⟨B, 0, none⟩ = some (mkStr r)
  sf : W.frozen? ⟨B, 0, none⟩ = false
  p : W.cell? ⟨B + 1, 0, none⟩ = some (mkStr [47])
  v : W.cell? ⟨B + 2, 0, none⟩ = some (.int .i64 0)
  d : W.heap[B + 3]? = some (.deferred (some []))
  l : W.heap[B + 4]? = some (.loop rec)
theorem cell_other {W : World} {k k' : Nat} {v : Value} (h : k ≠ k') : (W.setCell ⟨k, 0, none⟩ v).cell? ⟨k', 0, none⟩ = W.cell? ⟨k', 0, none⟩ := by
  have : (⟨k, 0, none⟩ : Addr) ≠ ⟨k', 0, none⟩ := fun e => h (by injection e)
  simp [World.cell?_setCell_other, this]
theorem heap_lt {W : World} {k : Nat} {o : Obj} (h : W.heap[k]? = some o) : k < W.heap.size := (Array.getElem?_eq_some_iff.1 h).1
section
variable {w W W' : World} {B : Nat} {rec : Loop} {r : List UInt8}
theorem GJ.write (hB : w.heap.size < B) (h : GJ w B rec r W) (r' : List UInt8) : GJ w B rec r' (W.setCell ⟨B, 0, none⟩ (mkStr r')) :=
  ⟨h.below.setCell (by simp only; omega) _, by rw [cell_other (by omega)]; exact h.res, by rw [World.frozen?_setCell]; exact h.resf, World.cell?_setCell_same' _ _ _ (by rw [h.s]; rfl), by rw [World.frozen?_setCell]; exact h.sf,
    by rw [cell_other (by omega)]; exact h.p, by rw [cell_other (by omega)]; exact h.v, by rw [Below.heap_setCell _ _ _ _ (by simp only; omega)]; exact h.d, by rw [Below.heap_setCell _ _ _ _ (by simp only; omega)]; exact h.l⟩
theorem GJ.mark (hB : w.heap.size < B) (h : GJ w B rec r W) : GJ w B rec r (W.setCell ⟨w.heap.size, 0, none⟩ (.bool false)) :=
  ⟨h.below.setCell (Nat.le_refl _) _, World.cell?_setCell_same' _ _ _ (by rw [h.res]; rfl), by rw [World.frozen?_setCell]; exact h.resf, by rw [cell_other (by omega)]; exact h.s, by rw [World.frozen?_setCell]; exact h.sf,
    by rw [cell_other (by omega)]; exact h.p, by rw [cell_other (by omega)]; exact h.v, by rw [Below.heap_setCell _ _ _ _ (by simp only; omega)]; exact h.d, by rw [Below.heap_setCell _ _ _ _ (by simp only; omega)]; exact h.l⟩
theorem GJ.grow (hB : w.heap.size < B) (h : GJ w B rec r W) (hb : Below W.heap.size W W') : GJ w B rec r W' := by
  have hl := heap_lt h.l
  exact ⟨h.below.trans (hb.mono h.below.size), by rw [hb.cell (by simp only; omega)]; exact h.res, by rw [hb.frozen (by simp only; omega)]; exact h.resf, by rw [hb.cell (by simp only; omega)]; exact h.s, by rw [hb.frozen (by simp only; omega)]; exact h.sf,
    by rw [hb.cell (by simp only; omega)]; exact h.p, by rw [hb.cell (by simp only; omega)]; exact h.v, by rw [hb.block _ (by omega)]; exact h.d, by rw [hb.block _ (by omega)]; exact h.l⟩
theorem GJ.turn (hB : w.heap.size < B) (h : GJ w B rec r W) (rec' : Loop) : GJ w B rec' r (W.putObj (B + 4) (.loop rec')) := by
  have hl := heap_lt h.l
  have hcell : ∀ k, k ≠ B + 4 → (W.putObj (B + 4) (.loop rec')).cell? ⟨k, 0, none⟩ = W.cell? ⟨k, 0, none⟩ := fun k hk => World.cell?_of_block (World.putObj_heap_other hk)
  have hfz : ∀ k, k ≠ B + 4 → (W.putObj (B + 4) (.loop rec')).frozen? ⟨k, 0, none⟩ = W.frozen? ⟨k, 0, none⟩ := fun k hk => World.frozen?_of_block (World.putObj_heap_other hk)
  exact ⟨h.below.trans ⟨rfl, rfl, rfl, by simp, fun k hk => World.putObj_heap_other (by omega)⟩, by rw [hcell _ (by omega)]; exact h.res, by rw [hfz _ (by omega)]; exact h.resf, by rw [hcell _ (by omega)]; exact h.s, by rw [hfz _ (by omega)]; exact h.sf,
    by rw [hcell _ (by omega)]; exact h.p, by rw [hcell _ (by omega)]; exact h.v, by rw [World.putObj_heap_other (by omega)]; exact h.d, World.putObj_heap_same hl⟩
end
theorem wpIn_split {assign body : Code} {Q : Exit → Act → World → Prop} {tm : Array Value} {pt : Tmp} {g : Operand} {w W0 : World} {B : Nat} (a₁ : Value → Act) (hB : w.heap.size < B) (htw : TabsAt w)
    (hg : Act.eval { tmps := tm, defers := [] } g = .func (.func 264) #[] #[.pointer (some ⟨B + 1, 0, none⟩), .pointer (some ⟨B, 0, none⟩), .pointer (some ⟨B + 2, 0, none⟩)])
    (r0 : List UInt8) (hr0 : r0.length ≤ 200) (hsz : W0.heap.size = B + 3) (hJ0 : ∀ rec, GJ w B rec r0 ((W0.alloc (.deferred (some []))).alloc (.loop rec)))
    (hassign : ∀ (l : Nat) (x : Value) (W : World) (K : Act → World → Prop), K (a₁ x) W → assign.wpIn (Fence.wide.inRound l) 7 Tryz.prog (Exit.then K (fun _ _ _ => False)) { tmps := tm.setIfInBounds pt x, defers := [] } W)
    (hbody : ∀ (l : Nat) (x : List UInt8) (W : World), TabsAt W → x.length ≤ 200 → w.heap.size < W.heap.size → W.cell? ⟨w.heap.size, 0, none⟩ = some (.bool false) → W.frozen? ⟨w.heap.size, 0, none⟩ = false →
      body.wpIn (Fence.wide.inRound l) 7 Tryz.prog (fun e _ W' => (e = .normal ∧ namedP x = true ∧ Below W.heap.size W W') ∨ (e = .ret ∧ namedP x = false ∧ ∃ W2, Below W.heap.size W W2 ∧ W' = W2.setCell ⟨w.heap.size, 0, none⟩ (.bool false))) (a₁ (mkStr x)) W)
    (hdone : ∀ (W : World) (rec : Loop) (r : List UInt8), allNamed r0 = true → GJ w B rec r W → Q .normal { tmps := tm, defers := [{ target := .collected (B + 3), args := #[] }] } W)
    (hstop : ∀ (W : World) (rec : Loop) (r : List UInt8), allNamed r0 = false → GJ w B rec r W → Code.ret.wpIn Fence.wide 9 Tryz.prog Q { tmps := tm, defers := [{ target := .collected (B + 3), args := #[] }] } W) :
    (Code.rangeFunc g #[pt] assign body).wpIn Fence.wide 9 Tryz.prog Q { tmps := tm, defers := [] } W0 := by
  refine wpIn_rangeFunc ?_
  intro fn hfn
  obtain ⟨rec, hrec⟩ : ∃ rec : LoopState → Option Code → Loop, rec = fun st pe => { state := st, pending := pe, fn := fn, tmps := tm, params := #[pt], assign := assign, body := body, defers := B + 3 } := ⟨_, rfl⟩
  have hr : ∀ st pe, rec st pe = { state := st, pending := pe, fn := fn, tmps := tm, params := #[pt], assign := assign, body := body, defers := B + 3 } := fun st pe => by rw [hrec]
  have hJ := hJ0 (rec .ready none)
  obtain ⟨W1, hW1⟩ : ∃ W1, (W0.alloc (.deferred (some []))).alloc (.loop (rec .ready none)) = W1 := ⟨_, rfl⟩
  rw [hW1] at hJ
  refine ⟨B + 4, [{ target := .collected (B + 3), args := #[] }], W1,
    { target := .fn (.func 264) #[.pointer (some ⟨B + 1, 0, none⟩), .pointer (some ⟨B, 0, none⟩), .pointer (some ⟨B + 2, 0, none⟩)], args := #[.func (.yield (B + 4)) #[] #[]] }, W1, 264,
    #[.func (.yield (B + 4)) #[] #[], .pointer (some ⟨B + 1, 0, none⟩), .pointer (some ⟨B, 0, none⟩), .pointer (some ⟨B + 2, 0, none⟩)], W1, ?_, ?_, fun _ _ => trivial, ?_, fun h => by simp [Fence.wide] at h, ?_⟩
  · have := run_enterLoop_outer (P := Tryz.prog) (w := W0) fn tm #[pt] assign body
    rw [hsz, show B + 3 + 1 = B + 4 from rfl, ← hr, hW1] at this
    exact this
  · simp only [resolve, hg]
    simp [go_sem]
  · simp [invoke, go_sem, enters_of Tryz.func264 (by kernel_rfl) rfl]
  · refine (split1 8 (B + 4) B (B + 1) (B + 2) (fun r W => GJ w B (rec .ready none) r W) (fun W => ∃ r, GJ w B (rec .done (some .ret)) r W) (fun r W h => ⟨h.s, h.sf, h.p, h.v⟩)
      (fun r r' W h => h.write hB r') (fun r W W' h hb => h.grow hB hb) (fun r W h => htw.below h.below) ?_ r0 hr0 W1 hJ).mono ?_
    · intro r W x hj hx
      have hy := run_yield (P := Tryz.prog) (args := #[mkStr x]) hj.l (by rw [hr]; rfl)
      rw [hr] at hy
      have hy2 : (Instr.yield (B + 4) #[mkStr x]).run Tryz.prog W = .ok (.round (B + 4) fn (tm.setIfInBounds pt (mkStr x)) assign body) W := by rw [hy]; simp
      refine ⟨fn, _, assign, body, hy2, roundIn_of_wpIn hfn ?_⟩
      refine hassign _ (mkStr x) W _ ?_
      refine ⟨_, run_beginRound hj.l (by rw [hr]), ?_⟩
      have hj2 := hj.turn hB ({ rec .ready none with state := .busy })
      have hl2 := heap_lt hj2.l
      have hl3 := Nat.lt_trans (show w.heap.size < B + 4 by omega) hl2
      refine wpIn_mono (hbody _ x _ (htw.below hj2.below) hx hl3 hj2.res hj2.resf) ?_
      rintro e a3 W3 (⟨rfl, hn, hb3⟩ | ⟨rfl, hn, W2, hb2, rfl⟩)
      · have hj3 := hj2.grow hB hb3
        have := run_endRound (P := Tryz.prog) none hj3.l
        refine ⟨_, _, this, .inl ⟨rfl, hn, ?_⟩⟩
        have hj4 := hj3.turn hB (rec .ready none)
        rw [hr] at hj4
        rw [hr]
        exact hj4
      · have hj3 := (hj2.grow hB hb2).mark hB
        have := run_endRound (P := Tryz.prog) (some .ret) hj3.l
        refine ⟨_, _, this, .inr ⟨rfl, hn, r, ?_⟩⟩
        have hj4 := hj3.turn hB (rec .done (some .ret))
        simp only [hr] at hj4 ⊢
        exact hj4
    · rintro e W2 ⟨⟨v, rfl⟩, (⟨ha, r, hj⟩ | ⟨ha, r, hj⟩)⟩
      · have := run_endLoop (P := Tryz.prog) hj.l (by rw [hr]; simp)
        exact ⟨_, _, this, by rw [hr]; exact hdone _ _ r ha (hj.turn hB _)⟩
      · have := run_endLoop (P := Tryz.prog) hj.l (by rw [hr]; simp)
        exact ⟨_, _, this, by rw [hr]; exact hstop _ _ r ha (hj.turn hB _)⟩
theorem three_cells {w w' : World} {r : List UInt8} (hb : Below w.heap.size w w') (hB : w.heap.size < w'.heap.size) (c1 : w'.cell? ⟨w.heap.size, 0, none⟩ = some (.bool false)) (c2 : w'.frozen? ⟨w.heap.size, 0, none⟩ = false) (ta tb tc : TypeId) (rec : Loop) :
    GJ w w'.heap.size rec r (((((w'.alloc (.cells #[.string ⟨r.toArray⟩] ta)).alloc (.cells #[.string ⟨#[47]⟩] tb)).alloc (.cells #[.int .i64 0] tc)).alloc (.deferred (some []))).alloc (.loop rec)) := by
  obtain ⟨W1, h1⟩ : ∃ W1, w'.alloc (.cells #[.string ⟨r.toArray⟩] ta) = W1 := ⟨_, rfl⟩
  have a1 := World.alloc_heap_new w' (.cells #[.string ⟨r.toArray⟩] ta)
  have s1 : W1.heap.size = w'.heap.size + 1 := by rw [← h1, World.size_alloc]
  have k1 : ∀ k, k < w'.heap.size → W1.heap[k]? = w'.heap[k]? := fun k hk => by rw [← h1]; exact Below.heap_alloc _ _ _ hk
  rw [h1] at a1 ⊢
  obtain ⟨W2, h2⟩ : ∃ W2, W1.alloc (.cells #[.string ⟨#[47]⟩] tb) = W2 := ⟨_, rfl⟩
  have a2 := World.alloc_heap_new W1 (.cells #[.string ⟨#[47]⟩] tb)
  have s2 : W2.heap.size = w'.heap.size + 2 := by rw [← h2, World.size_alloc, s1]
  have k2 : ∀ k, k < W1.heap.size → W2.heap[k]? = W1.heap[k]? := fun k hk => by rw [← h2]; exact Below.heap_alloc _ _ _ hk
  rw [h2, s1] at a2
  rw [h2]
  obtain ⟨W3, h3⟩ : ∃ W3, W2.alloc (.cells #[.int .i64 0] tc) = W3 := ⟨_, rfl⟩
  have a3 := World.alloc_heap_new W2 (.cells #[.int .i64 0] tc)
  have s3 : W3.heap.size = w'.heap.size + 3 := by rw [← h3, World.size_alloc, s2]
  have k3 : ∀ k, k < W2.heap.size → W3.heap[k]? = W2.heap[k]? := fun k hk => by rw [← h3]; exact Below.heap_alloc _ _ _ hk
  rw [h3, s2] at a3
  rw [h3]
  obtain ⟨W4, h4⟩ : ∃ W4, W3.alloc (.deferred (some [])) = W4 := ⟨_, rfl⟩
  have a4 := World.alloc_heap_new W3 (.deferred (some []))
  have s4 : W4.heap.size = w'.heap.size + 4 := by rw [← h4, World.size_alloc, s3]
  have k4 : ∀ k, k < W3.heap.size → W4.heap[k]? = W3.heap[k]? := fun k hk => by rw [← h4]; exact Below.heap_alloc _ _ _ hk
  rw [h4, s3] at a4
  rw [h4]
  obtain ⟨W5, h5⟩ : ∃ W5, W4.alloc (.loop rec) = W5 := ⟨_, rfl⟩
  have a5 := World.alloc_heap_new W4 (.loop rec)
  have s5 : W5.heap.size = w'.heap.size + 5 := by rw [← h5, World.size_alloc, s4]
  have k5 : ∀ k, k < W4.heap.size → W5.heap[k]? = W4.heap[k]? := fun k hk => by rw [← h5]; exact Below.heap_alloc _ _ _ hk
  rw [h5, s4] at a5
  rw [h5]
  have hbb : Below w'.heap.size w' W5 := by
    rw [← h5, ← h4, ← h3, ← h2, ← h1]
    exact (((((Below.refl _ w').alloc (Nat.le_refl _) _).alloc (by simp) _).alloc (by simp; omega) _).alloc (by simp; omega) _).alloc (by simp; omega) _
  have hk : ∀ k, k < w'.heap.size → W5.heap[k]? = w'.heap[k]? := fun k hk => hbb.block k hk
  have e0 : W5.heap[w'.heap.size]? = some (.cells #[.string ⟨r.toArray⟩] ta) := by rw [k5 _ (by omega), k4 _ (by omega), k3 _ (by omega), k2 _ (by omega)]; exact a1
  have e1 : W5.heap[w'.heap.size + 1]? = some (.cells #[.string ⟨#[47]⟩] tb) := by rw [k5 _ (by omega), k4 _ (by omega), k3 _ (by omega)]; exact a2
  have e2 : W5.heap[w'.heap.size + 2]? = some (.cells #[.int .i64 0] tc) := by rw [k5 _ (by omega), k4 _ (by omega)]; exact a3
  exact ⟨hb.trans (hbb.mono (by omega)), by rw [World.cell?_of_block (hk _ hB)]; exact c1, by rw [World.frozen?_of_block (hk _ hB)]; exact c2,
    by rw [cell_of_cells e0]; rfl, by rw [frozen_cells e0]; rfl, by rw [cell_of_cells e1]; rfl, by rw [cell_of_cells e2]; rfl, by rw [k5 _ (by omega)]; exact a4, a5⟩
theorem good_res (tmps : Array Value) (W : World) (b : Nat) (v : Bool) (ht : tmps.getD 2 undef = .pointer (some ⟨b, 0, none⟩)) (hc : W.cell? ⟨b, 0, none⟩ = some (.bool v)) : (results Tryz.f113 tmps).run Tryz.prog W = .ok (.bool v) W := by
  rw [results_eq, Tryz.results113]
  simp [resVar, ht, go_sem, hc]
theorem cell_new (W : World) (v : Value) (t : TypeId) : (W.alloc (.cells #[v] t)).cell? ⟨W.heap.size, 0, none⟩ = some v ∧ (W.alloc (.cells #[v] t)).frozen? ⟨W.heap.size, 0, none⟩ = false := by
  have e := World.alloc_heap_new W (.cells #[v] t)
  exact ⟨by rw [cell_of_cells e]; rfl, by rw [frozen_cells e]; rfl⟩
set_option maxHeartbeats 4000000 in
theorem good_in (s : List UInt8) (h : okS s) (w : World) (htw : TabsAt w) : CallsIn Fence.wide 9 Tryz.prog 113 #[.string ⟨s.toArray⟩] w fun e w' => e = .returned (.bool (goodP s)) ∧ Below w.heap.size w w' := by
  refine callsIn_of_wp_marks Tryz.func113 rfl trivial ?_ rfl
  simp only [Tryz.ntmps113, List.size_toArray, List.length_cons, List.length_nil, Nat.reduceAdd, Nat.reduceSub, Array.replicate_succ, Array.replicate_zero, List.push_toArray, List.append_toArray, List.nil_append, List.cons_append]
  have hA := cell_new w (.bool false) 4
  have hB := cell_new w (.bool true) 4
  have hbA : Below w.heap.size w (w.alloc (.cells #[.bool false] 4)) := (Below.refl _ w).alloc (Nat.le_refl _) _
  have hbB : Below w.heap.size w (w.alloc (.cells #[.bool true] 4)) := (Below.refl _ w).alloc (Nat.le_refl _) _
  by_cases h1 : s = [47]
  · subst h1
    gi_wp2
    exact ⟨_, good_res _ _ w.heap.size true rfl hB.1, rfl, hbB⟩
  have g1 : goodP s = (decide (s.length ≤ 200) && (decide (1 ≤ s.length ∧ s.take 1 = [47]) && allNamed (s.drop 1))) := by unfold goodP; rw [decide_eq_false h1, Bool.false_or]
  by_cases h2 : 200 < s.length
  · have g2 : goodP s = false := by rw [g1, decide_eq_false (by omega), Bool.false_and]
    gi_wp2
    · rename_i hx; exact absurd (by simpa using hx) h1
    · refine ⟨trivial, ?_⟩
      gi_wp2
      exact ⟨_, good_res _ _ w.heap.size false rfl hA.1, by rw [g2], hbA⟩
  · have g2 : goodP s = (decide (1 ≤ s.length ∧ s.take 1 = [47]) && allNamed (s.drop 1)) := by rw [g1, decide_eq_true (by omega), Bool.true_and]
    gi_wp2
    · rename_i hx; exact absurd (by simpa using hx) h1
    refine ⟨trivial, (callsIn_wide.2 (prefix_calls s h _ (htw.below hbA))).mono ?_⟩
    rintro e w' ⟨rfl, hbl⟩
    have hbl' := hbA.trans (hbl.mono hbA.size)
    have c1 : w'.cell? ⟨w.heap.size, 0, none⟩ = some (.bool false) := by rw [hbl.cell (by simp)]; exact hA.1
    have c2 : w'.frozen? ⟨w.heap.size, 0, none⟩ = false := by rw [hbl.frozen (by simp)]; exact hA.2
    have hszB : w.heap.size < w'.heap.size := by have := hbl.size; simp at this; omega
    by_cases h3 : 1 ≤ s.length ∧ s.take 1 = [47]
    · have g3 : goodP s = allNamed s.tail := by rw [g2, decide_eq_true h3, Bool.true_and, List.drop_one]
      rw [decide_eq_true h3]
      have e1 : (⟨s.toArray⟩ : ByteArray).extract 1 s.length = ⟨s.tail.toArray⟩ := by rw [mk_extract, List.take_of_length_le (by simp), List.drop_one]
      gi_wp2
      refine ⟨trivial, (callsIn_wide.2 (splitSeq_w s.tail w')).mono ?_⟩
      rintro e w2 ⟨rfl, ta, tb, tc, rfl⟩
      gi_wp2
      refine wpIn_split (w := w) (B := w'.heap.size) (fun x => { tmps := #[.string ⟨s.toArray⟩, undef, .pointer (some ⟨w.heap.size, 0, none⟩), x, .string ⟨s.toArray⟩, .bool false, .string ⟨s.toArray⟩, .int .i64 s.length, .bool (decide (200 < (s.length : Int))), .bool (decide (200 < (s.length : Int))), .string ⟨s.toArray⟩, .bool true, .bool false, .bool (decide (200 < (s.length : Int))), .string ⟨s.toArray⟩, .string ⟨s.tail.toArray⟩, .func (.func 264) #[] #[.pointer (some ⟨w'.heap.size + 1, 0, none⟩), .pointer (some ⟨w'.heap.size, 0, none⟩), .pointer (some ⟨w'.heap.size + 2, 0, none⟩)], x, undef, undef, undef], defers := [] })
        hszB htw rfl s.tail (by simp; omega) (by simp [World.size_alloc]) (fun rec => three_cells hbl' hszB c1 c2 _ _ _ _) ?_ ?_ ?_ ?_
      · intro l x W K hK
        gi_wp2
        exact hK
      · intro l x W htW hx hlt q1 q2
        gi_wp2
        refine ⟨trivial, ((callsIn_wide.2 (named_calls x hx W htW)).inRound l).mono ?_⟩
        rintro e w3 ⟨rfl, hb3⟩
        have u1 : w3.cell? ⟨w.heap.size, 0, none⟩ = some (.bool false) := by rw [hb3.cell (by simp only; omega)]; exact q1
        have u2 : w3.frozen? ⟨w.heap.size, 0, none⟩ = false := by rw [hb3.frozen (by simp only; omega)]; exact q2
        by_cases hn : namedP x = true
        · rw [hn]
          gi_wp2
        · rw [Bool.not_eq_true] at hn
          rw [hn]
          gi_wp2
          exact ⟨w3, hb3, rfl⟩
      · intro W rec r ha hj
        have r1 := hj.res
        have r2 := hj.resf
        gi_wp2
        refine ⟨by simp, .inl ⟨_, _, rfl, run_takeDeferred (ds := []) (by rw [Below.heap_setCell _ _ _ _ (by simp only; omega)]; exact hj.d), ?_⟩⟩
        refine ⟨_, good_res _ _ w.heap.size true rfl ?_, by rw [g3, ha], ?_⟩
        · rw [World.cell?_of_block (World.putObj_heap_other (by simp only; omega))]
          exact World.cell?_setCell_same' _ _ _ (by rw [r1]; rfl)
        · exact (hj.below.setCell (by simp) _).trans ⟨rfl, rfl, rfl, by simp, fun k hk => World.putObj_heap_other (by omega)⟩
      · intro W rec r ha hj
        gi_wp2
        refine ⟨by simp, .inl ⟨_, _, rfl, run_takeDeferred (ds := []) hj.d, ?_⟩⟩
        refine ⟨_, good_res _ _ w.heap.size false rfl ?_, by rw [g3, ha], ?_⟩
        · rw [World.cell?_of_block (World.putObj_heap_other (by simp only; omega))]
          exact hj.res
        · exact hj.below.trans ⟨rfl, rfl, rfl, by simp, fun k hk => World.putObj_heap_other (by omega)⟩
    · have g3 : goodP s = false := by rw [g2, decide_eq_false h3, Bool.false_and]
      rw [decide_eq_false h3]
      gi_wp2
      exact ⟨_, good_res _ _ w.heap.size false rfl (World.cell?_setCell_same' _ _ _ (by rw [c1]; rfl)), by rw [g3], hbl'.setCell (by simp) _⟩
theorem acall_of_below {P : Program} {g : FuncId} {xs : List AV} {x : AV} {us : List Value} {u : Value} (hg : goFn P g) (hxs : scalL xs = some us) (hx : scalV x = some u)
    (h : ∀ w : World, TabsAt w → Calls P g us.toArray w fun e w' => e = .returned u ∧ Below w.heap.size w w') : acall P [] g xs (ret x) := by
  refine ⟨hg, fun E w vs hw hH hvs => ?_⟩
  have e : vs = us := by
    obtain ⟨h1, h2⟩ := scalL_get hxs
    refine List.ext_getElem? fun j => ?_
    by_cases hj : j < xs.length
    · obtain ⟨u', hu, hs⟩ := h2 j _ (List.getElem?_eq_getElem hj)
      have hv : vs[j]? = some (vs[j]'(by rw [hvs.1]; exact hj)) := List.getElem?_eq_getElem _
      rw [hv, hu, scal_eq (hvs.2 j _ _ (List.getElem?_eq_getElem hj) hv) u' hs]
    · rw [List.getElem?_eq_none (by rw [hvs.1]; omega), List.getElem?_eq_none (by omega)]
  subst e
  refine (h w (hw ▸ E.hT)).mono fun e w' ⟨h1, h2⟩ => ?_
  have h0 : E.ρ0 = [] := List.eq_nil_of_length_eq_zero (by rw [hH.len]; rfl)
  refine ⟨u, x, [], [], h1, ⟨rfl, rfl⟩, ?_, fun k p hk => ?_, scal_rep x u hx⟩
  · rw [h0] at hH; exact hH.below h2
  · rw [h0] at hk; exact hk
theorem good_c (s : List UInt8) (h : okS s) : acall Tryz.prog [] 113 [S s] (ret (B (goodP s))) :=
  acall_of_below ⟨_, Tryz.func113, by kernel_rfl, by kernel_rfl⟩ rfl rfl fun w ht => callsIn_wide.1 (good_in s h w ht)
end Go.Proofs.YtainmipdnjcbkaaGreatDoor
namespace Go.Proofs.YtainmipdnjcbkaaGreatDoor
set_option linter.unusedVariables false
set_option linter.unusedSimpArgs false
open Go Go.RowKit
set_option linter.unusedSimpArgs false
theorem eq_of_getD {α : Type} [Inhabited α] {a b : List α} (h : a.length = b.length) (h2 : ∀ k, k < a.length → a.getD k default = b.getD k default) : a = b := by
  refine List.ext_getElem h fun k h1 h3 => ?_
  have := h2 k h1
  simpa [List.getD_eq_getElem?_getD, List.getElem?_eq_getElem h1, List.getElem?_eq_getElem h3] using this
def cmpB (a b : List UInt8) : Int := Lib.compareBytes a b
theorem cmpB_eq (a b : List UInt8) : cmpB a b = 0 ↔ a = b := by
  unfold cmpB
  induction a generalizing b with
  | nil => cases b <;> simp [Lib.compareBytes]
  | cons x a ih =>
    cases b with
    | nil => simp [Lib.compareBytes]
    | cons y b =>
      simp only [Lib.compareBytes]
      split
      · rename_i h; simp; intro e; subst e; exact absurd h (by simp)
      · split
        · rename_i h; simp; intro e; subst e; exact absurd h (by simp)
        · rename_i h1 h2
          have : x = y := by
            have h1' : ¬ x.toNat < y.toNat := by simpa [UInt8.lt_iff_toNat_lt] using h1
            have h2' : ¬ y.toNat < x.toNat := by simpa [UInt8.lt_iff_toNat_lt] using h2
            exact UInt8.toNat_inj.1 (by omega)
          subst this
          rw [ih]; simp
theorem cmpB_lt (a b : List UInt8) : cmpB a b < 0 ↔ strLt a b = true := by
  unfold cmpB strLt
  induction a generalizing b with
  | nil => cases b <;> simp [Lib.compareBytes, Op.bytesLess]
  | cons x a ih =>
    cases b with
    | nil => simp [Lib.compareBytes, Op.bytesLess]
    | cons y b =>
      simp only [Lib.compareBytes, Op.bytesLess]
      split
      · rename_i h; simp [h]
      · rename_i h1
        split
        · rename_i h2
          have h2' : ¬ x = y := fun e => by subst e; exact absurd h2 (by simp)
          simp [h1, h2']
        · rename_i h2
          have : x = y := by
            have h1' : ¬ x.toNat < y.toNat := by simpa [UInt8.lt_iff_toNat_lt] using h1
            have h2' : ¬ y.toNat < x.toNat := by simpa [UInt8.lt_iff_toNat_lt] using h2
            exact UInt8.toNat_inj.1 (by omega)
          subst this
          simp [ih]
theorem strLt_eq (a b : List UInt8) : strLt a b = decide (a < b) := Go.Proofs.bytesLess_eq a b
theorem cmpB_neg (a b : List UInt8) : cmpB a b < 0 ↔ a < b := by rw [cmpB_lt, strLt_eq, decide_eq_true_eq]
theorem lt_tri {a b : List UInt8} (h : ¬ a < b) (h2 : ¬ b < a) : a = b := List.le_antisymm (List.not_lt.1 h2) (List.not_lt.1 h)
theorem lt_of_not {a b : List UInt8} (h : ¬ a < b) (h2 : a ≠ b) : b < a := Classical.byContradiction fun h3 => h2 (lt_tri h h3)
def Rises (ns : List (List UInt8)) : Prop := ∀ k, k + 1 < ns.length → ns.getD k [] < ns.getD (k + 1) []
theorem rises_lt {ns : List (List UInt8)} (h : Rises ns) {i : Nat} : ∀ {j : Nat}, i < j → j < ns.length → ns.getD i [] < ns.getD j []
  | 0, h1, _ => by omega
  | j + 1, h1, h2 => by
    by_cases e : i = j
    · subst e; exact h i h2
    · exact List.lt_trans (rises_lt h (by omega) (by omega)) (h j h2)
def place (ns : List (List UInt8)) (key : List UInt8) : Nat := ns.findIdx fun x => !decide (x < key)
theorem place_eq {ns : List (List UInt8)} {key : List UInt8} {i : Nat} (h0 : i ≤ ns.length) (h1 : ∀ k, k < i → ns.getD k [] < key) (h2 : i < ns.length → ¬ ns.getD i [] < key) : place ns key = i := by
  unfold place
  by_cases e : i < ns.length
  · rw [List.findIdx_eq e]
    have h3 := h2 e
    rw [List.getD_eq_getElem?_getD, List.getElem?_eq_getElem e] at h3
    refine ⟨by simpa using h3, fun j hj => ?_⟩
    have h4 := h1 j hj
    rw [List.getD_eq_getElem?_getD, List.getElem?_eq_getElem (by omega)] at h4
    simpa using h4
  · have e2 : i = ns.length := by omega
    subst e2
    rw [List.findIdx_eq_length]
    intro x hx
    obtain ⟨j, hj, rfl⟩ := List.getElem_of_mem hx
    have h4 := h1 j hj
    rw [List.getD_eq_getElem?_getD, List.getElem?_eq_getElem hj] at h4
    simpa using h4
theorem mem_getD {α : Type} (ns : List α) (d : α) {k : Nat} (h : k < ns.length) : ns.getD k d ∈ ns := by
  rw [List.getD_eq_getElem?_getD, List.getElem?_eq_getElem h]; exact List.getElem_mem h
theorem mem_iff_getD {α : Type} (ns : List α) (d x : α) : x ∈ ns ↔ ∃ k, k < ns.length ∧ ns.getD k d = x := by
  constructor
  · intro h
    obtain ⟨j, hj, e⟩ := List.getElem_of_mem h
    exact ⟨j, hj, by rw [List.getD_eq_getElem?_getD, List.getElem?_eq_getElem hj]; exact e⟩
  · rintro ⟨k, h, rfl⟩; exact mem_getD ns d h
theorem found_iff {ns : List (List UInt8)} {key : List UInt8} {i : Nat} (hr : Rises ns) (h1 : ∀ k, k < i → ns.getD k [] < key) (h2 : i < ns.length → ¬ ns.getD i [] < key) : key ∈ ns ↔ i < ns.length ∧ ns.getD i [] = key := by
  rw [mem_iff_getD ns []]
  constructor
  · rintro ⟨k, hk, e⟩
    have a : ¬ k < i := fun hki => by have := h1 k hki; rw [e] at this; exact List.lt_irrefl _ this
    have b : ¬ i < k := fun hik => by
      have := rises_lt hr hik hk
      rw [e] at this; exact h2 (by omega) this
    have c : i = k := by omega
    subst c; exact ⟨hk, e⟩
  · rintro ⟨h, e⟩; exact ⟨i, h, e⟩
theorem place_le (ns : List (List UInt8)) (key : List UInt8) : place ns key ≤ ns.length := List.findIdx_le_length
theorem place_at {ns : List (List UInt8)} {k : Nat} (hr : Rises ns) (h : k < ns.length) : place ns (ns.getD k []) = k :=
  place_eq (by omega) (fun j hj => rises_lt hr hj h) fun _ => List.lt_irrefl _
theorem zc {ns : List (List UInt8)} {key : List UInt8} (hr : Rises ns) (h : key ∈ ns) : place ns key < ns.length ∧ ns.getD (place ns key) [] = key := by
  obtain ⟨k, hk, e⟩ := (mem_iff_getD ns [] key).1 h
  subst e; rw [place_at hr hk]; exact ⟨hk, rfl⟩
theorem getD_map {α β : Type} (f : α → β) (l : List α) (k : Nat) (d : α) : (l.map f).getD k (f d) = f (l.getD k d) := by
  simp only [List.getD_eq_getElem?_getD, List.getElem?_map]; cases l[k]? <;> rfl
end Go.Proofs.YtainmipdnjcbkaaGreatDoor
namespace Go.Proofs.YtainmipdnjcbkaaGreatDoor
set_option linter.unusedVariables false
set_option linter.unusedSimpArgs false
open Go Go.RowKit
set_option maxRecDepth 100000
set_option linter.unusedSimpArgs false
theorem splitB_len (r : List UInt8) : 0 < (splitB r).length := by
  have := splitB_ne r
  exact List.length_pos_iff.2 this
theorem splitB_snoc (a : List UInt8) (c : UInt8) : splitB (a ++ [c]) = if c = 47 then splitB a ++ [[]] else (splitB a).set ((splitB a).length - 1) ((splitB a).getD ((splitB a).length - 1) [] ++ [c]) := by
  induction a with
  | nil => by_cases h : c = 47 <;> simp [splitB, h]
  | cons x a ih =>
    have hl := splitB_len a
    by_cases hx : x = 47
    · have e : splitB (x :: a ++ [c]) = [] :: splitB (a ++ [c]) := by simp [splitB, hx]
      have e2 : splitB (x :: a) = [] :: splitB a := by simp [splitB, hx]
      rw [e, e2, ih]
      by_cases h : c = 47
      · simp [h]
      · rw [if_neg h, if_neg h]
        obtain ⟨n, hn⟩ : ∃ n, (splitB a).length = n + 1 := ⟨_, (Nat.succ_pred_eq_of_pos hl).symm⟩
        simp [hn]
    · cases hp : splitB a with
      | nil => exact absurd hp (splitB_ne a)
      | cons p ps =>
        have e2 : splitB (x :: a) = (x :: p) :: ps := by simp [splitB, hx, hp]
        rw [hp] at ih
        have e : ∀ q qs, splitB (a ++ [c]) = q :: qs → splitB (x :: a ++ [c]) = (x :: q) :: qs := fun q qs hq => by
          show splitB (x :: (a ++ [c])) = _
          rw [splitB, if_neg hx, hq]
        by_cases h : c = 47
        · rw [if_pos h] at ih ⊢
          rw [e _ _ ih, e2]; rfl
        · rw [if_neg h] at ih ⊢
          cases ps with
          | nil => rw [e _ _ ih, e2]; rfl
          | cons q qs =>
            have ih2 : splitB (a ++ [c]) = p :: (q :: qs).set qs.length ((q :: qs).getD qs.length [] ++ [c]) := by rw [ih]; rfl
            rw [e _ _ ih2, e2]; rfl
theorem splitB_take (s : List UInt8) (k : Nat) (h : k < s.length) : splitB (s.take (k + 1)) = if s.getD k 0 = 47 then splitB (s.take k) ++ [[]] else (splitB (s.take k)).set ((splitB (s.take k)).length - 1) ((splitB (s.take k)).getD ((splitB (s.take k)).length - 1) [] ++ [s.getD k 0]) := by
  have : s.take (k + 1) = s.take k ++ [s.getD k 0] := take_snoc s k h
  rw [this, splitB_snoc]
theorem splitB_le (s : List UInt8) : (splitB s).length ≤ s.length + 1 := by
  induction s with
  | nil => simp [splitB]
  | cons c s ih =>
    unfold splitB
    split
    · simp; omega
    · split
      · rename_i e; rw [e] at ih; simp at ih ⊢; omega
      · simp
theorem splitB_nil : splitB [] = [[]] := rfl
theorem piece_le (s : List UInt8) : ∀ p, p ∈ splitB s → p.length ≤ s.length := by
  induction s with
  | nil => intro p hp; simp [splitB] at hp; simp [hp]
  | cons c s ih =>
    intro p hp
    unfold splitB at hp
    split at hp
    · rcases List.mem_cons.1 hp with rfl | hp
      · simp
      · have := ih p hp; simp; omega
    · split at hp
      · rename_i q qs e
        rcases List.mem_cons.1 hp with rfl | hp
        · have := ih q (by rw [e]; simp); simp; omega
        · have := ih p (by rw [e]; simp [hp]); simp; omega
      · simp at hp; subst hp; simp
theorem toNat_pr2 (n : Nat) : ((n : Int) - 1).toNat = n - 1 := by omega
theorem srow_rgetD (l : List (List UInt8)) (i : Nat) (z : List DV) (h : i < l.length) : (l.map srow).getD i z = srow (l.getD i []) := getD_row srow l i z h
theorem srow_rset (l : List (List UInt8)) (i : Nat) (x : List UInt8) : (l.map srow).set i [.str x] = (l.set i x).map srow := by rw [List.map_set]; rfl
theorem srow_rsnoc (l : List (List UInt8)) (x : List UInt8) : l.map srow ++ [[.str x]] = (l ++ [x]).map srow := by rw [List.map_append]; rfl
theorem okU8_one (b : UInt8) : okU8s [[.int .u8 (b.toNat : Int)]] = True := eq_true (okU8s_rows [b])
theorem u8_47 {b : UInt8} (h : (b.toNat : Int) = 47) : b = 47 := by
  have h2 : b.toNat = (47 : UInt8).toNat := by have : (47 : UInt8).toNat = 47 := rfl; omega
  exact UInt8.toNat_inj.1 h2
theorem take_drop_map (l : List (List UInt8)) : List.take (l.length - 1) (List.drop 1 (l.map srow)) = (l.drop 1).map srow := by
  rw [← List.map_drop]; exact List.take_of_length_le (by simp)
theorem steps_c (s : List UInt8) (h : s.length ≤ 1048576) : acall Tryz.prog [] 258 [S s] (ret (.d (.sl 1 ((splitB s).map srow)))) := by
  refine zI Tryz.func258 rfl (by kernel_rfl) (by simp [Tryz.ntmps258]) ?_; simp only [Tryz.ntmps258, Tryz.results258, go_sem]
  (repeat' first
| (with_reducible refine AR.f ?_)
| refine zb (by decide) ?_
| (with_reducible refine AWP.cond rfl ?_ ?_ <;> intro hc <;> (try simp only [hcs, beq_iff_eq, ge_iff_le, gt_iff_lt] at hc))
| ((first | ((first | (with_reducible first | refine zR ?_ | refine zQ (by decide +kernel) ?_ | refine zD (by decide +kernel) ?_ | refine zE (by decide +kernel) ?_ | refine zG (by decide +kernel) ?_)); intro K hK) | ((first | (with_reducible refine zu ?_ ?_ <;> intro hg) | with_reducible intro hg) <;> (first | (exfalso; simp at hg; done) | (have hg' := hg; (try simp only [hcs, beq_iff_eq, ge_iff_le, gt_iff_lt] at hg'); (try simp only [hg]))))) <;> (try simp (disch := omega) only [go_sem, wn]) <;> (repeat' with_reducible refine And.intro ?_ ?_) <;> (try (with_reducible refine hK _ ?_; clear hK K)))
| omega)
  refine AWP.loopB (ι := Nat) (fun k => k ≤ s.length) (fun k => s.length - k) [8, 9] (fun k => [(10, I k), (3, .osl 0 1 0 (splitB (s.take k)).length)]) (fun k => [.rows 1 ((splitB (s.take k)).map srow), .bytes s]) 0 ?_ ?_ ?_
  · omega
  · simp only [go_sem, splitB_nil, srow]; (refine SImp.same ?_; simp (disch := omega) only [go_sem, wn, Int.natCast_add, splitB_nil])
  intro k hk
  have hl := splitB_len (s.take k)
  have hle := splitB_le (s.take k)
  have htl : (s.take k).length = k := by simp; omega
  have hpl : ((splitB (s.take k)).getD ((splitB (s.take k)).length - 1) []).length ≤ k := by
    have := piece_le (s.take k) _ (mem_getD (splitB (s.take k)) [] (k := (splitB (s.take k)).length - 1) (by omega))
    omega
  simp only [go_sem]
  (repeat' first
| (with_reducible refine AR.f ?_)
| refine zb (by decide) ?_
| (with_reducible refine AWP.cond rfl ?_ ?_ <;> intro hc <;> (try simp only [hcs, beq_iff_eq, ge_iff_le, gt_iff_lt] at hc))
| ((first | ((first | refine zP (Plan.takes [0, 1, 2, 3, 4, 6] (.fork 5 (Plan.takes [7, 8, 9, 10, 11] .done) 7 (.fork 5 (Plan.takes [8, 9, 10, 11] .done) 8 (Plan.takes [5, 9, 10, 11] .done)))) (by decide +kernel) ?_ | (with_reducible first | refine zR ?_ | refine zQ (by decide +kernel) ?_ | refine zD (by decide +kernel) ?_ | refine zE (by decide +kernel) ?_ | refine zG (by decide +kernel) ?_)); intro K hK) | ((first | (with_reducible refine zu ?_ ?_ <;> intro hg) | with_reducible intro hg) <;> (first | (exfalso; simp at hg; done) | (have hg' := hg; (try simp only [hcs, beq_iff_eq, ge_iff_le, gt_iff_lt] at hg'); (try simp only [hg]))))) <;> (try simp (disch := omega) only [go_sem, wn, u8g, srow_rgetD, srow, srow_rset, srow_rsnoc, toNat_pr2, okU8_one, UInt8.ofNat_toNat]) <;> (repeat' with_reducible refine And.intro ?_ ?_) <;> (try (with_reducible refine hK _ ?_; clear hK K)))
| omega)
  · refine ⟨k + 1, by omega, by omega, ?_⟩
    rw [splitB_take _ _ (by assumption), if_pos (u8_47 hc)]
    (refine zV [3, 1] rfl rfl rfl rfl ?_ ?_ <;> simp (disch := omega) only [go_sem, wn, Int.natCast_add, List.length_append] <;> (try rfl))
  iterate 3
    · refine ⟨k + 1, by omega, by omega, ?_⟩
      rw [splitB_take _ _ (by assumption), if_neg (fun e => hc (by rw [e]; rfl))]
      (refine zV [0, 1] rfl rfl rfl rfl ?_ ?_ <;> simp (disch := omega) only [go_sem, wn, Int.natCast_add, List.length_set] <;> (try rfl))
  · have e : k = s.length := by omega
    subst e
    simp only [List.take_length]
    (refine zF rfl ?_ ?_ ?_ ?_; (iterate 3 (focus ((try simp (disch := omega) only [go_sem, wn]) <;> (try omega) <;> fail))); (try simp (disch := omega) only [go_sem, wn, I, B, S, zj]))
def goodL (s : List UInt8) : Bool := decide (s = [47]) || (decide (s.length ≤ 200) && (decide ((splitB s).getD 0 [] = []) && (decide (2 ≤ (splitB s).length) && ((splitB s).drop 1).all namedP)))
theorem goodL_eq (s : List UInt8) : goodL s = goodP s := by
  unfold goodL goodP
  congr 2
  cases s with
  | nil => simp [splitB]
  | cons c r =>
    by_cases h : c = 47
    · subst h
      have := splitB_len r
      simp [splitB, allNamed]
      intro _; omega
    · have hn : ∃ p ps, splitB (c :: r) = (c :: p) :: ps := by
        cases hp : splitB r with
        | nil => exact absurd hp (splitB_ne r)
        | cons p ps => exact ⟨p, ps, by simp [splitB, h, hp]⟩
      obtain ⟨p, ps, e⟩ := hn
      rw [e]
      simp [h]
theorem ref_good_c (s : List UInt8) (h : s.length ≤ 1048576) : acall Tryz.prog [] 217 [S s] (ret (B (goodP s))) := by
  rw [← goodL_eq]
  have hl := splitB_len s
  refine zI Tryz.func217 rfl (by kernel_rfl) (by simp [Tryz.ntmps217]) ?_; simp only [Tryz.ntmps217, Tryz.results217, go_sem]
  (repeat' first
| (with_reducible refine AR.f ?_)
| refine zb (by decide) ?_
| (with_reducible refine AWP.cond rfl ?_ ?_ <;> intro hc <;> (try simp only [hcs, beq_iff_eq, ge_iff_le, gt_iff_lt] at hc))
| ((first | ((first | (with_reducible first | refine zR ?_ | refine zQ (by decide +kernel) ?_ | refine zD (by decide +kernel) ?_ | refine zE (by decide +kernel) ?_ | refine zG (by decide +kernel) ?_)); intro K hK) | ((first | refine zN (steps_c s h) rfl ?_ ?_ | refine zY (steps_c s h) ?_ ?_); (focus ((try simp (disch := omega) only [go_sem, wn, srow_rgetD, srow, take_drop_map, Nat.min_self]) <;> (try omega) <;> fail))) | ((first | (with_reducible refine zu ?_ ?_ <;> intro hg) | with_reducible intro hg) <;> (first | (exfalso; simp at hg; done) | (have hg' := hg; (try simp only [hcs, beq_iff_eq, ge_iff_le, gt_iff_lt] at hg'); (try simp only [hg]))))) <;> (try simp (disch := omega) only [go_sem, wn, srow_rgetD, srow, take_drop_map, Nat.min_self]) <;> (repeat' with_reducible refine And.intro ?_ ?_) <;> (try (with_reducible refine hK _ ?_; clear hK K)))
| omega)
  · (refine zF rfl ?_ ?_ ?_ ?_; (iterate 3 (focus ((try simp (disch := omega) only [go_sem, wn]) <;> (try omega) <;> fail))); (try simp (disch := omega) only [go_sem, wn, I, B, S, zj]))
    unfold goodL; rw [decide_eq_true hc, Bool.true_or]
  · (refine zF rfl ?_ ?_ ?_ ?_; (iterate 3 (focus ((try simp (disch := omega) only [go_sem, wn]) <;> (try omega) <;> fail))); (try simp (disch := omega) only [go_sem, wn, I, B, S, zj]))
    unfold goodL
    rw [decide_eq_false (by assumption), Bool.false_or]
    rcases hc with (c | c) | c
    · rw [decide_eq_false (p := s.length ≤ 200) (by omega), Bool.false_and]
    · rw [decide_eq_false c, Bool.false_and, Bool.and_false]
    · rw [decide_eq_false (p := 2 ≤ (splitB s).length) (by omega), Bool.false_and, Bool.and_false, Bool.and_false]
  have g : goodL s = ((splitB s).drop 1).all namedP := by
    unfold goodL
    rw [decide_eq_false (by assumption), Bool.false_or, decide_eq_true (p := s.length ≤ 200) (by omega), decide_eq_true hc.1.2, decide_eq_true (p := 2 ≤ (splitB s).length) (by omega)]; rfl
  rw [g]
  have hml : ((splitB s).drop 1).length = (splitB s).length - 1 := by simp
  have hle := splitB_le s
  have hpl : ∀ p, p ∈ (splitB s).drop 1 → okS p := fun p hp => by
    have := piece_le s p (List.mem_of_mem_drop hp)
    unfold okS; omega
  generalize (splitB s).drop 1 = m at *
  refine AWP.loopS (ι := Nat) (fun k => k ≤ m.length ∧ ∀ j, j < k → namedP (m.getD j []) = true) (fun k => m.length - k) [25, 26] (fun k => [(27, I k)]) 0 ?_ (by simp (disch := omega) only [go_sem, wn, hml]) ?_
  · exact ⟨by omega, by omega⟩
  intro k ⟨hk, hk2⟩
  simp only [go_sem]
  have hpk : okS (m.getD k []) := by
    by_cases e : k < m.length
    · exact hpl _ (mem_getD m [] e)
    · rw [List.getD_eq_getElem?_getD, List.getElem?_eq_none (by omega)]; show okS []; unfold okS; decide
  (repeat' first
| (with_reducible refine AR.f ?_)
| refine zb (by decide) ?_
| (with_reducible refine AWP.cond rfl ?_ ?_ <;> intro hc <;> (try simp only [hcs, beq_iff_eq, ge_iff_le, gt_iff_lt] at hc))
| ((first | ((first | (with_reducible first | refine zR ?_ | refine zQ (by decide +kernel) ?_ | refine zD (by decide +kernel) ?_ | refine zE (by decide +kernel) ?_ | refine zG (by decide +kernel) ?_)); intro K hK) | ((first | refine acallH_sc (ref_named_c _ hpk) rfl rfl ?_ ?_ ?_ | refine acallQ_sc (ref_named_c _ hpk) rfl rfl ?_ ?_ ?_); iterate 2 (focus ((try simp (disch := omega) only [go_sem, wn, srow_rgetD, srow]) <;> (try omega) <;> fail))) | ((first | refine zX (ref_named_c _ hpk) rfl ?_ ?_); (focus ((try simp (disch := omega) only [go_sem, wn, srow_rgetD, srow]) <;> (try omega) <;> fail))) | ((first | (with_reducible refine zu ?_ ?_ <;> intro hg) | with_reducible intro hg) <;> (first | (exfalso; simp at hg; done) | (have hg' := hg; (try simp only [hcs, beq_iff_eq, ge_iff_le, gt_iff_lt] at hg'); (try simp only [hg]))))) <;> (try simp (disch := omega) only [go_sem, wn, srow_rgetD, srow]) <;> (repeat' with_reducible refine And.intro ?_ ?_) <;> (try (with_reducible refine hK _ ?_; clear hK K)))
| omega)
  · (refine zF rfl ?_ ?_ ?_ ?_; (iterate 3 (focus ((try simp (disch := omega) only [go_sem, wn]) <;> (try omega) <;> fail))); (try simp (disch := omega) only [go_sem, wn, I, B, S, zj]))
    symm; exact all_not (d := []) (by omega : k < m.length) hc
  · refine ⟨k + 1, ⟨by omega, fun j hj => ?_⟩, by omega, ?_⟩
    · by_cases e : j = k
      · subst e; exact hc
      · exact hk2 j (by omega)
    (refine SImp.same ?_; simp (disch := omega) only [go_sem, wn, Int.natCast_add])
  · (refine zF rfl ?_ ?_ ?_ ?_; (iterate 3 (focus ((try simp (disch := omega) only [go_sem, wn]) <;> (try omega) <;> fail))); (try simp (disch := omega) only [go_sem, wn, I, B, S, zj]))
    symm; exact all_full namedP m [] fun j hj => hk2 j (by omega)
end Go.Proofs.YtainmipdnjcbkaaGreatDoor
namespace Go.Proofs.YtainmipdnjcbkaaGreatDoor
set_option linter.unusedVariables false
set_option linter.unusedSimpArgs false
open Go Go.RowKit
set_option maxRecDepth 100000
set_option linter.unusedSimpArgs false
def badZ (e c : Int) : Prop := e < 0 ∨ 2147483647 < e ∨ c < 0 ∨ 2147483647 < c
instance (e c : Int) : Decidable (badZ e c) := by unfold badZ; infer_instance
def mkZ (e c : Int) : Int × Int := if badZ e c then (0, 3) else (e * 2147483648 + c, 0)
def two (p : Int × Int) : AV := .tup [I p.1, I p.2]
theorem ofInt_i64 (a : Nat) (ha : a < 9223372036854775808) : (BitVec.ofInt 64 (a : Int)).toNat = a := by
  rw [BitVec.ofInt_natCast, BitVec.toNat_ofNat]; exact Nat.mod_eq_of_lt (by omega)
theorem or_shl (e c : Nat) (he : e ≤ 2147483647) (hc : c ≤ 2147483647) : bits .or .i64 ((e : Int) * 2147483648) (c : Int) = (e : Int) * 2147483648 + c := by
  have e1 : ((e : Int) * 2147483648) = ((e * 2147483648 : Nat) : Int) := by omega
  have hx : e * 2147483648 ||| c = e * 2147483648 + c := by
    have h := Nat.shiftLeft_add_eq_or_of_lt (i := 31) (b := c) (by omega : c < 2 ^ 31) e
    rw [Nat.shiftLeft_eq] at h
    exact h.symm
  rw [e1]
  show IntKind.i64.wrap ((BitVec.ofInt 64 ((e * 2147483648 : Nat) : Int) ||| BitVec.ofInt 64 (c : Int)).toNat : Int) = _
  rw [BitVec.toNat_or, ofInt_i64 _ (by omega), ofInt_i64 c (by omega), hx, IntKind.wrap_i64]
  omega
theorem make_c (e c : Int) : acall Tryz.prog [] 62 [I e, I c] (ret (two (mkZ e c))) := by
  refine zi tabOk Tryz.func62 rfl (by kernel_rfl) (by simp [Tryz.ntmps62]) ?_; simp only [Tryz.ntmps62, Tryz.results62, List.toList_toArray, apar, List.length_nil, List.length_cons, Nat.reduceAdd]
  repeat' first
    | with_reducible refine AWP.seq ?_
    | with_reducible refine thenA_n ?_
    | with_reducible refine thenA_r ?_
    | with_reducible refine thenA_e ?_
    | with_reducible refine blkA_n ?_
    | with_reducible refine blkA_r ?_
    | with_reducible refine blkA_e ?_
    | with_reducible refine zb (by decide) ?_
    | with_reducible refine AWP.skip ?_
    | with_reducible refine AWP.ret ?_
    | with_reducible refine AWP.exit ?_
    | with_reducible refine AWP.block ?_
    | (with_reducible refine AWP.cond rfl ?_ ?_ <;> intro _)
    | (with_reducible refine AWP.region tabOk ?_; intro K hK; simp only [go_sem, ↓reduceIte, reduceCtorEq, Nat.reduceAdd, Nat.reduceSub, Nat.reduceMul, Nat.reducePow, Nat.reduceDiv, Nat.reduceMod, Nat.reduceLT, Nat.reduceLeDiff, Nat.reduceEqDiff, Nat.reduceBEq, Int.reduceToNat, Int.reduceLT, Int.reduceLE, Int.reduceAdd, Int.reduceSub, Int.reduceMul, Int.reducePow, Int.reduceNeg, Int.reduceEq, Int.toNat_natCast, Int.cast_ofNat_Int, Bool.not_eq_true', Bool.not_eq_false', ge_iff_le, gt_iff_lt, ne_eq, not_false_eq_true, not_true_eq_false, Nat.one_ne_zero, beq_self_eq_true, Bool.bne_false, Nat.zero_add, true_and]; (repeat' with_reducible apply And.intro) <;> (try (with_reducible refine hK _ ?_; clear hK K)))
    | (with_reducible refine AWP.quiet mixed tabOk (by kernel_rfl) ?_; intro K hK; simp only [go_sem, ↓reduceIte, reduceCtorEq, Nat.reduceAdd, Nat.reduceSub, Nat.reduceMul, Nat.reducePow, Nat.reduceDiv, Nat.reduceMod, Nat.reduceLT, Nat.reduceLeDiff, Nat.reduceEqDiff, Nat.reduceBEq, Int.reduceToNat, Int.reduceLT, Int.reduceLE, Int.reduceAdd, Int.reduceSub, Int.reduceMul, Int.reducePow, Int.reduceNeg, Int.reduceEq, Int.toNat_natCast, Int.cast_ofNat_Int, Bool.not_eq_true', Bool.not_eq_false', ge_iff_le, gt_iff_lt, ne_eq, not_false_eq_true, not_true_eq_false, Nat.one_ne_zero, beq_self_eq_true, Bool.bne_false, Nat.zero_add, true_and]; (repeat' with_reducible apply And.intro) <;> (try (with_reducible refine hK _ ?_; clear hK K)))
    | (intro hg; first | (exfalso; simp at hg; done) | ((try simp only [hg, go_sem, ↓reduceIte, reduceCtorEq, Nat.reduceAdd, Nat.reduceSub, Nat.reduceMul, Nat.reducePow, Nat.reduceDiv, Nat.reduceMod, Nat.reduceLT, Nat.reduceLeDiff, Nat.reduceEqDiff, Nat.reduceBEq, Int.reduceToNat, Int.reduceLT, Int.reduceLE, Int.reduceAdd, Int.reduceSub, Int.reduceMul, Int.reducePow, Int.reduceNeg, Int.reduceEq, Int.toNat_natCast, Int.cast_ofNat_Int, Bool.not_eq_true', Bool.not_eq_false', ge_iff_le, gt_iff_lt, ne_eq, not_false_eq_true, not_true_eq_false, Nat.one_ne_zero, beq_self_eq_true, Bool.bne_false, Nat.zero_add, true_and]) <;> (repeat' with_reducible refine And.intro ?_ ?_) <;> (try (with_reducible refine hK _ ?_; clear hK K))))
    | omega
  all_goals try (refine aend_ret ?_ rfl ?_ ?_ ?_ ?_; (focus (first | exact .inl rfl | exact .inr rfl)); (focus (simp only [go_sem, ↓reduceIte, reduceCtorEq, Nat.reduceAdd, Nat.reduceSub, Nat.reduceMul, Nat.reducePow, Nat.reduceDiv, Nat.reduceMod, Nat.reduceLT, Nat.reduceLeDiff, Nat.reduceEqDiff, Nat.reduceBEq, Int.reduceToNat, Int.reduceLT, Int.reduceLE, Int.reduceAdd, Int.reduceSub, Int.reduceMul, Int.reducePow, Int.reduceNeg, Int.reduceEq, Int.toNat_natCast, Int.cast_ofNat_Int, Bool.not_eq_true', Bool.not_eq_false', ge_iff_le, gt_iff_lt, ne_eq, not_false_eq_true, not_true_eq_false, Nat.one_ne_zero, beq_self_eq_true, Bool.bne_false, Nat.zero_add, two]; first | done | omega)); (focus (simp only [go_sem, ↓reduceIte, reduceCtorEq, Nat.reduceAdd, Nat.reduceSub, Nat.reduceMul, Nat.reducePow, Nat.reduceDiv, Nat.reduceMod, Nat.reduceLT, Nat.reduceLeDiff, Nat.reduceEqDiff, Nat.reduceBEq, Int.reduceToNat, Int.reduceLT, Int.reduceLE, Int.reduceAdd, Int.reduceSub, Int.reduceMul, Int.reducePow, Int.reduceNeg, Int.reduceEq, Int.toNat_natCast, Int.cast_ofNat_Int, Bool.not_eq_true', Bool.not_eq_false', ge_iff_le, gt_iff_lt, ne_eq, not_false_eq_true, not_true_eq_false, Nat.one_ne_zero, beq_self_eq_true, Bool.bne_false, Nat.zero_add, two]; done)); (focus (simp only [go_sem, ↓reduceIte, reduceCtorEq, Nat.reduceAdd, Nat.reduceSub, Nat.reduceMul, Nat.reducePow, Nat.reduceDiv, Nat.reduceMod, Nat.reduceLT, Nat.reduceLeDiff, Nat.reduceEqDiff, Nat.reduceBEq, Int.reduceToNat, Int.reduceLT, Int.reduceLE, Int.reduceAdd, Int.reduceSub, Int.reduceMul, Int.reducePow, Int.reduceNeg, Int.reduceEq, Int.toNat_natCast, Int.cast_ofNat_Int, Bool.not_eq_true', Bool.not_eq_false', ge_iff_le, gt_iff_lt, ne_eq, not_false_eq_true, not_true_eq_false, Nat.one_ne_zero, beq_self_eq_true, Bool.bne_false, Nat.zero_add, two]; done)); simp only [go_sem, ↓reduceIte, reduceCtorEq, Nat.reduceAdd, Nat.reduceSub, Nat.reduceMul, Nat.reducePow, Nat.reduceDiv, Nat.reduceMod, Nat.reduceLT, Nat.reduceLeDiff, Nat.reduceEqDiff, Nat.reduceBEq, Int.reduceToNat, Int.reduceLT, Int.reduceLE, Int.reduceAdd, Int.reduceSub, Int.reduceMul, Int.reducePow, Int.reduceNeg, Int.reduceEq, Int.toNat_natCast, Int.cast_ofNat_Int, Bool.not_eq_true', Bool.not_eq_false', ge_iff_le, gt_iff_lt, ne_eq, not_false_eq_true, not_true_eq_false, Nat.one_ne_zero, beq_self_eq_true, Bool.bne_false, Nat.zero_add, two, I, B, S, AV.d.injEq, DV.int.injEq, DV.bool.injEq, DV.str.injEq, DV.sl.injEq, AV.tup.injEq, AV.agg.injEq, List.cons.injEq, and_true, true_and, and_self])
  · rename_i h
    have hb : badZ e c := by unfold badZ; simp only [Bool.or_eq_true, decide_eq_true_eq] at h; omega
    simp [mkZ, if_pos hb]
  · rename_i h
    simp only [Bool.or_eq_false_iff, decide_eq_false_iff_not] at h
    have hb : ¬ badZ e c := by unfold badZ; omega
    obtain ⟨n, rfl⟩ := Int.eq_ofNat_of_zero_le (show 0 ≤ e by omega)
    obtain ⟨m, rfl⟩ := Int.eq_ofNat_of_zero_le (show 0 ≤ c by omega)
    rw [wrap_in _ ⟨by omega, by omega⟩, or_shl n m (by omega) (by omega)]
    simp [mkZ, if_neg hb]
theorem ref_make_c (e c : Int) : acall Tryz.prog [] 67 [I e, I c] (ret (two (mkZ e c))) := by
  refine zi tabOk Tryz.func67 rfl (by kernel_rfl) (by simp [Tryz.ntmps67]) ?_; simp only [Tryz.ntmps67, Tryz.results67, List.toList_toArray, apar, List.length_nil, List.length_cons, Nat.reduceAdd]
  repeat' first
    | with_reducible refine AWP.seq ?_
    | with_reducible refine thenA_n ?_
    | with_reducible refine thenA_r ?_
    | with_reducible refine thenA_e ?_
    | with_reducible refine blkA_n ?_
    | with_reducible refine blkA_r ?_
    | with_reducible refine blkA_e ?_
    | with_reducible refine zb (by decide) ?_
    | with_reducible refine AWP.skip ?_
    | with_reducible refine AWP.ret ?_
    | with_reducible refine AWP.exit ?_
    | with_reducible refine AWP.block ?_
    | (with_reducible refine AWP.cond rfl ?_ ?_ <;> intro _)
    | (with_reducible refine AWP.region tabOk ?_; intro K hK; simp only [go_sem, ↓reduceIte, reduceCtorEq, Nat.reduceAdd, Nat.reduceSub, Nat.reduceMul, Nat.reducePow, Nat.reduceDiv, Nat.reduceMod, Nat.reduceLT, Nat.reduceLeDiff, Nat.reduceEqDiff, Nat.reduceBEq, Int.reduceToNat, Int.reduceLT, Int.reduceLE, Int.reduceAdd, Int.reduceSub, Int.reduceMul, Int.reducePow, Int.reduceNeg, Int.reduceEq, Int.toNat_natCast, Int.cast_ofNat_Int, Bool.not_eq_true', Bool.not_eq_false', ge_iff_le, gt_iff_lt, ne_eq, not_false_eq_true, not_true_eq_false, Nat.one_ne_zero, beq_self_eq_true, Bool.bne_false, Nat.zero_add, true_and]; (repeat' with_reducible apply And.intro) <;> (try (with_reducible refine hK _ ?_; clear hK K)))
    | (with_reducible refine AWP.quiet mixed tabOk (by kernel_rfl) ?_; intro K hK; simp only [go_sem, ↓reduceIte, reduceCtorEq, Nat.reduceAdd, Nat.reduceSub, Nat.reduceMul, Nat.reducePow, Nat.reduceDiv, Nat.reduceMod, Nat.reduceLT, Nat.reduceLeDiff, Nat.reduceEqDiff, Nat.reduceBEq, Int.reduceToNat, Int.reduceLT, Int.reduceLE, Int.reduceAdd, Int.reduceSub, Int.reduceMul, Int.reducePow, Int.reduceNeg, Int.reduceEq, Int.toNat_natCast, Int.cast_ofNat_Int, Bool.not_eq_true', Bool.not_eq_false', ge_iff_le, gt_iff_lt, ne_eq, not_false_eq_true, not_true_eq_false, Nat.one_ne_zero, beq_self_eq_true, Bool.bne_false, Nat.zero_add, true_and]; (repeat' with_reducible apply And.intro) <;> (try (with_reducible refine hK _ ?_; clear hK K)))
    | (intro hg; first | (exfalso; simp at hg; done) | ((try simp only [hg, go_sem, ↓reduceIte, reduceCtorEq, Nat.reduceAdd, Nat.reduceSub, Nat.reduceMul, Nat.reducePow, Nat.reduceDiv, Nat.reduceMod, Nat.reduceLT, Nat.reduceLeDiff, Nat.reduceEqDiff, Nat.reduceBEq, Int.reduceToNat, Int.reduceLT, Int.reduceLE, Int.reduceAdd, Int.reduceSub, Int.reduceMul, Int.reducePow, Int.reduceNeg, Int.reduceEq, Int.toNat_natCast, Int.cast_ofNat_Int, Bool.not_eq_true', Bool.not_eq_false', ge_iff_le, gt_iff_lt, ne_eq, not_false_eq_true, not_true_eq_false, Nat.one_ne_zero, beq_self_eq_true, Bool.bne_false, Nat.zero_add, true_and]) <;> (repeat' with_reducible refine And.intro ?_ ?_) <;> (try (with_reducible refine hK _ ?_; clear hK K))))
    | omega
  all_goals try (refine aend_ret ?_ rfl ?_ ?_ ?_ ?_; (focus (first | exact .inl rfl | exact .inr rfl)); (focus (simp only [go_sem, ↓reduceIte, reduceCtorEq, Nat.reduceAdd, Nat.reduceSub, Nat.reduceMul, Nat.reducePow, Nat.reduceDiv, Nat.reduceMod, Nat.reduceLT, Nat.reduceLeDiff, Nat.reduceEqDiff, Nat.reduceBEq, Int.reduceToNat, Int.reduceLT, Int.reduceLE, Int.reduceAdd, Int.reduceSub, Int.reduceMul, Int.reducePow, Int.reduceNeg, Int.reduceEq, Int.toNat_natCast, Int.cast_ofNat_Int, Bool.not_eq_true', Bool.not_eq_false', ge_iff_le, gt_iff_lt, ne_eq, not_false_eq_true, not_true_eq_false, Nat.one_ne_zero, beq_self_eq_true, Bool.bne_false, Nat.zero_add, two]; first | done | omega)); (focus (simp only [go_sem, ↓reduceIte, reduceCtorEq, Nat.reduceAdd, Nat.reduceSub, Nat.reduceMul, Nat.reducePow, Nat.reduceDiv, Nat.reduceMod, Nat.reduceLT, Nat.reduceLeDiff, Nat.reduceEqDiff, Nat.reduceBEq, Int.reduceToNat, Int.reduceLT, Int.reduceLE, Int.reduceAdd, Int.reduceSub, Int.reduceMul, Int.reducePow, Int.reduceNeg, Int.reduceEq, Int.toNat_natCast, Int.cast_ofNat_Int, Bool.not_eq_true', Bool.not_eq_false', ge_iff_le, gt_iff_lt, ne_eq, not_false_eq_true, not_true_eq_false, Nat.one_ne_zero, beq_self_eq_true, Bool.bne_false, Nat.zero_add, two]; done)); (focus (simp only [go_sem, ↓reduceIte, reduceCtorEq, Nat.reduceAdd, Nat.reduceSub, Nat.reduceMul, Nat.reducePow, Nat.reduceDiv, Nat.reduceMod, Nat.reduceLT, Nat.reduceLeDiff, Nat.reduceEqDiff, Nat.reduceBEq, Int.reduceToNat, Int.reduceLT, Int.reduceLE, Int.reduceAdd, Int.reduceSub, Int.reduceMul, Int.reducePow, Int.reduceNeg, Int.reduceEq, Int.toNat_natCast, Int.cast_ofNat_Int, Bool.not_eq_true', Bool.not_eq_false', ge_iff_le, gt_iff_lt, ne_eq, not_false_eq_true, not_true_eq_false, Nat.one_ne_zero, beq_self_eq_true, Bool.bne_false, Nat.zero_add, two]; done)); simp only [go_sem, ↓reduceIte, reduceCtorEq, Nat.reduceAdd, Nat.reduceSub, Nat.reduceMul, Nat.reducePow, Nat.reduceDiv, Nat.reduceMod, Nat.reduceLT, Nat.reduceLeDiff, Nat.reduceEqDiff, Nat.reduceBEq, Int.reduceToNat, Int.reduceLT, Int.reduceLE, Int.reduceAdd, Int.reduceSub, Int.reduceMul, Int.reducePow, Int.reduceNeg, Int.reduceEq, Int.toNat_natCast, Int.cast_ofNat_Int, Bool.not_eq_true', Bool.not_eq_false', ge_iff_le, gt_iff_lt, ne_eq, not_false_eq_true, not_true_eq_false, Nat.one_ne_zero, beq_self_eq_true, Bool.bne_false, Nat.zero_add, two, I, B, S, AV.d.injEq, DV.int.injEq, DV.bool.injEq, DV.str.injEq, DV.sl.injEq, AV.tup.injEq, AV.agg.injEq, List.cons.injEq, and_true, true_and, and_self])
  · rename_i h
    have hb : badZ e c := by unfold badZ; simp only [Bool.or_eq_true, decide_eq_true_eq] at h; omega
    simp [mkZ, if_pos hb]
  · rename_i h
    simp only [Bool.or_eq_false_iff, decide_eq_false_iff_not] at h
    have hb : ¬ badZ e c := by unfold badZ; omega
    rw [wrap_in (e * 2147483648) ⟨by omega, by omega⟩, wrap_in _ ⟨by omega, by omega⟩]
    simp [mkZ, if_neg hb]
def goodZ (z : Int) : Prop := 0 ≤ z ∧ z < 4611686018427387904
instance (z : Int) : Decidable (goodZ z) := by unfold goodZ; infer_instance
def epZ (z : Int) : Int := if goodZ z then z / 2147483648 else 0
def coZ (z : Int) : Int := if goodZ z then z % 2147483648 else 0
theorem zgood_c (z : Int) : acall Tryz.prog [] 112 [I z] (ret (B (decide (goodZ z)))) := by
  refine zi tabOk Tryz.func112 rfl (by kernel_rfl) (by simp [Tryz.ntmps112]) ?_; simp only [Tryz.ntmps112, Tryz.results112, List.toList_toArray, apar, List.length_nil, List.length_cons, Nat.reduceAdd]
  repeat' first
    | with_reducible refine AWP.seq ?_
    | with_reducible refine thenA_n ?_
    | with_reducible refine thenA_r ?_
    | with_reducible refine thenA_e ?_
    | with_reducible refine blkA_n ?_
    | with_reducible refine blkA_r ?_
    | with_reducible refine blkA_e ?_
    | with_reducible refine zb (by decide) ?_
    | with_reducible refine AWP.skip ?_
    | with_reducible refine AWP.ret ?_
    | with_reducible refine AWP.exit ?_
    | with_reducible refine AWP.block ?_
    | (with_reducible refine AWP.cond rfl ?_ ?_ <;> intro _)
    | (with_reducible refine AWP.region tabOk ?_; intro K hK; simp only [go_sem, ↓reduceIte, reduceCtorEq, Nat.reduceAdd, Nat.reduceSub, Nat.reduceMul, Nat.reducePow, Nat.reduceDiv, Nat.reduceMod, Nat.reduceLT, Nat.reduceLeDiff, Nat.reduceEqDiff, Nat.reduceBEq, Int.reduceToNat, Int.reduceLT, Int.reduceLE, Int.reduceAdd, Int.reduceSub, Int.reduceMul, Int.reducePow, Int.reduceNeg, Int.reduceEq, Int.toNat_natCast, Int.cast_ofNat_Int, Bool.not_eq_true', Bool.not_eq_false', ge_iff_le, gt_iff_lt, ne_eq, not_false_eq_true, not_true_eq_false, Nat.one_ne_zero, beq_self_eq_true, Bool.bne_false, Nat.zero_add, true_and]; (repeat' with_reducible apply And.intro) <;> (try (with_reducible refine hK _ ?_; clear hK K)))
    | (with_reducible refine AWP.quiet mixed tabOk (by kernel_rfl) ?_; intro K hK; simp only [go_sem, ↓reduceIte, reduceCtorEq, Nat.reduceAdd, Nat.reduceSub, Nat.reduceMul, Nat.reducePow, Nat.reduceDiv, Nat.reduceMod, Nat.reduceLT, Nat.reduceLeDiff, Nat.reduceEqDiff, Nat.reduceBEq, Int.reduceToNat, Int.reduceLT, Int.reduceLE, Int.reduceAdd, Int.reduceSub, Int.reduceMul, Int.reducePow, Int.reduceNeg, Int.reduceEq, Int.toNat_natCast, Int.cast_ofNat_Int, Bool.not_eq_true', Bool.not_eq_false', ge_iff_le, gt_iff_lt, ne_eq, not_false_eq_true, not_true_eq_false, Nat.one_ne_zero, beq_self_eq_true, Bool.bne_false, Nat.zero_add, true_and]; (repeat' with_reducible apply And.intro) <;> (try (with_reducible refine hK _ ?_; clear hK K)))
    | (intro hg; first | (exfalso; simp at hg; done) | ((try simp only [hg, go_sem, ↓reduceIte, reduceCtorEq, Nat.reduceAdd, Nat.reduceSub, Nat.reduceMul, Nat.reducePow, Nat.reduceDiv, Nat.reduceMod, Nat.reduceLT, Nat.reduceLeDiff, Nat.reduceEqDiff, Nat.reduceBEq, Int.reduceToNat, Int.reduceLT, Int.reduceLE, Int.reduceAdd, Int.reduceSub, Int.reduceMul, Int.reducePow, Int.reduceNeg, Int.reduceEq, Int.toNat_natCast, Int.cast_ofNat_Int, Bool.not_eq_true', Bool.not_eq_false', ge_iff_le, gt_iff_lt, ne_eq, not_false_eq_true, not_true_eq_false, Nat.one_ne_zero, beq_self_eq_true, Bool.bne_false, Nat.zero_add, true_and]) <;> (repeat' with_reducible refine And.intro ?_ ?_) <;> (try (with_reducible refine hK _ ?_; clear hK K))))
    | omega
  all_goals try (refine aend_ret ?_ rfl ?_ ?_ ?_ ?_; (focus (first | exact .inl rfl | exact .inr rfl)); (focus (simp only [go_sem, ↓reduceIte, reduceCtorEq, Nat.reduceAdd, Nat.reduceSub, Nat.reduceMul, Nat.reducePow, Nat.reduceDiv, Nat.reduceMod, Nat.reduceLT, Nat.reduceLeDiff, Nat.reduceEqDiff, Nat.reduceBEq, Int.reduceToNat, Int.reduceLT, Int.reduceLE, Int.reduceAdd, Int.reduceSub, Int.reduceMul, Int.reducePow, Int.reduceNeg, Int.reduceEq, Int.toNat_natCast, Int.cast_ofNat_Int, Bool.not_eq_true', Bool.not_eq_false', ge_iff_le, gt_iff_lt, ne_eq, not_false_eq_true, not_true_eq_false, Nat.one_ne_zero, beq_self_eq_true, Bool.bne_false, Nat.zero_add, two]; first | done | omega)); (focus (simp only [go_sem, ↓reduceIte, reduceCtorEq, Nat.reduceAdd, Nat.reduceSub, Nat.reduceMul, Nat.reducePow, Nat.reduceDiv, Nat.reduceMod, Nat.reduceLT, Nat.reduceLeDiff, Nat.reduceEqDiff, Nat.reduceBEq, Int.reduceToNat, Int.reduceLT, Int.reduceLE, Int.reduceAdd, Int.reduceSub, Int.reduceMul, Int.reducePow, Int.reduceNeg, Int.reduceEq, Int.toNat_natCast, Int.cast_ofNat_Int, Bool.not_eq_true', Bool.not_eq_false', ge_iff_le, gt_iff_lt, ne_eq, not_false_eq_true, not_true_eq_false, Nat.one_ne_zero, beq_self_eq_true, Bool.bne_false, Nat.zero_add, two]; done)); (focus (simp only [go_sem, ↓reduceIte, reduceCtorEq, Nat.reduceAdd, Nat.reduceSub, Nat.reduceMul, Nat.reducePow, Nat.reduceDiv, Nat.reduceMod, Nat.reduceLT, Nat.reduceLeDiff, Nat.reduceEqDiff, Nat.reduceBEq, Int.reduceToNat, Int.reduceLT, Int.reduceLE, Int.reduceAdd, Int.reduceSub, Int.reduceMul, Int.reducePow, Int.reduceNeg, Int.reduceEq, Int.toNat_natCast, Int.cast_ofNat_Int, Bool.not_eq_true', Bool.not_eq_false', ge_iff_le, gt_iff_lt, ne_eq, not_false_eq_true, not_true_eq_false, Nat.one_ne_zero, beq_self_eq_true, Bool.bne_false, Nat.zero_add, two]; done)); simp only [go_sem, ↓reduceIte, reduceCtorEq, Nat.reduceAdd, Nat.reduceSub, Nat.reduceMul, Nat.reducePow, Nat.reduceDiv, Nat.reduceMod, Nat.reduceLT, Nat.reduceLeDiff, Nat.reduceEqDiff, Nat.reduceBEq, Int.reduceToNat, Int.reduceLT, Int.reduceLE, Int.reduceAdd, Int.reduceSub, Int.reduceMul, Int.reducePow, Int.reduceNeg, Int.reduceEq, Int.toNat_natCast, Int.cast_ofNat_Int, Bool.not_eq_true', Bool.not_eq_false', ge_iff_le, gt_iff_lt, ne_eq, not_false_eq_true, not_true_eq_false, Nat.one_ne_zero, beq_self_eq_true, Bool.bne_false, Nat.zero_add, two, I, B, S, AV.d.injEq, DV.int.injEq, DV.bool.injEq, DV.str.injEq, DV.sl.injEq, AV.tup.injEq, AV.agg.injEq, List.cons.injEq, and_true, true_and, and_self])
  unfold goodZ; exact (Bool.decide_and _ _).symm
theorem ref_zgood_c (z : Int) (hz : okI z) : acall Tryz.prog [] 129 [I z] (ret (B (decide (goodZ z)))) := by
  refine zi tabOk Tryz.func129 rfl (by kernel_rfl) (by simp [Tryz.ntmps129]) ?_; simp only [Tryz.ntmps129, Tryz.results129, List.toList_toArray, apar, List.length_nil, List.length_cons, Nat.reduceAdd]
  repeat' first
    | with_reducible refine AWP.seq ?_
    | with_reducible refine thenA_n ?_
    | with_reducible refine thenA_r ?_
    | with_reducible refine thenA_e ?_
    | with_reducible refine blkA_n ?_
    | with_reducible refine blkA_r ?_
    | with_reducible refine blkA_e ?_
    | with_reducible refine zb (by decide) ?_
    | with_reducible refine AWP.skip ?_
    | with_reducible refine AWP.ret ?_
    | with_reducible refine AWP.exit ?_
    | with_reducible refine AWP.block ?_
    | (with_reducible refine AWP.cond rfl ?_ ?_ <;> intro _)
    | (with_reducible refine AWP.region tabOk ?_; intro K hK; simp only [go_sem, ↓reduceIte, reduceCtorEq, Nat.reduceAdd, Nat.reduceSub, Nat.reduceMul, Nat.reducePow, Nat.reduceDiv, Nat.reduceMod, Nat.reduceLT, Nat.reduceLeDiff, Nat.reduceEqDiff, Nat.reduceBEq, Int.reduceToNat, Int.reduceLT, Int.reduceLE, Int.reduceAdd, Int.reduceSub, Int.reduceMul, Int.reducePow, Int.reduceNeg, Int.reduceEq, Int.toNat_natCast, Int.cast_ofNat_Int, Bool.not_eq_true', Bool.not_eq_false', ge_iff_le, gt_iff_lt, ne_eq, not_false_eq_true, not_true_eq_false, Nat.one_ne_zero, beq_self_eq_true, Bool.bne_false, Nat.zero_add, true_and]; (repeat' with_reducible apply And.intro) <;> (try (with_reducible refine hK _ ?_; clear hK K)))
    | (with_reducible refine AWP.quiet mixed tabOk (by kernel_rfl) ?_; intro K hK; simp only [go_sem, ↓reduceIte, reduceCtorEq, Nat.reduceAdd, Nat.reduceSub, Nat.reduceMul, Nat.reducePow, Nat.reduceDiv, Nat.reduceMod, Nat.reduceLT, Nat.reduceLeDiff, Nat.reduceEqDiff, Nat.reduceBEq, Int.reduceToNat, Int.reduceLT, Int.reduceLE, Int.reduceAdd, Int.reduceSub, Int.reduceMul, Int.reducePow, Int.reduceNeg, Int.reduceEq, Int.toNat_natCast, Int.cast_ofNat_Int, Bool.not_eq_true', Bool.not_eq_false', ge_iff_le, gt_iff_lt, ne_eq, not_false_eq_true, not_true_eq_false, Nat.one_ne_zero, beq_self_eq_true, Bool.bne_false, Nat.zero_add, true_and]; (repeat' with_reducible apply And.intro) <;> (try (with_reducible refine hK _ ?_; clear hK K)))
    | (intro hg; first | (exfalso; simp at hg; done) | ((try simp only [hg, go_sem, ↓reduceIte, reduceCtorEq, Nat.reduceAdd, Nat.reduceSub, Nat.reduceMul, Nat.reducePow, Nat.reduceDiv, Nat.reduceMod, Nat.reduceLT, Nat.reduceLeDiff, Nat.reduceEqDiff, Nat.reduceBEq, Int.reduceToNat, Int.reduceLT, Int.reduceLE, Int.reduceAdd, Int.reduceSub, Int.reduceMul, Int.reducePow, Int.reduceNeg, Int.reduceEq, Int.toNat_natCast, Int.cast_ofNat_Int, Bool.not_eq_true', Bool.not_eq_false', ge_iff_le, gt_iff_lt, ne_eq, not_false_eq_true, not_true_eq_false, Nat.one_ne_zero, beq_self_eq_true, Bool.bne_false, Nat.zero_add, true_and]) <;> (repeat' with_reducible refine And.intro ?_ ?_) <;> (try (with_reducible refine hK _ ?_; clear hK K))))
    | omega
  all_goals try (refine aend_ret ?_ rfl ?_ ?_ ?_ ?_; (focus (first | exact .inl rfl | exact .inr rfl)); (focus (simp only [go_sem, ↓reduceIte, reduceCtorEq, Nat.reduceAdd, Nat.reduceSub, Nat.reduceMul, Nat.reducePow, Nat.reduceDiv, Nat.reduceMod, Nat.reduceLT, Nat.reduceLeDiff, Nat.reduceEqDiff, Nat.reduceBEq, Int.reduceToNat, Int.reduceLT, Int.reduceLE, Int.reduceAdd, Int.reduceSub, Int.reduceMul, Int.reducePow, Int.reduceNeg, Int.reduceEq, Int.toNat_natCast, Int.cast_ofNat_Int, Bool.not_eq_true', Bool.not_eq_false', ge_iff_le, gt_iff_lt, ne_eq, not_false_eq_true, not_true_eq_false, Nat.one_ne_zero, beq_self_eq_true, Bool.bne_false, Nat.zero_add, true_and]; first | done | omega)); (focus (simp only [go_sem, ↓reduceIte, reduceCtorEq, Nat.reduceAdd, Nat.reduceSub, Nat.reduceMul, Nat.reducePow, Nat.reduceDiv, Nat.reduceMod, Nat.reduceLT, Nat.reduceLeDiff, Nat.reduceEqDiff, Nat.reduceBEq, Int.reduceToNat, Int.reduceLT, Int.reduceLE, Int.reduceAdd, Int.reduceSub, Int.reduceMul, Int.reducePow, Int.reduceNeg, Int.reduceEq, Int.toNat_natCast, Int.cast_ofNat_Int, Bool.not_eq_true', Bool.not_eq_false', ge_iff_le, gt_iff_lt, ne_eq, not_false_eq_true, not_true_eq_false, Nat.one_ne_zero, beq_self_eq_true, Bool.bne_false, Nat.zero_add, true_and]; done)); (focus (simp only [go_sem, ↓reduceIte, reduceCtorEq, Nat.reduceAdd, Nat.reduceSub, Nat.reduceMul, Nat.reducePow, Nat.reduceDiv, Nat.reduceMod, Nat.reduceLT, Nat.reduceLeDiff, Nat.reduceEqDiff, Nat.reduceBEq, Int.reduceToNat, Int.reduceLT, Int.reduceLE, Int.reduceAdd, Int.reduceSub, Int.reduceMul, Int.reducePow, Int.reduceNeg, Int.reduceEq, Int.toNat_natCast, Int.cast_ofNat_Int, Bool.not_eq_true', Bool.not_eq_false', ge_iff_le, gt_iff_lt, ne_eq, not_false_eq_true, not_true_eq_false, Nat.one_ne_zero, beq_self_eq_true, Bool.bne_false, Nat.zero_add, true_and]; done)); simp only [go_sem, ↓reduceIte, reduceCtorEq, Nat.reduceAdd, Nat.reduceSub, Nat.reduceMul, Nat.reducePow, Nat.reduceDiv, Nat.reduceMod, Nat.reduceLT, Nat.reduceLeDiff, Nat.reduceEqDiff, Nat.reduceBEq, Int.reduceToNat, Int.reduceLT, Int.reduceLE, Int.reduceAdd, Int.reduceSub, Int.reduceMul, Int.reducePow, Int.reduceNeg, Int.reduceEq, Int.toNat_natCast, Int.cast_ofNat_Int, Bool.not_eq_true', Bool.not_eq_false', ge_iff_le, gt_iff_lt, ne_eq, not_false_eq_true, not_true_eq_false, Nat.one_ne_zero, beq_self_eq_true, Bool.bne_false, Nat.zero_add, true_and, I, B, S, AV.d.injEq, DV.int.injEq, DV.bool.injEq, DV.str.injEq, DV.sl.injEq, AV.tup.injEq, AV.agg.injEq, List.cons.injEq, and_true, true_and, and_self])
  have e : ∀ h : 0 ≤ z, z.tdiv 2147483648 = z / 2147483648 := fun h => Int.tdiv_eq_ediv_of_nonneg h
  rw [Bool.eq_iff_iff]
  simp only [Bool.and_eq_true, decide_eq_true_eq]
  unfold goodZ
  constructor
  · intro ⟨h, h2⟩
    have e := e h
    rw [wrap_in _ ⟨by omega, by omega⟩] at h2
    omega
  · intro ⟨h, h2⟩
    have e := e h
    refine ⟨h, ?_⟩
    rw [wrap_in _ ⟨by omega, by omega⟩]
    omega
theorem epoch_c (z : Int) : acall Tryz.prog [] 77 [I z] (ret (I (epZ z))) := by
  refine zi tabOk Tryz.func77 rfl (by kernel_rfl) (by simp [Tryz.ntmps77]) ?_; simp only [Tryz.ntmps77, Tryz.results77, List.toList_toArray, apar, List.length_nil, List.length_cons, Nat.reduceAdd]
  repeat' first
    | with_reducible refine AWP.seq ?_
    | with_reducible refine thenA_n ?_
    | with_reducible refine thenA_r ?_
    | with_reducible refine thenA_e ?_
    | with_reducible refine blkA_n ?_
    | with_reducible refine blkA_r ?_
    | with_reducible refine blkA_e ?_
    | with_reducible refine zb (by decide) ?_
    | with_reducible refine AWP.skip ?_
    | with_reducible refine AWP.ret ?_
    | with_reducible refine AWP.exit ?_
    | with_reducible refine AWP.block ?_
    | (with_reducible refine AWP.cond rfl ?_ ?_ <;> intro _)
    | (with_reducible refine AWP.region tabOk ?_; intro K hK; simp only [go_sem, ↓reduceIte, reduceCtorEq, Nat.reduceAdd, Nat.reduceSub, Nat.reduceMul, Nat.reducePow, Nat.reduceDiv, Nat.reduceMod, Nat.reduceLT, Nat.reduceLeDiff, Nat.reduceEqDiff, Nat.reduceBEq, Int.reduceToNat, Int.reduceLT, Int.reduceLE, Int.reduceAdd, Int.reduceSub, Int.reduceMul, Int.reducePow, Int.reduceNeg, Int.reduceEq, Int.toNat_natCast, Int.cast_ofNat_Int, Bool.not_eq_true', Bool.not_eq_false', ge_iff_le, gt_iff_lt, ne_eq, not_false_eq_true, not_true_eq_false, Nat.one_ne_zero, beq_self_eq_true, Bool.bne_false, Nat.zero_add, true_and]; (repeat' with_reducible apply And.intro) <;> (try (with_reducible refine hK _ ?_; clear hK K)))
    | (with_reducible refine AWP.quiet mixed tabOk (by kernel_rfl) ?_; intro K hK; simp only [go_sem, ↓reduceIte, reduceCtorEq, Nat.reduceAdd, Nat.reduceSub, Nat.reduceMul, Nat.reducePow, Nat.reduceDiv, Nat.reduceMod, Nat.reduceLT, Nat.reduceLeDiff, Nat.reduceEqDiff, Nat.reduceBEq, Int.reduceToNat, Int.reduceLT, Int.reduceLE, Int.reduceAdd, Int.reduceSub, Int.reduceMul, Int.reducePow, Int.reduceNeg, Int.reduceEq, Int.toNat_natCast, Int.cast_ofNat_Int, Bool.not_eq_true', Bool.not_eq_false', ge_iff_le, gt_iff_lt, ne_eq, not_false_eq_true, not_true_eq_false, Nat.one_ne_zero, beq_self_eq_true, Bool.bne_false, Nat.zero_add, true_and]; (repeat' with_reducible apply And.intro) <;> (try (with_reducible refine hK _ ?_; clear hK K)))
    | (refine acallH_sc (zgood_c _) rfl rfl (by simp only [go_sem, ↓reduceIte, reduceCtorEq, Nat.reduceAdd, Nat.reduceSub, Nat.reduceMul, Nat.reducePow, Nat.reduceDiv, Nat.reduceMod, Nat.reduceLT, Nat.reduceLeDiff, Nat.reduceEqDiff, Nat.reduceBEq, Int.reduceToNat, Int.reduceLT, Int.reduceLE, Int.reduceAdd, Int.reduceSub, Int.reduceMul, Int.reducePow, Int.reduceNeg, Int.reduceEq, Int.toNat_natCast, Int.cast_ofNat_Int, Bool.not_eq_true', Bool.not_eq_false', ge_iff_le, gt_iff_lt, ne_eq, not_false_eq_true, not_true_eq_false, Nat.one_ne_zero, beq_self_eq_true, Bool.bne_false, Nat.zero_add, true_and]) (by simp only [go_sem, ↓reduceIte, reduceCtorEq, Nat.reduceAdd, Nat.reduceSub, Nat.reduceMul, Nat.reducePow, Nat.reduceDiv, Nat.reduceMod, Nat.reduceLT, Nat.reduceLeDiff, Nat.reduceEqDiff, Nat.reduceBEq, Int.reduceToNat, Int.reduceLT, Int.reduceLE, Int.reduceAdd, Int.reduceSub, Int.reduceMul, Int.reducePow, Int.reduceNeg, Int.reduceEq, Int.toNat_natCast, Int.cast_ofNat_Int, Bool.not_eq_true', Bool.not_eq_false', ge_iff_le, gt_iff_lt, ne_eq, not_false_eq_true, not_true_eq_false, Nat.one_ne_zero, beq_self_eq_true, Bool.bne_false, Nat.zero_add, true_and]) ?_ <;> (try simp only [go_sem, ↓reduceIte, reduceCtorEq, Nat.reduceAdd, Nat.reduceSub, Nat.reduceMul, Nat.reducePow, Nat.reduceDiv, Nat.reduceMod, Nat.reduceLT, Nat.reduceLeDiff, Nat.reduceEqDiff, Nat.reduceBEq, Int.reduceToNat, Int.reduceLT, Int.reduceLE, Int.reduceAdd, Int.reduceSub, Int.reduceMul, Int.reducePow, Int.reduceNeg, Int.reduceEq, Int.toNat_natCast, Int.cast_ofNat_Int, Bool.not_eq_true', Bool.not_eq_false', ge_iff_le, gt_iff_lt, ne_eq, not_false_eq_true, not_true_eq_false, Nat.one_ne_zero, beq_self_eq_true, Bool.bne_false, Nat.zero_add, true_and]) <;> (repeat' with_reducible refine And.intro ?_ ?_) <;> (try (with_reducible refine hK _ ?_; clear hK K)))
    | (refine acallQ_sc (zgood_c _) rfl rfl (by simp only [go_sem, ↓reduceIte, reduceCtorEq, Nat.reduceAdd, Nat.reduceSub, Nat.reduceMul, Nat.reducePow, Nat.reduceDiv, Nat.reduceMod, Nat.reduceLT, Nat.reduceLeDiff, Nat.reduceEqDiff, Nat.reduceBEq, Int.reduceToNat, Int.reduceLT, Int.reduceLE, Int.reduceAdd, Int.reduceSub, Int.reduceMul, Int.reducePow, Int.reduceNeg, Int.reduceEq, Int.toNat_natCast, Int.cast_ofNat_Int, Bool.not_eq_true', Bool.not_eq_false', ge_iff_le, gt_iff_lt, ne_eq, not_false_eq_true, not_true_eq_false, Nat.one_ne_zero, beq_self_eq_true, Bool.bne_false, Nat.zero_add, true_and]) (by simp only [go_sem, ↓reduceIte, reduceCtorEq, Nat.reduceAdd, Nat.reduceSub, Nat.reduceMul, Nat.reducePow, Nat.reduceDiv, Nat.reduceMod, Nat.reduceLT, Nat.reduceLeDiff, Nat.reduceEqDiff, Nat.reduceBEq, Int.reduceToNat, Int.reduceLT, Int.reduceLE, Int.reduceAdd, Int.reduceSub, Int.reduceMul, Int.reducePow, Int.reduceNeg, Int.reduceEq, Int.toNat_natCast, Int.cast_ofNat_Int, Bool.not_eq_true', Bool.not_eq_false', ge_iff_le, gt_iff_lt, ne_eq, not_false_eq_true, not_true_eq_false, Nat.one_ne_zero, beq_self_eq_true, Bool.bne_false, Nat.zero_add, true_and]) ?_ <;> (try simp only [go_sem, ↓reduceIte, reduceCtorEq, Nat.reduceAdd, Nat.reduceSub, Nat.reduceMul, Nat.reducePow, Nat.reduceDiv, Nat.reduceMod, Nat.reduceLT, Nat.reduceLeDiff, Nat.reduceEqDiff, Nat.reduceBEq, Int.reduceToNat, Int.reduceLT, Int.reduceLE, Int.reduceAdd, Int.reduceSub, Int.reduceMul, Int.reducePow, Int.reduceNeg, Int.reduceEq, Int.toNat_natCast, Int.cast_ofNat_Int, Bool.not_eq_true', Bool.not_eq_false', ge_iff_le, gt_iff_lt, ne_eq, not_false_eq_true, not_true_eq_false, Nat.one_ne_zero, beq_self_eq_true, Bool.bne_false, Nat.zero_add, true_and]) <;> (repeat' with_reducible refine And.intro ?_ ?_) <;> (try (with_reducible refine hK _ ?_; clear hK K)))
    | (refine acallH_rt (zgood_c _) rfl (by simp only [go_sem, ↓reduceIte, reduceCtorEq, Nat.reduceAdd, Nat.reduceSub, Nat.reduceMul, Nat.reducePow, Nat.reduceDiv, Nat.reduceMod, Nat.reduceLT, Nat.reduceLeDiff, Nat.reduceEqDiff, Nat.reduceBEq, Int.reduceToNat, Int.reduceLT, Int.reduceLE, Int.reduceAdd, Int.reduceSub, Int.reduceMul, Int.reducePow, Int.reduceNeg, Int.reduceEq, Int.toNat_natCast, Int.cast_ofNat_Int, Bool.not_eq_true', Bool.not_eq_false', ge_iff_le, gt_iff_lt, ne_eq, not_false_eq_true, not_true_eq_false, Nat.one_ne_zero, beq_self_eq_true, Bool.bne_false, Nat.zero_add, true_and]) (by simp only [go_sem, ↓reduceIte, reduceCtorEq, Nat.reduceAdd, Nat.reduceSub, Nat.reduceMul, Nat.reducePow, Nat.reduceDiv, Nat.reduceMod, Nat.reduceLT, Nat.reduceLeDiff, Nat.reduceEqDiff, Nat.reduceBEq, Int.reduceToNat, Int.reduceLT, Int.reduceLE, Int.reduceAdd, Int.reduceSub, Int.reduceMul, Int.reducePow, Int.reduceNeg, Int.reduceEq, Int.toNat_natCast, Int.cast_ofNat_Int, Bool.not_eq_true', Bool.not_eq_false', ge_iff_le, gt_iff_lt, ne_eq, not_false_eq_true, not_true_eq_false, Nat.one_ne_zero, beq_self_eq_true, Bool.bne_false, Nat.zero_add, true_and]) (by simp only [go_sem, ↓reduceIte, reduceCtorEq, Nat.reduceAdd, Nat.reduceSub, Nat.reduceMul, Nat.reducePow, Nat.reduceDiv, Nat.reduceMod, Nat.reduceLT, Nat.reduceLeDiff, Nat.reduceEqDiff, Nat.reduceBEq, Int.reduceToNat, Int.reduceLT, Int.reduceLE, Int.reduceAdd, Int.reduceSub, Int.reduceMul, Int.reducePow, Int.reduceNeg, Int.reduceEq, Int.toNat_natCast, Int.cast_ofNat_Int, Bool.not_eq_true', Bool.not_eq_false', ge_iff_le, gt_iff_lt, ne_eq, not_false_eq_true, not_true_eq_false, Nat.one_ne_zero, beq_self_eq_true, Bool.bne_false, Nat.zero_add, true_and]) ?_ <;> (try simp only [go_sem, ↓reduceIte, reduceCtorEq, Nat.reduceAdd, Nat.reduceSub, Nat.reduceMul, Nat.reducePow, Nat.reduceDiv, Nat.reduceMod, Nat.reduceLT, Nat.reduceLeDiff, Nat.reduceEqDiff, Nat.reduceBEq, Int.reduceToNat, Int.reduceLT, Int.reduceLE, Int.reduceAdd, Int.reduceSub, Int.reduceMul, Int.reducePow, Int.reduceNeg, Int.reduceEq, Int.toNat_natCast, Int.cast_ofNat_Int, Bool.not_eq_true', Bool.not_eq_false', ge_iff_le, gt_iff_lt, ne_eq, not_false_eq_true, not_true_eq_false, Nat.one_ne_zero, beq_self_eq_true, Bool.bne_false, Nat.zero_add, true_and]) <;> (repeat' with_reducible refine And.intro ?_ ?_) <;> (try (with_reducible refine hK _ ?_; clear hK K)))
    | (intro hg; first | (exfalso; simp at hg; done) | ((try simp only [hg, go_sem, ↓reduceIte, reduceCtorEq, Nat.reduceAdd, Nat.reduceSub, Nat.reduceMul, Nat.reducePow, Nat.reduceDiv, Nat.reduceMod, Nat.reduceLT, Nat.reduceLeDiff, Nat.reduceEqDiff, Nat.reduceBEq, Int.reduceToNat, Int.reduceLT, Int.reduceLE, Int.reduceAdd, Int.reduceSub, Int.reduceMul, Int.reducePow, Int.reduceNeg, Int.reduceEq, Int.toNat_natCast, Int.cast_ofNat_Int, Bool.not_eq_true', Bool.not_eq_false', ge_iff_le, gt_iff_lt, ne_eq, not_false_eq_true, not_true_eq_false, Nat.one_ne_zero, beq_self_eq_true, Bool.bne_false, Nat.zero_add, true_and]) <;> (repeat' with_reducible refine And.intro ?_ ?_) <;> (try (with_reducible refine hK _ ?_; clear hK K))))
    | omega
  all_goals try (refine aend_ret ?_ rfl ?_ ?_ ?_ ?_; (focus (first | exact .inl rfl | exact .inr rfl)); (focus (simp only [go_sem, ↓reduceIte, reduceCtorEq, Nat.reduceAdd, Nat.reduceSub, Nat.reduceMul, Nat.reducePow, Nat.reduceDiv, Nat.reduceMod, Nat.reduceLT, Nat.reduceLeDiff, Nat.reduceEqDiff, Nat.reduceBEq, Int.reduceToNat, Int.reduceLT, Int.reduceLE, Int.reduceAdd, Int.reduceSub, Int.reduceMul, Int.reducePow, Int.reduceNeg, Int.reduceEq, Int.toNat_natCast, Int.cast_ofNat_Int, Bool.not_eq_true', Bool.not_eq_false', ge_iff_le, gt_iff_lt, ne_eq, not_false_eq_true, not_true_eq_false, Nat.one_ne_zero, beq_self_eq_true, Bool.bne_false, Nat.zero_add, true_and]; first | done | omega)); (focus (simp only [go_sem, ↓reduceIte, reduceCtorEq, Nat.reduceAdd, Nat.reduceSub, Nat.reduceMul, Nat.reducePow, Nat.reduceDiv, Nat.reduceMod, Nat.reduceLT, Nat.reduceLeDiff, Nat.reduceEqDiff, Nat.reduceBEq, Int.reduceToNat, Int.reduceLT, Int.reduceLE, Int.reduceAdd, Int.reduceSub, Int.reduceMul, Int.reducePow, Int.reduceNeg, Int.reduceEq, Int.toNat_natCast, Int.cast_ofNat_Int, Bool.not_eq_true', Bool.not_eq_false', ge_iff_le, gt_iff_lt, ne_eq, not_false_eq_true, not_true_eq_false, Nat.one_ne_zero, beq_self_eq_true, Bool.bne_false, Nat.zero_add, true_and]; done)); (focus (simp only [go_sem, ↓reduceIte, reduceCtorEq, Nat.reduceAdd, Nat.reduceSub, Nat.reduceMul, Nat.reducePow, Nat.reduceDiv, Nat.reduceMod, Nat.reduceLT, Nat.reduceLeDiff, Nat.reduceEqDiff, Nat.reduceBEq, Int.reduceToNat, Int.reduceLT, Int.reduceLE, Int.reduceAdd, Int.reduceSub, Int.reduceMul, Int.reducePow, Int.reduceNeg, Int.reduceEq, Int.toNat_natCast, Int.cast_ofNat_Int, Bool.not_eq_true', Bool.not_eq_false', ge_iff_le, gt_iff_lt, ne_eq, not_false_eq_true, not_true_eq_false, Nat.one_ne_zero, beq_self_eq_true, Bool.bne_false, Nat.zero_add, true_and]; done)); simp only [go_sem, ↓reduceIte, reduceCtorEq, Nat.reduceAdd, Nat.reduceSub, Nat.reduceMul, Nat.reducePow, Nat.reduceDiv, Nat.reduceMod, Nat.reduceLT, Nat.reduceLeDiff, Nat.reduceEqDiff, Nat.reduceBEq, Int.reduceToNat, Int.reduceLT, Int.reduceLE, Int.reduceAdd, Int.reduceSub, Int.reduceMul, Int.reducePow, Int.reduceNeg, Int.reduceEq, Int.toNat_natCast, Int.cast_ofNat_Int, Bool.not_eq_true', Bool.not_eq_false', ge_iff_le, gt_iff_lt, ne_eq, not_false_eq_true, not_true_eq_false, Nat.one_ne_zero, beq_self_eq_true, Bool.bne_false, Nat.zero_add, true_and, I, B, S, AV.d.injEq, DV.int.injEq, DV.bool.injEq, DV.str.injEq, DV.sl.injEq, AV.tup.injEq, AV.agg.injEq, List.cons.injEq, and_true, true_and, and_self])
  all_goals (rename_i h; simp at h; simp [epZ, h])
theorem and_mask (z : Int) (h : goodZ z) : bits .and .i64 z 2147483647 = z % 2147483648 := by
  unfold goodZ at h
  obtain ⟨n, rfl⟩ := Int.eq_ofNat_of_zero_le h.1
  show IntKind.i64.wrap ((BitVec.ofInt 64 (n : Int) &&& BitVec.ofInt 64 ((2147483647 : Nat) : Int)).toNat : Int) = _
  rw [BitVec.toNat_and, ofInt_i64 _ (by omega), ofInt_i64 _ (by omega), show (2147483647 : Nat) = 2 ^ 31 - 1 from rfl, Nat.and_two_pow_sub_one_eq_mod, IntKind.wrap_i64]
  omega
theorem count_c (z : Int) : acall Tryz.prog [] 122 [I z] (ret (I (coZ z))) := by
  refine zi tabOk Tryz.func122 rfl (by kernel_rfl) (by simp [Tryz.ntmps122]) ?_; simp only [Tryz.ntmps122, Tryz.results122, List.toList_toArray, apar, List.length_nil, List.length_cons, Nat.reduceAdd]
  repeat' first
    | with_reducible refine AWP.seq ?_
    | with_reducible refine thenA_n ?_
    | with_reducible refine thenA_r ?_
    | with_reducible refine thenA_e ?_
    | with_reducible refine blkA_n ?_
    | with_reducible refine blkA_r ?_
    | with_reducible refine blkA_e ?_
    | with_reducible refine zb (by decide) ?_
    | with_reducible refine AWP.skip ?_
    | with_reducible refine AWP.ret ?_
    | with_reducible refine AWP.exit ?_
    | with_reducible refine AWP.block ?_
    | (with_reducible refine AWP.cond rfl ?_ ?_ <;> intro _)
    | (with_reducible refine AWP.region tabOk ?_; intro K hK; simp only [go_sem, ↓reduceIte, reduceCtorEq, Nat.reduceAdd, Nat.reduceSub, Nat.reduceMul, Nat.reducePow, Nat.reduceDiv, Nat.reduceMod, Nat.reduceLT, Nat.reduceLeDiff, Nat.reduceEqDiff, Nat.reduceBEq, Int.reduceToNat, Int.reduceLT, Int.reduceLE, Int.reduceAdd, Int.reduceSub, Int.reduceMul, Int.reducePow, Int.reduceNeg, Int.reduceEq, Int.toNat_natCast, Int.cast_ofNat_Int, Bool.not_eq_true', Bool.not_eq_false', ge_iff_le, gt_iff_lt, ne_eq, not_false_eq_true, not_true_eq_false, Nat.one_ne_zero, beq_self_eq_true, Bool.bne_false, Nat.zero_add, true_and]; (repeat' with_reducible apply And.intro) <;> (try (with_reducible refine hK _ ?_; clear hK K)))
    | (with_reducible refine AWP.quiet mixed tabOk (by kernel_rfl) ?_; intro K hK; simp only [go_sem, ↓reduceIte, reduceCtorEq, Nat.reduceAdd, Nat.reduceSub, Nat.reduceMul, Nat.reducePow, Nat.reduceDiv, Nat.reduceMod, Nat.reduceLT, Nat.reduceLeDiff, Nat.reduceEqDiff, Nat.reduceBEq, Int.reduceToNat, Int.reduceLT, Int.reduceLE, Int.reduceAdd, Int.reduceSub, Int.reduceMul, Int.reducePow, Int.reduceNeg, Int.reduceEq, Int.toNat_natCast, Int.cast_ofNat_Int, Bool.not_eq_true', Bool.not_eq_false', ge_iff_le, gt_iff_lt, ne_eq, not_false_eq_true, not_true_eq_false, Nat.one_ne_zero, beq_self_eq_true, Bool.bne_false, Nat.zero_add, true_and]; (repeat' with_reducible apply And.intro) <;> (try (with_reducible refine hK _ ?_; clear hK K)))
    | (refine acallH_sc (zgood_c _) rfl rfl (by simp only [go_sem, ↓reduceIte, reduceCtorEq, Nat.reduceAdd, Nat.reduceSub, Nat.reduceMul, Nat.reducePow, Nat.reduceDiv, Nat.reduceMod, Nat.reduceLT, Nat.reduceLeDiff, Nat.reduceEqDiff, Nat.reduceBEq, Int.reduceToNat, Int.reduceLT, Int.reduceLE, Int.reduceAdd, Int.reduceSub, Int.reduceMul, Int.reducePow, Int.reduceNeg, Int.reduceEq, Int.toNat_natCast, Int.cast_ofNat_Int, Bool.not_eq_true', Bool.not_eq_false', ge_iff_le, gt_iff_lt, ne_eq, not_false_eq_true, not_true_eq_false, Nat.one_ne_zero, beq_self_eq_true, Bool.bne_false, Nat.zero_add, true_and]) (by simp only [go_sem, ↓reduceIte, reduceCtorEq, Nat.reduceAdd, Nat.reduceSub, Nat.reduceMul, Nat.reducePow, Nat.reduceDiv, Nat.reduceMod, Nat.reduceLT, Nat.reduceLeDiff, Nat.reduceEqDiff, Nat.reduceBEq, Int.reduceToNat, Int.reduceLT, Int.reduceLE, Int.reduceAdd, Int.reduceSub, Int.reduceMul, Int.reducePow, Int.reduceNeg, Int.reduceEq, Int.toNat_natCast, Int.cast_ofNat_Int, Bool.not_eq_true', Bool.not_eq_false', ge_iff_le, gt_iff_lt, ne_eq, not_false_eq_true, not_true_eq_false, Nat.one_ne_zero, beq_self_eq_true, Bool.bne_false, Nat.zero_add, true_and]) ?_ <;> (try simp only [go_sem, ↓reduceIte, reduceCtorEq, Nat.reduceAdd, Nat.reduceSub, Nat.reduceMul, Nat.reducePow, Nat.reduceDiv, Nat.reduceMod, Nat.reduceLT, Nat.reduceLeDiff, Nat.reduceEqDiff, Nat.reduceBEq, Int.reduceToNat, Int.reduceLT, Int.reduceLE, Int.reduceAdd, Int.reduceSub, Int.reduceMul, Int.reducePow, Int.reduceNeg, Int.reduceEq, Int.toNat_natCast, Int.cast_ofNat_Int, Bool.not_eq_true', Bool.not_eq_false', ge_iff_le, gt_iff_lt, ne_eq, not_false_eq_true, not_true_eq_false, Nat.one_ne_zero, beq_self_eq_true, Bool.bne_false, Nat.zero_add, true_and]) <;> (repeat' with_reducible refine And.intro ?_ ?_) <;> (try (with_reducible refine hK _ ?_; clear hK K)))
    | (refine acallQ_sc (zgood_c _) rfl rfl (by simp only [go_sem, ↓reduceIte, reduceCtorEq, Nat.reduceAdd, Nat.reduceSub, Nat.reduceMul, Nat.reducePow, Nat.reduceDiv, Nat.reduceMod, Nat.reduceLT, Nat.reduceLeDiff, Nat.reduceEqDiff, Nat.reduceBEq, Int.reduceToNat, Int.reduceLT, Int.reduceLE, Int.reduceAdd, Int.reduceSub, Int.reduceMul, Int.reducePow, Int.reduceNeg, Int.reduceEq, Int.toNat_natCast, Int.cast_ofNat_Int, Bool.not_eq_true', Bool.not_eq_false', ge_iff_le, gt_iff_lt, ne_eq, not_false_eq_true, not_true_eq_false, Nat.one_ne_zero, beq_self_eq_true, Bool.bne_false, Nat.zero_add, true_and]) (by simp only [go_sem, ↓reduceIte, reduceCtorEq, Nat.reduceAdd, Nat.reduceSub, Nat.reduceMul, Nat.reducePow, Nat.reduceDiv, Nat.reduceMod, Nat.reduceLT, Nat.reduceLeDiff, Nat.reduceEqDiff, Nat.reduceBEq, Int.reduceToNat, Int.reduceLT, Int.reduceLE, Int.reduceAdd, Int.reduceSub, Int.reduceMul, Int.reducePow, Int.reduceNeg, Int.reduceEq, Int.toNat_natCast, Int.cast_ofNat_Int, Bool.not_eq_true', Bool.not_eq_false', ge_iff_le, gt_iff_lt, ne_eq, not_false_eq_true, not_true_eq_false, Nat.one_ne_zero, beq_self_eq_true, Bool.bne_false, Nat.zero_add, true_and]) ?_ <;> (try simp only [go_sem, ↓reduceIte, reduceCtorEq, Nat.reduceAdd, Nat.reduceSub, Nat.reduceMul, Nat.reducePow, Nat.reduceDiv, Nat.reduceMod, Nat.reduceLT, Nat.reduceLeDiff, Nat.reduceEqDiff, Nat.reduceBEq, Int.reduceToNat, Int.reduceLT, Int.reduceLE, Int.reduceAdd, Int.reduceSub, Int.reduceMul, Int.reducePow, Int.reduceNeg, Int.reduceEq, Int.toNat_natCast, Int.cast_ofNat_Int, Bool.not_eq_true', Bool.not_eq_false', ge_iff_le, gt_iff_lt, ne_eq, not_false_eq_true, not_true_eq_false, Nat.one_ne_zero, beq_self_eq_true, Bool.bne_false, Nat.zero_add, true_and]) <;> (repeat' with_reducible refine And.intro ?_ ?_) <;> (try (with_reducible refine hK _ ?_; clear hK K)))
    | (refine acallH_rt (zgood_c _) rfl (by simp only [go_sem, ↓reduceIte, reduceCtorEq, Nat.reduceAdd, Nat.reduceSub, Nat.reduceMul, Nat.reducePow, Nat.reduceDiv, Nat.reduceMod, Nat.reduceLT, Nat.reduceLeDiff, Nat.reduceEqDiff, Nat.reduceBEq, Int.reduceToNat, Int.reduceLT, Int.reduceLE, Int.reduceAdd, Int.reduceSub, Int.reduceMul, Int.reducePow, Int.reduceNeg, Int.reduceEq, Int.toNat_natCast, Int.cast_ofNat_Int, Bool.not_eq_true', Bool.not_eq_false', ge_iff_le, gt_iff_lt, ne_eq, not_false_eq_true, not_true_eq_false, Nat.one_ne_zero, beq_self_eq_true, Bool.bne_false, Nat.zero_add, true_and]) (by simp only [go_sem, ↓reduceIte, reduceCtorEq, Nat.reduceAdd, Nat.reduceSub, Nat.reduceMul, Nat.reducePow, Nat.reduceDiv, Nat.reduceMod, Nat.reduceLT, Nat.reduceLeDiff, Nat.reduceEqDiff, Nat.reduceBEq, Int.reduceToNat, Int.reduceLT, Int.reduceLE, Int.reduceAdd, Int.reduceSub, Int.reduceMul, Int.reducePow, Int.reduceNeg, Int.reduceEq, Int.toNat_natCast, Int.cast_ofNat_Int, Bool.not_eq_true', Bool.not_eq_false', ge_iff_le, gt_iff_lt, ne_eq, not_false_eq_true, not_true_eq_false, Nat.one_ne_zero, beq_self_eq_true, Bool.bne_false, Nat.zero_add, true_and]) (by simp only [go_sem, ↓reduceIte, reduceCtorEq, Nat.reduceAdd, Nat.reduceSub, Nat.reduceMul, Nat.reducePow, Nat.reduceDiv, Nat.reduceMod, Nat.reduceLT, Nat.reduceLeDiff, Nat.reduceEqDiff, Nat.reduceBEq, Int.reduceToNat, Int.reduceLT, Int.reduceLE, Int.reduceAdd, Int.reduceSub, Int.reduceMul, Int.reducePow, Int.reduceNeg, Int.reduceEq, Int.toNat_natCast, Int.cast_ofNat_Int, Bool.not_eq_true', Bool.not_eq_false', ge_iff_le, gt_iff_lt, ne_eq, not_false_eq_true, not_true_eq_false, Nat.one_ne_zero, beq_self_eq_true, Bool.bne_false, Nat.zero_add, true_and]) ?_ <;> (try simp only [go_sem, ↓reduceIte, reduceCtorEq, Nat.reduceAdd, Nat.reduceSub, Nat.reduceMul, Nat.reducePow, Nat.reduceDiv, Nat.reduceMod, Nat.reduceLT, Nat.reduceLeDiff, Nat.reduceEqDiff, Nat.reduceBEq, Int.reduceToNat, Int.reduceLT, Int.reduceLE, Int.reduceAdd, Int.reduceSub, Int.reduceMul, Int.reducePow, Int.reduceNeg, Int.reduceEq, Int.toNat_natCast, Int.cast_ofNat_Int, Bool.not_eq_true', Bool.not_eq_false', ge_iff_le, gt_iff_lt, ne_eq, not_false_eq_true, not_true_eq_false, Nat.one_ne_zero, beq_self_eq_true, Bool.bne_false, Nat.zero_add, true_and]) <;> (repeat' with_reducible refine And.intro ?_ ?_) <;> (try (with_reducible refine hK _ ?_; clear hK K)))
    | (intro hg; first | (exfalso; simp at hg; done) | ((try simp only [hg, go_sem, ↓reduceIte, reduceCtorEq, Nat.reduceAdd, Nat.reduceSub, Nat.reduceMul, Nat.reducePow, Nat.reduceDiv, Nat.reduceMod, Nat.reduceLT, Nat.reduceLeDiff, Nat.reduceEqDiff, Nat.reduceBEq, Int.reduceToNat, Int.reduceLT, Int.reduceLE, Int.reduceAdd, Int.reduceSub, Int.reduceMul, Int.reducePow, Int.reduceNeg, Int.reduceEq, Int.toNat_natCast, Int.cast_ofNat_Int, Bool.not_eq_true', Bool.not_eq_false', ge_iff_le, gt_iff_lt, ne_eq, not_false_eq_true, not_true_eq_false, Nat.one_ne_zero, beq_self_eq_true, Bool.bne_false, Nat.zero_add, true_and]) <;> (repeat' with_reducible refine And.intro ?_ ?_) <;> (try (with_reducible refine hK _ ?_; clear hK K))))
    | omega
  all_goals try (refine aend_ret ?_ rfl ?_ ?_ ?_ ?_; (focus (first | exact .inl rfl | exact .inr rfl)); (focus (simp only [go_sem, ↓reduceIte, reduceCtorEq, Nat.reduceAdd, Nat.reduceSub, Nat.reduceMul, Nat.reducePow, Nat.reduceDiv, Nat.reduceMod, Nat.reduceLT, Nat.reduceLeDiff, Nat.reduceEqDiff, Nat.reduceBEq, Int.reduceToNat, Int.reduceLT, Int.reduceLE, Int.reduceAdd, Int.reduceSub, Int.reduceMul, Int.reducePow, Int.reduceNeg, Int.reduceEq, Int.toNat_natCast, Int.cast_ofNat_Int, Bool.not_eq_true', Bool.not_eq_false', ge_iff_le, gt_iff_lt, ne_eq, not_false_eq_true, not_true_eq_false, Nat.one_ne_zero, beq_self_eq_true, Bool.bne_false, Nat.zero_add, true_and]; first | done | omega)); (focus (simp only [go_sem, ↓reduceIte, reduceCtorEq, Nat.reduceAdd, Nat.reduceSub, Nat.reduceMul, Nat.reducePow, Nat.reduceDiv, Nat.reduceMod, Nat.reduceLT, Nat.reduceLeDiff, Nat.reduceEqDiff, Nat.reduceBEq, Int.reduceToNat, Int.reduceLT, Int.reduceLE, Int.reduceAdd, Int.reduceSub, Int.reduceMul, Int.reducePow, Int.reduceNeg, Int.reduceEq, Int.toNat_natCast, Int.cast_ofNat_Int, Bool.not_eq_true', Bool.not_eq_false', ge_iff_le, gt_iff_lt, ne_eq, not_false_eq_true, not_true_eq_false, Nat.one_ne_zero, beq_self_eq_true, Bool.bne_false, Nat.zero_add, true_and]; done)); (focus (simp only [go_sem, ↓reduceIte, reduceCtorEq, Nat.reduceAdd, Nat.reduceSub, Nat.reduceMul, Nat.reducePow, Nat.reduceDiv, Nat.reduceMod, Nat.reduceLT, Nat.reduceLeDiff, Nat.reduceEqDiff, Nat.reduceBEq, Int.reduceToNat, Int.reduceLT, Int.reduceLE, Int.reduceAdd, Int.reduceSub, Int.reduceMul, Int.reducePow, Int.reduceNeg, Int.reduceEq, Int.toNat_natCast, Int.cast_ofNat_Int, Bool.not_eq_true', Bool.not_eq_false', ge_iff_le, gt_iff_lt, ne_eq, not_false_eq_true, not_true_eq_false, Nat.one_ne_zero, beq_self_eq_true, Bool.bne_false, Nat.zero_add, true_and]; done)); simp only [go_sem, ↓reduceIte, reduceCtorEq, Nat.reduceAdd, Nat.reduceSub, Nat.reduceMul, Nat.reducePow, Nat.reduceDiv, Nat.reduceMod, Nat.reduceLT, Nat.reduceLeDiff, Nat.reduceEqDiff, Nat.reduceBEq, Int.reduceToNat, Int.reduceLT, Int.reduceLE, Int.reduceAdd, Int.reduceSub, Int.reduceMul, Int.reducePow, Int.reduceNeg, Int.reduceEq, Int.toNat_natCast, Int.cast_ofNat_Int, Bool.not_eq_true', Bool.not_eq_false', ge_iff_le, gt_iff_lt, ne_eq, not_false_eq_true, not_true_eq_false, Nat.one_ne_zero, beq_self_eq_true, Bool.bne_false, Nat.zero_add, true_and, I, B, S, AV.d.injEq, DV.int.injEq, DV.bool.injEq, DV.str.injEq, DV.sl.injEq, AV.tup.injEq, AV.agg.injEq, List.cons.injEq, and_true, true_and, and_self])
  · rename_i h; simp at h; simp [coZ, h]
  · rename_i h; simp at h; simp [coZ, h, and_mask]
end Go.Proofs.YtainmipdnjcbkaaGreatDoor
namespace Go.Proofs.YtainmipdnjcbkaaGreatDoor
set_option linter.unusedVariables false
set_option linter.unusedSimpArgs false
open Go Go.RowKit
set_option maxRecDepth 100000
def numsB (t : ATxn) : Bool := decide (goodZ t.zxid) && (decide (1 ≤ t.session ∧ t.session ≤ 2147483647) && (decide (0 ≤ t.version ∧ t.version ≤ 2147483647) && decide (0 ≤ t.owner ∧ t.owner ≤ 2147483647)))
def badT (t : ATxn) : Bool :=
  if t.op ≤ 2 then !decide (t.path = []) || (!decide (t.data = []) || (!decide (t.version = 0) || !decide (t.owner = 0)))
  else if t.op = 3 then !goodP t.path || (decide (t.path = [47]) || !decide (t.version = 0))
  else if t.op = 4 then !goodP t.path || (decide (t.path = [47]) || (!decide (t.data = []) || (!decide (t.version = 0) || !decide (t.owner = 0))))
  else !goodP t.path || !decide (t.owner = 0)
def goodT (t : ATxn) : Int := if t.op < 1 ∨ 5 < t.op then 4 else if numsB t = false then 3 else if 256 < t.data.length then 1 else if badT t = true then 2 else 0
theorem goodT_op {t : ATxn} (h : t.op < 1 ∨ 5 < t.op) : goodT t = 4 := by unfold goodT; rw [if_pos h]
theorem goodT_num {t : ATxn} (h : 1 ≤ t.op ∧ t.op ≤ 5) (h2 : ¬ numsB t = true) : goodT t = 3 := by unfold goodT; rw [if_neg (by omega), if_pos (eq_false_of_ne_true h2)]
theorem goodT_long {t : ATxn} (h : 1 ≤ t.op ∧ t.op ≤ 5) (h2 : numsB t = true) (h3 : 256 < t.data.length) : goodT t = 1 := by unfold goodT; rw [if_neg (by omega), if_neg (by rw [h2]; decide), if_pos h3]
theorem goodT_ok {t : ATxn} (h : 1 ≤ t.op ∧ t.op ≤ 5) (h2 : numsB t = true) (h3 : t.data.length ≤ 256) : goodT t = if badT t = true then 2 else 0 := by unfold goodT; rw [if_neg (by omega), if_neg (by rw [h2]; decide), if_neg (by omega)]
theorem numsB_iff (t : ATxn) : numsB t = true ↔ goodZ t.zxid ∧ (1 ≤ t.session ∧ t.session ≤ 2147483647) ∧ (0 ≤ t.version ∧ t.version ≤ 2147483647) ∧ (0 ≤ t.owner ∧ t.owner ≤ 2147483647) := by
  unfold numsB; simp only [Bool.and_eq_true, decide_eq_true_eq]
theorem wbad {t : ATxn} (h : 1 ≤ t.op ∧ t.op ≤ 5) : badT t = true ↔ ((t.op ≤ 2 ∧ (((¬t.path = [] ∨ ¬t.data = []) ∨ ¬t.version = 0) ∨ ¬t.owner = 0)) ∨ (3 ≤ t.op ∧ (goodP t.path = false ∨ t.path = [47] ∧ ¬t.op = 5)) ∨ ((t.op = 4 ∧ ((¬t.data = [] ∨ ¬t.version = 0) ∨ ¬t.owner = 0) ∨ t.op = 3 ∧ ¬t.version = 0) ∨ t.op = 5 ∧ ¬t.owner = 0)) := by
  have hop : t.op = 1 ∨ t.op = 2 ∨ t.op = 3 ∨ t.op = 4 ∨ t.op = 5 := by omega
  rcases hop with e | e | e | e | e <;> simp [badT, e, or_assoc]
theorem wgood_c (t : ATxn) (hp : okS t.path) (hd : okS t.data) : acall Tryz.prog [] 166 [t.av] (ret (I (goodT t))) := by
  unfold okS at hd
  refine zI Tryz.func166 rfl (by kernel_rfl) (by simp [Tryz.ntmps166]) ?_; simp only [Tryz.ntmps166, Tryz.results166, go_sem]
  (repeat' first
| (with_reducible refine AR.f ?_)
| refine zb (by decide) ?_
| (with_reducible refine AWP.cond rfl ?_ ?_ <;> intro hc <;> (try simp only [hcs, beq_iff_eq, ge_iff_le, gt_iff_lt] at hc))
| ((first | ((first | (with_reducible first | refine zR ?_ | refine zQ (by decide +kernel) ?_ | refine zD (by decide +kernel) ?_ | refine zE (by decide +kernel) ?_ | refine zG (by decide +kernel) ?_)); intro K hK) | ((first | refine zA (good_c t.path hp) ?_ ?_ ?_ ?_ ?_); (focus exact rfl); (focus exact rfl); iterate 2 (focus ((try simp (disch := omega) only [go_sem, wn]) <;> (try omega) <;> fail))) | ((first | refine acallH_sc (zgood_c _) rfl rfl ?_ ?_ ?_ | refine acallQ_sc (zgood_c _) rfl rfl ?_ ?_ ?_); iterate 2 (focus ((try simp (disch := omega) only [go_sem, wn]) <;> (try omega) <;> fail))) | ((first | refine zX (zgood_c _) rfl ?_ ?_ | refine zX (good_c t.path hp) rfl ?_ ?_); (focus ((try simp (disch := omega) only [go_sem, wn]) <;> (try omega) <;> fail))) | ((first | (with_reducible refine zu ?_ ?_ <;> intro hg) | with_reducible intro hg) <;> (first | (exfalso; simp at hg; done) | (have hg' := hg; (try simp only [hcs, beq_iff_eq, ge_iff_le, gt_iff_lt] at hg'); (try simp only [hg]))))) <;> (try simp (disch := omega) only [go_sem, wn]) <;> (repeat' with_reducible refine And.intro ?_ ?_) <;> (try (with_reducible refine hK _ ?_; clear hK K)))
| omega)
  · rw [goodT_op hc]; (refine zF rfl ?_ ?_ ?_ ?_; (iterate 3 (focus ((try simp (disch := omega) only [go_sem, wn]) <;> (try omega) <;> fail))); (try simp (disch := omega) only [go_sem, wn, I, B, S, zj]))
  all_goals (have hop : 1 ≤ t.op ∧ t.op ≤ 5 := by assumption)
  · rw [goodT_num hop]
    · (refine zF rfl ?_ ?_ ?_ ?_; (iterate 3 (focus ((try simp (disch := omega) only [go_sem, wn]) <;> (try omega) <;> fail))); (try simp (disch := omega) only [go_sem, wn, I, B, S, zj]))
    rw [numsB_iff]; rintro ⟨h1, h2⟩
    rcases hc with (((((c | c) | c) | c) | c) | c) | c
    · exact c h1
    all_goals omega
  all_goals (have hn : (((((goodZ t.zxid ∧ 1 ≤ t.session) ∧ t.session ≤ 2147483647) ∧ 0 ≤ t.version) ∧ t.version ≤ 2147483647) ∧ 0 ≤ t.owner) ∧ t.owner ≤ 2147483647 := by assumption)
  all_goals (have hnb : numsB t = true := (numsB_iff t).2 ⟨hn.1.1.1.1.1.1, by omega, by omega, by omega⟩)
  · rw [goodT_long hop hnb (by omega)]; (refine zF rfl ?_ ?_ ?_ ?_; (iterate 3 (focus ((try simp (disch := omega) only [go_sem, wn]) <;> (try omega) <;> fail))); (try simp (disch := omega) only [go_sem, wn, I, B, S, zj]))
  all_goals rw [goodT_ok hop hnb (by omega)]
  · rw [if_pos ((wbad hop).2 (.inl hc))]; (refine zF rfl ?_ ?_ ?_ ?_; (iterate 3 (focus ((try simp (disch := omega) only [go_sem, wn]) <;> (try omega) <;> fail))); (try simp (disch := omega) only [go_sem, wn, I, B, S, zj]))
  · rw [if_pos ((wbad hop).2 (.inr (.inl ⟨by simpa using hg, hc⟩)))]; (refine zF rfl ?_ ?_ ?_ ?_; (iterate 3 (focus ((try simp (disch := omega) only [go_sem, wn]) <;> (try omega) <;> fail))); (try simp (disch := omega) only [go_sem, wn, I, B, S, zj]))
  · rw [if_pos ((wbad hop).2 (.inr (.inr hc)))]; (refine zF rfl ?_ ?_ ?_ ?_; (iterate 3 (focus ((try simp (disch := omega) only [go_sem, wn]) <;> (try omega) <;> fail))); (try simp (disch := omega) only [go_sem, wn, I, B, S, zj]))
  all_goals (rw [if_neg (fun hb => by
    have hb := (wbad hop).1 hb
    have hop : t.op = 1 ∨ t.op = 2 ∨ t.op = 3 ∨ t.op = 4 ∨ t.op = 5 := by omega
    rcases hop with e | e | e | e | e <;> simp_all)]; (refine zF rfl ?_ ?_ ?_ ?_; (iterate 3 (focus ((try simp (disch := omega) only [go_sem, wn]) <;> (try omega) <;> fail))); (try simp (disch := omega) only [go_sem, wn, I, B, S, zj])))
theorem in_c (n lo : Int) : acall Tryz.prog [] 240 [I n, I lo] (ret (B (decide (lo ≤ n ∧ n < 2147483648)))) := by
  refine zI Tryz.func240 rfl (by kernel_rfl) (by simp [Tryz.ntmps240]) ?_; simp only [Tryz.ntmps240, Tryz.results240, go_sem]
  (repeat' first
| (with_reducible refine AR.f ?_)
| refine zb (by decide) ?_
| (with_reducible refine AWP.cond rfl ?_ ?_ <;> intro hc <;> (try simp only [hcs, beq_iff_eq, ge_iff_le, gt_iff_lt] at hc))
| ((first | ((first | (with_reducible first | refine zR ?_ | refine zQ (by decide +kernel) ?_ | refine zD (by decide +kernel) ?_ | refine zE (by decide +kernel) ?_ | refine zG (by decide +kernel) ?_)); intro K hK) | ((first | (with_reducible refine zu ?_ ?_ <;> intro hg) | with_reducible intro hg) <;> (first | (exfalso; simp at hg; done) | (have hg' := hg; (try simp only [hcs, beq_iff_eq, ge_iff_le, gt_iff_lt] at hg'); (try simp only [hg]))))) <;> (try simp (disch := omega) only [go_sem, wn]) <;> (repeat' with_reducible refine And.intro ?_ ?_) <;> (try (with_reducible refine hK _ ?_; clear hK K)))
| omega)
  all_goals (refine zF rfl ?_ ?_ ?_ ?_; (iterate 3 (focus ((try simp (disch := omega) only [go_sem, wn]) <;> (try omega) <;> fail))); (try simp (disch := omega) only [go_sem, wn, I, B, S, zj]))
  all_goals simp
set_option maxHeartbeats 2000000 in
theorem ref_wgood_c (t : ATxn) (hz : okI t.zxid) (hp : t.path.length ≤ 1048576) (hd : okS t.data) : acall Tryz.prog [] 197 [t.av] (ret (I (goodT t))) := by
  unfold okS at hd
  by_cases hop : t.op < 1 ∨ 5 < t.op
  · rw [goodT_op hop]
    refine zI Tryz.func197 rfl (by kernel_rfl) (by simp [Tryz.ntmps197]) ?_; simp only [Tryz.ntmps197, Tryz.results197, go_sem]
    (repeat' first
  | (with_reducible refine AR.f ?_)
  | refine zb (by decide) ?_
  | (with_reducible refine AWP.cond rfl ?_ ?_ <;> intro hc <;> (try simp only [hcs, beq_iff_eq, ge_iff_le, gt_iff_lt] at hc))
  | ((first | ((first | (with_reducible first | refine zR ?_ | refine zQ (by decide +kernel) ?_ | refine zD (by decide +kernel) ?_ | refine zE (by decide +kernel) ?_ | refine zG (by decide +kernel) ?_)); intro K hK) | ((first | (with_reducible refine zu ?_ ?_ <;> intro hg) | with_reducible intro hg) <;> (first | (exfalso; simp at hg; done) | (have hg' := hg; (try simp only [hcs, beq_iff_eq, ge_iff_le, gt_iff_lt] at hg'); (try simp only [hg]))))) <;> (try simp (disch := omega) only [go_sem, wn]) <;> (repeat' with_reducible refine And.intro ?_ ?_) <;> (try (with_reducible refine hK _ ?_; clear hK K)))
  | omega)
    all_goals first | omega | skip
    all_goals (refine zF rfl ?_ ?_ ?_ ?_; (iterate 3 (focus ((try simp (disch := omega) only [go_sem, wn]) <;> (try omega) <;> fail))); (try simp (disch := omega) only [go_sem, wn, I, B, S, zj]))
  have hop' : 1 ≤ t.op ∧ t.op ≤ 5 := by omega
  by_cases h1 : goodZ t.zxid
  case neg =>
    rw [goodT_num hop' (fun h => h1 ((numsB_iff t).1 h).1)]
    refine zI Tryz.func197 rfl (by kernel_rfl) (by simp [Tryz.ntmps197]) ?_; simp only [Tryz.ntmps197, Tryz.results197, go_sem]
    (repeat' first
  | (with_reducible refine AR.f ?_)
  | refine zb (by decide) ?_
  | (with_reducible refine AWP.cond rfl ?_ ?_ <;> intro hc <;> (try simp only [hcs, beq_iff_eq, ge_iff_le, gt_iff_lt] at hc))
  | ((first | ((first | (with_reducible first | refine zR ?_ | refine zQ (by decide +kernel) ?_ | refine zD (by decide +kernel) ?_ | refine zE (by decide +kernel) ?_ | refine zG (by decide +kernel) ?_)); intro K hK) | ((first | refine acallH_sc ((ref_zgood_c _ hz).re (congrArg B (decide_eq_false h1))) rfl rfl ?_ ?_ ?_ | refine acallQ_sc ((ref_zgood_c _ hz).re (congrArg B (decide_eq_false h1))) rfl rfl ?_ ?_ ?_); iterate 2 (focus ((try simp (disch := omega) only [go_sem, wn]) <;> (try omega) <;> fail))) | ((first | refine zX ((ref_zgood_c _ hz).re (congrArg B (decide_eq_false h1))) rfl ?_ ?_); (focus ((try simp (disch := omega) only [go_sem, wn]) <;> (try omega) <;> fail))) | ((first | (with_reducible refine zu ?_ ?_ <;> intro hg) | with_reducible intro hg) <;> (first | (exfalso; simp at hg; done) | (have hg' := hg; (try simp only [hcs, beq_iff_eq, ge_iff_le, gt_iff_lt] at hg'); (try simp only [hg]))))) <;> (try simp (disch := omega) only [go_sem, wn]) <;> (repeat' with_reducible refine And.intro ?_ ?_) <;> (try (with_reducible refine hK _ ?_; clear hK K)))
  | omega)
    all_goals first | omega | skip
    all_goals (refine zF rfl ?_ ?_ ?_ ?_; (iterate 3 (focus ((try simp (disch := omega) only [go_sem, wn]) <;> (try omega) <;> fail))); (try simp (disch := omega) only [go_sem, wn, I, B, S, zj]))
  by_cases h2 : 1 ≤ t.session ∧ t.session < 2147483648
  case neg =>
    rw [goodT_num hop' (fun h => by have := (numsB_iff t).1 h; omega)]
    refine zI Tryz.func197 rfl (by kernel_rfl) (by simp [Tryz.ntmps197]) ?_; simp only [Tryz.ntmps197, Tryz.results197, go_sem]
    (repeat' first
  | (with_reducible refine AR.f ?_)
  | refine zb (by decide) ?_
  | (with_reducible refine AWP.cond rfl ?_ ?_ <;> intro hc <;> (try simp only [hcs, beq_iff_eq, ge_iff_le, gt_iff_lt] at hc))
  | ((first | ((first | (with_reducible first | refine zR ?_ | refine zQ (by decide +kernel) ?_ | refine zD (by decide +kernel) ?_ | refine zE (by decide +kernel) ?_ | refine zG (by decide +kernel) ?_)); intro K hK) | ((first | refine zA ((in_c t.session 1).re (congrArg B (decide_eq_false h2))) ?_ ?_ ?_ ?_ ?_); (focus exact rfl); (focus exact rfl); iterate 2 (focus ((try simp (disch := omega) only [go_sem, wn]) <;> (try omega) <;> fail))) | ((first | refine acallH_sc ((ref_zgood_c _ hz).re (congrArg B (decide_eq_true h1))) rfl rfl ?_ ?_ ?_ | refine acallQ_sc ((ref_zgood_c _ hz).re (congrArg B (decide_eq_true h1))) rfl rfl ?_ ?_ ?_); iterate 2 (focus ((try simp (disch := omega) only [go_sem, wn]) <;> (try omega) <;> fail))) | ((first | refine zX ((ref_zgood_c _ hz).re (congrArg B (decide_eq_true h1))) rfl ?_ ?_ | refine zX ((in_c t.session 1).re (congrArg B (decide_eq_false h2))) rfl ?_ ?_); (focus ((try simp (disch := omega) only [go_sem, wn]) <;> (try omega) <;> fail))) | ((first | (with_reducible refine zu ?_ ?_ <;> intro hg) | with_reducible intro hg) <;> (first | (exfalso; simp at hg; done) | (have hg' := hg; (try simp only [hcs, beq_iff_eq, ge_iff_le, gt_iff_lt] at hg'); (try simp only [hg]))))) <;> (try simp (disch := omega) only [go_sem, wn]) <;> (repeat' with_reducible refine And.intro ?_ ?_) <;> (try (with_reducible refine hK _ ?_; clear hK K)))
  | omega)
    all_goals first | omega | skip
    all_goals (refine zF rfl ?_ ?_ ?_ ?_; (iterate 3 (focus ((try simp (disch := omega) only [go_sem, wn]) <;> (try omega) <;> fail))); (try simp (disch := omega) only [go_sem, wn, I, B, S, zj]))
  by_cases h3 : 0 ≤ t.version ∧ t.version < 2147483648
  case neg =>
    rw [goodT_num hop' (fun h => by have := (numsB_iff t).1 h; omega)]
    refine zI Tryz.func197 rfl (by kernel_rfl) (by simp [Tryz.ntmps197]) ?_; simp only [Tryz.ntmps197, Tryz.results197, go_sem]
    (repeat' first
  | (with_reducible refine AR.f ?_)
  | refine zb (by decide) ?_
  | (with_reducible refine AWP.cond rfl ?_ ?_ <;> intro hc <;> (try simp only [hcs, beq_iff_eq, ge_iff_le, gt_iff_lt] at hc))
  | ((first | ((first | (with_reducible first | refine zR ?_ | refine zQ (by decide +kernel) ?_ | refine zD (by decide +kernel) ?_ | refine zE (by decide +kernel) ?_ | refine zG (by decide +kernel) ?_)); intro K hK) | ((first | refine zA ((in_c t.session 1).re (congrArg B (decide_eq_true h2))) ?_ ?_ ?_ ?_ ?_ | refine zA ((in_c t.version 0).re (congrArg B (decide_eq_false h3))) ?_ ?_ ?_ ?_ ?_); (focus exact rfl); (focus exact rfl); iterate 2 (focus ((try simp (disch := omega) only [go_sem, wn]) <;> (try omega) <;> fail))) | ((first | refine acallH_sc ((ref_zgood_c _ hz).re (congrArg B (decide_eq_true h1))) rfl rfl ?_ ?_ ?_ | refine acallQ_sc ((ref_zgood_c _ hz).re (congrArg B (decide_eq_true h1))) rfl rfl ?_ ?_ ?_); iterate 2 (focus ((try simp (disch := omega) only [go_sem, wn]) <;> (try omega) <;> fail))) | ((first | refine zX ((ref_zgood_c _ hz).re (congrArg B (decide_eq_true h1))) rfl ?_ ?_); (focus ((try simp (disch := omega) only [go_sem, wn]) <;> (try omega) <;> fail))) | ((first | refine zX ((in_c t.session 1).re (congrArg B (decide_eq_true h2))) rfl ?_ ?_); (focus ((try simp (disch := omega) only [go_sem, wn]) <;> (try omega) <;> fail))) | ((first | refine zX ((in_c t.version 0).re (congrArg B (decide_eq_false h3))) rfl ?_ ?_); (focus ((try simp (disch := omega) only [go_sem, wn]) <;> (try omega) <;> fail))) | ((first | (with_reducible refine zu ?_ ?_ <;> intro hg) | with_reducible intro hg) <;> (first | (exfalso; simp at hg; done) | (have hg' := hg; (try simp only [hcs, beq_iff_eq, ge_iff_le, gt_iff_lt] at hg'); (try simp only [hg]))))) <;> (try simp (disch := omega) only [go_sem, wn]) <;> (repeat' with_reducible refine And.intro ?_ ?_) <;> (try (with_reducible refine hK _ ?_; clear hK K)))
  | omega)
    all_goals first | omega | skip
    all_goals (refine zF rfl ?_ ?_ ?_ ?_; (iterate 3 (focus ((try simp (disch := omega) only [go_sem, wn]) <;> (try omega) <;> fail))); (try simp (disch := omega) only [go_sem, wn, I, B, S, zj]))
  by_cases h4 : 0 ≤ t.owner ∧ t.owner < 2147483648
  case neg =>
    rw [goodT_num hop' (fun h => by have := (numsB_iff t).1 h; omega)]
    refine zI Tryz.func197 rfl (by kernel_rfl) (by simp [Tryz.ntmps197]) ?_; simp only [Tryz.ntmps197, Tryz.results197, go_sem]
    (repeat' first
  | (with_reducible refine AR.f ?_)
  | refine zb (by decide) ?_
  | (with_reducible refine AWP.cond rfl ?_ ?_ <;> intro hc <;> (try simp only [hcs, beq_iff_eq, ge_iff_le, gt_iff_lt] at hc))
  | ((first | ((first | (with_reducible first | refine zR ?_ | refine zQ (by decide +kernel) ?_ | refine zD (by decide +kernel) ?_ | refine zE (by decide +kernel) ?_ | refine zG (by decide +kernel) ?_)); intro K hK) | ((first | refine zA ((in_c t.session 1).re (congrArg B (decide_eq_true h2))) ?_ ?_ ?_ ?_ ?_ | refine zA ((in_c t.version 0).re (congrArg B (decide_eq_true h3))) ?_ ?_ ?_ ?_ ?_ | refine zA ((in_c t.owner 0).re (congrArg B (decide_eq_false h4))) ?_ ?_ ?_ ?_ ?_); (focus exact rfl); (focus exact rfl); iterate 2 (focus ((try simp (disch := omega) only [go_sem, wn]) <;> (try omega) <;> fail))) | ((first | refine acallH_sc ((ref_zgood_c _ hz).re (congrArg B (decide_eq_true h1))) rfl rfl ?_ ?_ ?_ | refine acallQ_sc ((ref_zgood_c _ hz).re (congrArg B (decide_eq_true h1))) rfl rfl ?_ ?_ ?_); iterate 2 (focus ((try simp (disch := omega) only [go_sem, wn]) <;> (try omega) <;> fail))) | ((first | refine zX ((ref_zgood_c _ hz).re (congrArg B (decide_eq_true h1))) rfl ?_ ?_); (focus ((try simp (disch := omega) only [go_sem, wn]) <;> (try omega) <;> fail))) | ((first | refine zX ((in_c t.session 1).re (congrArg B (decide_eq_true h2))) rfl ?_ ?_); (focus ((try simp (disch := omega) only [go_sem, wn]) <;> (try omega) <;> fail))) | ((first | refine zX ((in_c t.version 0).re (congrArg B (decide_eq_true h3))) rfl ?_ ?_); (focus ((try simp (disch := omega) only [go_sem, wn]) <;> (try omega) <;> fail))) | ((first | refine zX ((in_c t.owner 0).re (congrArg B (decide_eq_false h4))) rfl ?_ ?_); (focus ((try simp (disch := omega) only [go_sem, wn]) <;> (try omega) <;> fail))) | ((first | (with_reducible refine zu ?_ ?_ <;> intro hg) | with_reducible intro hg) <;> (first | (exfalso; simp at hg; done) | (have hg' := hg; (try simp only [hcs, beq_iff_eq, ge_iff_le, gt_iff_lt] at hg'); (try simp only [hg]))))) <;> (try simp (disch := omega) only [go_sem, wn]) <;> (repeat' with_reducible refine And.intro ?_ ?_) <;> (try (with_reducible refine hK _ ?_; clear hK K)))
  | omega)
    all_goals first | omega | skip
    all_goals (refine zF rfl ?_ ?_ ?_ ?_; (iterate 3 (focus ((try simp (disch := omega) only [go_sem, wn]) <;> (try omega) <;> fail))); (try simp (disch := omega) only [go_sem, wn, I, B, S, zj]))
  have hnb : numsB t = true := (numsB_iff t).2 ⟨h1, by omega, by omega, by omega⟩
  by_cases hlen : 256 < t.data.length
  · rw [goodT_long hop' hnb hlen]
    refine zI Tryz.func197 rfl (by kernel_rfl) (by simp [Tryz.ntmps197]) ?_; simp only [Tryz.ntmps197, Tryz.results197, go_sem]
    (repeat' first
  | (with_reducible refine AR.f ?_)
  | refine zb (by decide) ?_
  | (with_reducible refine AWP.cond rfl ?_ ?_ <;> intro hc <;> (try simp only [hcs, beq_iff_eq, ge_iff_le, gt_iff_lt] at hc))
  | ((first | ((first | (with_reducible first | refine zR ?_ | refine zQ (by decide +kernel) ?_ | refine zD (by decide +kernel) ?_ | refine zE (by decide +kernel) ?_ | refine zG (by decide +kernel) ?_)); intro K hK) | ((first | refine zA ((in_c t.session 1).re (congrArg B (decide_eq_true h2))) ?_ ?_ ?_ ?_ ?_ | refine zA ((in_c t.version 0).re (congrArg B (decide_eq_true h3))) ?_ ?_ ?_ ?_ ?_ | refine zA ((in_c t.owner 0).re (congrArg B (decide_eq_true h4))) ?_ ?_ ?_ ?_ ?_); (focus exact rfl); (focus exact rfl); iterate 2 (focus ((try simp (disch := omega) only [go_sem, wn]) <;> (try omega) <;> fail))) | ((first | refine acallH_sc ((ref_zgood_c _ hz).re (congrArg B (decide_eq_true h1))) rfl rfl ?_ ?_ ?_ | refine acallQ_sc ((ref_zgood_c _ hz).re (congrArg B (decide_eq_true h1))) rfl rfl ?_ ?_ ?_); iterate 2 (focus ((try simp (disch := omega) only [go_sem, wn]) <;> (try omega) <;> fail))) | ((first | refine zX ((ref_zgood_c _ hz).re (congrArg B (decide_eq_true h1))) rfl ?_ ?_); (focus ((try simp (disch := omega) only [go_sem, wn]) <;> (try omega) <;> fail))) | ((first | refine zX ((in_c t.session 1).re (congrArg B (decide_eq_true h2))) rfl ?_ ?_); (focus ((try simp (disch := omega) only [go_sem, wn]) <;> (try omega) <;> fail))) | ((first | refine zX ((in_c t.version 0).re (congrArg B (decide_eq_true h3))) rfl ?_ ?_); (focus ((try simp (disch := omega) only [go_sem, wn]) <;> (try omega) <;> fail))) | ((first | refine zX ((in_c t.owner 0).re (congrArg B (decide_eq_true h4))) rfl ?_ ?_); (focus ((try simp (disch := omega) only [go_sem, wn]) <;> (try omega) <;> fail))) | ((first | (with_reducible refine zu ?_ ?_ <;> intro hg) | with_reducible intro hg) <;> (first | (exfalso; simp at hg; done) | (have hg' := hg; (try simp only [hcs, beq_iff_eq, ge_iff_le, gt_iff_lt] at hg'); (try simp only [hg]))))) <;> (try simp (disch := omega) only [go_sem, wn]) <;> (repeat' with_reducible refine And.intro ?_ ?_) <;> (try (with_reducible refine hK _ ?_; clear hK K)))
  | omega)
    all_goals first | omega | skip
    all_goals (refine zF rfl ?_ ?_ ?_ ?_; (iterate 3 (focus ((try simp (disch := omega) only [go_sem, wn]) <;> (try omega) <;> fail))); (try simp (disch := omega) only [go_sem, wn, I, B, S, zj]))
  rw [goodT_ok hop' hnb (by omega)]
  refine zI Tryz.func197 rfl (by kernel_rfl) (by simp [Tryz.ntmps197]) ?_; simp only [Tryz.ntmps197, Tryz.results197, go_sem]
  (repeat' first
| (with_reducible refine AR.f ?_)
| refine zb (by decide) ?_
| (with_reducible refine AWP.cond rfl ?_ ?_ <;> intro hc <;> (try simp only [hcs, beq_iff_eq, ge_iff_le, gt_iff_lt] at hc))
| ((first | ((first | (with_reducible first | refine zR ?_ | refine zQ (by decide +kernel) ?_ | refine zD (by decide +kernel) ?_ | refine zE (by decide +kernel) ?_ | refine zG (by decide +kernel) ?_)); intro K hK) | ((first | refine zA ((in_c t.session 1).re (congrArg B (decide_eq_true h2))) ?_ ?_ ?_ ?_ ?_ | refine zA ((in_c t.version 0).re (congrArg B (decide_eq_true h3))) ?_ ?_ ?_ ?_ ?_ | refine zA ((in_c t.owner 0).re (congrArg B (decide_eq_true h4))) ?_ ?_ ?_ ?_ ?_ | refine zA (ref_good_c t.path hp) ?_ ?_ ?_ ?_ ?_); (focus exact rfl); (focus exact rfl); iterate 2 (focus ((try simp (disch := omega) only [go_sem, wn]) <;> (try omega) <;> fail))) | ((first | refine acallH_sc ((ref_zgood_c _ hz).re (congrArg B (decide_eq_true h1))) rfl rfl ?_ ?_ ?_ | refine acallQ_sc ((ref_zgood_c _ hz).re (congrArg B (decide_eq_true h1))) rfl rfl ?_ ?_ ?_); iterate 2 (focus ((try simp (disch := omega) only [go_sem, wn]) <;> (try omega) <;> fail))) | ((first | refine zX ((ref_zgood_c _ hz).re (congrArg B (decide_eq_true h1))) rfl ?_ ?_ | refine zX (ref_good_c t.path hp) rfl ?_ ?_); (focus ((try simp (disch := omega) only [go_sem, wn]) <;> (try omega) <;> fail))) | ((first | refine zX ((in_c t.session 1).re (congrArg B (decide_eq_true h2))) rfl ?_ ?_); (focus ((try simp (disch := omega) only [go_sem, wn]) <;> (try omega) <;> fail))) | ((first | refine zX ((in_c t.version 0).re (congrArg B (decide_eq_true h3))) rfl ?_ ?_); (focus ((try simp (disch := omega) only [go_sem, wn]) <;> (try omega) <;> fail))) | ((first | refine zX ((in_c t.owner 0).re (congrArg B (decide_eq_true h4))) rfl ?_ ?_); (focus ((try simp (disch := omega) only [go_sem, wn]) <;> (try omega) <;> fail))) | ((first | (with_reducible refine zu ?_ ?_ <;> intro hg) | with_reducible intro hg) <;> (first | (exfalso; simp at hg; done) | (have hg' := hg; (try simp only [hcs, beq_iff_eq, ge_iff_le, gt_iff_lt] at hg'); (try simp only [hg]))))) <;> (try simp (disch := omega) only [go_sem, wn]) <;> (repeat' with_reducible refine And.intro ?_ ?_) <;> (try (with_reducible refine hK _ ?_; clear hK K)))
| omega)
  all_goals first | omega | skip
  all_goals first
    | (rw [if_pos (by simp_all [badT, or_assoc])]; (refine zF rfl ?_ ?_ ?_ ?_; (iterate 3 (focus ((try simp (disch := omega) only [go_sem, wn]) <;> (try omega) <;> fail))); (try simp (disch := omega) only [go_sem, wn, I, B, S, zj])); done)
    | (rw [if_neg (by simp_all [badT, or_assoc])]; (refine zF rfl ?_ ?_ ?_ ?_; (iterate 3 (focus ((try simp (disch := omega) only [go_sem, wn]) <;> (try omega) <;> fail))); (try simp (disch := omega) only [go_sem, wn, I, B, S, zj])); done)
    | trace_state
def t0 : ATxn := ⟨0, 0, 0, [], [], 0, 0⟩
end Go.Proofs.YtainmipdnjcbkaaGreatDoor
