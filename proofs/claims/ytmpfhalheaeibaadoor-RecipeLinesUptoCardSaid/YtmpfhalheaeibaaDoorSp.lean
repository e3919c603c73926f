/- The pieces of a text between slashes, as strings.SplitSeq gives them to a loop; path.Good. No condition. -/
import Derived.RangeFuncNested
import Derived.RangeFuncBound
import Derived.RangeFuncCalls
import Derived.RangeFuncLeaves
import Derived.Shelf.Abstract
import Derived.Shelf.RegionOpen
import Derived.WalkKit
import Derived.OwnWalkIn
import Derived.TacticsInMore
import Derived.LoopNIn
import Derived.LoopIn
import Derived.Test.YtmpfhalheaeibaaDoorIx
import Derived.Test.YtmpfhalheaeibaaDoorPn
namespace Go.Proofs.YtmpfhalheaeibaaDoor
set_option linter.unusedVariables false
set_option linter.unusedSimpArgs false
open Go Go.RowKit Go.Shelf
attribute [local go_sem] Oper.semAt_some
set_option maxRecDepth 100000
set_option linter.unusedSimpArgs false

def lenAt (W : World) (b : Nat) : Nat := match W.cell? ⟨b, 0, none⟩ with
  | some (.string s) => s.size
  | _ => 0
def splitB : List UInt8 → List (List UInt8)
  | [] => [[]]
  | c :: r => if c = 47 then [] :: splitB r else match splitB r with
    | p :: ps => (c :: p) :: ps
    | [] => [[c]]
def allNamed (r : List UInt8) : Bool := (splitB r).all namedP
theorem splitB_ne (r : List UInt8) : splitB r ≠ [] := by
  induction r with
  | nil => simp [splitB]
  | cons c r ih =>
    unfold splitB
    split
    · simp
    · split <;> simp
theorem idx_cases (r : List UInt8) : (Lib.indexByte r 47 = -1 ∧ splitB r = [r]) ∨ ∃ i : Nat, Lib.indexByte r 47 = (i : Int) ∧ i < r.length ∧ splitB r = r.take i :: splitB (r.drop (i + 1)) := by
  induction r with
  | nil => exact .inl ⟨rfl, rfl⟩
  | cons c r ih =>
    by_cases h : c = 47
    · subst h
      exact .inr ⟨0, by simp [Lib.indexByte], by simp, by simp [splitB]⟩
    · rcases ih with ⟨e1, e2⟩ | ⟨i, e1, e2, e3⟩
      · refine .inl ⟨by simp [Lib.indexByte, h, e1], by simp [splitB, h, e2]⟩
      · refine .inr ⟨i + 1, ?_, by simp; omega, by simp [splitB, h, e3]⟩
        simp only [Lib.indexByte, e1]
        rw [if_neg (by simpa using h), if_neg (by simp)]
        omega
theorem index_calls (r : List UInt8) (W : World) (ht : TabsAt W) : Calls Tryd.prog 182 #[mkStr r, mkStr [47]] W fun e W' => e = .returned (.int .i64 (Lib.indexByte r 47)) ∧ Below W.heap.size W W' :=
  calls_of_acall (index1_c r 47) rfl rfl W ht

set_option maxHeartbeats 2000000 in
theorem split1 (n l Bs Bp Bv : Nat) (J : List UInt8 → World → Prop) (Jx : World → Prop)
    (hc : ∀ r W, J r W → W.cell? ⟨Bs, 0, none⟩ = some (mkStr r) ∧ W.frozen? ⟨Bs, 0, none⟩ = false ∧ W.cell? ⟨Bp, 0, none⟩ = some (mkStr [47]) ∧ W.cell? ⟨Bv, 0, none⟩ = some (.int .i64 0))
    (hs : ∀ r r' W, J r W → J r' (W.setCell ⟨Bs, 0, none⟩ (mkStr r'))) (hb : ∀ r W W', J r W → Below W.heap.size W W' → J r W') (ht : ∀ r W, J r W → TabsAt W)
    (hY : ∀ r W p, J r W → p.length ≤ 200 → YieldAt Fence.wide (n - 1) Tryd.prog l #[mkStr p] W (fun e W' => (e = .returned (.bool true) ∧ namedP p = true ∧ J r W') ∨ (e = .returned (.bool false) ∧ namedP p = false ∧ Jx W')))
    (r0 : List UInt8) (hr0 : r0.length ≤ 200) (W : World) (h0 : J r0 W) :
    CallsIn Fence.wide n Tryd.prog 180 #[.func (.yield l) #[] #[], .pointer (some ⟨Bp, 0, none⟩), .pointer (some ⟨Bs, 0, none⟩), .pointer (some ⟨Bv, 0, none⟩)] W fun e W' =>
      (∃ v, e = .returned v) ∧ ((allNamed r0 = true ∧ ∃ r, J r W') ∨ (allNamed r0 = false ∧ Jx W')) := by
  refine callsIn_of_wp Tryd.func180 rfl trivial ?_ rfl
  simp only [Tryd.ntmps180, List.size_toArray, List.length_cons, List.length_nil, Nat.reduceAdd, Nat.reduceSub, Array.replicate_succ, Array.replicate_zero, List.push_toArray, List.append_toArray, List.nil_append, List.cons_append]
  unfold mkStr at hc
  obtain ⟨h1, h2, h3, h4⟩ := hc _ _ h0
  gi_wp2
  gi_loopw [] (fun wr => ∃ r, J r wr ∧ r.length ≤ 200 ∧ allNamed r0 = allNamed r) (fun wr => lenAt wr Bs)
  case atStart => exact ⟨r0, h0, hr0, rfl⟩
  case round =>
    obtain ⟨r, hJ, hrl, hal⟩ := hrel
    obtain ⟨q1, q2, q3, q4⟩ := hc _ _ hJ
    have hm0 : lenAt wr Bs = r.length := by unfold lenAt; rw [q1]; simp [ByteArray.size]
    gi_wp2
    refine ⟨trivial, fun h => by simp [Fence.wide] at h, (callsIn_wide.2 (show Calls _ _ #[.string ⟨r.toArray⟩, .string ⟨#[47]⟩] _ _ from index_calls r wr (ht _ _ hJ))).mono ?_⟩
    rintro e w' ⟨rfl, hbl⟩
    have hJ' := hb _ _ _ hJ hbl
    clear q1 q2 q3 q4
    obtain ⟨q1, q2, q3, q4⟩ := hc _ _ hJ'
    rcases idx_cases r with ⟨ei, es⟩ | ⟨i, ei, hil, es⟩
    · rw [ei]
      have ea : allNamed r = namedP r := by unfold allNamed; rw [es]; simp
      obtain ⟨fn, tmps, assign, body, hy, hR⟩ := hY r w' r hJ' hrl
      unfold mkStr at hy
      gi_wp2
      refine ⟨fun h => by simp [Fence.wide] at h, hR.mono ?_⟩
      rintro e W3 (⟨rfl, hn, hJ3⟩ | ⟨rfl, hn, hJx3⟩)
      · gi_wp2
        go_end0
        exact ⟨⟨_, rfl⟩, .inl ⟨by rw [hal, ea, hn], r, hJ3⟩⟩
      · gi_wp2
        go_end0
        exact ⟨⟨_, rfl⟩, .inr ⟨by rw [hal, ea, hn], hJx3⟩⟩
    · rw [ei]
      have e0 : mkStr (r.take i) = .string ((⟨r.toArray⟩ : ByteArray).extract 0 i) := by unfold mkStr; rw [mk_extract]; simp
      have ea : allNamed r = (namedP (r.take i) && allNamed (r.drop (i + 1))) := by unfold allNamed; rw [es]; simp
      obtain ⟨fn, tmps, assign, body, hy, hR⟩ := hY r w' (r.take i) hJ' (by rw [List.length_take]; omega)
      rw [e0] at hy
      gi_wp2
      refine ⟨fun h => by simp [Fence.wide] at h, hR.mono ?_⟩
      rintro e W3 (⟨rfl, hn, hJ3⟩ | ⟨rfl, hn, hJx3⟩)
      · obtain ⟨t1, t2, t3, t4⟩ := hc _ _ hJ3
        gi_wp2
        have e2 : Value.string ((⟨r.toArray⟩ : ByteArray).extract (i + 1) r.length) = mkStr (r.drop (i + 1)) := by
          unfold mkStr; rw [mk_extract, List.take_of_length_le (by simp)]
        have hJ4 := hs r (r.drop (i + 1)) W3 hJ3
        rw [e2]
        refine ⟨⟨_, hJ4, by rw [List.length_drop]; omega, by rw [hal, ea, hn]; rfl⟩, ?_⟩
        rw [hm0]
        unfold lenAt
        rw [(hc _ _ hJ4).1]
        simp [ByteArray.size]; omega
      · gi_wp2
        refine bodyPost_ret (results_none rfl _ _ _) rfl ?_
        exact ⟨⟨_, rfl⟩, .inr ⟨by rw [hal, ea, hn]; rfl, hJx3⟩⟩

theorem named_calls (p : List UInt8) (h : p.length ≤ 200) (W : World) (ht : TabsAt W) : Calls Tryd.prog 97 #[.string ⟨p.toArray⟩] W fun e W' => e = .returned (.bool (namedP p)) ∧ Below W.heap.size W W' :=
  calls_of_acall (named_c p (by unfold okS; omega)) rfl rfl W ht
theorem prefix_calls (p : List UInt8) (h : okS p) (W : World) (ht : TabsAt W) : Calls Tryd.prog 139 #[.string ⟨p.toArray⟩, .string ⟨#[47]⟩] W fun e W' => e = .returned (.bool (decide (1 ≤ p.length ∧ p.take 1 = [47]))) ∧ Below W.heap.size W W' :=
  calls_of_acall (hasPrefix_c p [47] (by unfold okS; decide) h) rfl rfl W ht
theorem splitSeq_w (s : List UInt8) (w : World) : Calls Tryd.prog 140 #[.string ⟨s.toArray⟩, .string ⟨#[47]⟩] w fun e w' =>
    e = .returned (.func (.func 180) #[] #[.pointer (some ⟨w.heap.size + 1, 0, none⟩), .pointer (some ⟨w.heap.size, 0, none⟩), .pointer (some ⟨w.heap.size + 2, 0, none⟩)]) ∧
      ∃ a b c, w' = ((w.alloc (.cells #[.string ⟨s.toArray⟩] a)).alloc (.cells #[.string ⟨#[47]⟩] b)).alloc (.cells #[.int .i64 0] c) := by
  go_enter Tryd.func140, Tryd.ntmps140
  go_wp2
  go_ret
  exact ⟨rfl, _, _, _, rfl⟩

def goodP (s : List UInt8) : Bool := decide (s = [47]) || (decide (s.length ≤ 200) && (decide (1 ≤ s.length ∧ s.take 1 = [47]) && allNamed (s.drop 1)))

/-- What lies in the world while the loop of path.Good runs, the text 'r' being what is left. -/
structure GJ (w : World) (B : Nat) (rec : Loop) (r : List UInt8) (W : World) : Prop where
  below : Below w.heap.size w W
  res : W.cell? ⟨w.heap.size, 0, none⟩ = some (.bool false)
  resf : W.frozen? ⟨w.heap.size, 0, none⟩ = false
  s : W.cell? ⟨B, 0, none⟩ = some (mkStr r)
  sf : W.frozen? ⟨B, 0, none⟩ = false
  p : W.cell? ⟨B + 1, 0, none⟩ = some (mkStr [47])
  v : W.cell? ⟨B + 2, 0, none⟩ = some (.int .i64 0)
  d : W.heap[B + 3]? = some (.deferred (some []))
  l : W.heap[B + 4]? = some (.loop rec)
theorem cell_other {W : World} {k k' : Nat} {v : Value} (h : k ≠ k') : (W.setCell ⟨k, 0, none⟩ v).cell? ⟨k', 0, none⟩ = W.cell? ⟨k', 0, none⟩ := by
  have : (⟨k, 0, none⟩ : Addr) ≠ ⟨k', 0, none⟩ := fun e => h (by injection e)
  simp [World.cell?_setCell_other, this]
theorem heap_lt {W : World} {k : Nat} {o : Obj} (h : W.heap[k]? = some o) : k < W.heap.size := (Array.getElem?_eq_some_iff.1 h).1
section
variable {w W W' : World} {B : Nat} {rec : Loop} {r : List UInt8}
theorem GJ.write (hB : w.heap.size < B) (h : GJ w B rec r W) (r' : List UInt8) : GJ w B rec r' (W.setCell ⟨B, 0, none⟩ (mkStr r')) :=
  ⟨h.below.setCell (by simp only; omega) _, by rw [cell_other (by omega)]; exact h.res, by rw [World.frozen?_setCell]; exact h.resf, World.cell?_setCell_same' _ _ _ (by rw [h.s]; rfl), by rw [World.frozen?_setCell]; exact h.sf,
    by rw [cell_other (by omega)]; exact h.p, by rw [cell_other (by omega)]; exact h.v, by rw [Below.heap_setCell _ _ _ _ (by simp only; omega)]; exact h.d, by rw [Below.heap_setCell _ _ _ _ (by simp only; omega)]; exact h.l⟩
theorem GJ.mark (hB : w.heap.size < B) (h : GJ w B rec r W) : GJ w B rec r (W.setCell ⟨w.heap.size, 0, none⟩ (.bool false)) :=
  ⟨h.below.setCell (Nat.le_refl _) _, World.cell?_setCell_same' _ _ _ (by rw [h.res]; rfl), by rw [World.frozen?_setCell]; exact h.resf, by rw [cell_other (by omega)]; exact h.s, by rw [World.frozen?_setCell]; exact h.sf,
    by rw [cell_other (by omega)]; exact h.p, by rw [cell_other (by omega)]; exact h.v, by rw [Below.heap_setCell _ _ _ _ (by simp only; omega)]; exact h.d, by rw [Below.heap_setCell _ _ _ _ (by simp only; omega)]; exact h.l⟩
theorem GJ.grow (hB : w.heap.size < B) (h : GJ w B rec r W) (hb : Below W.heap.size W W') : GJ w B rec r W' := by
  have hl := heap_lt h.l
  exact ⟨h.below.trans (hb.mono h.below.size), by rw [hb.cell (by simp only; omega)]; exact h.res, by rw [hb.frozen (by simp only; omega)]; exact h.resf, by rw [hb.cell (by simp only; omega)]; exact h.s, by rw [hb.frozen (by simp only; omega)]; exact h.sf,
    by rw [hb.cell (by simp only; omega)]; exact h.p, by rw [hb.cell (by simp only; omega)]; exact h.v, by rw [hb.block _ (by omega)]; exact h.d, by rw [hb.block _ (by omega)]; exact h.l⟩
theorem GJ.turn (hB : w.heap.size < B) (h : GJ w B rec r W) (rec' : Loop) : GJ w B rec' r (W.putObj (B + 4) (.loop rec')) := by
  have hl := heap_lt h.l
  have hcell : ∀ k, k ≠ B + 4 → (W.putObj (B + 4) (.loop rec')).cell? ⟨k, 0, none⟩ = W.cell? ⟨k, 0, none⟩ := fun k hk => World.cell?_of_block (World.putObj_heap_other hk)
  have hfz : ∀ k, k ≠ B + 4 → (W.putObj (B + 4) (.loop rec')).frozen? ⟨k, 0, none⟩ = W.frozen? ⟨k, 0, none⟩ := fun k hk => World.frozen?_of_block (World.putObj_heap_other hk)
  exact ⟨h.below.trans ⟨rfl, rfl, rfl, by simp, fun k hk => World.putObj_heap_other (by omega)⟩, by rw [hcell _ (by omega)]; exact h.res, by rw [hfz _ (by omega)]; exact h.resf, by rw [hcell _ (by omega)]; exact h.s, by rw [hfz _ (by omega)]; exact h.sf,
    by rw [hcell _ (by omega)]; exact h.p, by rw [hcell _ (by omega)]; exact h.v, by rw [World.putObj_heap_other (by omega)]; exact h.d, World.putObj_heap_same hl⟩
end

/-- A loop over the pieces of a text whose body looks at one piece and goes on or returns. -/
theorem wpIn_split {assign body : Code} {Q : Exit → Act → World → Prop} {tm : Array Value} {pt : Tmp} {g : Operand} {w W0 : World} {B : Nat} (a₁ : Value → Act) (hB : w.heap.size < B) (htw : TabsAt w)
    (hg : Act.eval { tmps := tm, defers := [] } g = .func (.func 180) #[] #[.pointer (some ⟨B + 1, 0, none⟩), .pointer (some ⟨B, 0, none⟩), .pointer (some ⟨B + 2, 0, none⟩)])
    (r0 : List UInt8) (hr0 : r0.length ≤ 200) (hsz : W0.heap.size = B + 3) (hJ0 : ∀ rec, GJ w B rec r0 ((W0.alloc (.deferred (some []))).alloc (.loop rec)))
    (hassign : ∀ (l : Nat) (x : Value) (W : World) (K : Act → World → Prop), K (a₁ x) W → assign.wpIn (Fence.wide.inRound l) 7 Tryd.prog (Exit.then K (fun _ _ _ => False)) { tmps := tm.setIfInBounds pt x, defers := [] } W)
    (hbody : ∀ (l : Nat) (x : List UInt8) (W : World), TabsAt W → x.length ≤ 200 → w.heap.size < W.heap.size → W.cell? ⟨w.heap.size, 0, none⟩ = some (.bool false) → W.frozen? ⟨w.heap.size, 0, none⟩ = false →
      body.wpIn (Fence.wide.inRound l) 7 Tryd.prog (fun e _ W' => (e = .normal ∧ namedP x = true ∧ Below W.heap.size W W') ∨ (e = .ret ∧ namedP x = false ∧ ∃ W2, Below W.heap.size W W2 ∧ W' = W2.setCell ⟨w.heap.size, 0, none⟩ (.bool false))) (a₁ (mkStr x)) W)
    (hdone : ∀ (W : World) (rec : Loop) (r : List UInt8), allNamed r0 = true → GJ w B rec r W → Q .normal { tmps := tm, defers := [{ target := .collected (B + 3), args := #[] }] } W)
    (hstop : ∀ (W : World) (rec : Loop) (r : List UInt8), allNamed r0 = false → GJ w B rec r W → Code.ret.wpIn Fence.wide 9 Tryd.prog Q { tmps := tm, defers := [{ target := .collected (B + 3), args := #[] }] } W) :
    (Code.rangeFunc g #[pt] assign body).wpIn Fence.wide 9 Tryd.prog Q { tmps := tm, defers := [] } W0 := by
  refine wpIn_rangeFunc ?_
  intro fn hfn
  obtain ⟨rec, hrec⟩ : ∃ rec : LoopState → Option Code → Loop, rec = fun st pe => { state := st, pending := pe, fn := fn, tmps := tm, params := #[pt], assign := assign, body := body, defers := B + 3 } := ⟨_, rfl⟩
  have hr : ∀ st pe, rec st pe = { state := st, pending := pe, fn := fn, tmps := tm, params := #[pt], assign := assign, body := body, defers := B + 3 } := fun st pe => by rw [hrec]
  have hJ := hJ0 (rec .ready none)
  obtain ⟨W1, hW1⟩ : ∃ W1, (W0.alloc (.deferred (some []))).alloc (.loop (rec .ready none)) = W1 := ⟨_, rfl⟩
  rw [hW1] at hJ
  refine ⟨B + 4, [{ target := .collected (B + 3), args := #[] }], W1,
    { target := .fn (.func 180) #[.pointer (some ⟨B + 1, 0, none⟩), .pointer (some ⟨B, 0, none⟩), .pointer (some ⟨B + 2, 0, none⟩)], args := #[.func (.yield (B + 4)) #[] #[]] }, W1, 180,
    #[.func (.yield (B + 4)) #[] #[], .pointer (some ⟨B + 1, 0, none⟩), .pointer (some ⟨B, 0, none⟩), .pointer (some ⟨B + 2, 0, none⟩)], W1, ?_, ?_, fun _ _ => trivial, ?_, fun h => by simp [Fence.wide] at h, ?_⟩
  · have := run_enterLoop_outer (P := Tryd.prog) (w := W0) fn tm #[pt] assign body
    rw [hsz, show B + 3 + 1 = B + 4 from rfl, ← hr, hW1] at this
    exact this
  · simp only [resolve, hg]
    simp [go_sem]
  · simp [invoke, go_sem, enters_of Tryd.func180 (by kernel_rfl) rfl]
  · refine (split1 8 (B + 4) B (B + 1) (B + 2) (fun r W => GJ w B (rec .ready none) r W) (fun W => ∃ r, GJ w B (rec .done (some .ret)) r W) (fun r W h => ⟨h.s, h.sf, h.p, h.v⟩)
      (fun r r' W h => h.write hB r') (fun r W W' h hb => h.grow hB hb) (fun r W h => htw.below h.below) ?_ r0 hr0 W1 hJ).mono ?_
    · intro r W x hj hx
      have hy := run_yield (P := Tryd.prog) (args := #[mkStr x]) hj.l (by rw [hr]; rfl)
      rw [hr] at hy
      have hy2 : (Instr.yield (B + 4) #[mkStr x]).run Tryd.prog W = .ok (.round (B + 4) fn (tm.setIfInBounds pt (mkStr x)) assign body) W := by rw [hy]; simp
      refine ⟨fn, _, assign, body, hy2, roundIn_of_wpIn hfn ?_⟩
      refine hassign _ (mkStr x) W _ ?_
      refine ⟨_, run_beginRound hj.l (by rw [hr]), ?_⟩
      have hj2 := hj.turn hB ({ rec .ready none with state := .busy })
      have hl2 := heap_lt hj2.l
      have hl3 := Nat.lt_trans (show w.heap.size < B + 4 by omega) hl2
      refine wpIn_mono (hbody _ x _ (htw.below hj2.below) hx hl3 hj2.res hj2.resf) ?_
      rintro e a3 W3 (⟨rfl, hn, hb3⟩ | ⟨rfl, hn, W2, hb2, rfl⟩)
      · have hj3 := hj2.grow hB hb3
        have := run_endRound (P := Tryd.prog) none hj3.l
        refine ⟨_, _, this, .inl ⟨rfl, hn, ?_⟩⟩
        have hj4 := hj3.turn hB (rec .ready none)
        rw [hr] at hj4
        rw [hr]
        exact hj4
      · have hj3 := (hj2.grow hB hb2).mark hB
        have := run_endRound (P := Tryd.prog) (some .ret) hj3.l
        refine ⟨_, _, this, .inr ⟨rfl, hn, r, ?_⟩⟩
        have hj4 := hj3.turn hB (rec .done (some .ret))
        simp only [hr] at hj4 ⊢
        exact hj4
    · rintro e W2 ⟨⟨v, rfl⟩, (⟨ha, r, hj⟩ | ⟨ha, r, hj⟩)⟩
      · have := run_endLoop (P := Tryd.prog) hj.l (by rw [hr]; simp)
        exact ⟨_, _, this, by rw [hr]; exact hdone _ _ r ha (hj.turn hB _)⟩
      · have := run_endLoop (P := Tryd.prog) hj.l (by rw [hr]; simp)
        exact ⟨_, _, this, by rw [hr]; exact hstop _ _ r ha (hj.turn hB _)⟩

theorem three_cells {w w' : World} {r : List UInt8} (hb : Below w.heap.size w w') (hB : w.heap.size < w'.heap.size) (c1 : w'.cell? ⟨w.heap.size, 0, none⟩ = some (.bool false)) (c2 : w'.frozen? ⟨w.heap.size, 0, none⟩ = false) (ta tb tc : TypeId) (rec : Loop) :
    GJ w w'.heap.size rec r (((((w'.alloc (.cells #[.string ⟨r.toArray⟩] ta)).alloc (.cells #[.string ⟨#[47]⟩] tb)).alloc (.cells #[.int .i64 0] tc)).alloc (.deferred (some []))).alloc (.loop rec)) := by
  obtain ⟨W1, h1⟩ : ∃ W1, w'.alloc (.cells #[.string ⟨r.toArray⟩] ta) = W1 := ⟨_, rfl⟩
  have a1 := World.alloc_heap_new w' (.cells #[.string ⟨r.toArray⟩] ta)
  have s1 : W1.heap.size = w'.heap.size + 1 := by rw [← h1, World.size_alloc]
  have k1 : ∀ k, k < w'.heap.size → W1.heap[k]? = w'.heap[k]? := fun k hk => by rw [← h1]; exact Below.heap_alloc _ _ _ hk
  rw [h1] at a1 ⊢
  obtain ⟨W2, h2⟩ : ∃ W2, W1.alloc (.cells #[.string ⟨#[47]⟩] tb) = W2 := ⟨_, rfl⟩
  have a2 := World.alloc_heap_new W1 (.cells #[.string ⟨#[47]⟩] tb)
  have s2 : W2.heap.size = w'.heap.size + 2 := by rw [← h2, World.size_alloc, s1]
  have k2 : ∀ k, k < W1.heap.size → W2.heap[k]? = W1.heap[k]? := fun k hk => by rw [← h2]; exact Below.heap_alloc _ _ _ hk
  rw [h2, s1] at a2
  rw [h2]
  obtain ⟨W3, h3⟩ : ∃ W3, W2.alloc (.cells #[.int .i64 0] tc) = W3 := ⟨_, rfl⟩
  have a3 := World.alloc_heap_new W2 (.cells #[.int .i64 0] tc)
  have s3 : W3.heap.size = w'.heap.size + 3 := by rw [← h3, World.size_alloc, s2]
  have k3 : ∀ k, k < W2.heap.size → W3.heap[k]? = W2.heap[k]? := fun k hk => by rw [← h3]; exact Below.heap_alloc _ _ _ hk
  rw [h3, s2] at a3
  rw [h3]
  obtain ⟨W4, h4⟩ : ∃ W4, W3.alloc (.deferred (some [])) = W4 := ⟨_, rfl⟩
  have a4 := World.alloc_heap_new W3 (.deferred (some []))
  have s4 : W4.heap.size = w'.heap.size + 4 := by rw [← h4, World.size_alloc, s3]
  have k4 : ∀ k, k < W3.heap.size → W4.heap[k]? = W3.heap[k]? := fun k hk => by rw [← h4]; exact Below.heap_alloc _ _ _ hk
  rw [h4, s3] at a4
  rw [h4]
  obtain ⟨W5, h5⟩ : ∃ W5, W4.alloc (.loop rec) = W5 := ⟨_, rfl⟩
  have a5 := World.alloc_heap_new W4 (.loop rec)
  have s5 : W5.heap.size = w'.heap.size + 5 := by rw [← h5, World.size_alloc, s4]
  have k5 : ∀ k, k < W4.heap.size → W5.heap[k]? = W4.heap[k]? := fun k hk => by rw [← h5]; exact Below.heap_alloc _ _ _ hk
  rw [h5, s4] at a5
  rw [h5]
  have hbb : Below w'.heap.size w' W5 := by
    rw [← h5, ← h4, ← h3, ← h2, ← h1]
    exact (((((Below.refl _ w').alloc (Nat.le_refl _) _).alloc (by simp) _).alloc (by simp; omega) _).alloc (by simp; omega) _).alloc (by simp; omega) _
  have hk : ∀ k, k < w'.heap.size → W5.heap[k]? = w'.heap[k]? := fun k hk => hbb.block k hk
  have e0 : W5.heap[w'.heap.size]? = some (.cells #[.string ⟨r.toArray⟩] ta) := by rw [k5 _ (by omega), k4 _ (by omega), k3 _ (by omega), k2 _ (by omega)]; exact a1
  have e1 : W5.heap[w'.heap.size + 1]? = some (.cells #[.string ⟨#[47]⟩] tb) := by rw [k5 _ (by omega), k4 _ (by omega), k3 _ (by omega)]; exact a2
  have e2 : W5.heap[w'.heap.size + 2]? = some (.cells #[.int .i64 0] tc) := by rw [k5 _ (by omega), k4 _ (by omega)]; exact a3
  exact ⟨hb.trans (hbb.mono (by omega)), by rw [World.cell?_of_block (hk _ hB)]; exact c1, by rw [World.frozen?_of_block (hk _ hB)]; exact c2,
    by rw [cell_of_cells e0]; rfl, by rw [frozen_cells e0]; rfl, by rw [cell_of_cells e1]; rfl, by rw [cell_of_cells e2]; rfl, by rw [k5 _ (by omega)]; exact a4, a5⟩
theorem good_res (tmps : Array Value) (W : World) (b : Nat) (v : Bool) (ht : tmps.getD 2 undef = .pointer (some ⟨b, 0, none⟩)) (hc : W.cell? ⟨b, 0, none⟩ = some (.bool v)) : (results Tryd.f90 tmps).run Tryd.prog W = .ok (.bool v) W := by
  rw [results_eq, Tryd.results90]
  simp [resVar, ht, go_sem, hc]
theorem cell_new (W : World) (v : Value) (t : TypeId) : (W.alloc (.cells #[v] t)).cell? ⟨W.heap.size, 0, none⟩ = some v ∧ (W.alloc (.cells #[v] t)).frozen? ⟨W.heap.size, 0, none⟩ = false := by
  have e := World.alloc_heap_new W (.cells #[v] t)
  exact ⟨by rw [cell_of_cells e]; rfl, by rw [frozen_cells e]; rfl⟩
set_option maxHeartbeats 4000000 in
theorem good_in (s : List UInt8) (h : okS s) (w : World) (htw : TabsAt w) : CallsIn Fence.wide 9 Tryd.prog 90 #[.string ⟨s.toArray⟩] w fun e w' => e = .returned (.bool (goodP s)) ∧ Below w.heap.size w w' := by
  refine callsIn_of_wp_marks Tryd.func90 rfl trivial ?_ rfl
  simp only [Tryd.ntmps90, List.size_toArray, List.length_cons, List.length_nil, Nat.reduceAdd, Nat.reduceSub, Array.replicate_succ, Array.replicate_zero, List.push_toArray, List.append_toArray, List.nil_append, List.cons_append]
  have hA := cell_new w (.bool false) 4
  have hB := cell_new w (.bool true) 4
  have hbA : Below w.heap.size w (w.alloc (.cells #[.bool false] 4)) := (Below.refl _ w).alloc (Nat.le_refl _) _
  have hbB : Below w.heap.size w (w.alloc (.cells #[.bool true] 4)) := (Below.refl _ w).alloc (Nat.le_refl _) _
  by_cases h1 : s = [47]
  · subst h1
    gi_wp2
    exact ⟨_, good_res _ _ w.heap.size true rfl hB.1, rfl, hbB⟩
  have g1 : goodP s = (decide (s.length ≤ 200) && (decide (1 ≤ s.length ∧ s.take 1 = [47]) && allNamed (s.drop 1))) := by unfold goodP; rw [decide_eq_false h1, Bool.false_or]
  by_cases h2 : 200 < s.length
  · have g2 : goodP s = false := by rw [g1, decide_eq_false (by omega), Bool.false_and]
    gi_wp2
    · rename_i hx; exact absurd (by simpa using hx) h1
    · refine ⟨trivial, ?_⟩
      gi_wp2
      exact ⟨_, good_res _ _ w.heap.size false rfl hA.1, by rw [g2], hbA⟩
  · have g2 : goodP s = (decide (1 ≤ s.length ∧ s.take 1 = [47]) && allNamed (s.drop 1)) := by rw [g1, decide_eq_true (by omega), Bool.true_and]
    gi_wp2
    · rename_i hx; exact absurd (by simpa using hx) h1
    refine ⟨trivial, (callsIn_wide.2 (prefix_calls s h _ (htw.below hbA))).mono ?_⟩
    rintro e w' ⟨rfl, hbl⟩
    have hbl' := hbA.trans (hbl.mono hbA.size)
    have c1 : w'.cell? ⟨w.heap.size, 0, none⟩ = some (.bool false) := by rw [hbl.cell (by simp)]; exact hA.1
    have c2 : w'.frozen? ⟨w.heap.size, 0, none⟩ = false := by rw [hbl.frozen (by simp)]; exact hA.2
    have hszB : w.heap.size < w'.heap.size := by have := hbl.size; simp at this; omega
    by_cases h3 : 1 ≤ s.length ∧ s.take 1 = [47]
    · have g3 : goodP s = allNamed s.tail := by rw [g2, decide_eq_true h3, Bool.true_and, List.drop_one]
      rw [decide_eq_true h3]
      have e1 : (⟨s.toArray⟩ : ByteArray).extract 1 s.length = ⟨s.tail.toArray⟩ := by rw [mk_extract, List.take_of_length_le (by simp), List.drop_one]
      gi_wp2
      refine ⟨trivial, (callsIn_wide.2 (splitSeq_w s.tail w')).mono ?_⟩
      rintro e w2 ⟨rfl, ta, tb, tc, rfl⟩
      gi_wp2
      refine wpIn_split (w := w) (B := w'.heap.size) (fun x => { tmps := #[.string ⟨s.toArray⟩, undef, .pointer (some ⟨w.heap.size, 0, none⟩), x, .string ⟨s.toArray⟩, .bool false, .string ⟨s.toArray⟩, .int .i64 s.length, .bool (decide (200 < (s.length : Int))), .bool (decide (200 < (s.length : Int))), .string ⟨s.toArray⟩, .bool true, .bool false, .bool (decide (200 < (s.length : Int))), .string ⟨s.toArray⟩, .string ⟨s.tail.toArray⟩, .func (.func 180) #[] #[.pointer (some ⟨w'.heap.size + 1, 0, none⟩), .pointer (some ⟨w'.heap.size, 0, none⟩), .pointer (some ⟨w'.heap.size + 2, 0, none⟩)], x, undef, undef, undef], defers := [] })
        hszB htw rfl s.tail (by simp; omega) (by simp [World.size_alloc]) (fun rec => three_cells hbl' hszB c1 c2 _ _ _ _) ?_ ?_ ?_ ?_
      · intro l x W K hK
        gi_wp2
        exact hK
      · intro l x W htW hx hlt q1 q2
        gi_wp2
        refine ⟨trivial, ((callsIn_wide.2 (named_calls x hx W htW)).inRound l).mono ?_⟩
        rintro e w3 ⟨rfl, hb3⟩
        have u1 : w3.cell? ⟨w.heap.size, 0, none⟩ = some (.bool false) := by rw [hb3.cell (by simp only; omega)]; exact q1
        have u2 : w3.frozen? ⟨w.heap.size, 0, none⟩ = false := by rw [hb3.frozen (by simp only; omega)]; exact q2
        by_cases hn : namedP x = true
        · rw [hn]
          gi_wp2
        · rw [Bool.not_eq_true] at hn
          rw [hn]
          gi_wp2
          exact ⟨w3, hb3, rfl⟩
      · intro W rec r ha hj
        have r1 := hj.res
        have r2 := hj.resf
        gi_wp2
        refine ⟨by simp, .inl ⟨_, _, rfl, run_takeDeferred (ds := []) (by rw [Below.heap_setCell _ _ _ _ (by simp only; omega)]; exact hj.d), ?_⟩⟩
        refine ⟨_, good_res _ _ w.heap.size true rfl ?_, by rw [g3, ha], ?_⟩
        · rw [World.cell?_of_block (World.putObj_heap_other (by simp only; omega))]
          exact World.cell?_setCell_same' _ _ _ (by rw [r1]; rfl)
        · exact (hj.below.setCell (by simp) _).trans ⟨rfl, rfl, rfl, by simp, fun k hk => World.putObj_heap_other (by omega)⟩
      · intro W rec r ha hj
        gi_wp2
        refine ⟨by simp, .inl ⟨_, _, rfl, run_takeDeferred (ds := []) hj.d, ?_⟩⟩
        refine ⟨_, good_res _ _ w.heap.size false rfl ?_, by rw [g3, ha], ?_⟩
        · rw [World.cell?_of_block (World.putObj_heap_other (by simp only; omega))]
          exact hj.res
        · exact hj.below.trans ⟨rfl, rfl, rfl, by simp, fun k hk => World.putObj_heap_other (by omega)⟩
    · have g3 : goodP s = false := by rw [g2, decide_eq_false h3, Bool.false_and]
      rw [decide_eq_false h3]
      gi_wp2
      exact ⟨_, good_res _ _ w.heap.size false rfl (World.cell?_setCell_same' _ _ _ (by rw [c1]; rfl)), by rw [g3], hbl'.setCell (by simp) _⟩

/-- A contract of the model's own form, for a function of scalars that may leave new blocks. -/
theorem acall_of_below {P : Program} {g : FuncId} {xs : List AV} {x : AV} {us : List Value} {u : Value} (hg : goFn P g) (hxs : scalL xs = some us) (hx : scalV x = some u)
    (h : ∀ w : World, TabsAt w → Calls P g us.toArray w fun e w' => e = .returned u ∧ Below w.heap.size w w') : acall P [] g xs (ret x) := by
  refine ⟨hg, fun E w vs hw hH hvs => ?_⟩
  have e : vs = us := by
    obtain ⟨h1, h2⟩ := scalL_get hxs
    refine List.ext_getElem? fun j => ?_
    by_cases hj : j < xs.length
    · obtain ⟨u', hu, hs⟩ := h2 j _ (List.getElem?_eq_getElem hj)
      have hv : vs[j]? = some (vs[j]'(by rw [hvs.1]; exact hj)) := List.getElem?_eq_getElem _
      rw [hv, hu, scal_eq (hvs.2 j _ _ (List.getElem?_eq_getElem hj) hv) u' hs]
    · rw [List.getElem?_eq_none (by rw [hvs.1]; omega), List.getElem?_eq_none (by omega)]
  subst e
  refine (h w (hw ▸ E.hT)).mono fun e w' ⟨h1, h2⟩ => ?_
  have h0 : E.ρ0 = [] := List.eq_nil_of_length_eq_zero (by rw [hH.len]; rfl)
  refine ⟨u, x, [], [], h1, ⟨rfl, rfl⟩, ?_, fun k p hk => ?_, scal_rep x u hx⟩
  · rw [h0] at hH; exact hH.below h2
  · rw [h0] at hk; exact hk
theorem good_c (s : List UInt8) (h : okS s) : acall Tryd.prog [] 90 [S s] (ret (B (goodP s))) :=
  acall_of_below ⟨_, Tryd.func90, by kernel_rfl, by kernel_rfl⟩ rfl rfl fun w ht => callsIn_wide.1 (good_in s h w ht)
end Go.Proofs.YtmpfhalheaeibaaDoor
