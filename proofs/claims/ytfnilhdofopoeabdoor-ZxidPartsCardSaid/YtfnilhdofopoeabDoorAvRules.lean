/- The rules of the abstract walk, one a form of code: what follows stands behind a name while a region is reckoned. It holds over any program whose types read as the table says. -/
import Derived.Test.YtfnilhdofopoeabDoorAvSimp
namespace Go.Proofs.YtfnilhdofopoeabDoor
set_option linter.unusedVariables false
set_option linter.unusedSimpArgs false
open Go Go.RowKit

def blkA (id : Nat) (N : ASt → Prop) (Q : Exit → ASt → Prop) : Exit → ASt → Prop
  | .normal, s => N s
  | .exit i, s => if i = id then N s else Q (.exit i) s
  | e, s => Q e s

section
variable {P : Program} {T : TypeId → TI} {s : ASt} {Q : Exit → ASt → Prop} {x y z : Code} {N : ASt → Prop}

theorem AWP.region {id : Nat} {l : List Oper} (hT : TabOk P T) (h : ∀ K : ASt → Prop, (∀ s', Q .normal s' → K s') → aops P T l.toArray K l s) : AWP P (.region id l.toArray false) s Q := fun _ ρ a w hr =>
  wp_region_lit (aops_sound hT (fun s' ρ' a' w' hs hr' => ⟨s', ρ', hr', hs⟩) l s ρ a w (h _ fun _ hq => hq) hr)

theorem AWP.quiet {id : Nat} {l : List Oper} (hm : P.follows .mixedOrders = true) (hT : TabOk P T) (hB : Region.lexB .any l.toArray = true) (h : ∀ K : ASt → Prop, (∀ s', Q .normal s' → K s') → aopsQ P T l.toArray K l s) :
    AWP P (.region id l.toArray true) s Q := fun E ρ a w hr => by
  refine wp_region_quiet (C := fun w' => Below w.heap.size w w') hm hB ⟨rfl, rfl, rfl, Nat.le_refl _, fun _ _ => rfl⟩ (aopsQ_sound hT (fun s' a' hs hr' => ?_) _ s a (h _ fun _ hq => hq) hr)
  intro w' hb
  exact ⟨s', ρ, hr'.below hb, hs⟩

theorem AWP.cond {c : Operand} {b : Bool} (hc : valA s c = .d (.bool b)) (h1 : b = true → AWP P x s Q) (h2 : b = false → AWP P y s Q) : AWP P (.cond c x y) s Q := fun E ρ a w hr => by
  have h := valA_ok hr c
  rw [hc] at h
  generalize hu : a.eval c = u at h
  cases h with | d _ _ h => cases h with | bool _ =>
  cases b with
  | true => exact wp_cond_true hu (h1 rfl E ρ a w hr)
  | false => exact wp_cond_false hu (h2 rfl E ρ a w hr)

theorem AWP.block {id : Nat} (h : AWP P x s (blkA id (Q .normal) Q)) : AWP P (.block id x) s Q := fun E ρ a w hr => by
  refine wp_block (wpm (h E ρ a w hr) fun e a' w' hh => ?_)
  obtain ⟨s', ρ', hr', hq⟩ := hh
  cases e with
  | exit i =>
    simp only [blkA] at hq
    simp only [Exit.inBlock]
    split
    · rename_i hi; rw [if_pos hi] at hq; exact ⟨s', ρ', hr', hq⟩
    · rename_i hi; rw [if_neg hi] at hq; exact ⟨s', ρ', hr', hq⟩
  | _ => exact ⟨s', ρ', hr', hq⟩

theorem AWP.skip (h : Q .normal s) : AWP P .skip s Q := fun _ ρ _ _ hr => wp_skip ⟨s, ρ, hr, h⟩
theorem AWP.ret (h : Q .ret s) : AWP P .ret s Q := fun _ ρ _ _ hr => wp_ret ⟨s, ρ, hr, h⟩
theorem AWP.exit {id : Nat} (h : Q (.exit id) s) : AWP P (.exit id) s Q := fun _ ρ _ _ hr => wp_exit ⟨s, ρ, hr, h⟩

theorem thenA_n (h : N s) : thenA N Q .normal s := h
theorem thenA_r (h : Q .ret s) : thenA N Q .ret s := h
theorem thenA_e {i : Nat} (h : Q (.exit i) s) : thenA N Q (.exit i) s := h
theorem blkA_n {id : Nat} (h : N s) : blkA id N Q .normal s := h
theorem blkA_r {id : Nat} (h : Q .ret s) : blkA id N Q .ret s := h
theorem blkA_e {id : Nat} (h : N s) : blkA id N Q (.exit id) s := by simp only [blkA, if_true]; exact h
theorem blkA_x {id i : Nat} (hi : i ≠ id) (h : Q (.exit i) s) : blkA id N Q (.exit i) s := by simp only [blkA, if_neg hi]; exact h

/-- A function's end where all that is handed back is data. -/
theorem aend_data {e : Exit} {rs : List ResultVar} {R : AV → List ABlk → Prop} (he : e = .ret ∨ e = .normal) (h0 : s.np = 0) (h1 : (aresL T s rs).1)
    (h2 : frzOk s.hp (tupOf (aresL T s rs).2)) (h3 : noId (frzV s.hp (tupOf (aresL T s rs).2))) (hR : R (frzV s.hp (tupOf (aresL T s rs).2)) []) : aend T rs R e s := by
  have : AOut s.np s.hp (tupOf (aresL T s rs).2) R := by rw [h0]; exact AOut.data h2 h3 hR
  rcases he with rfl | rfl
  · exact ⟨h1, this⟩
  · exact ⟨h1, this⟩
end
end Go.Proofs.YtfnilhdofopoeabDoor
