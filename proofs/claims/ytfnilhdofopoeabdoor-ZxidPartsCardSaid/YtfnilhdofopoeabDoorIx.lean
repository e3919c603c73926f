/- Contracts of searches for a byte in a text, and of a text's beginning. No condition. -/
import Derived.Test.YtfnilhdofopoeabDoorLb
namespace Go.Proofs.YtfnilhdofopoeabDoor
set_option linter.unusedVariables false
set_option linter.unusedSimpArgs false
open Go Go.RowKit
set_option maxRecDepth 100000
set_option linter.unusedSimpArgs false

theorem ext_indexByte {P : Program} {hp : List ABlk} {g : FuncId} {fn : Func} (hf : P.funcs[g]? = some fn) (hn : (fn.name == "runtime.NumGoroutine") = false) (hb : fn.body.isNone = true) (hx : Extern.findNext fn = none)
    (he : Extern.find fn = some Extern.BytealgIndexByte.indexByte) (s : List UInt8) (c : UInt8) : aextQ P hp g [S s, .d (.int .u8 c.toNat)] (I (Lib.indexByte s c)) := by
  intro E ρ w us hH hus
  refine ⟨.int .i64 (Lib.indexByte s c), .d _ _ (.int _ _), fun w' hbl => ?_⟩
  match us, hus with
  | [u, u'], hus =>
    have hu := hus.2 0 _ u rfl rfl
    have hu' := hus.2 1 _ u' rfl rfl
    cases hu with | d _ _ hu => cases hu with | str _ =>
    cases hu' with | d _ _ hu' => cases hu' with | int _ _ =>
    rw [run_callFunc_extern hf hn hb hx he]
    have := Lib.run_indexByteString (P := P) ⟨s.toArray⟩ (c.toNat : Int) w'
    have e : ((c.toNat : Int)).toNat.toUInt8 = c := by simp
    rw [e] at this
    show (Extern.BytealgIndexByte.indexByte #[.string ⟨s.toArray⟩, .int .u8 (c.toNat : Int)] |>.run P w').andThen _ = _
    rw [this]
    rfl

/-- A contract over scalars, in the model's own words: the answer, and that the world has only grown. -/
theorem calls_of_acall {P : Program} {g : FuncId} {xs : List AV} {x : AV} {us : List Value} {u : Value} (c : acall P [] g xs (ret x)) (hxs : scalL xs = some us) (hx : scalV x = some u) (w : World) (ht : TabsAt w) :
    Calls P g us.toArray w fun e w' => e = .returned u ∧ Below w.heap.size w w' := by
  obtain ⟨h1, h2⟩ := scalL_get hxs
  have hH : RepH (⟨w, fun _ => False, fun _ => False, [], by simp, by simp, ht, by simp⟩ : Ent) [] [] w :=
    ⟨rfl, by simp, by simp, by simp, Fr.refl _ _⟩
  refine (c.2 ⟨w, fun _ => False, fun _ => False, [], by simp, by simp, ht, by simp⟩ w us rfl hH ⟨h1, fun j x' u' hx' hu' => ?_⟩).mono fun e w' ⟨u', v, hp', ρ', q1, q2, q3, q4, q5⟩ => ?_
  · obtain ⟨u2, q, hs⟩ := h2 j x' hx'
    rw [hu'] at q; injection q with q; subst q
    exact scal_rep x' u' hs
  · obtain ⟨rfl, rfl⟩ := q2
    exact ⟨by rw [q1, scal_eq q5 u hx], q3.fr.os, q3.fr.tape, q3.fr.output, q3.fr.size, fun k hk => q3.fr.block k hk (by simp)⟩
end Go.Proofs.YtfnilhdofopoeabDoor
