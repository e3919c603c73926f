/- What a law's reader hands, as the structs of package api. No condition. -/
import Derived.Test.YtfnilhdofopoeabDoorMd
import Derived.Test.YtfnilhdofopoeabDoorZz
namespace Go.Proofs.YtfnilhdofopoeabDoor
set_option linter.unusedVariables false
set_option linter.unusedSimpArgs false
open Go Go.RowKit

theorem ty_struct {m : Nat} {t : TypeId} {cs : List DV} {fs : List (Nat × Nat × TypeId)} (hk : (T t).kind = .struct fs) (h : typed T (m + 1) t cs) : typedF (typed T m) fs cs := by
  simp only [typed, hk] at h; exact h
theorem ty_int {m : Nat} {t : TypeId} {cs : List DV} (hk : (T t).kind = .int .i64) (h : typed T (m + 1) t cs) : ∃ n, cs = [.int .i64 n] ∧ okI n := by
  simp only [typed, hk] at h
  obtain ⟨n, rfl, h⟩ := h
  exact ⟨n, rfl, wf_okI h⟩
theorem ty_str {m : Nat} {t : TypeId} {cs : List DV} (hk : (T t).kind = .str) (h : typed T (m + 1) t cs) : ∃ n, cs = [.str n] ∧ okS n := by
  simp only [typed, hk] at h
  exact h
theorem ty_bool {m : Nat} {t : TypeId} {cs : List DV} (hk : (T t).kind = .bool) (h : typed T (m + 1) t cs) : ∃ b, cs = [.bool b] := by
  simp only [typed, hk] at h
  exact h
theorem ty_sl {α : Type} {f : α → List DV} {wf : α → Prop} {m : Nat} {t e : TypeId} {sz by_ : Nat} {cs : List DV} (hk : (T t).kind = .slice e) (hs : (T e).size = sz) (hb : (T e).bytes = by_)
    (h1 : ∀ r, typed T m e r → ∃ x, r = f x ∧ wf x) (h : typed T (m + 1) t cs) : ∃ l : List α, cs = [.sl sz (l.map f)] ∧ l.length * by_ ≤ 140737488351232 ∧ ∀ x, x ∈ l → wf x := by
  simp only [typed, hk, hs, hb] at h
  obtain ⟨rows, rfl, h2, _, h3⟩ := h
  obtain ⟨l, rfl, h4⟩ := list_of_rows fun r hr => h1 r (h3 r hr)
  exact ⟨l, rfl, by simpa using h2, h4⟩

end Go.Proofs.YtfnilhdofopoeabDoor
