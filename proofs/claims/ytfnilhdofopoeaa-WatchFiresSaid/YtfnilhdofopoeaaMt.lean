/- What a law's reader hands, as the structs of package api. No condition. -/
import Derived.Test.YtfnilhdofopoeaaMd
import Derived.Test.YtfnilhdofopoeaaZz
namespace Go.Proofs.Ytfnilhdofopoeaa
set_option linter.unusedVariables false
set_option linter.unusedSimpArgs false
open Go Go.RowKit

theorem ty_struct {m : Nat} {t : TypeId} {cs : List DV} {fs : List (Nat × Nat × TypeId)} (hk : (T t).kind = .struct fs) (h : typed T (m + 1) t cs) : typedF (typed T m) fs cs := by
  simp only [typed, hk] at h; exact h
theorem ty_int {m : Nat} {t : TypeId} {cs : List DV} (hk : (T t).kind = .int .i64) (h : typed T (m + 1) t cs) : ∃ n, cs = [.int .i64 n] ∧ okI n := by
  simp only [typed, hk] at h
  obtain ⟨n, rfl, h⟩ := h
  exact ⟨n, rfl, wf_okI h⟩
theorem ty_str {m : Nat} {t : TypeId} {cs : List DV} (hk : (T t).kind = .str) (h : typed T (m + 1) t cs) : ∃ n, cs = [.str n] ∧ okS n := by
  simp only [typed, hk] at h
  exact h
theorem ty_bool {m : Nat} {t : TypeId} {cs : List DV} (hk : (T t).kind = .bool) (h : typed T (m + 1) t cs) : ∃ b, cs = [.bool b] := by
  simp only [typed, hk] at h
  exact h
theorem ty_sl {α : Type} {f : α → List DV} {wf : α → Prop} {m : Nat} {t e : TypeId} {sz by_ : Nat} {cs : List DV} (hk : (T t).kind = .slice e) (hs : (T e).size = sz) (hb : (T e).bytes = by_)
    (h1 : ∀ r, typed T m e r → ∃ x, r = f x ∧ wf x) (h : typed T (m + 1) t cs) : ∃ l : List α, cs = [.sl sz (l.map f)] ∧ l.length * by_ ≤ 140737488351232 ∧ ∀ x, x ∈ l → wf x := by
  simp only [typed, hk, hs, hb] at h
  obtain ⟨rows, rfl, h2, _, h3⟩ := h
  obtain ⟨l, rfl, h4⟩ := list_of_rows fun r hr => h1 r (h3 r hr)
  exact ⟨l, rfl, by simpa using h2, h4⟩

theorem AWatch_typed {m : Nat} {cs : List DV} (h : typed T (m + 2) 29 cs) : ∃ x : AWatch, cs = x.row ∧ x.wf := by
  have h := ty_struct (m := m + 1) (by simp only [T_29, ty29]; rfl) h
  simp only [typedF] at h
  obtain ⟨a0, b0, e0, h0, a1, b1, e1, h1, a2, b2, e2, h2, e⟩ := h
  subst e
  obtain ⟨x0, rfl, w0⟩ := ty_int (m := m) (by simp only [T_3, ty3]) h0
  obtain ⟨x1, rfl, w1⟩ := ty_int (m := m) (by simp only [T_3, ty3]) h1
  obtain ⟨x2, rfl, w2⟩ := ty_str (m := m) (by simp only [T_9, ty9]) h2
  subst e2 e1 e0
  exact ⟨⟨x0, x1, x2⟩, rfl, ⟨w0, w1, w2⟩⟩
theorem AEvent_typed {m : Nat} {cs : List DV} (h : typed T (m + 2) 31 cs) : ∃ x : AEvent, cs = x.row ∧ x.wf := by
  have h := ty_struct (m := m + 1) (by simp only [T_31, ty31]; rfl) h
  simp only [typedF] at h
  obtain ⟨a0, b0, e0, h0, a1, b1, e1, h1, e⟩ := h
  subst e
  obtain ⟨x0, rfl, w0⟩ := ty_int (m := m) (by simp only [T_3, ty3]) h0
  obtain ⟨x1, rfl, w1⟩ := ty_str (m := m) (by simp only [T_9, ty9]) h1
  subst e1 e0
  exact ⟨⟨x0, x1⟩, rfl, ⟨w0, w1⟩⟩
theorem ANote_typed {m : Nat} {cs : List DV} (h : typed T (m + 3) 38 cs) : ∃ x : ANote, cs = x.row ∧ x.wf := by
  have h := ty_struct (m := m + 2) (by simp only [T_38, ty38]; rfl) h
  simp only [typedF] at h
  obtain ⟨a0, b0, e0, h0, a1, b1, e1, h1, e⟩ := h
  subst e
  obtain ⟨x0, rfl, w0⟩ := ty_int (m := m + 1) (by simp only [T_3, ty3]) h0
  obtain ⟨x1, rfl, w1⟩ := AEvent_typed (m := m) h1
  subst e1 e0
  exact ⟨⟨x0, x1⟩, rfl, ⟨w0, w1⟩⟩
end Go.Proofs.Ytfnilhdofopoeaa
