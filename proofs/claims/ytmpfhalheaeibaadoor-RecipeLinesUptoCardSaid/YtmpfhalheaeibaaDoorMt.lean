/- What a law's reader hands, as the structs of package api. No condition. -/
import Derived.Test.YtmpfhalheaeibaaDoorMd
namespace Go.Proofs.YtmpfhalheaeibaaDoor
set_option linter.unusedVariables false
set_option linter.unusedSimpArgs false
open Go Go.RowKit

theorem ty_struct {m : Nat} {t : TypeId} {cs : List DV} {fs : List (Nat × Nat × TypeId)} (hk : (T t).kind = .struct fs) (h : typed T (m + 1) t cs) : typedF (typed T m) fs cs := by
  simp only [typed, hk] at h; exact h
theorem ty_int {m : Nat} {t : TypeId} {cs : List DV} (hk : (T t).kind = .int .i64) (h : typed T (m + 1) t cs) : ∃ n, cs = [.int .i64 n] ∧ okI n := by
  simp only [typed, hk] at h
  obtain ⟨n, rfl, h⟩ := h
  exact ⟨n, rfl, wf_okI h⟩
theorem ty_str {m : Nat} {t : TypeId} {cs : List DV} (hk : (T t).kind = .str) (h : typed T (m + 1) t cs) : ∃ n, cs = [.str n] ∧ okS n := by
  simp only [typed, hk] at h
  exact h
theorem ty_bool {m : Nat} {t : TypeId} {cs : List DV} (hk : (T t).kind = .bool) (h : typed T (m + 1) t cs) : ∃ b, cs = [.bool b] := by
  simp only [typed, hk] at h
  exact h
theorem ty_sl {α : Type} {f : α → List DV} {wf : α → Prop} {m : Nat} {t e : TypeId} {sz by_ : Nat} {cs : List DV} (hk : (T t).kind = .slice e) (hs : (T e).size = sz) (hb : (T e).bytes = by_)
    (h1 : ∀ r, typed T m e r → ∃ x, r = f x ∧ wf x) (h : typed T (m + 1) t cs) : ∃ l : List α, cs = [.sl sz (l.map f)] ∧ l.length * by_ ≤ 140737488351232 ∧ ∀ x, x ∈ l → wf x := by
  simp only [typed, hk, hs, hb] at h
  obtain ⟨rows, rfl, h2, _, h3⟩ := h
  obtain ⟨l, rfl, h4⟩ := list_of_rows fun r hr => h1 r (h3 r hr)
  exact ⟨l, rfl, by simpa using h2, h4⟩

theorem ATxn_typed {m : Nat} {cs : List DV} (h : typed T (m + 2) 26 cs) : ∃ x : ATxn, cs = x.row ∧ x.wf := by
  have h := ty_struct (m := m + 1) (by simp only [T_26, ty26]; rfl) h
  simp only [typedF] at h
  obtain ⟨a0, b0, e0, h0, a1, b1, e1, h1, a2, b2, e2, h2, a3, b3, e3, h3, a4, b4, e4, h4, a5, b5, e5, h5, a6, b6, e6, h6, e⟩ := h
  subst e
  obtain ⟨x0, rfl, w0⟩ := ty_int (m := m) (by simp only [T_3, ty3]) h0
  obtain ⟨x1, rfl, w1⟩ := ty_int (m := m) (by simp only [T_3, ty3]) h1
  obtain ⟨x2, rfl, w2⟩ := ty_int (m := m) (by simp only [T_3, ty3]) h2
  obtain ⟨x3, rfl, w3⟩ := ty_str (m := m) (by simp only [T_9, ty9]) h3
  obtain ⟨x4, rfl, w4⟩ := ty_str (m := m) (by simp only [T_9, ty9]) h4
  obtain ⟨x5, rfl, w5⟩ := ty_int (m := m) (by simp only [T_3, ty3]) h5
  obtain ⟨x6, rfl, w6⟩ := ty_int (m := m) (by simp only [T_3, ty3]) h6
  subst e6 e5 e4 e3 e2 e1 e0
  exact ⟨⟨x0, x1, x2, x3, x4, x5, x6⟩, rfl, ⟨w0, w1, w2, w3, w4, w5, w6⟩⟩
theorem AStat_typed {m : Nat} {cs : List DV} (h : typed T (m + 2) 55 cs) : ∃ x : AStat, cs = x.row ∧ x.wf := by
  have h := ty_struct (m := m + 1) (by simp only [T_55, ty55]; rfl) h
  simp only [typedF] at h
  obtain ⟨a0, b0, e0, h0, a1, b1, e1, h1, a2, b2, e2, h2, a3, b3, e3, h3, a4, b4, e4, h4, a5, b5, e5, h5, a6, b6, e6, h6, e⟩ := h
  subst e
  obtain ⟨x0, rfl, w0⟩ := ty_int (m := m) (by simp only [T_3, ty3]) h0
  obtain ⟨x1, rfl, w1⟩ := ty_int (m := m) (by simp only [T_3, ty3]) h1
  obtain ⟨x2, rfl, w2⟩ := ty_int (m := m) (by simp only [T_3, ty3]) h2
  obtain ⟨x3, rfl, w3⟩ := ty_int (m := m) (by simp only [T_3, ty3]) h3
  obtain ⟨x4, rfl, w4⟩ := ty_int (m := m) (by simp only [T_3, ty3]) h4
  obtain ⟨x5, rfl, w5⟩ := ty_int (m := m) (by simp only [T_3, ty3]) h5
  obtain ⟨x6, rfl, w6⟩ := ty_int (m := m) (by simp only [T_3, ty3]) h6
  subst e6 e5 e4 e3 e2 e1 e0
  exact ⟨⟨x0, x1, x2, x3, x4, x5, x6⟩, rfl, ⟨w0, w1, w2, w3, w4, w5, w6⟩⟩
theorem ANode_typed {m : Nat} {cs : List DV} (h : typed T (m + 3) 57 cs) : ∃ x : ANode, cs = x.row ∧ x.wf := by
  have h := ty_struct (m := m + 2) (by simp only [T_57, ty57]; rfl) h
  simp only [typedF] at h
  obtain ⟨a0, b0, e0, h0, a1, b1, e1, h1, a2, b2, e2, h2, e⟩ := h
  subst e
  obtain ⟨x0, rfl, w0⟩ := ty_str (m := m + 1) (by simp only [T_9, ty9]) h0
  obtain ⟨x1, rfl, w1⟩ := ty_str (m := m + 1) (by simp only [T_9, ty9]) h1
  obtain ⟨x2, rfl, w2⟩ := AStat_typed (m := m) h2
  subst e2 e1 e0
  exact ⟨⟨x0, x1, x2⟩, rfl, ⟨w0, w1, w2⟩⟩
theorem AFile_typed {m : Nat} {cs : List DV} (h : typed T (m + 2) 100 cs) : ∃ x : AFile, cs = x.row ∧ x.wf := by
  have h := ty_struct (m := m + 1) (by simp only [T_100, ty100]; rfl) h
  simp only [typedF] at h
  obtain ⟨a0, b0, e0, h0, a1, b1, e1, h1, a2, b2, e2, h2, e⟩ := h
  subst e
  obtain ⟨x0, rfl, w0⟩ := ty_str (m := m) (by simp only [T_9, ty9]) h0
  obtain ⟨x1, rfl, w1⟩ := ty_str (m := m) (by simp only [T_9, ty9]) h1
  obtain ⟨x2, rfl, w2⟩ := ty_str (m := m) (by simp only [T_9, ty9]) h2
  subst e2 e1 e0
  exact ⟨⟨x0, x1, x2⟩, rfl, ⟨w0, w1, w2⟩⟩
theorem AWatch_typed {m : Nat} {cs : List DV} (h : typed T (m + 2) 195 cs) : ∃ x : AWatch, cs = x.row ∧ x.wf := by
  have h := ty_struct (m := m + 1) (by simp only [T_195, ty195]; rfl) h
  simp only [typedF] at h
  obtain ⟨a0, b0, e0, h0, a1, b1, e1, h1, a2, b2, e2, h2, e⟩ := h
  subst e
  obtain ⟨x0, rfl, w0⟩ := ty_int (m := m) (by simp only [T_3, ty3]) h0
  obtain ⟨x1, rfl, w1⟩ := ty_int (m := m) (by simp only [T_3, ty3]) h1
  obtain ⟨x2, rfl, w2⟩ := ty_str (m := m) (by simp only [T_9, ty9]) h2
  subst e2 e1 e0
  exact ⟨⟨x0, x1, x2⟩, rfl, ⟨w0, w1, w2⟩⟩
theorem AEvent_typed {m : Nat} {cs : List DV} (h : typed T (m + 2) 145 cs) : ∃ x : AEvent, cs = x.row ∧ x.wf := by
  have h := ty_struct (m := m + 1) (by simp only [T_145, ty145]; rfl) h
  simp only [typedF] at h
  obtain ⟨a0, b0, e0, h0, a1, b1, e1, h1, e⟩ := h
  subst e
  obtain ⟨x0, rfl, w0⟩ := ty_int (m := m) (by simp only [T_3, ty3]) h0
  obtain ⟨x1, rfl, w1⟩ := ty_str (m := m) (by simp only [T_9, ty9]) h1
  subst e1 e0
  exact ⟨⟨x0, x1⟩, rfl, ⟨w0, w1⟩⟩
theorem ARequest_typed {m : Nat} {cs : List DV} (h : typed T (m + 2) 81 cs) : ∃ x : ARequest, cs = x.row ∧ x.wf := by
  have h := ty_struct (m := m + 1) (by simp only [T_81, ty81]; rfl) h
  simp only [typedF] at h
  obtain ⟨a0, b0, e0, h0, a1, b1, e1, h1, a2, b2, e2, h2, a3, b3, e3, h3, a4, b4, e4, h4, a5, b5, e5, h5, e⟩ := h
  subst e
  obtain ⟨x0, rfl, w0⟩ := ty_int (m := m) (by simp only [T_3, ty3]) h0
  obtain ⟨x1, rfl, w1⟩ := ty_int (m := m) (by simp only [T_3, ty3]) h1
  obtain ⟨x2, rfl, w2⟩ := ty_str (m := m) (by simp only [T_9, ty9]) h2
  obtain ⟨x3, rfl, w3⟩ := ty_str (m := m) (by simp only [T_9, ty9]) h3
  obtain ⟨x4, rfl, w4⟩ := ty_int (m := m) (by simp only [T_3, ty3]) h4
  obtain ⟨x5, rfl, w5⟩ := ty_int (m := m) (by simp only [T_3, ty3]) h5
  subst e5 e4 e3 e2 e1 e0
  exact ⟨⟨x0, x1, x2, x3, x4, x5⟩, rfl, ⟨w0, w1, w2, w3, w4, w5⟩⟩
theorem ATree_typed {m : Nat} {cs : List DV} (h : typed T (m + 5) 44 cs) : ∃ x : ATree, cs = x.row ∧ x.wf := by
  have h := ty_struct (m := m + 4) (by simp only [T_44, ty44]; rfl) h
  simp only [typedF] at h
  obtain ⟨a0, b0, e0, h0, a1, b1, e1, h1, a2, b2, e2, h2, e⟩ := h
  subst e
  obtain ⟨x0, rfl, w0⟩ := ty_int (m := m + 3) (by simp only [T_3, ty3]) h0
  obtain ⟨x1, rfl, v1, w1⟩ := ty_sl (e := 57) (m := m + 3) (sz := 9) (by_ := 88) (by simp only [T_41, ty41]) (by simp only [T_57, ty57]) (by simp only [T_57, ty57]) (fun r hr => ANode_typed (m := m) hr) h1
  obtain ⟨x2, rfl, v2, w2⟩ := ty_sl (e := 3) (m := m + 3) (sz := 1) (by_ := 8) (by simp only [T_42, ty42]) (by simp only [T_3, ty3]) (by simp only [T_3, ty3]) (f := irow) (fun r hr => ty_int (m := m + 2) (by simp only [T_3, ty3]) hr) h2
  subst e2 e1 e0
  exact ⟨⟨x0, x1, x2⟩, rfl, ⟨w0, ⟨v1, w1⟩, ⟨v2, w2⟩⟩⟩
theorem ADisk_typed {m : Nat} {cs : List DV} (h : typed T (m + 4) 24 cs) : ∃ x : ADisk, cs = x.row ∧ x.wf := by
  have h := ty_struct (m := m + 3) (by simp only [T_24, ty24]; rfl) h
  simp only [typedF] at h
  obtain ⟨a0, b0, e0, h0, e⟩ := h
  subst e
  obtain ⟨x0, rfl, v0, w0⟩ := ty_sl (e := 100) (m := m + 2) (sz := 3) (by_ := 48) (by simp only [T_22, ty22]) (by simp only [T_100, ty100]) (by simp only [T_100, ty100]) (fun r hr => AFile_typed (m := m) hr) h0
  subst e0
  exact ⟨⟨x0⟩, rfl, ⟨v0, w0⟩⟩
theorem APeer_typed {m : Nat} {cs : List DV} (h : typed T (m + 4) 86 cs) : ∃ x : APeer, cs = x.row ∧ x.wf := by
  have h := ty_struct (m := m + 3) (by simp only [T_86, ty86]; rfl) h
  simp only [typedF] at h
  obtain ⟨a0, b0, e0, h0, a1, b1, e1, h1, a2, b2, e2, h2, a3, b3, e3, h3, e⟩ := h
  subst e
  obtain ⟨x0, rfl, w0⟩ := ty_int (m := m + 2) (by simp only [T_3, ty3]) h0
  obtain ⟨x1, rfl, w1⟩ := ty_int (m := m + 2) (by simp only [T_3, ty3]) h1
  obtain ⟨x2, rfl, v2, w2⟩ := ty_sl (e := 26) (m := m + 2) (sz := 7) (by_ := 72) (by simp only [T_27, ty27]) (by simp only [T_26, ty26]) (by simp only [T_26, ty26]) (fun r hr => ATxn_typed (m := m) hr) h2
  obtain ⟨x3, rfl, w3⟩ := ty_int (m := m + 2) (by simp only [T_3, ty3]) h3
  subst e3 e2 e1 e0
  exact ⟨⟨x0, x1, x2, x3⟩, rfl, ⟨w0, w1, ⟨v2, w2⟩, w3⟩⟩
theorem AServer_typed {m : Nat} {cs : List DV} (h : typed T (m + 6) 89 cs) : ∃ x : AServer, cs = x.row ∧ x.wf := by
  have h := ty_struct (m := m + 5) (by simp only [T_89, ty89]; rfl) h
  simp only [typedF] at h
  obtain ⟨a0, b0, e0, h0, a1, b1, e1, h1, a2, b2, e2, h2, a3, b3, e3, h3, a4, b4, e4, h4, e⟩ := h
  subst e
  obtain ⟨x0, rfl⟩ := ty_bool (m := m + 4) (by simp only [T_4, ty4]) h0
  obtain ⟨x1, rfl, w1⟩ := ADisk_typed (m := m + 1) h1
  obtain ⟨x2, rfl, w2⟩ := APeer_typed (m := m + 1) h2
  obtain ⟨x3, rfl, w3⟩ := ATree_typed (m := m) h3
  obtain ⟨x4, rfl, v4, w4⟩ := ty_sl (e := 195) (m := m + 4) (sz := 3) (by_ := 32) (by simp only [T_87, ty87]) (by simp only [T_195, ty195]) (by simp only [T_195, ty195]) (fun r hr => AWatch_typed (m := m + 2) hr) h4
  subst e4 e3 e2 e1 e0
  exact ⟨⟨x0, x1, x2, x3, x4⟩, rfl, ⟨trivial, w1, w2, w3, ⟨v4, w4⟩⟩⟩
end Go.Proofs.YtmpfhalheaeibaaDoor
