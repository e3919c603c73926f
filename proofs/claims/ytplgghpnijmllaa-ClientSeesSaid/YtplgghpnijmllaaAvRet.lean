/- The rules at calls, in the shape in which a walk takes them; one form of contract for functions that take and return data. It holds over any program. -/
import Derived.Test.YtplgghpnijmllaaAvLaw
import Derived.IntWalk
namespace Go.Proofs.Ytplgghpnijmllaa
open Go Go.RowKit

/-- The result is this; nothing of the call's own is handed out. -/
def ret (x : AV) : AV → List ABlk → Prop := fun v hp => v = x ∧ hp = []

section
variable {P : Program} {hp : List ABlk} {g : FuncId} {xs ys : List AV} {x : AV} {u0 : Value} {K : AV → List ABlk → Prop}

theorem acallH_sc (c : acall P [] g ys (ret x)) (e : frzL hp xs = ys) (hsc : scalV x = some u0) (hf : frzOks hp xs) (hn : noIds ys) {t : Tok K} (hK : K x hp) : acallHK P hp g xs K t := by
  subst e
  exact acallH_scal (c.mono fun v hp' h => h.1) hsc hf hn hK

theorem acallH_scc (c : acall P [] g ys (ret x)) (e : coeL (frzL hp xs) ys) (hsc : scalV x = some u0) (hf : frzOks hp xs) (hn : noIds (frzL hp xs)) {t : Tok K} (hK : K x hp) : acallHK P hp g xs K t :=
  acallH_scal ((c.coe e).mono fun v hp' h => h.1) hsc hf hn hK

theorem acallH_rt (c : acall P [] g ys (ret x)) (e : xs = ys) (hargs : inL 0 ys) (hid : renL (mAt [] hp.length) ys = ys) (hx : renV (renm [] hp.length) x = x) {t : Tok K} (hK : K x hp) : acallHK P hp g xs K t := by
  subst e
  refine acallH_data c hargs hid fun v hp' h => ?_
  obtain ⟨rfl, rfl⟩ := h
  rw [hx]
  simpa [renBs] using hK

theorem acallH_rtc (c : acall P [] g ys (ret x)) (e : coeL xs ys) (hargs : inL 0 xs) (hid : renL (mAt [] hp.length) xs = xs) (hx : renV (renm [] hp.length) x = x) {t : Tok K} (hK : K x hp) : acallHK P hp g xs K t :=
  acallH_rt (c.coe e) rfl hargs hid hx hK

theorem acallQ_sc {K : AV → Prop} (c : acall P [] g ys (ret x)) (e : frzL hp xs = ys) (hsc : scalV x = some u0) (hf : frzOks hp xs) (hn : noIds ys) {t : Tok K} (hK : K x) : acallQK P hp g xs K t := by
  subst e
  exact ⟨x, acallQ_of (c.mono fun v hp' h => h.1) hsc hf hn, hK⟩

theorem aend_ret {T : TypeId → TI} {s : ASt} {e : Exit} {rs : List ResultVar} (he : e = .ret ∨ e = .normal) (h0 : s.np = 0) (h1 : (aresL T s rs).1)
    (h2 : frzOk s.hp (tupOf (aresL T s rs).2)) (h3 : noId (frzV s.hp (tupOf (aresL T s rs).2))) (hR : frzV s.hp (tupOf (aresL T s rs).2) = x) : aend T rs (ret x) e s :=
  aend_data he h0 h1 h2 h3 ⟨hR, rfl⟩

abbrev okI (n : Int) : Prop := -9223372036854775808 ≤ n ∧ n ≤ 9223372036854775807
theorem wrap_in (n : Int) (h : okI n) : IntKind.i64.wrap n = n := by rw [IntKind.wrap_i64]; unfold okI at h; omega
end
end Go.Proofs.Ytplgghpnijmllaa
