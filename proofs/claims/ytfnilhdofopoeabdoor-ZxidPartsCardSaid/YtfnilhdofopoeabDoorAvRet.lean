/- The rules at calls, in the shape in which a walk takes them; one form of contract for functions that take and return data. It holds over any program. -/
import Derived.Test.YtfnilhdofopoeabDoorAvLaw
import Derived.IntWalk
namespace Go.Proofs.YtfnilhdofopoeabDoor
set_option linter.unusedVariables false
set_option linter.unusedSimpArgs false
open Go Go.RowKit

/-- The result is this; nothing of the call's own is handed out. -/
def ret (x : AV) : AV → List ABlk → Prop := fun v hp => v = x ∧ hp = []

section
variable {P : Program} {hp : List ABlk} {g : FuncId} {xs ys : List AV} {x : AV} {u0 : Value} {K : AV → List ABlk → Prop}

mutual
theorem noId_renV (f : Nat → Nat) : ∀ (x : AV), noId x → renV f x = x ∧ inV 0 x
  | .d _, _ => ⟨rfl, trivial⟩
  | .agg cs, h => ⟨by simp only [renV]; rw [(noIds_renL f cs h).1], (noIds_renL f cs h).2⟩
  | .tup cs, h => ⟨by simp only [renV]; rw [(noIds_renL f cs h).1], (noIds_renL f cs h).2⟩
  | .dp _ _, _ => ⟨rfl, trivial⟩
  | .any, _ => ⟨rfl, trivial⟩
  | .ptr _ _, h => h.elim
  | .rp _ _ _ _, h => h.elim
  | .osl _ _ _ _, h => h.elim
  | .clo _ _ _, h => h.elim
  | .gd _ _, h => h.elim
theorem noIds_renL (f : Nat → Nat) : ∀ (l : List AV), noIds l → renL f l = l ∧ inL 0 l
  | [], _ => ⟨rfl, trivial⟩
  | x :: l, h => ⟨by simp only [renL]; rw [(noId_renV f x h.1).1, (noIds_renL f l h.2).1], (noId_renV f x h.1).2, (noIds_renL f l h.2).2⟩
end

/-- A call whose result is data, or comes with blocks of its own; rows among what it is handed are given up. -/
theorem acallH_any {bl : List ABlk} {np : Nat} {t : Tok K} (c : acall P [] g ys (fun v h => v = x ∧ h = bl)) (hq : np = 0 ∨ idsL xs = []) (e : coeL (frzL hp xs) ys) (hf : frzOks hp xs) (hn : noIds (frzL hp xs))
    (hK : K (renV (renm [] (killIds (idsL xs) hp).length) x) (killIds (idsL xs) hp ++ renBs (renm [] (killIds (idsL xs) hp).length) bl)) : acallHK P np hp g xs K t := by
  have hi := noIds_renL (mAt [] (killIds (idsL xs) hp).length) (frzL hp xs) hn
  have c2 := acallH_data (hp := killIds (idsL xs) hp) (K := K) (c.coe e) hi.2 hi.1 fun v hp' h => by
    obtain ⟨rfl, rfl⟩ := h
    exact hK
  refine .inl ⟨c.1, fun E ρ w us hnp hH hus => ?_⟩
  have hs := HStep.killIds hH (idsL xs)
  have hus' : RepVs ρ (okB E ρ (killIds (idsL xs) hp) w) w (frzL hp xs) us := by
    refine ⟨by rw [frzL_length]; exact hus.1, fun j y u hy hu => ?_⟩
    have hy0 := hy
    rw [frzL_get] at hy
    obtain ⟨z, hz, rfl⟩ := Option.map_eq_some_iff.1 hy
    have hzr := hus.2 j z u hz hu
    rcases hq with h0 | h0
    · exact frz_step hH (List.eq_nil_of_length_eq_zero (by rw [hnp]; exact h0)) hzr (fun k hk => idsL_mem hz hk) (frzOks_get hf hz) (noIds_get hn hy0)
    · have := frz_ids hH.blks (fun b hb => (hs.ok b hb).1) hzr (fun k hk => by have := idsL_mem hz hk; rw [h0] at this; cases this) (frzOks_get hf hz) (noIds_get hn hy0)
      exact noId_rep (fun b hb => ⟨hb, rfl⟩) this (noIds_get hn hy0)
  refine (c2.2 E ρ w us hs.heap hus').mono fun e w' ⟨u, v, hp', ρ', h1, h2, h3, h4⟩ => ⟨u, v, hp', ρ', h1, h2, hs.trans h3, h4⟩

theorem acallH_sc {np : Nat} (c : acall P [] g ys (ret x)) (e : frzL hp xs = ys) (hsc : scalV x = some u0) (hf : frzOks hp xs) (hn : noIds ys) {t : Tok K} (hK : K x hp) : acallHK P np hp g xs K t := by
  subst e
  exact acallHK_of (acallH_scal (c.mono fun v hp' h => h.1) hsc hf hn hK)

theorem acallH_scc {np : Nat} (c : acall P [] g ys (ret x)) (e : coeL (frzL hp xs) ys) (hsc : scalV x = some u0) (hf : frzOks hp xs) (hn : noIds (frzL hp xs)) {t : Tok K} (hK : K x hp) : acallHK P np hp g xs K t :=
  acallHK_of (acallH_scal ((c.coe e).mono fun v hp' h => h.1) hsc hf hn hK)

theorem acallH_rt {np : Nat} (c : acall P [] g ys (ret x)) (e : xs = ys) (hargs : inL 0 ys) (hid : renL (mAt [] hp.length) ys = ys) (hx : renV (renm [] hp.length) x = x) {t : Tok K} (hK : K x hp) : acallHK P np hp g xs K t := by
  subst e
  refine acallHK_of (acallH_data c hargs hid fun v hp' h => ?_)
  obtain ⟨rfl, rfl⟩ := h
  rw [hx]
  simpa [renBs] using hK

theorem acallH_rtc {np : Nat} (c : acall P [] g ys (ret x)) (e : coeL xs ys) (hargs : inL 0 xs) (hid : renL (mAt [] hp.length) xs = xs) (hx : renV (renm [] hp.length) x = x) {t : Tok K} (hK : K x hp) : acallHK P np hp g xs K t :=
  acallH_rt (c.coe e) rfl hargs hid hx hK

theorem acallQ_sc {K : AV → Prop} (c : acall P [] g ys (ret x)) (e : frzL hp xs = ys) (hsc : scalV x = some u0) (hf : frzOks hp xs) (hn : noIds ys) {t : Tok K} (hK : K x) : acallQK P hp g xs K t := by
  subst e
  exact ⟨x, .inl (acallQ_of (c.mono fun v hp' h => h.1) hsc hf hn), hK⟩

theorem aend_ret {T : TypeId → TI} {s : ASt} {e : Exit} {rs : List ResultVar} (he : e = .ret ∨ e = .normal) (h0 : s.np = 0) (h1 : (aresL T s rs).1)
    (h2 : frzOk s.hp (tupOf (aresL T s rs).2)) (h3 : noId (frzV s.hp (tupOf (aresL T s rs).2))) (hR : frzV s.hp (tupOf (aresL T s rs).2) = x) : aend T rs (ret x) e s :=
  aend_data he h0 h1 h2 h3 ⟨hR, rfl⟩

abbrev okI (n : Int) : Prop := -9223372036854775808 ≤ n ∧ n ≤ 9223372036854775807
theorem wrap_in (n : Int) (h : okI n) : IntKind.i64.wrap n = n := by rw [IntKind.wrap_i64]; unfold okI at h; omega
end
end Go.Proofs.YtfnilhdofopoeabDoor
