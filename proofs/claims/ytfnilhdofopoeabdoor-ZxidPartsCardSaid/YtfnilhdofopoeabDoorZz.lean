/- The walk's rules in short: a class that picks the rule by the form of the code, and short names. No condition. -/
import Derived.Test.YtfnilhdofopoeabDoorTy
import Derived.Test.YtfnilhdofopoeabDoorAvAt
namespace Go.Proofs.YtfnilhdofopoeabDoor
set_option linter.unusedVariables false
set_option linter.unusedSimpArgs false
open Go Go.RowKit

/-- What is left of a goal by the rule of its form. -/
class AR (G : Prop) (H : outParam Prop) : Prop where
  f : H → G
section
variable {P : Program} {s : ASt} {Q : Exit → ASt → Prop} {x y : Code} {N : ASt → Prop} {id i : Nat}
instance : AR (AWP P (.seq x y) s Q) (AWP P x s (thenA (fun s' => AWP P y s' Q) Q)) := ⟨AWP.seq⟩
instance : AR (thenA N Q .normal s) (N s) := ⟨thenA_n⟩
instance : AR (thenA N Q .ret s) (Q .ret s) := ⟨thenA_r⟩
instance : AR (thenA N Q (.exit i) s) (Q (.exit i) s) := ⟨thenA_e⟩
instance : AR (blkA id N Q .normal s) (N s) := ⟨blkA_n⟩
instance : AR (blkA id N Q .ret s) (Q .ret s) := ⟨blkA_r⟩
instance : AR (blkA id N Q (.exit id) s) (N s) := ⟨blkA_e⟩
instance : AR (AWP P .skip s Q) (Q .normal s) := ⟨AWP.skip⟩
instance : AR (AWP P .ret s Q) (Q .ret s) := ⟨AWP.ret⟩
instance : AR (AWP P (.exit i) s Q) (Q (.exit i) s) := ⟨AWP.exit⟩
instance : AR (AWP P (.block id x) s Q) (AWP P x s (blkA id (Q .normal) Q)) := ⟨AWP.block⟩
end

/-- A call's way, in a region that is fast or one that is open. -/
class CK (G : Prop) (P : outParam Program) (hp : outParam (List ABlk)) (g : outParam FuncId) (xs : outParam (List AV)) (x : AV) (H : outParam Prop) : Prop where
  sc : ∀ {ys : List AV} {u0 : Value}, acall P [] g ys (ret x) → frzL hp xs = ys → scalV x = some u0 → frzOks hp xs → noIds ys → H → G
  cx : ∀ {ys : List AV} {u0 : Value}, acall P [] g ys (ret x) → scalV x = some u0 → coeL (frzL hp xs) ys ∧ frzOks hp xs ∧ noIds (frzL hp xs) → H → G
section
variable {P : Program} {hp : List ABlk} {g : FuncId} {xs : List AV} {x : AV} {np : Nat}
instance {K : AV → List ABlk → Prop} {t : Tok K} : CK (acallHK P np hp g xs K t) P hp g xs x (K x hp) := ⟨fun c a b d e h => acallH_sc c a b d e h, fun c a b h => acallH_scx c a b h⟩
instance {K : AV → Prop} {t : Tok K} : CK (acallQK P hp g xs K t) P hp g xs x (K x) := ⟨fun c a b d e h => acallQ_sc c a b d e h, fun c a b h => acallQ_scx c a b h⟩
end
section
variable {G H : Prop} {P : Program} {hp : List ABlk} {g : FuncId} {xs ys : List AV} {x : AV} {u0 : Value}
theorem zA (c : acall P [] g ys (ret x)) [k : CK G P hp g xs x H] (a : frzL hp xs = ys) (b : (scalV x).isSome = true) (d : frzOks hp xs) (e : noIds ys) (h : H) : G := by
  obtain ⟨u, hu⟩ := Option.isSome_iff_exists.1 b
  exact k.sc c a hu d e h
theorem zX (c : acall P [] g ys (ret x)) [k : CK G P hp g xs x H] (b : scalV x = some u0) (d : coeL (frzL hp xs) ys ∧ frzOks hp xs ∧ noIds (frzL hp xs)) (h : H) : G := k.cx c b d h
end
section
variable {s : ASt} {Q : Exit → ASt → Prop} {id : Nat} {l : List Oper}
theorem zR (h : ∀ K : ASt → Prop, (∀ s', Q .normal s' → K s') → aops Tryd.prog T l.toArray K l s) : AWP Tryd.prog (.region id l.toArray false) s Q := AWP.region tabOk h
theorem zQ (hB : (calm l.toArray && Region.lexB .any l.toArray) = true) (h : ∀ K : ASt → Prop, (∀ s', Q .normal s' → K s') → aopsQ Tryd.prog T l.toArray K l s) : AWP Tryd.prog (.region id l.toArray true) s Q := AWP.quietC mixed tabOk hB h
theorem zD (hB : drawB l.toArray = true) (h : ∀ K : ASt → Prop, (∀ s', Q .normal s' → K s') → aopsD Tryd.prog T l.toArray K l s) : AWP Tryd.prog (.region id l.toArray true) s Q := AWP.draw mixed tabOk hB h
theorem zE (hB : drawE l.toArray = true) (h : ∀ K : ASt → Prop, (∀ s', Q .normal s' → K s') → aopsD Tryd.prog T l.toArray K (inOrd l) s) : AWP Tryd.prog (.region id l.toArray true) s Q := AWP.drawE mixed tabOk hB h
theorem zG (hB : growB T l.toArray = true) (h : ∀ K : ASt → Prop, (∀ s', Q .normal s' → K s') → aopsG Tryd.prog T l.toArray K (inOrdG l) s) : AWP Tryd.prog (.region id l.toArray true) s Q := AWP.drawG mixed tabOk hB h
theorem zP {ops : Array Oper} (p : Plan) (hB : planB ops p = true) (h : ∀ K : ASt → Prop, (∀ s', Q .normal s' → K s') → aplan Tryd.prog T ops K p s) : AWP Tryd.prog (.region id ops true) s Q := AWP.plan p mixed tabOk hB h
end
theorem zN {P : Program} {g : FuncId} {xs ys : List AV} {x : AV} {hp bl : List ABlk} {np : Nat} {K : AV → List ABlk → Prop} {t : Tok K} (c : acall P [] g ys (fun v h => v = x ∧ h = bl)) (e : xs = ys) (h : idsL xs = [] ∧ frzL hp xs = xs ∧ frzOks hp xs ∧ noIds xs)
    (hK : K (renV (renm [] hp.length) x) (hp ++ renBs (renm [] hp.length) bl)) : acallHK P np hp g xs K t := acallH_anyr c e h hK
class ER (e : Exit) : Prop where
  h : e = .ret ∨ e = .normal
instance : ER .ret := ⟨.inl rfl⟩
instance : ER .normal := ⟨.inr rfl⟩
theorem zF {T : TypeId → TI} {s : ASt} {rs : List ResultVar} {x : AV} {e : Exit} [k : ER e] (h0 : s.np = 0) (h1 : (aresL T s rs).1)
    (h2 : frzOk s.hp (tupOf (aresL T s rs).2)) (h3 : noId (frzV s.hp (tupOf (aresL T s rs).2))) (hR : coeV (frzV s.hp (tupOf (aresL T s rs).2)) x) : aend T rs (ret x) e s := aend_retc k.h h0 h1 h2 h3 hR
theorem zY {P : Program} {g : FuncId} {xs ys : List AV} {x : AV} {hp bl : List ABlk} {np : Nat} {K : AV → List ABlk → Prop} {t : Tok K} (c : acall P [] g ys (fun v h => v = x ∧ h = bl)) (h : (np = 0 ∨ idsL xs = []) ∧ coeL (frzL hp xs) ys ∧ frzOks hp xs ∧ noIds (frzL hp xs))
    (hK : K (renV (renm [] (killIds (idsL xs) hp).length) x) (killIds (idsL xs) hp ++ renBs (renm [] (killIds (idsL xs) hp).length) bl)) : acallHK P np hp g xs K t := acallH_anyx c h hK
theorem zI {g : FuncId} {fn : Func} {c : Code} (hf : Tryd.prog.funcs[g]? = some fn) (hb : fn.body = some c) (hn : (fn.name == "runtime.NumGoroutine") = false)
    {hp : List ABlk} {xs : List AV} {R : AV → List ABlk → Prop} (hx : xs.length ≤ fn.ntmps)
    (h : AWP Tryd.prog c { np := hp.length, nt := fn.ntmps, env := apar 0 xs, hp := hp } (aend T fn.results.toList R)) : acall Tryd.prog hp g xs R := acall_of tabOk hf hb hn hx h
theorem zV (m : List Nat) {np nt : Nat} {env env' : List (Nat × AV)} {hp hp' : List ABlk} (hl : Nat.beq hp'.length m.length = true) (hm : (m.all fun i => Nat.blt i hp.length) = true) (hinj : decide m.Nodup = true) (hpre : ((List.range np).all fun k => m[k]? == some k) = true)
    (he : envLe (mAt m hp.length) m.length env env') (hh : hpLe (mAt m hp.length) m.length hp 0 hp') :
    SImp { np := np, nt := nt, env := env, hp := hp } { np := np, nt := nt, env := env', hp := hp' } :=
  SImp.frame m (Nat.eq_of_beq_eq_true hl) (fun i hi => by have := List.all_eq_true.1 hm i hi; simpa [Nat.blt_eq] using this) (of_decide_eq_true hinj)
    (fun k hk => by have := List.all_eq_true.1 hpre k (List.mem_range.2 hk); simpa using this) he hh
theorem zO {T : TypeId → TI} {s : ASt} {e : Exit} {rs : List ResultVar} {R : AV → List ABlk → Prop} [k : ER e] (h1 : (aresL T s rs).1) (h2 : AOut s.np s.hp (tupOf (aresL T s rs).2) R) : aend T rs R e s := aend_out k.h h1 h2
theorem zj : (∀ a b, (AV.d a = AV.d b) = (a = b)) ∧ (∀ k n k' n', (DV.int k n = DV.int k' n') = (k = k' ∧ n = n')) ∧ (∀ a b, (DV.bool a = DV.bool b) = (a = b)) ∧ (∀ a b, (DV.str a = DV.str b) = (a = b)) ∧ (∀ k n k' n', (DV.sl k n = DV.sl k' n') = (k = k' ∧ n = n')) ∧
    (∀ a b, (AV.tup a = AV.tup b) = (a = b)) ∧ (∀ a b, (AV.agg a = AV.agg b) = (a = b)) ∧ (∀ a b c d a' b' c' d', (AV.osl a b c d = AV.osl a' b' c' d') = (a = a' ∧ b = b' ∧ c = c' ∧ d = d')) ∧ (∀ a b a' b', (AV.ptr a b = AV.ptr a' b') = (a = a' ∧ b = b')) ∧
    (∀ a b c d a' b' c' d', (AV.rp a b c d = AV.rp a' b' c' d') = (a = a' ∧ b = b' ∧ c = c' ∧ d = d')) ∧ (∀ (a b : AV) l m, (a :: l = b :: m) = (a = b ∧ l = m)) ∧ (∀ (a b : DV) l m, (a :: l = b :: m) = (a = b ∧ l = m)) ∧ (∀ (a b : List DV) l m, (a :: l = b :: m) = (a = b ∧ l = m)) ∧ (∀ p : Prop, (p ∧ p) = p) := by simp
end Go.Proofs.YtfnilhdofopoeabDoor
