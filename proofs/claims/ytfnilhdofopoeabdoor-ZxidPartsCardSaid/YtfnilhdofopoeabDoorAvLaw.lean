/- From a law's contract over pure data to what its row asks. It holds over any program whose types read as the table says. -/
import Derived.Test.YtfnilhdofopoeabDoorAvRead
import Derived.ShutString
import Derived.Carry
import Derived.ProofKit
import Derived.OpenShut
namespace Go.Proofs.YtfnilhdofopoeabDoor
set_option linter.unusedVariables false
set_option linter.unusedSimpArgs false
open Go Go.RowKit Go.ChangeShapes Go.WideShapes Go.ChangeAt

section
variable {H : Type} {enc : TypeId × Value → H} {P : Program} {T : TypeId → TI}

/-- The row's last step where the call has left new memory: the old blocks are as they were. -/
theorem post_below {f : Func} {s : ChangeSpec} {apart fresh handsOn again : Bool} {W W' : World} {args : Array Value} {v : Value} {ds gs : List (DataW H)} {before pa pv : List MemPlace}
    (hW : DataW.Whole enc P f.params.toList s.vars apart W args.toList ds gs before)
    (hres : ∀ (b : Nat) (sp : Nat → Bool) (hd : Bool), DataW.TrodAll enc P W' b sp hd f.resultTypes.toList (v.resultList f.resultTypes.size) (s.fn H (ds ++ gs)).results [])
    (hargs : ∀ sp : Nat → Bool, (∀ p ∈ before, sp p.block = true) → DataW.TrodAll enc P W' 0 sp true f.params.toList args.toList (s.fn H (ds ++ gs)).args pa)
    (hvars : ∀ sp : Nat → Bool, (∀ p ∈ before, sp p.block = true) → DataW.TrodVars enc P W' sp s.vars (s.fn H (ds ++ gs)).vars pv)
    (hps : before = pa ++ pv) (hb : Below W.heap.size W W')
    (hok : ∀ (j : Nat) (t : TypeId) (r : Value), f.resultTypes[j]? = some t → (v.resultList f.resultTypes.size)[j]? = some r → Value.okWide P W' .any 0 t r) :
    s.post enc P f apart fresh handsOn again W args v W' := by
  have hlt : ∀ p ∈ before, p.block < W.heap.size := fun p hp => hW.lt p hp
  have hold : ∀ p ∈ before, (fun b => decide (b < W.heap.size)) p.block = true := fun p hp => by simpa using hlt p hp
  refine ⟨ds, gs, before, [], pa, pv, hW, hres _ _ _, hargs _ hold, hvars _ hold, World.keptBut_mono (fun p hp => ⟨hp, ?_⟩) (hb.frame (· ∈ before)), fun _ => ?_⟩
  · rw [hps, List.mem_append] at hp
    exact Or.inr hp
  · obtain ⟨_, _, _, _, _, hz, hn⟩ := hW
    refine ⟨hok, _, _, ([] ++ pa) ++ pv, ⟨[] ++ pa, pv, trodAll_append (hargs _ (fun _ _ => rfl)) (hres _ _ _), hvars _ (fun _ _ => rfl), rfl, ?_, ?_⟩, ?_⟩
    · intro b off hp
      have hin : MemPlace.cell b off ∈ before := by rw [hps]; simpa using hp
      rw [hb.frozen (hlt _ hin)]
      exact hz b off hin
    · intro ha
      have := hn ha
      rw [hps] at this
      simpa using this
    · intro p hp _
      rw [hps]
      simpa using hp

def aarg (ti : TI) (ds : List DV) : AV :=
  match ti.agg, ds with
  | true, ds => .agg (ds.map .d)
  | false, [x] => .d x
  | false, _ => .any

def typeds (T : TypeId → TI) (m : Nat) : List TypeId → List (List DV) → Prop
  | [], dss => dss = []
  | t :: r, dss => ∃ d ds, dss = d :: ds ∧ typed T m t d ∧ typeds T m r ds

def aargs (T : TypeId → TI) : List TypeId → List (List DV) → List AV
  | t :: r, d :: ds => aarg (T t) d :: aargs T r ds
  | _, _ => []

theorem supp_one (hT : TabOk P T) {m : Nat} {t : TypeId} (hs : supp T m t = true) {W : World} {b0 : Nat} {v : Value} (hval : Value.okWide P W .any b0 t v) :
    ((T t).agg = true ∧ ∃ us, v = .agg us) ∨ ((T t).agg = false ∧ v.cells = #[v] ∧ (T t).size = 1) := by
  cases m with
  | zero => simp [supp] at hs
  | succ m =>
    simp only [supp] at hs
    split at hs
    · rename_i hk
      obtain ⟨b, rfl⟩ := okWide_bool (und_bool hT hk) hval
      exact .inr ⟨by simp [TI.agg, hk], rfl, by simpa using hs⟩
    · rename_i hk
      obtain ⟨b, rfl⟩ := okWide_string (und_str hT hk) hval
      exact .inr ⟨by simp [TI.agg, hk], rfl, by simpa using hs⟩
    · rename_i k hk
      obtain ⟨b, rfl⟩ := okWide_int (und_int hT hk) hval
      exact .inr ⟨by simp [TI.agg, hk], rfl, by simpa using hs⟩
    · rename_i e hk
      obtain ⟨a, l, c, rfl⟩ := okWide_slice (und_slice hT hk) hval
      simp only [Bool.and_eq_true, beq_iff_eq] at hs
      exact .inr ⟨by simp [TI.agg, hk], rfl, hs.1.1⟩
    · rename_i fs hk
      obtain ⟨fields, hu, _⟩ := und_struct hT hk
      simp only [Value.okWide, hu] at hval
      obtain ⟨cs, rfl, _⟩ := hval
      exact .inl ⟨by simp [TI.agg, hk], cs, rfl⟩
    · simp at hs

theorem arg_rep (hT : TabOk P T) {m : Nat} {t : TypeId} (hs : supp T m t = true) {W : World} {b0 : Nat} {v : Value} (hval : Value.okWide P W .any b0 t v) {ok : Nat → Prop} (hok : ∀ b, b < W.heap.size → ok b)
    {d : DataW H} {p : List MemPlace} {base : Nat} {sp : Nat → Bool} {held : Bool} (h : DataW.Trod enc P W base sp held t v d p) (hw : ∀ n, n ∈ d.weights P t → n ≤ reachBytes) : ∃ ds, (typed T m t ds ∧ ∀ c, c ∈ ds → SmallFor d c) ∧ RepV [] ok W (aarg (T t) ds) v := by
  obtain ⟨n, h⟩ := h
  obtain ⟨ds, h1, h2, h3⟩ := trod_data hT m n t _ _ hs h hw
  refine ⟨ds, h1, ?_⟩
  have hmono : ∀ b, b < W.heap.size → ok b ∧ W.heap[b]? = W.heap[b]? := fun b hb => ⟨hok b hb, rfl⟩
  rcases supp_one hT hs hval with ⟨ha, us, rfl⟩ | ⟨ha, hv, hsz⟩
  · simp only [aarg, ha]
    have hl := h2.1
    simp only [Value.cells] at h2 hl
    have := RepV.agg (ρ := []) (ok := ok) (w := W) (ds.map .d) us.toList (by simpa using hl) (fun u hu => ?_) (fun j c u hc hu => ?_)
    · simpa using this
    · obtain ⟨j, hj⟩ := List.mem_iff_getElem?.1 hu
      have hjl : j < ds.length := by rw [← hl]; exact (List.getElem?_eq_some_iff.1 hj).1
      exact (h2.2 j _ u (List.getElem?_eq_getElem hjl) hj).one
    · rw [List.getElem?_map] at hc
      obtain ⟨x, hx, rfl⟩ := Option.map_eq_some_iff.1 hc
      exact .d _ _ ((h2.2 j x u hx hu).mono hmono)
  · rw [hsz] at h3
    match ds, h3, h2 with
    | [x], _, h2 =>
      simp only [aarg, ha]
      rw [hv] at h2
      exact .d _ _ ((h2.2 0 x v rfl rfl).mono hmono)

theorem args_rep (hT : TabOk P T) {m : Nat} {W : World} {b0 : Nat} {ok : Nat → Prop} (hok : ∀ b, b < W.heap.size → ok b) {base : Nat} {sp : Nat → Bool} {held : Bool} :
    ∀ (ts : List TypeId) (vs : List Value) (ds : List (DataW H)) (p : List MemPlace), (ts.all fun t => supp T m t) = true → (∀ (j : Nat) t v, ts[j]? = some t → vs[j]? = some v → Value.okWide P W .any b0 t v) →
    DataW.TrodAll enc P W base sp held ts vs ds p → (∀ n, n ∈ DataW.weightsEach P ts ds → n ≤ reachBytes) → ∃ dss, (typeds T m ts dss ∧ ∀ (bk : Bulk H) (N : Nat), (∀ d, d ∈ ds → bk.b d ≤ N) → ∀ cs, cs ∈ dss → ∀ c, c ∈ cs → SmallD N c) ∧ RepVs [] ok W (aargs T ts dss) vs
  | [], [], [], _, _, _, _, _ => ⟨[], ⟨rfl, by simp⟩, rfl, by simp [aargs]⟩
  | t :: ts, v :: vs, d :: ds, p, hs, hval, h, hw => by
    obtain ⟨p1, p2, h1, h2, _⟩ := h
    simp only [List.all_cons, Bool.and_eq_true] at hs
    obtain ⟨x, a1, a2⟩ := arg_rep hT hs.1 (hval 0 t v rfl rfl) hok h1 (fun n hn => hw n (List.mem_append_left _ hn))
    obtain ⟨xs, b1, b2, b3⟩ := args_rep hT hok ts vs ds p2 hs.2 (fun j t v ht hv => hval (j + 1) t v (by simpa using ht) (by simpa using hv)) h2 (fun n hn => hw n (List.mem_append_right _ hn))
    refine ⟨x :: xs, ⟨⟨x, xs, rfl, a1.1, b1.1⟩, fun bk N hN cs hcs c hc => ?_⟩, by simp [aargs, b2], fun j c u hc hu => ?_⟩
    · rcases List.mem_cons.1 hcs with e | e
      · subst e; exact a1.2 c hc bk N (hN d (List.mem_cons_self ..))
      · exact b1.2 bk N (fun d' hd' => hN d' (List.mem_cons_of_mem _ hd')) cs e c hc
    match j with
    | 0 => simp [aargs] at hc hu; subst hc; subst hu; exact a2
    | j + 1 => exact b3 j c u (by simpa [aargs] using hc) (by simpa using hu)
  | [], [], _ :: _, _, _, _, h, _ => by simp [DataW.TrodAll] at h
  | [], _ :: _, _, _, _, _, h, _ => by simp [DataW.TrodAll] at h
  | _ :: _, [], _, _, _, _, h, _ => by simp [DataW.TrodAll] at h
  | _ :: _, _ :: _, [], _, _, _, h, _ => by simp [DataW.TrodAll] at h

theorem trods_stay (hl : laidOutB P = true) {W W' : World} {sp' : Nat → Bool} (hb : Below W.heap.size W W') : ∀ (ts : List TypeId) (vs : List Value) (ds : List (DataW H)) (p : List MemPlace),
    (∀ t ∈ ts, P.readableRec t = true ∧ t < P.types.size) → (∀ x ∈ p, x.block < W.heap.size) → (∀ x ∈ p, sp' x.block = true) → DataW.TrodAll enc P W 0 (fun _ => true) true ts vs ds p → DataW.TrodAll enc P W' 0 sp' true ts vs ds p
  | [], [], [], _, _, _, _, h => h
  | t :: ts, v :: vs, d :: ds, p, hr, hlt, hs, h => by
    obtain ⟨p1, p2, h1, h2, rfl⟩ := h
    have ht := hr t (by simp)
    exact ⟨p1, p2, WideElems.Trod_stays hl ht.1 ht.2 h1 (fun x hx => hb.same (hlt x (by simp [hx]))) (fun x hx => hs x (by simp [hx])),
      trods_stay hl hb ts vs ds p2 (fun t ht => hr t (by simp [ht])) (fun x hx => hlt x (by simp [hx])) (fun x hx => hs x (by simp [hx])) h2, rfl⟩
  | [], [], _ :: _, _, _, _, _, h => by simp [DataW.TrodAll] at h
  | [], _ :: _, _, _, _, _, _, h => by simp [DataW.TrodAll] at h
  | _ :: _, [], _, _, _, _, _, h => by simp [DataW.TrodAll] at h
  | _ :: _, _ :: _, [], _, _, _, _, h => by simp [DataW.TrodAll] at h

theorem trods_len {W : World} {base : Nat} {sp : Nat → Bool} {held : Bool} : ∀ (ts : List TypeId) (vs : List Value) (ds : List (DataW H)) (p : List MemPlace), DataW.TrodAll enc P W base sp held ts vs ds p → ds.length = ts.length
  | [], [], [], _, _ => rfl
  | _ :: ts, _ :: vs, _ :: ds, _, ⟨_, q, _, h, _⟩ => by simp [trods_len ts vs ds q h]
  | [], [], _ :: _, _, h => by simp [DataW.TrodAll] at h
  | [], _ :: _, _, _, h => by simp [DataW.TrodAll] at h
  | _ :: _, [], _, _, h => by simp [DataW.TrodAll] at h
  | _ :: _, _ :: _, [], _, h => by simp [DataW.TrodAll] at h

theorem law_midS (hT : TabOk P T) (hl : laidOutB P = true) {g : FuncId} {fn : Func} {s : ChangeSpec} {m : Nat} {tb : TypeId}
    (hps : (fn.params.toList.all fun t => supp T m t) = true) (hrd : (fn.params.toList.all fun t => P.readableRec t && decide (t < P.types.size)) = true)
    (hres : fn.resultTypes = #[tb]) (hb : P.underlying tb = some .bool) (hvars : s.vars = [])
    (hs : ∀ ds : List (DataW H), ds.length = fn.params.size → s.fn H ds = { results := [.lit (.bool true)], args := ds })
    {apart fresh handsOn again : Bool} {W : World} {base : Nat} {args : Array Value} {ds gs : List (DataW H)} {before : List MemPlace}
    (hc : ∀ dss, typeds T m fn.params.toList dss → (∀ (bk : Bulk H) (N : Nat), (∀ d, d ∈ ds ++ gs → bk.b d ≤ N) → ∀ cs, cs ∈ dss → ∀ c, c ∈ cs → SmallD N c) → acall P [] g (aargs T fn.params.toList dss) (fun v _ => v = B true))
    (ht : TabsAt W) (hval : ∀ (j : Nat) (t : TypeId) (v : Value), fn.params[j]? = some t → args[j]? = some v → Value.okWide P W .any base t v)
    (hW : DataW.Whole enc P fn.params.toList s.vars apart W args.toList ds gs before)
    (hwt : (DataW.weightsEach P (fn.params.toList ++ s.plain.varTypes P) (ds ++ gs)).all (· ≤ reachBytes) = true) :
    Calls P g args W fun e W' => ∃ v, e = .returned v ∧ s.post enc P fn apart fresh handsOn again W args v W' := by
  have hW' := hW
  obtain ⟨p, q, hA, hV, rfl, hfz, hnd⟩ := hW
  rw [hvars] at hV
  obtain ⟨rfl, rfl⟩ := trodVars_none hV
  have hlen := trods_len _ _ _ _ hA
  let E : Ent := { w0 := W, L0 := fun _ => False, S0 := (· < W.heap.size), ρ0 := [], hS := fun b hb => ⟨hb, fun h => h⟩, hL := fun b hb => hb.elim, hT := ht, hTL := fun _ _ h => h }
  have hH : RepH E [] [] W := ⟨rfl, by simp, by simp, by simp, Fr.refl _ _⟩
  obtain ⟨dss, h1, h2⟩ := args_rep (ok := okB E [] [] W) hT (fun b hb => ⟨.inl hb, hb, fun ⟨k, x, m, hk, _⟩ => by simp at hk⟩) fn.params.toList args.toList ds p hps (fun j t v ht hv => hval j t v (by simpa using ht) (by simpa using hv)) hA
    (fun n hn => by
      have hv0 : s.plain.varTypes P = [] := by simp [DataSpec.varTypes, ChangeSpec.plain, hvars]
      rw [hv0, List.append_nil, List.append_nil] at hwt
      simpa using List.all_eq_true.1 hwt n hn)
  have hcall := (hc dss h1.1 (fun bk N hN => h1.2 bk N fun d hd => hN d (List.mem_append_left _ hd))).2 E W args.toList rfl hH h2
  rw [show args.toList.toArray = args from by simp] at hcall
  refine hcall.mono fun e W' hh => ?_
  obtain ⟨u, v, hp', ρ', rfl, hv, hR, _, hu⟩ := hh
  subst hv
  have hu : u = .bool true := by cases hu with | d _ _ h => cases h; rfl
  subst hu
  have hbel : Below W.heap.size W W' := ⟨hR.fr.os, hR.fr.tape, hR.fr.output, hR.fr.size, fun b hb => hR.fr.block b hb (fun h => h)⟩
  have hsd := hs ds (by simpa using hlen)
  have hlt : ∀ x ∈ p, x.block < W.heap.size := fun x hx => hA.lt x hx
  refine ⟨_, rfl, post_below (pa := p) (pv := []) hW' (fun _ _ _ => ?_) (fun sp hsp => ?_) (fun _ _ => ?_) rfl hbel ?_⟩
  · rw [List.append_nil, hsd, hres]
    exact trodAll_mk1 (shut_bool hb _)
  · rw [List.append_nil, hsd]
    refine trods_stay hl hbel _ _ _ _ (fun t ht => ?_) hlt (fun x hx => hsp x (by simpa using hx)) hA
    have := List.all_eq_true.1 hrd t ht
    simpa using this
  · rw [hvars, List.append_nil, hsd]; rfl
  · rw [hres]
    exact fun j t r hj hr => ok_one (by rw [hres]) rfl (okWide_bool_mk hb _) j t r (by rw [hres]; exact hj) (by rw [hres]; exact hr)
theorem law_mid (hT : TabOk P T) (hl : laidOutB P = true) {g : FuncId} {fn : Func} {s : ChangeSpec} {m : Nat} {tb : TypeId}
    (hps : (fn.params.toList.all fun t => supp T m t) = true) (hrd : (fn.params.toList.all fun t => P.readableRec t && decide (t < P.types.size)) = true)
    (hres : fn.resultTypes = #[tb]) (hb : P.underlying tb = some .bool) (hvars : s.vars = [])
    (hs : ∀ ds : List (DataW H), ds.length = fn.params.size → s.fn H ds = { results := [.lit (.bool true)], args := ds })
    (hc : ∀ dss, typeds T m fn.params.toList dss → acall P [] g (aargs T fn.params.toList dss) (fun v _ => v = B true))
    {apart fresh handsOn again : Bool} {W : World} {base : Nat} {args : Array Value} {ds gs : List (DataW H)} {before : List MemPlace}
    (ht : TabsAt W) (hval : ∀ (j : Nat) (t : TypeId) (v : Value), fn.params[j]? = some t → args[j]? = some v → Value.okWide P W .any base t v)
    (hW : DataW.Whole enc P fn.params.toList s.vars apart W args.toList ds gs before)
    (hwt : (DataW.weightsEach P (fn.params.toList ++ s.plain.varTypes P) (ds ++ gs)).all (· ≤ reachBytes) = true) :
    Calls P g args W fun e W' => ∃ v, e = .returned v ∧ s.post enc P fn apart fresh handsOn again W args v W' :=
  law_midS hT hl hps hrd hres hb hvars hs (fun dss h _ => hc dss h) ht hval hW hwt
end
end Go.Proofs.YtfnilhdofopoeabDoor
